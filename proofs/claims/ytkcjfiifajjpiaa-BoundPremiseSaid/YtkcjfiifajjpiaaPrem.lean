/-
  Contract of bound.Premise.
-/
import Derived.Test.YtkcjfiifajjpiaaEvs
set_option linter.unusedVariables false
set_option linter.unusedSimpArgs false
namespace Go.Proofs.Ytkcjfiifajjpiaa
open Go.RowKit Go.WideShapes Go.ChangeShapes Q

theorem NetAt.bound {w : World} {S : Nat → Prop} {n : Nat} {L : Lay} {x : Net} (h : NetAt w S n L x) : NetAt w (fun q => S q ∧ q < w.heap.size) n L x :=
  ⟨h.head, h.up, h.left, h.path, h.wire, h.ul, h.inj, ⟨h.sn, h.head.lt⟩, ⟨h.su, h.up.lt⟩, ⟨h.sl_, h.left.lt⟩, ⟨h.sp, h.path.lt⟩, fun p hp => ⟨h.sr p hp, (h.wire p hp).lt⟩⟩
def p3 (v : Int × Int × Int) : Value := .tuple #[.int .i64 v.1, .int .i64 v.2.1, .int .i64 v.2.2]
theorem set_bad {n : Nat} {set : List Int} {k : Nat} (hk : k < set.length) (h : nth set k < 0 ∨ (n : Int) ≤ nth set k ∨ (0 < k ∧ nth set k ≤ nth set (k - 1))) : ¬ SetOk n set := fun hs => by
  obtain ⟨h1, h2, h3⟩ := hs k hk
  rcases h with h | h | ⟨h, h'⟩
  · omega
  · omega
  · have := h3 h; omega

set_option maxRecDepth 100000 in
set_option maxHeartbeats 4000000 in
theorem prem_any (nd wn bs st cp rm fl : Int) (vs : List Int) (Av : Option Addr) (kv : Nat) (Ae : Option Addr) (ce : Nat) (l : List El) (As : Option Addr) (cs B : Nat) (set : List Int) (w : World)
    (hv : RI w B Av vs.length vs) (he : EvsIn w B Ae l) (hs : RI w B As set.length set) (hB : B ≤ w.heap.size) (hvl : vs.length ≤ 17592186044416) (hel : l.length ≤ 140737488351232) (hsl : set.length ≤ 140737488351232) :
    Calls Try.prog 18 #[.agg #[.int .i64 nd, .int .i64 wn, .int .i64 bs, .int .i64 st, .int .i64 cp, .int .i64 rm, .int .i64 fl, .slice Av vs.length kv, .slice Ae l.length ce], .slice As set.length cs] w
      fun e w' => e = .returned (p3 (premP ⟨nd, wn, bs, st, cp, rm, fl, vs⟩ set l)) ∧ St (fun _ => False) w w' := by
  have H0 : St (fun _ => False) w (w.alloc (.cells #[.int .i64 nd, .int .i64 wn, .int .i64 bs, .int .i64 st, .int .i64 cp, .int .i64 rm, .int .i64 fl, .slice Av vs.length kv, .slice Ae l.length ce] 33)) := (St.refl _ w).alloc _
  have B0 := Blk.new w 33 #[.int .i64 nd, .int .i64 wn, .int .i64 bs, .int .i64 st, .int .i64 cp, .int .i64 rm, .int .i64 fl, .slice Av vs.length kv, .slice Ae l.length ce]
  have V0 := hv.st H0 (fun q e => e.elim)
  have E0 := he.st H0 (fun q e => e.elim)
  have S0 := hs.st H0 (fun q e => e.elim)
  have HBs := hide (Nat.le_trans hB H0.size)
  clear hv he hs hB
  go_enter Try.func18, Try.ntmps18
  go_upto_region 1 with fail
  obtain ⟨w0, hw0⟩ : ∃ w0, w0 = w.alloc (.cells #[.int .i64 nd, .int .i64 wn, .int .i64 bs, .int .i64 st, .int .i64 cp, .int .i64 rm, .int .i64 fl, .slice Av vs.length kv, .slice Ae l.length ce] 33) := ⟨_, rfl⟩
  rw [← hw0] at H0 B0 V0 E0 S0 HBs ⊢
  have HS0 := hide H0
  have HB0 := hide B0
  have HE0 := hide E0
  have HSE := hide S0
  have HCK : Hid (Calls Try.prog 25 #[.agg #[.int .i64 nd, .int .i64 wn, .int .i64 bs, .int .i64 st, .int .i64 cp, .int .i64 rm, .int .i64 fl, .slice Av vs.length kv]] w0 fun e w' => e = .returned (.int .i64 (Cfg.err ⟨nd, wn, bs, st, cp, rm, fl, vs⟩)) ∧ St (fun _ => False) w0 w') :=
    (check_any nd wn bs st cp rm fl vs Av vs.length kv w0 (V0.more HBs.out) hvl).mono fun e w' hh => ⟨hh.1, by rw [← hh.2]; exact (St.refl _ w0).alloc _⟩
  obtain ⟨z0, z1, z2, z3, z4, z5, z6, z7, z8⟩ : w0.cell? ⟨w.heap.size, 0, none⟩ = some (.int .i64 nd) ∧ w0.cell? ⟨w.heap.size, 1, none⟩ = some (.int .i64 wn) ∧ w0.cell? ⟨w.heap.size, 2, none⟩ = some (.int .i64 bs) ∧ w0.cell? ⟨w.heap.size, 3, none⟩ = some (.int .i64 st) ∧ w0.cell? ⟨w.heap.size, 4, none⟩ = some (.int .i64 cp) ∧ w0.cell? ⟨w.heap.size, 5, none⟩ = some (.int .i64 rm) ∧ w0.cell? ⟨w.heap.size, 6, none⟩ = some (.int .i64 fl) ∧ w0.cell? ⟨w.heap.size, 7, none⟩ = some (.slice Av vs.length kv) ∧ w0.cell? ⟨w.heap.size, 8, none⟩ = some (.slice Ae l.length ce) :=
    ⟨B0.cell 0, B0.cell 1, B0.cell 2, B0.cell 3, B0.cell 4, B0.cell 5, B0.cell 6, B0.cell 7, B0.cell 8⟩
  obtain ⟨ne, hne⟩ : ∃ ne, ne = l.length := ⟨_, rfl⟩
  obtain ⟨ns, hns⟩ : ∃ ns, ns = set.length := ⟨_, rfl⟩
  clear hw0 H0 V0 E0 S0 B0
  by_cases hok : Cfg.Ok ⟨nd, wn, bs, st, cp, rm, fl, vs⟩
  · have he0 := Cfg.err_ok hok
    rw [he0] at HCK
    obtain ⟨n, hn⟩ : ∃ n : Nat, nd = (n : Int) := ⟨nd.toNat, by have : 1 ≤ nd := hok.nodes.1; omega⟩
    subst hn
    have hn1 : 1 ≤ n := by have : 1 ≤ (n : Int) := hok.nodes.1; omega
    have hn2 : n ≤ 16 := by have : (n : Int) ≤ 16 := hok.nodes.2; omega
    have hb1 : 1 ≤ bs := hok.base.1
    have hb2 : bs ≤ 64 := by have h1 : bs ≤ cp := hok.base.2; have h2 : cp ≤ 64 := hok.cap.2; omega
    have HN1 := hide hn1
    clear hok
    by_cases h4 : 4000 < l.length
    · have HP : Hid (premP ⟨(n : Int), wn, bs, st, cp, rm, fl, vs⟩ set l = (0, 0, 25)) := by
        show _ = _
        unfold premP
        rw [if_neg (by rw [he0]; simp)]
        rw [if_pos h4]
      rw [← hne] at hel z8 h4 ⊢
      rw [← hns] at hsl ⊢
      have d1 : decide ((4000 : Int) < (ne : Int)) = true := decide_eq_true (by omega)
      clear hns hne he0 h4
      go_wp2_with (go_at_call 25; refine HCK.out.mono ?_; rintro e w1 ⟨rfl, hs1⟩; have z0' := hs1.only.cell z0 (fun e => e); have z2' := hs1.only.cell z2 (fun e => e); have z6' := hs1.only.cell z6 (fun e => e); have z8' := hs1.only.cell z8 (fun e => e); have HS1 := hide hs1; clear hs1; try clear z0 z1 z2 z3 z4 z5 z6 z7 z8)
      refine bodyPost_ret (results_tmp3 rfl _ _ _) rfl ?_
      exact ⟨by rw [HP.out]; rfl, HS0.out.trans HS1.out⟩
    · by_cases h5 : set = []
      · have HP : Hid (premP ⟨(n : Int), wn, bs, st, cp, rm, fl, vs⟩ set l = (0, 0, 1)) := by
          show _ = _
          unfold premP
          rw [if_neg (by rw [he0]; simp)]
          rw [if_neg h4, if_pos (.inl h5)]
        rw [← hne] at hel z8 h4 ⊢
        have hns0 : ns = 0 := by rw [hns, h5]; rfl
        rw [← hns] at hsl ⊢
        subst hns0
        have d1 : decide ((4000 : Int) < (ne : Int)) = false := decide_eq_false (by omega)
        clear hns hne he0 h4 h5
        go_wp2_with (go_at_call 25; refine HCK.out.mono ?_; rintro e w1 ⟨rfl, hs1⟩; have z0' := hs1.only.cell z0 (fun e => e); have z2' := hs1.only.cell z2 (fun e => e); have z6' := hs1.only.cell z6 (fun e => e); have z8' := hs1.only.cell z8 (fun e => e); have HS1 := hide hs1; clear hs1; try clear z0 z1 z2 z3 z4 z5 z6 z7 z8)
        refine bodyPost_ret (results_tmp3 rfl _ _ _) rfl ?_
        exact ⟨by rw [HP.out]; rfl, HS0.out.trans HS1.out⟩
      · have hns1 : 0 < set.length := List.length_pos_iff.2 h5
        by_cases h6 : 2305843009213693952 < fl
        · have HP : Hid (premP ⟨(n : Int), wn, bs, st, cp, rm, fl, vs⟩ set l = (0, 0, 1)) := by
            show _ = _
            unfold premP
            rw [if_neg (by rw [he0]; simp)]
            rw [if_neg h4, if_pos (.inr h6)]
          rw [← hne] at hel z8 h4 ⊢
          rw [← hns] at hsl hns1 ⊢
          have d1 : decide ((4000 : Int) < (ne : Int)) = false := decide_eq_false (by omega)
          have d2 : ((ns : Int) == 0) = false := by rw [beq_eq_false_iff_ne]; omega
          have d3 : decide ((2305843009213693952 : Int) < fl) = true := decide_eq_true h6
          clear hns hne he0 h4 h5 h6
          go_wp2_with (go_at_call 25; refine HCK.out.mono ?_; rintro e w1 ⟨rfl, hs1⟩; have z0' := hs1.only.cell z0 (fun e => e); have z2' := hs1.only.cell z2 (fun e => e); have z6' := hs1.only.cell z6 (fun e => e); have z8' := hs1.only.cell z8 (fun e => e); have HS1 := hide hs1; clear hs1; try clear z0 z1 z2 z3 z4 z5 z6 z7 z8)
          refine bodyPost_ret (results_tmp3 rfl _ _ _) rfl ?_
          exact ⟨by rw [HP.out]; rfl, HS0.out.trans HS1.out⟩
        · have HPB : Hid (¬ SetOk n set → premP ⟨(n : Int), wn, bs, st, cp, rm, fl, vs⟩ set l = (0, 0, 1)) := fun hb => by
            unfold premP
            rw [if_neg (by rw [he0]; simp), if_neg h4, if_neg (fun h => h.elim h5 h6), if_pos (by simpa using hb)]
          have HPG : Hid (SetOk n set → (runP n (inK set set.length) bs l l.length).d = 0 → premP ⟨(n : Int), wn, bs, st, cp, rm, fl, vs⟩ set l = (0, 0, 180)) := fun hg hd => by
            unfold premP
            rw [if_neg (by rw [he0]; simp), if_neg h4, if_neg (fun h => h.elim h5 h6), if_neg (by simpa using hg)]
            show (if (runP n (inK set set.length) bs l l.length).d = 0 then _ else _) = _
            rw [if_pos hd]
          have HPH : Hid (SetOk n set → (runP n (inK set set.length) bs l l.length).d ≠ 0 → premP ⟨(n : Int), wn, bs, st, cp, rm, fl, vs⟩ set l = ((runP n (inK set set.length) bs l l.length).t, (runP n (inK set set.length) bs l l.length).d, 0)) := fun hg hd => by
            unfold premP
            rw [if_neg (by rw [he0]; simp), if_neg h4, if_neg (fun h => h.elim h5 h6), if_neg (by simpa using hg)]
            show (if (runP n (inK set set.length) bs l l.length).d = 0 then _ else _) = _
            rw [if_neg hd]
            rfl
          rw [← hne] at hel z8 h4 ⊢
          rw [← hns] at hsl hns1 ⊢
          have d1 : decide ((4000 : Int) < (ne : Int)) = false := decide_eq_false (by omega)
          have d2 : ((ns : Int) == 0) = false := by rw [beq_eq_false_iff_ne]; omega
          have d3 : decide ((2305843009213693952 : Int) < fl) = false := decide_eq_false h6
          have HNS := hide hns
          have HNE := hide hne
          have hmk := make58 n (by omega)
          clear hns hne he0 h5 h6
          go_upto_region 8 with (first | (go_at_call 25; refine HCK.out.mono ?_; rintro e w1 ⟨rfl, hs1⟩; have z0' := hs1.only.cell z0 (fun e => e); have z2' := hs1.only.cell z2 (fun e => e); have z6' := hs1.only.cell z6 (fun e => e); have z8' := hs1.only.cell z8 (fun e => e); have HS1 := hide hs1; clear hs1; try clear z0 z1 z2 z3 z4 z5 z6 z7 z8) | (simp only [hmk]))
          obtain ⟨w2, hw2⟩ : ∃ w2, w2 = w1.alloc (.cells (tab n (bools fun _ => false)) 4) := ⟨_, rfl⟩
          obtain ⟨ib, hib⟩ : ∃ ib, ib = w1.heap.size := ⟨_, rfl⟩
          have HIB : Hid (Blk w2 ib 4 (tab n (bools (inK set 0)))) := by
            rw [hw2, hib, inK_zero]
            exact Blk.new w1 4 _
          have e12 : St (fun _ => False) w1 w2 := by rw [hw2]; exact (St.refl _ w1).alloc _
          have HS2 := hide ((HS0.out.trans HS1.out).trans e12)
          have HB2 := hide (HB0.out.st (HS1.out.trans e12) (fun e => e))
          have HE2 := hide (HE0.out.st (HS1.out.trans e12) (fun q e => e.elim))
          have HSE2 := hide (HSE.out.st (HS1.out.trans e12) (fun q e => e.elim))
          have HIBs : Hid (B ≤ ib ∧ w0.heap.size ≤ ib) := by
            have h1 := HBs.out
            have h2 := HS1.out.size
            exact ⟨by omega, by omega⟩
          rw [← hw2, ← hib]
          rw [← HNS.out] at HSE2
          have HOKS : Hid (∀ V, St (fun q => q = ib) w2 V → St (fun _ => False) w V) := fun V hV => HS2.out.trans' hV fun q hq e => by
            have h1 := HIBs.out.2
            have h2 := HB0.out.lt
            have h3 := HS0.out.size
            omega
          have HFIN : Hid (∀ V, St (fun q => q = ib) w2 V → St (fun _ => False) w V) := HOKS.out
          clear hw2 hib e12 z0' z2' z6' z8' HS1 HE0 HSE HCK hmk d1 d2 d3
          go_wp2_with fail
          go_loopw [42] (fun i wr => ∃ k : Nat, k ≤ ns ∧ i = .int .i64 k ∧ Hid (∀ j, j < k → 0 ≤ nth set j ∧ nth set j < n ∧ (0 < j → nth set (j - 1) < nth set j)) ∧ Hid (Blk wr ib 4 (tab n (bools (inK set k)))) ∧ Hid (St (fun q => q = ib) w2 wr)) (fun i _ => ns - (intOf i).toNat)
          case atStart => exact ⟨0, Nat.zero_le _, rfl, fun j hj => absurd hj (by omega), HIB.out, St.refl _ w2⟩
          case round =>
            obtain ⟨k, hk, rfl, hgood, hblk, hst⟩ := hrel
            by_cases hlt : k < ns
            · have hq : RI wr B As ns set := HSE2.out.st hst.out fun q e => by rw [e]; exact HIBs.out.1
              obtain ⟨ad, rfl, _, zk⟩ := hq.at_ hlt
              have i0 : (0 : Int) ≤ (k : Int) := by omega
              have i1 : (k : Int) < (ns : Int) := by omega
              have hlen : k < set.length := by have := HNS.out; omega
              by_cases v1 : nth set k < 0
              · have HBAD := hide (HPB.out (set_bad hlen (.inl v1)))
                have d1 : decide (nth set k < 0) = true := decide_eq_true v1
                clear hq v1
                generalize nth set k = v at *
                go_wp2_with fail
                refine bodyPost_ret (results_tmp3 rfl _ _ _) rfl ?_
                exact ⟨by rw [HBAD.out]; rfl, HFIN.out wr hst.out⟩
              · by_cases v2 : (n : Int) ≤ nth set k
                · have HBAD := hide (HPB.out (set_bad hlen (.inr (.inl v2))))
                  have d1 : decide (nth set k < 0) = false := decide_eq_false v1
                  have d2 : decide ((n : Int) ≤ nth set k) = true := decide_eq_true v2
                  clear hq v1 v2
                  generalize nth set k = v at *
                  go_wp2_with fail
                  refine bodyPost_ret (results_tmp3 rfl _ _ _) rfl ?_
                  exact ⟨by rw [HBAD.out]; rfl, HFIN.out wr hst.out⟩
                · have d1 : decide (nth set k < 0) = false := decide_eq_false v1
                  have d2 : decide ((n : Int) ≤ nth set k) = false := decide_eq_false v2
                  have hnext : (0 < k → nth set (k - 1) < nth set k) → Hid (∀ j, j < k + 1 → 0 ≤ nth set j ∧ nth set j < n ∧ (0 < j → nth set (j - 1) < nth set j)) := fun h j hj => by
                    by_cases e : j = k
                    · subst e; exact ⟨by omega, by omega, h⟩
                    · exact hgood.out j (by omega)
                  obtain ⟨i, hi⟩ : ∃ i : Nat, nth set k = (i : Int) := ⟨(nth set k).toNat, by omega⟩
                  have hin : i < n := by omega
                  have HSTEP : Hid (tab n (bools (inK set (k + 1))) = tab n (bools (up1 (inK set k) i true))) := by
                    show _ = _
                    rw [inK_succ set k i hlen hi]
                  have fi := hblk.out.frozen i
                  have ci : wr.cell? ⟨ib, i, none⟩ = some (.bool (inK set k i)) := by rw [hblk.out.cell, tab_get _ _ _ hin]; rfl
                  have ix0 : (0 : Int) ≤ (i : Int) := by omega
                  have ix1 : (i : Int) < (n : Int) := by omega
                  rcases Nat.eq_zero_or_pos k with k0 | k0
                  · have HNX := hnext (fun h => absurd h (by omega))
                    have d3 : decide (0 < k) = false := decide_eq_false (by omega)
                    have d5 : decide (n ≤ i) = false := decide_eq_false (by omega)
                    rw [hi] at zk d1 d2
                    clear hq v1 v2 hnext hi k0
                    go_wp2_with fail
                    generalize hgw : World.setCell _ _ _ = w3
                    have HB3 : Hid (Blk w3 ib 4 (tab n (bools (inK set (k + 1))))) := by
                      rw [← hgw, HSTEP.out, ← bools_set]
                      exact hblk.out.set_ i _
                    have HS3 : Hid (St (fun q => q = ib) w2 w3) := by
                      rw [← hgw]
                      exact hst.out.setCell hblk.out (by unfold Num35; decide) (fun _ => rfl) _
                    clear hgw
                    go_roundw
                    case rel => first | exact ⟨k + 1, by omega, by go_num, HNX, HB3, HS3⟩ | ((repeat apply Exists.intro); exact ⟨⟨k + 1, by omega, by go_num, HNX, HB3, HS3⟩, rfl⟩)
                    case measure => simp [intOf]; omega
                  · obtain ⟨k', hk'⟩ : ∃ k' : Nat, k' = k - 1 := ⟨_, rfl⟩
                    have hlt' : k' < ns := by omega
                    obtain ⟨ad', e', _, zp⟩ := hq.at_ hlt'
                    injection e' with e'
                    subst e'
                    have wz : IntKind.i64.wrap ((k : Int) - 1) = (k' : Int) := (IntWalk.i64_in _ (by constructor <;> omega)).trans (by omega)
                    have p0 : (0 : Int) ≤ (k' : Int) := by omega
                    have p1 : (k' : Int) < (ns : Int) := by omega
                    have d3 : decide (0 < k) = true := decide_eq_true k0
                    have d5 : decide (n ≤ i) = false := decide_eq_false (by omega)
                    by_cases v3 : nth set k ≤ nth set k'
                    · have HBAD := hide (HPB.out (set_bad hlen (.inr (.inr ⟨k0, by rw [← hk']; exact v3⟩))))
                      rw [hi] at v3 zk d1 d2
                      have d4 : decide ((i : Int) ≤ nth set k') = true := decide_eq_true v3
                      clear hq v1 v2 v3 hnext hi k0 hk'
                      generalize nth set k' = v' at *
                      go_wp2_with fail
                      refine bodyPost_ret (results_tmp3 rfl _ _ _) rfl ?_
                      exact ⟨by rw [HBAD.out]; rfl, HFIN.out wr hst.out⟩
                    · have HNX := hnext (fun _ => by rw [← hk']; omega)
                      rw [hi] at v3 zk d1 d2
                      have d4 : decide ((i : Int) ≤ nth set k') = false := decide_eq_false v3
                      clear hq v1 v2 v3 hnext hi k0 hk'
                      generalize nth set k' = v' at *
                      go_wp2_with fail
                      generalize hgw : World.setCell _ _ _ = w3
                      have HB3 : Hid (Blk w3 ib 4 (tab n (bools (inK set (k + 1))))) := by
                        rw [← hgw, HSTEP.out, ← bools_set]
                        exact hblk.out.set_ i _
                      have HS3 : Hid (St (fun q => q = ib) w2 w3) := by
                        rw [← hgw]
                        exact hst.out.setCell hblk.out (by unfold Num35; decide) (fun _ => rfl) _
                      clear hgw
                      go_roundw
                      case rel => first | exact ⟨k + 1, by omega, by go_num, HNX, HB3, HS3⟩ | ((repeat apply Exists.intro); exact ⟨⟨k + 1, by omega, by go_num, HNX, HB3, HS3⟩, rfl⟩)
                      case measure => simp [intOf]; omega
            · obtain rfl : k = ns := by omega
              have HSO : Hid (SetOk n set) := fun j hj => hgood.out j (by rw [HNS.out]; exact hj)
              have HINS : Hid (Blk wr ib 4 (tab n (bools (inK set set.length)))) := by rw [← HNS.out]; exact hblk.out
              obtain ⟨ins, hins⟩ : ∃ ins, ins = inK set set.length := ⟨_, rfl⟩
              rw [← hins] at HINS HPG HPH
              have HST := hide hst.out
              have HNW := hide (newnet_any n wr hn2)
              have hibl : ib < wr.heap.size := hblk.out.lt
              have HLE := hide (Nat.le_trans HIBs.out.1 (Nat.le_of_lt hibl))
              have hbox : Blk wr w.heap.size 33 #[.int .i64 (n : Int), .int .i64 wn, .int .i64 bs, .int .i64 st, .int .i64 cp, .int .i64 rm, .int .i64 fl, .slice Av vs.length kv, .slice Ae l.length ce] := HB2.out.st hst.out fun e => by have h1 := HIBs.out.2; have h2 := HB0.out.lt; omega
              have HBOX := hide hbox
              have HEV : Hid (EvsIn wr B Ae l) := HE2.out.st hst.out fun q e => by rw [e]; exact HIBs.out.1
              have hbsb : -9223372036854775808 ≤ bs ∧ bs ≤ 9223372036854775807 := by constructor <;> omega
              have HBSB := hide hbsb
              have HIL := hide hibl
              clear hins hgood hblk hst hibl hbox hbsb HIB HB2 HE2 HSE2 HOKS HPB
              obtain ⟨W1, hW1⟩ : ∃ W1, W1 = wr := ⟨_, rfl⟩
              rw [← hW1] at HINS HST HNW HLE HBOX HEV HIL ⊢
              clear hW1
              go_upto_region 17 with (first
                | (go_at_call 30; refine HNW.out.mono ?_; rintro e w3 ⟨L, rfl, hn3, hs3⟩; have c2 : w3.cell? ⟨w.heap.size, 2, none⟩ = some (.int .i64 bs) := (HBOX.out.st hs3 (fun e => e)).cell 2; have HAL := hide (alone_any n ib L net0 _ ins bs w3 hn3 (HINS.out.st hs3 (fun e => e)) (Slow.net0 n) hn2 HBSB.out); have HN3 := hide hn3.bound; have HS3 := hide hs3; clear hn3 hs3)
                | (go_at_call 31; refine HAL.out.mono ?_; rintro e w4 ⟨rfl, hs4⟩; have HS4 := hide hs4; clear hs4))
              have e14 : St (fun _ => False) W1 w4 := HS3.out.trans HS4.out
              have HN4 := hide (HN3.out.quiet HS4.out)
              have c8 : w4.cell? ⟨w.heap.size, 8, none⟩ = some (.slice Ae ne ce) := by
                have h := (HBOX.out.st e14 (fun e => e)).cell 8
                rw [HNE.out]
                exact h
              have HEV4 := hide (HEV.out.st e14 (fun q e => e.elim))
              have HINS4 := hide (HINS.out.st e14 (fun e => e))
              have HBOX4 := hide (HBOX.out.st e14 (fun e => e))
              have HFIN4 := hide ((HFIN.out W1 HST.out).trans e14)
              have HSXB : Hid (∀ q, (W1.heap.size ≤ q ∧ q < w3.heap.size) → B ≤ q) := fun q h => Nat.le_trans HLE.out h.1
              have HIBX : Hid (¬ (W1.heap.size ≤ ib ∧ ib < w3.heap.size)) := fun h => by have := HIL.out; omega
              have HBXX : Hid (¬ (W1.heap.size ≤ w.heap.size ∧ w.heap.size < w3.heap.size)) := fun h => by
                have h1 := HBOX.out.lt
                omega
              have HWW : Hid (w.heap.size ≤ W1.heap.size) := Nat.le_of_lt HBOX.out.lt
              have h4b : ne ≤ 4000 := by omega
              have HS34 : Hid (w3.heap.size ≤ w4.heap.size) := HS4.out.size
              clear e14 c2 HEV HINS HBOX HNW HAL HN3 HS4 hlt
              go_wp2_with fail
              clear c8
              go_loopw [11, 12, 84] (fun t d i wr => ∃ j : Nat, j ≤ ne ∧ i = .int .i64 j ∧ t = .int .i64 (runP n ins bs l j).t ∧ d = .int .i64 (runP n ins bs l j).d ∧ Hid (NetAt wr (fun q => W1.heap.size ≤ q ∧ q < w3.heap.size) n L (runP n ins bs l j).x) ∧ Hid (St (fun q => W1.heap.size ≤ q ∧ q < w3.heap.size) w4 wr)) (fun _ _ i _ => ne - (intOf i).toNat)
              case atStart => exact ⟨0, Nat.zero_le _, rfl, rfl, rfl, HN4, St.refl _ w4⟩
              case round =>
                obtain ⟨j, hj, rfl, rfl, rfl, hnet, hst⟩ := hrel
                by_cases hlt : j < ne
                · have hev := HEV4.out.st hst.out HSXB.out
                  obtain ⟨x, b, off, hx, rfl, hb, hgd, e0, e1, e2, e3, e4, e5, e6, e7, e8, e9, e10, e11, e12⟩ := hev.at_ (k := j) (by rw [← HNE.out]; exact hlt)
                  unfold El.sides at e12
                  unfold El.body at e4
                  obtain ⟨hb1', hb2', hb3', hb4', hb5'⟩ := runP_b n ins bs l j
                  have hnx := runP_succ (n := n) (ins := ins) (most := bs) hx
                  have HNX := hide hnx
                  have HGD := hide hgd
                  have HSL := hide hb1'
                  obtain ⟨s, hs⟩ : ∃ s, s = runP n ins bs l j := ⟨_, rfl⟩
                  rw [← hs] at hb2' hb3' hb4' hb5' HSL HNX hnet ⊢
                  obtain ⟨sx, st', sd⟩ := s
                  simp only [] at hb2' hb3' hb4' hb5' HSL hnet ⊢
                  have i0 : (0 : Int) ≤ (j : Int) := by omega
                  have i1 : (j : Int) < (ne : Int) := by omega
                  clear hev hx hnx hgd hb1' hs hb
                  go_upto_region 20 with fail
                  have HEB : Hid (Blk (wr.alloc (.cells #[.int .i64 x.k, .int .i64 x.a, .int .i64 x.b, .int .i64 x.n, .slice x.bA x.bz.length x.bc, .int .i64 x.c1, .int .i64 x.c2, .int .i64 x.c3, .int .i64 x.c4, .string x.s1, .string x.s2, .string x.s3, .slice x.A x.zs.length x.c] 45)) wr.heap.size 45 #[.int .i64 x.k, .int .i64 x.a, .int .i64 x.b, .int .i64 x.n, .slice x.bA x.bz.length x.bc, .int .i64 x.c1, .int .i64 x.c2, .int .i64 x.c3, .int .i64 x.c4, .string x.s1, .string x.s2, .string x.s3, .slice x.A x.zs.length x.c]) := Blk.new wr 45 _
                  have eal : St (fun _ => False) wr (wr.alloc (.cells #[.int .i64 x.k, .int .i64 x.a, .int .i64 x.b, .int .i64 x.n, .slice x.bA x.bz.length x.bc, .int .i64 x.c1, .int .i64 x.c2, .int .i64 x.c3, .int .i64 x.c4, .string x.s1, .string x.s2, .string x.s3, .slice x.A x.zs.length x.c] 45)) := (St.refl _ wr).alloc _
                  have HNT := hide (hnet.out.quiet eal)
                  have HSE4 : Hid (St (fun q => W1.heap.size ≤ q ∧ q < w3.heap.size) w4 (wr.alloc (.cells #[.int .i64 x.k, .int .i64 x.a, .int .i64 x.b, .int .i64 x.n, .slice x.bA x.bz.length x.bc, .int .i64 x.c1, .int .i64 x.c2, .int .i64 x.c3, .int .i64 x.c4, .string x.s1, .string x.s2, .string x.s3, .slice x.A x.zs.length x.c] 45))) := hst.out.trans (eal.mono fun _ _ e => e.elim)
                  have HRZ := hide (HGD.out.1.st eal (fun q e => e.elim))
                  have HEX : Hid (¬ (W1.heap.size ≤ wr.heap.size ∧ wr.heap.size < w3.heap.size)) := fun h => by
                    have h1 := HS34.out
                    have h2 := hst.out.size
                    omega
                  have HBE := hide ((HBOX4.out.st hst.out HBXX.out).st eal (fun e => e))
                  have HINE := hide ((HINS4.out.st hst.out HIBX.out).st eal (fun e => e))
                  have HBW : Hid (B ≤ (wr.alloc (.cells #[.int .i64 x.k, .int .i64 x.a, .int .i64 x.b, .int .i64 x.n, .slice x.bA x.bz.length x.bc, .int .i64 x.c1, .int .i64 x.c2, .int .i64 x.c3, .int .i64 x.c4, .string x.s1, .string x.s2, .string x.s3, .slice x.A x.zs.length x.c] 45)).heap.size) := by
                    have h1 := HLE.out
                    have h2 := HS3.out.size
                    have h3 := HS34.out
                    have h4 := hst.out.size
                    have h5 := eal.size
                    show _ ≤ _
                    omega
                  obtain ⟨f0, f1, f2, f3, f4, f5, f6, f7, f8, f9, f10, f11, f12⟩ := m13 HEB.out
                  clear eal hst e0 e1 e2 e3 e4 e5 e6 e7 e8 e9 e10 e11 e12 hnet
                  generalize wr.alloc (.cells #[.int .i64 x.k, .int .i64 x.a, .int .i64 x.b, .int .i64 x.n, .slice x.bA x.bz.length x.bc, .int .i64 x.c1, .int .i64 x.c2, .int .i64 x.c3, .int .i64 x.c4, .string x.s1, .string x.s2, .string x.s3, .slice x.A x.zs.length x.c] 45) = wE at *
                  generalize wr.heap.size = eb at *
                  have HPL := hide (play_any n x.c B L sx (fun q => W1.heap.size ≤ q ∧ q < w3.heap.size) x.k x.a x.b x.n x.c1 x.c2 x.c3 x.c4 (.slice x.bA x.bz.length x.bc) (.string x.s1) (.string x.s2) (.string x.s3) x.A x.zs.length x.zs wE HNT.out HRZ.out HBW.out HSXB.out hn2 HGD.out.2.1)
                  have HSLN := hide (HSL.out.play x.k x.a x.b x.n x.zs)
                  obtain ⟨xq, hxq⟩ : ∃ xq, xq = playN n sx x.k x.a x.b x.n x.zs := ⟨_, rfl⟩
                  rw [← hxq] at HPL HSLN
                  have hnb := aloneN_b HSLN.out ins bs
                  obtain ⟨nw, hnw⟩ : ∃ nw, nw = aloneN n xq ins bs := ⟨_, rfl⟩
                  obtain ⟨tb, htb⟩ : ∃ tb, tb = touchN n ins x.k x.a := ⟨_, rfl⟩
                  have HALW : Hid (∀ V, NetAt V (fun q => W1.heap.size ≤ q ∧ q < w3.heap.size) n L xq → Blk V ib 4 (tab n (bools ins)) → Hid (Calls Try.prog 31 #[.pointer (some ⟨L.nb, 0, none⟩), sl ib n, .int .i64 bs] V fun e w' => e = .returned (.int .i64 nw) ∧ St (fun _ => False) V w')) := fun V h1 h2 => by
                    rw [hnw]
                    exact alone_any n ib L xq _ ins bs V h1 h2 HSLN.out hn2 HBSB.out
                  have HTOW : Hid (∀ V, Blk V ib 4 (tab n (bools ins)) → Hid (Calls Try.prog 33 #[.agg #[.int .i64 x.k, .int .i64 x.a, .int .i64 x.b, .int .i64 x.n, .slice x.bA x.bz.length x.bc, .int .i64 x.c1, .int .i64 x.c2, .int .i64 x.c3, .int .i64 x.c4, .string x.s1, .string x.s2, .string x.s3, .slice x.A x.zs.length x.c], sl ib n] V fun e w' => e = .returned (.bool tb) ∧ St (fun _ => False) V w')) := fun V h2 => by
                    rw [htb]
                    exact touch_any n ib ins x.k x.a x.b x.n x.c1 x.c2 x.c3 x.c4 _ _ _ _ _ V h2 hn2
                  have HR1 : Hid ((sd = 0 ∨ tb = true ∨ nw = 0) → runP n ins bs l (j + 1) = ⟨xq, (j : Int) + 1, nw⟩) := fun h => by
                    rw [HNX.out]
                    unfold stepP
                    simp only [← hxq, ← hnw, ← htb]
                    rw [if_pos h]
                  have HR2 : Hid (¬ (sd = 0 ∨ tb = true ∨ nw = 0) → runP n ins bs l (j + 1) = ⟨xq, st', max sd nw⟩) := fun h => by
                    rw [HNX.out]
                    unfold stepP
                    simp only [← hxq, ← hnw, ← htb]
                    rw [if_neg h]
                  rw [← hnw] at hnb
                  clear hxq hnw htb HNX
                  have wj : IntKind.i64.wrap ((j : Int) + 1) = (j : Int) + 1 := IntWalk.i64_in _ (by constructor <;> omega)
                  by_cases h0 : sd = 0
                  · have HR := hide (HR1.out (.inl h0))
                    have d0 : (sd == 0) = true := by simpa using h0
                    clear HR1 HR2 h0
                    go_wp2_with (first
                      | (go_at_call 32; refine HPL.out.mono ?_; rintro e w5 ⟨rfl, hn5, hs5⟩; have HX5 := hide (And.intro hn5 hs5); have b5 : w5.cell? ⟨w.heap.size, 2, none⟩ = some (.int .i64 bs) := (HBE.out.st hs5 HBXX.out).cell 2; have HEB5 := hide (HEB.out.st hs5 HEX.out); have HAL5 := HALW.out w5 hn5 (HINE.out.st hs5 HIBX.out); clear hn5 hs5 f0 f1 f2 f3 f4 f5 f6 f7 f8 f9 f10 f11 f12)
                      | (go_at_call 31; refine HAL5.out.mono ?_; rintro e w6 ⟨rfl, hs6⟩; have HS6 := hide hs6; have hb6 := HEB5.out.st hs6 (fun e => e); obtain ⟨g0, g1, g2, g3, g4, g5, g6, g7, g8, g9, g10, g11, g12⟩ := m13 hb6; have HTO6 := HTOW.out w6 ((HINE.out.st HX5.out.2 HIBX.out).st hs6 (fun e => e)); clear hs6 hb6 b5)
                      | (go_at_call 33; refine HTO6.out.mono ?_; rintro e w7 ⟨rfl, hs7⟩; have HS7 := hide hs7; clear hs7))
                    have HNJ : Hid (NetAt w6 (fun q => W1.heap.size ≤ q ∧ q < w3.heap.size) n L xq ∧ St (fun q => W1.heap.size ≤ q ∧ q < w3.heap.size) w4 w6) := ⟨HX5.out.1.quiet HS6.out, ((HSE4.out.trans HX5.out.2).trans (HS6.out.mono fun _ _ e => e.elim))⟩
                    go_roundw
                    case rel => first | exact ⟨j + 1, by omega, by go_num, by rw [HR.out], by rw [HR.out], by rw [HR.out]; exact HNJ.out.1, HNJ.out.2⟩ | ((repeat apply Exists.intro); exact ⟨⟨j + 1, by omega, by go_num, by rw [HR.out], by rw [HR.out], by rw [HR.out]; exact HNJ.out.1, HNJ.out.2⟩, rfl⟩)
                    case measure => simp [intOf]; omega
                  · have d0 : (sd == 0) = false := by simpa using h0
                    cases tb with
                    | true =>
                      have HR := hide (HR1.out (.inr (.inl rfl)))
                      clear HR1 HR2 h0
                      go_wp2_with (first
                        | (go_at_call 32; refine HPL.out.mono ?_; rintro e w5 ⟨rfl, hn5, hs5⟩; have HX5 := hide (And.intro hn5 hs5); have b5 : w5.cell? ⟨w.heap.size, 2, none⟩ = some (.int .i64 bs) := (HBE.out.st hs5 HBXX.out).cell 2; have HEB5 := hide (HEB.out.st hs5 HEX.out); have HAL5 := HALW.out w5 hn5 (HINE.out.st hs5 HIBX.out); clear hn5 hs5 f0 f1 f2 f3 f4 f5 f6 f7 f8 f9 f10 f11 f12)
                        | (go_at_call 31; refine HAL5.out.mono ?_; rintro e w6 ⟨rfl, hs6⟩; have HS6 := hide hs6; have hb6 := HEB5.out.st hs6 (fun e => e); obtain ⟨g0, g1, g2, g3, g4, g5, g6, g7, g8, g9, g10, g11, g12⟩ := m13 hb6; have HTO6 := HTOW.out w6 ((HINE.out.st HX5.out.2 HIBX.out).st hs6 (fun e => e)); clear hs6 hb6 b5)
                        | (go_at_call 33; refine HTO6.out.mono ?_; rintro e w7 ⟨rfl, hs7⟩; have HS7 := hide hs7; clear hs7))
                      have HNJ : Hid (NetAt w7 (fun q => W1.heap.size ≤ q ∧ q < w3.heap.size) n L xq ∧ St (fun q => W1.heap.size ≤ q ∧ q < w3.heap.size) w4 w7) := ⟨(HX5.out.1.quiet HS6.out).quiet HS7.out, ((HSE4.out.trans HX5.out.2).trans (HS6.out.mono fun _ _ e => e.elim)).trans (HS7.out.mono fun _ _ e => e.elim)⟩
                      go_roundw
                      case rel => first | exact ⟨j + 1, by omega, by go_num, by rw [HR.out], by rw [HR.out], by rw [HR.out]; exact HNJ.out.1, HNJ.out.2⟩ | ((repeat apply Exists.intro); exact ⟨⟨j + 1, by omega, by go_num, by rw [HR.out], by rw [HR.out], by rw [HR.out]; exact HNJ.out.1, HNJ.out.2⟩, rfl⟩)
                      case measure => simp [intOf]; omega
                    | false =>
                      by_cases hz : nw = 0
                      · have HR := hide (HR1.out (.inr (.inr hz)))
                        have d1 : (nw == 0) = true := by simpa using hz
                        clear HR1 HR2 h0 hz
                        go_wp2_with (first
                          | (go_at_call 32; refine HPL.out.mono ?_; rintro e w5 ⟨rfl, hn5, hs5⟩; have HX5 := hide (And.intro hn5 hs5); have b5 : w5.cell? ⟨w.heap.size, 2, none⟩ = some (.int .i64 bs) := (HBE.out.st hs5 HBXX.out).cell 2; have HEB5 := hide (HEB.out.st hs5 HEX.out); have HAL5 := HALW.out w5 hn5 (HINE.out.st hs5 HIBX.out); clear hn5 hs5 f0 f1 f2 f3 f4 f5 f6 f7 f8 f9 f10 f11 f12)
                          | (go_at_call 31; refine HAL5.out.mono ?_; rintro e w6 ⟨rfl, hs6⟩; have HS6 := hide hs6; have hb6 := HEB5.out.st hs6 (fun e => e); obtain ⟨g0, g1, g2, g3, g4, g5, g6, g7, g8, g9, g10, g11, g12⟩ := m13 hb6; have HTO6 := HTOW.out w6 ((HINE.out.st HX5.out.2 HIBX.out).st hs6 (fun e => e)); clear hs6 hb6 b5)
                          | (go_at_call 33; refine HTO6.out.mono ?_; rintro e w7 ⟨rfl, hs7⟩; have HS7 := hide hs7; clear hs7))
                        have HNJ : Hid (NetAt w7 (fun q => W1.heap.size ≤ q ∧ q < w3.heap.size) n L xq ∧ St (fun q => W1.heap.size ≤ q ∧ q < w3.heap.size) w4 w7) := ⟨(HX5.out.1.quiet HS6.out).quiet HS7.out, ((HSE4.out.trans HX5.out.2).trans (HS6.out.mono fun _ _ e => e.elim)).trans (HS7.out.mono fun _ _ e => e.elim)⟩
                        go_roundw
                        case rel => first | exact ⟨j + 1, by omega, by go_num, by rw [HR.out], by rw [HR.out], by rw [HR.out]; exact HNJ.out.1, HNJ.out.2⟩ | ((repeat apply Exists.intro); exact ⟨⟨j + 1, by omega, by go_num, by rw [HR.out], by rw [HR.out], by rw [HR.out]; exact HNJ.out.1, HNJ.out.2⟩, rfl⟩)
                        case measure => simp [intOf]; omega
                      · have HR := hide (HR2.out (by rintro (h | h | h) <;> first | exact h0 h | exact hz h | cases h))
                        have d1 : (nw == 0) = false := by simpa using hz
                        have hmx : (if sd < nw then nw else sd) = max sd nw := by split <;> omega
                        clear HR1 HR2 h0 hz
                        go_wp2_with (first
                          | (go_at_call 32; refine HPL.out.mono ?_; rintro e w5 ⟨rfl, hn5, hs5⟩; have HX5 := hide (And.intro hn5 hs5); have b5 : w5.cell? ⟨w.heap.size, 2, none⟩ = some (.int .i64 bs) := (HBE.out.st hs5 HBXX.out).cell 2; have HEB5 := hide (HEB.out.st hs5 HEX.out); have HAL5 := HALW.out w5 hn5 (HINE.out.st hs5 HIBX.out); clear hn5 hs5 f0 f1 f2 f3 f4 f5 f6 f7 f8 f9 f10 f11 f12)
                          | (go_at_call 31; refine HAL5.out.mono ?_; rintro e w6 ⟨rfl, hs6⟩; have HS6 := hide hs6; have hb6 := HEB5.out.st hs6 (fun e => e); obtain ⟨g0, g1, g2, g3, g4, g5, g6, g7, g8, g9, g10, g11, g12⟩ := m13 hb6; have HTO6 := HTOW.out w6 ((HINE.out.st HX5.out.2 HIBX.out).st hs6 (fun e => e)); clear hs6 hb6 b5)
                          | (go_at_call 33; refine HTO6.out.mono ?_; rintro e w7 ⟨rfl, hs7⟩; have HS7 := hide hs7; clear hs7))
                        have HNJ : Hid (NetAt w7 (fun q => W1.heap.size ≤ q ∧ q < w3.heap.size) n L xq ∧ St (fun q => W1.heap.size ≤ q ∧ q < w3.heap.size) w4 w7) := ⟨(HX5.out.1.quiet HS6.out).quiet HS7.out, ((HSE4.out.trans HX5.out.2).trans (HS6.out.mono fun _ _ e => e.elim)).trans (HS7.out.mono fun _ _ e => e.elim)⟩
                        go_roundw
                        case rel => first | exact ⟨j + 1, by omega, by go_num, by rw [HR.out], by rw [HR.out], by rw [HR.out]; exact HNJ.out.1, HNJ.out.2⟩ | ((repeat apply Exists.intro); exact ⟨⟨j + 1, by omega, by go_num, by rw [HR.out], by rw [HR.out], by rw [HR.out]; exact HNJ.out.1, HNJ.out.2⟩, rfl⟩)
                        case measure => simp [intOf]; omega
                · obtain rfl : j = ne := by omega
                  have HRB := hide (runP_b n ins bs l j)
                  rw [← HNE.out] at HPG HPH
                  by_cases hd : (runP n ins bs l j).d = 0
                  · have HPP := hide (HPG.out HSO.out hd)
                    have d0 : ((runP n ins bs l j).d == 0) = true := by simpa using hd
                    clear hd
                    go_wp2_with fail
                    refine bodyPost_ret (results_tmp3 rfl _ _ _) rfl ?_
                    exact ⟨by rw [HPP.out]; rfl, HFIN4.out.trans' hst.out fun q hq h => by have := h.1; have h2 := HWW.out; omega⟩
                  · have HPP := hide (HPH.out HSO.out hd)
                    have d0 : ((runP n ins bs l j).d == 0) = false := by simpa using hd
                    clear hd
                    go_wp2_with fail
                    refine bodyPost_ret (results_tmp3 rfl _ _ _) rfl ?_
                    exact ⟨by rw [HPP.out]; rfl, HFIN4.out.trans' hst.out fun q hq h => by have := h.1; have h2 := HWW.out; omega⟩
  · have he0 := Cfg.err_bad hok
    rw [he0] at HCK
    have HP : Hid (premP ⟨nd, wn, bs, st, cp, rm, fl, vs⟩ set l = (0, 0, 22)) := by
      show _ = _
      unfold premP
      rw [if_pos (by rw [he0]; simp)]
    rw [← hne] at hel z8 ⊢
    rw [← hns] at hsl ⊢
    clear hok he0 hns hne
    go_wp2_with (go_at_call 25; refine HCK.out.mono ?_; rintro e w1 ⟨rfl, hs1⟩; have z0' := hs1.only.cell z0 (fun e => e); have z2' := hs1.only.cell z2 (fun e => e); have z6' := hs1.only.cell z6 (fun e => e); have z8' := hs1.only.cell z8 (fun e => e); have HS1 := hide hs1; clear hs1; try clear z0 z1 z2 z3 z4 z5 z6 z7 z8)
    refine bodyPost_ret (results_tmp3 rfl _ _ _) rfl ?_
    exact ⟨by rw [HP.out]; rfl, HS0.out.trans HS1.out⟩
end Go.Proofs.Ytkcjfiifajjpiaa
