/-
  Contract of the reference's Premise: as the program's. (Printed by wip/tools/mkrprem.py.)
-/
import Derived.Test.YtkcjfiifajjpiaaRWithin
import Derived.Test.YtkcjfiifajjpiaaMore
set_option linter.unusedVariables false
set_option linter.unusedSimpArgs false
namespace Go.Proofs.Ytkcjfiifajjpiaa
open Go.RowKit Go.WideShapes Go.ChangeShapes Q

set_option maxRecDepth 100000 in
set_option maxHeartbeats 4000000 in
theorem rprem_any (nd wn bs st cp rm fl : Int) (vs : List Int) (Av : Option Addr) (kv : Nat) (Ae : Option Addr) (ce : Nat) (l : List El) (As : Option Addr) (cs B : Nat) (set : List Int) (w : World)
    (hv : RI w B Av vs.length vs) (he : EvsIn w B Ae l) (hs : RI w B As set.length set) (hB : B ≤ w.heap.size) (hvl : vs.length ≤ 17592186044416) (hel : l.length ≤ 140737488351232) (hsl : set.length ≤ 140737488351232) :
    Calls Try.prog 16 #[.agg #[.int .i64 nd, .int .i64 wn, .int .i64 bs, .int .i64 st, .int .i64 cp, .int .i64 rm, .int .i64 fl, .slice Av vs.length kv, .slice Ae l.length ce], .slice As set.length cs] w
      fun e w' => e = .returned (p3 (premP ⟨nd, wn, bs, st, cp, rm, fl, vs⟩ set l)) ∧ St (fun _ => False) w w' := by
  have H0 : St (fun _ => False) w (w.alloc (.cells #[.int .i64 nd, .int .i64 wn, .int .i64 bs, .int .i64 st, .int .i64 cp, .int .i64 rm, .int .i64 fl, .slice Av vs.length kv, .slice Ae l.length ce] 33)) := (St.refl _ w).alloc _
  have B0 := Blk.new w 33 #[.int .i64 nd, .int .i64 wn, .int .i64 bs, .int .i64 st, .int .i64 cp, .int .i64 rm, .int .i64 fl, .slice Av vs.length kv, .slice Ae l.length ce]
  have V0 := hv.st H0 (fun q e => e.elim)
  have E0 := he.st H0 (fun q e => e.elim)
  have S0 := hs.st H0 (fun q e => e.elim)
  have HBs := hide (Nat.le_trans hB H0.size)
  clear hv he hs hB
  go_enter Try.func16, Try.ntmps16
  go_upto_region 1 with fail
  obtain ⟨w0, hw0⟩ : ∃ w0, w0 = w.alloc (.cells #[.int .i64 nd, .int .i64 wn, .int .i64 bs, .int .i64 st, .int .i64 cp, .int .i64 rm, .int .i64 fl, .slice Av vs.length kv, .slice Ae l.length ce] 33) := ⟨_, rfl⟩
  rw [← hw0] at H0 B0 V0 E0 S0 HBs ⊢
  have HS0 := hide H0
  have HB0 := hide B0
  have HE0 := hide E0
  have HSE := hide S0
  have HCK := hide (rck nd wn bs st cp rm fl vs Av vs.length kv B w0 V0 HBs.out hvl)
  obtain ⟨z0, z1, z2, z3, z4, z5, z6, z7, z8⟩ := mm9 B0
  obtain ⟨ne, hne⟩ : ∃ ne, ne = l.length := ⟨_, rfl⟩
  obtain ⟨ns, hns⟩ : ∃ ns, ns = set.length := ⟨_, rfl⟩
  clear hw0 H0 V0 E0 S0 B0
  by_cases hok : Cfg.Ok ⟨nd, wn, bs, st, cp, rm, fl, vs⟩
  · have he0 := Cfg.err_ok hok
    rw [he0] at HCK
    obtain ⟨n, hn⟩ : ∃ n : Nat, nd = (n : Int) := ⟨nd.toNat, by have : 1 ≤ nd := hok.nodes.1; omega⟩
    subst hn
    have hn1 : 1 ≤ n := by have : 1 ≤ (n : Int) := hok.nodes.1; omega
    have hn2 : n ≤ 16 := by have : (n : Int) ≤ 16 := hok.nodes.2; omega
    have hb1 : 1 ≤ bs := hok.base.1
    have hb2 : bs ≤ 64 := by have h1 : bs ≤ cp := hok.base.2; have h2 : cp ≤ 64 := hok.cap.2; omega
    have HN1 := hide hn1
    clear hok
    by_cases h4 : 4000 < l.length
    · have HP : Hid (premP ⟨(n : Int), wn, bs, st, cp, rm, fl, vs⟩ set l = (0, 0, 25)) := by
        show _ = _
        unfold premP
        rw [if_neg (by rw [he0]; simp)]
        rw [if_pos h4]
      rw [← hne] at hel z8 h4 ⊢
      rw [← hns] at hsl ⊢
      have d1 : decide ((4000 : Int) < (ne : Int)) = true := decide_eq_true (by omega)
      clear hns hne he0 h4
      go_wp2_with (go_at_call 19; refine HCK.out.mono ?_; rintro e w1 ⟨rfl, hs1⟩; have z0' := hs1.only.cell z0 (fun e => e); have z2' := hs1.only.cell z2 (fun e => e); have z6' := hs1.only.cell z6 (fun e => e); have z8' := hs1.only.cell z8 (fun e => e); have HS1 := hide hs1; clear hs1; try clear z0 z1 z2 z3 z4 z5 z6 z7 z8)
      refine bodyPost_ret (results_tmp3 rfl _ _ _) rfl ?_
      exact ⟨by rw [HP.out]; rfl, HS0.out.trans HS1.out⟩
    · by_cases h5 : set = []
      · have HP : Hid (premP ⟨(n : Int), wn, bs, st, cp, rm, fl, vs⟩ set l = (0, 0, 1)) := by
          show _ = _
          unfold premP
          rw [if_neg (by rw [he0]; simp)]
          rw [if_neg h4, if_pos (.inl h5)]
        rw [← hne] at hel z8 h4 ⊢
        have hns0 : ns = 0 := by rw [hns, h5]; rfl
        rw [← hns] at hsl ⊢
        subst hns0
        have d1 : decide ((4000 : Int) < (ne : Int)) = false := decide_eq_false (by omega)
        clear hns hne he0 h4 h5
        go_wp2_with (go_at_call 19; refine HCK.out.mono ?_; rintro e w1 ⟨rfl, hs1⟩; have z0' := hs1.only.cell z0 (fun e => e); have z2' := hs1.only.cell z2 (fun e => e); have z6' := hs1.only.cell z6 (fun e => e); have z8' := hs1.only.cell z8 (fun e => e); have HS1 := hide hs1; clear hs1; try clear z0 z1 z2 z3 z4 z5 z6 z7 z8)
        refine bodyPost_ret (results_tmp3 rfl _ _ _) rfl ?_
        exact ⟨by rw [HP.out]; rfl, HS0.out.trans HS1.out⟩
      · have hns1 : 0 < set.length := List.length_pos_iff.2 h5
        by_cases h6 : 2305843009213693952 < fl
        · have HP : Hid (premP ⟨(n : Int), wn, bs, st, cp, rm, fl, vs⟩ set l = (0, 0, 1)) := by
            show _ = _
            unfold premP
            rw [if_neg (by rw [he0]; simp)]
            rw [if_neg h4, if_pos (.inr h6)]
          rw [← hne] at hel z8 h4 ⊢
          rw [← hns] at hsl hns1 ⊢
          have d1 : decide ((4000 : Int) < (ne : Int)) = false := decide_eq_false (by omega)
          have d2 : ((ns : Int) == 0) = false := by rw [beq_eq_false_iff_ne]; omega
          have d3 : decide ((2305843009213693952 : Int) < fl) = true := decide_eq_true h6
          clear hns hne he0 h4 h5 h6
          go_wp2_with (go_at_call 19; refine HCK.out.mono ?_; rintro e w1 ⟨rfl, hs1⟩; have z0' := hs1.only.cell z0 (fun e => e); have z2' := hs1.only.cell z2 (fun e => e); have z6' := hs1.only.cell z6 (fun e => e); have z8' := hs1.only.cell z8 (fun e => e); have HS1 := hide hs1; clear hs1; try clear z0 z1 z2 z3 z4 z5 z6 z7 z8)
          refine bodyPost_ret (results_tmp3 rfl _ _ _) rfl ?_
          exact ⟨by rw [HP.out]; rfl, HS0.out.trans HS1.out⟩
        · have HPB : Hid (¬ SetOk n set → premP ⟨(n : Int), wn, bs, st, cp, rm, fl, vs⟩ set l = (0, 0, 1)) := fun hb => by
            unfold premP
            rw [if_neg (by rw [he0]; simp), if_neg h4, if_neg (fun h => h.elim h5 h6), if_pos (by simpa using hb)]
          have HPG : Hid (SetOk n set → (runP n (inK set set.length) bs l l.length).d = 0 → premP ⟨(n : Int), wn, bs, st, cp, rm, fl, vs⟩ set l = (0, 0, 180)) := fun hg hd => by
            unfold premP
            rw [if_neg (by rw [he0]; simp), if_neg h4, if_neg (fun h => h.elim h5 h6), if_neg (by simpa using hg)]
            show (if (runP n (inK set set.length) bs l l.length).d = 0 then _ else _) = _
            rw [if_pos hd]
          have HPH : Hid (SetOk n set → (runP n (inK set set.length) bs l l.length).d ≠ 0 → premP ⟨(n : Int), wn, bs, st, cp, rm, fl, vs⟩ set l = ((runP n (inK set set.length) bs l l.length).t, (runP n (inK set set.length) bs l l.length).d, 0)) := fun hg hd => by
            unfold premP
            rw [if_neg (by rw [he0]; simp), if_neg h4, if_neg (fun h => h.elim h5 h6), if_neg (by simpa using hg)]
            show (if (runP n (inK set set.length) bs l l.length).d = 0 then _ else _) = _
            rw [if_neg hd]
            rfl
          rw [← hne] at hel z8 h4 ⊢
          rw [← hns] at hsl hns1 ⊢
          have d1 : decide ((4000 : Int) < (ne : Int)) = false := decide_eq_false (by omega)
          have d2 : ((ns : Int) == 0) = false := by rw [beq_eq_false_iff_ne]; omega
          have d3 : decide ((2305843009213693952 : Int) < fl) = false := decide_eq_false h6
          have HNS := hide hns
          have HNE := hide hne
          clear hns hne he0 h5 h6
          go_upto_region 9 with (go_at_call 19; refine HCK.out.mono ?_; rintro e w1 ⟨rfl, hs1⟩; have z0' := hs1.only.cell z0 (fun e => e); have z2' := hs1.only.cell z2 (fun e => e); have z6' := hs1.only.cell z6 (fun e => e); have z8' := hs1.only.cell z8 (fun e => e); have HS1 := hide hs1; clear hs1; try clear z0 z1 z2 z3 z4 z5 z6 z7 z8)
          obtain ⟨w2, hw2⟩ : ∃ w2, w2 = w1 := ⟨_, rfl⟩
          rw [← hw2] at HS1 z0' z2' z6' z8' ⊢
          clear hw2
          have HS2 := hide (HS0.out.trans HS1.out)
          have HB2 := hide (HB0.out.st HS1.out (fun e => e))
          have HE2 := hide (HE0.out.st HS1.out (fun q e => e.elim))
          have HSE2 : Hid (RI w2 B As ns set) := by rw [HNS.out]; exact HSE.out.st HS1.out (fun q e => e.elim)
          have HSZ : Hid (B ≤ w2.heap.size) := by have h1 := HBs.out; have h2 := HS1.out.size; show B ≤ _; omega
          rw [← HNE.out] at HB2
          clear HS0 HB0 HE0 HSE HCK HS1 d1 d2 d3 z0' z2' z6' z8'
          go_loopw [8] (fun i wr => ∃ k : Nat, k ≤ ns ∧ i = .int .i64 k ∧ Hid (∀ j, j < k → 0 ≤ nth set j ∧ nth set j < n ∧ (0 < j → nth set (j - 1) < nth set j)) ∧ ∃ q, wr = w2.drewN q) (fun i _ => ns - (intOf i).toNat)
          case atStart => exact ⟨0, Nat.zero_le _, rfl, (fun j hj => absurd hj (by omega)), 0, rfl⟩
          case round =>
            obtain ⟨k, hk, rfl, hall, qd, rfl⟩ := hrel
            by_cases hlt : k < ns
            · obtain ⟨ad, hA, _, hc⟩ := HSE2.out.at_ hlt
              subst hA
              have hc' : (w2.drewN qd).cell? (ad.add k) = some (.int .i64 (nth set k)) := hc
              have hnc : (w2.drewN qd).cell? ⟨w.heap.size, 0, none⟩ = some (.int .i64 (n : Int)) := HB2.out.cell 0
              have i0 : (0 : Int) ≤ (k : Int) := by omega
              have i1 : (k : Int) < (ns : Int) := by omega
              have HBAD : Hid (nth set k < 0 ∨ (n : Int) ≤ nth set k ∨ (0 < k ∧ nth set k ≤ nth set (k - 1)) → premP ⟨(n : Int), wn, bs, st, cp, rm, fl, vs⟩ set l = (0, 0, 1)) := fun h => HPB.out (set_bad (by rw [← HNS.out]; exact hlt) h)
              have HGOOD : Hid (0 ≤ nth set k → nth set k < n → (0 < k → nth set (k - 1) < nth set k) → ∀ j, j < k + 1 → 0 ≤ nth set j ∧ nth set j < n ∧ (0 < j → nth set (j - 1) < nth set j)) := fun h1 h2 h3 j hj => by
                by_cases e : j = k
                · subst e; exact ⟨h1, h2, h3⟩
                · exact hall.out j (by omega)
              have HPRE : Hid (∀ j, k = j + 1 → (w2.drewN qd).cell? (ad.add j) = some (.int .i64 (nth set j))) := fun j e => by
                obtain ⟨ad', hA', _, hcj⟩ := HSE2.out.at_ (k := j) (by omega)
                injection hA' with hA'
                subst hA'
                exact hcj
              clear hc hall
              obtain ⟨v, hv⟩ : ∃ v, v = nth set k := ⟨_, rfl⟩
              rw [← hv] at hc' HBAD HGOOD
              have HV := hide hv
              clear hv
              obtain ⟨wd, hwd⟩ : ∃ wd, wd = w2.drewN qd := ⟨_, rfl⟩
              rw [← hwd] at hc' hnc HPRE ⊢
              have HWD := hide hwd
              clear hwd
              by_cases h1 : v < 0
              · have HP := hide (HBAD.out (.inl h1))
                have d1 : decide (v < 0) = true := decide_eq_true h1
                clear h1 HBAD HGOOD HPRE
                go_upto_region 11 with fail
                go_quiet (fail)
                go_wp2_with fail
                refine bodyPost_ret (results_tmp3 rfl _ _ _) rfl ?_
                exact ⟨by rw [HP.out]; rfl, by rw [HWD.out]; exact (HS2.out.drewN _).drewN _⟩
              · have d1 : decide (v < 0) = false := decide_eq_false h1
                by_cases h2 : (n : Int) ≤ v
                · have HP := hide (HBAD.out (.inr (.inl h2)))
                  have d2 : decide ((n : Int) ≤ v) = true := decide_eq_true h2
                  clear h1 h2 HBAD HGOOD HPRE
                  go_upto_region 11 with fail
                  go_quiet (fail)
                  go_wp2_with fail
                  refine bodyPost_ret (results_tmp3 rfl _ _ _) rfl ?_
                  exact ⟨by rw [HP.out]; rfl, by rw [HWD.out]; exact (HS2.out.drewN _).drewN _⟩
                · have d2 : decide ((n : Int) ≤ v) = false := decide_eq_false h2
                  cases k with
                  | zero =>
                    have HG := hide (HGOOD.out (by omega) (by omega) (fun h => absurd h (by omega)))
                    have hc0 : wd.cell? ad = some (.int .i64 v) := by simpa [Addr.add] using hc'
                    clear h1 h2 HBAD HGOOD HPRE
                    go_upto_region 11 with fail
                    go_quiet (fail)
                    go_wp2_with fail
                    go_roundw
                    case rel => exact ⟨0 + 1, by omega, by go_num, HG, _, by rw [HWD.out, World.drewN_drewN]⟩
                    case measure => simp [intOf]; omega
                  | succ j =>
                    have hp := HPRE.out j rfl
                    have ij0 : (0 : Int) < ((j + 1 : Nat) : Int) := by omega
                    have ijz : (0 : Int) ≤ (j : Int) := by omega
                    have hc1 := hc'
                    simp only [Addr.add, Nat.add_one_ne_zero, if_false, if_true, ite_false] at hc1
                    have ij1 : (0 : Int) ≤ (j : Int) + 1 := by omega
                    have ij2 : (j : Int) + 1 < (ns : Int) := by omega
                    have ij3 : ((j : Int) + 1).toNat = j + 1 := by omega
                    have ijn : (j : Int) < (ns : Int) := by omega
                    have hwj : IntKind.i64.wrap (j : Int) = (j : Int) := IntWalk.i64_in _ (by constructor <;> omega)
                    rw [Nat.add_sub_cancel] at HBAD HGOOD
                    obtain ⟨u, hu⟩ : ∃ u, u = nth set j := ⟨_, rfl⟩
                    rw [← hu] at hp HBAD HGOOD
                    clear hu HPRE
                    by_cases h3 : v ≤ u
                    · have HP := hide (HBAD.out (.inr (.inr ⟨by omega, h3⟩)))
                      have d3 : decide (v ≤ u) = true := decide_eq_true h3
                      clear h1 h2 h3 HBAD HGOOD
                      go_upto_region 11 with fail
                      go_quiet (fail)
                      go_wp2_with fail
                      refine bodyPost_ret (results_tmp3 rfl _ _ _) rfl ?_
                      exact ⟨by rw [HP.out]; rfl, by rw [HWD.out]; exact (HS2.out.drewN _).drewN _⟩
                    · have d3 : decide (v ≤ u) = false := decide_eq_false h3
                      have HG := hide (HGOOD.out (by omega) (by omega) (fun _ => by omega))
                      clear h1 h2 h3 HBAD HGOOD
                      go_upto_region 11 with fail
                      go_quiet (fail)
                      go_wp2_with fail
                      go_roundw
                      case rel => exact ⟨(j + 1) + 1, by omega, by go_num, HG, _, by rw [HWD.out, World.drewN_drewN]⟩
                      case measure => simp [intOf]; omega
            · obtain rfl : k = ns := by omega
              have hso : SetOk n set := fun j hj => hall.out j (by rw [HNS.out]; exact hj)
              obtain ⟨wd, hwd⟩ : ∃ wd, wd = w2.drewN qd := ⟨_, rfl⟩
              have hsd : St (fun _ => False) w2 wd := by rw [hwd]; exact (St.refl _ w2).drewN qd
              rw [← hwd]
              clear hwd
              have HWI := hide (rwithin_any n wn bs st cp rm fl (.slice Av vs.length kv) l Ae As ce cs B k set bs wd (HE2.out.st hsd (fun q e => e.elim)) (HSE2.out.st hsd (fun q e => e.elim)) hso hn2 (by have := HNE.out; omega) hsl (by have := HSZ.out; have := hsd.size; omega))
              have HSD := hide (HS2.out.trans hsd)
              obtain ⟨z0, z1, z2, z3, z4, z5, z6, z7, z8⟩ := mm9 (HB2.out.st hsd (fun e => e))
              rw [← HNE.out] at HWI HPG HPH
              have HG := hide (HPG.out hso)
              have HH := hide (HPH.out hso)
              obtain ⟨s, hs⟩ : ∃ s, s = runP n (inK set set.length) bs l ne := ⟨_, rfl⟩
              rw [← hs] at HWI HG HH
              clear hsd hso hs hall
              by_cases hd : s.d = 0
              · have HP := hide (HG.out hd)
                have HV : Hid (withinV s = .tuple #[.int .i64 0, .int .i64 0, .bool false]) := by show _ = _; unfold withinV; rw [if_pos hd]
                rw [HV.out] at HWI
                clear hd HV
                go_wp2_with (first
                  | (go_at_call 29; refine HWI.out.mono ?_; rintro e wx ⟨rfl, hst⟩; have HSX := hide (HSD.out.trans hst); clear hst))
                refine bodyPost_ret (results_tmp3 rfl _ _ _) rfl ?_
                exact ⟨by rw [HP.out]; rfl, HSX.out⟩
              · have HP := hide (HH.out hd)
                have HV : Hid (withinV s = .tuple #[.int .i64 s.t, .int .i64 s.d, .bool true]) := by show _ = _; unfold withinV; rw [if_neg hd]
                rw [HV.out] at HWI
                clear hd HV
                go_wp2_with (first
                  | (go_at_call 29; refine HWI.out.mono ?_; rintro e wx ⟨rfl, hst⟩; have HSX := hide (HSD.out.trans hst); clear hst))
                refine bodyPost_ret (results_tmp3 rfl _ _ _) rfl ?_
                exact ⟨by rw [HP.out]; rfl, HSX.out⟩
  · have he0 := Cfg.err_bad hok
    have HP : Hid (premP ⟨nd, wn, bs, st, cp, rm, fl, vs⟩ set l = (0, 0, 22)) := by
      show _ = _
      unfold premP
      rw [if_pos (by rw [he0]; decide)]
    rw [he0] at HCK
    rw [← hne] at hel z8 ⊢
    rw [← hns] at hsl ⊢
    clear he0 hok hne hns
    go_wp2_with (go_at_call 19; refine HCK.out.mono ?_; rintro e w1 ⟨rfl, hs1⟩; have z0' := hs1.only.cell z0 (fun e => e); have z2' := hs1.only.cell z2 (fun e => e); have z6' := hs1.only.cell z6 (fun e => e); have z8' := hs1.only.cell z8 (fun e => e); have HS1 := hide hs1; clear hs1; try clear z0 z1 z2 z3 z4 z5 z6 z7 z8)
    refine bodyPost_ret (results_tmp3 rfl _ _ _) rfl ?_
    exact ⟨by rw [HP.out]; rfl, HS0.out.trans HS1.out⟩
end Go.Proofs.Ytkcjfiifajjpiaa

