/-
  BoundApart answers true.
-/
import Derived.Test.YtkcjfiifajjpiaaMore
import Derived.Test.YtkcjfiifajjpiaaPlainS
set_option linter.unusedVariables false
set_option linter.unusedSimpArgs false
namespace Go.Proofs.Ytkcjfiifajjpiaa
open Go.RowKit Go.WideShapes Go.ChangeShapes Q

theorem MI.push_st {w wr : World} {base g : Nat} {C1 : Array Value} {a0 a1 a2 a3 a4 a5 a6 : Int} {n : Nat} {vs : List Int} {V' : Option Addr} {k' : Nat} {E' : Option Addr} {q f' : Nat} {l' : List El} (h : MI w wr base g C1 a0 a1 a2 a3 a4 a5 a6 n vs V' k' E' q f' l') {cs : Array Value} {w6 : World}
    (hgr : (wr.alloc (.cells cs 45)).grownBy w6 (Value.slice E' q f').ownBlock) (u : Value) : St (fun q => base ≤ q) wr (w6.setCell ⟨g, 8, none⟩ u) := by
  have s06 : St (fun q => base ≤ q) wr w6 := ((St.refl _ wr).alloc _).grown hgr (fun g' e => by
    obtain ⟨hge, cs, hb⟩ := own_blk h.row e
    exact ⟨⟨45, cs, hb.alloc _, not35_45⟩, fun _ => hge⟩)
  have hc6 : Blk w6 g 33 _ := (h.c.alloc _).grown hgr (own_ne h.row h.c (by decide))
  exact s06.setCell hc6 not35_33 (fun _ => h.ge) _
/-- The side of p by the first j of the set. -/
def sdK (set : List Int) (p j : Nat) : Int := if (set.take j).contains (p : Int) then 2 else 1
theorem sdK_zero (set : List Int) (p : Nat) : sdK set p 0 = 1 := by simp [sdK]
theorem sdK_all (set : List Int) (p : Nat) : sdK set p set.length = sideOf set p := by simp [sdK, sideOf]
theorem sdK_yes {set : List Int} {p j : Nat} (hj : j < set.length) (h : nth set j = (p : Int)) : sdK set p (j + 1) = 2 := by
  unfold sdK
  rw [List.take_add_one, List.getElem?_eq_getElem hj]
  rw [nth_get hj] at h
  simp [h]
theorem sdK_no {set : List Int} {p j : Nat} (hj : j < set.length) (h : nth set j ≠ (p : Int)) : sdK set p (j + 1) = sdK set p j := by
  have e : set.take (j + 1) = set.take j ++ [set[j]] := by rw [List.take_add_one, List.getElem?_eq_getElem hj]; rfl
  rw [nth_get hj] at h
  have h2 : ¬ ((p : Int) = set[j]) := fun e => h e.symm
  have hc : (set.take (j + 1)).contains (p : Int) = (set.take j).contains (p : Int) := by
    rw [Bool.eq_iff_iff, List.contains_iff_mem, List.contains_iff_mem, e, List.mem_append, List.mem_singleton]
    exact ⟨fun h' => h'.elim id fun h'' => absurd h'' h2, .inl⟩
  unfold sdK
  rw [hc]
theorem sdK_in (set : List Int) (p j : Nat) : 1 ≤ sdK set p j ∧ sdK set p j ≤ 2 := by
  unfold sdK
  split <;> omega
/-- Two rows that share no block. -/
def Two (v6 v7 : Value) : Prop := ∀ g, v6.ownBlock = some g → v7.ownBlock ≠ some g
theorem own_push_other {W w' : World} {base : Nat} {e : TypeId} {size n : Nat} {v u : Value} {xs : List Value} {o : Obj} (ho : W.ownsRow base e size v n xs) (hg : (W.alloc o).grownBy w' u.ownBlock) (h : Two u v) : w'.ownsRow base e size v n xs :=
  own_only (ho.alloc o) (Only.of_grown (F := fun q => u.ownBlock = some q) hg (fun g e _ => e)) (fun g hg hf => h g hf hg)
theorem two_push {W : World} {base : Nat} {e : TypeId} {size n g : Nat} {v u u' : Value} {xs : List Value} (ho : W.ownsRow base e size v n xs) (h : Two u v) (hu : u'.ownBlock = some g) (hg : u.ownBlock = some g ∨ W.heap.size < g) : Two u' v := by
  intro q hq hv
  rw [hu] at hq
  injection hq with hq
  subst hq
  rcases hg with hg | hg
  · exact h g hg hv
  · have := (ho.lt g hv).2
    omega
theorem two_push2 {W : World} {base : Nat} {e : TypeId} {size n g : Nat} {v u v' : Value} {xs : List Value} (ho : W.ownsRow base e size u n xs) (h : Two u v) (hv : v'.ownBlock = some g) (hg : v.ownBlock = some g ∨ W.heap.size < g) : Two u v' := by
  intro q hq hvq
  rw [hv] at hvq
  injection hvq with hvq
  subst hvq
  rcases hg with hg | hg
  · exact h g hq hg
  · have := (ho.lt g hq).2
    omega

set_option maxRecDepth 100000 in
set_option maxHeartbeats 8000000 in
theorem apart_any (a0 a1 a2 a3 a4 a5 a6 : Int) (vs : List Int) (l : List El) (V E Z : Option Addr) (k f kz B : Nat) (set : List Int) (w : World)
    (hv : RI w B V vs.length vs) (he : EvsIn w B E l) (hz : RI w B Z set.length set) (hvl : vs.length * 8 ≤ 140737488351232) (hel : l.length * 160 ≤ 140737488351232) (hsl : set.length * 8 ≤ 140737488351232) (hzl : ∀ x ∈ l, x.zs.length * 8 ≤ 140737488351232) (hB : B ≤ w.heap.size) :
    Calls Try.prog 6 #[.agg #[.int .i64 a0, .int .i64 a1, .int .i64 a2, .int .i64 a3, .int .i64 a4, .int .i64 a5, .int .i64 a6, .slice V vs.length k, .slice E l.length f, .slice Z set.length kz]] w
      fun e w' => e = .returned (.bool true) ∧ St (fun _ => False) w w' := by
  obtain ⟨n, hn⟩ : ∃ n, n = vs.length := ⟨_, rfl⟩
  obtain ⟨m, hm⟩ : ∃ m, m = l.length := ⟨_, rfl⟩
  obtain ⟨z, hzz⟩ : ∃ z, z = set.length := ⟨_, rfl⟩
  rw [← hn] at hv hvl ⊢
  rw [← hm] at hel ⊢
  rw [← hzz] at hz hsl ⊢
  have HN := hide hn
  have HM := hide hm
  have HZ := hide hzz
  have HZL := hide hzl
  obtain ⟨base, hbase⟩ : ∃ b, b = w.heap.size := ⟨_, rfl⟩
  obtain ⟨o1, ho1⟩ : ∃ o : Obj, o = .cells #[.int .i64 a0, .int .i64 a1, .int .i64 a2, .int .i64 a3, .int .i64 a4, .int .i64 a5, .int .i64 a6, .slice V n k, .slice E m f, .slice Z z kz] 35 := ⟨_, rfl⟩
  have H0 : St (fun _ => False) w (w.alloc o1) := (St.refl _ w).alloc _
  have P1 : Blk (w.alloc o1) base 35 _ := ho1 ▸ Blk.new' w 35 #[.int .i64 a0, .int .i64 a1, .int .i64 a2, .int .i64 a3, .int .i64 a4, .int .i64 a5, .int .i64 a6, .slice V n k, .slice E m f, .slice Z z kz] base hbase
  have HBB := hide hB
  have HW0 := hide hbase
  have V0 := hv.st H0 (fun q e => e.elim)
  have HV := hide hv
  have HE := hide he
  have HZI := hide hz
  clear hn hm hzl hv he hB hz hzz
  go_enter Try.func6, Try.ntmps6
  go_upto_region 1 with fail
  rw [← ho1, ← hbase]
  obtain ⟨w0, hw0⟩ : ∃ w0, w0 = w.alloc o1 := ⟨_, rfl⟩
  rw [← hw0] at H0 P1 V0 ⊢
  have HS0 := hide H0
  have HP1 := hide P1
  have hbw : base ≤ w0.heap.size := by have := H0.size; omega
  have hwB : ∀ q, base ≤ q → B ≤ q := fun q e => by have := HBB.out; have := HW0.out; omega
  have HCK := hide (rck a0 a1 a2 a3 a4 a5 a6 vs V n k B w0 V0 (by have := HBB.out; omega) (by omega))
  obtain ⟨y0, y1, y2, y3, y4, y5, y6, y7, y8, y9⟩ := mm10 P1
  clear hw0 ho1 H0 P1 V0 hbase
  by_cases hok : Cfg.Ok ⟨a0, a1, a2, a3, a4, a5, a6, vs⟩
  · have he0 := Cfg.err_ok hok
    rw [he0] at HCK
    obtain ⟨nn, hnn⟩ : ∃ nn : Nat, a0 = (nn : Int) := ⟨a0.toNat, by have : 1 ≤ a0 := hok.nodes.1; omega⟩
    subst hnn
    have hn1 : 1 ≤ nn := by have : 1 ≤ (nn : Int) := hok.nodes.1; omega
    have hn2 : nn ≤ 16 := by have : (nn : Int) ≤ 16 := hok.nodes.2; omega
    have HOK := hide hok
    clear he0 hok
    by_cases hf : 2305843009213693952 < a6
    · go_wp2_with ((go_at_call 19; refine HCK.out.mono ?_; rintro e w1 ⟨rfl, hst⟩; have HST1 := hide hst; clear y0 y1 y2 y3 y4 y5 y6 y7 y8 y9; obtain ⟨y0, y1, y2, y3, y4, y5, y6, y7, y8, y9⟩ := mm10 (HP1.out.st hst (fun e => e)); clear hst))
      go_ret
      exact ⟨rfl, HS0.out.trans HST1.out⟩
    · by_cases hl : 3990 < m
      · have hl' : (3990 : Int) < (m : Int) := by omega
        go_wp2_with ((go_at_call 19; refine HCK.out.mono ?_; rintro e w1 ⟨rfl, hst⟩; have HST1 := hide hst; clear y0 y1 y2 y3 y4 y5 y6 y7 y8 y9; obtain ⟨y0, y1, y2, y3, y4, y5, y6, y7, y8, y9⟩ := mm10 (HP1.out.st hst (fun e => e)); clear hst))
        go_ret
        exact ⟨rfl, HS0.out.trans HST1.out⟩
      · have hl' : (m : Int) ≤ (3990 : Int) := by omega
        have hl2 : m ≤ 3990 := by omega
        have hf' : a6 ≤ 2305843009213693952 := by omega
        have HF := hide hf'
        by_cases hn2' : nn < 2
        · have i2 : (nn : Int) < 2 := by omega
          go_wp2_with ((go_at_call 19; refine HCK.out.mono ?_; rintro e w1 ⟨rfl, hst⟩; have HST1 := hide hst; clear y0 y1 y2 y3 y4 y5 y6 y7 y8 y9; obtain ⟨y0, y1, y2, y3, y4, y5, y6, y7, y8, y9⟩ := mm10 (HP1.out.st hst (fun e => e)); clear hst))
          go_ret
          exact ⟨rfl, HS0.out.trans HST1.out⟩
        · have i2 : (2 : Int) ≤ (nn : Int) := by omega
          have i2n : 2 ≤ nn := by omega
          go_upto_region 5 with ((go_at_call 19; refine HCK.out.mono ?_; rintro e w1 ⟨rfl, hst⟩; have HST1 := hide (HS0.out.trans hst); have HP1' := hide (HP1.out.st hst (fun e => e)); clear y0 y1 y2 y3 y4 y5 y6 y7 y8 y9; obtain ⟨y0, y1, y2, y3, y4, y5, y6, y7, y8, y9⟩ := mm10 (HP1.out.st hst (fun e => e)); clear hst))
          have hB1 : B ≤ w1.heap.size := by have := HST1.out.size; have := HBB.out; omega
          have HCP := hide (copied_any (nn : Int) a1 a2 a3 a4 a5 a6 vs l V E k f B w1 (by rw [← HN.out]; exact HV.out.st HST1.out (fun q e => e.elim)) (HE.out.st HST1.out (fun q e => e.elim)) (by have := HN.out; omega) (by have := HM.out; omega) HZL.out hB1)
          rw [← HN.out, ← HM.out] at HCP
          clear hB1 HCK HP1 HS0 hf hl hn2'
          go_upto_region 6 with ((go_at_call 17; refine HCP.out.mono ?_; rintro e w6 ⟨V', k', E', f', l1, rfl, hrn, hev, hlen, hmap, hst⟩; have HRN := hide hrn; have HEV := hide hev; have HLEN := hide hlen; have HMAP := hide hmap; have HST6 := hide hst; clear hrn hev hlen hmap hst y0 y1 y2 y3 y4 y5 y6 y7 y8 y9))
          have HMI : Hid (MI w (w6.alloc (.cells #[.int .i64 (nn : Int), .int .i64 a1, .int .i64 a2, .int .i64 a3, .int .i64 a4, .int .i64 a5, .int .i64 a6, .slice V' n k', .slice E' m f'] 33)) base w6.heap.size #[.int .i64 (nn : Int), .int .i64 a1, .int .i64 a2, .int .i64 a3, .int .i64 a4, .int .i64 a5, .int .i64 a6, .slice V n k, .slice E m f, .slice Z z kz] (nn : Int) a1 a2 a3 a4 a5 a6 n vs V' k' E' m f' l1) := by
            have sa : St (fun q => base ≤ q) w6 (w6.alloc (.cells #[.int .i64 (nn : Int), .int .i64 a1, .int .i64 a2, .int .i64 a3, .int .i64 a4, .int .i64 a5, .int .i64 a6, .slice V' n k', .slice E' m f'] 33)) := (St.refl _ w6).alloc _
            have hb5 : base ≤ w1.heap.size := by have := HST1.out.size; have := HW0.out; omega
            have hb6 : base ≤ w6.heap.size := Nat.le_trans hb5 HST6.out.size
            have hr := own_base HEV.out.1 hb5
            rw [HLEN.out] at hr
            exact ⟨(HP1'.out.st HST6.out (fun e => e)).alloc _, Blk.new _ _ _, hb6, hr.alloc _, HLEN.out, fun x hx => (HEV.out.2 x hx).st sa, HRN.out.st (.inl rfl) sa, ((HST1.out.trans HST6.out).mono (fun _ _ e => e.elim)).trans sa⟩
          obtain ⟨g, hg⟩ : ∃ g, g = w6.heap.size := ⟨_, rfl⟩
          obtain ⟨wL, hwL⟩ : ∃ wL, wL = w6.alloc (.cells #[.int .i64 (nn : Int), .int .i64 a1, .int .i64 a2, .int .i64 a3, .int .i64 a4, .int .i64 a5, .int .i64 a6, .slice V' n k', .slice E' m f'] 33) := ⟨_, rfl⟩
          rw [← hg, ← hwL] at HMI
          rw [← hg, ← hwL]
          clear hg hwL HST1 HST6 HRN HEV HP1' HCP hbw
          obtain ⟨i3, hi3, hz3, hs3, hb3⟩ := info_parts info3
          have I3 := hide hi3
          obtain ⟨i45, z45, hi45, hz45, hs45, hb45, hc45⟩ := info45
          have I45 := hide hi45
          clear hi45 hi3
          obtain ⟨bL, hbL⟩ : ∃ bL, bL = wL.heap.size := ⟨_, rfl⟩
          have HBL := hide hbL
          clear hbL
          go_wp2_with fail
          go_loopw [6, 7, 8] (fun v6 v7 i wr => ∃ (q : Nat), q ≤ nn ∧ i = .int .i64 q ∧ Hid (wr.ownsRow bL 3 1 v6 q (ints (same3 q))) ∧ Hid (wr.ownsRow bL 3 1 v7 q (ints (two set q))) ∧ Hid (Two v6 v7) ∧ Hid (Below bL wL wr)) (fun _ _ i _ => nn - (intOf i).toNat)
          case atStart => exact ⟨0, Nat.zero_le _, rfl, World.ownsRow_nil _ _ _ _, World.ownsRow_nil _ _ _ _, (fun g e => by simp [Value.ownBlock] at e), Below.refl _ _⟩
          case round =>
            obtain ⟨q, hq, rfl, ho6, ho7, htwo, hbel⟩ := hrel
            by_cases hlt : q < nn
            · have iq : (q : Int) < (nn : Int) := by omega
              have iq0 : (0 : Int) ≤ (q : Int) := by omega
              have HMr := hide (HMI.out.quiet (St.of_below hbel.out (Nat.le_of_eq HBL.out.symm)))
              have HZr := hide (HZI.out.st HMr.out.st hwB)
              have d9 : wr.cell? ⟨base, 9, none⟩ = some (.slice Z z kz) := HMr.out.b1.cell 9
              go_wp2_with fail
              go_loopw [9, 10] (fun sd i wy => ∃ (j : Nat), j ≤ z ∧ i = .int .i64 j ∧ sd = .int .i64 (sdK set q j) ∧ wy = wr) (fun _ i _ => z - (intOf i).toNat)
              case atStart => exact ⟨0, Nat.zero_le _, rfl, by rw [sdK_zero], rfl⟩
              case round =>
                obtain ⟨j, hj, rfl, rfl, rfl⟩ := hrel
                by_cases hlt2 : j < z
                · obtain ⟨ad, rfl, _, hcz⟩ := HZr.out.at_ hlt2
                  have ij : (j : Int) < (z : Int) := by omega
                  have ij0 : (0 : Int) ≤ (j : Int) := by omega
                  by_cases heq : nth set j = (q : Int)
                  · have hs2 := sdK_yes (by rw [← HZ.out]; exact hlt2) heq
                    rw [heq] at hcz
                    go_wp2
                    go_roundw
                    case rel => exact ⟨j + 1, by omega, by go_num, by rw [hs2], trivial⟩
                    case measure => simp [intOf]; omega
                  · have hs2 := sdK_no (by rw [← HZ.out]; exact hlt2) heq
                    have hne : (nth set j == (q : Int)) = false := by simpa using heq
                    go_wp2
                    go_roundw
                    case rel => exact ⟨j + 1, by omega, by go_num, by rw [hs2], trivial⟩
                    case measure => simp [intOf]; omega
                · obtain rfl : j = z := by omega
                  have hsz := sdK_all set q
                  rw [← HZ.out] at hsz
                  have HSZ := hide hsz
                  clear hsz
                  have hbw : bL ≤ wr.heap.size := by have := hbel.out.size; have := HBL.out; omega
                  obtain ⟨o6, hoo6⟩ : ∃ o : Obj, o = .cells #[.int .i64 3] 3 := ⟨_, rfl⟩
                  obtain ⟨o7, hoo7⟩ : ∃ o : Obj, o = .cells #[.int .i64 (sdK set q j)] 3 := ⟨_, rfl⟩
                  go_upto_region 17 with (at_builtin; refine wpList_push rfl (.tmp 70) (.tmp 71) _ rfl bL 3 i3 _ 1 8 Try.underlying22 I3.out hz3 hs3 hb3 rfl (by omega) u6 q _ rfl ho6.out 1 1 #[.int .i64 3] rfl rfl (by simp [Value.oneCell']) (by omega) (by unfold maxLen; omega) (by omega) hbw ?_; intro g6 c6 wx hown6 hg6 hbx _ _ hor6; have HO6 := hide hown6; have HG6 := hide hg6; have HOR6 := hide hor6; have HBX := hide (hbel.out.trans hbx); have hbwx : bL ≤ wx.heap.size := (by have := HBX.out.size; have := HBL.out; omega); clear hown6 hg6 hor6 hbx d9)
                  have ht6 : Two (.slice (some ⟨g6, 0, none⟩) (q + 1) c6) u7 := two_push ho7.out htwo.out rfl HOR6.out
                  have ho7' := own_push_other ho7.out HG6.out htwo.out
                  have HT6 := hide ht6
                  have HO7 := hide ho7'
                  clear ht6 ho7'
                  go_wp2_with (at_builtin; refine wpList_push rfl (.tmp 73) (.tmp 75) _ rfl bL 3 i3 _ 1 8 Try.underlying22 I3.out hz3 hs3 hb3 rfl (by omega) u7 q _ rfl HO7.out 1 1 #[.int .i64 (sdK set q j)] rfl rfl (by simp [Value.oneCell']) (by omega) (by unfold maxLen; omega) (by omega) hbwx ?_; intro g7 c7 wz hown7 hg7 hbz _ _ hor7; have HO7z := hide hown7; have HG7 := hide hg7; have HOR7 := hide hor7; have HBZ := hide (HBX.out.trans hbz); clear hown7 hg7 hor7 hbz)
                  have hr6 : Hid (wz.ownsRow bL 3 1 (.slice (some ⟨g6, 0, none⟩) (q + 1) c6) (q + 1) (ints (same3 (q + 1)))) := by
                    have ht' : Two u7 (.slice (some ⟨g6, 0, none⟩) (q + 1) c6) := fun g hg hv => HT6.out g hv hg
                    have := own_push_other HO6.out HG7.out ht'
                    rw [same3_succ, ints_append]
                    exact this
                  have hr7 : Hid (wz.ownsRow bL 3 1 (.slice (some ⟨g7, 0, none⟩) (q + 1) c7) (q + 1) (ints (two set (q + 1)))) := by
                    rw [two_succ, ints_append, ← HSZ.out]
                    exact HO7z.out
                  have hrt : Hid (Two (.slice (some ⟨g6, 0, none⟩) (q + 1) c6) (.slice (some ⟨g7, 0, none⟩) (q + 1) c7)) := two_push2 HO6.out HT6.out rfl HOR7.out
                  clear HO6 HO7 HO7z HG6 HG7 HOR6 HOR7 HT6
                  go_roundw
                  case rel => exact ⟨q + 1, by omega, by go_num, hr6, hr7, hrt, HBZ⟩
                  case measure => simp [intOf]; omega
            · obtain rfl : q = nn := by omega
              have hMr := HMI.out.quiet (St.of_below hbel.out (Nat.le_of_eq HBL.out.symm))
              obtain ⟨A6, c6, rfl, _, _⟩ := own_val ho6.out
              obtain ⟨A7, c7, rfl, _, _⟩ := own_val ho7.out
              have HR6 := hide (RN.of_own ho6.out)
              have HR7 := hide (RN.of_own ho7.out)
              have HMr := hide hMr
              have HQQ : Hid ((Cfg.mk (q : Int) a1 a2 a3 a4 a5 a6 vs).nodes.toNat = q) := by show _ = _; simp
              clear hMr ho6 ho7 htwo hbel HMI HBL I3
              obtain ⟨i3, hi3, hz3, hs3, hb3⟩ := info_parts info3
              have I3 := hide hi3
              clear hi3
              go_upto_region 18 with fail
              have hcs : (El.mk0 11 0 A6 c6 (same3 q)).cells = [.int .i64 11, .int .i64 0, .int .i64 0, .int .i64 0, .slice none 0 0, .int .i64 0, .int .i64 0, .int .i64 0, .int .i64 0, .string ⟨#[]⟩, .string ⟨#[]⟩, .string ⟨#[]⟩, .slice A6 q c6] := by simp [El.cells, El.mk0, El.body, El.sides, same3_len]
              have hown : (El.mk0 11 0 A6 c6 (same3 q)).Own wr := ⟨by show RN 3 wr A6 (same3 q).length (ints (same3 q)); rw [same3_len]; exact HR6.out, by show (same3 q).length * 8 ≤ _; rw [same3_len]; omega, RN.none_ rfl, by simp [El.mk0]⟩
              have HCS := hide hcs
              have HOWN := hide hown
              have c8 : wr.cell? ⟨g, 8, none⟩ = some (.slice E' (m) f') := HMr.out.c.cell 8
              have hbw1 : base ≤ wr.heap.size := by have := HMr.out.st.size; have := HW0.out; omega
              clear hcs hown
              go_upto_region 19 with (at_builtin; refine wpList_push rfl (.tmp 78) (.tmp 81) _ rfl base 45 i45 _ 13 160 Try.underlying31 I45.out hz45 hs45 hb45 hc45 (by omega) (.slice E' (m) f') (m) _ rfl HMr.out.row 1 1 #[.int .i64 11, .int .i64 0, .int .i64 0, .int .i64 0, .slice none 0 0, .int .i64 0, .int .i64 0, .int .i64 0, .int .i64 0, .string ⟨#[]⟩, .string ⟨#[]⟩, .string ⟨#[]⟩, .slice A6 q c6] rfl rfl (by simp [Value.oneCell']) (by omega) (by unfold maxLen; omega) (by omega) hbw1 ?_; intro g6 f2 w8 hown6 hg6 _ _ _ _; obtain ⟨hmi6, hc6⟩ := MI.push HMr.out HOWN.out rfl (by rw [HCS.out]; exact hown6) (by rw [HCS.out]; exact hg6); have HS9 := hide (MI.push_st HMr.out hg6 (.slice (some ⟨g6, 0, none⟩) (m + 1) f2)); have c8' : w8.cell? ⟨g, 8, none⟩ = some (.slice E' (m) f') := hc6.cell 8; have f8 := hc6.frozen 8; have HM9 := hide hmi6; clear hmi6 hc6 hown6 hg6 c8)
              obtain ⟨w9, hw8⟩ : ∃ wX, wX = w8.setCell ⟨g, 8, none⟩ (.slice (some ⟨g6, 0, none⟩) (m + 1) f2) := ⟨_, rfl⟩
              obtain ⟨E2, hE2⟩ : ∃ E2 : Option Addr, E2 = some ⟨g6, 0, none⟩ := ⟨_, rfl⟩
              rw [← hw8, ← hE2] at HM9
              rw [← hw8] at HS9
              rw [← hw8, ← hE2]
              clear hw8 hE2 c8' f8 hbw1 HCS HOWN
              have HR7 := hide (HR7.out.st (.inl rfl) HS9.out)
              have hl9 : Hid ((l1 ++ [El.mk0 11 0 A6 c6 (same3 q)]).length = m + 1) := by
                show _ = _
                rw [List.length_append, HLEN.out]
                rfl
              obtain ⟨p, hp⟩ : ∃ p, p = premP ⟨(q : Int), a1, a2, a3, a4, a5, a6, vs⟩ (upto q) (l1 ++ [El.mk0 11 0 A6 c6 (same3 q)]) := ⟨_, rfl⟩
              have HP := hide hp
              have hperr := prem_all_err (l := l1 ++ [El.mk0 11 0 A6 c6 (same3 q)]) HOK.out HF.out (by rw [hl9.out]; omega)
              rw [HQQ.out, ← hp] at hperr
              have HPE := hide hperr
              have HEV := hide (everybody_any q w9.drew (by omega))
              have HPW : ∀ (W : World) (Aa : Option Addr) (ca : Nat), St (fun _ => False) w9 W → RN 3 W Aa q (ints (upto q)) → Hid (Calls Try.prog 18 #[.agg #[.int .i64 (q : Int), .int .i64 a1, .int .i64 a2, .int .i64 a3, .int .i64 a4, .int .i64 a5, .int .i64 a6, .slice V' n k', .slice E2 (m + 1) f2], .slice Aa q ca] W fun e w' => e = .returned (.tuple #[.int .i64 p.1, .int .i64 p.2.1, .int .i64 p.2.2]) ∧ St (fun _ => False) W w') := fun W Aa ca hs hr => by
                have hM := HM9.out.quiet hs
                have := prem_any (q : Int) a1 a2 a3 a4 a5 a6 vs V' k' E2 f2 (l1 ++ [El.mk0 11 0 A6 c6 (same3 q)]) Aa ca W.heap.size (upto q) W (by rw [← HN.out]; exact hM.rn.reads (Nat.le_refl _)) hM.evs (by rw [upto_len]; exact hr.reads (Nat.le_refl _)) (Nat.le_refl _) (by have := HN.out; omega) (by rw [hl9.out]; omega) (by rw [upto_len]; omega)
                rw [← HP.out, ← HN.out, upto_len, hl9.out] at this
                exact this
              obtain ⟨x0, x1, x2, x3, x4, x5, x6, x7, x8⟩ := mm9 HM9.out.c
              have hperr' := hperr
              clear hp hperr hperr'
              go_cut [11, 12, 13] (fun s11 s12 s13 wx => s11 = .int .i64 p.1 ∧ s12 = .int .i64 p.2.1 ∧ s13 = .int .i64 p.2.2 ∧ Hid (St (fun _ => False) w9 wx))
              case first =>
                have LD0 : w9.drew.cell? ⟨g, 0, none⟩ = some (.int .i64 (q : Int)) ∧ w9.drew.cell? ⟨g, 1, none⟩ = some (.int .i64 a1) ∧ w9.drew.cell? ⟨g, 2, none⟩ = some (.int .i64 a2) ∧ w9.drew.cell? ⟨g, 3, none⟩ = some (.int .i64 a3) ∧ w9.drew.cell? ⟨g, 4, none⟩ = some (.int .i64 a4) ∧ w9.drew.cell? ⟨g, 5, none⟩ = some (.int .i64 a5) ∧ w9.drew.cell? ⟨g, 6, none⟩ = some (.int .i64 a6) ∧ w9.drew.cell? ⟨g, 7, none⟩ = some (.slice V' n k') ∧ w9.drew.cell? ⟨g, 8, none⟩ = some (.slice E2 (m + 1) f2) := ⟨x0, x1, x2, x3, x4, x5, x6, x7, x8⟩
                go_region_held3 (fun W : World => W.cell? ⟨g, 0, none⟩ = some (.int .i64 (q : Int)) ∧ W.cell? ⟨g, 1, none⟩ = some (.int .i64 a1) ∧ W.cell? ⟨g, 2, none⟩ = some (.int .i64 a2) ∧ W.cell? ⟨g, 3, none⟩ = some (.int .i64 a3) ∧ W.cell? ⟨g, 4, none⟩ = some (.int .i64 a4) ∧ W.cell? ⟨g, 5, none⟩ = some (.int .i64 a5) ∧ W.cell? ⟨g, 6, none⟩ = some (.int .i64 a6) ∧ W.cell? ⟨g, 7, none⟩ = some (.slice V' n k') ∧ W.cell? ⟨g, 8, none⟩ = some (.slice E2 (m + 1) f2))
                  (first | with_reducible exact LD2 | with_reducible exact LD1 | with_reducible exact LD0)
                  (first
                    | (go_at_call 20; (with_reducible refine HEV.out.mono ?_); rintro e wa ⟨va, rfl, hown, hst⟩; have HSTA := hide (((St.refl (fun _ => False) w9).drew).trans hst); obtain ⟨Aa, ca, rfl, _, _⟩ := own_val hown; have LD1 := (show _ from ⟨(HM9.out.quiet HSTA.out).c.cell 0, (HM9.out.quiet HSTA.out).c.cell 1, (HM9.out.quiet HSTA.out).c.cell 2, (HM9.out.quiet HSTA.out).c.cell 3, (HM9.out.quiet HSTA.out).c.cell 4, (HM9.out.quiet HSTA.out).c.cell 5, (HM9.out.quiet HSTA.out).c.cell 6, (HM9.out.quiet HSTA.out).c.cell 7, (HM9.out.quiet HSTA.out).c.cell 8⟩ : wa.cell? ⟨g, 0, none⟩ = some (.int .i64 (q : Int)) ∧ wa.cell? ⟨g, 1, none⟩ = some (.int .i64 a1) ∧ wa.cell? ⟨g, 2, none⟩ = some (.int .i64 a2) ∧ wa.cell? ⟨g, 3, none⟩ = some (.int .i64 a3) ∧ wa.cell? ⟨g, 4, none⟩ = some (.int .i64 a4) ∧ wa.cell? ⟨g, 5, none⟩ = some (.int .i64 a5) ∧ wa.cell? ⟨g, 6, none⟩ = some (.int .i64 a6) ∧ wa.cell? ⟨g, 7, none⟩ = some (.slice V' n k') ∧ wa.cell? ⟨g, 8, none⟩ = some (.slice E2 (m + 1) f2)); have HPA := HPW wa Aa ca HSTA.out (RN.of_own hown); clear hst hown)
                    | (go_at_call 18; (with_reducible refine HPA.out.mono ?_); rintro e wb ⟨rfl, hst⟩; have HSTB := hide (HSTA.out.trans hst); have LD2 := (show _ from ⟨(HM9.out.quiet HSTB.out).c.cell 0, (HM9.out.quiet HSTB.out).c.cell 1, (HM9.out.quiet HSTB.out).c.cell 2, (HM9.out.quiet HSTB.out).c.cell 3, (HM9.out.quiet HSTB.out).c.cell 4, (HM9.out.quiet HSTB.out).c.cell 5, (HM9.out.quiet HSTB.out).c.cell 6, (HM9.out.quiet HSTB.out).c.cell 7, (HM9.out.quiet HSTB.out).c.cell 8⟩ : wb.cell? ⟨g, 0, none⟩ = some (.int .i64 (q : Int)) ∧ wb.cell? ⟨g, 1, none⟩ = some (.int .i64 a1) ∧ wb.cell? ⟨g, 2, none⟩ = some (.int .i64 a2) ∧ wb.cell? ⟨g, 3, none⟩ = some (.int .i64 a3) ∧ wb.cell? ⟨g, 4, none⟩ = some (.int .i64 a4) ∧ wb.cell? ⟨g, 5, none⟩ = some (.int .i64 a5) ∧ wb.cell? ⟨g, 6, none⟩ = some (.int .i64 a6) ∧ wb.cell? ⟨g, 7, none⟩ = some (.slice V' n k') ∧ wb.cell? ⟨g, 8, none⟩ = some (.slice E2 (m + 1) f2)); clear hst))
                all_goals
                  go_wp2_with fail
                  go_meet
                  exact ⟨rfl, rfl, rfl, HSTB⟩
              case rest =>
                obtain ⟨rfl, rfl, rfl, hst⟩ := hcut
                obtain ⟨wd, hwd⟩ : ∃ wd, wd = wc := ⟨_, rfl⟩
                rw [← hwd] at hst ⊢
                have HMD := hide (HM9.out.quiet hst.out)
                have HR7 := hide (HR7.out.st (.inl rfl) hst.out)
                clear hwd hst x0 x1 x2 x3 x4 x5 x6 x7 x8 HPW HEV HMr HM9 HS9 HR6
                rcases HPE.out with hp0 | hp0
                · have e1 : ((p.2.2 : Int) == 0) = true := by simpa using hp0
                  have e2 : ((p.2.2 : Int) != 0) = false := by simp [hp0]
                  go_upto_region 22 with fail
                  have hcs : (El.mk0 11 0 A7 c7 (two set q)).cells = [.int .i64 11, .int .i64 0, .int .i64 0, .int .i64 0, .slice none 0 0, .int .i64 0, .int .i64 0, .int .i64 0, .int .i64 0, .string ⟨#[]⟩, .string ⟨#[]⟩, .string ⟨#[]⟩, .slice A7 q c7] := by simp [El.cells, El.mk0, El.body, El.sides, two_len]
                  have hown : (El.mk0 11 0 A7 c7 (two set q)).Own wd := ⟨by show RN 3 wd A7 (two set q).length (ints (two set q)); rw [two_len]; exact HR7.out, by show (two set q).length * 8 ≤ _; rw [two_len]; omega, RN.none_ rfl, by simp [El.mk0]⟩
                  have HCS := hide hcs
                  have HOWN := hide hown
                  have c8 : wd.cell? ⟨g, 8, none⟩ = some (.slice E2 (m + 1) f2) := HMD.out.c.cell 8
                  have hbw1 : base ≤ wd.heap.size := by have := HMD.out.st.size; have := HW0.out; omega
                  clear hcs hown
                  go_upto_region 23 with (at_builtin; refine wpList_push rfl (.tmp 97) (.tmp 100) _ rfl base 45 i45 _ 13 160 Try.underlying31 I45.out hz45 hs45 hb45 hc45 (by omega) (.slice E2 (m + 1) f2) (m + 1) _ rfl HMD.out.row 1 1 #[.int .i64 11, .int .i64 0, .int .i64 0, .int .i64 0, .slice none 0 0, .int .i64 0, .int .i64 0, .int .i64 0, .int .i64 0, .string ⟨#[]⟩, .string ⟨#[]⟩, .string ⟨#[]⟩, .slice A7 q c7] rfl rfl (by simp [Value.oneCell']) (by omega) (by unfold maxLen; omega) (by omega) hbw1 ?_; intro g6 f3 wD2 hown6 hg6 _ _ _ _; obtain ⟨hmi6, hc6⟩ := MI.push HMD.out HOWN.out rfl (by rw [HCS.out]; exact hown6) (by rw [HCS.out]; exact hg6); have HSE := hide (MI.push_st HMD.out hg6 (.slice (some ⟨g6, 0, none⟩) (m + 1 + 1) f3)); have c8' : wD2.cell? ⟨g, 8, none⟩ = some (.slice E2 (m + 1) f2) := hc6.cell 8; have f8 := hc6.frozen 8; have HME := hide hmi6; clear hmi6 hc6 hown6 hg6 c8)
                  obtain ⟨wE, hw8⟩ : ∃ wX, wX = wD2.setCell ⟨g, 8, none⟩ (.slice (some ⟨g6, 0, none⟩) (m + 1 + 1) f3) := ⟨_, rfl⟩
                  obtain ⟨E3, hE2⟩ : ∃ E2 : Option Addr, E2 = some ⟨g6, 0, none⟩ := ⟨_, rfl⟩
                  rw [← hw8, ← hE2] at HME
                  rw [← hw8] at HSE
                  rw [← hw8, ← hE2]
                  clear hw8 hE2 c8' f8 hbw1 HCS HOWN
                  have HR7 := hide (HR7.out.st (.inl rfl) HSE.out)
                  have hl10 : Hid ((l1 ++ [El.mk0 11 0 A6 c6 (same3 q)] ++ [El.mk0 11 0 A7 c7 (two set q)]).length = m + 1 + 1) := by
                    show _ = _
                    rw [List.length_append, hl9.out]
                    rfl
                  have hp3 : premP ⟨(q : Int), a1, a2, a3, a4, a5, a6, vs⟩ (upto (Cfg.mk (q : Int) a1 a2 a3 a4 a5 a6 vs).nodes.toNat) (l1 ++ [El.mk0 11 0 A6 c6 (same3 q)]) = (p.1, p.2.1, 0) := by
                    rw [HQQ.out, ← HP.out, ← hp0]
                  have HAP : ∀ kk : Int, sideL set kk q ≠ [] → ∃ u g, premP ⟨(q : Int), a1, a2, a3, a4, a5, a6, vs⟩ (sideL set kk q) (l1 ++ [El.mk0 11 0 A6 c6 (same3 q)] ++ [El.mk0 11 0 A7 c7 (two set q)]) = (u, g, 0) ∧ ((sideL set kk q).length < q → u = (m : Int) + 1 + 1 ∧ 1 ≤ g ∧ g ≤ p.2.1) ∧ ((sideL set kk q).length = q → u = p.1 ∧ g = p.2.1) := fun kk hne => by
                    obtain ⟨u, g, h1, h2, h3⟩ := prem_apart (k := kk) (set := set) (e1 := El.mk0 11 0 A6 c6 (same3 q)) (e2 := El.mk0 11 0 A7 c7 (two set q)) HOK.out HF.out (by rw [HLEN.out]; exact hl2) rfl (by rw [HQQ.out]; rfl) rfl (by rw [HQQ.out]; rfl) hp3 (by rw [HQQ.out]; exact hne)
                    rw [HQQ.out] at h1 h2 h3
                    rw [HLEN.out] at h2
                    exact ⟨u, g, h1, fun h => ⟨by have := (h2 h).1; omega, (h2 h).2⟩, h3⟩
                  have HAPH := hide HAP
                  clear HAP hp3 e1 e2 HPE
                  go_wp2_with fail
                  go_loopw [14] (fun kv wr => ∃ (kk : Nat), 1 ≤ kk ∧ kk ≤ 3 ∧ kv = .int .i64 kk ∧ Hid (St (fun _ => False) wE wr)) (fun i _ => 4 - (intOf i).toNat)
                  case atStart => exact ⟨1, by omega, by omega, rfl, St.refl _ _⟩
                  case round =>
                    obtain ⟨kk, hk1, hk3, rfl, hse⟩ := hrel
                    by_cases hlt : kk < 3
                    · have ik : (kk : Int) ≤ 2 := by omega
                      obtain ⟨wR, hwR⟩ : ∃ wR, wR = wr := ⟨_, rfl⟩
                      rw [← hwR] at hse ⊢
                      clear hwR
                      have HMr := hide (HME.out.quiet hse.out)
                      have HR7r := hide (HR7.out.st (.inl rfl) hse.out)
                      obtain ⟨bR, hbR⟩ : ∃ bR, bR = wR.heap.size := ⟨_, rfl⟩
                      have HBR := hide hbR
                      clear hbR
                      go_wp2_with fail
                      go_loopw [15, 16] (fun v15 i wy => ∃ (r : Nat), r ≤ q ∧ i = .int .i64 r ∧ Hid (wy.ownsRow bR 3 1 v15 (sideL set kk r).length (ints (sideL set kk r))) ∧ Hid (Below bR wR wy)) (fun _ i _ => q - (intOf i).toNat)
                      case atStart => exact ⟨0, Nat.zero_le _, rfl, World.ownsRow_nil _ _ _ _, Below.refl _ _⟩
                      case round =>
                        obtain ⟨r, hr, rfl, ho, hbl⟩ := hrel
                        have hsb : St (fun _ => False) wR wr := St.of_below hbl.out (Nat.le_of_eq HBR.out.symm)
                        have HSB := hide hsb
                        have hbw : bR ≤ wr.heap.size := by have := hbl.out.size; have := HBR.out; omega
                        by_cases hlr : r < q
                        · have hr7 : RI wr wr.heap.size A7 q (two set q) := (HR7r.out.st (.inl rfl) hsb).reads (Nat.le_refl _)
                          obtain ⟨ad, rfl, _, hc7⟩ := hr7.at_ hlr
                          rw [nth_two hlr] at hc7
                          have ir : (r : Int) < (q : Int) := by omega
                          have ir0 : (0 : Int) ≤ (r : Int) := by omega
                          have hsl := sideL_succ set kk r
                          have hlen := sideL_len set kk r
                          clear hsb hr7
                          by_cases heq : sideOf set r = (kk : Int)
                          · rw [if_pos heq] at hsl
                            have HSL := hide hsl
                            rw [heq] at hc7
                            clear hsl
                            go_wp2_with (at_builtin; refine wpList_push rfl (.tmp 118) (.tmp 120) _ rfl bR 3 i3 _ 1 8 Try.underlying22 I3.out hz3 hs3 hb3 rfl (by omega) u15 (sideL set kk r).length _ rfl ho.out 1 1 #[.int .i64 (r : Int)] rfl rfl (by simp [Value.oneCell']) (by omega) (by unfold maxLen; omega) (by omega) hbw ?_; intro g8 c8 wz hown8 hg8 hbz _ _ _; have HO8 := hide hown8; have HBZ := hide (hbl.out.trans hbz); clear hown8 hg8 hbz hc7)
                            have hr8 : Hid (wz.ownsRow bR 3 1 (.slice (some ⟨g8, 0, none⟩) ((sideL set kk r).length + 1) c8) (sideL set kk (r + 1)).length (ints (sideL set kk (r + 1)))) := by
                              rw [HSL.out, List.length_append, ints_append]
                              exact HO8.out
                            go_roundw
                            case rel => exact ⟨r + 1, by omega, by go_num, hr8, HBZ⟩
                            case measure => simp [intOf]; omega
                          · rw [if_neg heq] at hsl
                            have HSL := hide hsl
                            have hne : (sideOf set r == (kk : Int)) = false := by simpa using heq
                            clear hsl
                            go_wp2_with fail
                            go_roundw
                            case rel => exact ⟨r + 1, by omega, by go_num, by rw [HSL.out]; exact ho, hbl⟩
                            case measure => simp [intOf]; omega
                        · obtain rfl : r = q := by omega
                          obtain ⟨A8, c8, rfl, _, _⟩ := own_val ho.out
                          have HR8 := hide (RN.of_own ho.out)
                          have HMy := hide (HMr.out.quiet hsb)
                          have HSEy := hide (hse.out.trans hsb)
                          obtain ⟨ls, hls⟩ : ∃ ls, ls = (sideL set kk r).length := ⟨_, rfl⟩
                          have hlsr : ls ≤ r := by rw [hls]; exact sideL_len set kk r
                          rw [← hls] at HR8
                          rw [← hls]
                          by_cases hz0 : ls = 0
                          · subst hz0
                            clear hsb
                            go_wp2_with fail
                            go_roundw
                            case rel => exact ⟨kk + 1, by omega, by omega, by go_num, HSEy⟩
                            case measure => simp [intOf]; omega
                          · have hne : sideL set kk r ≠ [] := fun h => hz0 (by rw [hls, h]; rfl)
                            obtain ⟨u, gg, hP, hA, hB⟩ := HAPH.out kk hne
                            rw [← hls] at hA hB
                            have iz0 : ((ls : Int) == 0) = false := by simp; omega
                            have HPQ := hide (prem_any (r : Int) a1 a2 a3 a4 a5 a6 vs V' k' E3 f3 (l1 ++ [El.mk0 11 0 A6 c6 (same3 r)] ++ [El.mk0 11 0 A7 c7 (two set r)]) A8 c8 wr.heap.size (sideL set kk r) wr (by rw [← HN.out]; exact HMy.out.rn.reads (Nat.le_refl _)) HMy.out.evs (by rw [← hls]; exact HR8.out.reads (Nat.le_refl _)) (Nat.le_refl _) (by have := HN.out; omega) (by rw [hl10.out]; omega) (by rw [← hls]; omega))
                            rw [hP, ← HN.out, ← hls, hl10.out] at HPQ
                            unfold p3 at HPQ
                            obtain ⟨x0, x1, x2, x3, x4, x5, x6, x7, x8⟩ := mm9 HMy.out.c
                            clear hsb hP
                            by_cases hlt9 : ls < r
                            · obtain ⟨rfl, hg1, hg2⟩ := hA hlt9
                              have il : (ls : Int) < (r : Int) := by omega
                              have il2 : ((ls : Int) == (r : Int)) = false := by simp; omega
                              clear hA hB hls
                              go_wp2_with ((go_at_call 18; refine HPQ.out.mono ?_; rintro e wh ⟨rfl, hst⟩; have HSTH := hide (HSEy.out.trans hst); have x8' : wh.cell? ⟨g, 8, none⟩ = some (.slice E3 (m + 1 + 1) f3) := (HMy.out.quiet hst).c.cell 8; clear hst x0 x1 x2 x3 x4 x5 x6 x7 x8))
                              go_roundw
                              case rel => exact ⟨kk + 1, by omega, by omega, by go_num, HSTH⟩
                              case measure => simp [intOf]; omega
                            · obtain rfl : ls = r := by omega
                              obtain ⟨rfl, rfl⟩ := hB rfl
                              clear hA hB hls
                              go_wp2_with ((go_at_call 18; refine HPQ.out.mono ?_; rintro e wh ⟨rfl, hst⟩; have HSTH := hide (HSEy.out.trans hst); have x8' : wh.cell? ⟨g, 8, none⟩ = some (.slice E3 (m + 1 + 1) f3) := (HMy.out.quiet hst).c.cell 8; clear hst x0 x1 x2 x3 x4 x5 x6 x7 x8))
                              go_roundw
                              case rel => exact ⟨kk + 1, by omega, by omega, by go_num, HSTH⟩
                              case measure => simp [intOf]; omega
                    · obtain rfl : kk = 3 := by omega
                      go_wp2_with fail
                      go_ret
                      exact ⟨rfl, (HME.out.quiet hse.out).st.mono fun q' hq h => by have h1 : base ≤ q' := h; have h2 := HW0.out; omega⟩
                · have e1 : ((p.2.2 : Int) == 180) = true := by simpa using hp0
                  have e2 : ((p.2.2 : Int) != 0) = true := by simp [hp0]
                  have e3 : ((p.2.2 : Int) == 0) = false := by simp [hp0]
                  go_wp2_with fail
                  go_ret
                  exact ⟨rfl, HMD.out.st.mono fun q' hq h => by have h1 : base ≤ q' := h; have h2 := HW0.out; omega⟩
  · have he0 := Cfg.err_bad hok
    rw [he0] at HCK
    clear he0 hok
    go_wp2_with ((go_at_call 19; refine HCK.out.mono ?_; rintro e w1 ⟨rfl, hst⟩; have HST1 := hide hst; clear hst y0 y1 y2 y3 y4 y5 y6 y7 y8 y9))
    go_ret
    exact ⟨rfl, HS0.out.trans HST1.out⟩
end Go.Proofs.Ytkcjfiifajjpiaa
