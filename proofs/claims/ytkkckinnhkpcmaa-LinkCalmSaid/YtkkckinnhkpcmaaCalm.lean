/-
  LinkCalm, the walk. (Printed by wip/tools/mkcalm.py.)
-/
import Derived.Test.YtkkckinnhkpcmaaTurn
import Derived.Test.YtkkckinnhkpcmaaSlists
import Derived.Test.YtkkckinnhkpcmaaProg2
set_option linter.unusedVariables false
set_option linter.unusedSimpArgs false
namespace Go.Proofs.Ytkkckinnhkpcmaa
open Go.RowKit Go.WideShapes Go.ChangeShapes Q

/-- Either of two comes next. -/
theorem wpL_two {P : Program} {ops : Array Oper} {Q : Exit → Act → World → Prop} {md : Region.Mode} {S : World → Prop} {sk : List Nat} (i j : Nat) {oi oj : Oper} {fuel : Nat} {listed : Array Bool} {a : Act} {w : World} (hr : Region.ready md ops listed = [i, j]) (hi : ops[i]? = some oi) (hj : ops[j]? = some oj)
    (h1 : ∀ K' : Act → World → Prop, (∀ a w, (sk.contains i = false → S w) → wpL P md ops Q S sk fuel (listed.setIfInBounds i true) a w → K' a w) → if Region.wanted oi (yielded ops a.tmps) = true then Oper.wp P oi a w K' Q else K' (a.put oi.dst undef) w)
    (h2 : ∀ K' : Act → World → Prop, (∀ a w, (sk.contains j = false → S w) → wpL P md ops Q S sk fuel (listed.setIfInBounds j true) a w → K' a w) → if Region.wanted oj (yielded ops a.tmps) = true then Oper.wp P oj a w K' Q else K' (a.put oj.dst undef) w) :
    wpL P md ops Q S sk (fuel + 1) listed a w := by
  refine ⟨fun h0 => (by rw [h0] at hr; cases hr), fun k hk => ?_⟩
  rw [hr] at hk
  have hk' : k = i ∨ k = j := by simpa using hk
  rcases hk' with rfl | rfl
  · exact wpOp_step hi fun K' hK => h1 K' fun a w hS hW => hK a w ⟨hS, hW⟩
  · exact wpOp_step hj fun K' hK => h2 K' fun a w hS hW => hK a w ⟨hS, hW⟩
set_option maxRecDepth 100000 in
set_option maxHeartbeats 2000000 in
theorem calm_walk (wn rn s0 s1 s2 s3 s4 : Int) (A A2 A5 : Option Addr) (n2 n5 c c2 c5 : Nat) (l : List Ai) (w : World) (h0 : -9223372036854775808 ≤ wn) (h1 : wn ≤ 9223372036854775807) (h2 : -9223372036854775808 ≤ rn) (h3 : rn ≤ 9223372036854775807)
    (hA : ActsIn w A l) (hl : l.length ≤ 140737488351232) :
    Calls Try.prog 5 #[.agg #[.int .i64 wn, .int .i64 rn, .slice A2 n2 c2, .slice A l.length c, .int .i64 s0, .int .i64 s1, .int .i64 s2, .int .i64 s3, .int .i64 s4, .slice A5 n5 c5]] w fun e w' => e = .returned (.bool true) ∧ Below w.heap.size w w' := by
  have H0 : St (fun _ => False) w (w.alloc (.cells #[.int .i64 wn, .int .i64 rn, .slice A2 n2 c2, .slice A l.length c, .int .i64 s0, .int .i64 s1, .int .i64 s2, .int .i64 s3, .int .i64 s4, .slice A5 n5 c5] 30)) := (St.refl _ w).alloc _
  have hA0 := hA.st H0
  obtain ⟨W, hW⟩ : ∃ W, W = wndOf wn := ⟨_, rfl⟩
  obtain ⟨Sp, hSp⟩ : ∃ Sp, Sp = spcOf wn rn := ⟨_, rfl⟩
  have hwb := wnd_b wn
  have hsb := spc_b wn rn
  rw [← hW] at hwb hsb
  rw [← hSp] at hsb
  go_enter Try.func5, Try.ntmps5
  go_wp2_with fail
  obtain ⟨w0, hw0⟩ : ∃ w0, w0 = w.alloc (.cells #[.int .i64 wn, .int .i64 rn, .slice A2 n2 c2, .slice A l.length c, .int .i64 s0, .int .i64 s1, .int .i64 s2, .int .i64 s3, .int .i64 s4, .slice A5 n5 c5] 30) := ⟨_, rfl⟩
  rw [← hw0] at H0 hA0 ⊢
  obtain ⟨x, hx⟩ : ∃ x, x = runS W Sp (l.take 400) := ⟨_, rfl⟩
  have hI : Inv W Sp 400 x := by rw [hx]; exact Inv.run hwb.1 hwb.2 l 400
  have HT : Hid (Calls Try.prog 16 #[.int .i64 wn, .int .i64 rn, .slice A l.length c] w0 fun e w' => ∃ wb, e = .returned (.pointer (some ⟨wb, 0, none⟩)) ∧ Made w0 wb W Sp x w') := by
    have hh := talked_any wn rn A c l w0 h0 h1 h2 h3 hA0 hl
    rw [hx, hW, hSp]
    exact hh
  have HI := hide hI
  have HH0 := hide H0
  obtain ⟨m0, hm0⟩ : ∃ m0, m0 = (x.st 0).out.length := ⟨_, rfl⟩
  obtain ⟨m1, hm1⟩ : ∃ m1, m1 = (x.st 1).out.length := ⟨_, rfl⟩
  have hb0 : m0 ≤ Sp := by obtain ⟨p, q, hh⟩ := hI 0 1 rfl; have := hh.room; omega
  have hb1 : m1 ≤ Sp := by obtain ⟨p, q, hh⟩ := hI 1 0 rfl; have := hh.room; omega
  obtain ⟨c0, hc0⟩ : ∃ c0, c0 = (m0 + W - 1) / W := ⟨_, rfl⟩
  obtain ⟨c1, hc1⟩ : ∃ c1, c1 = (m1 + W - 1) / W := ⟨_, rfl⟩
  have hd : ∀ m c : Nat, m ≤ 13 → c = (m + W - 1) / W → ((m : Int) + (W : Int) - 1).tdiv (W : Int) = (c : Int) ∧ IntKind.i64.wrap (c : Int) = (c : Int) ∧ c ≤ 20 := fun m c hm hc => by
    have e1 : ((m : Int) + (W : Int) - 1) = ((m + W - 1 : Nat) : Int) := by omega
    have e2 : (m + W - 1) / W ≤ m + W - 1 := Nat.div_le_self _ _
    have e3 : c ≤ 20 := by omega
    refine ⟨?_, IntWalk.i64_in _ (by constructor <;> omega), e3⟩
    rw [e1, hc, Int.tdiv_eq_ediv_of_nonneg (by omega)]
    exact (Int.natCast_ediv _ _).symm
  obtain ⟨u1, u2, hc0b⟩ := hd m0 c0 (by omega) hc0
  obtain ⟨v1, v2, hc1b⟩ := hd m1 c1 (by omega) hc1
  have HC0 := hide (And.intro u1 u2)
  have HC1 := hide (And.intro v1 v2)
  have HD := hide (And.intro hc0 hc1)
  have HM0 := hide hm0
  have HM1 := hide hm1
  have HB := hide (And.intro hwb hsb)
  have hW1 := hwb.1
  have hW5 := hwb.2
  have hWS := hsb.1
  have hS13 := hsb.2
  clear hw0 hA hA0 H0 h0 h1 h2 h3 hl hwb hsb hW hSp hx hI hm0 hm1 hc0 hc1 hd u1 u2 v1 v2
  go_wp2_with (go_at_call 16; refine HT.out.mono ?_; rintro e w2 ⟨wb, rfl, hm2⟩; have HM2 := hide hm2; clear hm2)
  obtain ⟨o, g, hG, hstG, hoG⟩ := HM2.out
  have HG := hide hG
  clear hG hstG hoG
  go_loopw [4, 5] (fun t i wr => ∃ k tk : Nat, k ≤ 2 ∧ tk ≤ 20 ∧ (1 ≤ k → c0 ≤ tk) ∧ (2 ≤ k → c1 ≤ tk) ∧ i = .int .i64 k ∧ t = .int .i64 tk ∧ ∃ m, wr = w2.drewN m) (fun _ i _ => 2 - (intOf i).toNat)
  case atStart => exact ⟨0, 0, by omega, by omega, fun h => absurd h (by omega), fun h => absurd h (by omega), rfl, rfl, 0, rfl⟩
  case round =>
    obtain ⟨k, tk, hk, htk, ht0, ht1, rfl, rfl, m, rfl⟩ := hrel
    by_cases hk2 : k = 2
    · subst hk2
      have hT0 := ht0 (by omega)
      have hT1 := ht1 (by omega)
      have HTT := hide (And.intro hT0 hT1)
      have HMM := hide (HM2.out.quiet ((St.refl (fun _ => False) w2).drewN m))
      obtain ⟨W0, hW0⟩ : ∃ W0, W0 = w2.drewN m := ⟨_, rfl⟩
      rw [← hW0] at HMM ⊢
      clear ht0 ht1 hk hT0 hT1 hW0
      go_wp2_with fail
      go_loopw [7] (fun i wr => ∃ j : Nat, j ≤ tk ∧ i = .int .i64 j ∧ Hid (Made w0 wb W Sp (turnsS W x j) wr)) (fun i _ => tk - (intOf i).toNat)
      case atStart => exact ⟨0, Nat.zero_le _, rfl, HMM.out⟩
      case round =>
        obtain ⟨j, hj, rfl, hm⟩ := hrel
        by_cases hlt : j < tk
        · have HTU := hide (turn_any w0 wr wb W Sp _ _ hm.out (HI.out.turns hW5 j) (by omega) hW5)
          clear hm
          go_wp2_with (go_at_call 22; refine HTU.out.mono ?_; rintro e w4 ⟨rfl, hm4⟩; have HM4 := hide hm4; clear hm4)
          go_roundw
          case rel => first | exact ⟨j + 1, by omega, by go_num, HM4⟩ | ((repeat apply Exists.intro); exact ⟨⟨j + 1, by omega, by go_num, HM4⟩, rfl⟩)
          case measure => simp [intOf]; omega
        · obtain rfl : j = tk := by omega
          obtain ⟨x2, hx2⟩ : ∃ x2, x2 = turnsS W x j := ⟨_, rfl⟩
          have hI2 : Inv W Sp (400 + 4 * j) x2 := by rw [hx2]; exact HI.out.turns hW5 j
          obtain ⟨t1, t2, t3⟩ := turns_prog HI.out hW5 j
          rw [← hx2] at t1 t2 t3
          have z0 : (x2.st 0).out.length = 0 := by
            have := enough (m := m0) hW1 (by rw [← HD.out.1]; exact HTT.out.1)
            rw [← HM0.out] at t2
            omega
          have z1 : (x2.st 1).out.length = 0 := by
            have := enough (m := m1) hW1 (by rw [← HD.out.2]; exact HTT.out.2)
            rw [← HM1.out] at t3
            omega
          have HX2 : Hid ((∀ s t, s + t = 1 → x2.O t = x2.P s) ∧ ∀ s, s < 2 → (x2.st s).out.length = 0) := by
            have zz : ∀ s, s < 2 → (x2.st s).out.length = 0 := fun s hs => by
              have hs' : s = 0 ∨ s = 1 := by omega
              rcases hs' with rfl | rfl
              · exact z0
              · exact z1
            exact ⟨fun s t hst => hI2.all_out hst (zz s (by omega)), zz⟩
          have HI2 := hide hI2
          rw [← hx2] at hm
          clear hx2 hI2 t1 t2 t3 z0 z1
          obtain ⟨wo, hwo⟩ : ∃ wo, wo = wr := ⟨_, rfl⟩
          rw [← hwo] at hm ⊢
          clear hwo
          have HME := hide hm.out
          clear hm
          go_wp2_with fail
          go_loopw [8] (fun i wr => ∃ k : Nat, k ≤ 2 ∧ i = .int .i64 k ∧ Hid (Made w0 wb W Sp x2 wr)) (fun i _ => 2 - (intOf i).toNat)
          case atStart => exact ⟨0, by omega, rfl, HME.out⟩
          case round =>
            obtain ⟨k, hk, rfl, hm⟩ := hrel
            by_cases hk2 : k = 2
            · subst hk2
              have HTA := hide (turn_any w0 wr wb W Sp _ _ hm.out HI2.out (by omega) hW5)
              obtain ⟨x3, hx3⟩ : ∃ x3, x3 = turnS W x2 := ⟨_, rfl⟩
              obtain ⟨y1, y2, y3⟩ := turn_prog HI2.out hW5
              have hI3 := HI2.out.turn hW5
              rw [← hx3] at HTA y1 y2 y3 hI3
              have z3 : (x3.st 0).out.length = 0 := by
                have := HX2.out.2 0 (by omega)
                omega
              have hI4 := hI3.push 0 (by omega) [1]
              have z4 : ((pushS Sp x3 0 [1]).st 0).out.length = 1 := by rw [pushS_out (by omega), z3]
              obtain ⟨x5, hx5⟩ : ∃ x5, x5 = turnS W (pushS Sp x3 0 [1]) := ⟨_, rfl⟩
              have hI5 := hI4.turn hW5
              obtain ⟨q1, q2, q3⟩ := turn_prog hI4 hW5
              rw [← hx5] at hI5 q1 q2 q3
              have z5 : x5.O 1 = x5.P 0 := hI5.all_out rfl (by omega)
              have HPL : ∀ V, Made w0 wb W Sp x3 V → Hid (Calls Try.prog 17 #[.pointer (some ⟨wb, 0, none⟩), .int .i64 0, .slice (some ⟨V.heap.size, 0, none⟩) 1 1] ((V.alloc (.cells #[.int .u8 1] 5)).drew) fun e w' => e = .returned (.bool true) ∧ Made w0 wb W Sp (pushS Sp x3 0 [1]) w') := fun V hV =>
                (hV.quiet (St.refl (fun _ => False) V).drew).pushLit hI3 (by omega) (s := 0) (by omega) [1] (by simp)
              have HTB : ∀ V, Made w0 wb W Sp (pushS Sp x3 0 [1]) V → Hid (Calls Try.prog 22 #[.pointer (some ⟨wb, 0, none⟩)] V fun e w' => e = .returned (.bool true) ∧ Made w0 wb W Sp x5 w') := fun V hV => by
                have hh := turn_any w0 V wb W Sp _ _ hV hI4 (by omega) hW5
                rw [← hx5] at hh
                exact hh
              have HEND : ∀ V, Made w0 wb W Sp x5 V → ∃ AO cO AP cP nl, V.cell? ⟨wb, 7, none⟩ = some (.slice AO nl cO) ∧ V.cell? ⟨wb, 4, none⟩ = some (.slice AP nl cP) ∧ Hid (Calls Try.prog 23 #[.slice AO nl cO, .slice AP nl cP] V fun r w' => r = .returned (.bool true) ∧ ∃ k, w' = V.drewN k) := fun V hV => by
                obtain ⟨o, g, hA, hst, ho⟩ := hV
                obtain ⟨p9, q9, hh9⟩ := hI5 0 1 rfl
                have hcP := hh9.cP
                have hO : BRow V _ (g.row 1 1) (x5.O 1) := hA.row 1 1 (by omega) (by omega)
                have hP : BRow V _ (g.row 0 0) (x5.P 0) := hA.row 0 0 (by omega) (by omega)
                rw [z5] at hO
                obtain ⟨AO, cO, _, eO, _⟩ := BRow.val hO
                obtain ⟨AP, cP, _, eP, _⟩ := BRow.val hP
                have kO : V.cell? ⟨wb, 7, none⟩ = some (g.row 1 1) := hA.cellR 1 1 (by omega) (by omega)
                have kP : V.cell? ⟨wb, 4, none⟩ = some (g.row 0 0) := hA.cellR 0 0 (by omega) (by omega)
                have hc := lists_any _ _ _ V _ _ hO hP (fun y hy => by have := (hh9.len y hy).2; omega) (by omega)
                rw [eO] at kO
                rw [eP] at kP
                rw [eO, eP] at hc
                exact ⟨AO, cO, AP, cP, _, kO, kP, hc⟩
              have HE := hide HEND
              clear hm hx3 y1 y2 y3 hI3 z3 hI4 z4 hx5 hI5 q1 q2 q3 z5 HEND
              go_wp2_with (go_at_call 22; refine HTA.out.mono ?_; rintro e w4 ⟨rfl, hm4⟩; have HM4 := hide hm4; have HP4 := HPL w4 hm4; clear hm4)
              refine wp_region_L [] (fun _ => True) (by kernel_rfl) ?_
              refine wpL_take 0 (oi := ⟨some 93, _, _, _, _, _⟩) (v := ?_) rfl (by kernel_rfl) (by kernel_rfl) (by kernel_rfl) (by kernel_rfl) (fun _ _ _ h => h) (Or.inl ⟨by rfl, ?_⟩) trivial ?_
              rotate_left
              · intro V _
                go_simp
                try with_reducible rfl
              try simp only [Act.put, List.setIfInBounds_toArray, List.set_cons_zero, List.set_cons_succ]
              refine wpL_take 1 (oi := ⟨some 94, _, _, _, _, _⟩) (v := ?_) rfl (by kernel_rfl) (by kernel_rfl) (by kernel_rfl) (by kernel_rfl) (fun _ _ _ h => h) (Or.inl ⟨by rfl, ?_⟩) trivial ?_
              rotate_left
              · intro V _
                go_simp
                try with_reducible rfl
              try simp only [Act.put, List.setIfInBounds_toArray, List.set_cons_zero, List.set_cons_succ]
              refine wpL_take 2 (oi := ⟨some 95, _, _, _, _, _⟩) (v := ?_) rfl (by kernel_rfl) (by kernel_rfl) (by kernel_rfl) (by kernel_rfl) (fun _ _ _ h => h) (Or.inl ⟨by rfl, ?_⟩) trivial ?_
              rotate_left
              · intro V _
                go_simp
                try with_reducible rfl
              try simp only [Act.put, List.setIfInBounds_toArray, List.set_cons_zero, List.set_cons_succ]
              refine wpL_one 3 (by kernel_rfl) rfl (fun K hK => ?_)
              rw [if_pos (by rfl)]
              go_simp
              refine hK _ _ (fun _ => trivial) ?_
              clear hK K
              try simp only [Act.put, List.setIfInBounds_toArray, List.set_cons_zero, List.set_cons_succ]
              refine wpL_one 4 (by kernel_rfl) rfl (fun K hK => ?_)
              rw [if_pos (by rfl)]
              go_simp
              go_at_call 17
              refine HP4.out.mono ?_
              rintro e w5 ⟨rfl, hm5⟩
              have HB5 := HTB w5 hm5
              clear hm5
              refine hK _ _ (fun _ => trivial) ?_
              clear hK K
              try simp only [Act.put, List.setIfInBounds_toArray, List.set_cons_zero, List.set_cons_succ]
              refine wpL_take 5 (oi := ⟨some 98, _, _, _, _, _⟩) (v := ?_) rfl (by kernel_rfl) (by kernel_rfl) (by kernel_rfl) (by kernel_rfl) (fun _ _ _ h => h) (Or.inl ⟨by rfl, ?_⟩) trivial ?_
              rotate_left
              · intro V _
                go_simp
                try with_reducible rfl
              try simp only [Act.put, List.setIfInBounds_toArray, List.set_cons_zero, List.set_cons_succ]
              refine wpL_take 6 (oi := ⟨some 99, _, _, _, _, _⟩) (v := ?_) rfl (by kernel_rfl) (by kernel_rfl) (by kernel_rfl) (by kernel_rfl) (fun _ _ _ h => h) (Or.inl ⟨by rfl, ?_⟩) trivial ?_
              rotate_left
              · intro V _
                go_simp
                try with_reducible rfl
              try simp only [Act.put, List.setIfInBounds_toArray, List.set_cons_zero, List.set_cons_succ]
              refine wpL_take 7 (oi := ⟨some 100, _, _, _, _, _⟩) (v := ?_) rfl (by kernel_rfl) (by kernel_rfl) (by kernel_rfl) (by kernel_rfl) (fun _ _ _ h => h) (Or.inl ⟨by rfl, ?_⟩) trivial ?_
              rotate_left
              · intro V _
                go_simp
                try with_reducible rfl
              try simp only [Act.put, List.setIfInBounds_toArray, List.set_cons_zero, List.set_cons_succ]
              refine wpL_one 8 (by kernel_rfl) rfl (fun K hK => ?_)
              rw [if_pos (by rfl)]
              go_simp
              go_at_call 22
              refine HB5.out.mono ?_
              rintro e w6 ⟨rfl, hm6⟩
              obtain ⟨AO, cO, AP, cP, nl, kO, kP, HSL⟩ := HE.out w6 hm6
              have HST6 := hide hm6.st
              clear hm6
              refine hK _ _ (fun _ => trivial) ?_
              clear hK K
              try simp only [Act.put, List.setIfInBounds_toArray, List.set_cons_zero, List.set_cons_succ]
              refine wpL_take 9 (oi := ⟨some 102, _, _, _, _, _⟩) (v := ?_) rfl (by kernel_rfl) (by kernel_rfl) (by kernel_rfl) (by kernel_rfl) (fun _ _ _ h => h) (Or.inl ⟨by rfl, ?_⟩) trivial ?_
              rotate_left
              · intro V _
                go_simp
                try with_reducible rfl
              try simp only [Act.put, List.setIfInBounds_toArray, List.set_cons_zero, List.set_cons_succ]
              refine wpL_take 10 (oi := ⟨some 103, _, _, _, _, _⟩) (v := ?_) rfl (by kernel_rfl) (by kernel_rfl) (by kernel_rfl) (by kernel_rfl) (fun _ _ _ h => h) (Or.inl ⟨by rfl, ?_⟩) trivial ?_
              rotate_left
              · intro V _
                go_simp
                try with_reducible rfl
              try simp only [Act.put, List.setIfInBounds_toArray, List.set_cons_zero, List.set_cons_succ]
              refine wpL_take 11 (oi := ⟨some 104, _, _, _, _, _⟩) (v := ?_) rfl (by kernel_rfl) (by kernel_rfl) (by kernel_rfl) (by kernel_rfl) (fun _ _ _ h => h) (Or.inl ⟨by rfl, ?_⟩) trivial ?_
              rotate_left
              · intro V _
                go_simp
                try with_reducible rfl
              try simp only [Act.put, List.setIfInBounds_toArray, List.set_cons_zero, List.set_cons_succ]
              refine wpL_take 12 (oi := ⟨some 105, _, _, _, _, _⟩) (v := ?_) rfl (by kernel_rfl) (by kernel_rfl) (by kernel_rfl) (by kernel_rfl) (fun _ _ _ h => h) (Or.inl ⟨by rfl, ?_⟩) trivial ?_
              rotate_left
              · intro V _
                go_simp
                try with_reducible rfl
              try simp only [Act.put, List.setIfInBounds_toArray, List.set_cons_zero, List.set_cons_succ]
              refine wpL_take 13 (oi := ⟨some 106, _, _, _, _, _⟩) (v := ?_) rfl (by kernel_rfl) (by kernel_rfl) (by kernel_rfl) (by kernel_rfl) (fun _ _ _ h => h) (Or.inl ⟨by rfl, ?_⟩) trivial ?_
              rotate_left
              · intro V _
                go_simp
                try with_reducible rfl
              try simp only [Act.put, List.setIfInBounds_toArray, List.set_cons_zero, List.set_cons_succ]
              refine wpL_take 14 (oi := ⟨some 107, _, _, _, _, _⟩) (v := ?_) rfl (by kernel_rfl) (by kernel_rfl) (by kernel_rfl) (by kernel_rfl) (fun _ _ _ h => h) (Or.inl ⟨by rfl, ?_⟩) trivial ?_
              rotate_left
              · intro V _
                go_simp
                try with_reducible rfl
              try simp only [Act.put, List.setIfInBounds_toArray, List.set_cons_zero, List.set_cons_succ]
              refine wpL_take 16 (oi := ⟨some 109, _, _, _, _, _⟩) (v := ?_) rfl (by kernel_rfl) (by kernel_rfl) (by kernel_rfl) (by kernel_rfl) (fun _ _ _ h => h) (Or.inl ⟨by rfl, ?_⟩) trivial ?_
              rotate_left
              · intro V _
                go_simp
                try with_reducible rfl
              try simp only [Act.put, List.setIfInBounds_toArray, List.set_cons_zero, List.set_cons_succ]
              refine wpL_take 17 (oi := ⟨some 110, _, _, _, _, _⟩) (v := ?_) rfl (by kernel_rfl) (by kernel_rfl) (by kernel_rfl) (by kernel_rfl) (fun _ _ _ h => h) (Or.inl ⟨by rfl, ?_⟩) trivial ?_
              rotate_left
              · intro V _
                go_simp
                try with_reducible rfl
              try simp only [Act.put, List.setIfInBounds_toArray, List.set_cons_zero, List.set_cons_succ]
              refine wpL_take 18 (oi := ⟨some 111, _, _, _, _, _⟩) (v := ?_) rfl (by kernel_rfl) (by kernel_rfl) (by kernel_rfl) (by kernel_rfl) (fun _ _ _ h => h) (Or.inl ⟨by rfl, ?_⟩) trivial ?_
              rotate_left
              · intro V _
                go_simp
                try with_reducible rfl
              try simp only [Act.put, List.setIfInBounds_toArray, List.set_cons_zero, List.set_cons_succ]
              refine wpL_take 19 (oi := ⟨some 112, _, _, _, _, _⟩) (v := ?_) rfl (by kernel_rfl) (by kernel_rfl) (by kernel_rfl) (by kernel_rfl) (fun _ _ _ h => h) (Or.inl ⟨by rfl, ?_⟩) trivial ?_
              rotate_left
              · intro V _
                go_simp
                try with_reducible rfl
              try simp only [Act.put, List.setIfInBounds_toArray, List.set_cons_zero, List.set_cons_succ]
              refine wpL_two 15 20 (by kernel_rfl) rfl rfl (fun K hK => ?_) (fun K hK => ?_)
              · rw [if_pos (by rfl)]
                go_simp
                refine hK _ _ (fun _ => trivial) ?_
                clear hK K
                try simp only [Act.put, List.setIfInBounds_toArray, List.set_cons_zero, List.set_cons_succ]
                refine wpL_one 20 (by kernel_rfl) rfl (fun K hK => ?_)
                rw [if_pos (by rfl)]
                go_simp
                refine hK _ _ (fun _ => trivial) ?_
                clear hK K
                try simp only [Act.put, List.setIfInBounds_toArray, List.set_cons_zero, List.set_cons_succ]
                refine wpL_one 21 (by kernel_rfl) rfl (fun K hK => ?_)
                rw [if_pos (by rfl)]
                go_simp
                go_at_call 23
                refine HSL.out.mono ?_
                rintro e w7 ⟨rfl, nn, rfl⟩
                refine hK _ _ (fun _ => trivial) ?_
                clear hK K
                try simp only [Act.put, List.setIfInBounds_toArray, List.set_cons_zero, List.set_cons_succ]
                refine wpL_take 22 (oi := ⟨some 115, _, _, _, _, _⟩) (v := ?_) rfl (by kernel_rfl) (by kernel_rfl) (by kernel_rfl) (by kernel_rfl) (fun _ _ _ h => h) (Or.inl ⟨by rfl, ?_⟩) trivial ?_
                rotate_left
                · intro V _
                  go_simp
                  try with_reducible rfl
                try simp only [Act.put, List.setIfInBounds_toArray, List.set_cons_zero, List.set_cons_succ]
                refine wpL_one 23 (by kernel_rfl) rfl (fun K hK => ?_)
                rw [if_pos (by rfl)]
                go_simp
                refine hK _ _ (fun _ => trivial) ?_
                clear hK K
                try simp only [Act.put, List.setIfInBounds_toArray, List.set_cons_zero, List.set_cons_succ]
                refine wpL_done (by kernel_rfl) ?_ _
                go_wp2
                go_ret
                exact ⟨rfl, ((HH0.out.trans HST6.out).drewN _).only.below (Nat.le_refl _) (fun _ _ e => e)⟩
              · rw [if_pos (by rfl)]
                go_simp
                refine hK _ _ (fun _ => trivial) ?_
                clear hK K
                try simp only [Act.put, List.setIfInBounds_toArray, List.set_cons_zero, List.set_cons_succ]
                refine wpL_one 15 (by kernel_rfl) rfl (fun K hK => ?_)
                rw [if_pos (by rfl)]
                go_simp
                refine hK _ _ (fun _ => trivial) ?_
                clear hK K
                try simp only [Act.put, List.setIfInBounds_toArray, List.set_cons_zero, List.set_cons_succ]
                refine wpL_one 21 (by kernel_rfl) rfl (fun K hK => ?_)
                rw [if_pos (by rfl)]
                go_simp
                go_at_call 23
                refine HSL.out.mono ?_
                rintro e w7 ⟨rfl, nn, rfl⟩
                refine hK _ _ (fun _ => trivial) ?_
                clear hK K
                try simp only [Act.put, List.setIfInBounds_toArray, List.set_cons_zero, List.set_cons_succ]
                refine wpL_take 22 (oi := ⟨some 115, _, _, _, _, _⟩) (v := ?_) rfl (by kernel_rfl) (by kernel_rfl) (by kernel_rfl) (by kernel_rfl) (fun _ _ _ h => h) (Or.inl ⟨by rfl, ?_⟩) trivial ?_
                rotate_left
                · intro V _
                  go_simp
                  try with_reducible rfl
                try simp only [Act.put, List.setIfInBounds_toArray, List.set_cons_zero, List.set_cons_succ]
                refine wpL_one 23 (by kernel_rfl) rfl (fun K hK => ?_)
                rw [if_pos (by rfl)]
                go_simp
                refine hK _ _ (fun _ => trivial) ?_
                clear hK K
                try simp only [Act.put, List.setIfInBounds_toArray, List.set_cons_zero, List.set_cons_succ]
                refine wpL_done (by kernel_rfl) ?_ _
                go_wp2
                go_ret
                exact ⟨rfl, ((HH0.out.trans HST6.out).drewN _).only.below (Nat.le_refl _) (fun _ _ e => e)⟩
            · have hk3 : k = 0 ∨ k = 1 := by omega
              clear hk2 hk
              rcases hk3 with rfl | rfl
              · obtain ⟨o, g, hA, hst, ho⟩ := hm.out
                have hOP : x2.O 1 = x2.P 0 := HX2.out.1 0 1 rfl
                have h0 : (x2.st 0).out.length = 0 := HX2.out.2 0 (by omega)
                have HA := hide hA
                obtain ⟨p1, q1, hh1⟩ := HI2.out 0 1 rfl
                have hcP := hh1.cP
                have hlen := fun y hy => (hh1.len y hy).2
                obtain ⟨vO, hvO⟩ : ∃ vO, vO = g.row 1 1 := ⟨_, rfl⟩
                obtain ⟨vP, hvP⟩ : ∃ vP, vP = g.row 0 0 := ⟨_, rfl⟩
                have HSL : ∀ n', Hid (Calls Try.prog 23 #[vO, vP] (wr.drewN n') fun r w' => r = .returned (.bool true) ∧ ∃ k, w' = (wr.drewN n').drewN k) := fun n' => by
                  have hq := HA.out.quiet ((St.refl (fun _ => False) wr).drewN n')
                  have hO : BRow (wr.drewN n') _ (g.row 1 1) (x2.O 1) := hq.row 1 1 (by omega) (by omega)
                  have hP : BRow (wr.drewN n') _ (g.row 0 0) (x2.P 0) := hq.row 0 0 (by omega) (by omega)
                  rw [hOP] at hO
                  rw [hvO, hvP]
                  exact lists_any _ _ _ _ _ _ hO hP (fun y hy => by have := hlen y hy; omega) (by omega)
                have HRM : ∀ n', Hid (Calls Try.prog 24 #[.pointer (some ⟨g.m 0, 0, none⟩), .int .i64 5] (wr.drewN n') fun r w' => r = .returned (.int .i64 (Sp : Int)) ∧ ∃ k, w' = (wr.drewN n').drewN k) := fun n' => by
                  have hh := (HA.out.quiet ((St.refl (fun _ => False) wr).drewN n')).room HI2.out (by omega) (s := 0) (by omega) (p := 5) rfl
                  rw [h0, show (Sp : Int) - ((0 : Nat) : Int) = (Sp : Int) by omega] at hh
                  exact hh
                have kM : wr.cell? ⟨wb, 0, none⟩ = some (.pointer (some ⟨g.m 0, 0, none⟩)) := HA.out.cellM 0 (by omega)
                have kN : wr.cell? ⟨wb, 3, none⟩ = some (.int .i64 (Sp : Int)) := HA.out.cellN.2
                have kO : wr.cell? ⟨wb, 7, none⟩ = some vO := by rw [hvO]; exact HA.out.cellR 1 1 (by omega) (by omega)
                have kP : wr.cell? ⟨wb, 4, none⟩ = some vP := by rw [hvP]; exact HA.out.cellR 0 0 (by omega) (by omega)
                obtain ⟨AO, cO, _, eO, _⟩ := BRow.val (show BRow wr _ vO (x2.O 1) by rw [hvO]; exact HA.out.row 1 1 (by omega) (by omega))
                obtain ⟨AP, cP, _, eP, _⟩ := BRow.val (show BRow wr _ vP (x2.P 0) by rw [hvP]; exact HA.out.row 0 0 (by omega) (by omega))
                have wz0 : IntKind.i64.wrap 0 = 0 := by kernel_rfl
                have wz1 : IntKind.i64.wrap 1 = 1 := by kernel_rfl
                have hnn : ((Sp : Int) != (Sp : Int)) = false := by simp
                clear hA hst ho hOP h0 hh1 hlen hvO hvP eO eP
                go_wp2_with fail
                go_quiet ((first | (go_at_call 23; exact Calls.quiet_of ((HSL _).out)) | (go_at_call 21; exact quiet_left (pid1 _)) | (go_at_call 24; exact Calls.quiet_of ((HRM _).out))))
                go_wp2
                go_roundw
                case rel => exact ⟨1, by omega, by go_num, hide (hm.out.quiet ((St.refl (fun _ => False) wr).drewN _))⟩
                case measure => simp [intOf]
              · obtain ⟨o, g, hA, hst, ho⟩ := hm.out
                have hOP : x2.O 0 = x2.P 1 := HX2.out.1 1 0 rfl
                have h0 : (x2.st 1).out.length = 0 := HX2.out.2 1 (by omega)
                have HA := hide hA
                obtain ⟨p1, q1, hh1⟩ := HI2.out 1 0 rfl
                have hcP := hh1.cP
                have hlen := fun y hy => (hh1.len y hy).2
                obtain ⟨vO, hvO⟩ : ∃ vO, vO = g.row 1 0 := ⟨_, rfl⟩
                obtain ⟨vP, hvP⟩ : ∃ vP, vP = g.row 0 1 := ⟨_, rfl⟩
                have HSL : ∀ n', Hid (Calls Try.prog 23 #[vO, vP] (wr.drewN n') fun r w' => r = .returned (.bool true) ∧ ∃ k, w' = (wr.drewN n').drewN k) := fun n' => by
                  have hq := HA.out.quiet ((St.refl (fun _ => False) wr).drewN n')
                  have hO : BRow (wr.drewN n') _ (g.row 1 0) (x2.O 0) := hq.row 1 0 (by omega) (by omega)
                  have hP : BRow (wr.drewN n') _ (g.row 0 1) (x2.P 1) := hq.row 0 1 (by omega) (by omega)
                  rw [hOP] at hO
                  rw [hvO, hvP]
                  exact lists_any _ _ _ _ _ _ hO hP (fun y hy => by have := hlen y hy; omega) (by omega)
                have HRM : ∀ n', Hid (Calls Try.prog 24 #[.pointer (some ⟨g.m 1, 0, none⟩), .int .i64 2] (wr.drewN n') fun r w' => r = .returned (.int .i64 (Sp : Int)) ∧ ∃ k, w' = (wr.drewN n').drewN k) := fun n' => by
                  have hh := (HA.out.quiet ((St.refl (fun _ => False) wr).drewN n')).room HI2.out (by omega) (s := 1) (by omega) (p := 2) rfl
                  rw [h0, show (Sp : Int) - ((0 : Nat) : Int) = (Sp : Int) by omega] at hh
                  exact hh
                have kM : wr.cell? ⟨wb, 1, none⟩ = some (.pointer (some ⟨g.m 1, 0, none⟩)) := HA.out.cellM 1 (by omega)
                have kN : wr.cell? ⟨wb, 3, none⟩ = some (.int .i64 (Sp : Int)) := HA.out.cellN.2
                have kO : wr.cell? ⟨wb, 6, none⟩ = some vO := by rw [hvO]; exact HA.out.cellR 1 0 (by omega) (by omega)
                have kP : wr.cell? ⟨wb, 5, none⟩ = some vP := by rw [hvP]; exact HA.out.cellR 0 1 (by omega) (by omega)
                obtain ⟨AO, cO, _, eO, _⟩ := BRow.val (show BRow wr _ vO (x2.O 0) by rw [hvO]; exact HA.out.row 1 0 (by omega) (by omega))
                obtain ⟨AP, cP, _, eP, _⟩ := BRow.val (show BRow wr _ vP (x2.P 1) by rw [hvP]; exact HA.out.row 0 1 (by omega) (by omega))
                have wz0 : IntKind.i64.wrap 0 = 0 := by kernel_rfl
                have wz1 : IntKind.i64.wrap 1 = 1 := by kernel_rfl
                have hnn : ((Sp : Int) != (Sp : Int)) = false := by simp
                clear hA hst ho hOP h0 hh1 hlen hvO hvP eO eP
                go_wp2_with fail
                go_quiet ((first | (go_at_call 23; exact Calls.quiet_of ((HSL _).out)) | (go_at_call 21; exact quiet_left (pid0 _)) | (go_at_call 24; exact Calls.quiet_of ((HRM _).out))))
                go_wp2
                go_roundw
                case rel => exact ⟨2, by omega, by go_num, hide (hm.out.quiet ((St.refl (fun _ => False) wr).drewN _))⟩
                case measure => simp [intOf]
    · have hk3 : k = 0 ∨ k = 1 := by omega
      clear hk2 hk
      rcases hk3 with rfl | rfl
      · have HWT : ∀ n', Hid (Calls Try.prog 20 #[.pointer (some ⟨g.m 0, 0, none⟩), .int .i64 5] ((w2.drewN m).drewN n') fun r w' => r = .returned (.int .i64 (m0 : Int)) ∧ (w2.drewN m).drewN n' = w') := fun n' => by
          have hh := (HG.out.quiet (((St.refl (fun _ => False) w2).drewN m).drewN n')).waiting HI.out (by omega) (s := 0) (by omega) (p := 5) rfl
          rw [← HM0.out] at hh
          exact hh
        have kM : (w2.drewN m).cell? ⟨wb, 0, none⟩ = some (.pointer (some ⟨g.m 0, 0, none⟩)) := HG.out.cellM 0 (by omega)
        have kN : (w2.drewN m).cell? ⟨wb, 2, none⟩ = some (.int .i64 (W : Int)) := HG.out.cellN.1
        obtain ⟨W0, hW0⟩ : ∃ W0, W0 = w2.drewN m := ⟨_, rfl⟩
        rw [← hW0] at HWT kM kN ⊢
        have HW0 := hide hW0
        have wz0 : IntKind.i64.wrap 0 = 0 := by kernel_rfl
        have wz1 : IntKind.i64.wrap 1 = 1 := by kernel_rfl
        have hq1 : IntKind.i64.wrap ((m0 : Int) + (W : Int)) = (m0 : Int) + (W : Int) := IntWalk.i64_in _ (by constructor <;> omega)
        have hq2 : IntKind.i64.wrap ((m0 : Int) + (W : Int) - 1) = (m0 : Int) + (W : Int) - 1 := IntWalk.i64_in _ (by constructor <;> omega)
        have hq3 : ((m0 : Int) + (W : Int) - 1).tdiv (W : Int) = (c0 : Int) := HC0.out.1
        have hq4 : IntKind.i64.wrap (c0 : Int) = (c0 : Int) := HC0.out.2
        have hne : ((W : Int) == 0) = false := by rw [beq_eq_false_iff_ne]; omega
        have hne1 : ¬ (W : Int) = 0 := by omega
        clear hW0
        go_wp2_with fail
        go_quiet ((first | (go_at_call 21; exact quiet_left (pid1 _)) | (go_at_call 20; exact quiet_left ((HWT _).out))))
        clear hq1 hq2 hq3 hq4 hne hne1 wz0 wz1
        rcases Nat.lt_or_ge tk c0 with hmx | hmx
        all_goals
          go_wp2
          go_roundw
          case rel => first | exact ⟨1, c0, by omega, by omega, by omega, by omega, by go_num, by go_num, by rw [HW0.out]; simp only [World.drewN_drewN]; exact ⟨_, rfl⟩⟩ | exact ⟨1, tk, by omega, by omega, by omega, by omega, by go_num, by go_num, by rw [HW0.out]; simp only [World.drewN_drewN]; exact ⟨_, rfl⟩⟩
          case measure => simp [intOf]
      · have HWT : ∀ n', Hid (Calls Try.prog 20 #[.pointer (some ⟨g.m 1, 0, none⟩), .int .i64 2] ((w2.drewN m).drewN n') fun r w' => r = .returned (.int .i64 (m1 : Int)) ∧ (w2.drewN m).drewN n' = w') := fun n' => by
          have hh := (HG.out.quiet (((St.refl (fun _ => False) w2).drewN m).drewN n')).waiting HI.out (by omega) (s := 1) (by omega) (p := 2) rfl
          rw [← HM1.out] at hh
          exact hh
        have kM : (w2.drewN m).cell? ⟨wb, 1, none⟩ = some (.pointer (some ⟨g.m 1, 0, none⟩)) := HG.out.cellM 1 (by omega)
        have kN : (w2.drewN m).cell? ⟨wb, 2, none⟩ = some (.int .i64 (W : Int)) := HG.out.cellN.1
        obtain ⟨W0, hW0⟩ : ∃ W0, W0 = w2.drewN m := ⟨_, rfl⟩
        rw [← hW0] at HWT kM kN ⊢
        have HW0 := hide hW0
        have wz0 : IntKind.i64.wrap 0 = 0 := by kernel_rfl
        have wz1 : IntKind.i64.wrap 1 = 1 := by kernel_rfl
        have hq1 : IntKind.i64.wrap ((m1 : Int) + (W : Int)) = (m1 : Int) + (W : Int) := IntWalk.i64_in _ (by constructor <;> omega)
        have hq2 : IntKind.i64.wrap ((m1 : Int) + (W : Int) - 1) = (m1 : Int) + (W : Int) - 1 := IntWalk.i64_in _ (by constructor <;> omega)
        have hq3 : ((m1 : Int) + (W : Int) - 1).tdiv (W : Int) = (c1 : Int) := HC1.out.1
        have hq4 : IntKind.i64.wrap (c1 : Int) = (c1 : Int) := HC1.out.2
        have hne : ((W : Int) == 0) = false := by rw [beq_eq_false_iff_ne]; omega
        have hne1 : ¬ (W : Int) = 0 := by omega
        clear hW0
        go_wp2_with fail
        go_quiet ((first | (go_at_call 21; exact quiet_left (pid0 _)) | (go_at_call 20; exact quiet_left ((HWT _).out))))
        clear hq1 hq2 hq3 hq4 hne hne1 wz0 wz1
        rcases Nat.lt_or_ge tk c1 with hmx | hmx
        all_goals
          go_wp2
          go_roundw
          case rel => first | exact ⟨2, c1, by omega, by omega, by omega, by omega, by go_num, by go_num, by rw [HW0.out]; simp only [World.drewN_drewN]; exact ⟨_, rfl⟩⟩ | exact ⟨2, tk, by omega, by omega, by omega, by omega, by go_num, by go_num, by rw [HW0.out]; simp only [World.drewN_drewN]; exact ⟨_, rfl⟩⟩
          case measure => simp [intOf]
end Go.Proofs.Ytkkckinnhkpcmaa
