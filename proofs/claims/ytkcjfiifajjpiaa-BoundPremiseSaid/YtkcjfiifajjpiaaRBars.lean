/-
  Contract of the reference's bars. (Printed by wip/tools/mkbars.py.)
-/
import Derived.Test.YtkcjfiifajjpiaaPlainR
set_option linter.unusedVariables false
set_option linter.unusedSimpArgs false
namespace Go.Proofs.Ytkcjfiifajjpiaa
open Go.RowKit Go.WideShapes Go.ChangeShapes Q

theorem inK_len (set : List Int) (q : Nat) : inK set set.length q = set.contains (q : Int) := by simp [inK]
theorem node_in {n : Nat} {set : List Int} (hs : SetOk n set) (a : Int) : (isNode n a && inK set set.length a.toNat) = set.contains a := by
  by_cases h : set.contains a = true
  · obtain ⟨i, hi, e⟩ := List.getElem_of_mem (List.contains_iff_mem.1 h)
    have h2 := hs i hi
    rw [nth_get hi, e] at h2
    have e3 : ((a.toNat : Nat) : Int) = a := by omega
    rw [inK_len, e3, h]
    unfold isNode
    simp [h2.1, h2.2.1]
  · rw [Bool.not_eq_true] at h
    rw [h]
    unfold isNode
    by_cases h0 : 0 ≤ a
    · have e3 : ((a.toNat : Nat) : Int) = a := by omega
      rw [inK_len, e3, h]
      simp
    · simp [h0]

set_option maxRecDepth 100000 in
set_option maxHeartbeats 2000000 in
theorem bars_any (n c B : Nat) (ek ea eb en c1 c2 c3 c4 : Int) (vb k1 k2 k3 vs : Value) (A : Option Addr) (m : Nat) (set : List Int) (w : World) (hr : RI w B A m set) (hm : m ≤ 140737488351232) (hs : SetOk n set) (hB : B ≤ w.heap.size) :
    Calls Try.prog 39 #[.agg #[.int .i64 ek, .int .i64 ea, .int .i64 eb, .int .i64 en, vb, .int .i64 c1, .int .i64 c2, .int .i64 c3, .int .i64 c4, k1, k2, k3, vs], .slice A m c] w fun e w' => e = .returned (.bool (touchN n (inK set set.length) ek ea)) ∧ St (fun _ => False) w w' := by
  have H0 : St (fun _ => False) w (w.alloc (.cells #[.int .i64 ek, .int .i64 ea, .int .i64 eb, .int .i64 en, vb, .int .i64 c1, .int .i64 c2, .int .i64 c3, .int .i64 c4, k1, k2, k3, vs] 45)) := (St.refl _ w).alloc _
  have B0 := Blk.new w 45 #[.int .i64 ek, .int .i64 ea, .int .i64 eb, .int .i64 en, vb, .int .i64 c1, .int .i64 c2, .int .i64 c3, .int .i64 c4, k1, k2, k3, vs]
  have R0 := hr.st H0 (fun q e => e.elim)
  have HNI := hide (node_in hs ea)
  obtain ⟨ins, hins⟩ : ∃ ins, ins = inK set set.length := ⟨_, rfl⟩
  rw [← hins] at HNI ⊢
  clear hins
  clear hr hs
  go_enter Try.func39, Try.ntmps39
  go_upto_region 1 with fail
  obtain ⟨w0, hw0⟩ : ∃ w0, w0 = w.alloc (.cells #[.int .i64 ek, .int .i64 ea, .int .i64 eb, .int .i64 en, vb, .int .i64 c1, .int .i64 c2, .int .i64 c3, .int .i64 c4, k1, k2, k3, vs] 45) := ⟨_, rfl⟩
  rw [← hw0] at H0 B0 R0 ⊢
  obtain ⟨z0, z1, _⟩ := m13 B0
  have HS := hide H0
  have HIN := hide (in_any A m c B set ea w0 R0 hm)
  clear hw0 H0 B0 R0
  by_cases e12 : ek = 12
  · subst e12
    have HE : Hid (touchN n ins 12 ea = true) := by
      show _ = _
      unfold touchN
      rw [if_pos (by decide)]
    go_wp2_with fail
    go_ret
    exact ⟨ret_bool HE.out.symm, HS.out⟩
  · by_cases e13 : ek = 13
    · subst e13
      have HE : Hid (touchN n ins 13 ea = true) := by
        show _ = _
        unfold touchN
        rw [if_pos (by decide)]
      go_wp2_with fail
      go_ret
      exact ⟨ret_bool HE.out.symm, HS.out⟩
    · by_cases e14 : ek = 14
      · subst e14
        have HE : Hid (touchN n ins 14 ea = true) := by
          show _ = _
          unfold touchN
          rw [if_pos (by decide)]
        go_wp2_with fail
        go_ret
        exact ⟨ret_bool HE.out.symm, HS.out⟩
      · by_cases e15 : ek = 15
        · subst e15
          have HE : Hid (touchN n ins 15 ea = true) := by
            show _ = _
            unfold touchN
            rw [if_pos (by decide)]
          go_wp2_with fail
          go_ret
          exact ⟨ret_bool HE.out.symm, HS.out⟩
        · by_cases e16 : ek = 16
          · subst e16
            have HE : Hid (touchN n ins 16 ea = true) := by
              show _ = _
              unfold touchN
              rw [if_pos (by decide)]
            go_wp2_with fail
            go_ret
            exact ⟨ret_bool HE.out.symm, HS.out⟩
          · by_cases e17 : ek = 17
            · subst e17
              have HE : Hid (touchN n ins 17 ea = true) := by
                show _ = _
                unfold touchN
                rw [if_pos (by decide)]
              go_wp2_with fail
              go_ret
              exact ⟨ret_bool HE.out.symm, HS.out⟩
            · by_cases e2 : ek = 2
              · subst e2
                have HE : Hid (touchN n ins 2 ea = set.contains ea) := by
                  show _ = _
                  unfold touchN
                  rw [if_neg (by decide), if_pos (by decide), HNI.out]
                go_wp2_with (go_at_call 45; refine HIN.out.mono ?_; rintro e w1 ⟨rfl, hw⟩; obtain rfl := hw.symm)
                go_ret
                exact ⟨ret_bool (by rw [HE.out]; simp), HS.out⟩
              · by_cases e5 : ek = 5
                · subst e5
                  have HE : Hid (touchN n ins 5 ea = set.contains ea) := by
                    show _ = _
                    unfold touchN
                    rw [if_neg (by decide), if_pos (by decide), HNI.out]
                  go_wp2_with (go_at_call 45; refine HIN.out.mono ?_; rintro e w1 ⟨rfl, hw⟩; obtain rfl := hw.symm)
                  go_ret
                  exact ⟨ret_bool (by rw [HE.out]; simp), HS.out⟩
                · by_cases e6 : ek = 6
                  · subst e6
                    have HE : Hid (touchN n ins 6 ea = set.contains ea) := by
                      show _ = _
                      unfold touchN
                      rw [if_neg (by decide), if_pos (by decide), HNI.out]
                    go_wp2_with (go_at_call 45; refine HIN.out.mono ?_; rintro e w1 ⟨rfl, hw⟩; obtain rfl := hw.symm)
                    go_ret
                    exact ⟨ret_bool (by rw [HE.out]; simp), HS.out⟩
                  · by_cases e7 : ek = 7
                    · subst e7
                      have HE : Hid (touchN n ins 7 ea = set.contains ea) := by
                        show _ = _
                        unfold touchN
                        rw [if_neg (by decide), if_pos (by decide), HNI.out]
                      go_wp2_with (go_at_call 45; refine HIN.out.mono ?_; rintro e w1 ⟨rfl, hw⟩; obtain rfl := hw.symm)
                      go_ret
                      exact ⟨ret_bool (by rw [HE.out]; simp), HS.out⟩
                    · by_cases e18 : ek = 18
                      · subst e18
                        have HE : Hid (touchN n ins 18 ea = set.contains ea) := by
                          show _ = _
                          unfold touchN
                          rw [if_neg (by decide), if_pos (by decide), HNI.out]
                        go_wp2_with (go_at_call 45; refine HIN.out.mono ?_; rintro e w1 ⟨rfl, hw⟩; obtain rfl := hw.symm)
                        go_ret
                        exact ⟨ret_bool (by rw [HE.out]; simp), HS.out⟩
                      · have HE : Hid (touchN n ins ek ea = false) := by
                          show _ = _
                          unfold touchN
                          rw [if_neg (by omega), if_neg (by omega)]
                        have q12 : (ek == 12) = false := by simpa using e12
                        have q13 : (ek == 13) = false := by simpa using e13
                        have q14 : (ek == 14) = false := by simpa using e14
                        have q15 : (ek == 15) = false := by simpa using e15
                        have q16 : (ek == 16) = false := by simpa using e16
                        have q17 : (ek == 17) = false := by simpa using e17
                        have q2 : (ek == 2) = false := by simpa using e2
                        have q5 : (ek == 5) = false := by simpa using e5
                        have q6 : (ek == 6) = false := by simpa using e6
                        have q7 : (ek == 7) = false := by simpa using e7
                        have q18 : (ek == 18) = false := by simpa using e18
                        clear e12 e13 e14 e15 e16 e17 e2 e5 e6 e7 e18
                        go_wp2_with fail
                        go_ret
                        exact ⟨ret_bool HE.out.symm, HS.out⟩
end Go.Proofs.Ytkcjfiifajjpiaa
