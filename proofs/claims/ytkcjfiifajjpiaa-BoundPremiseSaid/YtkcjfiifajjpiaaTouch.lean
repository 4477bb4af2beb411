/-
  Contract of touches. (Printed by wip/tools/mktouch.py.)
-/
import Derived.Test.YtkcjfiifajjpiaaPlay
set_option linter.unusedVariables false
set_option linter.unusedSimpArgs false
namespace Go.Proofs.Ytkcjfiifajjpiaa
open Go.RowKit Go.WideShapes Go.ChangeShapes Q

/-- Does the event itself end that a set is left alone? -/
def touchN (n : Nat) (ins : Nat → Bool) (k a : Int) : Bool :=
  if 12 ≤ k ∧ k ≤ 17 then true else if k = 2 ∨ k = 5 ∨ k = 6 ∨ k = 7 ∨ k = 18 then isNode n a && ins a.toNat else false

set_option maxRecDepth 100000 in
set_option maxHeartbeats 2000000 in
theorem touch_any (n ib : Nat) (ins : Nat → Bool) (ek ea eb en c1 c2 c3 c4 : Int) (vb k1 k2 k3 vs : Value) (w : World) (hi : Blk w ib 4 (tab n (bools ins))) (hn : n ≤ 16) :
    Calls Try.prog 33 #[.agg #[.int .i64 ek, .int .i64 ea, .int .i64 eb, .int .i64 en, vb, .int .i64 c1, .int .i64 c2, .int .i64 c3, .int .i64 c4, k1, k2, k3, vs], sl ib n] w fun e w' => e = .returned (.bool (touchN n ins ek ea)) ∧ St (fun _ => False) w w' := by
  have H0 : St (fun _ => False) w (w.alloc (.cells #[.int .i64 ek, .int .i64 ea, .int .i64 eb, .int .i64 en, vb, .int .i64 c1, .int .i64 c2, .int .i64 c3, .int .i64 c4, k1, k2, k3, vs] 45)) := (St.refl _ w).alloc _
  have B0 := Blk.new w 45 #[.int .i64 ek, .int .i64 ea, .int .i64 eb, .int .i64 en, vb, .int .i64 c1, .int .i64 c2, .int .i64 c3, .int .i64 c4, k1, k2, k3, vs]
  have I0 := hi.st H0 (fun e => e)
  clear hi
  go_enter Try.func33, Try.ntmps33
  go_upto_region 1 with fail
  obtain ⟨w0, hw0⟩ : ∃ w0, w0 = w.alloc (.cells #[.int .i64 ek, .int .i64 ea, .int .i64 eb, .int .i64 en, vb, .int .i64 c1, .int .i64 c2, .int .i64 c3, .int .i64 c4, k1, k2, k3, vs] 45) := ⟨_, rfl⟩
  rw [← hw0] at H0 B0 I0 ⊢
  obtain ⟨z0, z1, _⟩ := m13 B0
  have HS := hide H0
  have HI := hide I0
  clear hw0 H0 B0 I0
  by_cases e12 : ek = 12
  · subst e12
    have HE : Hid (touchN n ins 12 ea = true) := by
      show _ = _
      unfold touchN
      rw [if_pos (by decide)]
    go_wp2_with fail
    go_ret
    exact ⟨ret_bool HE.out.symm, HS.out⟩
  · by_cases e13 : ek = 13
    · subst e13
      have HE : Hid (touchN n ins 13 ea = true) := by
        show _ = _
        unfold touchN
        rw [if_pos (by decide)]
      go_wp2_with fail
      go_ret
      exact ⟨ret_bool HE.out.symm, HS.out⟩
    · by_cases e14 : ek = 14
      · subst e14
        have HE : Hid (touchN n ins 14 ea = true) := by
          show _ = _
          unfold touchN
          rw [if_pos (by decide)]
        go_wp2_with fail
        go_ret
        exact ⟨ret_bool HE.out.symm, HS.out⟩
      · by_cases e15 : ek = 15
        · subst e15
          have HE : Hid (touchN n ins 15 ea = true) := by
            show _ = _
            unfold touchN
            rw [if_pos (by decide)]
          go_wp2_with fail
          go_ret
          exact ⟨ret_bool HE.out.symm, HS.out⟩
        · by_cases e16 : ek = 16
          · subst e16
            have HE : Hid (touchN n ins 16 ea = true) := by
              show _ = _
              unfold touchN
              rw [if_pos (by decide)]
            go_wp2_with fail
            go_ret
            exact ⟨ret_bool HE.out.symm, HS.out⟩
          · by_cases e17 : ek = 17
            · subst e17
              have HE : Hid (touchN n ins 17 ea = true) := by
                show _ = _
                unfold touchN
                rw [if_pos (by decide)]
              go_wp2_with fail
              go_ret
              exact ⟨ret_bool HE.out.symm, HS.out⟩
            · by_cases e2 : ek = 2
              · subst e2
                have hcase : ea < 0 ∨ (0 ≤ ea ∧ (n : Int) ≤ ea) ∨ (0 ≤ ea ∧ ea < (n : Int)) := by omega
                rcases hcase with h1 | ⟨h1, h2⟩ | ⟨h1, h2⟩
                · have d1 : decide ((0 : Int) ≤ ea) = false := decide_eq_false (by omega)
                  have HND : isNode n ea = false := by unfold isNode; rw [d1]; rfl
                  have HE : Hid (touchN n ins 2 ea = false) := by
                    show _ = _
                    unfold touchN
                    rw [if_neg (by decide), if_pos (by decide), HND]; rfl
                  clear h1 HND
                  go_wp2_with fail
                  go_ret
                  exact ⟨ret_bool HE.out.symm, HS.out⟩
                · have d1 : decide ((0 : Int) ≤ ea) = true := decide_eq_true h1
                  have d2 : decide (ea < (n : Int)) = false := decide_eq_false (by omega)
                  have HND : isNode n ea = false := by unfold isNode; rw [d1, d2]; rfl
                  have HE : Hid (touchN n ins 2 ea = false) := by
                    show _ = _
                    unfold touchN
                    rw [if_neg (by decide), if_pos (by decide), HND]; rfl
                  clear h1 h2 HND
                  go_wp2_with fail
                  go_ret
                  exact ⟨ret_bool HE.out.symm, HS.out⟩
                · have d1 : decide ((0 : Int) ≤ ea) = true := decide_eq_true h1
                  have d2 : decide (ea < (n : Int)) = true := decide_eq_true h2
                  have HND : isNode n ea = true := by unfold isNode; rw [d1, d2]; rfl
                  have HE : Hid (touchN n ins 2 ea = ins ea.toNat) := by
                    show _ = _
                    unfold touchN
                    rw [if_neg (by decide), if_pos (by decide), HND]; rfl
                  clear HND d1 d2
                  obtain ⟨i, rfl⟩ : ∃ i : Nat, ea = (i : Int) := ⟨ea.toNat, by omega⟩
                  have et : ((i : Int)).toNat = i := by simp
                  rw [et] at HE
                  have ci : w0.cell? ⟨ib, i, none⟩ = some (.bool (ins i)) := by rw [HI.out.cell, tab_get _ _ _ (by omega)]; rfl
                  have d3 : decide (i < n) = true := decide_eq_true (by omega)
                  clear et
                  go_wp2_with fail
                  go_ret
                  exact ⟨ret_bool HE.out.symm, HS.out⟩
              · by_cases e5 : ek = 5
                · subst e5
                  have hcase : ea < 0 ∨ (0 ≤ ea ∧ (n : Int) ≤ ea) ∨ (0 ≤ ea ∧ ea < (n : Int)) := by omega
                  rcases hcase with h1 | ⟨h1, h2⟩ | ⟨h1, h2⟩
                  · have d1 : decide ((0 : Int) ≤ ea) = false := decide_eq_false (by omega)
                    have HND : isNode n ea = false := by unfold isNode; rw [d1]; rfl
                    have HE : Hid (touchN n ins 5 ea = false) := by
                      show _ = _
                      unfold touchN
                      rw [if_neg (by decide), if_pos (by decide), HND]; rfl
                    clear h1 HND
                    go_wp2_with fail
                    go_ret
                    exact ⟨ret_bool HE.out.symm, HS.out⟩
                  · have d1 : decide ((0 : Int) ≤ ea) = true := decide_eq_true h1
                    have d2 : decide (ea < (n : Int)) = false := decide_eq_false (by omega)
                    have HND : isNode n ea = false := by unfold isNode; rw [d1, d2]; rfl
                    have HE : Hid (touchN n ins 5 ea = false) := by
                      show _ = _
                      unfold touchN
                      rw [if_neg (by decide), if_pos (by decide), HND]; rfl
                    clear h1 h2 HND
                    go_wp2_with fail
                    go_ret
                    exact ⟨ret_bool HE.out.symm, HS.out⟩
                  · have d1 : decide ((0 : Int) ≤ ea) = true := decide_eq_true h1
                    have d2 : decide (ea < (n : Int)) = true := decide_eq_true h2
                    have HND : isNode n ea = true := by unfold isNode; rw [d1, d2]; rfl
                    have HE : Hid (touchN n ins 5 ea = ins ea.toNat) := by
                      show _ = _
                      unfold touchN
                      rw [if_neg (by decide), if_pos (by decide), HND]; rfl
                    clear HND d1 d2
                    obtain ⟨i, rfl⟩ : ∃ i : Nat, ea = (i : Int) := ⟨ea.toNat, by omega⟩
                    have et : ((i : Int)).toNat = i := by simp
                    rw [et] at HE
                    have ci : w0.cell? ⟨ib, i, none⟩ = some (.bool (ins i)) := by rw [HI.out.cell, tab_get _ _ _ (by omega)]; rfl
                    have d3 : decide (i < n) = true := decide_eq_true (by omega)
                    clear et
                    go_wp2_with fail
                    go_ret
                    exact ⟨ret_bool HE.out.symm, HS.out⟩
                · by_cases e6 : ek = 6
                  · subst e6
                    have hcase : ea < 0 ∨ (0 ≤ ea ∧ (n : Int) ≤ ea) ∨ (0 ≤ ea ∧ ea < (n : Int)) := by omega
                    rcases hcase with h1 | ⟨h1, h2⟩ | ⟨h1, h2⟩
                    · have d1 : decide ((0 : Int) ≤ ea) = false := decide_eq_false (by omega)
                      have HND : isNode n ea = false := by unfold isNode; rw [d1]; rfl
                      have HE : Hid (touchN n ins 6 ea = false) := by
                        show _ = _
                        unfold touchN
                        rw [if_neg (by decide), if_pos (by decide), HND]; rfl
                      clear h1 HND
                      go_wp2_with fail
                      go_ret
                      exact ⟨ret_bool HE.out.symm, HS.out⟩
                    · have d1 : decide ((0 : Int) ≤ ea) = true := decide_eq_true h1
                      have d2 : decide (ea < (n : Int)) = false := decide_eq_false (by omega)
                      have HND : isNode n ea = false := by unfold isNode; rw [d1, d2]; rfl
                      have HE : Hid (touchN n ins 6 ea = false) := by
                        show _ = _
                        unfold touchN
                        rw [if_neg (by decide), if_pos (by decide), HND]; rfl
                      clear h1 h2 HND
                      go_wp2_with fail
                      go_ret
                      exact ⟨ret_bool HE.out.symm, HS.out⟩
                    · have d1 : decide ((0 : Int) ≤ ea) = true := decide_eq_true h1
                      have d2 : decide (ea < (n : Int)) = true := decide_eq_true h2
                      have HND : isNode n ea = true := by unfold isNode; rw [d1, d2]; rfl
                      have HE : Hid (touchN n ins 6 ea = ins ea.toNat) := by
                        show _ = _
                        unfold touchN
                        rw [if_neg (by decide), if_pos (by decide), HND]; rfl
                      clear HND d1 d2
                      obtain ⟨i, rfl⟩ : ∃ i : Nat, ea = (i : Int) := ⟨ea.toNat, by omega⟩
                      have et : ((i : Int)).toNat = i := by simp
                      rw [et] at HE
                      have ci : w0.cell? ⟨ib, i, none⟩ = some (.bool (ins i)) := by rw [HI.out.cell, tab_get _ _ _ (by omega)]; rfl
                      have d3 : decide (i < n) = true := decide_eq_true (by omega)
                      clear et
                      go_wp2_with fail
                      go_ret
                      exact ⟨ret_bool HE.out.symm, HS.out⟩
                  · by_cases e7 : ek = 7
                    · subst e7
                      have hcase : ea < 0 ∨ (0 ≤ ea ∧ (n : Int) ≤ ea) ∨ (0 ≤ ea ∧ ea < (n : Int)) := by omega
                      rcases hcase with h1 | ⟨h1, h2⟩ | ⟨h1, h2⟩
                      · have d1 : decide ((0 : Int) ≤ ea) = false := decide_eq_false (by omega)
                        have HND : isNode n ea = false := by unfold isNode; rw [d1]; rfl
                        have HE : Hid (touchN n ins 7 ea = false) := by
                          show _ = _
                          unfold touchN
                          rw [if_neg (by decide), if_pos (by decide), HND]; rfl
                        clear h1 HND
                        go_wp2_with fail
                        go_ret
                        exact ⟨ret_bool HE.out.symm, HS.out⟩
                      · have d1 : decide ((0 : Int) ≤ ea) = true := decide_eq_true h1
                        have d2 : decide (ea < (n : Int)) = false := decide_eq_false (by omega)
                        have HND : isNode n ea = false := by unfold isNode; rw [d1, d2]; rfl
                        have HE : Hid (touchN n ins 7 ea = false) := by
                          show _ = _
                          unfold touchN
                          rw [if_neg (by decide), if_pos (by decide), HND]; rfl
                        clear h1 h2 HND
                        go_wp2_with fail
                        go_ret
                        exact ⟨ret_bool HE.out.symm, HS.out⟩
                      · have d1 : decide ((0 : Int) ≤ ea) = true := decide_eq_true h1
                        have d2 : decide (ea < (n : Int)) = true := decide_eq_true h2
                        have HND : isNode n ea = true := by unfold isNode; rw [d1, d2]; rfl
                        have HE : Hid (touchN n ins 7 ea = ins ea.toNat) := by
                          show _ = _
                          unfold touchN
                          rw [if_neg (by decide), if_pos (by decide), HND]; rfl
                        clear HND d1 d2
                        obtain ⟨i, rfl⟩ : ∃ i : Nat, ea = (i : Int) := ⟨ea.toNat, by omega⟩
                        have et : ((i : Int)).toNat = i := by simp
                        rw [et] at HE
                        have ci : w0.cell? ⟨ib, i, none⟩ = some (.bool (ins i)) := by rw [HI.out.cell, tab_get _ _ _ (by omega)]; rfl
                        have d3 : decide (i < n) = true := decide_eq_true (by omega)
                        clear et
                        go_wp2_with fail
                        go_ret
                        exact ⟨ret_bool HE.out.symm, HS.out⟩
                    · by_cases e18 : ek = 18
                      · subst e18
                        have hcase : ea < 0 ∨ (0 ≤ ea ∧ (n : Int) ≤ ea) ∨ (0 ≤ ea ∧ ea < (n : Int)) := by omega
                        rcases hcase with h1 | ⟨h1, h2⟩ | ⟨h1, h2⟩
                        · have d1 : decide ((0 : Int) ≤ ea) = false := decide_eq_false (by omega)
                          have HND : isNode n ea = false := by unfold isNode; rw [d1]; rfl
                          have HE : Hid (touchN n ins 18 ea = false) := by
                            show _ = _
                            unfold touchN
                            rw [if_neg (by decide), if_pos (by decide), HND]; rfl
                          clear h1 HND
                          go_wp2_with fail
                          go_ret
                          exact ⟨ret_bool HE.out.symm, HS.out⟩
                        · have d1 : decide ((0 : Int) ≤ ea) = true := decide_eq_true h1
                          have d2 : decide (ea < (n : Int)) = false := decide_eq_false (by omega)
                          have HND : isNode n ea = false := by unfold isNode; rw [d1, d2]; rfl
                          have HE : Hid (touchN n ins 18 ea = false) := by
                            show _ = _
                            unfold touchN
                            rw [if_neg (by decide), if_pos (by decide), HND]; rfl
                          clear h1 h2 HND
                          go_wp2_with fail
                          go_ret
                          exact ⟨ret_bool HE.out.symm, HS.out⟩
                        · have d1 : decide ((0 : Int) ≤ ea) = true := decide_eq_true h1
                          have d2 : decide (ea < (n : Int)) = true := decide_eq_true h2
                          have HND : isNode n ea = true := by unfold isNode; rw [d1, d2]; rfl
                          have HE : Hid (touchN n ins 18 ea = ins ea.toNat) := by
                            show _ = _
                            unfold touchN
                            rw [if_neg (by decide), if_pos (by decide), HND]; rfl
                          clear HND d1 d2
                          obtain ⟨i, rfl⟩ : ∃ i : Nat, ea = (i : Int) := ⟨ea.toNat, by omega⟩
                          have et : ((i : Int)).toNat = i := by simp
                          rw [et] at HE
                          have ci : w0.cell? ⟨ib, i, none⟩ = some (.bool (ins i)) := by rw [HI.out.cell, tab_get _ _ _ (by omega)]; rfl
                          have d3 : decide (i < n) = true := decide_eq_true (by omega)
                          clear et
                          go_wp2_with fail
                          go_ret
                          exact ⟨ret_bool HE.out.symm, HS.out⟩
                      · have HE : Hid (touchN n ins ek ea = false) := by
                          show _ = _
                          unfold touchN
                          rw [if_neg (by omega), if_neg (by omega)]
                        have q12 : (ek == 12) = false := by simpa using e12
                        have q13 : (ek == 13) = false := by simpa using e13
                        have q14 : (ek == 14) = false := by simpa using e14
                        have q15 : (ek == 15) = false := by simpa using e15
                        have q16 : (ek == 16) = false := by simpa using e16
                        have q17 : (ek == 17) = false := by simpa using e17
                        have q2 : (ek == 2) = false := by simpa using e2
                        have q5 : (ek == 5) = false := by simpa using e5
                        have q6 : (ek == 6) = false := by simpa using e6
                        have q7 : (ek == 7) = false := by simpa using e7
                        have q18 : (ek == 18) = false := by simpa using e18
                        clear e12 e13 e14 e15 e16 e17 e2 e5 e6 e7 e18
                        go_wp2_with fail
                        go_ret
                        exact ⟨ret_bool HE.out.symm, HS.out⟩
end Go.Proofs.Ytkcjfiifajjpiaa
