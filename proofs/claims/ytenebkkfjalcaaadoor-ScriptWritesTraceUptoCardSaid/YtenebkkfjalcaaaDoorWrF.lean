/-
  Writable, program and reference: a mark whose first numbers are none. (Printed by wip/tools/mkwr.py.)
-/
import Derived.Test.YtenebkkfjalcaaaDoorMrk
set_option linter.unusedVariables false
set_option linter.unusedSimpArgs false
namespace Go.Proofs.YtenebkkfjalcaaaDoor
open Go.RowKit Go.WideShapes Go.ChangeShapes Q

set_option maxRecDepth 100000 in
set_option maxHeartbeats 2000000 in
theorem wr_first (m : Mk) (w : World) (h : ¬ (1 ≤ m.kd ∧ m.kd ≤ 16 ∧ -4611686018427387904 ≤ m.rn ∧ m.rn ≤ 4611686018427387904 ∧ 0 ≤ m.er ∧ m.er ≤ 999)) :
    Calls Tryd.prog 16 #[m.v] w fun e w' => e = .returned (.bool (wrB m)) ∧ Below w.heap.size w w' := by
  have HF : Hid (wrB m = false) := by
    show _ = _
    unfold wrB
    rw [decide_eq_false h]
    rfl
  have HH := hide h
  obtain ⟨aT, kd, nd, ic, ep, ld, ii, ci, Am, nm, cm, ms, At, nt, ct, ts, se, sq, po, n, Ab, nb, cb, bd, cl, cn, rq, op, key, val, old, co, rv, rn, er⟩ := m
  simp only [Mk.v, Mk.cs] at HH ⊢
  clear h
  by_cases d0 : kd < 1
  · have e0 : decide (kd < 1) = true := decide_eq_true d0
    go_enter Tryd.func16, Tryd.ntmps16
    go_wp2_with fail
    go_ret
    exact ⟨by rw [HF.out]; rfl, (Below.refl _ _).alloc (Nat.le_refl _) _⟩
  have e0 : decide (kd < 1) = false := decide_eq_false d0
  by_cases d1 : 17 ≤ kd
  · have e1 : decide (17 ≤ kd) = true := decide_eq_true d1
    go_enter Tryd.func16, Tryd.ntmps16
    go_wp2_with fail
    go_ret
    exact ⟨by rw [HF.out]; rfl, (Below.refl _ _).alloc (Nat.le_refl _) _⟩
  have e1 : decide (17 ≤ kd) = false := decide_eq_false d1
  by_cases d2 : rn < -4611686018427387904
  · have e2 : decide (rn < -4611686018427387904) = true := decide_eq_true d2
    go_enter Tryd.func16, Tryd.ntmps16
    go_wp2_with fail
    go_ret
    exact ⟨by rw [HF.out]; rfl, (Below.refl _ _).alloc (Nat.le_refl _) _⟩
  have e2 : decide (rn < -4611686018427387904) = false := decide_eq_false d2
  by_cases d3 : 4611686018427387904 < rn
  · have e3 : decide (4611686018427387904 < rn) = true := decide_eq_true d3
    go_enter Tryd.func16, Tryd.ntmps16
    go_wp2_with fail
    go_ret
    exact ⟨by rw [HF.out]; rfl, (Below.refl _ _).alloc (Nat.le_refl _) _⟩
  have e3 : decide (4611686018427387904 < rn) = false := decide_eq_false d3
  by_cases d4 : er < 0
  · have e4 : decide (er < 0) = true := decide_eq_true d4
    go_enter Tryd.func16, Tryd.ntmps16
    go_wp2_with fail
    go_ret
    exact ⟨by rw [HF.out]; rfl, (Below.refl _ _).alloc (Nat.le_refl _) _⟩
  have e4 : decide (er < 0) = false := decide_eq_false d4
  by_cases d5 : 999 < er
  · have e5 : decide (999 < er) = true := decide_eq_true d5
    go_enter Tryd.func16, Tryd.ntmps16
    go_wp2_with fail
    go_ret
    exact ⟨by rw [HF.out]; rfl, (Below.refl _ _).alloc (Nat.le_refl _) _⟩
  have e5 : decide (999 < er) = false := decide_eq_false d5
  exact absurd (show 1 ≤ kd ∧ kd ≤ 16 ∧ -4611686018427387904 ≤ rn ∧ rn ≤ 4611686018427387904 ∧ 0 ≤ er ∧ er ≤ 999 by omega) HH.out

set_option maxRecDepth 100000 in
set_option maxHeartbeats 2000000 in
theorem rwr_first (m : Mk) (w : World) (h : ¬ (1 ≤ m.kd ∧ m.kd ≤ 16 ∧ -4611686018427387904 ≤ m.rn ∧ m.rn ≤ 4611686018427387904 ∧ 0 ≤ m.er ∧ m.er ≤ 999)) :
    Calls Tryd.prog 14 #[m.v] w fun e w' => e = .returned (.bool (wrB m)) ∧ Below w.heap.size w w' := by
  have HF : Hid (wrB m = false) := by
    show _ = _
    unfold wrB
    rw [decide_eq_false h]
    rfl
  have HH := hide h
  obtain ⟨aT, kd, nd, ic, ep, ld, ii, ci, Am, nm, cm, ms, At, nt, ct, ts, se, sq, po, n, Ab, nb, cb, bd, cl, cn, rq, op, key, val, old, co, rv, rn, er⟩ := m
  simp only [Mk.v, Mk.cs] at HH ⊢
  clear h
  by_cases d0 : kd < 1
  · have e0 : decide (kd < 1) = true := decide_eq_true d0
    go_enter Tryd.func14, Tryd.ntmps14
    go_wp2_with fail
    go_ret
    exact ⟨by rw [HF.out]; rfl, (Below.refl _ _).alloc (Nat.le_refl _) _⟩
  have e0 : decide (kd < 1) = false := decide_eq_false d0
  by_cases d1 : 16 < kd
  · have e1 : decide (16 < kd) = true := decide_eq_true d1
    go_enter Tryd.func14, Tryd.ntmps14
    go_wp2_with fail
    go_ret
    exact ⟨by rw [HF.out]; rfl, (Below.refl _ _).alloc (Nat.le_refl _) _⟩
  have e1 : decide (16 < kd) = false := decide_eq_false d1
  by_cases d2 : rn < -4611686018427387904
  · have e2 : decide (rn < -4611686018427387904) = true := decide_eq_true d2
    go_enter Tryd.func14, Tryd.ntmps14
    go_wp2_with fail
    go_ret
    exact ⟨by rw [HF.out]; rfl, (Below.refl _ _).alloc (Nat.le_refl _) _⟩
  have e2 : decide (rn < -4611686018427387904) = false := decide_eq_false d2
  by_cases d3 : 4611686018427387904 < rn
  · have e3 : decide (4611686018427387904 < rn) = true := decide_eq_true d3
    go_enter Tryd.func14, Tryd.ntmps14
    go_wp2_with fail
    go_ret
    exact ⟨by rw [HF.out]; rfl, (Below.refl _ _).alloc (Nat.le_refl _) _⟩
  have e3 : decide (4611686018427387904 < rn) = false := decide_eq_false d3
  by_cases d4 : er < 0
  · have e4 : decide (er < 0) = true := decide_eq_true d4
    go_enter Tryd.func14, Tryd.ntmps14
    go_wp2_with fail
    go_ret
    exact ⟨by rw [HF.out]; rfl, (Below.refl _ _).alloc (Nat.le_refl _) _⟩
  have e4 : decide (er < 0) = false := decide_eq_false d4
  by_cases d5 : 999 < er
  · have e5 : decide (999 < er) = true := decide_eq_true d5
    go_enter Tryd.func14, Tryd.ntmps14
    go_wp2_with fail
    go_ret
    exact ⟨by rw [HF.out]; rfl, (Below.refl _ _).alloc (Nat.le_refl _) _⟩
  have e5 : decide (999 < er) = false := decide_eq_false d5
  exact absurd (show 1 ≤ kd ∧ kd ≤ 16 ∧ -4611686018427387904 ≤ rn ∧ rn ≤ 4611686018427387904 ∧ 0 ≤ er ∧ er ≤ 999 by omega) HH.out
end Go.Proofs.YtenebkkfjalcaaaDoor
