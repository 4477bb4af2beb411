/-
  Contract of New where what comes in is whole; of newSparse.
-/
import Derived.Test.YtkkckinnhkpcmaaSteps
set_option linter.unusedVariables false
namespace Go.Proofs.Ytkkckinnhkpcmaa
open Go.RowKit Go.WideShapes Go.ChangeShapes Q

theorem made_rep (z : Value) (n : Nat) (hz : z.cells = #[z]) : madeCells z.cells n = (List.replicate n z).toArray := by
  rw [hz]
  unfold madeCells
  apply Array.ext
  · simp
  · intro i h1 h2
    simp [Nat.mod_one]
theorem info72 : (Try.prog.info? 72).map (fun i => (i.zero, i.size, i.bytes)) = some (some (.pointer none), 1, 8) := by kernel_rfl
theorem info4 : (Try.prog.info? 4).map (fun i => (i.zero, i.size, i.bytes)) = some (some (.bool false), 1, 1) := by kernel_rfl
theorem make81 (n : Nat) (hn : n ≤ 20000) (w : World) : (Instr.makeSlice 81 (.int .i64 (n : Int)) (.int .i64 (n : Int))).run Try.prog w = .ok (.slice (some ⟨w.heap.size, 0, none⟩) n n) (w.alloc (.cells (List.replicate n (.pointer none)).toArray 72)) := by
  obtain ⟨i0, hi, hz0, hz1, hz2⟩ := info_parts info72
  have h := run_make_rowN (P := Try.prog) 81 72 i0 (.pointer none) Try.underlying81 hi hz0 .i64 .i64 n n (Nat.le_refl _) (by rw [hz2]; omega) (by omega) w
  rw [h, hz1, Nat.mul_one, made_rep _ _ rfl]
theorem make76 (n : Nat) (hn : n ≤ 20000) (w : World) : (Instr.makeSlice 76 (.int .i64 (n : Int)) (.int .i64 (n : Int))).run Try.prog w = .ok (.slice (some ⟨w.heap.size, 0, none⟩) n n) (w.alloc (.cells (List.replicate n (.bool false)).toArray 4)) := by
  obtain ⟨i0, hi, hz0, hz1, hz2⟩ := info_parts info4
  have h := run_make_rowN (P := Try.prog) 76 4 i0 (.bool false) Try.underlying76 hi hz0 .i64 .i64 n n (Nat.le_refl _) (by rw [hz2]; omega) (by omega) w
  rw [h, hz1, Nat.mul_one, made_rep _ _ rfl]
theorem make36 (n : Nat) (hn : n ≤ 20000) (w : World) : (Instr.makeSlice 36 (.int .i64 (n : Int)) (.int .i64 (n : Int))).run Try.prog w = .ok (.slice (some ⟨w.heap.size, 0, none⟩) n n) (w.alloc (.cells (List.replicate n (.slice none 0 0)).toArray 28)) := by
  obtain ⟨i0, hi, hz0, hz1, hz2⟩ := info_parts info28
  have h := run_make_rowN (P := Try.prog) 36 28 i0 (.slice none 0 0) Try.underlying36 hi hz0 .i64 .i64 n n (Nat.le_refl _) (by rw [hz2]; omega) (by omega) w
  rw [h, hz1, Nat.mul_one, made_rep _ _ rfl]

set_option maxRecDepth 100000 in
set_option maxHeartbeats 1000000 in
theorem new_ok (n self wnd room : Nat) (w : World) (h1 : 1 ≤ n) (h2 : n ≤ 16) (h3 : self < n) (h4 : 1 ≤ wnd) (h5 : wnd ≤ room) (h6 : room ≤ 20000) :
    Calls Try.prog 44 #[.int .i64 n, .int .i64 self, .int .i64 wnd, .int .i64 room] w fun e w' => ∃ m pb, e = .returned (.tuple #[.pointer (some ⟨m, 0, none⟩), .int .i64 0]) ∧ St (fun _ => False) w w' ∧
      MuxAt w' m ⟨self, wnd, room, ⟨0, 0, 0, 0⟩, pb, List.replicate n none⟩ ∧ w.heap.size ≤ m ∧ w.heap.size ≤ pb := by
  have d1 : decide ((n : Int) < 1) = false := by rw [decide_eq_false_iff_not]; omega
  have d2 : decide ((16 : Int) < n) = false := by rw [decide_eq_false_iff_not]; omega
  have d3 : decide ((self : Int) < 0) = false := by rw [decide_eq_false_iff_not]; omega
  have d4 : decide (n ≤ self) = false := by rw [decide_eq_false_iff_not]; omega
  have d5 : decide ((room : Int) < 1) = false := by rw [decide_eq_false_iff_not]; omega
  have d6 : decide ((20000 : Int) < room) = false := by rw [decide_eq_false_iff_not]; omega
  have d7 : decide ((wnd : Int) < 1) = false := by rw [decide_eq_false_iff_not]; omega
  have d8 : decide (room < wnd) = false := by rw [decide_eq_false_iff_not]; omega
  have hmk := make81 n (by omega) w
  go_enter Try.func44, Try.ntmps44
  go_wp2_with (simp only [hmk])
  go_ret2
  refine ⟨w.heap.size + 1, w.heap.size, rfl, ((St.refl _ w).alloc _).alloc _, ⟨?_, ?_, h5, h6, h4, ?_⟩, by omega, Nat.le_refl _⟩
  · have := Blk.new' (w.alloc (.cells (Array.replicate n (Value.pointer none)) 72)) 83 (muxC ⟨self, wnd, room, ⟨0, 0, 0, 0⟩, w.heap.size, List.replicate n none⟩) (w.heap.size + 1) (by simp)
    simpa [muxC] using this
  · have := (Blk.new w 72 (Array.replicate n (Value.pointer none))).alloc (.cells (muxC ⟨self, wnd, room, ⟨0, 0, 0, 0⟩, w.heap.size, List.replicate n none⟩) 83)
    simpa [muxC, ptr] using this
  · simpa using h2
end Go.Proofs.Ytkkckinnhkpcmaa
