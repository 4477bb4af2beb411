/-
  Contract of newSparse.
-/
import Derived.Test.YtkkckinnhkpcmaaNew
import Derived.Test.YtkkckinnhkpcmaaOwed
set_option linter.unusedVariables false
namespace Go.Proofs.Ytkkckinnhkpcmaa
open Go.RowKit Go.WideShapes Go.ChangeShapes Q

set_option maxRecDepth 100000 in
set_option maxHeartbeats 1000000 in
theorem sparse_any (n : Nat) (w : World) (h1 : 1 ≤ n) (h2 : n ≤ 20000) :
    Calls Try.prog 50 #[.int .i64 n] w fun e w' => ∃ hb ib, e = .returned (.agg #[.int .i64 1, .slice (some ⟨hb, 0, none⟩) n n, .slice (some ⟨ib, 0, none⟩) n n]) ∧ St (fun _ => False) w w' ∧
      Blk w' hb 4 (List.replicate n (.bool false)).toArray ∧ Blk w' ib 28 (List.replicate n (.slice none 0 0)).toArray ∧ w.heap.size ≤ hb ∧ w.heap.size ≤ ib := by
  have hm1 := make76 n h2
  have hm2 := make36 n h2
  go_enter Try.func50, Try.ntmps50
  go_wp2_with fail
  go_region_with (simp only [hm1, hm2])
  all_goals go_wp2
  · refine bodyPost_ret (results_cell_row rfl _ _ w.heap.size 78 #[.int .i64 1, .slice (some ⟨w.heap.size + 1, 0, none⟩) n n, .slice (some ⟨w.heap.size + 1 + 1, 0, none⟩) n n] (0, 0) _ rfl (((Blk.new w 78 _).alloc _).alloc _).drew Try.underlying78 rfl (by kernel_rfl)) rfl ?_
    refine ⟨w.heap.size + 1, w.heap.size + 1 + 1, rfl, ((((St.refl _ w).alloc _).alloc _).alloc _).drew, ?_, ?_, by omega, by omega⟩
    · have := ((Blk.new' (w.alloc (.cells #[.int .i64 1, .slice (some ⟨w.heap.size + 1, 0, none⟩) n n, .slice (some ⟨w.heap.size + 1 + 1, 0, none⟩) n n] 78)) 4 (Array.replicate n (Value.bool false)) (w.heap.size + 1) (by simp)).alloc (.cells (Array.replicate n (Value.slice none 0 0)) 28)).drew
      simpa using this
    · have := (Blk.new' ((w.alloc (.cells #[.int .i64 1, .slice (some ⟨w.heap.size + 1, 0, none⟩) n n, .slice (some ⟨w.heap.size + 1 + 1, 0, none⟩) n n] 78)).alloc (.cells (Array.replicate n (Value.bool false)) 4)) 28 (Array.replicate n (Value.slice none 0 0)) (w.heap.size + 1 + 1) (by simp)).drew
      simpa using this
  · refine bodyPost_ret (results_cell_row rfl _ _ w.heap.size 78 #[.int .i64 1, .slice (some ⟨w.heap.size + 1 + 1, 0, none⟩) n n, .slice (some ⟨w.heap.size + 1, 0, none⟩) n n] (0, 0) _ rfl (((Blk.new w 78 _).alloc _).alloc _).drew Try.underlying78 rfl (by kernel_rfl)) rfl ?_
    refine ⟨w.heap.size + 1 + 1, w.heap.size + 1, rfl, ((((St.refl _ w).alloc _).alloc _).alloc _).drew, ?_, ?_, by omega, by omega⟩
    · have := (Blk.new' ((w.alloc (.cells #[.int .i64 1, .slice (some ⟨w.heap.size + 1 + 1, 0, none⟩) n n, .slice (some ⟨w.heap.size + 1, 0, none⟩) n n] 78)).alloc (.cells (Array.replicate n (Value.slice none 0 0)) 28)) 4 (Array.replicate n (Value.bool false)) (w.heap.size + 1 + 1) (by simp)).drew
      simpa using this
    · have := ((Blk.new' (w.alloc (.cells #[.int .i64 1, .slice (some ⟨w.heap.size + 1 + 1, 0, none⟩) n n, .slice (some ⟨w.heap.size + 1, 0, none⟩) n n] 78)) 28 (Array.replicate n (Value.slice none 0 0)) (w.heap.size + 1) (by simp)).alloc (.cells (Array.replicate n (Value.bool false)) 4)).drew
      simpa using this
end Go.Proofs.Ytkkckinnhkpcmaa
