/-
  The words of the kinds of marks. (Printed by wip/tools/mkwords.py.)
-/
import Derived.Test.YtenebkkfjalcaaaDoorRwr
set_option linter.unusedVariables false
set_option linter.unusedSimpArgs false
namespace Go.Proofs.YtenebkkfjalcaaaDoor
open Go.RowKit Go.WideShapes Go.ChangeShapes Q

def kindL : List (List UInt8) := [[], [98, 111, 111, 116], [99, 114, 97, 115, 104], [104, 97, 108, 116], [115, 101, 110, 100], [114, 101, 102, 117, 115, 101], [98, 108, 111, 99, 107], [105, 110, 115, 116, 97, 108, 108], [100, 101, 108, 105, 118, 101, 114], [115, 97, 102, 101], [97, 100, 111, 112, 116], [100, 111], [97, 112, 112, 108, 121], [114, 101, 112, 108, 121], [102, 117, 108, 108], [114, 111, 117, 110, 100], [108, 101, 97, 118, 101]]
def kindV : Array Value := #[.string { data := #[] }, .string { data := #[98, 111, 111, 116] }, .string { data := #[99, 114, 97, 115, 104] }, .string { data := #[104, 97, 108, 116] }, .string { data := #[115, 101, 110, 100] }, .string { data := #[114, 101, 102, 117, 115, 101] }, .string { data := #[98, 108, 111, 99, 107] }, .string { data := #[105, 110, 115, 116, 97, 108, 108] }, .string { data := #[100, 101, 108, 105, 118, 101, 114] }, .string { data := #[115, 97, 102, 101] }, .string { data := #[97, 100, 111, 112, 116] }, .string { data := #[100, 111] }, .string { data := #[97, 112, 112, 108, 121] }, .string { data := #[114, 101, 112, 108, 121] }, .string { data := #[102, 117, 108, 108] }, .string { data := #[114, 111, 117, 110, 100] }, .string { data := #[108, 101, 97, 118, 101] }]
theorem kindV_eq : kindV = (strs kindL).toArray := rfl
theorem kindV_at {k : Nat} (hk : k < 17) : kindV[k]? = some (.string (S (kindL.getD k []))) := by
  rw [kindV_eq, List.getElem?_toArray]
  unfold strs
  rw [List.getElem?_map, List.getElem?_eq_getElem (show k < kindL.length from hk), Option.map_some]
  simp [List.getD, List.getElem?_eq_getElem (show k < kindL.length from hk)]
theorem kindL_len (k : Nat) : (kindL.getD k []).length ≤ 7 := by
  rcases Nat.lt_or_ge k 17 with h | h
  · have : ∀ k : Fin 17, (kindL.getD k.val []).length ≤ 7 := by decide
    exact this ⟨k, h⟩
  · have : kindL.getD k [] = [] := by simp [kindL, List.getD, List.getElem?_eq_none, h]
    rw [this]
    simp
set_option maxRecDepth 100000 in
theorem words_any (w : World) : Calls Tryd.prog 35 #[] w fun e w' => e = .returned (.slice (some ⟨w.heap.size, 0, none⟩) 17 17) ∧ w.alloc (.cells kindV 9) = w' := by
  unfold kindV
  go_enter Tryd.func35, Tryd.ntmps35
  go_wp2_with fail
  go_ret
  exact ⟨rfl, rfl⟩
end Go.Proofs.YtenebkkfjalcaaaDoor
