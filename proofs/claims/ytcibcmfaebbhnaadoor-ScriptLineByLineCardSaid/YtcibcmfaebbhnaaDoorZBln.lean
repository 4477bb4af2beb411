/-
  Blanks: the program's and the reference's.
-/
import Derived.Test.YtcibcmfaebbhnaaDoorZBas
import Derived.Test.YtcibcmfaebbhnaaDoorZWds
set_option linter.unusedVariables false
set_option linter.unusedSimpArgs false
namespace Go.Proofs.YtcibcmfaebbhnaaDoor
open Go.RowKit Go.WideShapes Go.ChangeShapes Q

theorem blk_val (c : UInt8) : blk c = (((c.toNat : Int) == 32) || ((c.toNat : Int) == 9)) := by
  unfold blk
  have e1 : ((c.toNat : Int) == 32) = (c.toNat == 32) := by
    by_cases h : c.toNat = 32
    · simp [h]
    · rw [beq_eq_false_iff_ne.2 h, beq_eq_false_iff_ne.2 (by omega)]
  have e2 : ((c.toNat : Int) == 9) = (c.toNat == 9) := by
    by_cases h : c.toNat = 9
    · simp [h]
    · rw [beq_eq_false_iff_ne.2 h, beq_eq_false_iff_ne.2 (by omega)]
  rw [e1, e2]
set_option maxRecDepth 100000 in
theorem blank_any (c : UInt8) (w : World) : Calls Tryd.prog 47 #[.int .u8 (c.toNat : Int)] w fun e w' => e = .returned (.bool (blk c)) ∧ w = w' := by
  have HB := hide (blk_val c)
  by_cases h : (c.toNat : Int) = 32
  · have h1 : ((c.toNat : Int) == 32) = true := by rw [h]; rfl
    go_enter Tryd.func47, Tryd.ntmps47
    go_wp2_with fail
    go_ret
    exact ⟨by rw [HB.out, h1]; rfl, rfl⟩
  · have h1 : ((c.toNat : Int) == 32) = false := beq_eq_false_iff_ne.2 h
    go_enter Tryd.func47, Tryd.ntmps47
    go_wp2_with fail
    go_ret
    exact ⟨by rw [HB.out, h1]; rfl, rfl⟩
set_option maxRecDepth 100000 in
theorem rblank_any (c : UInt8) (w : World) : Calls Tryd.prog 52 #[.int .u8 (c.toNat : Int)] w fun e w' => e = .returned (.bool (blk c)) ∧ w = w' := by
  have HB := hide (blk_val c)
  by_cases h : (c.toNat : Int) = 32
  · have h1 : ((c.toNat : Int) == 32) = true := by rw [h]; rfl
    go_enter Tryd.func52, Tryd.ntmps52
    go_wp2_with fail
    go_ret
    exact ⟨by rw [HB.out, h1]; rfl, rfl⟩
  · have h1 : ((c.toNat : Int) == 32) = false := beq_eq_false_iff_ne.2 h
    go_enter Tryd.func52, Tryd.ntmps52
    go_wp2_with fail
    go_ret
    exact ⟨by rw [HB.out, h1]; rfl, rfl⟩
end Go.Proofs.YtcibcmfaebbhnaaDoor
