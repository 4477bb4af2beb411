/-
  The reference's number of a word.
-/
import Derived.Test.YtcibcmfaebbhnaaDoorZRct
import Derived.Test.YtcibcmfaebbhnaaDoorZEvp
import Derived.Test.YtcibcmfaebbhnaaDoorZBas
set_option linter.unusedVariables false
set_option linter.unusedSimpArgs false
namespace Go.Proofs.YtcibcmfaebbhnaaDoor
open Go.RowKit Go.WideShapes Go.ChangeShapes Q

/-- A word's count, or -1. -/
def wcntZ (w : Wd) : Int := match wcnt w with | some n => (n : Int) | none => -1
set_option maxRecDepth 100000 in
theorem number_ref (q : Bool) (s : ByteArray) (w : World) (hs : s.size ≤ 1000000000000) :
    Calls Tryd.prog 69 #[.agg #[.bool q, .string s]] w fun e w' => e = .returned (.int .i64 (wcntZ (s.data.toList, q))) ∧ Below w.heap.size w w' := by
  have HC := hide (count_ref s (w.alloc (.cells #[.bool q, .string s] 106)) hs)
  have HB := hide ((Below.refl w.heap.size w).alloc (Nat.le_refl _) (.cells #[.bool q, .string s] 106))
  have P1 : Blk (w.alloc (.cells #[.bool q, .string s] 106)) w.heap.size 106 #[.bool q, .string s] := Blk.new _ _ _
  have c0 := P1.cell 0
  have c1 := P1.cell 1
  clear P1
  cases q with
  | true =>
    go_enter Tryd.func69, Tryd.ntmps69
    go_wp2_with fail
    go_ret
    exact ⟨rfl, HB.out⟩
  | false =>
    go_enter Tryd.func69, Tryd.ntmps69
    go_wp2_with (go_at_call 80; refine HC.out.mono ?_; rintro e w2 ⟨rfl, rfl⟩)
    go_ret
    exact ⟨rfl, HB.out⟩
end Go.Proofs.YtcibcmfaebbhnaaDoor
