/-
  The reference's lists.
-/
import Derived.Test.YtenebkkfjalcaaaDoorLs2
import Derived.Test.YtenebkkfjalcaaaDoorLs3
import Derived.Test.YtenebkkfjalcaaaDoorLs4
import Derived.Test.YtenebkkfjalcaaaDoorLs5
set_option linter.unusedVariables false
namespace Go.Proofs.YtenebkkfjalcaaaDoor
open Go.RowKit Go.WideShapes Go.ChangeShapes Q

theorem lists_any (m : Mk) (w : World) (hm : MkIn w w.heap.size m) (hw : wrB m = true) :
    Calls Tryd.prog 37 #[m.v] w fun e w' => e = .returned (.string (S (idL m.ep m.ld m.ii m.ci ++ memL m.ms m.nm ++ traL m.ts m.nt))) ∧ Below w.heap.size w w' := by
  by_cases h1 : m.ep = 0
  · by_cases h2 : m.ld = 0
    · by_cases h3 : m.ii = 0
      · by_cases h4 : m.ci = 0
        · exact lists_c5 m w hm hw ⟨h1, h2, h3, h4⟩
        · exact lists_c4 m w hm hw ⟨h1, h2, h3, h4⟩
      · exact lists_c3 m w hm hw ⟨h1, h2, h3⟩
    · exact lists_c2 m w hm hw ⟨h1, h2⟩
  · exact lists_c1 m w hm hw h1
end Go.Proofs.YtenebkkfjalcaaaDoor
