/-
  The k-th number of a list, closed to simp.
-/
namespace Go.Proofs.YtcibcmfaebbhnaaDoor.Q
/-- The k-th number of a list (0 behind its end). -/
def nth (vs : List Int) (k : Nat) : Int := vs.getD k 0
end Go.Proofs.YtcibcmfaebbhnaaDoor.Q
