/-
  No cell of these rows narrows 'for every input' (looked for: loops, veiled, ifaces, maps, wideKeys, modest, calm, conditions, laid).
  DERIVED. THE GIVEN ROWS OF THIS SEAT. 12 by the template 'for every input the law returns true; each argument reads behind the call as it read before'; 0 by the template 'total and deterministic' (their statements: YteckffndboiknaaTotals.lean).
  GIVEN WITH THE SEED: the statements are not yours to turn. If you find one false, say at which input.
  Laid BY PROGRAM, IN A SANDBOX (cutbox-rows.mjs): the forced cells as the released guide's own fill.sh prints them over the translation 549fc01d7076aeba… (all of the seat's roots in one cut). By AI agents, Wed Nov 11 2026. No macro, syntax, notation, axiom, sorry.
-/
import Derived.Test.YteckffndboiknaaChecked
import GoSem.Claim
import GoSem.ClaimJoined
import GoSem.ClaimMapViews
import Derived.JoinedTies
import Derived.KernelRfl
namespace Go.Proofs.Yteckffndboiknaa
/- THE CELL 'sum', in the pinned program and in every row, IS THE sha256 OF THE DUMP (.gsa) THAT YteckffndboiknaaProg.lean LOADS. Nothing in Lean hashes anything: it is a label: what it is worth is what the hold of that sum in a sandbox is worth. -/
noncomputable def Try.pinned : Pinned := { name := "yteckffndboiknaa", sum := "549fc01d7076aeba143e6b459e9ed7e3ccd40d0398c87dc9b328a7c1de533473", checked := Try.checked }
namespace Rows
def none {H : Type} : Left H := { results := [], args := [] }

/-- 'quoratelaw11.QuorumBest': WHATEVER THE INPUT: true; the input reads as it did. -/
def quorumBestSpec : ChangeSpec := { name := "quorumBest", fn := fun _ => fun
  | [d] => { results := [.lit (.bool true)], args := [d] }
  | _ => none }
def quorumBestRow : OpenClaim := { program := "yteckffndboiknaa", sum := "549fc01d7076aeba143e6b459e9ed7e3ccd40d0398c87dc9b328a7c1de533473", func := "quorate/quoratelaw11.QuorumBest", spec := "quorumBest", apart := false }
def QuorumBestSaid : Prop := quorumBestRow.holds Try.pinned (OpenSpec.ofChange quorumBestSpec)

/-- ITS FALSE NEIGHBOUR: 'it returns false'. Refute it at one input. -/
def quorumBestWrong : ChangeSpec := { name := "quorumBest", fn := fun _ => fun
  | [d] => { results := [.lit (.bool false)], args := [d] }
  | _ => none }
def QuorumBestWrongFalsely : Prop := quorumBestRow.holds Try.pinned (OpenSpec.ofChange quorumBestWrong)

/-- 'quoratelaw11.QuorumHalf': WHATEVER THE INPUT: true; the input reads as it did. -/
def quorumHalfSpec : ChangeSpec := { name := "quorumHalf", fn := fun _ => fun
  | [d] => { results := [.lit (.bool true)], args := [d] }
  | _ => none }
def quorumHalfRow : OpenClaim := { program := "yteckffndboiknaa", sum := "549fc01d7076aeba143e6b459e9ed7e3ccd40d0398c87dc9b328a7c1de533473", func := "quorate/quoratelaw11.QuorumHalf", spec := "quorumHalf", apart := false }
def QuorumHalfSaid : Prop := quorumHalfRow.holds Try.pinned (OpenSpec.ofChange quorumHalfSpec)

/-- ITS FALSE NEIGHBOUR: 'it returns false'. Refute it at one input. -/
def quorumHalfWrong : ChangeSpec := { name := "quorumHalf", fn := fun _ => fun
  | [d] => { results := [.lit (.bool false)], args := [d] }
  | _ => none }
def QuorumHalfWrongFalsely : Prop := quorumHalfRow.holds Try.pinned (OpenSpec.ofChange quorumHalfWrong)

/-- 'quoratelaw11.QuorumMeet': WHATEVER THE INPUT: true; the input reads as it did. -/
def quorumMeetSpec : ChangeSpec := { name := "quorumMeet", fn := fun _ => fun
  | [d] => { results := [.lit (.bool true)], args := [d] }
  | _ => none }
def quorumMeetRow : OpenClaim := { program := "yteckffndboiknaa", sum := "549fc01d7076aeba143e6b459e9ed7e3ccd40d0398c87dc9b328a7c1de533473", func := "quorate/quoratelaw11.QuorumMeet", spec := "quorumMeet", apart := false }
def QuorumMeetSaid : Prop := quorumMeetRow.holds Try.pinned (OpenSpec.ofChange quorumMeetSpec)

/-- ITS FALSE NEIGHBOUR: 'it returns false'. Refute it at one input. -/
def quorumMeetWrong : ChangeSpec := { name := "quorumMeet", fn := fun _ => fun
  | [d] => { results := [.lit (.bool false)], args := [d] }
  | _ => none }
def QuorumMeetWrongFalsely : Prop := quorumMeetRow.holds Try.pinned (OpenSpec.ofChange quorumMeetWrong)

/-- 'quoratelaw11.QuorumSets': WHATEVER THE INPUT: true; the input reads as it did. -/
def quorumSetsSpec : ChangeSpec := { name := "quorumSets", fn := fun _ => fun
  | [d] => { results := [.lit (.bool true)], args := [d] }
  | _ => none }
def quorumSetsRow : OpenClaim := { program := "yteckffndboiknaa", sum := "549fc01d7076aeba143e6b459e9ed7e3ccd40d0398c87dc9b328a7c1de533473", func := "quorate/quoratelaw11.QuorumSets", spec := "quorumSets", apart := false }
def QuorumSetsSaid : Prop := quorumSetsRow.holds Try.pinned (OpenSpec.ofChange quorumSetsSpec)

/-- ITS FALSE NEIGHBOUR: 'it returns false'. Refute it at one input. -/
def quorumSetsWrong : ChangeSpec := { name := "quorumSets", fn := fun _ => fun
  | [d] => { results := [.lit (.bool false)], args := [d] }
  | _ => none }
def QuorumSetsWrongFalsely : Prop := quorumSetsRow.holds Try.pinned (OpenSpec.ofChange quorumSetsWrong)

/-- 'quoratelaw11.QuorumWatch': WHATEVER THE INPUT: true; the input reads as it did. -/
def quorumWatchSpec : ChangeSpec := { name := "quorumWatch", fn := fun _ => fun
  | [d] => { results := [.lit (.bool true)], args := [d] }
  | _ => none }
def quorumWatchRow : OpenClaim := { program := "yteckffndboiknaa", sum := "549fc01d7076aeba143e6b459e9ed7e3ccd40d0398c87dc9b328a7c1de533473", func := "quorate/quoratelaw11.QuorumWatch", spec := "quorumWatch", unfollowed := true, recurses := true, apart := false }
def QuorumWatchSaid : Prop := quorumWatchRow.holds Try.pinned (OpenSpec.ofChange quorumWatchSpec)

/-- ITS FALSE NEIGHBOUR: 'it returns false'. Refute it at one input. -/
def quorumWatchWrong : ChangeSpec := { name := "quorumWatch", fn := fun _ => fun
  | [d] => { results := [.lit (.bool false)], args := [d] }
  | _ => none }
def QuorumWatchWrongFalsely : Prop := quorumWatchRow.holds Try.pinned (OpenSpec.ofChange quorumWatchWrong)

/-- 'quoratelaw11.QuorumPrimary': WHATEVER THE INPUT: true; the input reads as it did. -/
def quorumPrimarySpec : ChangeSpec := { name := "quorumPrimary", fn := fun _ => fun
  | [d] => { results := [.lit (.bool true)], args := [d] }
  | _ => none }
def quorumPrimaryRow : OpenClaim := { program := "yteckffndboiknaa", sum := "549fc01d7076aeba143e6b459e9ed7e3ccd40d0398c87dc9b328a7c1de533473", func := "quorate/quoratelaw11.QuorumPrimary", spec := "quorumPrimary", unfollowed := true, recurses := true, apart := false }
def QuorumPrimarySaid : Prop := quorumPrimaryRow.holds Try.pinned (OpenSpec.ofChange quorumPrimarySpec)

/-- ITS FALSE NEIGHBOUR: 'it returns false'. Refute it at one input. -/
def quorumPrimaryWrong : ChangeSpec := { name := "quorumPrimary", fn := fun _ => fun
  | [d] => { results := [.lit (.bool false)], args := [d] }
  | _ => none }
def QuorumPrimaryWrongFalsely : Prop := quorumPrimaryRow.holds Try.pinned (OpenSpec.ofChange quorumPrimaryWrong)

/-- 'quoratelaw11.QuorumTurns': WHATEVER THE INPUT: true; the input reads as it did. -/
def quorumTurnsSpec : ChangeSpec := { name := "quorumTurns", fn := fun _ => fun
  | [d1, d2] => { results := [.lit (.bool true)], args := [d1, d2] }
  | _ => none }
def quorumTurnsRow : OpenClaim := { program := "yteckffndboiknaa", sum := "549fc01d7076aeba143e6b459e9ed7e3ccd40d0398c87dc9b328a7c1de533473", func := "quorate/quoratelaw11.QuorumTurns", spec := "quorumTurns", unfollowed := true, recurses := true, apart := false }
def QuorumTurnsSaid : Prop := quorumTurnsRow.holds Try.pinned (OpenSpec.ofChange quorumTurnsSpec)

/-- ITS FALSE NEIGHBOUR: 'it returns false'. Refute it at one input. -/
def quorumTurnsWrong : ChangeSpec := { name := "quorumTurns", fn := fun _ => fun
  | [d1, d2] => { results := [.lit (.bool false)], args := [d1, d2] }
  | _ => none }
def QuorumTurnsWrongFalsely : Prop := quorumTurnsRow.holds Try.pinned (OpenSpec.ofChange quorumTurnsWrong)

/-- 'quoratelaw11.QuorumCounts': WHATEVER THE INPUT: true; the input reads as it did. -/
def quorumCountsSpec : ChangeSpec := { name := "quorumCounts", fn := fun _ => fun
  | [d] => { results := [.lit (.bool true)], args := [d] }
  | _ => none }
def quorumCountsRow : OpenClaim := { program := "yteckffndboiknaa", sum := "549fc01d7076aeba143e6b459e9ed7e3ccd40d0398c87dc9b328a7c1de533473", func := "quorate/quoratelaw11.QuorumCounts", spec := "quorumCounts", apart := false }
def QuorumCountsSaid : Prop := quorumCountsRow.holds Try.pinned (OpenSpec.ofChange quorumCountsSpec)

/-- ITS FALSE NEIGHBOUR: 'it returns false'. Refute it at one input. -/
def quorumCountsWrong : ChangeSpec := { name := "quorumCounts", fn := fun _ => fun
  | [d] => { results := [.lit (.bool false)], args := [d] }
  | _ => none }
def QuorumCountsWrongFalsely : Prop := quorumCountsRow.holds Try.pinned (OpenSpec.ofChange quorumCountsWrong)

/-- 'quoratelaw11.QuorumBears': WHATEVER THE INPUT: true; the input reads as it did. -/
def quorumBearsSpec : ChangeSpec := { name := "quorumBears", fn := fun _ => fun
  | [d] => { results := [.lit (.bool true)], args := [d] }
  | _ => none }
def quorumBearsRow : OpenClaim := { program := "yteckffndboiknaa", sum := "549fc01d7076aeba143e6b459e9ed7e3ccd40d0398c87dc9b328a7c1de533473", func := "quorate/quoratelaw11.QuorumBears", spec := "quorumBears", apart := false }
def QuorumBearsSaid : Prop := quorumBearsRow.holds Try.pinned (OpenSpec.ofChange quorumBearsSpec)

/-- ITS FALSE NEIGHBOUR: 'it returns false'. Refute it at one input. -/
def quorumBearsWrong : ChangeSpec := { name := "quorumBears", fn := fun _ => fun
  | [d] => { results := [.lit (.bool false)], args := [d] }
  | _ => none }
def QuorumBearsWrongFalsely : Prop := quorumBearsRow.holds Try.pinned (OpenSpec.ofChange quorumBearsWrong)

/-- 'quoratelaw11.QuorumLeast': WHATEVER THE INPUT: true; the input reads as it did. -/
def quorumLeastSpec : ChangeSpec := { name := "quorumLeast", fn := fun _ => fun
  | [d1, d2] => { results := [.lit (.bool true)], args := [d1, d2] }
  | _ => none }
def quorumLeastRow : OpenClaim := { program := "yteckffndboiknaa", sum := "549fc01d7076aeba143e6b459e9ed7e3ccd40d0398c87dc9b328a7c1de533473", func := "quorate/quoratelaw11.QuorumLeast", spec := "quorumLeast", inPlace := ["internal/reflectlite.ValueOf", "internal/reflectlite.Swapper", "(internal/reflectlite.Value).Len"], unfollowed := true, recurses := true, apart := false }
def QuorumLeastSaid : Prop := quorumLeastRow.holds Try.pinned (OpenSpec.ofChange quorumLeastSpec)

/-- ITS FALSE NEIGHBOUR: 'it returns false'. Refute it at one input. -/
def quorumLeastWrong : ChangeSpec := { name := "quorumLeast", fn := fun _ => fun
  | [d1, d2] => { results := [.lit (.bool false)], args := [d1, d2] }
  | _ => none }
def QuorumLeastWrongFalsely : Prop := quorumLeastRow.holds Try.pinned (OpenSpec.ofChange quorumLeastWrong)

/-- 'quoratelaw11.QuorumGround': WHATEVER THE INPUT: true; the input reads as it did. -/
def quorumGroundSpec : ChangeSpec := { name := "quorumGround", fn := fun _ => fun
  | [d] => { results := [.lit (.bool true)], args := [d] }
  | _ => none }
def quorumGroundRow : OpenClaim := { program := "yteckffndboiknaa", sum := "549fc01d7076aeba143e6b459e9ed7e3ccd40d0398c87dc9b328a7c1de533473", func := "quorate/quoratelaw11.QuorumGround", spec := "quorumGround", inPlace := ["internal/reflectlite.ValueOf", "internal/reflectlite.Swapper", "(internal/reflectlite.Value).Len"], unfollowed := true, recurses := true, apart := false }
def QuorumGroundSaid : Prop := quorumGroundRow.holds Try.pinned (OpenSpec.ofChange quorumGroundSpec)

/-- ITS FALSE NEIGHBOUR: 'it returns false'. Refute it at one input. -/
def quorumGroundWrong : ChangeSpec := { name := "quorumGround", fn := fun _ => fun
  | [d] => { results := [.lit (.bool false)], args := [d] }
  | _ => none }
def QuorumGroundWrongFalsely : Prop := quorumGroundRow.holds Try.pinned (OpenSpec.ofChange quorumGroundWrong)

/-- 'quoratelaw11.QuorumPlace': WHATEVER THE INPUT: true; the input reads as it did. -/
def quorumPlaceSpec : ChangeSpec := { name := "quorumPlace", fn := fun _ => fun
  | [d1, d2, d3] => { results := [.lit (.bool true)], args := [d1, d2, d3] }
  | _ => none }
def quorumPlaceRow : OpenClaim := { program := "yteckffndboiknaa", sum := "549fc01d7076aeba143e6b459e9ed7e3ccd40d0398c87dc9b328a7c1de533473", func := "quorate/quoratelaw11.QuorumPlace", spec := "quorumPlace", inPlace := ["internal/reflectlite.ValueOf", "internal/reflectlite.Swapper", "(internal/reflectlite.Value).Len"], unfollowed := true, recurses := true, apart := false }
def QuorumPlaceSaid : Prop := quorumPlaceRow.holds Try.pinned (OpenSpec.ofChange quorumPlaceSpec)

/-- ITS FALSE NEIGHBOUR: 'it returns false'. Refute it at one input. -/
def quorumPlaceWrong : ChangeSpec := { name := "quorumPlace", fn := fun _ => fun
  | [d1, d2, d3] => { results := [.lit (.bool false)], args := [d1, d2, d3] }
  | _ => none }
def QuorumPlaceWrongFalsely : Prop := quorumPlaceRow.holds Try.pinned (OpenSpec.ofChange quorumPlaceWrong)

/- THE SECOND FORM. 'bulk': how many values and letters a reading holds, each counted each time it is reached (what is shared counts as often as it is met; a slice's spare places count too). A statement '..UptoSaid' is the law's where the arguments, and the package variables that the reading takes, are together of bulk at most 1048576: NARROWER than '..Said'. Prove '..Said' where nothing that the law and all that it calls make is longer than what came in: it says more and counts as full. Else prove '..UptoSaid'. A law counts once. -/
mutual
def uptoBulk {H : Type} : DataW H → Nat
  | .lit (.string bytes) => bytes.length + 1
  | .lit _ => 1
  | .nil => 1
  | .ptr d => uptoBulk d + 1
  | .slice elems spare => uptoBulkAll elems + uptoBulkAll spare + 1
  | .agg parts => uptoBulkAll parts + 1
  | .iface _ d => uptoBulk d + 1
  | .map entries => uptoBulkEntries entries + 1
  | .held _ => 1
def uptoBulkAll {H : Type} : List (DataW H) → Nat
  | [] => 0
  | d :: r => uptoBulk d + uptoBulkAll r
def uptoBulkEntries {H : Type} : List (Lit × DataW H) → Nat
  | [] => 0
  | x :: r => uptoBulkEntry x + uptoBulkEntries r
def uptoBulkEntry {H : Type} : Lit × DataW H → Nat
  | (.string bytes, d) => bytes.length + uptoBulk d + 1
  | (_, d) => uptoBulk d + 1
 end
def uptoSmall : (H : Type) → List (DataW H) → Bool := fun _ ds => decide (uptoBulkAll ds ≤ 1048576)
def OpenSpec.upto (s : _root_.Go.ChangeSpec) : _root_.Go.OpenSpec := { _root_.Go.OpenSpec.ofChange s with cond := some uptoSmall }

/-- 'quoratelaw11.QuorumBest', WHERE WHAT IT READS IS OF BULK AT MOST 1048576: true; the input reads as it did. -/
def quorumBestUptoRow : OpenClaim := { program := "yteckffndboiknaa", sum := "549fc01d7076aeba143e6b459e9ed7e3ccd40d0398c87dc9b328a7c1de533473", func := "quorate/quoratelaw11.QuorumBest", spec := "quorumBest", apart := false, narrowed := true }
def QuorumBestUptoSaid : Prop := quorumBestUptoRow.holds Try.pinned (OpenSpec.upto quorumBestSpec)

/-- 'quoratelaw11.QuorumHalf', WHERE WHAT IT READS IS OF BULK AT MOST 1048576: true; the input reads as it did. -/
def quorumHalfUptoRow : OpenClaim := { program := "yteckffndboiknaa", sum := "549fc01d7076aeba143e6b459e9ed7e3ccd40d0398c87dc9b328a7c1de533473", func := "quorate/quoratelaw11.QuorumHalf", spec := "quorumHalf", apart := false, narrowed := true }
def QuorumHalfUptoSaid : Prop := quorumHalfUptoRow.holds Try.pinned (OpenSpec.upto quorumHalfSpec)

/-- 'quoratelaw11.QuorumMeet', WHERE WHAT IT READS IS OF BULK AT MOST 1048576: true; the input reads as it did. -/
def quorumMeetUptoRow : OpenClaim := { program := "yteckffndboiknaa", sum := "549fc01d7076aeba143e6b459e9ed7e3ccd40d0398c87dc9b328a7c1de533473", func := "quorate/quoratelaw11.QuorumMeet", spec := "quorumMeet", apart := false, narrowed := true }
def QuorumMeetUptoSaid : Prop := quorumMeetUptoRow.holds Try.pinned (OpenSpec.upto quorumMeetSpec)

/-- 'quoratelaw11.QuorumSets', WHERE WHAT IT READS IS OF BULK AT MOST 1048576: true; the input reads as it did. -/
def quorumSetsUptoRow : OpenClaim := { program := "yteckffndboiknaa", sum := "549fc01d7076aeba143e6b459e9ed7e3ccd40d0398c87dc9b328a7c1de533473", func := "quorate/quoratelaw11.QuorumSets", spec := "quorumSets", apart := false, narrowed := true }
def QuorumSetsUptoSaid : Prop := quorumSetsUptoRow.holds Try.pinned (OpenSpec.upto quorumSetsSpec)

/-- 'quoratelaw11.QuorumWatch', WHERE WHAT IT READS IS OF BULK AT MOST 1048576: true; the input reads as it did. -/
def quorumWatchUptoRow : OpenClaim := { program := "yteckffndboiknaa", sum := "549fc01d7076aeba143e6b459e9ed7e3ccd40d0398c87dc9b328a7c1de533473", func := "quorate/quoratelaw11.QuorumWatch", spec := "quorumWatch", unfollowed := true, recurses := true, apart := false, narrowed := true }
def QuorumWatchUptoSaid : Prop := quorumWatchUptoRow.holds Try.pinned (OpenSpec.upto quorumWatchSpec)

/-- 'quoratelaw11.QuorumPrimary', WHERE WHAT IT READS IS OF BULK AT MOST 1048576: true; the input reads as it did. -/
def quorumPrimaryUptoRow : OpenClaim := { program := "yteckffndboiknaa", sum := "549fc01d7076aeba143e6b459e9ed7e3ccd40d0398c87dc9b328a7c1de533473", func := "quorate/quoratelaw11.QuorumPrimary", spec := "quorumPrimary", unfollowed := true, recurses := true, apart := false, narrowed := true }
def QuorumPrimaryUptoSaid : Prop := quorumPrimaryUptoRow.holds Try.pinned (OpenSpec.upto quorumPrimarySpec)

/-- 'quoratelaw11.QuorumTurns', WHERE WHAT IT READS IS OF BULK AT MOST 1048576: true; the input reads as it did. -/
def quorumTurnsUptoRow : OpenClaim := { program := "yteckffndboiknaa", sum := "549fc01d7076aeba143e6b459e9ed7e3ccd40d0398c87dc9b328a7c1de533473", func := "quorate/quoratelaw11.QuorumTurns", spec := "quorumTurns", unfollowed := true, recurses := true, apart := false, narrowed := true }
def QuorumTurnsUptoSaid : Prop := quorumTurnsUptoRow.holds Try.pinned (OpenSpec.upto quorumTurnsSpec)

/-- 'quoratelaw11.QuorumCounts', WHERE WHAT IT READS IS OF BULK AT MOST 1048576: true; the input reads as it did. -/
def quorumCountsUptoRow : OpenClaim := { program := "yteckffndboiknaa", sum := "549fc01d7076aeba143e6b459e9ed7e3ccd40d0398c87dc9b328a7c1de533473", func := "quorate/quoratelaw11.QuorumCounts", spec := "quorumCounts", apart := false, narrowed := true }
def QuorumCountsUptoSaid : Prop := quorumCountsUptoRow.holds Try.pinned (OpenSpec.upto quorumCountsSpec)

/-- 'quoratelaw11.QuorumBears', WHERE WHAT IT READS IS OF BULK AT MOST 1048576: true; the input reads as it did. -/
def quorumBearsUptoRow : OpenClaim := { program := "yteckffndboiknaa", sum := "549fc01d7076aeba143e6b459e9ed7e3ccd40d0398c87dc9b328a7c1de533473", func := "quorate/quoratelaw11.QuorumBears", spec := "quorumBears", apart := false, narrowed := true }
def QuorumBearsUptoSaid : Prop := quorumBearsUptoRow.holds Try.pinned (OpenSpec.upto quorumBearsSpec)

/-- 'quoratelaw11.QuorumLeast', WHERE WHAT IT READS IS OF BULK AT MOST 1048576: true; the input reads as it did. -/
def quorumLeastUptoRow : OpenClaim := { program := "yteckffndboiknaa", sum := "549fc01d7076aeba143e6b459e9ed7e3ccd40d0398c87dc9b328a7c1de533473", func := "quorate/quoratelaw11.QuorumLeast", spec := "quorumLeast", inPlace := ["internal/reflectlite.ValueOf", "internal/reflectlite.Swapper", "(internal/reflectlite.Value).Len"], unfollowed := true, recurses := true, apart := false, narrowed := true }
def QuorumLeastUptoSaid : Prop := quorumLeastUptoRow.holds Try.pinned (OpenSpec.upto quorumLeastSpec)

/-- 'quoratelaw11.QuorumGround', WHERE WHAT IT READS IS OF BULK AT MOST 1048576: true; the input reads as it did. -/
def quorumGroundUptoRow : OpenClaim := { program := "yteckffndboiknaa", sum := "549fc01d7076aeba143e6b459e9ed7e3ccd40d0398c87dc9b328a7c1de533473", func := "quorate/quoratelaw11.QuorumGround", spec := "quorumGround", inPlace := ["internal/reflectlite.ValueOf", "internal/reflectlite.Swapper", "(internal/reflectlite.Value).Len"], unfollowed := true, recurses := true, apart := false, narrowed := true }
def QuorumGroundUptoSaid : Prop := quorumGroundUptoRow.holds Try.pinned (OpenSpec.upto quorumGroundSpec)

/-- 'quoratelaw11.QuorumPlace', WHERE WHAT IT READS IS OF BULK AT MOST 1048576: true; the input reads as it did. -/
def quorumPlaceUptoRow : OpenClaim := { program := "yteckffndboiknaa", sum := "549fc01d7076aeba143e6b459e9ed7e3ccd40d0398c87dc9b328a7c1de533473", func := "quorate/quoratelaw11.QuorumPlace", spec := "quorumPlace", inPlace := ["internal/reflectlite.ValueOf", "internal/reflectlite.Swapper", "(internal/reflectlite.Value).Len"], unfollowed := true, recurses := true, apart := false, narrowed := true }
def QuorumPlaceUptoSaid : Prop := quorumPlaceUptoRow.holds Try.pinned (OpenSpec.upto quorumPlaceSpec)

end Rows
end Go.Proofs.Yteckffndboiknaa
