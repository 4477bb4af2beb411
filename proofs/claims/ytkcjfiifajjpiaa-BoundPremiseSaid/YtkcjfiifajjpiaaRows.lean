/-
  No cell of these rows narrows 'for every input' (looked for: loops, veiled, ifaces, maps, wideKeys, modest, calm, conditions, laid).
  DERIVED. THE GIVEN ROWS OF THIS SEAT. 4 by the template 'for every input the law returns true; each argument reads behind the call as it read before'; 0 by the template 'total and deterministic' (their statements: YtkcjfiifajjpiaaTotals.lean).
  GIVEN WITH THE SEED: the statements are not yours to turn. If you find one false, say at which input.
  Laid BY PROGRAM, IN A SANDBOX (cutbox-rows.mjs): the forced cells as the released guide's own fill.sh prints them over the translation 3b553d9e91b8311d… (all of the seat's roots in one cut). By AI agents, Wed Nov 11 2026. No macro, syntax, notation, axiom, sorry.
-/
import Derived.Test.YtkcjfiifajjpiaaChecked
import GoSem.Claim
import GoSem.ClaimJoined
import GoSem.ClaimMapViews
import Derived.JoinedTies
import Derived.KernelRfl
namespace Go.Proofs.Ytkcjfiifajjpiaa
/- THE CELL 'sum', in the pinned program and in every row, IS THE sha256 OF THE DUMP (.gsa) THAT YtkcjfiifajjpiaaProg.lean LOADS. Nothing in Lean hashes anything: it is a label: what it is worth is what the hold of that sum in a sandbox is worth. -/
noncomputable def Try.pinned : Pinned := { name := "ytkcjfiifajjpiaa", sum := "3b553d9e91b8311d1f76794b1e331f1d8beb64b4c0a87a8d3f66ed2361a240ca", checked := Try.checked }
namespace Rows
def none {H : Type} : Left H := { results := [], args := [] }

/-- 'quoratelaw18.BoundNumbers': WHATEVER THE INPUT: true; the input reads as it did. -/
def boundNumbersSpec : ChangeSpec := { name := "boundNumbers", fn := fun _ => fun
  | [d] => { results := [.lit (.bool true)], args := [d] }
  | _ => none }
def boundNumbersRow : OpenClaim := { program := "ytkcjfiifajjpiaa", sum := "3b553d9e91b8311d1f76794b1e331f1d8beb64b4c0a87a8d3f66ed2361a240ca", func := "quorate/quoratelaw18.BoundNumbers", spec := "boundNumbers", unfollowed := true, recurses := true, apart := false }
def BoundNumbersSaid : Prop := boundNumbersRow.holds Try.pinned (OpenSpec.ofChange boundNumbersSpec)

/-- ITS FALSE NEIGHBOUR: 'it returns false'. Refute it at one input. -/
def boundNumbersWrong : ChangeSpec := { name := "boundNumbers", fn := fun _ => fun
  | [d] => { results := [.lit (.bool false)], args := [d] }
  | _ => none }
def BoundNumbersWrongFalsely : Prop := boundNumbersRow.holds Try.pinned (OpenSpec.ofChange boundNumbersWrong)

/-- 'quoratelaw18.BoundPremise': WHATEVER THE INPUT: true; the input reads as it did. -/
def boundPremiseSpec : ChangeSpec := { name := "boundPremise", fn := fun _ => fun
  | [d] => { results := [.lit (.bool true)], args := [d] }
  | _ => none }
def boundPremiseRow : OpenClaim := { program := "ytkcjfiifajjpiaa", sum := "3b553d9e91b8311d1f76794b1e331f1d8beb64b4c0a87a8d3f66ed2361a240ca", func := "quorate/quoratelaw18.BoundPremise", spec := "boundPremise", unfollowed := true, recurses := true, apart := false }
def BoundPremiseSaid : Prop := boundPremiseRow.holds Try.pinned (OpenSpec.ofChange boundPremiseSpec)

/-- ITS FALSE NEIGHBOUR: 'it returns false'. Refute it at one input. -/
def boundPremiseWrong : ChangeSpec := { name := "boundPremise", fn := fun _ => fun
  | [d] => { results := [.lit (.bool false)], args := [d] }
  | _ => none }
def BoundPremiseWrongFalsely : Prop := boundPremiseRow.holds Try.pinned (OpenSpec.ofChange boundPremiseWrong)

/-- 'quoratelaw18.BoundBegins': WHATEVER THE INPUT: true; the input reads as it did. -/
def boundBeginsSpec : ChangeSpec := { name := "boundBegins", fn := fun _ => fun
  | [d] => { results := [.lit (.bool true)], args := [d] }
  | _ => none }
def boundBeginsRow : OpenClaim := { program := "ytkcjfiifajjpiaa", sum := "3b553d9e91b8311d1f76794b1e331f1d8beb64b4c0a87a8d3f66ed2361a240ca", func := "quorate/quoratelaw18.BoundBegins", spec := "boundBegins", unfollowed := true, recurses := true, apart := false }
def BoundBeginsSaid : Prop := boundBeginsRow.holds Try.pinned (OpenSpec.ofChange boundBeginsSpec)

/-- ITS FALSE NEIGHBOUR: 'it returns false'. Refute it at one input. -/
def boundBeginsWrong : ChangeSpec := { name := "boundBegins", fn := fun _ => fun
  | [d] => { results := [.lit (.bool false)], args := [d] }
  | _ => none }
def BoundBeginsWrongFalsely : Prop := boundBeginsRow.holds Try.pinned (OpenSpec.ofChange boundBeginsWrong)

/-- 'quoratelaw18.BoundApart': WHATEVER THE INPUT: true; the input reads as it did. -/
def boundApartSpec : ChangeSpec := { name := "boundApart", fn := fun _ => fun
  | [d] => { results := [.lit (.bool true)], args := [d] }
  | _ => none }
def boundApartRow : OpenClaim := { program := "ytkcjfiifajjpiaa", sum := "3b553d9e91b8311d1f76794b1e331f1d8beb64b4c0a87a8d3f66ed2361a240ca", func := "quorate/quoratelaw18.BoundApart", spec := "boundApart", unfollowed := true, recurses := true, apart := false }
def BoundApartSaid : Prop := boundApartRow.holds Try.pinned (OpenSpec.ofChange boundApartSpec)

/-- ITS FALSE NEIGHBOUR: 'it returns false'. Refute it at one input. -/
def boundApartWrong : ChangeSpec := { name := "boundApart", fn := fun _ => fun
  | [d] => { results := [.lit (.bool false)], args := [d] }
  | _ => none }
def BoundApartWrongFalsely : Prop := boundApartRow.holds Try.pinned (OpenSpec.ofChange boundApartWrong)

/- THE SECOND FORM. 'bulk': how many values and letters a reading holds, each counted each time it is reached (what is shared counts as often as it is met; a slice's spare places count too). A statement '..UptoSaid' is the law's where the arguments, and the package variables that the reading takes, are together of bulk at most 1048576: NARROWER than '..Said'. Prove '..Said' where nothing that the law and all that it calls make is longer than what came in: it says more and counts as full. Else prove '..UptoSaid'. A law counts once. -/
mutual
def uptoBulk {H : Type} : DataW H → Nat
  | .lit (.string bytes) => bytes.length + 1
  | .lit _ => 1
  | .nil => 1
  | .ptr d => uptoBulk d + 1
  | .slice elems spare => uptoBulkAll elems + uptoBulkAll spare + 1
  | .agg parts => uptoBulkAll parts + 1
  | .iface _ d => uptoBulk d + 1
  | .map entries => uptoBulkEntries entries + 1
  | .held _ => 1
def uptoBulkAll {H : Type} : List (DataW H) → Nat
  | [] => 0
  | d :: r => uptoBulk d + uptoBulkAll r
def uptoBulkEntries {H : Type} : List (Lit × DataW H) → Nat
  | [] => 0
  | x :: r => uptoBulkEntry x + uptoBulkEntries r
def uptoBulkEntry {H : Type} : Lit × DataW H → Nat
  | (.string bytes, d) => bytes.length + uptoBulk d + 1
  | (_, d) => uptoBulk d + 1
 end
def uptoSmall : (H : Type) → List (DataW H) → Bool := fun _ ds => decide (uptoBulkAll ds ≤ 1048576)
def OpenSpec.upto (s : _root_.Go.ChangeSpec) : _root_.Go.OpenSpec := { _root_.Go.OpenSpec.ofChange s with cond := some uptoSmall }

/-- 'quoratelaw18.BoundNumbers', WHERE WHAT IT READS IS OF BULK AT MOST 1048576: true; the input reads as it did. -/
def boundNumbersUptoRow : OpenClaim := { program := "ytkcjfiifajjpiaa", sum := "3b553d9e91b8311d1f76794b1e331f1d8beb64b4c0a87a8d3f66ed2361a240ca", func := "quorate/quoratelaw18.BoundNumbers", spec := "boundNumbers", unfollowed := true, recurses := true, apart := false, narrowed := true }
def BoundNumbersUptoSaid : Prop := boundNumbersUptoRow.holds Try.pinned (OpenSpec.upto boundNumbersSpec)

/-- 'quoratelaw18.BoundPremise', WHERE WHAT IT READS IS OF BULK AT MOST 1048576: true; the input reads as it did. -/
def boundPremiseUptoRow : OpenClaim := { program := "ytkcjfiifajjpiaa", sum := "3b553d9e91b8311d1f76794b1e331f1d8beb64b4c0a87a8d3f66ed2361a240ca", func := "quorate/quoratelaw18.BoundPremise", spec := "boundPremise", unfollowed := true, recurses := true, apart := false, narrowed := true }
def BoundPremiseUptoSaid : Prop := boundPremiseUptoRow.holds Try.pinned (OpenSpec.upto boundPremiseSpec)

/-- 'quoratelaw18.BoundBegins', WHERE WHAT IT READS IS OF BULK AT MOST 1048576: true; the input reads as it did. -/
def boundBeginsUptoRow : OpenClaim := { program := "ytkcjfiifajjpiaa", sum := "3b553d9e91b8311d1f76794b1e331f1d8beb64b4c0a87a8d3f66ed2361a240ca", func := "quorate/quoratelaw18.BoundBegins", spec := "boundBegins", unfollowed := true, recurses := true, apart := false, narrowed := true }
def BoundBeginsUptoSaid : Prop := boundBeginsUptoRow.holds Try.pinned (OpenSpec.upto boundBeginsSpec)

/-- 'quoratelaw18.BoundApart', WHERE WHAT IT READS IS OF BULK AT MOST 1048576: true; the input reads as it did. -/
def boundApartUptoRow : OpenClaim := { program := "ytkcjfiifajjpiaa", sum := "3b553d9e91b8311d1f76794b1e331f1d8beb64b4c0a87a8d3f66ed2361a240ca", func := "quorate/quoratelaw18.BoundApart", spec := "boundApart", unfollowed := true, recurses := true, apart := false, narrowed := true }
def BoundApartUptoSaid : Prop := boundApartUptoRow.holds Try.pinned (OpenSpec.upto boundApartSpec)

end Rows
end Go.Proofs.Ytkcjfiifajjpiaa
