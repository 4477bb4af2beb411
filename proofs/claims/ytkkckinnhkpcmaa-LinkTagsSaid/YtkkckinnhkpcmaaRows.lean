/-
  No cell of these rows narrows 'for every input' (looked for: loops, veiled, ifaces, maps, wideKeys, modest, calm, conditions, laid).
  DERIVED. THE GIVEN ROWS OF THIS SEAT. 12 by the template 'for every input the law returns true; each argument reads behind the call as it read before'; 0 by the template 'total and deterministic' (their statements: YtkkckinnhkpcmaaTotals.lean).
  GIVEN WITH THE SEED: the statements are not yours to turn. If you find one false, say at which input.
  Laid BY PROGRAM, IN A SANDBOX (cutbox-rows.mjs): the forced cells as the released guide's own fill.sh prints them over the translation 539dedc6c3ce2cfb… (all of the seat's roots in one cut). By AI agents, Wed Nov 11 2026. No macro, syntax, notation, axiom, sorry.
-/
import Derived.Test.YtkkckinnhkpcmaaChecked
import GoSem.Claim
import GoSem.ClaimJoined
import GoSem.ClaimMapViews
import Derived.JoinedTies
import Derived.KernelRfl
namespace Go.Proofs.Ytkkckinnhkpcmaa
/- THE CELL 'sum', in the pinned program and in every row, IS THE sha256 OF THE DUMP (.gsa) THAT YtkkckinnhkpcmaaProg.lean LOADS. Nothing in Lean hashes anything: it is a label: what it is worth is what the hold of that sum in a sandbox is worth. -/
noncomputable def Try.pinned : Pinned := { name := "ytkkckinnhkpcmaa", sum := "539dedc6c3ce2cfb7dc49595360e973c6838a23b6d8e77fa54e205728da07a15", checked := Try.checked }
namespace Rows
def none {H : Type} : Left H := { results := [], args := [] }

/-- 'quoratelaw04.LinkNames': WHATEVER THE INPUT: true; the input reads as it did. -/
def linkNamesSpec : ChangeSpec := { name := "linkNames", fn := fun _ => fun
  | [] => { results := [.lit (.bool true)], args := [] }
  | _ => none }
def linkNamesRow : OpenClaim := { program := "ytkkckinnhkpcmaa", sum := "539dedc6c3ce2cfb7dc49595360e973c6838a23b6d8e77fa54e205728da07a15", func := "quorate/quoratelaw04.LinkNames", spec := "linkNames", apart := false }
def LinkNamesSaid : Prop := linkNamesRow.holds Try.pinned (OpenSpec.ofChange linkNamesSpec)

/-- ITS FALSE NEIGHBOUR: 'it returns false'. Refute it at one input. -/
def linkNamesWrong : ChangeSpec := { name := "linkNames", fn := fun _ => fun
  | [] => { results := [.lit (.bool false)], args := [] }
  | _ => none }
def LinkNamesWrongFalsely : Prop := linkNamesRow.holds Try.pinned (OpenSpec.ofChange linkNamesWrong)

/-- 'quoratelaw04.LinkFifo': WHATEVER THE INPUT: true; the input reads as it did. -/
def linkFifoSpec : ChangeSpec := { name := "linkFifo", fn := fun _ => fun
  | [d] => { results := [.lit (.bool true)], args := [d] }
  | _ => none }
def linkFifoRow : OpenClaim := { program := "ytkkckinnhkpcmaa", sum := "539dedc6c3ce2cfb7dc49595360e973c6838a23b6d8e77fa54e205728da07a15", func := "quorate/quoratelaw04.LinkFifo", spec := "linkFifo", apart := false }
def LinkFifoSaid : Prop := linkFifoRow.holds Try.pinned (OpenSpec.ofChange linkFifoSpec)

/-- ITS FALSE NEIGHBOUR: 'it returns false'. Refute it at one input. -/
def linkFifoWrong : ChangeSpec := { name := "linkFifo", fn := fun _ => fun
  | [d] => { results := [.lit (.bool false)], args := [d] }
  | _ => none }
def LinkFifoWrongFalsely : Prop := linkFifoRow.holds Try.pinned (OpenSpec.ofChange linkFifoWrong)

/-- 'quoratelaw04.LinkCalm': WHATEVER THE INPUT: true; the input reads as it did. -/
def linkCalmSpec : ChangeSpec := { name := "linkCalm", fn := fun _ => fun
  | [d] => { results := [.lit (.bool true)], args := [d] }
  | _ => none }
def linkCalmRow : OpenClaim := { program := "ytkkckinnhkpcmaa", sum := "539dedc6c3ce2cfb7dc49595360e973c6838a23b6d8e77fa54e205728da07a15", func := "quorate/quoratelaw04.LinkCalm", spec := "linkCalm", apart := false }
def LinkCalmSaid : Prop := linkCalmRow.holds Try.pinned (OpenSpec.ofChange linkCalmSpec)

/-- ITS FALSE NEIGHBOUR: 'it returns false'. Refute it at one input. -/
def linkCalmWrong : ChangeSpec := { name := "linkCalm", fn := fun _ => fun
  | [d] => { results := [.lit (.bool false)], args := [d] }
  | _ => none }
def LinkCalmWrongFalsely : Prop := linkCalmRow.holds Try.pinned (OpenSpec.ofChange linkCalmWrong)

/-- 'quoratelaw04.LinkTags': WHATEVER THE INPUT: true; the input reads as it did. -/
def linkTagsSpec : ChangeSpec := { name := "linkTags", fn := fun _ => fun
  | [d] => { results := [.lit (.bool true)], args := [d] }
  | _ => none }
def linkTagsRow : OpenClaim := { program := "ytkkckinnhkpcmaa", sum := "539dedc6c3ce2cfb7dc49595360e973c6838a23b6d8e77fa54e205728da07a15", func := "quorate/quoratelaw04.LinkTags", spec := "linkTags", apart := false }
def LinkTagsSaid : Prop := linkTagsRow.holds Try.pinned (OpenSpec.ofChange linkTagsSpec)

/-- ITS FALSE NEIGHBOUR: 'it returns false'. Refute it at one input. -/
def linkTagsWrong : ChangeSpec := { name := "linkTags", fn := fun _ => fun
  | [d] => { results := [.lit (.bool false)], args := [d] }
  | _ => none }
def LinkTagsWrongFalsely : Prop := linkTagsRow.holds Try.pinned (OpenSpec.ofChange linkTagsWrong)

/-- 'quoratelaw04.LinkFresh': WHATEVER THE INPUT: true; the input reads as it did. -/
def linkFreshSpec : ChangeSpec := { name := "linkFresh", fn := fun _ => fun
  | [d] => { results := [.lit (.bool true)], args := [d] }
  | _ => none }
def linkFreshRow : OpenClaim := { program := "ytkkckinnhkpcmaa", sum := "539dedc6c3ce2cfb7dc49595360e973c6838a23b6d8e77fa54e205728da07a15", func := "quorate/quoratelaw04.LinkFresh", spec := "linkFresh", apart := false }
def LinkFreshSaid : Prop := linkFreshRow.holds Try.pinned (OpenSpec.ofChange linkFreshSpec)

/-- ITS FALSE NEIGHBOUR: 'it returns false'. Refute it at one input. -/
def linkFreshWrong : ChangeSpec := { name := "linkFresh", fn := fun _ => fun
  | [d] => { results := [.lit (.bool false)], args := [d] }
  | _ => none }
def LinkFreshWrongFalsely : Prop := linkFreshRow.holds Try.pinned (OpenSpec.ofChange linkFreshWrong)

/-- 'quoratelaw04.LinkNews': WHATEVER THE INPUT: true; the input reads as it did. -/
def linkNewsSpec : ChangeSpec := { name := "linkNews", fn := fun _ => fun
  | [d] => { results := [.lit (.bool true)], args := [d] }
  | _ => none }
def linkNewsRow : OpenClaim := { program := "ytkkckinnhkpcmaa", sum := "539dedc6c3ce2cfb7dc49595360e973c6838a23b6d8e77fa54e205728da07a15", func := "quorate/quoratelaw04.LinkNews", spec := "linkNews", apart := false }
def LinkNewsSaid : Prop := linkNewsRow.holds Try.pinned (OpenSpec.ofChange linkNewsSpec)

/-- ITS FALSE NEIGHBOUR: 'it returns false'. Refute it at one input. -/
def linkNewsWrong : ChangeSpec := { name := "linkNews", fn := fun _ => fun
  | [d] => { results := [.lit (.bool false)], args := [d] }
  | _ => none }
def LinkNewsWrongFalsely : Prop := linkNewsRow.holds Try.pinned (OpenSpec.ofChange linkNewsWrong)

/-- 'quoratelaw04.LinkPushes': WHATEVER THE INPUT: true; the input reads as it did. -/
def linkPushesSpec : ChangeSpec := { name := "linkPushes", fn := fun _ => fun
  | [d] => { results := [.lit (.bool true)], args := [d] }
  | _ => none }
def linkPushesRow : OpenClaim := { program := "ytkkckinnhkpcmaa", sum := "539dedc6c3ce2cfb7dc49595360e973c6838a23b6d8e77fa54e205728da07a15", func := "quorate/quoratelaw04.LinkPushes", spec := "linkPushes", apart := false }
def LinkPushesSaid : Prop := linkPushesRow.holds Try.pinned (OpenSpec.ofChange linkPushesSpec)

/-- ITS FALSE NEIGHBOUR: 'it returns false'. Refute it at one input. -/
def linkPushesWrong : ChangeSpec := { name := "linkPushes", fn := fun _ => fun
  | [d] => { results := [.lit (.bool false)], args := [d] }
  | _ => none }
def LinkPushesWrongFalsely : Prop := linkPushesRow.holds Try.pinned (OpenSpec.ofChange linkPushesWrong)

/-- 'quoratelaw04.LinkFrames': WHATEVER THE INPUT: true; the input reads as it did. -/
def linkFramesSpec : ChangeSpec := { name := "linkFrames", fn := fun _ => fun
  | [d] => { results := [.lit (.bool true)], args := [d] }
  | _ => none }
def linkFramesRow : OpenClaim := { program := "ytkkckinnhkpcmaa", sum := "539dedc6c3ce2cfb7dc49595360e973c6838a23b6d8e77fa54e205728da07a15", func := "quorate/quoratelaw04.LinkFrames", spec := "linkFrames", apart := false }
def LinkFramesSaid : Prop := linkFramesRow.holds Try.pinned (OpenSpec.ofChange linkFramesSpec)

/-- ITS FALSE NEIGHBOUR: 'it returns false'. Refute it at one input. -/
def linkFramesWrong : ChangeSpec := { name := "linkFrames", fn := fun _ => fun
  | [d] => { results := [.lit (.bool false)], args := [d] }
  | _ => none }
def LinkFramesWrongFalsely : Prop := linkFramesRow.holds Try.pinned (OpenSpec.ofChange linkFramesWrong)

/-- 'quoratelaw04.LinkAcks': WHATEVER THE INPUT: true; the input reads as it did. -/
def linkAcksSpec : ChangeSpec := { name := "linkAcks", fn := fun _ => fun
  | [d] => { results := [.lit (.bool true)], args := [d] }
  | _ => none }
def linkAcksRow : OpenClaim := { program := "ytkkckinnhkpcmaa", sum := "539dedc6c3ce2cfb7dc49595360e973c6838a23b6d8e77fa54e205728da07a15", func := "quorate/quoratelaw04.LinkAcks", spec := "linkAcks", apart := false }
def LinkAcksSaid : Prop := linkAcksRow.holds Try.pinned (OpenSpec.ofChange linkAcksSpec)

/-- ITS FALSE NEIGHBOUR: 'it returns false'. Refute it at one input. -/
def linkAcksWrong : ChangeSpec := { name := "linkAcks", fn := fun _ => fun
  | [d] => { results := [.lit (.bool false)], args := [d] }
  | _ => none }
def LinkAcksWrongFalsely : Prop := linkAcksRow.holds Try.pinned (OpenSpec.ofChange linkAcksWrong)

/-- 'quoratelaw04.LinkTakes': WHATEVER THE INPUT: true; the input reads as it did. -/
def linkTakesSpec : ChangeSpec := { name := "linkTakes", fn := fun _ => fun
  | [d] => { results := [.lit (.bool true)], args := [d] }
  | _ => none }
def linkTakesRow : OpenClaim := { program := "ytkkckinnhkpcmaa", sum := "539dedc6c3ce2cfb7dc49595360e973c6838a23b6d8e77fa54e205728da07a15", func := "quorate/quoratelaw04.LinkTakes", spec := "linkTakes", apart := false }
def LinkTakesSaid : Prop := linkTakesRow.holds Try.pinned (OpenSpec.ofChange linkTakesSpec)

/-- ITS FALSE NEIGHBOUR: 'it returns false'. Refute it at one input. -/
def linkTakesWrong : ChangeSpec := { name := "linkTakes", fn := fun _ => fun
  | [d] => { results := [.lit (.bool false)], args := [d] }
  | _ => none }
def LinkTakesWrongFalsely : Prop := linkTakesRow.holds Try.pinned (OpenSpec.ofChange linkTakesWrong)

/-- 'quoratelaw04.LinkOwes': WHATEVER THE INPUT: true; the input reads as it did. -/
def linkOwesSpec : ChangeSpec := { name := "linkOwes", fn := fun _ => fun
  | [d] => { results := [.lit (.bool true)], args := [d] }
  | _ => none }
def linkOwesRow : OpenClaim := { program := "ytkkckinnhkpcmaa", sum := "539dedc6c3ce2cfb7dc49595360e973c6838a23b6d8e77fa54e205728da07a15", func := "quorate/quoratelaw04.LinkOwes", spec := "linkOwes", apart := false }
def LinkOwesSaid : Prop := linkOwesRow.holds Try.pinned (OpenSpec.ofChange linkOwesSpec)

/-- ITS FALSE NEIGHBOUR: 'it returns false'. Refute it at one input. -/
def linkOwesWrong : ChangeSpec := { name := "linkOwes", fn := fun _ => fun
  | [d] => { results := [.lit (.bool false)], args := [d] }
  | _ => none }
def LinkOwesWrongFalsely : Prop := linkOwesRow.holds Try.pinned (OpenSpec.ofChange linkOwesWrong)

/-- 'quoratelaw04.LinkAll': WHATEVER THE INPUT: true; the input reads as it did. -/
def linkAllSpec : ChangeSpec := { name := "linkAll", fn := fun _ => fun
  | [d] => { results := [.lit (.bool true)], args := [d] }
  | _ => none }
def linkAllRow : OpenClaim := { program := "ytkkckinnhkpcmaa", sum := "539dedc6c3ce2cfb7dc49595360e973c6838a23b6d8e77fa54e205728da07a15", func := "quorate/quoratelaw04.LinkAll", spec := "linkAll", apart := false }
def LinkAllSaid : Prop := linkAllRow.holds Try.pinned (OpenSpec.ofChange linkAllSpec)

/-- ITS FALSE NEIGHBOUR: 'it returns false'. Refute it at one input. -/
def linkAllWrong : ChangeSpec := { name := "linkAll", fn := fun _ => fun
  | [d] => { results := [.lit (.bool false)], args := [d] }
  | _ => none }
def LinkAllWrongFalsely : Prop := linkAllRow.holds Try.pinned (OpenSpec.ofChange linkAllWrong)

/- THE SECOND FORM. 'bulk': how many values and letters a reading holds, each counted each time it is reached (what is shared counts as often as it is met; a slice's spare places count too). A statement '..UptoSaid' is the law's where the arguments, and the package variables that the reading takes, are together of bulk at most 1048576: NARROWER than '..Said'. Prove '..Said' where nothing that the law and all that it calls make is longer than what came in: it says more and counts as full. Else prove '..UptoSaid'. A law counts once. -/
mutual
def uptoBulk {H : Type} : DataW H → Nat
  | .lit (.string bytes) => bytes.length + 1
  | .lit _ => 1
  | .nil => 1
  | .ptr d => uptoBulk d + 1
  | .slice elems spare => uptoBulkAll elems + uptoBulkAll spare + 1
  | .agg parts => uptoBulkAll parts + 1
  | .iface _ d => uptoBulk d + 1
  | .map entries => uptoBulkEntries entries + 1
  | .held _ => 1
def uptoBulkAll {H : Type} : List (DataW H) → Nat
  | [] => 0
  | d :: r => uptoBulk d + uptoBulkAll r
def uptoBulkEntries {H : Type} : List (Lit × DataW H) → Nat
  | [] => 0
  | x :: r => uptoBulkEntry x + uptoBulkEntries r
def uptoBulkEntry {H : Type} : Lit × DataW H → Nat
  | (.string bytes, d) => bytes.length + uptoBulk d + 1
  | (_, d) => uptoBulk d + 1
 end
def uptoSmall : (H : Type) → List (DataW H) → Bool := fun _ ds => decide (uptoBulkAll ds ≤ 1048576)
def OpenSpec.upto (s : _root_.Go.ChangeSpec) : _root_.Go.OpenSpec := { _root_.Go.OpenSpec.ofChange s with cond := some uptoSmall }

/-- 'quoratelaw04.LinkNames', WHERE WHAT IT READS IS OF BULK AT MOST 1048576: true; the input reads as it did. -/
def linkNamesUptoRow : OpenClaim := { program := "ytkkckinnhkpcmaa", sum := "539dedc6c3ce2cfb7dc49595360e973c6838a23b6d8e77fa54e205728da07a15", func := "quorate/quoratelaw04.LinkNames", spec := "linkNames", apart := false, narrowed := true }
def LinkNamesUptoSaid : Prop := linkNamesUptoRow.holds Try.pinned (OpenSpec.upto linkNamesSpec)

/-- 'quoratelaw04.LinkFifo', WHERE WHAT IT READS IS OF BULK AT MOST 1048576: true; the input reads as it did. -/
def linkFifoUptoRow : OpenClaim := { program := "ytkkckinnhkpcmaa", sum := "539dedc6c3ce2cfb7dc49595360e973c6838a23b6d8e77fa54e205728da07a15", func := "quorate/quoratelaw04.LinkFifo", spec := "linkFifo", apart := false, narrowed := true }
def LinkFifoUptoSaid : Prop := linkFifoUptoRow.holds Try.pinned (OpenSpec.upto linkFifoSpec)

/-- 'quoratelaw04.LinkCalm', WHERE WHAT IT READS IS OF BULK AT MOST 1048576: true; the input reads as it did. -/
def linkCalmUptoRow : OpenClaim := { program := "ytkkckinnhkpcmaa", sum := "539dedc6c3ce2cfb7dc49595360e973c6838a23b6d8e77fa54e205728da07a15", func := "quorate/quoratelaw04.LinkCalm", spec := "linkCalm", apart := false, narrowed := true }
def LinkCalmUptoSaid : Prop := linkCalmUptoRow.holds Try.pinned (OpenSpec.upto linkCalmSpec)

/-- 'quoratelaw04.LinkTags', WHERE WHAT IT READS IS OF BULK AT MOST 1048576: true; the input reads as it did. -/
def linkTagsUptoRow : OpenClaim := { program := "ytkkckinnhkpcmaa", sum := "539dedc6c3ce2cfb7dc49595360e973c6838a23b6d8e77fa54e205728da07a15", func := "quorate/quoratelaw04.LinkTags", spec := "linkTags", apart := false, narrowed := true }
def LinkTagsUptoSaid : Prop := linkTagsUptoRow.holds Try.pinned (OpenSpec.upto linkTagsSpec)

/-- 'quoratelaw04.LinkFresh', WHERE WHAT IT READS IS OF BULK AT MOST 1048576: true; the input reads as it did. -/
def linkFreshUptoRow : OpenClaim := { program := "ytkkckinnhkpcmaa", sum := "539dedc6c3ce2cfb7dc49595360e973c6838a23b6d8e77fa54e205728da07a15", func := "quorate/quoratelaw04.LinkFresh", spec := "linkFresh", apart := false, narrowed := true }
def LinkFreshUptoSaid : Prop := linkFreshUptoRow.holds Try.pinned (OpenSpec.upto linkFreshSpec)

/-- 'quoratelaw04.LinkNews', WHERE WHAT IT READS IS OF BULK AT MOST 1048576: true; the input reads as it did. -/
def linkNewsUptoRow : OpenClaim := { program := "ytkkckinnhkpcmaa", sum := "539dedc6c3ce2cfb7dc49595360e973c6838a23b6d8e77fa54e205728da07a15", func := "quorate/quoratelaw04.LinkNews", spec := "linkNews", apart := false, narrowed := true }
def LinkNewsUptoSaid : Prop := linkNewsUptoRow.holds Try.pinned (OpenSpec.upto linkNewsSpec)

/-- 'quoratelaw04.LinkPushes', WHERE WHAT IT READS IS OF BULK AT MOST 1048576: true; the input reads as it did. -/
def linkPushesUptoRow : OpenClaim := { program := "ytkkckinnhkpcmaa", sum := "539dedc6c3ce2cfb7dc49595360e973c6838a23b6d8e77fa54e205728da07a15", func := "quorate/quoratelaw04.LinkPushes", spec := "linkPushes", apart := false, narrowed := true }
def LinkPushesUptoSaid : Prop := linkPushesUptoRow.holds Try.pinned (OpenSpec.upto linkPushesSpec)

/-- 'quoratelaw04.LinkFrames', WHERE WHAT IT READS IS OF BULK AT MOST 1048576: true; the input reads as it did. -/
def linkFramesUptoRow : OpenClaim := { program := "ytkkckinnhkpcmaa", sum := "539dedc6c3ce2cfb7dc49595360e973c6838a23b6d8e77fa54e205728da07a15", func := "quorate/quoratelaw04.LinkFrames", spec := "linkFrames", apart := false, narrowed := true }
def LinkFramesUptoSaid : Prop := linkFramesUptoRow.holds Try.pinned (OpenSpec.upto linkFramesSpec)

/-- 'quoratelaw04.LinkAcks', WHERE WHAT IT READS IS OF BULK AT MOST 1048576: true; the input reads as it did. -/
def linkAcksUptoRow : OpenClaim := { program := "ytkkckinnhkpcmaa", sum := "539dedc6c3ce2cfb7dc49595360e973c6838a23b6d8e77fa54e205728da07a15", func := "quorate/quoratelaw04.LinkAcks", spec := "linkAcks", apart := false, narrowed := true }
def LinkAcksUptoSaid : Prop := linkAcksUptoRow.holds Try.pinned (OpenSpec.upto linkAcksSpec)

/-- 'quoratelaw04.LinkTakes', WHERE WHAT IT READS IS OF BULK AT MOST 1048576: true; the input reads as it did. -/
def linkTakesUptoRow : OpenClaim := { program := "ytkkckinnhkpcmaa", sum := "539dedc6c3ce2cfb7dc49595360e973c6838a23b6d8e77fa54e205728da07a15", func := "quorate/quoratelaw04.LinkTakes", spec := "linkTakes", apart := false, narrowed := true }
def LinkTakesUptoSaid : Prop := linkTakesUptoRow.holds Try.pinned (OpenSpec.upto linkTakesSpec)

/-- 'quoratelaw04.LinkOwes', WHERE WHAT IT READS IS OF BULK AT MOST 1048576: true; the input reads as it did. -/
def linkOwesUptoRow : OpenClaim := { program := "ytkkckinnhkpcmaa", sum := "539dedc6c3ce2cfb7dc49595360e973c6838a23b6d8e77fa54e205728da07a15", func := "quorate/quoratelaw04.LinkOwes", spec := "linkOwes", apart := false, narrowed := true }
def LinkOwesUptoSaid : Prop := linkOwesUptoRow.holds Try.pinned (OpenSpec.upto linkOwesSpec)

/-- 'quoratelaw04.LinkAll', WHERE WHAT IT READS IS OF BULK AT MOST 1048576: true; the input reads as it did. -/
def linkAllUptoRow : OpenClaim := { program := "ytkkckinnhkpcmaa", sum := "539dedc6c3ce2cfb7dc49595360e973c6838a23b6d8e77fa54e205728da07a15", func := "quorate/quoratelaw04.LinkAll", spec := "linkAll", apart := false, narrowed := true }
def LinkAllUptoSaid : Prop := linkAllUptoRow.holds Try.pinned (OpenSpec.upto linkAllSpec)

end Rows
end Go.Proofs.Ytkkckinnhkpcmaa
