/-
  DERIVED. GIVEN WITH THE SEED: THE CARDS: each row of YtenebkkfjalcaaaDoorRows.lean that lists a variable, with what it lists TIED to the program's text (the seventh form; the later family's looks); each row that meets fmt, with fmt's text TOLD by the authors' own Lean function (tested against real Go, not proved from fmt's source: count such statements apart). THE CARD IS WHAT COUNTS. Prove the row's statement (the work); the ties are given (YtenebkkfjalcaaaDoorTie.lean); close each card by the builder's one call (the guide's Derived/Test/ToyasCard.lean, 'card_holds'). Laid BY PROGRAM, IN A SANDBOX (cutbox-door.mjs). By AI agents, Wed Nov 11 2026. No macro, syntax, notation, axiom, sorry.
-/
import Derived.Test.YtenebkkfjalcaaaDoorRows
import GoSem.ClaimSeven
namespace Go.Proofs.YtenebkkfjalcaaaDoor
namespace Rows

/-- THE TIED CARD OF 'quoratelaw02.ScriptWritesTrace'. -/
def scriptWritesTraceCard : Claim7 := { stood := { row := scriptWritesTraceRow, standIns := [], harness := (true, "970efc88378844c9bc45dd5494c8ecd8cdedf30c82f28b87fe6873ea1c58b8aa"), looks := true }, kinds := [], alts := [], laidByText := true, laidKinds := [.data, .data, .data, .data], laidTests := true, laidLooks := .later }
def ScriptWritesTraceCardSaid : Prop := Claim7.holds Tryd.pinned (.plain (OpenSpec.ofChange scriptWritesTraceSpec)) scriptWritesTraceCard

/-- THE TIED CARD OF 'quoratelaw02.ScriptReadsTrace'. -/
def scriptReadsTraceCard : Claim7 := { stood := { row := scriptReadsTraceRow, standIns := [], harness := (true, "970efc88378844c9bc45dd5494c8ecd8cdedf30c82f28b87fe6873ea1c58b8aa"), looks := true }, kinds := [], alts := [], laidByText := true, laidKinds := [.data, .data, .data, .sentinel, .sentinel, .data], laidTests := true, laidLooks := .later }
def ScriptReadsTraceCardSaid : Prop := Claim7.holds Tryd.pinned (.plain (OpenSpec.ofChange scriptReadsTraceSpec)) scriptReadsTraceCard

/-- THE TIED CARD OF 'quoratelaw02.ScriptTraceRound'. -/
def scriptTraceRoundCard : Claim7 := { stood := { row := scriptTraceRoundRow, standIns := [], harness := (true, "970efc88378844c9bc45dd5494c8ecd8cdedf30c82f28b87fe6873ea1c58b8aa"), looks := true }, kinds := [], alts := [], laidByText := true, laidKinds := [.data, .data, .data, .sentinel, .sentinel, .data], laidTests := true, laidLooks := .later }
def ScriptTraceRoundCardSaid : Prop := Claim7.holds Tryd.pinned (.plain (OpenSpec.ofChange scriptTraceRoundSpec)) scriptTraceRoundCard

/-- THE TIED CARD OF 'quoratelaw02.ScriptOneText'. -/
def scriptOneTextCard : Claim7 := { stood := { row := scriptOneTextRow, standIns := [], harness := (true, "970efc88378844c9bc45dd5494c8ecd8cdedf30c82f28b87fe6873ea1c58b8aa"), looks := true }, kinds := [], alts := [], laidByText := true, laidKinds := [.data, .data, .data, .sentinel, .sentinel, .data], laidTests := true, laidLooks := .later }
def ScriptOneTextCardSaid : Prop := Claim7.holds Tryd.pinned (.plain (OpenSpec.ofChange scriptOneTextSpec)) scriptOneTextCard

/-- THE SECOND FORM's CARD OF 'quoratelaw02.ScriptWritesTrace'. -/
def scriptWritesTraceUptoCard : Claim7 := { stood := { row := scriptWritesTraceUptoRow, standIns := [], harness := (true, "970efc88378844c9bc45dd5494c8ecd8cdedf30c82f28b87fe6873ea1c58b8aa"), looks := true }, kinds := [], alts := [], laidByText := true, laidKinds := [.data, .data, .data, .data], laidTests := true, laidLooks := .later }
def ScriptWritesTraceUptoCardSaid : Prop := Claim7.holds Tryd.pinned (.plain (OpenSpec.upto scriptWritesTraceSpec)) scriptWritesTraceUptoCard

/-- THE SECOND FORM's CARD OF 'quoratelaw02.ScriptReadsTrace'. -/
def scriptReadsTraceUptoCard : Claim7 := { stood := { row := scriptReadsTraceUptoRow, standIns := [], harness := (true, "970efc88378844c9bc45dd5494c8ecd8cdedf30c82f28b87fe6873ea1c58b8aa"), looks := true }, kinds := [], alts := [], laidByText := true, laidKinds := [.data, .data, .data, .sentinel, .sentinel, .data], laidTests := true, laidLooks := .later }
def ScriptReadsTraceUptoCardSaid : Prop := Claim7.holds Tryd.pinned (.plain (OpenSpec.upto scriptReadsTraceSpec)) scriptReadsTraceUptoCard

/-- THE SECOND FORM's CARD OF 'quoratelaw02.ScriptTraceRound'. -/
def scriptTraceRoundUptoCard : Claim7 := { stood := { row := scriptTraceRoundUptoRow, standIns := [], harness := (true, "970efc88378844c9bc45dd5494c8ecd8cdedf30c82f28b87fe6873ea1c58b8aa"), looks := true }, kinds := [], alts := [], laidByText := true, laidKinds := [.data, .data, .data, .sentinel, .sentinel, .data], laidTests := true, laidLooks := .later }
def ScriptTraceRoundUptoCardSaid : Prop := Claim7.holds Tryd.pinned (.plain (OpenSpec.upto scriptTraceRoundSpec)) scriptTraceRoundUptoCard

/-- THE SECOND FORM's CARD OF 'quoratelaw02.ScriptOneText'. -/
def scriptOneTextUptoCard : Claim7 := { stood := { row := scriptOneTextUptoRow, standIns := [], harness := (true, "970efc88378844c9bc45dd5494c8ecd8cdedf30c82f28b87fe6873ea1c58b8aa"), looks := true }, kinds := [], alts := [], laidByText := true, laidKinds := [.data, .data, .data, .sentinel, .sentinel, .data], laidTests := true, laidLooks := .later }
def ScriptOneTextUptoCardSaid : Prop := Claim7.holds Tryd.pinned (.plain (OpenSpec.upto scriptOneTextSpec)) scriptOneTextUptoCard
end Rows
end Go.Proofs.YtenebkkfjalcaaaDoor
