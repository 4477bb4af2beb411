/-
  DERIVED. GIVEN WITH THE SEED: THE CARDS: each row of YtcibcmfaebbhnaaGreatDoorRows.lean that lists a variable, with what it lists TIED to the program's text (the seventh form; the later family's looks); each row that meets fmt, with fmt's text TOLD by the authors' own Lean function (tested against real Go, not proved from fmt's source: count such statements apart). THE CARD IS WHAT COUNTS. Prove the row's statement (the work); the ties are given (YtcibcmfaebbhnaaGreatDoorTie.lean); close each card by the builder's one call (the guide's Derived/Test/ToyasCard.lean, 'card_holds'). Laid BY PROGRAM, IN A SANDBOX (cutbox-door.mjs). By AI agents, Wed Nov 11 2026. No macro, syntax, notation, axiom, sorry.
-/
import Derived.Test.YtcibcmfaebbhnaaGreatDoorRows
import GoSem.ClaimSeven
namespace Go.Proofs.YtcibcmfaebbhnaaGreatDoor
namespace Rows

/-- THE TIED CARD OF 'quoratelaw02.ScriptKept'. -/
def scriptKeptCard : Claim7 := { stood := { row := scriptKeptRow, standIns := [], harness := (true, "bac6a1d8cc8c47dff03464e9169c3d4e1d9b4393f45e06474d27591298349553"), looks := true }, kinds := [], alts := [], laidByText := true, laidKinds := [.data, .data, .data, .sentinel, .sentinel, .data, .data], laidTests := true, laidLooks := .later }
def ScriptKeptCardSaid : Prop := Claim7.holds Tryz.pinned (.plain (OpenSpec.ofChange scriptKeptSpec)) scriptKeptCard

/-- THE TIED CARD OF 'quoratelaw02.ScriptPlace'. -/
def scriptPlaceCard : Claim7 := { stood := { row := scriptPlaceRow, standIns := [], harness := (true, "bac6a1d8cc8c47dff03464e9169c3d4e1d9b4393f45e06474d27591298349553"), looks := true }, kinds := [], alts := [], laidByText := true, laidKinds := [.data, .data, .data, .sentinel, .sentinel, .data, .data], laidTests := true, laidLooks := .later }
def ScriptPlaceCardSaid : Prop := Claim7.holds Tryz.pinned (.plain (OpenSpec.ofChange scriptPlaceSpec)) scriptPlaceCard

/-- THE TIED CARD OF 'quoratelaw02.ScriptRound'. -/
def scriptRoundCard : Claim7 := { stood := { row := scriptRoundRow, standIns := [], harness := (true, "bac6a1d8cc8c47dff03464e9169c3d4e1d9b4393f45e06474d27591298349553"), looks := true }, kinds := [], alts := [], laidByText := true, laidKinds := [.data, .data, .data, .sentinel, .sentinel, .data], laidTests := true, laidLooks := .later }
def ScriptRoundCardSaid : Prop := Claim7.holds Tryz.pinned (.plain (OpenSpec.ofChange scriptRoundSpec)) scriptRoundCard

/-- THE SECOND FORM's CARD OF 'quoratelaw02.ScriptKept'. -/
def scriptKeptUptoCard : Claim7 := { stood := { row := scriptKeptUptoRow, standIns := [], harness := (true, "bac6a1d8cc8c47dff03464e9169c3d4e1d9b4393f45e06474d27591298349553"), looks := true }, kinds := [], alts := [], laidByText := true, laidKinds := [.data, .data, .data, .sentinel, .sentinel, .data, .data], laidTests := true, laidLooks := .later }
def ScriptKeptUptoCardSaid : Prop := Claim7.holds Tryz.pinned (.plain (OpenSpec.upto scriptKeptSpec)) scriptKeptUptoCard

/-- THE SECOND FORM's CARD OF 'quoratelaw02.ScriptPlace'. -/
def scriptPlaceUptoCard : Claim7 := { stood := { row := scriptPlaceUptoRow, standIns := [], harness := (true, "bac6a1d8cc8c47dff03464e9169c3d4e1d9b4393f45e06474d27591298349553"), looks := true }, kinds := [], alts := [], laidByText := true, laidKinds := [.data, .data, .data, .sentinel, .sentinel, .data, .data], laidTests := true, laidLooks := .later }
def ScriptPlaceUptoCardSaid : Prop := Claim7.holds Tryz.pinned (.plain (OpenSpec.upto scriptPlaceSpec)) scriptPlaceUptoCard

/-- THE SECOND FORM's CARD OF 'quoratelaw02.ScriptRound'. -/
def scriptRoundUptoCard : Claim7 := { stood := { row := scriptRoundUptoRow, standIns := [], harness := (true, "bac6a1d8cc8c47dff03464e9169c3d4e1d9b4393f45e06474d27591298349553"), looks := true }, kinds := [], alts := [], laidByText := true, laidKinds := [.data, .data, .data, .sentinel, .sentinel, .data], laidTests := true, laidLooks := .later }
def ScriptRoundUptoCardSaid : Prop := Claim7.holds Tryz.pinned (.plain (OpenSpec.upto scriptRoundSpec)) scriptRoundUptoCard
end Rows
end Go.Proofs.YtcibcmfaebbhnaaGreatDoor
