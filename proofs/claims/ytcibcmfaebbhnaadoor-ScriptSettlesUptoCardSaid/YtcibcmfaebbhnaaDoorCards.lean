/-
  DERIVED. GIVEN WITH THE SEED: THE CARDS: each row of YtcibcmfaebbhnaaDoorRows.lean that lists a variable, with what it lists TIED to the program's text (the seventh form; the later family's looks); each row that meets fmt, with fmt's text TOLD by the authors' own Lean function (tested against real Go, not proved from fmt's source: count such statements apart). THE CARD IS WHAT COUNTS. Prove the row's statement (the work); the ties are given (YtcibcmfaebbhnaaDoorTie.lean); close each card by the builder's one call (the guide's Derived/Test/ToyasCard.lean, 'card_holds'). Laid BY PROGRAM, IN A SANDBOX (cutbox-door.mjs). By AI agents, Wed Nov 11 2026. No macro, syntax, notation, axiom, sorry.
-/
import Derived.Test.YtcibcmfaebbhnaaDoorRows
import GoSem.ClaimSeven
namespace Go.Proofs.YtcibcmfaebbhnaaDoor
namespace Rows

/-- THE TIED CARD OF 'quoratelaw02.ScriptReadsLine'. -/
def scriptReadsLineCard : Claim7 := { stood := { row := scriptReadsLineRow, standIns := [], harness := (true, "db4f595ddc198842a570f695301fd574259a830e0408f6a867e697c383634d8c"), looks := true }, kinds := [], alts := [], laidByText := true, laidKinds := [.data, .data, .data, .sentinel, .sentinel, .data], laidTests := true, laidLooks := .later }
def ScriptReadsLineCardSaid : Prop := Claim7.holds Tryd.pinned (.plain (OpenSpec.ofChange scriptReadsLineSpec)) scriptReadsLineCard

/-- THE TIED CARD OF 'quoratelaw02.ScriptWritesLine'. -/
def scriptWritesLineCard : Claim7 := { stood := { row := scriptWritesLineRow, standIns := [], harness := (true, "db4f595ddc198842a570f695301fd574259a830e0408f6a867e697c383634d8c"), looks := true }, kinds := [], alts := [], laidByText := true, laidKinds := [.data, .data, .data, .sentinel, .sentinel, .data], laidTests := true, laidLooks := .later }
def ScriptWritesLineCardSaid : Prop := Claim7.holds Tryd.pinned (.plain (OpenSpec.ofChange scriptWritesLineSpec)) scriptWritesLineCard

/-- THE TIED CARD OF 'quoratelaw02.ScriptReads'. -/
def scriptReadsCard : Claim7 := { stood := { row := scriptReadsRow, standIns := [], harness := (true, "db4f595ddc198842a570f695301fd574259a830e0408f6a867e697c383634d8c"), looks := true }, kinds := [], alts := [], laidByText := true, laidKinds := [.data, .data, .data, .sentinel, .sentinel, .data], laidTests := true, laidLooks := .later }
def ScriptReadsCardSaid : Prop := Claim7.holds Tryd.pinned (.plain (OpenSpec.ofChange scriptReadsSpec)) scriptReadsCard

/-- THE TIED CARD OF 'quoratelaw02.ScriptLineByLine'. -/
def scriptLineByLineCard : Claim7 := { stood := { row := scriptLineByLineRow, standIns := [], harness := (true, "db4f595ddc198842a570f695301fd574259a830e0408f6a867e697c383634d8c"), looks := true }, kinds := [], alts := [], laidByText := true, laidKinds := [.data, .data, .data, .sentinel, .sentinel, .data], laidTests := true, laidLooks := .later }
def ScriptLineByLineCardSaid : Prop := Claim7.holds Tryd.pinned (.plain (OpenSpec.ofChange scriptLineByLineSpec)) scriptLineByLineCard

/-- THE TIED CARD OF 'quoratelaw02.ScriptWrites'. -/
def scriptWritesCard : Claim7 := { stood := { row := scriptWritesRow, standIns := [], harness := (true, "db4f595ddc198842a570f695301fd574259a830e0408f6a867e697c383634d8c"), looks := true }, kinds := [], alts := [], laidByText := true, laidKinds := [.data, .data, .data, .sentinel, .sentinel, .data], laidTests := true, laidLooks := .later }
def ScriptWritesCardSaid : Prop := Claim7.holds Tryd.pinned (.plain (OpenSpec.ofChange scriptWritesSpec)) scriptWritesCard

/-- THE TIED CARD OF 'quoratelaw02.ScriptSettles'. -/
def scriptSettlesCard : Claim7 := { stood := { row := scriptSettlesRow, standIns := [], harness := (true, "db4f595ddc198842a570f695301fd574259a830e0408f6a867e697c383634d8c"), looks := true }, kinds := [], alts := [], laidByText := true, laidKinds := [.data, .data, .data, .sentinel, .sentinel, .data], laidTests := true, laidLooks := .later }
def ScriptSettlesCardSaid : Prop := Claim7.holds Tryd.pinned (.plain (OpenSpec.ofChange scriptSettlesSpec)) scriptSettlesCard

/-- THE SECOND FORM's CARD OF 'quoratelaw02.ScriptReadsLine'. -/
def scriptReadsLineUptoCard : Claim7 := { stood := { row := scriptReadsLineUptoRow, standIns := [], harness := (true, "db4f595ddc198842a570f695301fd574259a830e0408f6a867e697c383634d8c"), looks := true }, kinds := [], alts := [], laidByText := true, laidKinds := [.data, .data, .data, .sentinel, .sentinel, .data], laidTests := true, laidLooks := .later }
def ScriptReadsLineUptoCardSaid : Prop := Claim7.holds Tryd.pinned (.plain (OpenSpec.upto scriptReadsLineSpec)) scriptReadsLineUptoCard

/-- THE SECOND FORM's CARD OF 'quoratelaw02.ScriptWritesLine'. -/
def scriptWritesLineUptoCard : Claim7 := { stood := { row := scriptWritesLineUptoRow, standIns := [], harness := (true, "db4f595ddc198842a570f695301fd574259a830e0408f6a867e697c383634d8c"), looks := true }, kinds := [], alts := [], laidByText := true, laidKinds := [.data, .data, .data, .sentinel, .sentinel, .data], laidTests := true, laidLooks := .later }
def ScriptWritesLineUptoCardSaid : Prop := Claim7.holds Tryd.pinned (.plain (OpenSpec.upto scriptWritesLineSpec)) scriptWritesLineUptoCard

/-- THE SECOND FORM's CARD OF 'quoratelaw02.ScriptReads'. -/
def scriptReadsUptoCard : Claim7 := { stood := { row := scriptReadsUptoRow, standIns := [], harness := (true, "db4f595ddc198842a570f695301fd574259a830e0408f6a867e697c383634d8c"), looks := true }, kinds := [], alts := [], laidByText := true, laidKinds := [.data, .data, .data, .sentinel, .sentinel, .data], laidTests := true, laidLooks := .later }
def ScriptReadsUptoCardSaid : Prop := Claim7.holds Tryd.pinned (.plain (OpenSpec.upto scriptReadsSpec)) scriptReadsUptoCard

/-- THE SECOND FORM's CARD OF 'quoratelaw02.ScriptLineByLine'. -/
def scriptLineByLineUptoCard : Claim7 := { stood := { row := scriptLineByLineUptoRow, standIns := [], harness := (true, "db4f595ddc198842a570f695301fd574259a830e0408f6a867e697c383634d8c"), looks := true }, kinds := [], alts := [], laidByText := true, laidKinds := [.data, .data, .data, .sentinel, .sentinel, .data], laidTests := true, laidLooks := .later }
def ScriptLineByLineUptoCardSaid : Prop := Claim7.holds Tryd.pinned (.plain (OpenSpec.upto scriptLineByLineSpec)) scriptLineByLineUptoCard

/-- THE SECOND FORM's CARD OF 'quoratelaw02.ScriptWrites'. -/
def scriptWritesUptoCard : Claim7 := { stood := { row := scriptWritesUptoRow, standIns := [], harness := (true, "db4f595ddc198842a570f695301fd574259a830e0408f6a867e697c383634d8c"), looks := true }, kinds := [], alts := [], laidByText := true, laidKinds := [.data, .data, .data, .sentinel, .sentinel, .data], laidTests := true, laidLooks := .later }
def ScriptWritesUptoCardSaid : Prop := Claim7.holds Tryd.pinned (.plain (OpenSpec.upto scriptWritesSpec)) scriptWritesUptoCard

/-- THE SECOND FORM's CARD OF 'quoratelaw02.ScriptSettles'. -/
def scriptSettlesUptoCard : Claim7 := { stood := { row := scriptSettlesUptoRow, standIns := [], harness := (true, "db4f595ddc198842a570f695301fd574259a830e0408f6a867e697c383634d8c"), looks := true }, kinds := [], alts := [], laidByText := true, laidKinds := [.data, .data, .data, .sentinel, .sentinel, .data], laidTests := true, laidLooks := .later }
def ScriptSettlesUptoCardSaid : Prop := Claim7.holds Tryd.pinned (.plain (OpenSpec.upto scriptSettlesSpec)) scriptSettlesUptoCard
end Rows
end Go.Proofs.YtcibcmfaebbhnaaDoor
