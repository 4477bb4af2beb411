/-
  What the rows' listed variables give: the kinds' words; the heap of a witness with them.
-/
import Derived.Test.YtcibcmfaebbhnaaGreatDoorPLad
import Derived.Test.YtcibcmfaebbhnaaGreatDoorPTRpt
set_option linter.unusedSimpArgs false
set_option linter.unusedVariables false

namespace Go.Proofs.YtcibcmfaebbhnaaGreatDoor.Tr
open Go.RowKit Go.WideShapes Go.ChangeShapes Q
theorem gKinds : Tryz.prog.globalNamed "quorate/script.kinds" = some 0 := by kernel_rfl
theorem gKindsType : (Tryz.prog.globals[0]?).map (·.type) = some 109:=by kernel_rfl
theorem cells73 : Tryz.prog.cellsOf 109 = 17:=by kernel_rfl
theorem kinds_laid {W : World} {d : DataW Unit} {l : List (String × DataW Unit)} {ps : List MemPlace} (hd : d = .agg (kindL.map fun z => .lit (.string z)))
  (h : DataW.LaidVars Tryz.prog W (("quorate/script.kinds", d) :: l) ps) : KT W := by
 obtain ⟨g,t,cs,fuel,p,q,hg,ht,hv,hr,_,_⟩:=h;obtain rfl:=Option.some.inj (gKinds.symm.trans hg);obtain rfl:=Option.some.inj (gKindsType.symm.trans ht);subst hd;have hc : cs.toList = strs kindL:=cells_of_texts Tryz.underlying109 Tryz.underlying9 cells9 cells73 hr
 have hat : ∀ k,k < 17 → W.cell? ⟨0,k,none⟩ = kindV[k]?:=fun k hk => by
  rw [World.var?_cell gKinds hv k,kindV_eq,List.getElem?_toArray,← hc,Array.getElem?_toList]
 refine ⟨?_,hat⟩;have h0:=hat 0 (by omega);exact World.block_lt_of_cell? W _ (h0.trans (kindV_at (by omega)))
noncomputable def laidWorldK (os : Os) : World :=
 let w0:=World.holding Tryz.prog os ⟨#[.cells #[.string rangeS] 207,.cells #[.string syntaxS] 207],#[],[]⟩
 { w0 with heap:=(laidHeap low w0.heap).modify 0 (putRow kindV) }
end Go.Proofs.YtcibcmfaebbhnaaGreatDoor.Tr
