/-
  What the rows' listed variables give: the table of powers.
-/
import Derived.Test.YtcibcmfaebbhnaaGreatDoorRows
import Derived.Lib.LaidTab
import Derived.Test.YtcibcmfaebbhnaaGreatDoorPIts
set_option linter.unusedSimpArgs false
set_option linter.unusedVariables false

namespace Go.Proofs.YtcibcmfaebbhnaaGreatDoor
open Go.RowKit Go.WideShapes Go.ChangeShapes Q
theorem gPow : Tryz.prog.globalNamed "internal/strconv.uint64pow10" = some 2 := by kernel_rfl
theorem gPowType : (Tryz.prog.globals[2]?).map (·.type) = some 183:=by kernel_rfl
theorem cells128 : Tryz.prog.cellsOf 183 = 20:=by kernel_rfl
theorem cells110 : Tryz.prog.cellsOf 151 = 1:=by kernel_rfl
theorem tab_laid0 {W : World} {zs : List Int} {l : List (String × DataW Unit)} {ps : List MemPlace}
  (h : DataW.LaidVars Tryz.prog W (("internal/strconv.uint64pow10", Lib.tabData .u64 zs) :: l) ps) : Lib.TabIs Tryz.prog W "internal/strconv.uint64pow10" .u64 zs := by
 obtain ⟨g,t,cs,fuel,p,q,hg,ht,hv,hr,_,_⟩:=h;obtain rfl:=Option.some.inj (gPow.symm.trans hg);obtain rfl:=Option.some.inj (gPowType.symm.trans ht);unfold Lib.TabIs;rw [hv,← Lib.cells_of_tab Tryz.underlying183 Tryz.underlying151 cells110 cells128 hr]
theorem tab_laid {W : World} {d : DataW Unit} {l : List (String × DataW Unit)} {ps : List MemPlace} (hd : d = Lib.tabData .u64 Lib.pow10Tab)
  (h : DataW.LaidVars Tryz.prog W (("internal/strconv.uint64pow10", d) :: l) ps) : Tab W := by
 rw [hd] at h;exact tab_laid0 h
end Go.Proofs.YtcibcmfaebbhnaaGreatDoor
