/-
  What the row's listed variables give: the table of powers, the words of the kinds of marks.
-/
import Derived.Test.YtenebkkfjalcaaaDoorMka
import Derived.Test.YtenebkkfjalcaaaDoorRows
import Derived.Lib.LaidTab
set_option linter.unusedVariables false
set_option linter.unusedSimpArgs false
namespace Go.Proofs.YtenebkkfjalcaaaDoor
open Go.RowKit Go.WideShapes Go.ChangeShapes Q

/-- An array of texts that reads as these texts holds them, cell for cell. -/
theorem cells_of_texts {H : Type} {enc : TypeId × Value → H} {P : Program} {w : World} {base : Nat} {sp : Nat → Bool} {held : Bool} {fuel : Nat} {t e : TypeId} {n : Nat} {cs : List Value} {zs : List (List UInt8)} {p : List MemPlace}
    (ht : P.underlying t = some (.array n e)) (he : P.underlying e = some .string) (hce : P.cellsOf e = 1) (hct : P.cellsOf t = n)
    (h : DataW.trod enc P w base sp held fuel t cs = some (.agg (zs.map fun z => .lit (.string z)), p)) : cs = strs zs := by
  cases fuel with
  | zero => simp [DataW.trod] at h
  | succ fuel =>
    simp only [DataW.trod, ht, hce, hct, Nat.mul_one] at h
    split at h
    · rename_i hl
      obtain ⟨xs, hm, hx⟩ := Option.map_eq_some_iff.1 h
      have hxs : xs.map (·.1) = zs.map fun z => (DataW.lit (.string z) : DataW H) := by
        have := congrArg Prod.fst hx
        simpa using this
      have hxl : xs.length = n := by simpa using Lib.mapM_length hm
      have hzl : zs.length = n := by
        have := congrArg List.length hxs
        simp at this
        omega
      unfold strs
      apply List.ext_getElem?
      intro i
      by_cases hi : i < n
      · obtain ⟨b, hb, hf⟩ := Lib.mapM_at hm i i (by simp [hi])
        obtain ⟨z, hc, rfl, _⟩ := DataW.trod_string he hf
        have h1 : cs[i]? = some (.string z) := by
          have := congrArg (·[0]?) hc
          simpa [List.getElem?_take, List.getElem?_drop] using this
        have h2 : (xs.map (·.1))[i]? = some (DataW.lit (.string z.data.toList) : DataW H) := by simp [hb]
        rw [hxs] at h2
        simp only [List.getElem?_map, Option.map_eq_some_iff, DataW.lit.injEq, Lit.string.injEq] at h2
        obtain ⟨z', hz', hzz⟩ := h2
        simp [h1, hz', hzz, S_self]
      · rw [List.getElem?_eq_none (by omega), List.getElem?_eq_none (by simp; omega)]
    · cases h
theorem gKinds : Tryd.prog.globalNamed "quorate/script.kinds" = some 0 := by kernel_rfl
theorem gKindsType : (Tryd.prog.globals[0]?).map (·.type) = some 73 := by kernel_rfl
theorem gPow : Tryd.prog.globalNamed "internal/strconv.uint64pow10" = some 2 := by kernel_rfl
theorem gPowType : (Tryd.prog.globals[2]?).map (·.type) = some 128 := by kernel_rfl
theorem cells73 : Tryd.prog.cellsOf 73 = 17 := by kernel_rfl
theorem cells128 : Tryd.prog.cellsOf 128 = 20 := by kernel_rfl
theorem cells9 : Tryd.prog.cellsOf 9 = 1 := by kernel_rfl
theorem cells110 : Tryd.prog.cellsOf 110 = 1 := by kernel_rfl
theorem kinds_laid {W : World} {d : DataW Unit} {l : List (String × DataW Unit)} {ps : List MemPlace} (hd : d = .agg (kindL.map fun z => .lit (.string z)))
    (h : DataW.LaidVars Tryd.prog W (("quorate/script.kinds", d) :: l) ps) : KT W := by
  obtain ⟨g, t, cs, fuel, p, q, hg, ht, hv, hr, _, _⟩ := h
  obtain rfl := Option.some.inj (gKinds.symm.trans hg)
  obtain rfl := Option.some.inj (gKindsType.symm.trans ht)
  subst hd
  have hc := cells_of_texts Tryd.underlying73 Tryd.underlying9 cells9 cells73 hr
  have hat : ∀ k, k < 17 → W.cell? ⟨0, k, none⟩ = kindV[k]? := fun k hk => by
    rw [World.var?_cell gKinds hv k, kindV_eq, List.getElem?_toArray, ← hc, Array.getElem?_toList]
  refine ⟨?_, hat⟩
  have h0 := hat 0 (by omega)
  rcases Nat.eq_zero_or_pos W.heap.size with h1 | h1
  · have h2 : W.cell? ⟨0, 0, none⟩ = none := by simp [World.cell?, h1]
    rw [h2, kindV_at (by omega)] at h0
    cases h0
  · exact h1
theorem tab_laid0 {W : World} {zs : List Int} {l : List (String × DataW Unit)} {ps : List MemPlace}
    (h : DataW.LaidVars Tryd.prog W (("internal/strconv.uint64pow10", Lib.tabData .u64 zs) :: l) ps) : Lib.TabIs Tryd.prog W "internal/strconv.uint64pow10" .u64 zs := by
  obtain ⟨g, t, cs, fuel, p, q, hg, ht, hv, hr, _, _⟩ := h
  obtain rfl := Option.some.inj (gPow.symm.trans hg)
  obtain rfl := Option.some.inj (gPowType.symm.trans ht)
  unfold Lib.TabIs
  rw [hv, ← Lib.cells_of_tab Tryd.underlying128 Tryd.underlying110 cells110 cells128 hr]
theorem tab_laid {W : World} {d : DataW Unit} {l : List (String × DataW Unit)} {ps : List MemPlace} (hd : d = Lib.tabData .u64 Lib.pow10Tab)
    (h : DataW.LaidVars Tryd.prog W (("internal/strconv.uint64pow10", d) :: l) ps) : Tab W := by
  rw [hd] at h
  exact tab_laid0 h
theorem tail_laid {P : Program} {W : World} {x : String × DataW Unit} {l : List (String × DataW Unit)} {ps : List MemPlace} (h : DataW.LaidVars P W (x :: l) ps) : ∃ qs, DataW.LaidVars P W l qs := by
  obtain ⟨_, _, _, _, _, q, _, _, _, _, h, _⟩ := h
  exact ⟨q, h⟩
set_option maxRecDepth 100000 in
theorem writes_laid {W : World} (h : laidMetH Tryd.prog Rows.scriptWritesTraceUptoRow.laid W) : Tab W ∧ KT W := by
  have h' : laidMet Tryd.prog Rows.scriptWritesTraceUptoRow.laid W := h
  obtain ⟨ps, h1, _⟩ := h'
  obtain ⟨_, h2⟩ := tail_laid h1
  obtain ⟨_, h3⟩ := tail_laid h2
  obtain ⟨_, h4⟩ := tail_laid h3
  exact ⟨tab_laid (by kernel_rfl) h3, kinds_laid (by kernel_rfl) h4⟩
end Go.Proofs.YtenebkkfjalcaaaDoor
