/-
  What the row's listed variables give: the table of powers, the words of the kinds of marks. An argument opened, of little bulk: slices, structs, texts; a list of marks.
-/
import Derived.Test.YtenebkkfjalcaaaDoorZMka
import Derived.Test.YtenebkkfjalcaaaDoorRows
import Derived.Lib.LaidTab
import Derived.Test.YtenebkkfjalcaaaDoorZOnly
import Derived.Test.YtenebkkfjalcaaaDoorZGd
set_option linter.unusedVariables false
set_option linter.unusedSimpArgs false
namespace Go.Proofs.YtenebkkfjalcaaaDoor
open Go.RowKit Go.WideShapes Go.ChangeShapes Q

/-- An array of texts that reads as these texts holds them, cell for cell. -/
theorem cells_of_texts {H : Type} {enc : TypeId × Value → H} {P : Program} {w : World} {base : Nat} {sp : Nat → Bool} {held : Bool} {fuel : Nat} {t e : TypeId} {n : Nat} {cs : List Value} {zs : List (List UInt8)} {p : List MemPlace}
    (ht : P.underlying t = some (.array n e)) (he : P.underlying e = some .string) (hce : P.cellsOf e = 1) (hct : P.cellsOf t = n)
    (h : DataW.trod enc P w base sp held fuel t cs = some (.agg (zs.map fun z => .lit (.string z)), p)) : cs = strs zs := by
  cases fuel with
  | zero => simp [DataW.trod] at h
  | succ fuel =>
    simp only [DataW.trod, ht, hce, hct, Nat.mul_one] at h
    split at h
    · rename_i hl
      obtain ⟨xs, hm, hx⟩ := Option.map_eq_some_iff.1 h
      have hxs : xs.map (·.1) = zs.map fun z => (DataW.lit (.string z) : DataW H) := by
        have := congrArg Prod.fst hx
        simpa using this
      have hxl : xs.length = n := by simpa using Lib.mapM_length hm
      have hzl : zs.length = n := by
        have := congrArg List.length hxs
        simp at this
        omega
      unfold strs
      apply List.ext_getElem?
      intro i
      by_cases hi : i < n
      · obtain ⟨b, hb, hf⟩ := Lib.mapM_at hm i i (by simp [hi])
        obtain ⟨z, hc, rfl, _⟩ := DataW.trod_string he hf
        have h1 : cs[i]? = some (.string z) := by
          have := congrArg (·[0]?) hc
          simpa [List.getElem?_take, List.getElem?_drop] using this
        have h2 : (xs.map (·.1))[i]? = some (DataW.lit (.string z.data.toList) : DataW H) := by simp [hb]
        rw [hxs] at h2
        simp only [List.getElem?_map, Option.map_eq_some_iff, DataW.lit.injEq, Lit.string.injEq] at h2
        obtain ⟨z', hz', hzz⟩ := h2
        simp [h1, hz', hzz, S_self]
      · rw [List.getElem?_eq_none (by omega), List.getElem?_eq_none (by simp; omega)]
    · cases h
theorem gKinds : Tryd.prog.globalNamed "quorate/script.kinds" = some 0 := by kernel_rfl
theorem gKindsType : (Tryd.prog.globals[0]?).map (·.type) = some 73 := by kernel_rfl
theorem gPow : Tryd.prog.globalNamed "internal/strconv.uint64pow10" = some 2 := by kernel_rfl
theorem gPowType : (Tryd.prog.globals[2]?).map (·.type) = some 128 := by kernel_rfl
theorem cells73 : Tryd.prog.cellsOf 73 = 17 := by kernel_rfl
theorem cells128 : Tryd.prog.cellsOf 128 = 20 := by kernel_rfl
theorem cells9 : Tryd.prog.cellsOf 9 = 1 := by kernel_rfl
theorem cells110 : Tryd.prog.cellsOf 110 = 1 := by kernel_rfl
theorem kinds_laid {W : World} {d : DataW Unit} {l : List (String × DataW Unit)} {ps : List MemPlace} (hd : d = .agg (kindL.map fun z => .lit (.string z)))
    (h : DataW.LaidVars Tryd.prog W (("quorate/script.kinds", d) :: l) ps) : KT W := by
  obtain ⟨g, t, cs, fuel, p, q, hg, ht, hv, hr, _, _⟩ := h
  obtain rfl := Option.some.inj (gKinds.symm.trans hg)
  obtain rfl := Option.some.inj (gKindsType.symm.trans ht)
  subst hd
  have hc := cells_of_texts Tryd.underlying73 Tryd.underlying9 cells9 cells73 hr
  have hat : ∀ k, k < 17 → W.cell? ⟨0, k, none⟩ = kindV[k]? := fun k hk => by
    rw [World.var?_cell gKinds hv k, kindV_eq, List.getElem?_toArray, ← hc, Array.getElem?_toList]
  refine ⟨?_, hat⟩
  have h0 := hat 0 (by omega)
  rcases Nat.eq_zero_or_pos W.heap.size with h1 | h1
  · have h2 : W.cell? ⟨0, 0, none⟩ = none := by simp [World.cell?, h1]
    rw [h2, kindV_at (by omega)] at h0
    cases h0
  · exact h1
theorem tab_laid0 {W : World} {zs : List Int} {l : List (String × DataW Unit)} {ps : List MemPlace}
    (h : DataW.LaidVars Tryd.prog W (("internal/strconv.uint64pow10", Lib.tabData .u64 zs) :: l) ps) : Lib.TabIs Tryd.prog W "internal/strconv.uint64pow10" .u64 zs := by
  obtain ⟨g, t, cs, fuel, p, q, hg, ht, hv, hr, _, _⟩ := h
  obtain rfl := Option.some.inj (gPow.symm.trans hg)
  obtain rfl := Option.some.inj (gPowType.symm.trans ht)
  unfold Lib.TabIs
  rw [hv, ← Lib.cells_of_tab Tryd.underlying128 Tryd.underlying110 cells110 cells128 hr]
theorem tab_laid {W : World} {d : DataW Unit} {l : List (String × DataW Unit)} {ps : List MemPlace} (hd : d = Lib.tabData .u64 Lib.pow10Tab)
    (h : DataW.LaidVars Tryd.prog W (("internal/strconv.uint64pow10", d) :: l) ps) : Tab W := by
  rw [hd] at h
  exact tab_laid0 h
theorem tail_laid {P : Program} {W : World} {x : String × DataW Unit} {l : List (String × DataW Unit)} {ps : List MemPlace} (h : DataW.LaidVars P W (x :: l) ps) : ∃ qs, DataW.LaidVars P W l qs := by
  obtain ⟨_, _, _, _, _, q, _, _, _, _, h, _⟩ := h
  exact ⟨q, h⟩
set_option maxRecDepth 100000 in
theorem writes_laid {W : World} (h : laidMetH Tryd.prog Rows.scriptWritesTraceUptoRow.laid W) : Tab W ∧ KT W := by
  have h' : laidMet Tryd.prog Rows.scriptWritesTraceUptoRow.laid W := h
  obtain ⟨ps, h1, _⟩ := h'
  obtain ⟨_, h2⟩ := tail_laid h1
  obtain ⟨_, h3⟩ := tail_laid h2
  obtain ⟨_, h4⟩ := tail_laid h3
  exact ⟨tab_laid (by kernel_rfl) h3, kinds_laid (by kernel_rfl) h4⟩
end Go.Proofs.YtenebkkfjalcaaaDoor
set_option linter.unusedVariables false
set_option linter.unusedSimpArgs false
namespace Go.Proofs.YtenebkkfjalcaaaDoor
open Go.ChangeShapes Go.WideShapes Go.ChangeAt Go.RowKit Go.Deep Q

section
variable {H : Type} {enc : TypeId × Value → H} {W : World}
theorem bulk_part {d : DataW H} {l : List (DataW H)} (h : d ∈ l) : Rows.uptoBulk d ≤ Rows.uptoBulkAll l := by
  induction l with
  | nil => cases h
  | cons x r ih =>
    simp only [Rows.uptoBulkAll]
    cases List.mem_cons.1 h with
    | inl e => subst e; omega
    | inr e => have := ih e; omega
theorem bulk_one (d : DataW H) : 1 ≤ Rows.uptoBulk d := by
  cases d with
  | lit l => cases l <;> simp [Rows.uptoBulk]
  | nil => simp [Rows.uptoBulk]
  | ptr d => simp [Rows.uptoBulk]
  | slice elems spare => simp [Rows.uptoBulk]
  | agg parts => simp [Rows.uptoBulk]
  | iface t d => simp [Rows.uptoBulk]
  | map entries => simp [Rows.uptoBulk]
  | held h => simp [Rows.uptoBulk]
theorem bulk_len (l : List (DataW H)) : l.length ≤ Rows.uptoBulkAll l := by
  induction l with
  | nil => simp [Rows.uptoBulkAll]
  | cons x r ih => have := bulk_one x; simp only [Rows.uptoBulkAll, List.length_cons]; omega
theorem bulk_slice (e s : List (DataW H)) : Rows.uptoBulk (.slice e s) = Rows.uptoBulkAll e + Rows.uptoBulkAll s + 1 := by simp [Rows.uptoBulk]
theorem bulk_agg (e : List (DataW H)) : Rows.uptoBulk (.agg e) = Rows.uptoBulkAll e + 1 := by simp [Rows.uptoBulk]
theorem bulk_str (b : List UInt8) : Rows.uptoBulk (DataW.lit (H := H) (.string b)) = b.length + 1 := by simp [Rows.uptoBulk]
/-- A datum read of cells: it lies below the call's own blocks, and is of little bulk. -/
def GB (enc : TypeId × Value → H) (W : World) (t : TypeId) (cs : List Value) (d : DataW H) : Prop :=
  ∃ (fuel : Nat) (p : List MemPlace), DataW.trod enc Tryd.prog W 0 (fun _ => true) true fuel t cs = some (d, p) ∧ (∀ x ∈ p, x.block < W.heap.size) ∧ Rows.uptoBulk d ≤ 1048576
set_option maxRecDepth 100000 in
/-- A slice's elements. -/
theorem GB.slice {t e : TypeId} {v : Value} {d : DataW H} (ht : Tryd.prog.underlying t = some (.slice e)) (hC : 0 < Tryd.prog.cellsOf e) (h : GB enc W t [v] d) :
    v = .slice none 0 0 ∨
    ∃ (a : Addr) (len cap : Nat) (D : Nat → DataW H) (cs : Nat → List Value), v = .slice (some a) len cap ∧ len ≤ cap ∧ len ≤ 1048576 ∧ (0 < len → a.block < W.heap.size) ∧
      ∀ i, i < len → (cs i).length = Tryd.prog.cellsOf e ∧ (∀ j, j < Tryd.prog.cellsOf e → W.cell? (a.add (i * Tryd.prog.cellsOf e + j)) = (cs i)[j]?) ∧ GB enc W e (cs i) (D i) := by
  obtain ⟨fuel, p, h, hlt, hwt⟩ := h
  rcases open_slice ht h with ⟨hcs, _⟩ | ⟨a, len, cap, m, n, D, Pl, hcs, _, hl, hm, hmm, hx, hi⟩
  · left; simpa using hcs
  · right
    simp only [if_true] at hmm
    subst hmm
    simp only [Prod.mk.injEq] at hx
    obtain ⟨rfl, rfl⟩ := hx
    rw [bulk_slice] at hwt
    have hlen := bulk_len ((List.range len).map D)
    rw [List.length_map, List.length_range] at hlen
    have hex : ∀ i, ∃ cs', i < len → cs'.length = Tryd.prog.cellsOf e ∧ (∀ j, j < Tryd.prog.cellsOf e → W.cell? (a.add (i * Tryd.prog.cellsOf e + j)) = cs'[j]?) ∧ GB enc W e cs' (D i) := by
      intro i
      by_cases hil : i < len
      · obtain ⟨cs', hc, ht'⟩ := hi i (by omega)
        obtain ⟨_, hcl, hat⟩ := World.cells?_some hc
        have hb : Rows.uptoBulk (D i) ≤ Rows.uptoBulkAll ((List.range len).map D) := bulk_part (List.mem_map.2 ⟨i, List.mem_range.2 hil, rfl⟩)
        refine ⟨cs', fun _ => ⟨hcl, fun j hj => by rw [← Go.Deep.add_add]; exact hat j hj, n, Pl i, ht', fun x hx => hlt x ?_, by omega⟩⟩
        exact List.mem_append_right _ (List.mem_flatMap.2 ⟨i, List.mem_range.2 (by omega), hx⟩)
      · exact ⟨[], fun h => absurd h hil⟩
    obtain ⟨cs, hcs'⟩ := Classical.axiomOfChoice hex
    refine ⟨a, len, m, D, cs, by simpa using hcs, hl, by omega, fun hn => ?_, hcs'⟩
    have hb := hlt (.cell a.block (a.off + 0)) (List.mem_append_left _ (MemPlace.mem_row.2 ⟨0, Nat.mul_pos (by omega) hC, rfl⟩))
    exact hb
/-- A struct's fields. -/
theorem GB.fld {t : TypeId} {fs : Array Field} {cs : List Value} {d : DataW H} (ht : Tryd.prog.underlying t = some (.struct fs)) (h : GB enc W t cs d) (i : Nat) (ty : TypeId) (off k : Nat) (hf : ∃ f, fs[i]? = some f ∧ f.type = ty ∧ f.offset = off) (hk : Tryd.prog.cellsOf ty = k) :
    ∃ d', GB enc W ty ((cs.drop off).take k) d' := by
  obtain ⟨f, hf, rfl, rfl⟩ := hf
  subst hk
  obtain ⟨fuel, p, h, hlt, hwt⟩ := h
  obtain ⟨xs, n, _, hx, _, hxl, hg⟩ := DataW.trod_struct ht h
  simp only [Prod.mk.injEq] at hx
  obtain ⟨rfl, rfl⟩ := hx
  have hil : i < fs.size := (Array.getElem?_eq_some_iff.1 hf).1
  have hy : xs[i]? = some (xs[i]'(by omega)) := List.getElem?_eq_getElem (by omega)
  rw [bulk_agg] at hwt
  have hb : Rows.uptoBulk (xs[i]'(by omega)).1 ≤ Rows.uptoBulkAll (xs.map (·.1)) := bulk_part (List.mem_map.2 ⟨_, List.getElem_mem _, rfl⟩)
  refine ⟨(xs[i]'(by omega)).1, n, (xs[i]'(by omega)).2, (hg i f hf).trans hy, fun x hx => hlt x ?_, by omega⟩
  exact List.mem_flatMap.2 ⟨_, List.getElem_mem _, hx⟩
theorem GB.int {t : TypeId} {v : Value} {d : DataW H} (ht : Tryd.prog.underlying t = some (.int .i64)) (h : GB enc W t [v] d) : ∃ x : Int, v = .int .i64 x ∧ -9223372036854775808 ≤ x ∧ x ≤ 9223372036854775807 := by
  obtain ⟨fuel, p, h, _, _⟩ := h
  exact open_cell_int ht h
theorem GB.str {v : Value} {d : DataW H} (h : GB enc W 9 [v] d) : ∃ s : ByteArray, v = .string s ∧ s.size ≤ 1048576 := by
  obtain ⟨fuel, p, h, _, hb⟩ := h
  obtain ⟨s, e0, hx, _⟩ := DataW.trod_string Tryd.underlying9 h
  simp only [Prod.mk.injEq] at hx
  obtain ⟨rfl, rfl⟩ := hx
  rw [bulk_str, str_len] at hb
  exact ⟨s, by simpa using e0, by omega⟩
theorem cellsT3 : Tryd.prog.cellsOf 3 = 1 := by kernel_rfl
theorem cellsT5 : Tryd.prog.cellsOf 5 = 1 := by kernel_rfl
theorem cellsT9 : Tryd.prog.cellsOf 9 = 1 := by kernel_rfl
theorem cellsT24 : Tryd.prog.cellsOf 24 = 1 := by kernel_rfl
theorem cellsT39 : Tryd.prog.cellsOf 39 = 4 := by kernel_rfl
theorem cellsT40 : Tryd.prog.cellsOf 40 = 1 := by kernel_rfl
theorem cellsT41 : Tryd.prog.cellsOf 41 = 1 := by kernel_rfl
theorem cellsT42 : Tryd.prog.cellsOf 42 = 1 := by kernel_rfl
theorem cellsT44 : Tryd.prog.cellsOf 44 = 7 := by kernel_rfl
theorem cellsT46 : Tryd.prog.cellsOf 46 = 3 := by kernel_rfl
theorem cellsT48 : Tryd.prog.cellsOf 48 = 26 := by kernel_rfl
theorem cellsT69 : Tryd.prog.cellsOf 69 = 3 := by kernel_rfl
theorem list1 {α : Type} {l : List α} (h : l.length = 1) : ∃ a, l = [a] := by
  match l, h with
  | [a], _ => exact ⟨a, rfl⟩
theorem flat_one {α β : Type} (g : α → β) (l : List α) : (l.flatMap fun i => [g i]) = l.map g := by
  induction l with
  | nil => rfl
  | cons a r ih => simp only [List.flatMap_cons, List.map_cons, ih]; rfl
theorem GB.byte {v : Value} {d : DataW H} (h : GB enc W 5 [v] d) : ∃ x : UInt8, v = .int .u8 (x.toNat : Int) := by
  obtain ⟨fuel, p, h, _, _⟩ := h
  obtain ⟨a, e0, _, wa⟩ := DataW.trod_int Tryd.underlying5 h
  simp [Lit.wf, IntKind.min, IntKind.max, IntKind.signed, IntKind.bits] at wa
  simp at e0
  refine ⟨UInt8.ofNat a.toNat, ?_⟩
  rw [e0, byte_of (by omega)]
  congr 1
  omega
theorem GB.bytes {v : Value} {d : DataW H} (h : GB enc W 42 [v] d) :
    ∃ (A : Option Addr) (n c : Nat) (bs : List UInt8), v = .slice A n c ∧ Reads W W.heap.size 1 A n (Lib.byteCells bs) ∧ n ≤ 1048576 ∧ bs.length = n := by
  rcases GB.slice Tryd.underlying42 (by rw [cellsT5]; omega) h with rfl | ⟨a, len, cap, D, cs, rfl, hl, hn, hb, hi⟩
  · exact ⟨none, 0, 0, [], rfl, ⟨by simp [Lib.byteCells], fun h => absurd h (by simp)⟩, by omega, rfl⟩
  · rw [cellsT5] at hi
    have hex : ∀ i, ∃ x : UInt8, i < len → cs i = [.int .u8 (x.toNat : Int)] := by
      intro i
      by_cases hil : i < len
      · obtain ⟨hc1, _, hg⟩ := hi i hil
        obtain ⟨c0, e⟩ := list1 hc1
        rw [e] at hg
        obtain ⟨x, rfl⟩ := GB.byte hg
        exact ⟨x, fun _ => e⟩
      · exact ⟨0, fun h => absurd h hil⟩
    obtain ⟨f, hf⟩ := Classical.axiomOfChoice hex
    have hr := reads_elems (W := W) (C := 1) (a := a) (cs := cs) hb (fun i hi' => (hi i hi').1) (fun i hi' => (hi i hi').2.1)
    have e : Lib.byteCells ((List.range len).map f) = (List.range len).flatMap cs := by
      unfold Lib.byteCells
      rw [List.map_map]
      have : (List.range len).flatMap cs = (List.range len).flatMap fun i => [Value.int .u8 ((f i).toNat : Int)] := flat_congr fun i hi' => hf i (by simpa using hi')
      rw [this, flat_one]
      rfl
    refine ⟨some a, len, cap, (List.range len).map f, rfl, ?_, hn, by simp⟩
    rw [e]
    exact hr
theorem GB.intL {v : Value} {d : DataW H} (h : GB enc W 41 [v] d) :
    ∃ (A : Option Addr) (n c : Nat) (xs : List Int), v = .slice A n c ∧ RI W W.heap.size A n xs ∧ n ≤ 1048576 := by
  rcases GB.slice Tryd.underlying41 (by rw [cellsT3]; omega) h with rfl | ⟨a, len, cap, D, cs, rfl, hl, hn, hb, hi⟩
  · exact ⟨none, 0, 0, [], rfl, ⟨by simp [ints], fun h => absurd h (by simp)⟩, by omega⟩
  · rw [cellsT3] at hi
    have hex : ∀ i, ∃ x : Int, i < len → cs i = [.int .i64 x] := by
      intro i
      by_cases hil : i < len
      · obtain ⟨hc1, _, hg⟩ := hi i hil
        obtain ⟨c0, e⟩ := list1 hc1
        rw [e] at hg
        obtain ⟨x, rfl, _⟩ := GB.int Tryd.underlying3 hg
        exact ⟨x, fun _ => e⟩
      · exact ⟨0, fun h => absurd h hil⟩
    obtain ⟨f, hf⟩ := Classical.axiomOfChoice hex
    have hr := reads_elems (W := W) (C := 1) (a := a) (cs := cs) hb (fun i hi' => (hi i hi').1) (fun i hi' => (hi i hi').2.1)
    have e : ints ((List.range len).map f) = (List.range len).flatMap cs := by
      unfold ints
      rw [List.map_map]
      have : (List.range len).flatMap cs = (List.range len).flatMap fun i => [Value.int .i64 (f i)] := flat_congr fun i hi' => hf i (by simpa using hi')
      rw [this, flat_one]
      rfl
    refine ⟨some a, len, cap, (List.range len).map f, rfl, ?_, hn⟩
    show Reads _ _ _ _ _ (ints _)
    rw [e]
    exact hr
theorem len3 {α : Type} {l : List α} (h : l.length = 3) : ∃ a b c, l = [a, b, c] := list3 h
theorem GB.mems {v : Value} {d : DataW H} (h : GB enc W 40 [v] d) :
    ∃ (A : Option Addr) (n c : Nat) (xs : List (Int × Int × Int)), v = .slice A n c ∧ RS W W.heap.size A n xs ∧ n ≤ 1048576 := by
  rcases GB.slice Tryd.underlying40 (by rw [cellsT69]; omega) h with rfl | ⟨a, len, cap, D, cs, rfl, hl, hn, hb, hi⟩
  · exact ⟨none, 0, 0, [], rfl, ⟨by simp [sts], fun h => absurd h (by simp)⟩, by omega⟩
  · rw [cellsT69] at hi
    have hex : ∀ i, ∃ x : Int × Int × Int, i < len → cs i = [.int .i64 x.1, .int .i64 x.2.1, .int .i64 x.2.2] := by
      intro i
      by_cases hil : i < len
      · obtain ⟨hc1, _, hg⟩ := hi i hil
        obtain ⟨c0, c1, c2, e⟩ := len3 hc1
        rw [e] at hg
        obtain ⟨_, g0⟩ := GB.fld Tryd.underlying69 hg 0 3 0 1 ⟨_, rfl, rfl, rfl⟩ cellsT3
        obtain ⟨_, g1⟩ := GB.fld Tryd.underlying69 hg 1 3 1 1 ⟨_, rfl, rfl, rfl⟩ cellsT3
        obtain ⟨_, g2⟩ := GB.fld Tryd.underlying69 hg 2 3 2 1 ⟨_, rfl, rfl, rfl⟩ cellsT3
        simp only [List.drop_zero, List.drop_succ_cons, List.take_succ_cons, List.take_zero] at g0 g1 g2
        obtain ⟨x0, rfl, _⟩ := GB.int Tryd.underlying3 g0
        obtain ⟨x1, rfl, _⟩ := GB.int Tryd.underlying3 g1
        obtain ⟨x2, rfl, _⟩ := GB.int Tryd.underlying3 g2
        exact ⟨(x0, x1, x2), fun _ => e⟩
      · exact ⟨(0, 0, 0), fun h => absurd h hil⟩
    obtain ⟨f, hf⟩ := Classical.axiomOfChoice hex
    have hr := reads_elems (W := W) (C := 3) (a := a) (cs := cs) hb (fun i hi' => (hi i hi').1) (fun i hi' => (hi i hi').2.1)
    have e : sts ((List.range len).map f) = (List.range len).flatMap cs := by
      unfold sts
      rw [List.flatMap_map]
      exact flat_congr fun i hi' => (hf i (by simpa using hi')).symm
    refine ⟨some a, len, cap, (List.range len).map f, rfl, ?_, hn⟩
    show Reads _ _ _ _ _ (sts _)
    rw [e]
    exact hr
theorem list26 {α : Type} {l : List α} (h : l.length = 26) : ∃ c0 c1 c2 c3 c4 c5 c6 c7 c8 c9 c10 c11 c12 c13 c14 c15 c16 c17 c18 c19 c20 c21 c22 c23 c24 c25, l = [c0, c1, c2, c3, c4, c5, c6, c7, c8, c9, c10, c11, c12, c13, c14, c15, c16, c17, c18, c19, c20, c21, c22, c23, c24, c25] := by
  match l, h with
  | [c0, c1, c2, c3, c4, c5, c6, c7, c8, c9, c10, c11, c12, c13, c14, c15, c16, c17, c18, c19, c20, c21, c22, c23, c24, c25], _ => exact ⟨c0, c1, c2, c3, c4, c5, c6, c7, c8, c9, c10, c11, c12, c13, c14, c15, c16, c17, c18, c19, c20, c21, c22, c23, c24, c25, rfl⟩
/-- A mark. -/
theorem GB.mark {cs : List Value} {d : DataW H} (hl : cs.length = 26) (h : GB enc W 48 cs d) : ∃ m : Mk, cs = m.cs.toList ∧ MkIn W W.heap.size m ∧ MkZ m := by
  obtain ⟨c0, c1, c2, c3, c4, c5, c6, c7, c8, c9, c10, c11, c12, c13, c14, c15, c16, c17, c18, c19, c20, c21, c22, c23, c24, c25, rfl⟩ := list26 hl
  obtain ⟨_, g0⟩ := GB.fld Tryd.underlying48 h 0 3 0 1 ⟨_, rfl, rfl, rfl⟩ cellsT3
  obtain ⟨_, g1⟩ := GB.fld Tryd.underlying48 h 1 3 1 1 ⟨_, rfl, rfl, rfl⟩ cellsT3
  obtain ⟨_, g2⟩ := GB.fld Tryd.underlying48 h 2 3 2 1 ⟨_, rfl, rfl, rfl⟩ cellsT3
  obtain ⟨_, g3⟩ := GB.fld Tryd.underlying48 h 3 3 3 1 ⟨_, rfl, rfl, rfl⟩ cellsT3
  obtain ⟨_, g4⟩ := GB.fld Tryd.underlying48 h 4 39 4 4 ⟨_, rfl, rfl, rfl⟩ cellsT39
  obtain ⟨_, g5⟩ := GB.fld Tryd.underlying48 h 5 40 8 1 ⟨_, rfl, rfl, rfl⟩ cellsT40
  obtain ⟨_, g6⟩ := GB.fld Tryd.underlying48 h 6 41 9 1 ⟨_, rfl, rfl, rfl⟩ cellsT41
  obtain ⟨_, g7⟩ := GB.fld Tryd.underlying48 h 7 3 10 1 ⟨_, rfl, rfl, rfl⟩ cellsT3
  obtain ⟨_, g8⟩ := GB.fld Tryd.underlying48 h 8 3 11 1 ⟨_, rfl, rfl, rfl⟩ cellsT3
  obtain ⟨_, g9⟩ := GB.fld Tryd.underlying48 h 9 3 12 1 ⟨_, rfl, rfl, rfl⟩ cellsT3
  obtain ⟨_, g10⟩ := GB.fld Tryd.underlying48 h 10 3 13 1 ⟨_, rfl, rfl, rfl⟩ cellsT3
  obtain ⟨_, g11⟩ := GB.fld Tryd.underlying48 h 11 42 14 1 ⟨_, rfl, rfl, rfl⟩ cellsT42
  obtain ⟨_, g12⟩ := GB.fld Tryd.underlying48 h 12 44 15 7 ⟨_, rfl, rfl, rfl⟩ cellsT44
  obtain ⟨_, g13⟩ := GB.fld Tryd.underlying48 h 13 46 22 3 ⟨_, rfl, rfl, rfl⟩ cellsT46
  obtain ⟨_, g14⟩ := GB.fld Tryd.underlying48 h 14 24 25 1 ⟨_, rfl, rfl, rfl⟩ cellsT24
  simp only [List.drop_zero, List.drop_succ_cons, List.take_succ_cons, List.take_zero] at g0 g1 g2 g3 g4 g5 g6 g7 g8 g9 g10 g11 g12 g13 g14
  obtain ⟨_, v0⟩ := GB.fld Tryd.underlying39 g4 0 3 0 1 ⟨_, rfl, rfl, rfl⟩ cellsT3
  obtain ⟨_, v1⟩ := GB.fld Tryd.underlying39 g4 1 3 1 1 ⟨_, rfl, rfl, rfl⟩ cellsT3
  obtain ⟨_, v2⟩ := GB.fld Tryd.underlying39 g4 2 3 2 1 ⟨_, rfl, rfl, rfl⟩ cellsT3
  obtain ⟨_, v3⟩ := GB.fld Tryd.underlying39 g4 3 3 3 1 ⟨_, rfl, rfl, rfl⟩ cellsT3
  simp only [List.drop_zero, List.drop_succ_cons, List.take_succ_cons, List.take_zero] at v0 v1 v2 v3
  obtain ⟨_, q0⟩ := GB.fld Tryd.underlying44 g12 0 3 0 1 ⟨_, rfl, rfl, rfl⟩ cellsT3
  obtain ⟨_, q1⟩ := GB.fld Tryd.underlying44 g12 1 3 1 1 ⟨_, rfl, rfl, rfl⟩ cellsT3
  obtain ⟨_, q2⟩ := GB.fld Tryd.underlying44 g12 2 3 2 1 ⟨_, rfl, rfl, rfl⟩ cellsT3
  obtain ⟨_, q3⟩ := GB.fld Tryd.underlying44 g12 3 3 3 1 ⟨_, rfl, rfl, rfl⟩ cellsT3
  obtain ⟨_, q4⟩ := GB.fld Tryd.underlying44 g12 4 9 4 1 ⟨_, rfl, rfl, rfl⟩ cellsT9
  obtain ⟨_, q5⟩ := GB.fld Tryd.underlying44 g12 5 9 5 1 ⟨_, rfl, rfl, rfl⟩ cellsT9
  obtain ⟨_, q6⟩ := GB.fld Tryd.underlying44 g12 6 9 6 1 ⟨_, rfl, rfl, rfl⟩ cellsT9
  simp only [List.drop_zero, List.drop_succ_cons, List.take_succ_cons, List.take_zero] at q0 q1 q2 q3 q4 q5 q6
  obtain ⟨_, r0⟩ := GB.fld Tryd.underlying46 g13 0 3 0 1 ⟨_, rfl, rfl, rfl⟩ cellsT3
  obtain ⟨_, r1⟩ := GB.fld Tryd.underlying46 g13 1 9 1 1 ⟨_, rfl, rfl, rfl⟩ cellsT9
  obtain ⟨_, r2⟩ := GB.fld Tryd.underlying46 g13 2 3 2 1 ⟨_, rfl, rfl, rfl⟩ cellsT3
  simp only [List.drop_zero, List.drop_succ_cons, List.take_succ_cons, List.take_zero] at r0 r1 r2
  obtain ⟨aT, rfl, _⟩ := GB.int Tryd.underlying3 g0
  obtain ⟨kd, rfl, _⟩ := GB.int Tryd.underlying3 g1
  obtain ⟨nd, rfl, _⟩ := GB.int Tryd.underlying3 g2
  obtain ⟨ic, rfl, _⟩ := GB.int Tryd.underlying3 g3
  obtain ⟨ep, rfl, _⟩ := GB.int Tryd.underlying3 v0
  obtain ⟨ld, rfl, _⟩ := GB.int Tryd.underlying3 v1
  obtain ⟨ii, rfl, _⟩ := GB.int Tryd.underlying3 v2
  obtain ⟨ci, rfl, _⟩ := GB.int Tryd.underlying3 v3
  obtain ⟨Am, nm, cm, ms, rfl, hm1, hm2⟩ := GB.mems g5
  obtain ⟨At, nt, ct, ts, rfl, ht1, ht2⟩ := GB.intL g6
  obtain ⟨se, rfl, _⟩ := GB.int Tryd.underlying3 g7
  obtain ⟨sq, rfl, _⟩ := GB.int Tryd.underlying3 g8
  obtain ⟨po, rfl, _⟩ := GB.int Tryd.underlying3 g9
  obtain ⟨n, rfl, _⟩ := GB.int Tryd.underlying3 g10
  obtain ⟨Ab, nb, cb, bd, rfl, hb1, hb2, hb3⟩ := GB.bytes g11
  obtain ⟨cl, rfl, _⟩ := GB.int Tryd.underlying3 q0
  obtain ⟨cn, rfl, _⟩ := GB.int Tryd.underlying3 q1
  obtain ⟨rq, rfl, _⟩ := GB.int Tryd.underlying3 q2
  obtain ⟨op, rfl, _⟩ := GB.int Tryd.underlying3 q3
  obtain ⟨key, rfl, hkey⟩ := GB.str q4
  obtain ⟨val, rfl, hval⟩ := GB.str q5
  obtain ⟨old, rfl, hold⟩ := GB.str q6
  obtain ⟨co, rfl, _⟩ := GB.int Tryd.underlying3 r0
  obtain ⟨rv, rfl, hrv⟩ := GB.str r1
  obtain ⟨rn, rfl, _⟩ := GB.int Tryd.underlying3 r2
  obtain ⟨er, rfl, _⟩ := GB.int Tryd.underlying24 g14
  exact ⟨⟨aT, kd, nd, ic, ep, ld, ii, ci, Am, nm, cm, ms, At, nt, ct, ts, se, sq, po, n, Ab, nb, cb, bd, cl, cn, rq, op, key, val, old, co, rv, rn, er⟩, rfl, ⟨hm1, ht1, hb1, by show nm ≤ _; omega, by show nt ≤ _; omega, by show nb ≤ _; omega⟩, ⟨hm2, ht2, hb2, hb3, hkey, hval, hold, hrv⟩⟩
/-- A list of marks. -/
theorem GB.marks {v : Value} {d : DataW H} (h : GB enc W 22 [v] d) : ∃ (A : Option Addr) (n c : Nat) (l : List Mk), v = .slice A n c ∧ MsIn W W.heap.size A n l ∧ n ≤ 1048576 ∧ ∀ m ∈ l, MkZ m := by
  rcases GB.slice Tryd.underlying22 (by rw [cellsT48]; omega) h with rfl | ⟨a, len, cap, D, cs, rfl, hl, hn, hb, hi⟩
  · exact ⟨none, 0, 0, [], rfl, ⟨⟨by simp [mkCells], fun h => absurd h (by simp)⟩, fun m hm => by cases hm⟩, by omega, fun m hm => by cases hm⟩
  · rw [cellsT48] at hi
    have hex : ∀ i, ∃ m : Mk, i < len → cs i = m.cs.toList ∧ MkIn W W.heap.size m ∧ MkZ m := by
      intro i
      by_cases hil : i < len
      · obtain ⟨hc1, _, hg⟩ := hi i hil
        obtain ⟨m, h1, h2, h3⟩ := GB.mark hc1 hg
        exact ⟨m, fun _ => ⟨h1, h2, h3⟩⟩
      · exact ⟨⟨0, 0, 0, 0, 0, 0, 0, 0, none, 0, 0, [], none, 0, 0, [], 0, 0, 0, 0, none, 0, 0, [], 0, 0, 0, 0, ⟨#[]⟩, ⟨#[]⟩, ⟨#[]⟩, 0, ⟨#[]⟩, 0, 0⟩, fun h => absurd h hil⟩
    obtain ⟨f, hf⟩ := Classical.axiomOfChoice hex
    have hr := reads_elems (W := W) (C := 26) (a := a) (cs := cs) hb (fun i hi' => (hi i hi').1) (fun i hi' => (hi i hi').2.1)
    have e : mkCells ((List.range len).map f) = (List.range len).flatMap cs := by
      unfold mkCells
      rw [List.flatMap_map]
      exact flat_congr fun i hi' => (hf i (by simpa using hi')).1.symm
    refine ⟨some a, len, cap, (List.range len).map f, rfl, ⟨?_, fun m hm => ?_⟩, hn, fun m hm => ?_⟩
    · rw [e]
      exact hr
    · obtain ⟨i, hi', rfl⟩ := List.mem_map.1 hm
      exact (hf i (by simpa using hi')).2.1
    · obtain ⟨i, hi', rfl⟩ := List.mem_map.1 hm
      exact (hf i (by simpa using hi')).2.2
end
end Go.Proofs.YtenebkkfjalcaaaDoor
