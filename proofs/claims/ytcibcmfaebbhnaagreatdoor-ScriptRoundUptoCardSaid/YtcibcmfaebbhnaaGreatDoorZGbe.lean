/-
  An argument opened, of little bulk: slices, structs, texts; an event. (Printed by wip/tools/mkgbe.py.)
-/
import Derived.Test.YtcibcmfaebbhnaaGreatDoorRows
import Derived.Test.YtcibcmfaebbhnaaGreatDoorZRdc
import Derived.Test.YtcibcmfaebbhnaaGreatDoorZWsg
import Derived.Test.YtcibcmfaebbhnaaGreatDoorZPrp
set_option linter.unusedVariables false
set_option linter.unusedSimpArgs false
namespace Go.Proofs.YtcibcmfaebbhnaaGreatDoor
open Go.ChangeShapes Go.WideShapes Go.ChangeAt Go.RowKit Go.Deep Q
section
variable {H : Type} {enc : TypeId × Value → H} {W : World}
theorem bulk_part {d : DataW H} {l : List (DataW H)} (h : d ∈ l) : Rows.uptoBulk d ≤ Rows.uptoBulkAll l := by
  induction l with
  | nil => cases h
  | cons x r ih =>
    simp only [Rows.uptoBulkAll]
    cases List.mem_cons.1 h with
    | inl e => subst e; omega
    | inr e => have := ih e; omega
theorem bulk_one (d : DataW H) : 1 ≤ Rows.uptoBulk d := by
  cases d with
  | lit l => cases l <;> simp [Rows.uptoBulk]
  | nil => simp [Rows.uptoBulk]
  | ptr d => simp [Rows.uptoBulk]
  | slice elems spare => simp [Rows.uptoBulk]
  | agg parts => simp [Rows.uptoBulk]
  | iface t d => simp [Rows.uptoBulk]
  | map entries => simp [Rows.uptoBulk]
  | held h => simp [Rows.uptoBulk]
theorem bulk_len (l : List (DataW H)) : l.length ≤ Rows.uptoBulkAll l := by
  induction l with
  | nil => simp [Rows.uptoBulkAll]
  | cons x r ih => have := bulk_one x; simp only [Rows.uptoBulkAll, List.length_cons]; omega
theorem bulk_slice (e s : List (DataW H)) : Rows.uptoBulk (.slice e s) = Rows.uptoBulkAll e + Rows.uptoBulkAll s + 1 := by simp [Rows.uptoBulk]
theorem bulk_agg (e : List (DataW H)) : Rows.uptoBulk (.agg e) = Rows.uptoBulkAll e + 1 := by simp [Rows.uptoBulk]
theorem bulk_str (b : List UInt8) : Rows.uptoBulk (DataW.lit (H := H) (.string b)) = b.length + 1 := by simp [Rows.uptoBulk]
/-- A datum read of cells: it lies below the call's own blocks, and is of little bulk. -/
def GB (enc : TypeId × Value → H) (W : World) (t : TypeId) (cs : List Value) (d : DataW H) : Prop :=
  ∃ (fuel : Nat) (p : List MemPlace), DataW.trod enc Tryz.prog W 0 (fun _ => true) true fuel t cs = some (d, p) ∧ (∀ x ∈ p, x.block < W.heap.size) ∧ Rows.uptoBulk d ≤ 1048576
set_option maxRecDepth 100000 in
/-- A slice's elements. -/
theorem GB.slice {t e : TypeId} {v : Value} {d : DataW H} (ht : Tryz.prog.underlying t = some (.slice e)) (hC : 0 < Tryz.prog.cellsOf e) (h : GB enc W t [v] d) :
    v = .slice none 0 0 ∨
    ∃ (a : Addr) (len cap : Nat) (D : Nat → DataW H) (cs : Nat → List Value), v = .slice (some a) len cap ∧ len ≤ cap ∧ len ≤ 1048576 ∧ (0 < len → a.block < W.heap.size) ∧
      ∀ i, i < len → (cs i).length = Tryz.prog.cellsOf e ∧ (∀ j, j < Tryz.prog.cellsOf e → W.cell? (a.add (i * Tryz.prog.cellsOf e + j)) = (cs i)[j]?) ∧ GB enc W e (cs i) (D i) := by
  obtain ⟨fuel, p, h, hlt, hwt⟩ := h
  rcases open_slice ht h with ⟨hcs, _⟩ | ⟨a, len, cap, m, n, D, Pl, hcs, _, hl, hm, hmm, hx, hi⟩
  · left; simpa using hcs
  · right
    simp only [if_true] at hmm
    subst hmm
    simp only [Prod.mk.injEq] at hx
    obtain ⟨rfl, rfl⟩ := hx
    rw [bulk_slice] at hwt
    have hlen := bulk_len ((List.range len).map D)
    rw [List.length_map, List.length_range] at hlen
    have hex : ∀ i, ∃ cs', i < len → cs'.length = Tryz.prog.cellsOf e ∧ (∀ j, j < Tryz.prog.cellsOf e → W.cell? (a.add (i * Tryz.prog.cellsOf e + j)) = cs'[j]?) ∧ GB enc W e cs' (D i) := by
      intro i
      by_cases hil : i < len
      · obtain ⟨cs', hc, ht'⟩ := hi i (by omega)
        obtain ⟨_, hcl, hat⟩ := World.cells?_some hc
        have hb : Rows.uptoBulk (D i) ≤ Rows.uptoBulkAll ((List.range len).map D) := bulk_part (List.mem_map.2 ⟨i, List.mem_range.2 hil, rfl⟩)
        refine ⟨cs', fun _ => ⟨hcl, fun j hj => by rw [← Go.Deep.add_add]; exact hat j hj, n, Pl i, ht', fun x hx => hlt x ?_, by omega⟩⟩
        exact List.mem_append_right _ (List.mem_flatMap.2 ⟨i, List.mem_range.2 (by omega), hx⟩)
      · exact ⟨[], fun h => absurd h hil⟩
    obtain ⟨cs, hcs'⟩ := Classical.axiomOfChoice hex
    refine ⟨a, len, m, D, cs, by simpa using hcs, hl, by omega, fun hn => ?_, hcs'⟩
    have hb := hlt (.cell a.block (a.off + 0)) (List.mem_append_left _ (MemPlace.mem_row.2 ⟨0, Nat.mul_pos (by omega) hC, rfl⟩))
    exact hb
/-- A struct's fields. -/
theorem GB.fld {t : TypeId} {fs : Array Field} {cs : List Value} {d : DataW H} (ht : Tryz.prog.underlying t = some (.struct fs)) (h : GB enc W t cs d) (i : Nat) (ty : TypeId) (off k : Nat) (hf : ∃ f, fs[i]? = some f ∧ f.type = ty ∧ f.offset = off) (hk : Tryz.prog.cellsOf ty = k) :
    ∃ d', GB enc W ty ((cs.drop off).take k) d' := by
  obtain ⟨f, hf, rfl, rfl⟩ := hf
  subst hk
  obtain ⟨fuel, p, h, hlt, hwt⟩ := h
  obtain ⟨xs, n, _, hx, _, hxl, hg⟩ := DataW.trod_struct ht h
  simp only [Prod.mk.injEq] at hx
  obtain ⟨rfl, rfl⟩ := hx
  have hil : i < fs.size := (Array.getElem?_eq_some_iff.1 hf).1
  have hy : xs[i]? = some (xs[i]'(by omega)) := List.getElem?_eq_getElem (by omega)
  rw [bulk_agg] at hwt
  have hb : Rows.uptoBulk (xs[i]'(by omega)).1 ≤ Rows.uptoBulkAll (xs.map (·.1)) := bulk_part (List.mem_map.2 ⟨_, List.getElem_mem _, rfl⟩)
  refine ⟨(xs[i]'(by omega)).1, n, (xs[i]'(by omega)).2, (hg i f hf).trans hy, fun x hx => hlt x ?_, by omega⟩
  exact List.mem_flatMap.2 ⟨_, List.getElem_mem _, hx⟩
theorem GB.int {t : TypeId} {v : Value} {d : DataW H} (ht : Tryz.prog.underlying t = some (.int .i64)) (h : GB enc W t [v] d) : ∃ x : Int, v = .int .i64 x ∧ -9223372036854775808 ≤ x ∧ x ≤ 9223372036854775807 := by
  obtain ⟨fuel, p, h, _, _⟩ := h
  exact open_cell_int ht h
theorem GB.str {v : Value} {d : DataW H} (h : GB enc W 9 [v] d) : ∃ s : ByteArray, v = .string s ∧ s.size ≤ 1048576 := by
  obtain ⟨fuel, p, h, _, hb⟩ := h
  obtain ⟨s, e0, hx, _⟩ := DataW.trod_string Tryz.underlying9 h
  simp only [Prod.mk.injEq] at hx
  obtain ⟨rfl, rfl⟩ := hx
  rw [bulk_str, str_len] at hb
  exact ⟨s, by simpa using e0, by omega⟩
theorem cellsInt : Tryz.prog.cellsOf 3 = 1 := by kernel_rfl
theorem cellsU8 : Tryz.prog.cellsOf 5 = 1 := by kernel_rfl
theorem cellsStr : Tryz.prog.cellsOf 9 = 1 := by kernel_rfl
theorem cellsBs : Tryz.prog.cellsOf 29 = 1 := by kernel_rfl
theorem cellsIs : Tryz.prog.cellsOf 22 = 1 := by kernel_rfl
theorem cellsCm : Tryz.prog.cellsOf 31 = 7 := by kernel_rfl
theorem cellsEv : Tryz.prog.cellsOf 33 = 13 := by kernel_rfl
theorem list1 {α : Type} {l : List α} (h : l.length = 1) : ∃ a, l = [a] := by
  match l, h with
  | [a], _ => exact ⟨a, rfl⟩
theorem flat_one {α β : Type} (g : α → β) (l : List α) : (l.flatMap fun i => [g i]) = l.map g := by
  induction l with
  | nil => rfl
  | cons a r ih => simp only [List.flatMap_cons, List.map_cons, ih]; rfl
theorem GB.byte {v : Value} {d : DataW H} (h : GB enc W 5 [v] d) : ∃ x : UInt8, v = .int .u8 (x.toNat : Int) := by
  obtain ⟨fuel, p, h, _, _⟩ := h
  obtain ⟨a, e0, _, wa⟩ := DataW.trod_int Tryz.underlying5 h
  simp [Lit.wf, IntKind.min, IntKind.max, IntKind.signed, IntKind.bits] at wa
  simp at e0
  refine ⟨UInt8.ofNat a.toNat, ?_⟩
  rw [e0, byte_of (by omega)]
  congr 1
  omega
theorem GB.bytes {v : Value} {d : DataW H} (h : GB enc W 29 [v] d) :
    ∃ (A : Option Addr) (n c : Nat) (bs : List UInt8), v = .slice A n c ∧ Reads W W.heap.size 1 A n (Lib.byteCells bs) ∧ n ≤ 1048576 ∧ bs.length = n := by
  rcases GB.slice Tryz.underlying29 (by rw [cellsU8]; omega) h with rfl | ⟨a, len, cap, D, cs, rfl, hl, hn, hb, hi⟩
  · exact ⟨none, 0, 0, [], rfl, ⟨by simp [Lib.byteCells], fun h => absurd h (by simp)⟩, by omega, rfl⟩
  · rw [cellsU8] at hi
    have hex : ∀ i, ∃ x : UInt8, i < len → cs i = [.int .u8 (x.toNat : Int)] := by
      intro i
      by_cases hil : i < len
      · obtain ⟨hc1, _, hg⟩ := hi i hil
        obtain ⟨c0, e⟩ := list1 hc1
        rw [e] at hg
        obtain ⟨x, rfl⟩ := GB.byte hg
        exact ⟨x, fun _ => e⟩
      · exact ⟨0, fun h => absurd h hil⟩
    obtain ⟨f, hf⟩ := Classical.axiomOfChoice hex
    have hr := reads_elems (W := W) (C := 1) (a := a) (cs := cs) hb (fun i hi' => (hi i hi').1) (fun i hi' => (hi i hi').2.1)
    have e : Lib.byteCells ((List.range len).map f) = (List.range len).flatMap cs := by
      unfold Lib.byteCells
      rw [List.map_map]
      have : (List.range len).flatMap cs = (List.range len).flatMap fun i => [Value.int .u8 ((f i).toNat : Int)] := flat_congr fun i hi' => hf i (by simpa using hi')
      rw [this, flat_one]
      rfl
    refine ⟨some a, len, cap, (List.range len).map f, rfl, ?_, hn, by simp⟩
    rw [e]
    exact hr
theorem GB.intL {v : Value} {d : DataW H} (h : GB enc W 22 [v] d) :
    ∃ (A : Option Addr) (n c : Nat) (xs : List Int), v = .slice A n c ∧ RI W W.heap.size A n xs ∧ n ≤ 1048576 ∧ ∀ x ∈ xs, I64 x := by
  rcases GB.slice Tryz.underlying22 (by rw [cellsInt]; omega) h with rfl | ⟨a, len, cap, D, cs, rfl, hl, hn, hb, hi⟩
  · exact ⟨none, 0, 0, [], rfl, ⟨by simp [ints], fun h => absurd h (by simp)⟩, by omega, fun x hx => by cases hx⟩
  · rw [cellsInt] at hi
    have hex : ∀ i, ∃ x : Int, i < len → cs i = [.int .i64 x] ∧ I64 x := by
      intro i
      by_cases hil : i < len
      · obtain ⟨hc1, _, hg⟩ := hi i hil
        obtain ⟨c0, e⟩ := list1 hc1
        rw [e] at hg
        obtain ⟨x, rfl, hx⟩ := GB.int Tryz.underlying3 hg
        exact ⟨x, fun _ => ⟨e, hx⟩⟩
      · exact ⟨0, fun h => absurd h hil⟩
    obtain ⟨f, hf⟩ := Classical.axiomOfChoice hex
    have hr := reads_elems (W := W) (C := 1) (a := a) (cs := cs) hb (fun i hi' => (hi i hi').1) (fun i hi' => (hi i hi').2.1)
    have e : ints ((List.range len).map f) = (List.range len).flatMap cs := by
      unfold ints
      rw [List.map_map]
      have : (List.range len).flatMap cs = (List.range len).flatMap fun i => [Value.int .i64 (f i)] := flat_congr fun i hi' => (hf i (by simpa using hi')).1
      rw [this, flat_one]
      rfl
    refine ⟨some a, len, cap, (List.range len).map f, rfl, ?_, hn, fun x hx => by
      obtain ⟨i, hi', rfl⟩ := List.mem_map.1 hx
      exact (hf i (by simpa using hi')).2⟩
    show Reads _ _ _ _ _ (ints _)
    rw [e]
    exact hr
theorem list13 {α : Type} {l : List α} (h : l.length = 13) : ∃ c0 c1 c2 c3 c4 c5 c6 c7 c8 c9 c10 c11 c12, l = [c0, c1, c2, c3, c4, c5, c6, c7, c8, c9, c10, c11, c12] := by
  match l, h with
  | [c0, c1, c2, c3, c4, c5, c6, c7, c8, c9, c10, c11, c12], _ => exact ⟨c0, c1, c2, c3, c4, c5, c6, c7, c8, c9, c10, c11, c12, rfl⟩
/-- An event. -/
theorem GB.event {cs : List Value} {d : DataW H} (hl : cs.length = 13) (h : GB enc W 33 cs d) : ∃ m : Em, cs = m.cs.toList ∧ EmIn W W.heap.size m ∧ EvOk m := by
  obtain ⟨c0, c1, c2, c3, c4, c5, c6, c7, c8, c9, c10, c11, c12, rfl⟩ := list13 hl
  obtain ⟨_, g0⟩ := GB.fld Tryz.underlying33 h 0 3 0 1 ⟨_, rfl, rfl, rfl⟩ cellsInt
  obtain ⟨_, g1⟩ := GB.fld Tryz.underlying33 h 1 3 1 1 ⟨_, rfl, rfl, rfl⟩ cellsInt
  obtain ⟨_, g2⟩ := GB.fld Tryz.underlying33 h 2 3 2 1 ⟨_, rfl, rfl, rfl⟩ cellsInt
  obtain ⟨_, g3⟩ := GB.fld Tryz.underlying33 h 3 3 3 1 ⟨_, rfl, rfl, rfl⟩ cellsInt
  obtain ⟨_, g4⟩ := GB.fld Tryz.underlying33 h 4 29 4 1 ⟨_, rfl, rfl, rfl⟩ cellsBs
  obtain ⟨_, g5⟩ := GB.fld Tryz.underlying33 h 5 31 5 7 ⟨_, rfl, rfl, rfl⟩ cellsCm
  obtain ⟨_, g6⟩ := GB.fld Tryz.underlying33 h 6 22 12 1 ⟨_, rfl, rfl, rfl⟩ cellsIs
  simp only [List.drop_zero, List.drop_succ_cons, List.take_succ_cons, List.take_zero] at g0 g1 g2 g3 g4 g5 g6
  obtain ⟨_, q0⟩ := GB.fld Tryz.underlying31 g5 0 3 0 1 ⟨_, rfl, rfl, rfl⟩ cellsInt
  obtain ⟨_, q1⟩ := GB.fld Tryz.underlying31 g5 1 3 1 1 ⟨_, rfl, rfl, rfl⟩ cellsInt
  obtain ⟨_, q2⟩ := GB.fld Tryz.underlying31 g5 2 3 2 1 ⟨_, rfl, rfl, rfl⟩ cellsInt
  obtain ⟨_, q3⟩ := GB.fld Tryz.underlying31 g5 3 3 3 1 ⟨_, rfl, rfl, rfl⟩ cellsInt
  obtain ⟨_, q4⟩ := GB.fld Tryz.underlying31 g5 4 9 4 1 ⟨_, rfl, rfl, rfl⟩ cellsStr
  obtain ⟨_, q5⟩ := GB.fld Tryz.underlying31 g5 5 9 5 1 ⟨_, rfl, rfl, rfl⟩ cellsStr
  obtain ⟨_, q6⟩ := GB.fld Tryz.underlying31 g5 6 9 6 1 ⟨_, rfl, rfl, rfl⟩ cellsStr
  simp only [List.drop_zero, List.drop_succ_cons, List.take_succ_cons, List.take_zero] at q0 q1 q2 q3 q4 q5 q6
  obtain ⟨kd, rfl, hkd⟩ := GB.int Tryz.underlying3 g0
  obtain ⟨a, rfl, ha⟩ := GB.int Tryz.underlying3 g1
  obtain ⟨b, rfl, hb⟩ := GB.int Tryz.underlying3 g2
  obtain ⟨n, rfl, hn⟩ := GB.int Tryz.underlying3 g3
  obtain ⟨Ab, nb, cb, bd, rfl, hb1, hb2, hb3⟩ := GB.bytes g4
  obtain ⟨cl, rfl, hcl⟩ := GB.int Tryz.underlying3 q0
  obtain ⟨cn, rfl, hcn⟩ := GB.int Tryz.underlying3 q1
  obtain ⟨rq, rfl, hrq⟩ := GB.int Tryz.underlying3 q2
  obtain ⟨op, rfl, hop⟩ := GB.int Tryz.underlying3 q3
  obtain ⟨key, rfl, hkey⟩ := GB.str q4
  obtain ⟨val, rfl, hval⟩ := GB.str q5
  obtain ⟨old, rfl, hold⟩ := GB.str q6
  obtain ⟨As, ns, cs', sd, rfl, hs1, hs2, hs3⟩ := GB.intL g6
  exact ⟨⟨kd, a, b, n, Ab, nb, cb, bd, cl, cn, rq, op, key, val, old, As, ns, cs', sd⟩, rfl, ⟨hs1, hb1, by show ns ≤ _; omega, by show nb ≤ _; omega⟩, ⟨ha, hb, hn, hs3, hop, ⟨hs2, hb2, hkey, hval, hold⟩⟩⟩
/-- An event, and a number of nodes. -/
theorem GB.thing {cs : List Value} {d : DataW H} (hl : cs.length = 14) (h : GB enc W 35 cs d) : ∃ (m : Em) (nodes : Int), cs = (m.th nodes).toList ∧ EmIn W W.heap.size m ∧ EvOk m := by
  obtain ⟨_, g0⟩ := GB.fld Tryz.underlying35 h 0 33 0 13 ⟨_, rfl, rfl, rfl⟩ cellsEv
  obtain ⟨_, g1⟩ := GB.fld Tryz.underlying35 h 1 3 13 1 ⟨_, rfl, rfl, rfl⟩ cellsInt
  obtain ⟨x, hx⟩ := list1 (l := (cs.drop 13).take 1) (by simp; omega)
  rw [hx] at g1
  obtain ⟨k, rfl, _⟩ := GB.int Tryz.underlying3 g1
  obtain ⟨m, hm, h1, h2⟩ := GB.event (cs := (cs.drop 0).take 13) (by simp; omega) g0
  refine ⟨m, k, ?_, h1, h2⟩
  have e1 : cs = cs.take 13 ++ (cs.drop 13).take 1 := by
    rw [List.take_of_length_le (l := cs.drop 13) (by simp; omega), List.take_append_drop]
  rw [List.drop_zero] at hm
  rw [e1, hm, hx]
  unfold Em.th
  rw [Array.toList_push]
end
end Go.Proofs.YtcibcmfaebbhnaaGreatDoor
