/-
  An argument opened, of bounded bulk: a list of marks, the bulks of the marks together. (Printed by wip/tools/mkbub.py.)
-/
import Derived.Test.YtenebkkfjalcaaaDoorZBul
import Derived.Test.YtenebkkfjalcaaaDoorZNln
set_option linter.unusedVariables false
set_option linter.unusedSimpArgs false
namespace Go.Proofs.YtenebkkfjalcaaaDoor
open Go.ChangeShapes Go.WideShapes Go.ChangeAt Go.RowKit Go.Deep Q

section
variable {H : Type} {enc : TypeId × Value → H} {W : World} {K : Nat}
theorem bulk_sum (l : List (DataW H)) : Rows.uptoBulkAll l = (l.map Rows.uptoBulk).sum := by
  induction l with
  | nil => simp [Rows.uptoBulkAll]
  | cons x r ih => simp only [Rows.uptoBulkAll, List.map_cons, List.sum_cons, ih]
/-- A datum read of cells: it lies below the call's own blocks, and is of little bulk. -/
def GN (K : Nat) (enc : TypeId × Value → H) (W : World) (t : TypeId) (cs : List Value) (d : DataW H) : Prop :=
  ∃ (fuel : Nat) (p : List MemPlace), DataW.trod enc Tryd.prog W 0 (fun _ => true) true fuel t cs = some (d, p) ∧ (∀ x ∈ p, x.block < W.heap.size) ∧ Rows.uptoBulk d ≤ K
set_option maxRecDepth 100000 in
/-- A slice's elements. -/
theorem GN.slice {t e : TypeId} {v : Value} {d : DataW H} (ht : Tryd.prog.underlying t = some (.slice e)) (hC : 0 < Tryd.prog.cellsOf e) (h : GN K enc W t [v] d) :
    v = .slice none 0 0 ∨
    ∃ (a : Addr) (len cap : Nat) (D : Nat → DataW H) (cs : Nat → List Value), v = .slice (some a) len cap ∧ len ≤ cap ∧ len ≤ K ∧ (0 < len → a.block < W.heap.size) ∧
      ∀ i, i < len → (cs i).length = Tryd.prog.cellsOf e ∧ (∀ j, j < Tryd.prog.cellsOf e → W.cell? (a.add (i * Tryd.prog.cellsOf e + j)) = (cs i)[j]?) ∧ GN K enc W e (cs i) (D i) := by
  obtain ⟨fuel, p, h, hlt, hwt⟩ := h
  rcases open_slice ht h with ⟨hcs, _⟩ | ⟨a, len, cap, m, n, D, Pl, hcs, _, hl, hm, hmm, hx, hi⟩
  · left; simpa using hcs
  · right
    simp only [if_true] at hmm
    subst hmm
    simp only [Prod.mk.injEq] at hx
    obtain ⟨rfl, rfl⟩ := hx
    rw [bulk_slice] at hwt
    have hlen := bulk_len ((List.range len).map D)
    rw [List.length_map, List.length_range] at hlen
    have hex : ∀ i, ∃ cs', i < len → cs'.length = Tryd.prog.cellsOf e ∧ (∀ j, j < Tryd.prog.cellsOf e → W.cell? (a.add (i * Tryd.prog.cellsOf e + j)) = cs'[j]?) ∧ GN K enc W e cs' (D i) := by
      intro i
      by_cases hil : i < len
      · obtain ⟨cs', hc, ht'⟩ := hi i (by omega)
        obtain ⟨_, hcl, hat⟩ := World.cells?_some hc
        have hb : Rows.uptoBulk (D i) ≤ Rows.uptoBulkAll ((List.range len).map D) := bulk_part (List.mem_map.2 ⟨i, List.mem_range.2 hil, rfl⟩)
        refine ⟨cs', fun _ => ⟨hcl, fun j hj => by rw [← Go.Deep.add_add]; exact hat j hj, n, Pl i, ht', fun x hx => hlt x ?_, by omega⟩⟩
        exact List.mem_append_right _ (List.mem_flatMap.2 ⟨i, List.mem_range.2 (by omega), hx⟩)
      · exact ⟨[], fun h => absurd h hil⟩
    obtain ⟨cs, hcs'⟩ := Classical.axiomOfChoice hex
    refine ⟨a, len, m, D, cs, by simpa using hcs, hl, by omega, fun hn => ?_, hcs'⟩
    have hb := hlt (.cell a.block (a.off + 0)) (List.mem_append_left _ (MemPlace.mem_row.2 ⟨0, Nat.mul_pos (by omega) hC, rfl⟩))
    exact hb
/-- A struct's fields. -/
theorem GN.fld {t : TypeId} {fs : Array Field} {cs : List Value} {d : DataW H} (ht : Tryd.prog.underlying t = some (.struct fs)) (h : GN K enc W t cs d) (i : Nat) (ty : TypeId) (off k : Nat) (hf : ∃ f, fs[i]? = some f ∧ f.type = ty ∧ f.offset = off) (hk : Tryd.prog.cellsOf ty = k) :
    ∃ d', GN K enc W ty ((cs.drop off).take k) d' := by
  obtain ⟨f, hf, rfl, rfl⟩ := hf
  subst hk
  obtain ⟨fuel, p, h, hlt, hwt⟩ := h
  obtain ⟨xs, n, _, hx, _, hxl, hg⟩ := DataW.trod_struct ht h
  simp only [Prod.mk.injEq] at hx
  obtain ⟨rfl, rfl⟩ := hx
  have hil : i < fs.size := (Array.getElem?_eq_some_iff.1 hf).1
  have hy : xs[i]? = some (xs[i]'(by omega)) := List.getElem?_eq_getElem (by omega)
  rw [bulk_agg] at hwt
  have hb : Rows.uptoBulk (xs[i]'(by omega)).1 ≤ Rows.uptoBulkAll (xs.map (·.1)) := bulk_part (List.mem_map.2 ⟨_, List.getElem_mem _, rfl⟩)
  refine ⟨(xs[i]'(by omega)).1, n, (xs[i]'(by omega)).2, (hg i f hf).trans hy, fun x hx => hlt x ?_, by omega⟩
  exact List.mem_flatMap.2 ⟨_, List.getElem_mem _, hx⟩
theorem GN.int {t : TypeId} {v : Value} {d : DataW H} (ht : Tryd.prog.underlying t = some (.int .i64)) (h : GN K enc W t [v] d) : ∃ x : Int, v = .int .i64 x ∧ -9223372036854775808 ≤ x ∧ x ≤ 9223372036854775807 := by
  obtain ⟨fuel, p, h, _, _⟩ := h
  exact open_cell_int ht h
theorem GN.str {v : Value} {d : DataW H} (h : GN K enc W 9 [v] d) : ∃ s : ByteArray, v = .string s ∧ s.size ≤ K := by
  obtain ⟨fuel, p, h, _, hb⟩ := h
  obtain ⟨s, e0, hx, _⟩ := DataW.trod_string Tryd.underlying9 h
  simp only [Prod.mk.injEq] at hx
  obtain ⟨rfl, rfl⟩ := hx
  rw [bulk_str, str_len] at hb
  exact ⟨s, by simpa using e0, by omega⟩
theorem GN.byte {v : Value} {d : DataW H} (h : GN K enc W 5 [v] d) : ∃ x : UInt8, v = .int .u8 (x.toNat : Int) := by
  obtain ⟨fuel, p, h, _, _⟩ := h
  obtain ⟨a, e0, _, wa⟩ := DataW.trod_int Tryd.underlying5 h
  simp [Lit.wf, IntKind.min, IntKind.max, IntKind.signed, IntKind.bits] at wa
  simp at e0
  refine ⟨UInt8.ofNat a.toNat, ?_⟩
  rw [e0, byte_of (by omega)]
  congr 1
  omega
theorem GN.bytes {v : Value} {d : DataW H} (h : GN K enc W 42 [v] d) :
    ∃ (A : Option Addr) (n c : Nat) (bs : List UInt8), v = .slice A n c ∧ Reads W W.heap.size 1 A n (Lib.byteCells bs) ∧ n ≤ K ∧ bs.length = n := by
  rcases GN.slice Tryd.underlying42 (by rw [cellsT5]; omega) h with rfl | ⟨a, len, cap, D, cs, rfl, hl, hn, hb, hi⟩
  · exact ⟨none, 0, 0, [], rfl, ⟨by simp [Lib.byteCells], fun h => absurd h (by simp)⟩, by omega, rfl⟩
  · rw [cellsT5] at hi
    have hex : ∀ i, ∃ x : UInt8, i < len → cs i = [.int .u8 (x.toNat : Int)] := by
      intro i
      by_cases hil : i < len
      · obtain ⟨hc1, _, hg⟩ := hi i hil
        obtain ⟨c0, e⟩ := list1 hc1
        rw [e] at hg
        obtain ⟨x, rfl⟩ := GN.byte hg
        exact ⟨x, fun _ => e⟩
      · exact ⟨0, fun h => absurd h hil⟩
    obtain ⟨f, hf⟩ := Classical.axiomOfChoice hex
    have hr := reads_elems (W := W) (C := 1) (a := a) (cs := cs) hb (fun i hi' => (hi i hi').1) (fun i hi' => (hi i hi').2.1)
    have e : Lib.byteCells ((List.range len).map f) = (List.range len).flatMap cs := by
      unfold Lib.byteCells
      rw [List.map_map]
      have : (List.range len).flatMap cs = (List.range len).flatMap fun i => [Value.int .u8 ((f i).toNat : Int)] := flat_congr fun i hi' => hf i (by simpa using hi')
      rw [this, flat_one]
      rfl
    refine ⟨some a, len, cap, (List.range len).map f, rfl, ?_, hn, by simp⟩
    rw [e]
    exact hr
theorem GN.intL {v : Value} {d : DataW H} (h : GN K enc W 41 [v] d) :
    ∃ (A : Option Addr) (n c : Nat) (xs : List Int), v = .slice A n c ∧ RI W W.heap.size A n xs ∧ n ≤ K := by
  rcases GN.slice Tryd.underlying41 (by rw [cellsT3]; omega) h with rfl | ⟨a, len, cap, D, cs, rfl, hl, hn, hb, hi⟩
  · exact ⟨none, 0, 0, [], rfl, ⟨by simp [ints], fun h => absurd h (by simp)⟩, by omega⟩
  · rw [cellsT3] at hi
    have hex : ∀ i, ∃ x : Int, i < len → cs i = [.int .i64 x] := by
      intro i
      by_cases hil : i < len
      · obtain ⟨hc1, _, hg⟩ := hi i hil
        obtain ⟨c0, e⟩ := list1 hc1
        rw [e] at hg
        obtain ⟨x, rfl, _⟩ := GN.int Tryd.underlying3 hg
        exact ⟨x, fun _ => e⟩
      · exact ⟨0, fun h => absurd h hil⟩
    obtain ⟨f, hf⟩ := Classical.axiomOfChoice hex
    have hr := reads_elems (W := W) (C := 1) (a := a) (cs := cs) hb (fun i hi' => (hi i hi').1) (fun i hi' => (hi i hi').2.1)
    have e : ints ((List.range len).map f) = (List.range len).flatMap cs := by
      unfold ints
      rw [List.map_map]
      have : (List.range len).flatMap cs = (List.range len).flatMap fun i => [Value.int .i64 (f i)] := flat_congr fun i hi' => hf i (by simpa using hi')
      rw [this, flat_one]
      rfl
    refine ⟨some a, len, cap, (List.range len).map f, rfl, ?_, hn⟩
    show Reads _ _ _ _ _ (ints _)
    rw [e]
    exact hr
theorem GN.mems {v : Value} {d : DataW H} (h : GN K enc W 40 [v] d) :
    ∃ (A : Option Addr) (n c : Nat) (xs : List (Int × Int × Int)), v = .slice A n c ∧ RS W W.heap.size A n xs ∧ n ≤ K := by
  rcases GN.slice Tryd.underlying40 (by rw [cellsT69]; omega) h with rfl | ⟨a, len, cap, D, cs, rfl, hl, hn, hb, hi⟩
  · exact ⟨none, 0, 0, [], rfl, ⟨by simp [sts], fun h => absurd h (by simp)⟩, by omega⟩
  · rw [cellsT69] at hi
    have hex : ∀ i, ∃ x : Int × Int × Int, i < len → cs i = [.int .i64 x.1, .int .i64 x.2.1, .int .i64 x.2.2] := by
      intro i
      by_cases hil : i < len
      · obtain ⟨hc1, _, hg⟩ := hi i hil
        obtain ⟨c0, c1, c2, e⟩ := len3 hc1
        rw [e] at hg
        obtain ⟨_, g0⟩ := GN.fld Tryd.underlying69 hg 0 3 0 1 ⟨_, rfl, rfl, rfl⟩ cellsT3
        obtain ⟨_, g1⟩ := GN.fld Tryd.underlying69 hg 1 3 1 1 ⟨_, rfl, rfl, rfl⟩ cellsT3
        obtain ⟨_, g2⟩ := GN.fld Tryd.underlying69 hg 2 3 2 1 ⟨_, rfl, rfl, rfl⟩ cellsT3
        simp only [List.drop_zero, List.drop_succ_cons, List.take_succ_cons, List.take_zero] at g0 g1 g2
        obtain ⟨x0, rfl, _⟩ := GN.int Tryd.underlying3 g0
        obtain ⟨x1, rfl, _⟩ := GN.int Tryd.underlying3 g1
        obtain ⟨x2, rfl, _⟩ := GN.int Tryd.underlying3 g2
        exact ⟨(x0, x1, x2), fun _ => e⟩
      · exact ⟨(0, 0, 0), fun h => absurd h hil⟩
    obtain ⟨f, hf⟩ := Classical.axiomOfChoice hex
    have hr := reads_elems (W := W) (C := 3) (a := a) (cs := cs) hb (fun i hi' => (hi i hi').1) (fun i hi' => (hi i hi').2.1)
    have e : sts ((List.range len).map f) = (List.range len).flatMap cs := by
      unfold sts
      rw [List.flatMap_map]
      exact flat_congr fun i hi' => (hf i (by simpa using hi')).symm
    refine ⟨some a, len, cap, (List.range len).map f, rfl, ?_, hn⟩
    show Reads _ _ _ _ _ (sts _)
    rw [e]
    exact hr
/-- A mark. -/
theorem GN.mark {cs : List Value} {d : DataW H} (hK : K ≤ 1048576) (hl : cs.length = 26) (h : GN K enc W 48 cs d) : ∃ m : Mk, cs = m.cs.toList ∧ MkIn W W.heap.size m ∧ MkN K m := by
  obtain ⟨c0, c1, c2, c3, c4, c5, c6, c7, c8, c9, c10, c11, c12, c13, c14, c15, c16, c17, c18, c19, c20, c21, c22, c23, c24, c25, rfl⟩ := list26 hl
  obtain ⟨_, g0⟩ := GN.fld Tryd.underlying48 h 0 3 0 1 ⟨_, rfl, rfl, rfl⟩ cellsT3
  obtain ⟨_, g1⟩ := GN.fld Tryd.underlying48 h 1 3 1 1 ⟨_, rfl, rfl, rfl⟩ cellsT3
  obtain ⟨_, g2⟩ := GN.fld Tryd.underlying48 h 2 3 2 1 ⟨_, rfl, rfl, rfl⟩ cellsT3
  obtain ⟨_, g3⟩ := GN.fld Tryd.underlying48 h 3 3 3 1 ⟨_, rfl, rfl, rfl⟩ cellsT3
  obtain ⟨_, g4⟩ := GN.fld Tryd.underlying48 h 4 39 4 4 ⟨_, rfl, rfl, rfl⟩ cellsT39
  obtain ⟨_, g5⟩ := GN.fld Tryd.underlying48 h 5 40 8 1 ⟨_, rfl, rfl, rfl⟩ cellsT40
  obtain ⟨_, g6⟩ := GN.fld Tryd.underlying48 h 6 41 9 1 ⟨_, rfl, rfl, rfl⟩ cellsT41
  obtain ⟨_, g7⟩ := GN.fld Tryd.underlying48 h 7 3 10 1 ⟨_, rfl, rfl, rfl⟩ cellsT3
  obtain ⟨_, g8⟩ := GN.fld Tryd.underlying48 h 8 3 11 1 ⟨_, rfl, rfl, rfl⟩ cellsT3
  obtain ⟨_, g9⟩ := GN.fld Tryd.underlying48 h 9 3 12 1 ⟨_, rfl, rfl, rfl⟩ cellsT3
  obtain ⟨_, g10⟩ := GN.fld Tryd.underlying48 h 10 3 13 1 ⟨_, rfl, rfl, rfl⟩ cellsT3
  obtain ⟨_, g11⟩ := GN.fld Tryd.underlying48 h 11 42 14 1 ⟨_, rfl, rfl, rfl⟩ cellsT42
  obtain ⟨_, g12⟩ := GN.fld Tryd.underlying48 h 12 44 15 7 ⟨_, rfl, rfl, rfl⟩ cellsT44
  obtain ⟨_, g13⟩ := GN.fld Tryd.underlying48 h 13 46 22 3 ⟨_, rfl, rfl, rfl⟩ cellsT46
  obtain ⟨_, g14⟩ := GN.fld Tryd.underlying48 h 14 24 25 1 ⟨_, rfl, rfl, rfl⟩ cellsT24
  simp only [List.drop_zero, List.drop_succ_cons, List.take_succ_cons, List.take_zero] at g0 g1 g2 g3 g4 g5 g6 g7 g8 g9 g10 g11 g12 g13 g14
  obtain ⟨_, v0⟩ := GN.fld Tryd.underlying39 g4 0 3 0 1 ⟨_, rfl, rfl, rfl⟩ cellsT3
  obtain ⟨_, v1⟩ := GN.fld Tryd.underlying39 g4 1 3 1 1 ⟨_, rfl, rfl, rfl⟩ cellsT3
  obtain ⟨_, v2⟩ := GN.fld Tryd.underlying39 g4 2 3 2 1 ⟨_, rfl, rfl, rfl⟩ cellsT3
  obtain ⟨_, v3⟩ := GN.fld Tryd.underlying39 g4 3 3 3 1 ⟨_, rfl, rfl, rfl⟩ cellsT3
  simp only [List.drop_zero, List.drop_succ_cons, List.take_succ_cons, List.take_zero] at v0 v1 v2 v3
  obtain ⟨_, q0⟩ := GN.fld Tryd.underlying44 g12 0 3 0 1 ⟨_, rfl, rfl, rfl⟩ cellsT3
  obtain ⟨_, q1⟩ := GN.fld Tryd.underlying44 g12 1 3 1 1 ⟨_, rfl, rfl, rfl⟩ cellsT3
  obtain ⟨_, q2⟩ := GN.fld Tryd.underlying44 g12 2 3 2 1 ⟨_, rfl, rfl, rfl⟩ cellsT3
  obtain ⟨_, q3⟩ := GN.fld Tryd.underlying44 g12 3 3 3 1 ⟨_, rfl, rfl, rfl⟩ cellsT3
  obtain ⟨_, q4⟩ := GN.fld Tryd.underlying44 g12 4 9 4 1 ⟨_, rfl, rfl, rfl⟩ cellsT9
  obtain ⟨_, q5⟩ := GN.fld Tryd.underlying44 g12 5 9 5 1 ⟨_, rfl, rfl, rfl⟩ cellsT9
  obtain ⟨_, q6⟩ := GN.fld Tryd.underlying44 g12 6 9 6 1 ⟨_, rfl, rfl, rfl⟩ cellsT9
  simp only [List.drop_zero, List.drop_succ_cons, List.take_succ_cons, List.take_zero] at q0 q1 q2 q3 q4 q5 q6
  obtain ⟨_, r0⟩ := GN.fld Tryd.underlying46 g13 0 3 0 1 ⟨_, rfl, rfl, rfl⟩ cellsT3
  obtain ⟨_, r1⟩ := GN.fld Tryd.underlying46 g13 1 9 1 1 ⟨_, rfl, rfl, rfl⟩ cellsT9
  obtain ⟨_, r2⟩ := GN.fld Tryd.underlying46 g13 2 3 2 1 ⟨_, rfl, rfl, rfl⟩ cellsT3
  simp only [List.drop_zero, List.drop_succ_cons, List.take_succ_cons, List.take_zero] at r0 r1 r2
  obtain ⟨aT, rfl, _⟩ := GN.int Tryd.underlying3 g0
  obtain ⟨kd, rfl, _⟩ := GN.int Tryd.underlying3 g1
  obtain ⟨nd, rfl, _⟩ := GN.int Tryd.underlying3 g2
  obtain ⟨ic, rfl, _⟩ := GN.int Tryd.underlying3 g3
  obtain ⟨ep, rfl, _⟩ := GN.int Tryd.underlying3 v0
  obtain ⟨ld, rfl, _⟩ := GN.int Tryd.underlying3 v1
  obtain ⟨ii, rfl, _⟩ := GN.int Tryd.underlying3 v2
  obtain ⟨ci, rfl, _⟩ := GN.int Tryd.underlying3 v3
  obtain ⟨Am, nm, cm, ms, rfl, hm1, hm2⟩ := GN.mems g5
  obtain ⟨At, nt, ct, ts, rfl, ht1, ht2⟩ := GN.intL g6
  obtain ⟨se, rfl, _⟩ := GN.int Tryd.underlying3 g7
  obtain ⟨sq, rfl, _⟩ := GN.int Tryd.underlying3 g8
  obtain ⟨po, rfl, _⟩ := GN.int Tryd.underlying3 g9
  obtain ⟨n, rfl, _⟩ := GN.int Tryd.underlying3 g10
  obtain ⟨Ab, nb, cb, bd, rfl, hb1, hb2, hb3⟩ := GN.bytes g11
  obtain ⟨cl, rfl, _⟩ := GN.int Tryd.underlying3 q0
  obtain ⟨cn, rfl, _⟩ := GN.int Tryd.underlying3 q1
  obtain ⟨rq, rfl, _⟩ := GN.int Tryd.underlying3 q2
  obtain ⟨op, rfl, _⟩ := GN.int Tryd.underlying3 q3
  obtain ⟨key, rfl, hkey⟩ := GN.str q4
  obtain ⟨val, rfl, hval⟩ := GN.str q5
  obtain ⟨old, rfl, hold⟩ := GN.str q6
  obtain ⟨co, rfl, _⟩ := GN.int Tryd.underlying3 r0
  obtain ⟨rv, rfl, hrv⟩ := GN.str r1
  obtain ⟨rn, rfl, _⟩ := GN.int Tryd.underlying3 r2
  obtain ⟨er, rfl, _⟩ := GN.int Tryd.underlying24 g14
  exact ⟨⟨aT, kd, nd, ic, ep, ld, ii, ci, Am, nm, cm, ms, At, nt, ct, ts, se, sq, po, n, Ab, nb, cb, bd, cl, cn, rq, op, key, val, old, co, rv, rn, er⟩, rfl, ⟨hm1, ht1, hb1, by show nm ≤ _; omega, by show nt ≤ _; omega, by show nb ≤ _; omega⟩, ⟨hm2, ht2, hb2, hb3, hkey, hval, hold, hrv⟩⟩
set_option maxRecDepth 100000 in
/-- A slice's elements, each with its bulk. -/
theorem GN.sliceS {t e : TypeId} {v : Value} {d : DataW H} (ht : Tryd.prog.underlying t = some (.slice e)) (hC : 0 < Tryd.prog.cellsOf e) (h : GN K enc W t [v] d) :
    v = .slice none 0 0 ∨
    ∃ (a : Addr) (len cap : Nat) (D : Nat → DataW H) (cs : Nat → List Value), v = .slice (some a) len cap ∧ len ≤ cap ∧ len ≤ K ∧ (0 < len → a.block < W.heap.size) ∧
      (∀ i, i < len → (cs i).length = Tryd.prog.cellsOf e ∧ (∀ j, j < Tryd.prog.cellsOf e → W.cell? (a.add (i * Tryd.prog.cellsOf e + j)) = (cs i)[j]?) ∧ GN (Rows.uptoBulk (D i)) enc W e (cs i) (D i)) ∧ ((List.range len).map fun i => Rows.uptoBulk (D i)).sum ≤ K := by
  obtain ⟨fuel, p, h, hlt, hwt⟩ := h
  rcases open_slice ht h with ⟨hcs, _⟩ | ⟨a, len, cap, m, n, D, Pl, hcs, _, hl, hm, hmm, hx, hi⟩
  · left; simpa using hcs
  · right
    simp only [if_true] at hmm
    subst hmm
    simp only [Prod.mk.injEq] at hx
    obtain ⟨rfl, rfl⟩ := hx
    rw [bulk_slice] at hwt
    have hlen := bulk_len ((List.range len).map D)
    rw [List.length_map, List.length_range] at hlen
    have hex : ∀ i, ∃ cs', i < len → cs'.length = Tryd.prog.cellsOf e ∧ (∀ j, j < Tryd.prog.cellsOf e → W.cell? (a.add (i * Tryd.prog.cellsOf e + j)) = cs'[j]?) ∧ GN (Rows.uptoBulk (D i)) enc W e cs' (D i) := by
      intro i
      by_cases hil : i < len
      · obtain ⟨cs', hc, ht'⟩ := hi i (by omega)
        obtain ⟨_, hcl, hat⟩ := World.cells?_some hc
        have hb : Rows.uptoBulk (D i) ≤ Rows.uptoBulkAll ((List.range len).map D) := bulk_part (List.mem_map.2 ⟨i, List.mem_range.2 hil, rfl⟩)
        refine ⟨cs', fun _ => ⟨hcl, fun j hj => by rw [← Go.Deep.add_add]; exact hat j hj, n, Pl i, ht', fun x hx => hlt x ?_, Nat.le_refl _⟩⟩
        exact List.mem_append_right _ (List.mem_flatMap.2 ⟨i, List.mem_range.2 (by omega), hx⟩)
      · exact ⟨[], fun h => absurd h hil⟩
    obtain ⟨cs, hcs'⟩ := Classical.axiomOfChoice hex
    have hsum := bulk_sum ((List.range len).map D)
    rw [List.map_map] at hsum
    refine ⟨a, len, m, D, cs, by simpa using hcs, hl, by omega, fun hn => ?_, hcs', ?_⟩
    rotate_left
    · show ((List.range len).map (Rows.uptoBulk ∘ D)).sum ≤ K
      omega
    have hb := hlt (.cell a.block (a.off + 0)) (List.mem_append_left _ (MemPlace.mem_row.2 ⟨0, Nat.mul_pos (by omega) hC, rfl⟩))
    exact hb
theorem mkB_range {len : Nat} {F : Nat → Nat} {f : Nat → Mk} (h : ∀ i, i < len → MkN (F i) (f i)) : MkB ((List.range len).map F) ((List.range len).map f) := by
  have : ∀ l : List Nat, (∀ i ∈ l, i < len) → MkB (l.map F) (l.map f) := by
    intro l
    induction l with
    | nil => intro _; exact .nil
    | cons a r ih => intro hl; exact .cons (h a (hl a List.mem_cons_self)) (ih fun i hi => hl i (List.mem_cons_of_mem _ hi))
  exact this _ fun i hi => by simpa using hi
/-- A list of marks, their bulks together. -/
theorem GN.marks {v : Value} {d : DataW H} (hK : K ≤ 1048576) (h : GN K enc W 22 [v] d) : ∃ (A : Option Addr) (n c : Nat) (l : List Mk) (bs : List Nat), v = .slice A n c ∧ MsIn W W.heap.size A n l ∧ n ≤ K ∧ MkB bs l ∧ bs.sum ≤ K := by
  rcases GN.sliceS Tryd.underlying22 (by rw [cellsT48]; omega) h with rfl | ⟨a, len, cap, D, cs, rfl, hl, hn, hb, hi, hsum⟩
  · exact ⟨none, 0, 0, [], [], rfl, ⟨⟨by simp [mkCells], fun h => absurd h (by simp)⟩, fun m hm => by cases hm⟩, by omega, .nil, by simp⟩
  · rw [cellsT48] at hi
    have hle : ∀ i, i < len → Rows.uptoBulk (D i) ≤ 1048576 := fun i hil => by
      have h1 := bulk_part (d := D i) (l := (List.range len).map D) (List.mem_map.2 ⟨i, List.mem_range.2 hil, rfl⟩)
      have h2 := bulk_sum ((List.range len).map D)
      rw [List.map_map] at h2
      have h3 : ((List.range len).map (Rows.uptoBulk ∘ D)).sum ≤ K := hsum
      omega
    have hex : ∀ i, ∃ m : Mk, i < len → cs i = m.cs.toList ∧ MkIn W W.heap.size m ∧ MkN (Rows.uptoBulk (D i)) m := by
      intro i
      by_cases hil : i < len
      · obtain ⟨hc1, _, hg⟩ := hi i hil
        obtain ⟨m, h1, h2, h3⟩ := GN.mark (hle i hil) hc1 hg
        exact ⟨m, fun _ => ⟨h1, h2, h3⟩⟩
      · exact ⟨⟨0, 0, 0, 0, 0, 0, 0, 0, none, 0, 0, [], none, 0, 0, [], 0, 0, 0, 0, none, 0, 0, [], 0, 0, 0, 0, ⟨#[]⟩, ⟨#[]⟩, ⟨#[]⟩, 0, ⟨#[]⟩, 0, 0⟩, fun h => absurd h hil⟩
    obtain ⟨f, hf⟩ := Classical.axiomOfChoice hex
    have hr := reads_elems (W := W) (C := 26) (a := a) (cs := cs) hb (fun i hi' => (hi i hi').1) (fun i hi' => (hi i hi').2.1)
    have e : mkCells ((List.range len).map f) = (List.range len).flatMap cs := by
      unfold mkCells
      rw [List.flatMap_map]
      exact flat_congr fun i hi' => (hf i (by simpa using hi')).1.symm
    refine ⟨some a, len, cap, (List.range len).map f, _, rfl, ⟨?_, fun m hm => ?_⟩, hn, mkB_range fun i hi' => (hf i hi').2.2, hsum⟩
    · rw [e]
      exact hr
    · obtain ⟨i, hi', rfl⟩ := List.mem_map.1 hm
      exact (hf i (by simpa using hi')).2.1
end
end Go.Proofs.YtenebkkfjalcaaaDoor
