/-
  A case opened as an argument: strings, bytes, events, a script, a set.
-/
import Derived.Test.YtkcjfiifajjpiaaOpen
import Derived.Test.YtkcjfiifajjpiaaEvs
set_option linter.unusedVariables false
namespace Go.Proofs.Ytkcjfiifajjpiaa
open Go.ChangeShapes Go.WideShapes Go.ChangeAt Go.RowKit Go.Deep Q

theorem cellsT3 : Try.prog.cellsOf 3 = 1 := by kernel_rfl
theorem cellsT5 : Try.prog.cellsOf 5 = 1 := by kernel_rfl
theorem cellsT9 : Try.prog.cellsOf 9 = 1 := by kernel_rfl
theorem cellsT22 : Try.prog.cellsOf 22 = 1 := by kernel_rfl
theorem cellsT24 : Try.prog.cellsOf 24 = 8 := by kernel_rfl
theorem cellsT31 : Try.prog.cellsOf 31 = 1 := by kernel_rfl
theorem cellsT33 : Try.prog.cellsOf 33 = 9 := by kernel_rfl
theorem cellsT35 : Try.prog.cellsOf 35 = 10 := by kernel_rfl
theorem cellsT41 : Try.prog.cellsOf 41 = 1 := by kernel_rfl
theorem cellsT43 : Try.prog.cellsOf 43 = 7 := by kernel_rfl
theorem cellsT45 : Try.prog.cellsOf 45 = 13 := by kernel_rfl
theorem bytesT3 : Try.prog.bytesOf 3 = 8 := by kernel_rfl
theorem bytesT5 : Try.prog.bytesOf 5 = 1 := by kernel_rfl
theorem bytesT45 : Try.prog.bytesOf 45 = 160 := by kernel_rfl
theorem list1 {α : Type} {l : List α} (h : l.length = 1) : ∃ a, l = [a] := by
  match l, h with
  | [a], _ => exact ⟨a, rfl⟩
theorem list10 {α : Type} {l : List α} (h : l.length = 10) : ∃ a b c d e f g i j k, l = [a, b, c, d, e, f, g, i, j, k] := by
  match l, h with
  | [a, b, c, d, e, f, g, i, j, k], _ => exact ⟨a, b, c, d, e, f, g, i, j, k, rfl⟩
theorem list13 {α : Type} {l : List α} (h : l.length = 13) : ∃ a b c d e f g i j k m n o, l = [a, b, c, d, e, f, g, i, j, k, m, n, o] := by
  match l, h with
  | [a, b, c, d, e, f, g, i, j, k, m, n, o], _ => exact ⟨a, b, c, d, e, f, g, i, j, k, m, n, o, rfl⟩
theorem flat_one {α β : Type} (g : α → β) (l : List α) : (l.flatMap fun i => [g i]) = l.map g := by
  induction l with
  | nil => rfl
  | cons a r ih => simp only [List.flatMap_cons, List.map_cons, ih]; rfl
section
variable {H : Type} {enc : TypeId × Value → H} {W : World}
theorem Got.byte {v : Value} {d : DataW H} (h : Got enc Try.prog W 5 [v] d) : ∃ x : Int, v = .int .u8 x := by
  obtain ⟨fuel, p, h, _, _⟩ := h
  obtain ⟨a, e0, _, _⟩ := DataW.trod_int Try.underlying5 h
  simp at e0
  exact ⟨a, e0⟩
theorem Got.str {v : Value} {d : DataW H} (h : Got enc Try.prog W 9 [v] d) : ∃ s : ByteArray, v = .string s := by
  obtain ⟨fuel, p, h, _, _⟩ := h
  obtain ⟨a, e0, _, _⟩ := DataW.trod_string Try.underlying9 h
  simp at e0
  exact ⟨a, e0⟩
theorem Got.bytes {v : Value} {d : DataW H} (h : Got enc Try.prog W 41 [v] d) :
    ∃ (A : Option Addr) (c : Nat) (bs : List Int), v = .slice A bs.length c ∧ bs.length ≤ c ∧ Reads W W.heap.size 1 A bs.length (byts bs) ∧ c ≤ 140737488351232 := by
  rcases Got.slice Try.underlying41 (by rw [cellsT5]; omega) h with rfl | ⟨a, len, cap, D, cs, rfl, hl, _, hcap, hb, hi⟩
  · exact ⟨none, 0, [], rfl, Nat.le_refl _, ⟨by simp [byts], fun h => absurd h (by simp)⟩, by omega⟩
  · rw [cellsT5] at hi
    rw [bytesT5] at hcap
    have hex : ∀ i, ∃ x : Int, i < len → cs i = [.int .u8 x] := by
      intro i
      by_cases hil : i < len
      · obtain ⟨hc1, _, hg⟩ := hi i hil
        obtain ⟨c0, e⟩ := list1 hc1
        rw [e] at hg
        obtain ⟨x, rfl⟩ := Got.byte hg
        exact ⟨x, fun _ => e⟩
      · exact ⟨0, fun h => absurd h hil⟩
    obtain ⟨f, hf⟩ := Classical.axiomOfChoice hex
    have hr := reads_elems (W := W) (C := 1) (a := a) (cs := cs) hb (fun i hi' => (hi i hi').1) (fun i hi' => (hi i hi').2.1)
    have e : byts ((List.range len).map f) = (List.range len).flatMap cs := by
      unfold byts
      rw [List.map_map]
      have : (List.range len).flatMap cs = (List.range len).flatMap fun i => [Value.int .u8 (f i)] := flat_congr fun i hi' => hf i (by simpa using hi')
      rw [this, flat_one]
      rfl
    refine ⟨some a, cap, (List.range len).map f, by simp, by simpa using hl, ?_, by omega⟩
    rw [e]
    simpa using hr
theorem Got.nums {v : Value} {d : DataW H} (h : Got enc Try.prog W 22 [v] d) : ∃ (A : Option Addr) (c : Nat) (vs : List Int), v = .slice A vs.length c ∧ RI W W.heap.size A vs.length vs ∧ vs.length * 8 ≤ 140737488351232 := by
  obtain ⟨A, n, c, vs, rfl, hr, hn, hc, _⟩ := Got.ints Try.underlying22 Try.underlying3 cellsT3 bytesT3 h
  obtain rfl := hr.len
  exact ⟨A, c, vs, rfl, hr, by omega⟩
theorem Got.ev {cs : List Value} {d : DataW H} (hl : cs.length = 13) (h : Got enc Try.prog W 45 cs d) : ∃ x : El, cs = x.cells ∧ x.Good W W.heap.size ∧ x.zs.length * 8 ≤ 140737488351232 := by
  obtain ⟨c0, c1, c2, c3, c4, c5, c6, c7, c8, c9, c10, c11, c12, rfl⟩ := list13 hl
  obtain ⟨_, g0⟩ := Got.fld Try.underlying45 h 0 3 0 1 ⟨_, rfl, rfl, rfl⟩ cellsT3
  obtain ⟨_, g1⟩ := Got.fld Try.underlying45 h 1 3 1 1 ⟨_, rfl, rfl, rfl⟩ cellsT3
  obtain ⟨_, g2⟩ := Got.fld Try.underlying45 h 2 3 2 1 ⟨_, rfl, rfl, rfl⟩ cellsT3
  obtain ⟨_, g3⟩ := Got.fld Try.underlying45 h 3 3 3 1 ⟨_, rfl, rfl, rfl⟩ cellsT3
  obtain ⟨_, g4⟩ := Got.fld Try.underlying45 h 4 41 4 1 ⟨_, rfl, rfl, rfl⟩ cellsT41
  obtain ⟨_, g5⟩ := Got.fld Try.underlying45 h 5 43 5 7 ⟨_, rfl, rfl, rfl⟩ cellsT43
  obtain ⟨_, g6⟩ := Got.fld Try.underlying45 h 6 22 12 1 ⟨_, rfl, rfl, rfl⟩ cellsT22
  simp only [List.drop_zero, List.drop_succ_cons, List.take_succ_cons, List.take_zero] at g0 g1 g2 g3 g4 g5 g6
  obtain ⟨_, i0⟩ := Got.fld Try.underlying43 g5 0 3 0 1 ⟨_, rfl, rfl, rfl⟩ cellsT3
  obtain ⟨_, i1⟩ := Got.fld Try.underlying43 g5 1 3 1 1 ⟨_, rfl, rfl, rfl⟩ cellsT3
  obtain ⟨_, i2⟩ := Got.fld Try.underlying43 g5 2 3 2 1 ⟨_, rfl, rfl, rfl⟩ cellsT3
  obtain ⟨_, i3⟩ := Got.fld Try.underlying43 g5 3 3 3 1 ⟨_, rfl, rfl, rfl⟩ cellsT3
  obtain ⟨_, i4⟩ := Got.fld Try.underlying43 g5 4 9 4 1 ⟨_, rfl, rfl, rfl⟩ cellsT9
  obtain ⟨_, i5⟩ := Got.fld Try.underlying43 g5 5 9 5 1 ⟨_, rfl, rfl, rfl⟩ cellsT9
  obtain ⟨_, i6⟩ := Got.fld Try.underlying43 g5 6 9 6 1 ⟨_, rfl, rfl, rfl⟩ cellsT9
  simp only [List.drop_zero, List.drop_succ_cons, List.take_succ_cons, List.take_zero] at i0 i1 i2 i3 i4 i5 i6
  obtain ⟨x0, rfl, _⟩ := Got.int Try.underlying3 g0
  obtain ⟨x1, rfl, _⟩ := Got.int Try.underlying3 g1
  obtain ⟨x2, rfl, _⟩ := Got.int Try.underlying3 g2
  obtain ⟨x3, rfl, _⟩ := Got.int Try.underlying3 g3
  obtain ⟨A, c, bs, rfl, h1, h2, h3⟩ := Got.bytes g4
  obtain ⟨y0, rfl, _⟩ := Got.int Try.underlying3 i0
  obtain ⟨y1, rfl, _⟩ := Got.int Try.underlying3 i1
  obtain ⟨y2, rfl, _⟩ := Got.int Try.underlying3 i2
  obtain ⟨y3, rfl, _⟩ := Got.int Try.underlying3 i3
  obtain ⟨s0, rfl⟩ := Got.str i4
  obtain ⟨s1, rfl⟩ := Got.str i5
  obtain ⟨s2, rfl⟩ := Got.str i6
  obtain ⟨A2, c2, zs, rfl, h4, h5⟩ := Got.nums g6
  exact ⟨⟨x0, x1, x2, x3, A, c, bs, y0, y1, y2, y3, s0, s1, s2, A2, c2, zs⟩, rfl, ⟨h4, by show zs.length ≤ _; omega, h2, by show bs.length ≤ _; omega⟩, h5⟩
theorem Got.evs {v : Value} {d : DataW H} (h : Got enc Try.prog W 31 [v] d) : ∃ (A : Option Addr) (c : Nat) (l : List El), v = .slice A l.length c ∧ EvsIn W W.heap.size A l ∧ l.length * 160 ≤ 140737488351232 ∧ ∀ x ∈ l, x.zs.length * 8 ≤ 140737488351232 := by
  rcases Got.slice Try.underlying31 (by rw [cellsT45]; omega) h with rfl | ⟨a, len, cap, D, cs, rfl, hl, _, hcap, hb, hi⟩
  · exact ⟨none, 0, [], rfl, ⟨⟨rfl, fun h => absurd h (by simp)⟩, fun x hx => by cases hx⟩, by simp, fun x hx => by cases hx⟩
  · rw [cellsT45] at hi
    rw [bytesT45] at hcap
    have hex : ∀ i, ∃ x : El, i < len → cs i = x.cells ∧ x.Good W W.heap.size ∧ x.zs.length * 8 ≤ 140737488351232 := by
      intro i
      by_cases hil : i < len
      · obtain ⟨hc1, _, hg⟩ := hi i hil
        obtain ⟨x, h1, h2⟩ := Got.ev hc1 hg
        exact ⟨x, fun _ => ⟨h1, h2⟩⟩
      · exact ⟨El.mk 0 0 0 0 none 0 [] 0 0 0 0 ⟨#[]⟩ ⟨#[]⟩ ⟨#[]⟩ none 0 [], fun h => absurd h hil⟩
    obtain ⟨f, hf⟩ := Classical.axiomOfChoice hex
    have hr := reads_elems (W := W) (C := 13) (a := a) (cs := cs) hb (fun i hi' => (hi i hi').1) (fun i hi' => (hi i hi').2.1)
    have e : ecells ((List.range len).map f) = (List.range len).flatMap cs := by
      unfold ecells
      rw [List.flatMap_map]
      exact flat_congr fun i hi' => (hf i (by simpa using hi')).1.symm
    refine ⟨some a, cap, (List.range len).map f, by simp, ⟨?_, fun x hx => ?_⟩, by simp; omega, fun x hx => ?_⟩
    · rw [e]
      simpa using hr
    · obtain ⟨i, hi', rfl⟩ := List.mem_map.1 hx
      exact (hf i (by simpa using hi')).2.1
    · obtain ⟨i, hi', rfl⟩ := List.mem_map.1 hx
      exact (hf i (by simpa using hi')).2.2

/-- A case that came in. -/
theorem open_case {v0 : Value} {d0 : DataW H} (hv : Value.okWide Try.prog W .any 0 35 v0) (hG : Got enc Try.prog W 35 v0.cells.toList d0) :
    ∃ (a0 a1 a2 a3 a4 a5 a6 : Int) (vs : List Int) (l : List El) (V E Z : Option Addr) (k f kz : Nat) (set : List Int), v0 = .agg #[.int .i64 a0, .int .i64 a1, .int .i64 a2, .int .i64 a3, .int .i64 a4, .int .i64 a5, .int .i64 a6, .slice V vs.length k, .slice E l.length f, .slice Z set.length kz] ∧
      RI W W.heap.size V vs.length vs ∧ EvsIn W W.heap.size E l ∧ RI W W.heap.size Z set.length set ∧ vs.length * 8 ≤ 140737488351232 ∧ l.length * 160 ≤ 140737488351232 ∧ set.length * 8 ≤ 140737488351232 ∧ ∀ x ∈ l, x.zs.length * 8 ≤ 140737488351232 := by
  obtain ⟨cs, rfl, hcs⟩ := okWide_struct Try.underlying35 hv
  obtain ⟨l⟩ := cs
  obtain ⟨a0, a1, a2, a3, a4, a5, a6, a7, a8, a9, rfl⟩ := list10 (l := l) (by simpa using hcs.trans cellsT35)
  simp only [Value.cells] at hG
  obtain ⟨_, g0⟩ := Got.fld Try.underlying35 hG 0 33 0 9 ⟨_, rfl, rfl, rfl⟩ cellsT33
  obtain ⟨_, g1⟩ := Got.fld Try.underlying35 hG 1 22 9 1 ⟨_, rfl, rfl, rfl⟩ cellsT22
  simp only [List.drop_zero, List.drop_succ_cons, List.take_succ_cons, List.take_zero] at g0 g1
  obtain ⟨_, h0⟩ := Got.fld Try.underlying33 g0 0 24 0 8 ⟨_, rfl, rfl, rfl⟩ cellsT24
  obtain ⟨_, h1⟩ := Got.fld Try.underlying33 g0 1 31 8 1 ⟨_, rfl, rfl, rfl⟩ cellsT31
  simp only [List.drop_zero, List.drop_succ_cons, List.take_succ_cons, List.take_zero] at h0 h1
  obtain ⟨_, i0⟩ := Got.fld Try.underlying24 h0 0 3 0 1 ⟨_, rfl, rfl, rfl⟩ cellsT3
  obtain ⟨_, i1⟩ := Got.fld Try.underlying24 h0 1 3 1 1 ⟨_, rfl, rfl, rfl⟩ cellsT3
  obtain ⟨_, i2⟩ := Got.fld Try.underlying24 h0 2 3 2 1 ⟨_, rfl, rfl, rfl⟩ cellsT3
  obtain ⟨_, i3⟩ := Got.fld Try.underlying24 h0 3 3 3 1 ⟨_, rfl, rfl, rfl⟩ cellsT3
  obtain ⟨_, i4⟩ := Got.fld Try.underlying24 h0 4 3 4 1 ⟨_, rfl, rfl, rfl⟩ cellsT3
  obtain ⟨_, i5⟩ := Got.fld Try.underlying24 h0 5 3 5 1 ⟨_, rfl, rfl, rfl⟩ cellsT3
  obtain ⟨_, i6⟩ := Got.fld Try.underlying24 h0 6 3 6 1 ⟨_, rfl, rfl, rfl⟩ cellsT3
  obtain ⟨_, i7⟩ := Got.fld Try.underlying24 h0 7 22 7 1 ⟨_, rfl, rfl, rfl⟩ cellsT22
  simp only [List.drop_zero, List.drop_succ_cons, List.take_succ_cons, List.take_zero] at i0 i1 i2 i3 i4 i5 i6 i7
  obtain ⟨x0, rfl, _⟩ := Got.int Try.underlying3 i0
  obtain ⟨x1, rfl, _⟩ := Got.int Try.underlying3 i1
  obtain ⟨x2, rfl, _⟩ := Got.int Try.underlying3 i2
  obtain ⟨x3, rfl, _⟩ := Got.int Try.underlying3 i3
  obtain ⟨x4, rfl, _⟩ := Got.int Try.underlying3 i4
  obtain ⟨x5, rfl, _⟩ := Got.int Try.underlying3 i5
  obtain ⟨x6, rfl, _⟩ := Got.int Try.underlying3 i6
  obtain ⟨V, k, vs, rfl, hv1, hv2⟩ := Got.nums i7
  obtain ⟨E, f, l, rfl, he1, he2, he3⟩ := Got.evs h1
  obtain ⟨Z, kz, set, rfl, hz1, hz2⟩ := Got.nums g1
  exact ⟨x0, x1, x2, x3, x4, x5, x6, vs, l, V, E, Z, k, f, kz, set, rfl, hv1, he1, hz1, hv2, he2, hz2, he3⟩
end
end Go.Proofs.Ytkcjfiifajjpiaa
