/-
  The steps of a watch, opened as an argument.
-/
import Derived.Test.YteckffndboiknaaWatchL
import Derived.Test.YteckffndboiknaaOpen
namespace Go.Proofs.Yteckffndboiknaa
open Go.ChangeShapes Go.WideShapes Go.ChangeAt Go.RowKit Go.Deep Q

theorem cellsT103 : Try.prog.cellsOf 103 = 3 := by kernel_rfl
theorem cellsT65 : Try.prog.cellsOf 65 = 6 := by kernel_rfl
theorem cellsT63 : Try.prog.cellsOf 63 = 5 := by kernel_rfl
theorem cellsT61 : Try.prog.cellsOf 61 = 1 := by kernel_rfl
theorem cellsT60 : Try.prog.cellsOf 60 = 4 := by kernel_rfl
theorem cellsT3 : Try.prog.cellsOf 3 = 1 := by kernel_rfl
theorem bytesT103 : Try.prog.bytesOf 103 = 24 := by kernel_rfl
theorem bytesT65 : Try.prog.bytesOf 65 = 64 := by kernel_rfl

theorem list1 {α : Type} {l : List α} (h : l.length = 1) : ∃ a, l = [a] := by
  match l, h with
  | [a], _ => exact ⟨a, rfl⟩
theorem list6 {α : Type} {l : List α} (h : l.length = 6) : ∃ a b c d e f, l = [a, b, c, d, e, f] := by
  match l, h with
  | [a, b, c, d, e, f], _ => exact ⟨a, b, c, d, e, f, rfl⟩

section
variable {H : Type} {enc : TypeId × Value → H} {W : World}
theorem Got.ms {v : Value} {d : DataW H} (h : Got enc Try.prog W 61 [v] d) :
    ∃ (A : Option Addr) (n c : Nat) (l : List (Int × Int × Int)), v = .slice A n c ∧ n ≤ c ∧ RS W W.heap.size A n l ∧ n * 24 ≤ 140737488351232 := by
  rcases Got.slice Try.underlying61 (by rw [cellsT103]; omega) h with rfl | ⟨a, len, cap, D, cs, rfl, hl, _, hcap, hb, hi⟩
  · exact ⟨none, 0, 0, [], rfl, Nat.le_refl _, ⟨by simp [sts], fun h => absurd h (by omega)⟩, by omega⟩
  · rw [cellsT103] at hi
    rw [bytesT103] at hcap
    have hex : ∀ i, ∃ x : Int × Int × Int, i < len → cs i = [.int .i64 x.1, .int .i64 x.2.1, .int .i64 x.2.2] := by
      intro i
      by_cases hil : i < len
      · obtain ⟨hc3, _, hg⟩ := hi i hil
        obtain ⟨c0, c1, c2, e⟩ := list3 hc3
        rw [e] at hg
        obtain ⟨_, g0⟩ := Got.fld Try.underlying103 hg 0 3 0 1 ⟨_, rfl, rfl, rfl⟩ cellsT3
        obtain ⟨_, g1⟩ := Got.fld Try.underlying103 hg 1 3 1 1 ⟨_, rfl, rfl, rfl⟩ cellsT3
        obtain ⟨_, g2⟩ := Got.fld Try.underlying103 hg 2 3 2 1 ⟨_, rfl, rfl, rfl⟩ cellsT3
        simp only [List.drop_zero, List.drop_succ_cons, List.take_succ_cons, List.take_zero] at g0 g1 g2
        obtain ⟨x0, rfl, _⟩ := Got.int Try.underlying3 g0
        obtain ⟨x1, rfl, _⟩ := Got.int Try.underlying3 g1
        obtain ⟨x2, rfl, _⟩ := Got.int Try.underlying3 g2
        exact ⟨(x0, x1, x2), fun _ => e⟩
      · exact ⟨(0, 0, 0), fun h => absurd h hil⟩
    obtain ⟨f, hf⟩ := Classical.axiomOfChoice hex
    have hr := reads_elems (W := W) (C := 3) (a := a) (cs := cs) hb (fun i hi' => (hi i hi').1) (fun i hi' => (hi i hi').2.1)
    refine ⟨some a, len, cap, (List.range len).map f, rfl, hl, ?_, by omega⟩
    have e : sts ((List.range len).map f) = (List.range len).flatMap cs := by
      unfold sts
      rw [List.flatMap_map]
      exact flat_congr fun i hi' => (hf i (by simpa using hi')).symm
    show Reads _ _ _ _ _ _
    rw [e]
    exact hr

theorem Got.op {cs : List Value} {d : DataW H} (hl : cs.length = 6) (h : Got enc Try.prog W 65 cs d) :
    ∃ o : Oe, cs = o.cells ∧ RS W W.heap.size o.e.A o.e.v.ms.length o.e.v.ms ∧ o.e.v.ms.length * 24 ≤ 140737488351232 := by
  obtain ⟨c0, c1, c2, c3, c4, c5, rfl⟩ := list6 hl
  obtain ⟨_, g0⟩ := Got.fld Try.underlying65 h 0 3 0 1 ⟨_, rfl, rfl, rfl⟩ cellsT3
  obtain ⟨_, g1⟩ := Got.fld Try.underlying65 h 1 63 1 5 ⟨_, rfl, rfl, rfl⟩ cellsT63
  simp only [List.drop_zero, List.drop_succ_cons, List.take_succ_cons, List.take_zero] at g0 g1
  obtain ⟨x0, rfl, _⟩ := Got.int Try.underlying3 g0
  obtain ⟨_, v0⟩ := Got.fld Try.underlying63 g1 0 60 0 4 ⟨_, rfl, rfl, rfl⟩ cellsT60
  obtain ⟨_, v1⟩ := Got.fld Try.underlying63 g1 1 61 4 1 ⟨_, rfl, rfl, rfl⟩ cellsT61
  simp only [List.drop_zero, List.drop_succ_cons, List.take_succ_cons, List.take_zero] at v0 v1
  obtain ⟨_, i0⟩ := Got.fld Try.underlying60 v0 0 3 0 1 ⟨_, rfl, rfl, rfl⟩ cellsT3
  obtain ⟨_, i1⟩ := Got.fld Try.underlying60 v0 1 3 1 1 ⟨_, rfl, rfl, rfl⟩ cellsT3
  obtain ⟨_, i2⟩ := Got.fld Try.underlying60 v0 2 3 2 1 ⟨_, rfl, rfl, rfl⟩ cellsT3
  obtain ⟨_, i3⟩ := Got.fld Try.underlying60 v0 3 3 3 1 ⟨_, rfl, rfl, rfl⟩ cellsT3
  simp only [List.drop_zero, List.drop_succ_cons, List.take_succ_cons, List.take_zero] at i0 i1 i2 i3
  obtain ⟨y0, rfl, _⟩ := Got.int Try.underlying3 i0
  obtain ⟨y1, rfl, _⟩ := Got.int Try.underlying3 i1
  obtain ⟨y2, rfl, _⟩ := Got.int Try.underlying3 i2
  obtain ⟨y3, rfl, _⟩ := Got.int Try.underlying3 i3
  obtain ⟨A, n, c, l, rfl, _, hr, hn⟩ := Got.ms v1
  have hll := hr.len
  subst hll
  exact ⟨⟨x0, ⟨⟨y0, y1, y2, y3, l⟩, A, c⟩⟩, rfl, hr, hn⟩

theorem Got.ops {v : Value} {d : DataW H} (h : Got enc Try.prog W 51 [v] d) :
    ∃ (A : Option Addr) (n c : Nat) (l : List Oe), v = .slice A n c ∧ n ≤ c ∧ OpsIn W W.heap.size A n l ∧ n * 64 ≤ 140737488351232 := by
  rcases Got.slice Try.underlying51 (by rw [cellsT65]; omega) h with rfl | ⟨a, len, cap, D, cs, rfl, hl, _, hcap, hb, hi⟩
  · exact ⟨none, 0, 0, [], rfl, Nat.le_refl _, ⟨⟨by simp [ocells], fun h => absurd h (by omega)⟩, fun o ho => by cases ho⟩, by omega⟩
  · rw [cellsT65] at hi
    rw [bytesT65] at hcap
    have hex : ∀ i, ∃ o : Oe, i < len → cs i = o.cells ∧ RS W W.heap.size o.e.A o.e.v.ms.length o.e.v.ms ∧ o.e.v.ms.length * 24 ≤ 140737488351232 := by
      intro i
      by_cases hil : i < len
      · obtain ⟨hc6, _, hg⟩ := hi i hil
        obtain ⟨o, ho⟩ := Got.op hc6 hg
        exact ⟨o, fun _ => ho⟩
      · exact ⟨⟨0, ⟨⟨0, 0, 0, 0, []⟩, none, 0⟩⟩, fun h => absurd h hil⟩
    obtain ⟨f, hf⟩ := Classical.axiomOfChoice hex
    have hr := reads_elems (W := W) (C := 6) (a := a) (cs := cs) hb (fun i hi' => (hi i hi').1) (fun i hi' => (hi i hi').2.1)
    refine ⟨some a, len, cap, (List.range len).map f, rfl, hl, ⟨?_, fun o ho => ?_⟩, by omega⟩
    · have e : ocells ((List.range len).map f) = (List.range len).flatMap cs := by
        unfold ocells
        rw [List.flatMap_map]
        exact flat_congr fun i hi' => (hf i (by simpa using hi')).1.symm
      rw [e]
      exact hr
    · obtain ⟨i, hi', rfl⟩ := List.mem_map.1 ho
      exact (hf i (by simpa using hi')).2
end
end Go.Proofs.Yteckffndboiknaa
