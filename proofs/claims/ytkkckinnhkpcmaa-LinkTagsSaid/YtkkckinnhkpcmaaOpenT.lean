/-
  A script opened as an argument: bytes, acts, a talk.
-/
import Derived.Test.YtkkckinnhkpcmaaActs
import Derived.Test.YtkkckinnhkpcmaaOpen
set_option linter.unusedVariables false
namespace Go.Proofs.Ytkkckinnhkpcmaa
open Go.ChangeShapes Go.WideShapes Go.ChangeAt Go.RowKit Go.Deep Q

theorem cellsT3 : Try.prog.cellsOf 3 = 1 := by kernel_rfl
theorem cellsT5 : Try.prog.cellsOf 5 = 1 := by kernel_rfl
theorem cellsT28 : Try.prog.cellsOf 28 = 1 := by kernel_rfl
theorem cellsT25 : Try.prog.cellsOf 25 = 1 := by kernel_rfl
theorem cellsT27 : Try.prog.cellsOf 27 = 4 := by kernel_rfl
theorem cellsT30 : Try.prog.cellsOf 30 = 10 := by kernel_rfl
theorem cellsT52 : Try.prog.cellsOf 52 = 4 := by kernel_rfl
theorem bytesT5 : Try.prog.bytesOf 5 = 1 := by kernel_rfl
theorem bytesT52 : Try.prog.bytesOf 52 = 48 := by kernel_rfl
theorem list1 {α : Type} {l : List α} (h : l.length = 1) : ∃ a, l = [a] := by
  match l, h with
  | [a], _ => exact ⟨a, rfl⟩
theorem list10 {α : Type} {l : List α} (h : l.length = 10) : ∃ a b c d e f g i j k, l = [a, b, c, d, e, f, g, i, j, k] := by
  match l, h with
  | [a, b, c, d, e, f, g, i, j, k], _ => exact ⟨a, b, c, d, e, f, g, i, j, k, rfl⟩
theorem flat_one {α β : Type} (g : α → β) (l : List α) : (l.flatMap fun i => [g i]) = l.map g := by
  induction l with
  | nil => rfl
  | cons a r ih => simp only [List.flatMap_cons, List.map_cons, ih]; rfl
section
variable {H : Type} {enc : TypeId × Value → H} {W : World}
theorem Got.byte {v : Value} {d : DataW H} (h : Got enc Try.prog W 5 [v] d) : ∃ x : Int, v = .int .u8 x := by
  obtain ⟨fuel, p, h, _, _⟩ := h
  obtain ⟨a, e0, _, _⟩ := DataW.trod_int Try.underlying5 h
  simp at e0
  exact ⟨a, e0⟩
theorem Got.bytes {v : Value} {d : DataW H} (h : Got enc Try.prog W 28 [v] d) :
    ∃ (A : Option Addr) (c : Nat) (bs : List Int), v = .slice A bs.length c ∧ bs.length ≤ c ∧ Reads W W.heap.size 1 A bs.length (byts bs) ∧ c ≤ 140737488351232 := by
  rcases Got.slice Try.underlying28 (by rw [cellsT5]; omega) h with rfl | ⟨a, len, cap, D, cs, rfl, hl, _, hcap, hb, hi⟩
  · exact ⟨none, 0, [], rfl, Nat.le_refl _, ⟨by simp [byts], fun h => absurd h (by simp)⟩, by omega⟩
  · rw [cellsT5] at hi
    rw [bytesT5] at hcap
    have hex : ∀ i, ∃ x : Int, i < len → cs i = [.int .u8 x] := by
      intro i
      by_cases hil : i < len
      · obtain ⟨hc1, _, hg⟩ := hi i hil
        obtain ⟨c0, e⟩ := list1 hc1
        rw [e] at hg
        obtain ⟨x, rfl⟩ := Got.byte hg
        exact ⟨x, fun _ => e⟩
      · exact ⟨0, fun h => absurd h hil⟩
    obtain ⟨f, hf⟩ := Classical.axiomOfChoice hex
    have hr := reads_elems (W := W) (C := 1) (a := a) (cs := cs) hb (fun i hi' => (hi i hi').1) (fun i hi' => (hi i hi').2.1)
    have e : byts ((List.range len).map f) = (List.range len).flatMap cs := by
      unfold byts
      rw [List.map_map]
      have : (List.range len).flatMap cs = (List.range len).flatMap fun i => [Value.int .u8 (f i)] := flat_congr fun i hi' => hf i (by simpa using hi')
      rw [this, flat_one]
      rfl
    refine ⟨some a, cap, (List.range len).map f, by simp, by simpa using hl, ?_, by omega⟩
    rw [e]
    simpa using hr
theorem Got.act {cs : List Value} {d : DataW H} (hl : cs.length = 4) (h : Got enc Try.prog W 52 cs d) : ∃ x : Ai, cs = x.cells ∧ x.Good W := by
  obtain ⟨c0, c1, c2, c3, rfl⟩ := list4 hl
  obtain ⟨_, g0⟩ := Got.fld Try.underlying52 h 0 3 0 1 ⟨_, rfl, rfl, rfl⟩ cellsT3
  obtain ⟨_, g1⟩ := Got.fld Try.underlying52 h 1 3 1 1 ⟨_, rfl, rfl, rfl⟩ cellsT3
  obtain ⟨_, g2⟩ := Got.fld Try.underlying52 h 2 3 2 1 ⟨_, rfl, rfl, rfl⟩ cellsT3
  obtain ⟨_, g3⟩ := Got.fld Try.underlying52 h 3 28 3 1 ⟨_, rfl, rfl, rfl⟩ cellsT28
  simp only [List.drop_zero, List.drop_succ_cons, List.take_succ_cons, List.take_zero] at g0 g1 g2 g3
  obtain ⟨x0, rfl, a0, b0⟩ := Got.int Try.underlying3 g0
  obtain ⟨x1, rfl, _⟩ := Got.int Try.underlying3 g1
  obtain ⟨x2, rfl, a2, b2⟩ := Got.int Try.underlying3 g2
  obtain ⟨A, c, bs, rfl, h1, h2, h3⟩ := Got.bytes g3
  exact ⟨⟨⟨x0, x1, x2, bs⟩, A, c⟩, rfl, ⟨h2, h1, h3, a0, b0, a2, b2⟩⟩
theorem Got.acts {v : Value} {d : DataW H} (h : Got enc Try.prog W 25 [v] d) : ∃ (A : Option Addr) (c : Nat) (l : List Ai), v = .slice A l.length c ∧ l.length ≤ c ∧ ActsIn W A l ∧ l.length ≤ 140737488351232 := by
  rcases Got.slice Try.underlying25 (by rw [cellsT52]; omega) h with rfl | ⟨a, len, cap, D, cs, rfl, hl, _, hcap, hb, hi⟩
  · exact ⟨none, 0, [], rfl, Nat.le_refl _, ⟨⟨by simp [acells], fun h => absurd h (by simp)⟩, fun x hx => by cases hx⟩, by simp⟩
  · rw [cellsT52] at hi
    rw [bytesT52] at hcap
    have hex : ∀ i, ∃ x : Ai, i < len → cs i = x.cells ∧ x.Good W := by
      intro i
      by_cases hil : i < len
      · obtain ⟨hc1, _, hg⟩ := hi i hil
        obtain ⟨x, h1, h2⟩ := Got.act hc1 hg
        exact ⟨x, fun _ => ⟨h1, h2⟩⟩
      · exact ⟨⟨⟨0, 0, 0, []⟩, none, 0⟩, fun h => absurd h hil⟩
    obtain ⟨f, hf⟩ := Classical.axiomOfChoice hex
    have hr := reads_elems (W := W) (C := 4) (a := a) (cs := cs) hb (fun i hi' => (hi i hi').1) (fun i hi' => (hi i hi').2.1)
    have e : acells ((List.range len).map f) = (List.range len).flatMap cs := by
      unfold acells
      rw [List.flatMap_map]
      exact flat_congr fun i hi' => (hf i (by simpa using hi')).1.symm
    refine ⟨some a, cap, (List.range len).map f, by simp, by simpa using hl, ⟨?_, fun x hx => ?_⟩, by simp; omega⟩
    · rw [e]
      simpa using hr
    · obtain ⟨i, hi', rfl⟩ := List.mem_map.1 hx
      exact (hf i (by simpa using hi')).2
end
end Go.Proofs.Ytkkckinnhkpcmaa
