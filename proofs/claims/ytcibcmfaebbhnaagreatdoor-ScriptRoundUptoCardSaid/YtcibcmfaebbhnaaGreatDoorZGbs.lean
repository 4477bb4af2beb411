/-
  An argument opened, of little bulk: a script.
-/
import Derived.Test.YtcibcmfaebbhnaaGreatDoorZGbe
import Derived.Test.YtcibcmfaebbhnaaGreatDoorZSms
set_option linter.unusedVariables false
set_option linter.unusedSimpArgs false
namespace Go.Proofs.YtcibcmfaebbhnaaGreatDoor
open Go.ChangeShapes Go.WideShapes Go.ChangeAt Go.RowKit Go.Deep Q
section
variable {H : Type} {enc : TypeId × Value → H} {W : World}
theorem cellsCf : Tryz.prog.cellsOf 24 = 8 := by kernel_rfl
theorem cellsEs : Tryz.prog.cellsOf 25 = 1 := by kernel_rfl
theorem cellsSc : Tryz.prog.cellsOf 27 = 9 := by kernel_rfl
theorem list9 {α : Type} {l : List α} (h : l.length = 9) : ∃ c0 c1 c2 c3 c4 c5 c6 c7 c8, l = [c0, c1, c2, c3, c4, c5, c6, c7, c8] := by
  match l, h with
  | [c0, c1, c2, c3, c4, c5, c6, c7, c8], _ => exact ⟨c0, c1, c2, c3, c4, c5, c6, c7, c8, rfl⟩
/-- A list of events. -/
theorem GB.events {v : Value} {d : DataW H} (h : GB enc W 25 [v] d) :
    ∃ (A : Option Addr) (n c : Nat) (ms : List Em), v = .slice A n c ∧ Reads W W.heap.size 13 A n (emCells ms) ∧ n ≤ 1048576 ∧ ms.length = n ∧ ∀ m ∈ ms, EmIn W W.heap.size m ∧ EvOk m := by
  rcases GB.slice Tryz.underlying25 (by rw [cellsEv]; omega) h with rfl | ⟨a, len, cap, D, cs, rfl, hl, hn, hb, hi⟩
  · exact ⟨none, 0, 0, [], rfl, ⟨by simp [emCells], fun h => absurd h (by simp)⟩, by omega, rfl, fun m hm => by cases hm⟩
  · rw [cellsEv] at hi
    have hex : ∀ i, ∃ m : Em, i < len → cs i = m.cs.toList ∧ EmIn W W.heap.size m ∧ EvOk m := by
      intro i
      by_cases hil : i < len
      · obtain ⟨hc1, _, hg⟩ := hi i hil
        obtain ⟨m, h1, h2, h3⟩ := GB.event hc1 hg
        exact ⟨m, fun _ => ⟨h1, h2, h3⟩⟩
      · exact ⟨Em.zero, fun h => absurd h hil⟩
    obtain ⟨f, hf⟩ := Classical.axiomOfChoice hex
    have hr := reads_elems (W := W) (C := 13) (a := a) (cs := cs) hb (fun i hi' => (hi i hi').1) (fun i hi' => (hi i hi').2.1)
    have e : emCells ((List.range len).map f) = (List.range len).flatMap cs := by
      unfold emCells
      rw [List.flatMap_map]
      exact (flat_congr fun i hi' => (hf i (by simpa using hi')).1).symm
    refine ⟨some a, len, cap, (List.range len).map f, rfl, ?_, hn, by simp, fun m hm => by
      obtain ⟨i, hi', rfl⟩ := List.mem_map.1 hm
      exact (hf i (by simpa using hi')).2⟩
    rw [e]
    exact hr
/-- A script. -/
theorem GB.script {cs : List Value} {d : DataW H} (hl : cs.length = 9) (h : GB enc W 27 cs d) :
    ∃ s : Sm, cs = s.cs.toList ∧ SmIn W W.heap.size s ∧ s.c.votes.length ≤ 1048576 ∧ s.ms.length ≤ 1048576 ∧ ∀ m ∈ s.ms, EvOk m := by
  obtain ⟨c0, c1, c2, c3, c4, c5, c6, c7, c8, rfl⟩ := list9 hl
  obtain ⟨_, q⟩ := GB.fld Tryz.underlying27 h 0 24 0 8 ⟨_, rfl, rfl, rfl⟩ cellsCf
  obtain ⟨_, g8⟩ := GB.fld Tryz.underlying27 h 1 25 8 1 ⟨_, rfl, rfl, rfl⟩ cellsEs
  simp only [List.drop_zero, List.drop_succ_cons, List.take_succ_cons, List.take_zero] at q g8
  obtain ⟨_, q0⟩ := GB.fld Tryz.underlying24 q 0 3 0 1 ⟨_, rfl, rfl, rfl⟩ cellsInt
  obtain ⟨_, q1⟩ := GB.fld Tryz.underlying24 q 1 3 1 1 ⟨_, rfl, rfl, rfl⟩ cellsInt
  obtain ⟨_, q2⟩ := GB.fld Tryz.underlying24 q 2 3 2 1 ⟨_, rfl, rfl, rfl⟩ cellsInt
  obtain ⟨_, q3⟩ := GB.fld Tryz.underlying24 q 3 3 3 1 ⟨_, rfl, rfl, rfl⟩ cellsInt
  obtain ⟨_, q4⟩ := GB.fld Tryz.underlying24 q 4 3 4 1 ⟨_, rfl, rfl, rfl⟩ cellsInt
  obtain ⟨_, q5⟩ := GB.fld Tryz.underlying24 q 5 3 5 1 ⟨_, rfl, rfl, rfl⟩ cellsInt
  obtain ⟨_, q6⟩ := GB.fld Tryz.underlying24 q 6 3 6 1 ⟨_, rfl, rfl, rfl⟩ cellsInt
  obtain ⟨_, q7⟩ := GB.fld Tryz.underlying24 q 7 22 7 1 ⟨_, rfl, rfl, rfl⟩ cellsIs
  simp only [List.drop_zero, List.drop_succ_cons, List.take_succ_cons, List.take_zero] at q0 q1 q2 q3 q4 q5 q6 q7
  obtain ⟨n0, rfl, _⟩ := GB.int Tryz.underlying3 q0
  obtain ⟨n1, rfl, _⟩ := GB.int Tryz.underlying3 q1
  obtain ⟨n2, rfl, _⟩ := GB.int Tryz.underlying3 q2
  obtain ⟨n3, rfl, _⟩ := GB.int Tryz.underlying3 q3
  obtain ⟨n4, rfl, _⟩ := GB.int Tryz.underlying3 q4
  obtain ⟨n5, rfl, _⟩ := GB.int Tryz.underlying3 q5
  obtain ⟨n6, rfl, _⟩ := GB.int Tryz.underlying3 q6
  obtain ⟨A, n, k, vs, rfl, hr, hn, hi⟩ := GB.intL q7
  obtain ⟨Ae, ne, ke, ms, rfl, hre, hne, hml, hms⟩ := GB.events g8
  have hvl : vs.length = n := RI.len hr
  subst hml
  subst hvl
  exact ⟨⟨⟨n0, n1, n2, n3, n4, n5, n6, vs⟩, A, k, Ae, ke, ms⟩, rfl, ⟨hr, hre, fun m hm => (hms m hm).1, by show vs.length ≤ _; omega, by show ms.length ≤ _; omega⟩, hn, hne, fun m hm => (hms m hm).2⟩
end
end Go.Proofs.YtcibcmfaebbhnaaGreatDoor
