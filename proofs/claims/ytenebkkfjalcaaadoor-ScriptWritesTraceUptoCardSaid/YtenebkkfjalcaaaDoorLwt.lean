/-
  The law ScriptWritesTrace, walked: what comes out of the program and of the reference is the same, and the marks stay.
-/
import Derived.Test.YtenebkkfjalcaaaDoorPpt
import Derived.Test.YtenebkkfjalcaaaDoorMof
set_option linter.unusedVariables false
set_option linter.unusedSimpArgs false
namespace Go.Proofs.YtenebkkfjalcaaaDoor
open Go.RowKit Go.WideShapes Go.ChangeShapes Q

theorem same_map {α : Type} {l l' : List Mk} (h : SameC l l') (f : Mk → α) (hf : ∀ m Am cm At ct Ab cb, f (m.at Am cm At ct Ab cb) = f m) : l'.map f = l.map f := by
  apply List.ext_getElem
  · rw [List.length_map, List.length_map]
    exact h.1
  · intro i h1 h2
    rw [List.getElem_map, List.getElem_map]
    have hi' : i < l'.length := by simpa using h1
    have hi : i < l.length := by simpa using h2
    obtain ⟨Am, cm, At, ct, Ab, cb, e⟩ := h.2 i _ _ (List.getElem?_eq_getElem hi) (List.getElem?_eq_getElem hi')
    rw [e, hf]
theorem same_wr {l l' : List Mk} (h : SameC l l') : l'.all wrB = l.all wrB := by
  have := same_map h wrB (fun _ _ _ _ _ _ _ => rfl)
  have e : ∀ q : List Mk, q.all wrB = (q.map wrB).all id := fun q => by rw [List.all_map]; rfl
  rw [e, e, this]
theorem same_out {l l' : List Mk} (h : SameC l l') : outL l' = outL l := by
  have := same_map h (fun m => lineL m ++ [10]) (fun _ _ _ _ _ _ _ => rfl)
  unfold outL
  rw [List.flatMap_def, List.flatMap_def, this]
theorem same_T {l l' : List Mk} (h : SameC l l') : resT l' = resT l := by unfold resT; rw [same_wr h, same_out h]
theorem same_N {l l' : List Mk} (h : SameC l l') : resN l' = resN l := by unfold resN; rw [same_wr h]
theorem SameC.symm {l l' : List Mk} (h : SameC l l') : SameC l' l := by
  refine ⟨h.1.symm, fun k m' m hm' hm => ?_⟩
  obtain ⟨Am, cm, At, ct, Ab, cb, e⟩ := h.2 k m m' hm hm'
  subst e
  exact ⟨m.Am, m.cm, m.At, m.ct, m.Ab, m.cb, rfl⟩
theorem SameC.sz {l l' : List Mk} (h : SameC l l') (hz : ∀ m ∈ l, MkZ m) : ∀ m ∈ l', MkZ m := by
  intro m' hm'
  obtain ⟨k, hk, rfl⟩ := List.getElem_of_mem hm'
  have hk2 : k < l.length := by rw [← h.1]; exact hk
  obtain ⟨Am, cm, At, ct, Ab, cb, e⟩ := h.2 k _ _ (List.getElem?_eq_getElem hk2) (List.getElem?_eq_getElem hk)
  have z := hz _ (List.getElem_mem hk2)
  rw [e]
  exact ⟨z.nm, z.nt, z.nb, z.bd, z.key, z.val, z.old, z.rv⟩
theorem MsIn.more {w : World} {B B' n : Nat} {A : Option Addr} {l : List Mk} (h : MsIn w B A n l) (hB : B ≤ B') : MsIn w B' A n l := ⟨h.row.more hB, fun m hm => (h.ent m hm).more hB⟩
set_option maxRecDepth 100000 in
theorem num_any (x : Int) (w : World) : Calls Tryd.prog 10 #[.int .i64 x] w fun e w' => e = .returned (.int .i64 x) ∧ w = w' := by
  go_enter Tryd.func10, Tryd.ntmps10
  go_wp2_with fail
  go_ret
  exact ⟨rfl, rfl⟩

set_option maxRecDepth 100000 in
set_option maxHeartbeats 4000000 in
theorem law_any (A : Option Addr) (n c : Nat) (l : List Mk) (w : World) (h : MsIn w w.heap.size A n l) (hz : ∀ m ∈ l, MkZ m) (hn : n ≤ 1048576) (hT : Tab w) (hK : KT w) :
    Calls Tryd.prog 3 #[.slice A n c] w fun e w' => e = .returned (.bool true) ∧ Below w.heap.size w w' := by
  have H := hide h
  have HZ := hide hz
  have HT := hide hT
  have HKT := hide hK
  have HM := hide (marksOf_any A n c l w h hn)
  obtain ⟨T, hTT⟩ : ∃ T, T = resT l := ⟨_, rfl⟩
  obtain ⟨N, hNN⟩ : ∃ N, N = resN l := ⟨_, rfl⟩
  have HTT := hide hTT
  have HNN := hide hNN
  clear h hz hT hK hTT hNN
  go_enter Tryd.func3, Tryd.ntmps3
  go_upto_region 2 with (go_at_call 7; refine HM.out.mono ?_; rintro e w1 hcp; obtain ⟨A', c', l', rfl, hsame, hin, hb⟩ := hcp; have HSA := hide hsame; have HIN := hide hin; have HB1 := hide hb; clear hsame hin hb)
  have HP8 : Hid (Calls Tryd.prog 8 #[.slice A' n c'] w1 fun e w' => e = .returned (.tuple #[.string (S T), .int .i64 N]) ∧ Below w1.heap.size w1 w') := by
    have := pprint_any A' n c' l' w1 HIN.out (HSA.out.sz HZ.out) hn (HT.out.below HB1.out) (HKT.out.below HB1.out)
    rw [same_T HSA.out, same_N HSA.out, ← HTT.out, ← HNN.out] at this
    exact this
  go_upto_region 3 with (go_at_call 8; refine HP8.out.mono ?_; rintro e w2 ⟨rfl, hb2⟩; have HB2 := hide (HB1.out.trans (hb2.mono HB1.out.size)); have HIN2 := hide ((HIN.out.below hb2).more hb2.size); clear hb2)
  have HP9 : Hid (Calls Tryd.prog 9 #[.slice A n c] w2 fun e w' => e = .returned (.tuple #[.string (S T), .int .i64 N]) ∧ Below w2.heap.size w2 w') := by
    have := rprint_any A n c l w2 ((H.out.below HB2.out).more HB2.out.size) HZ.out hn
    rw [← HTT.out, ← HNN.out] at this
    exact this
  clear HP8 HM HB1 HIN
  go_upto_region 4 with (go_at_call 9; refine HP9.out.mono ?_; rintro e w3 ⟨rfl, hb3⟩; have HB3 := hide (HB2.out.trans (hb3.mono HB2.out.size)); have HIN3 := hide ((HIN2.out.below hb3).more hb3.size); clear hb3)
  have HS : Hid (Calls Tryd.prog 11 #[.slice A' n c', .slice A n c] w3 fun e w' => e = .returned (.bool true) ∧ Below w3.heap.size w3 w') :=
    sameMarks_true A' A n c' c l' l w3 HIN3.out ((H.out.below HB3.out).more HB3.out.size) HSA.out.symm (by omega)
  have HN10 := hide (num_any N)
  clear HP9 HIN2 HB2
  go_wp2_with (first | (go_at_call 10; refine (HN10.out _).mono ?_; rintro e w5 ⟨rfl, rfl⟩) | (go_at_call 11; refine HS.out.mono ?_; rintro e w4 ⟨rfl, hb4⟩; have HB4 := hide (HB3.out.trans (hb4.mono HB3.out.size)); clear hb4))
  all_goals go_ret
  all_goals exact ⟨rfl, HB4.out⟩
end Go.Proofs.YtenebkkfjalcaaaDoor
