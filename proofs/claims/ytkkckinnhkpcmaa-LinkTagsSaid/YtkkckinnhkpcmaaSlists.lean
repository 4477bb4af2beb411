/-
  Contract of SameLists.
-/
import Derived.Test.YtkkckinnhkpcmaaWtake
set_option linter.unusedVariables false
set_option linter.unusedSimpArgs false
namespace Go.Proofs.Ytkkckinnhkpcmaa
open Go.RowKit Go.WideShapes Go.ChangeShapes Q

set_option maxRecDepth 100000 in
set_option maxHeartbeats 2000000 in
theorem lists_any (v u : Value) (xs : List (List Int)) (w : World) (S S' : Nat → Prop) (h : BRow w S v xs) (h' : BRow w S' u xs) (hl : ∀ y ∈ xs, y.length ≤ 1000) (hn : xs.length ≤ 100000) :
    Calls Try.prog 23 #[v, u] w fun e w' => e = .returned (.bool true) ∧ ∃ m, w' = w.drewN m := by
  have H := hide h
  have H' := hide h'
  obtain ⟨A, c, vs, rfl, _, _, hc⟩ := BRow.val h
  obtain ⟨A', c', vs', rfl, _, _, hc'⟩ := BRow.val h'
  obtain ⟨n, hnn⟩ : ∃ n, n = xs.length := ⟨_, rfl⟩
  have HN := hide hnn
  rw [← hnn] at hn hc hc' ⊢
  have d0 : ((n : Int) != (n : Int)) = false := by simp
  clear h h' hnn
  go_enter Try.func23, Try.ntmps23
  go_wp2
  go_loopw [5] (fun i wr => ∃ k : Nat, k ≤ n ∧ i = .int .i64 k ∧ ∃ m, wr = w.drewN m) (fun i _ => n - (intOf i).toNat)
  case atStart => exact ⟨0, Nat.zero_le _, rfl, 0, rfl⟩
  case round =>
    obtain ⟨k, hk, rfl, m, rfl⟩ := hrel
    by_cases hlt : k < n
    · obtain ⟨y, hy⟩ : ∃ y, xs[k]? = some y := ⟨_, List.getElem?_eq_getElem (by have := HN.out; omega)⟩
      have H2 := H.out
      have H2' := H'.out
      rw [← HN.out] at H2 H2'
      obtain ⟨gl, cap, a, e1, _, _, hb, la⟩ := H2.at_ (by have := HN.out; omega) hy
      obtain ⟨gl', cap', a', e1', _, _, hb', la'⟩ := H2'.at_ (by have := HN.out; omega) hy
      rw [← HN.out] at e1 e1'
      injection e1 with e1 _ e3
      injection e1' with e1' _ e3'
      subst e1
      subst e1'
      subst e3
      subst e3'
      obtain ⟨Au, cu, rfl, hru, _⟩ := hb.val
      obtain ⟨Au', cu', rfl, hru', _⟩ := hb'.val
      have hyl := hl y (List.mem_of_getElem? hy)
      have HSB : ∀ n', Hid (Calls Try.prog 40 #[.slice Au y.length cu, .slice Au' y.length cu'] ((w.drewN m).drewN n') fun e w' => e = .returned (.bool true) ∧ ∃ k, w' = ((w.drewN m).drewN n').drewN k) := fun n' => by
        have hh := same_any Au Au' y.length y.length cu cu' y y ((w.drewN m).drewN n') hru hru' (by omega) (by omega)
        rw [decide_eq_true rfl] at hh
        exact hh
      have la2 : (w.drewN m).cell? ⟨gl, k, none⟩ = some (.slice Au y.length cu) := la
      have la2' : (w.drewN m).cell? ⟨gl', k, none⟩ = some (.slice Au' y.length cu') := la'
      obtain ⟨W0, hW0⟩ : ∃ W0, W0 = w.drewN m := ⟨_, rfl⟩
      rw [← hW0] at HSB la2 la2' ⊢
      have HW0 := hide hW0
      have i0 : (0 : Int) ≤ (k : Int) := by omega
      have i1 : (k : Int) < (n : Int) := by omega
      clear hy H2 H2' hb hb' la la' hru hru' hW0 hl
      go_wp2_with fail
      go_quiet ((go_at_call 40; exact Calls.quiet_of ((HSB _).out)))
      go_wp2
      go_roundw
      case rel =>
        refine ⟨k + 1, by omega, by go_num, ?_⟩
        rw [HW0.out]
        simp only [World.drewN_drewN]
        exact ⟨_, rfl⟩
      case measure => simp [intOf]; omega
    · obtain rfl : k = n := by omega
      go_wp2
      go_ret
      exact ⟨rfl, _, rfl⟩
end Go.Proofs.Ytkkckinnhkpcmaa
