/-
  Contracts of counted (program) and counts (reference): are all of them counts?
-/
import Derived.Test.YtenebkkfjalcaaaDoorPrt
set_option linter.unusedVariables false
set_option linter.unusedSimpArgs false
namespace Go.Proofs.YtenebkkfjalcaaaDoor
open Go.RowKit Go.WideShapes Go.ChangeShapes Q

def okC (x : Int) : Bool := decide (0 ≤ x ∧ x ≤ 4611686018427387904)
def cntB (xs : List Int) : Bool := xs.all okC
theorem cntB_no {xs : List Int} {k : Nat} (hk : k < xs.length) (h : okC (nth xs k) = false) : cntB xs = false := by
  unfold cntB
  rw [List.all_eq_false]
  refine ⟨xs[k], List.getElem_mem hk, ?_⟩
  have : nth xs k = xs[k] := by simp [nth, hk]
  rw [this] at h
  simp [h]
theorem cntB_yes {xs : List Int} (h : ∀ k, k < xs.length → okC (nth xs k) = true) : cntB xs = true := by
  unfold cntB
  rw [List.all_eq_true]
  intro x hx
  obtain ⟨k, hk, rfl⟩ := List.getElem_of_mem hx
  have := h k hk
  simpa [nth, hk] using this

set_option maxRecDepth 100000 in
theorem counted_any (A : Option Addr) (B n c : Nat) (xs : List Int) (w : World) (h : RI w B A n xs) (hn : n ≤ 17592186044416) :
    Calls Tryd.prog 29 #[.slice A n c] w fun e w' => e = .returned (.bool (cntB xs)) ∧ w = w' := by
  have HL := hide h.len
  have HR := hide h
  clear h
  go_enter Tryd.func29, Tryd.ntmps29
  go_upto_region 2 with fail
  go_loop [4, 7] (fun _ i => ∃ k : Nat, k ≤ n ∧ i = .int .i64 k ∧ Hid (∀ j, j < k → okC (nth xs j) = true)) (fun _ i => n - (intOf i).toNat)
  case atStart => exact ⟨0, Nat.zero_le _, rfl, fun j hj => absurd hj (by omega)⟩
  case round =>
    obtain ⟨k, hk, rfl, hok⟩ := hrel
    by_cases hlt : k < n
    · obtain ⟨ad, rfl, hab, hc⟩ := RI.at_ HR.out hlt
      obtain ⟨x, hx⟩ : ∃ x, x = nth xs k := ⟨_, rfl⟩
      rw [← hx] at hc
      have HX := hide hx
      have k0 : (0 : Int) ≤ (k : Int) := by omega
      have kn : (k : Int) < (n : Int) := by omega
      have hkl : k < xs.length := by have := HL.out; omega
      clear hx
      by_cases h1 : x < 0
      · have d1 : decide (x < 0) = true := decide_eq_true h1
        have HF : Hid (cntB xs = false) := cntB_no hkl (by rw [← HX.out]; exact decide_eq_false (by omega))
        go_wp2_with fail
        go_ret
        exact ⟨by rw [HF.out]; rfl, rfl⟩
      · have d1 : decide (x < 0) = false := decide_eq_false h1
        by_cases h2 : 4611686018427387904 < x
        · have d2 : decide (4611686018427387904 < x) = true := decide_eq_true h2
          have HF : Hid (cntB xs = false) := cntB_no hkl (by rw [← HX.out]; exact decide_eq_false (by omega))
          go_wp2_with fail
          go_ret
          exact ⟨by rw [HF.out]; rfl, rfl⟩
        · have d2 : decide (4611686018427387904 < x) = false := decide_eq_false h2
          have HOK : Hid (∀ j, j < k + 1 → okC (nth xs j) = true) := fun j hj => by
            by_cases e : j = k
            · subst e
              rw [← HX.out]
              exact decide_eq_true (by omega)
            · exact hok.out j (by omega)
          go_wp2_with fail
          go_round
          case rel => exact ⟨k + 1, by omega, by go_num, HOK⟩
          case measure => simp [intOf]; omega
    · have hkn : k = n := by omega
      have kn : ¬ (k : Int) < (n : Int) := by omega
      have HF : Hid (cntB xs = true) := cntB_yes fun j hj => hok.out j (by have := HL.out; omega)
      clear hlt
      go_wp2_with fail
      go_ret
      exact ⟨by rw [HF.out]; rfl, rfl⟩
set_option maxRecDepth 100000 in
theorem counts_any (A : Option Addr) (B n c : Nat) (xs : List Int) (w : World) (h : RI w B A n xs) (hn : n ≤ 17592186044416) :
    Calls Tryd.prog 27 #[.slice A n c] w fun e w' => e = .returned (.bool (cntB xs)) ∧ w = w' := by
  have HL := hide h.len
  have HR := hide h
  clear h
  go_enter Tryd.func27, Tryd.ntmps27
  go_upto_region 2 with fail
  go_loop [3] (fun i => ∃ k : Nat, k ≤ n ∧ i = .int .i64 k ∧ Hid (∀ j, j < k → okC (nth xs j) = true)) (fun i => n - (intOf i).toNat)
  case atStart => exact ⟨0, Nat.zero_le _, rfl, fun j hj => absurd hj (by omega)⟩
  case round =>
    obtain ⟨k, hk, rfl, hok⟩ := hrel
    by_cases hlt : k < n
    · obtain ⟨ad, rfl, hab, hc⟩ := RI.at_ HR.out hlt
      obtain ⟨x, hx⟩ : ∃ x, x = nth xs k := ⟨_, rfl⟩
      rw [← hx] at hc
      have HX := hide hx
      have k0 : (0 : Int) ≤ (k : Int) := by omega
      have kn : (k : Int) < (n : Int) := by omega
      have hkl : k < xs.length := by have := HL.out; omega
      clear hx
      by_cases h1 : x < 0
      · have d1 : decide (x < 0) = true := decide_eq_true h1
        have HF : Hid (cntB xs = false) := cntB_no hkl (by rw [← HX.out]; exact decide_eq_false (by omega))
        go_wp2_with fail
        go_ret
        exact ⟨by rw [HF.out]; rfl, rfl⟩
      · have d1 : decide (x < 0) = false := decide_eq_false h1
        by_cases h2 : 4611686018427387904 < x
        · have d2 : decide (4611686018427387904 < x) = true := decide_eq_true h2
          have HF : Hid (cntB xs = false) := cntB_no hkl (by rw [← HX.out]; exact decide_eq_false (by omega))
          go_wp2_with fail
          go_ret
          exact ⟨by rw [HF.out]; rfl, rfl⟩
        · have d2 : decide (4611686018427387904 < x) = false := decide_eq_false h2
          have HOK : Hid (∀ j, j < k + 1 → okC (nth xs j) = true) := fun j hj => by
            by_cases e : j = k
            · subst e
              rw [← HX.out]
              exact decide_eq_true (by omega)
            · exact hok.out j (by omega)
          go_wp2_with fail
          go_round
          case rel => exact ⟨k + 1, by omega, by go_num, HOK⟩
          case measure => simp [intOf]; omega
    · have hkn : k = n := by omega
      have kn : ¬ (k : Int) < (n : Int) := by omega
      have HF : Hid (cntB xs = true) := cntB_yes fun j hj => hok.out j (by have := HL.out; omega)
      clear hlt
      go_wp2_with fail
      go_ret
      exact ⟨by rw [HF.out]; rfl, rfl⟩
end Go.Proofs.YtenebkkfjalcaaaDoor
