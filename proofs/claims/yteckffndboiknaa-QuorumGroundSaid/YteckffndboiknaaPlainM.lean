/-
  Plain facts: the fewest nodes without which the others are not quorate.
-/
import Derived.Test.YteckffndboiknaaPlainT
namespace Go.Proofs.Yteckffndboiknaa.Q

/-- The least number of nodes of one of the first k sets without which the others are not quorate; m where there is none with fewer. -/
def minTo (vs : List Int) (m : Nat) : Nat → Nat
  | 0 => m
  | k + 1 => if winsB vs (allOf vs.length - k) = false ∧ pop k < minTo vs m k then pop k else minTo vs m k
theorem minTo_min (vs : List Int) (m : Nat) : ∀ k, minTo vs m k = min m (minTo vs (m + 1) k) := by
  intro k
  induction k with
  | zero => simp [minTo]
  | succ k ih =>
    rw [minTo, minTo]
    by_cases hw : winsB vs (allOf vs.length - k) = false
    · by_cases h1 : pop k < minTo vs (m + 1) k
      · rw [if_pos (c := _ ∧ pop k < minTo vs (m + 1) k) ⟨hw, h1⟩]
        by_cases h2 : pop k < minTo vs m k
        · rw [if_pos ⟨hw, h2⟩]; rw [ih] at h2; omega
        · rw [if_neg (fun q => h2 q.2)]; rw [ih] at h2 ⊢; omega
      · rw [if_neg (c := _ ∧ pop k < minTo vs (m + 1) k) (fun q => h1 q.2), if_neg (fun q => h1 (by have := q.2; rw [ih] at this; omega))]; exact ih
    · rw [if_neg (fun q => hw q.1), if_neg (fun q => hw q.1)]; exact ih
theorem minTo_le (vs : List Int) (m : Nat) : ∀ k g, g < k → winsB vs (allOf vs.length - g) = false → minTo vs m k ≤ pop g := by
  intro k
  induction k with
  | zero => intro g hg; omega
  | succ k ih =>
    intro g hg hw
    rw [minTo]
    by_cases e : g = k
    · subst e
      split
      · exact Nat.le_refl _
      · rename_i h
        have : ¬ pop g < minTo vs m g := fun q => h ⟨hw, q⟩
        omega
    · have := ih g (by omega) hw
      split
      · rename_i h; omega
      · exact this
theorem minTo_le_start (vs : List Int) (m : Nat) : ∀ k, minTo vs m k ≤ m := by
  intro k
  induction k with
  | zero => exact Nat.le_refl _
  | succ k ih =>
    rw [minTo]
    split
    · rename_i h; omega
    · exact ih
theorem minTo_is (vs : List Int) (m : Nat) : ∀ k, minTo vs m k = m ∨ ∃ g, g < k ∧ winsB vs (allOf vs.length - g) = false ∧ pop g = minTo vs m k := by
  intro k
  induction k with
  | zero => exact .inl rfl
  | succ k ih =>
    rw [minTo]
    split
    · rename_i h; exact .inr ⟨k, by omega, h.1, rfl⟩
    · rcases ih with h | ⟨g, h1, h2, h3⟩
      · exact .inl h
      · exact .inr ⟨g, by omega, h2, h3⟩
theorem pop_all (n : Nat) (h : n ≤ 16) : pop (allOf n) = n := by
  have h1 : allOf n < 2 ^ n := by unfold allOf; have := Nat.pow_pos (n := n) (show 0 < 2 by omega); omega
  rw [pop_of_lt _ n h1 h, popTo_all n n (Nat.le_refl _)]
/-- Both ways to begin come to one end. -/
theorem minTo_end (vs : List Int) (hok : Ok vs) : minTo vs (vs.length + 1) (2 ^ vs.length) = minTo vs vs.length (2 ^ vs.length) := by
  have h1 := minTo_min vs vs.length (2 ^ vs.length)
  have hz : winsB vs (allOf vs.length - allOf vs.length) = false := by rw [Nat.sub_self]; exact wins_zero vs hok
  have h2 := minTo_le vs (vs.length + 1) (2 ^ vs.length) (allOf vs.length) (by unfold allOf; have := Nat.pow_pos (n := vs.length) (show 0 < 2 by omega); omega) hz
  rw [pop_all _ hok.2.1] at h2
  omega
/-- The tolerance: one less. -/
def tol (vs : List Int) : Nat := minTo vs vs.length (2 ^ vs.length) - 1
theorem minTo_pos (vs : List Int) (hok : Ok vs) : 1 ≤ minTo vs vs.length (2 ^ vs.length) := by
  rcases minTo_is vs vs.length (2 ^ vs.length) with h | ⟨g, h1, h2, h3⟩
  · rw [h]; exact hok.1
  · rcases Nat.eq_zero_or_pos (minTo vs vs.length (2 ^ vs.length)) with h0 | h0
    · rw [h0, pop_of_lt g vs.length h1 hok.2.1] at h3
      have := pop_zero_iff g vs.length h1 h3
      subst this
      rw [Nat.sub_zero, wins_all vs hok] at h2
      simp at h2
    · exact h0
/-- As many may be gone, whichever they are; some one more may not. -/
theorem tol_bears (vs : List Int) (hok : Ok vs) (g : Nat) (hg : g < 2 ^ vs.length) (hp : pop g ≤ tol vs) : winsB vs (allOf vs.length - g) = true := by
  cases h : winsB vs (allOf vs.length - g)
  · have h1 := minTo_le vs vs.length _ g hg h
    have h2 := minTo_pos vs hok
    unfold tol at hp
    omega
  · rfl
theorem tol_breaks (vs : List Int) (hok : Ok vs) : ∃ g, g < 2 ^ vs.length ∧ pop g = tol vs + 1 ∧ winsB vs (allOf vs.length - g) = false := by
  have h2 := minTo_pos vs hok
  rcases minTo_is vs (vs.length + 1) (2 ^ vs.length) with h | ⟨g, h3, h4, h5⟩
  · have := minTo_le_start vs vs.length (2 ^ vs.length)
    rw [minTo_end vs hok] at h
    omega
  · rw [minTo_end vs hok] at h5
    exact ⟨g, h3, by unfold tol; omega, h4⟩
theorem tol_lt (vs : List Int) (hok : Ok vs) : tol vs < vs.length := by
  have := minTo_le_start vs vs.length (2 ^ vs.length)
  have := minTo_pos vs hok
  unfold tol; omega
/-- All but a set: by the complement of bits. -/
theorem andNot_all (n g : Nat) (hn : n ≤ 16) (hg : g < 2 ^ n) : allOf n &&& (18446744073709551615 - g) = allOf n - g := by
  apply Nat.eq_of_testBit_eq
  intro k
  have h16 : 2 ^ n ≤ 2 ^ 16 := Nat.pow_le_pow_right (by omega) hn
  have h1 := Nat.testBit_two_pow_sub_succ (x := g) (n := 64) (by omega) k
  rw [show 2 ^ 64 - (g + 1) = 18446744073709551615 - g from by omega] at h1
  have h2 := Nat.testBit_two_pow_sub_succ (x := g) (n := n) hg k
  rw [show 2 ^ n - (g + 1) = allOf n - g from by unfold allOf; omega] at h2
  rw [Nat.testBit_and, h1, h2, testBit_allOf]
  by_cases hk : k < n
  · have : k < 64 := by omega
    simp [hk, this]
  · simp [hk]
end Go.Proofs.Yteckffndboiknaa.Q
