/-
  Plain facts: how many nodes a set has; the fewest nodes without which the others are not quorate.
-/
import Derived.Test.YteckffndboiknaaPlainC
namespace Go.Proofs.Yteckffndboiknaa.Q

/-- How many of the first k bits are set. -/
def popTo (s : Nat) : Nat → Nat
  | 0 => 0
  | k + 1 => popTo s k + if s.testBit k then 1 else 0
def pop (s : Nat) : Nat := popTo s 16
theorem popTo_le (s : Nat) : ∀ k, popTo s k ≤ k := by
  intro k
  induction k with
  | zero => exact Nat.le_refl _
  | succ k ih => rw [popTo]; split <;> omega
theorem popTo_congr {s t : Nat} : ∀ {k : Nat}, (∀ j, j < k → s.testBit j = t.testBit j) → popTo s k = popTo t k := by
  intro k
  induction k with
  | zero => intro _; rfl
  | succ k ih => intro h; rw [popTo, popTo, ih (fun j hj => h j (by omega)), h k (by omega)]
theorem popTo_high (s k : Nat) (h : s < 2 ^ k) : ∀ j, popTo s (k + j) = popTo s k := by
  intro j
  induction j with
  | zero => rfl
  | succ j ih =>
    rw [← Nat.add_assoc, popTo, ih, Nat.testBit_lt_two_pow (Nat.lt_of_lt_of_le h (Nat.pow_le_pow_right (by omega) (by omega)))]
    rfl
theorem pop_of_lt (s n : Nat) (h : s < 2 ^ n) (hn : n ≤ 16) : pop s = popTo s n := by
  have := popTo_high s n h (16 - n)
  rw [show n + (16 - n) = 16 from by omega] at this
  exact this
theorem popTo_all (n : Nat) : ∀ k, k ≤ n → popTo (allOf n) k = k := by
  intro k
  induction k with
  | zero => intro _; rfl
  | succ k ih => intro hk; rw [popTo, ih (by omega), testBit_allOf]; simp; omega
theorem pop_zero_iff (s : Nat) (k : Nat) (h : s < 2 ^ k) (h0 : popTo s k = 0) : s = 0 := by
  apply Nat.eq_of_testBit_eq
  intro i
  rw [Nat.zero_testBit]
  rcases Nat.lt_or_ge i k with hi | hi
  · have : ∀ j, j ≤ k → popTo s j = 0 → ∀ i, i < j → s.testBit i = false := by
      intro j
      induction j with
      | zero => intro _ _ i hi; omega
      | succ j ih =>
        intro hj hp i hi
        rw [popTo] at hp
        by_cases e : i = j
        · subst e
          cases hb : s.testBit i
          · rfl
          · rw [hb] at hp; simp at hp
        · exact ih (by omega) (by omega) i (by omega)
    exact this k (Nat.le_refl _) h0 i hi
  · exact Nat.testBit_lt_two_pow (Nat.lt_of_lt_of_le h (Nat.pow_le_pow_right (by omega) hi))

/-! ### OnesCount64's own way -/
def onesW (x : Nat) : Nat :=
  let a := ((x >>> 1) &&& 6148914691236517205) + (x &&& 6148914691236517205)
  let b := ((a >>> 2) &&& 3689348814741910323) + (a &&& 3689348814741910323)
  let c := ((b >>> 4) + b) &&& 1085102592571150095
  let d := c + c >>> 8
  let e := d + d >>> 16
  let f := e + e >>> 32
  f &&& 127
def allW : Nat → Nat → Nat → Bool
  | 0, lo, acc => Nat.beq (onesW lo) acc
  | k + 1, lo, acc => allW k lo acc && allW k (lo + 2 ^ k) (acc + 1)
theorem allW_ok : ∀ k lo acc, allW k lo acc = true → ∀ t, t < 2 ^ k → onesW (lo + t) = acc + popTo t k := by
  intro k
  induction k with
  | zero =>
    intro lo acc h t ht
    have : t = 0 := by simpa using ht
    subst this
    simpa [allW, popTo] using h
  | succ k ih =>
    intro lo acc h t ht
    rw [allW, Bool.and_eq_true] at h
    rcases Nat.lt_or_ge t (2 ^ k) with hl | hg
    · rw [ih lo acc h.1 t hl, popTo, Nat.testBit_lt_two_pow hl]; rfl
    · obtain ⟨t', rfl⟩ : ∃ t', t = 2 ^ k + t' := ⟨t - 2 ^ k, by omega⟩
      have ht' : t' < 2 ^ k := by rw [Nat.pow_succ] at ht; omega
      have h1 := ih (lo + 2 ^ k) (acc + 1) h.2 t' ht'
      rw [← Nat.add_assoc, h1, popTo]
      have hb : (2 ^ k + t').testBit k = true := by
        rw [Nat.testBit_two_pow_add_eq, Nat.testBit_lt_two_pow ht']; rfl
      have hc : popTo (2 ^ k + t') k = popTo t' k := popTo_congr fun j hj => Nat.testBit_two_pow_add_gt hj t'
      rw [hb, hc]
      simp
      omega
theorem allW_16 : allW 16 0 0 = true := by decide +kernel
theorem onesW_pop (x : Nat) (h : x < 65536) : onesW x = pop x := by
  have := allW_ok 16 0 0 allW_16 x (by omega)
  simpa [pop] using this
end Go.Proofs.Yteckffndboiknaa.Q
