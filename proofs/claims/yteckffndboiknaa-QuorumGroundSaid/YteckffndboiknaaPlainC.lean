/-
  Plain facts: how many of the first sets are quorate; just half of all are.
-/
import Derived.Test.YteckffndboiknaaPlain
namespace Go.Proofs.Yteckffndboiknaa.Q

/-- How many of the first k numbers have a property. -/
def countTo (p : Nat → Bool) : Nat → Nat
  | 0 => 0
  | k + 1 => countTo p k + if p k then 1 else 0
theorem countTo_le (p : Nat → Bool) : ∀ k, countTo p k ≤ k := by
  intro k
  induction k with
  | zero => exact Nat.le_refl _
  | succ k ih => rw [countTo]; split <;> omega
theorem countTo_congr {p q : Nat → Bool} : ∀ {n : Nat}, (∀ k, k < n → p k = q k) → countTo p n = countTo q n := by
  intro n
  induction n with
  | zero => intro _; rfl
  | succ n ih => intro h; rw [countTo, countTo, ih (fun k hk => h k (by omega)), h n (by omega)]
theorem countTo_not (p : Nat → Bool) : ∀ n, countTo p n + countTo (fun s => !p s) n = n := by
  intro n
  induction n with
  | zero => rfl
  | succ n ih =>
    rw [countTo, countTo]
    cases p n <;> simp <;> omega
theorem countTo_back (p : Nat → Bool) (N : Nat) : ∀ k, k ≤ N → countTo (fun s => p (N - 1 - s)) k + countTo p (N - k) = countTo p N := by
  intro k
  induction k with
  | zero => intro _; simp [countTo]
  | succ k ih =>
    intro hk
    have h := ih (by omega)
    rw [show N - k = (N - (k + 1)) + 1 from by omega, countTo] at h
    rw [countTo]
    have e : N - 1 - k = N - (k + 1) := by omega
    rw [e]
    omega
theorem countTo_rev (p : Nat → Bool) (N : Nat) : countTo (fun s => p (N - 1 - s)) N = countTo p N := by
  have := countTo_back p N N (Nat.le_refl _)
  simp only [Nat.sub_self, countTo] at this
  omega

def winTo (vs : List Int) (k : Nat) : Nat := countTo (winsB vs) k
theorem testBit_compl (n s k : Nat) (hs : s < 2 ^ n) (hk : k < n) : (2 ^ n - 1 - s).testBit k = !s.testBit k := by
  have := Nat.testBit_two_pow_sub_succ (x := s) (n := n) hs k
  rw [show 2 ^ n - (s + 1) = 2 ^ n - 1 - s from by omega] at this
  rw [this]
  simp [hk]
/-- Just half of all sets are quorate. -/
theorem half (vs : List Int) (h : Ok vs) : 2 * winTo vs (2 ^ vs.length) = 2 ^ vs.length := by
  have h1 := countTo_rev (winsB vs) (2 ^ vs.length)
  have h2 : countTo (fun s => winsB vs (2 ^ vs.length - 1 - s)) (2 ^ vs.length) = countTo (fun s => !winsB vs s) (2 ^ vs.length) :=
    countTo_congr fun s hs => wins_compl vs s _ h (fun k hk => testBit_compl _ s k hs hk)
  have h3 := countTo_not (winsB vs) (2 ^ vs.length)
  unfold winTo
  omega
end Go.Proofs.Yteckffndboiknaa.Q
