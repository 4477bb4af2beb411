/-
  Counts read: which texts are counts, and that what was written as a count is read as it.
-/
import Derived.Test.YtcibcmfaebbhnaaDoorDig
import Derived.Lib.ParseIntBCases
set_option linter.unusedVariables false
set_option linter.unusedSimpArgs false
namespace Go.Proofs.YtcibcmfaebbhnaaDoor
open Go.RowKit Go.WideShapes Go.ChangeShapes Q

def isD (c : UInt8) : Bool := decide (48 ≤ c.toNat ∧ c.toNat ≤ 57)
def valD (a : Nat) (l : List UInt8) : Nat := l.foldl (fun a c => 10 * a + (c.toNat - 48)) a
theorem valD_snoc (a : Nat) (l : List UInt8) (c : UInt8) : valD a (l ++ [c]) = 10 * valD a l + (c.toNat - 48) := by simp [valD]
theorem valD_ge : ∀ (l : List UInt8) (a : Nat), a ≤ valD a l
  | [], a => Nat.le_refl _
  | c :: l, a => by
    have := valD_ge l (10 * a + (c.toNat - 48))
    show a ≤ valD (10 * a + (c.toNat - 48)) l
    omega
theorem valD_app (a : Nat) (l r : List UInt8) : valD a (l ++ r) = valD (valD a l) r := by simp [valD]
theorem valD_lt : ∀ (l : List UInt8) (a k : Nat), (∀ c ∈ l, isD c = true) → a < 10 ^ k → valD a l < 10 ^ (k + l.length)
  | [], a, k, _, h => h
  | c :: l, a, k, hd, h => by
    have hc : isD c = true := hd c (by simp)
    unfold isD at hc
    have hc := of_decide_eq_true hc
    have := valD_lt l (10 * a + (c.toNat - 48)) (k + 1) (fun x hx => hd x (by simp [hx])) (by
      rw [Nat.pow_succ]
      omega)
    rw [List.length_cons, show k + (l.length + 1) = k + 1 + l.length by omega]
    exact this
/-- The count that a text is. -/
def cnt (l : List UInt8) : Option Nat :=
  if l = [] ∨ 19 < l.length ∨ (1 < l.length ∧ l.head? = some 48) then none else if l.all isD = true then (if valD 0 l ≤ 4611686018427387904 then some (valD 0 l) else none) else none
def cntZ (l : List UInt8) : Int := match cnt l with | some n => (n : Int) | none => -1
theorem cnt_le {l : List UInt8} {n : Nat} (h : cnt l = some n) : n ≤ 4611686018427387904 := by
  unfold cnt at h
  split at h
  · cases h
  · split at h
    · split at h
      · injection h with h; omega
      · cases h
    · cases h
/-- What ParseUint gives of at most 19 digits. -/
theorem parse_ok : ∀ (l : List UInt8) (a k : Nat), (∀ c ∈ l, isD c = true) → a < 10 ^ k → k + l.length ≤ 19 → Lib.parseUintM (2 ^ 64 - 1) a l = .ok (valD a l)
  | [], a, k, _, _, _ => rfl
  | c :: l, a, k, hd, ha, hk => by
    have hc : isD c = true := hd c (by simp)
    unfold isD at hc
    have hc := of_decide_eq_true hc
    rw [List.length_cons] at hk
    have h18 : 10 ^ k ≤ 10 ^ 18 := Nat.pow_le_pow_right (by omega) (by omega)
    have e18 : (10 : Nat) ^ 18 = 1000000000000000000 := by decide
    rw [Lib.parseUintM, if_pos hc, if_neg (by omega), if_neg (by omega)]
    rw [parse_ok l (a * 10 + (c.toNat - 48)) (k + 1) (fun x hx => hd x (by simp [hx])) (by rw [Nat.pow_succ]; omega) (by omega)]
    rw [Nat.mul_comm a 10]
    rfl
theorem parse_cnt {l : List UInt8} (h0 : l ≠ []) (h19 : l.length ≤ 19) (hd : l.all isD = true) : Lib.parseUintB 64 l = .ok (valD 0 l) := by
  unfold Lib.parseUintB
  rw [if_neg h0]
  exact parse_ok l 0 0 (fun c hc => by rw [List.all_eq_true] at hd; exact hd c hc) (by decide) (by omega)
/-- Digits written. -/
theorem dig_byte {d : Nat} (h : d < 10) : isD (UInt8.ofNat (48 + d)) = true ∧ (UInt8.ofNat (48 + d)).toNat - 48 = d ∧ (UInt8.ofNat (48 + d) = 48 → d = 0) := by
  have : ∀ d : Fin 10, isD (UInt8.ofNat (48 + d.val)) = true ∧ (UInt8.ofNat (48 + d.val)).toNat - 48 = d.val ∧ (UInt8.ofNat (48 + d.val) = 48 → d.val = 0) := by decide +kernel
  exact this ⟨d, h⟩
theorem dec_facts : ∀ (n : Nat), Lib.decDigits n ≠ [] ∧ (Lib.decDigits n).all isD = true ∧ valD 0 (Lib.decDigits n) = n ∧ (0 < n → (Lib.decDigits n).head? ≠ some 48) := by
  intro n
  induction n using Nat.strongRecOn with
  | ind n ih =>
    by_cases h : n < 10
    · obtain ⟨h1, h2, h3⟩ := dig_byte h
      rw [dec_lt h]
      refine ⟨List.cons_ne_nil _ _, by rw [List.all_cons, h1]; rfl, ?_, fun h0 e => ?_⟩
      · show 10 * 0 + ((UInt8.ofNat (48 + n)).toNat - 48) = n
        omega
      · have := h3 (Option.some.inj e)
        omega
    · obtain ⟨i1, i2, i3, i4⟩ := ih (n / 10) (by omega)
      obtain ⟨h1, h2, h3⟩ := dig_byte (show n % 10 < 10 by omega)
      rw [dec_ge h]
      refine ⟨by simp, by rw [List.all_append, i2, List.all_cons, h1]; rfl, by rw [valD_snoc, i3, h2]; omega, fun _ => ?_⟩
      have i4' := i4 (by omega)
      cases hq : Lib.decDigits (n / 10) with
      | nil => exact absurd hq i1
      | cons x r => rw [hq] at i4'; exact i4'
theorem cnt_dec {n : Nat} (h : n ≤ 4611686018427387904) : cnt (Lib.decDigits n) = some n := by
  obtain ⟨h1, h2, h3, h4⟩ := dec_facts n
  have hl := dec_len19 (n := n) (by omega)
  unfold cnt
  rw [if_neg, if_pos h2, h3, if_pos h]
  rintro (h' | h' | ⟨h5, h6⟩)
  · exact h1 h'
  · omega
  · rcases Nat.eq_zero_or_pos n with h0 | h0
    · subst h0
      rw [dec_lt (by omega)] at h5
      simp at h5
    · exact h4 h0 h6
end Go.Proofs.YtcibcmfaebbhnaaDoor
