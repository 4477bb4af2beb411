/-
  What one node's life chooses: the plain law of QuorumPrimary.
-/
import Derived.Test.YteckffndboiknaaPlainW
namespace Go.Proofs.Yteckffndboiknaa.Q

/-- A number cut to the first N bits, 1 in the place of 0. -/
def setN (x : Int) (N : Nat) : Nat := if (BitVec.ofInt 64 x).toNat &&& allOf N = 0 then 1 else (BitVec.ofInt 64 x).toNat &&& allOf N
theorem setN_bound (x : Int) (N : Nat) (h : 1 ≤ N) : 1 ≤ setN x N ∧ setN x N < 2 ^ N := by
  have hp : 2 ^ 1 ≤ 2 ^ N := Nat.pow_le_pow_right (by omega) h
  have hle : (BitVec.ofInt 64 x).toNat &&& allOf N ≤ allOf N := Nat.and_le_right
  unfold setN
  split
  · omega
  · unfold allOf at *; omega
theorem setN_all (N : Nat) (h1 : 1 ≤ N) (h : N ≤ 16) : setN ((allOf N : Nat) : Int) N = allOf N := by
  have hlt : allOf N < 65536 := by
    have : 2 ^ N ≤ 2 ^ 16 := Nat.pow_le_pow_right (by omega) h
    unfold allOf; omega
  have hp : 2 ^ 1 ≤ 2 ^ N := Nat.pow_le_pow_right (by omega) h1
  have e : (BitVec.ofInt 64 ((allOf N : Nat) : Int)).toNat = allOf N := by
    rw [BitVec.ofInt_natCast, BitVec.toNat_ofNat]; exact Nat.mod_eq_of_lt (by omega)
  unfold setN
  rw [e, Nat.and_self, if_neg (by unfold allOf; omega)]
/-- The sets that win, of the first k. -/
def selTo (vs ns : List Int) : Nat → List Int
  | 0 => []
  | k + 1 => if winsB vs (setN (nth ns k) vs.length) = true then selTo vs ns k ++ [((setN (nth ns k) vs.length : Nat) : Int)] else selTo vs ns k
theorem selTo_len (vs ns : List Int) : ∀ k, (selTo vs ns k).length ≤ k
  | 0 => Nat.le_refl _
  | k + 1 => by
    have := selTo_len vs ns k
    rw [selTo]
    split
    · rw [List.length_append, List.length_singleton]; omega
    · omega
theorem selTo_mem (vs ns : List Int) (hok : Ok vs) : ∀ k x, x ∈ selTo vs ns k → ∃ s : Nat, x = (s : Int) ∧ s < 2 ^ vs.length ∧ winsB vs s = true
  | 0, x, h => by cases h
  | k + 1, x, h => by
    rw [selTo] at h
    split at h
    · rename_i hw
      rcases List.mem_append.1 h with h | h
      · exact selTo_mem vs ns hok k x h
      · obtain rfl := List.mem_singleton.1 h
        exact ⟨_, rfl, (setN_bound _ _ hok.1).2, hw⟩
    · exact selTo_mem vs ns hok k x h
theorem selTo_step_yes {vs ns : List Int} {k : Nat} (h : winsB vs (setN (nth ns k) vs.length) = true) : selTo vs ns (k + 1) = selTo vs ns k ++ [((setN (nth ns k) vs.length : Nat) : Int)] := by rw [selTo, if_pos h]
theorem selTo_step_no {vs ns : List Int} {k : Nat} (h : winsB vs (setN (nth ns k) vs.length) = false) : selTo vs ns (k + 1) = selTo vs ns k := by rw [selTo, if_neg (by rw [h]; simp)]
theorem selTo_last {vs ns : List Int} (hok : Ok vs) {k : Nat} (h : nth ns k = ((allOf vs.length : Nat) : Int)) : selTo vs ns (k + 1) = selTo vs ns k ++ [((allOf vs.length : Nat) : Int)] := by
  have e := setN_all vs.length hok.1 hok.2.1
  rw [selTo_step_yes (by rw [h, e]; exact wins_all vs hok), h, e]
theorem selTo_first {vs ns : List Int} (hok : Ok vs) (h : nth ns 0 = ((allOf vs.length : Nat) : Int)) : ∀ k, ∃ l, selTo vs ns (k + 1) = ((allOf vs.length : Nat) : Int) :: l
  | 0 => ⟨[], by rw [selTo_last hok h]; rfl⟩
  | k + 1 => by
    obtain ⟨l, hl⟩ := selTo_first hok h k
    rw [selTo]
    split
    · exact ⟨l ++ _, by rw [hl]; rfl⟩
    · exact ⟨l, hl⟩
/-- Two winning sets share a bit. -/
theorem wins_and {vs : List Int} {a b : Nat} (hok : Ok vs) (ha : winsB vs a = true) (hb : winsB vs b = true) : a &&& b ≠ 0 := by
  obtain ⟨k, _, h1, h2⟩ := wins_meet vs a b hok ha hb
  intro h
  have : (a &&& b).testBit k = true := by rw [Nat.testBit_and, h1, h2]; rfl
  rw [h, Nat.zero_testBit] at this
  cases this
end Go.Proofs.Yteckffndboiknaa.Q
