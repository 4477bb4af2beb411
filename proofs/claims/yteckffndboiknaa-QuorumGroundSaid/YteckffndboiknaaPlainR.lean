/-
  Plain facts on grounds: a set wins just where it holds a minimal one; no minimal set holds another; a list of nodes put together is its set.
-/
import Derived.Test.YteckffndboiknaaPlainG
set_option linter.unusedVariables false
set_option linter.unusedSimpArgs false
namespace Go.Proofs.Yteckffndboiknaa
open Go.RowKit Go.WideShapes Go.ChangeShapes Q

/-- The minimal sets, in the reference's order. -/
def mSets (vs : List Int) : List Nat := fromN vs true vs.length 0
theorem minL_sets (vs : List Int) : minL vs = (mSets vs).map fun m => listTo m vs.length := rfl
theorem mem_sets {vs : List Int} (hok : Ok vs) {m : Nat} : m ∈ mSets vs ↔ m < 2 ^ vs.length ∧ minB vs m = true := by
  have h := (from_spec hok vs.length 0 (Nat.le_refl _) (Nat.pow_pos (by omega))).1.1
  unfold mSets
  rw [h m, Nat.sub_self]
  constructor
  · rintro ⟨a, b, _, _⟩; exact ⟨a, b⟩
  · rintro ⟨a, b⟩; exact ⟨a, b, Nat.mod_one m, fun h => by cases h⟩
theorem sets_nodup {vs : List Int} (hok : Ok vs) : (mSets vs).Nodup := by
  have h := (from_spec hok vs.length 0 (Nat.le_refl _) (Nat.pow_pos (by omega))).1.2
  refine List.Pairwise.imp ?_ h
  intro a b hab e
  subst e
  rw [lexB_irrefl] at hab
  cases hab
theorem sub_bits {a m : Nat} (h : a &&& m = m) {k : Nat} (hk : m.testBit k = true) : a.testBit k = true := by
  rw [← h, Nat.testBit_and, Bool.and_eq_true] at hk
  exact hk.1
theorem bits_sub {n a m : Nat} (hm : m < 2 ^ n) (h : ∀ k, k < n → m.testBit k = true → a.testBit k = true) : a &&& m = m := by
  apply Nat.eq_of_testBit_eq
  intro k
  rw [Nat.testBit_and]
  by_cases hk : k < n
  · cases hb : m.testBit k with
    | false => simp
    | true => rw [h k hk hb]; rfl
  · have : m.testBit k = false := Nat.testBit_lt_two_pow (Nat.lt_of_lt_of_le hm (Nat.pow_le_pow_right (by omega) (by omega)))
    rw [this]
    simp
theorem lean_or (vs : List Int) (s : Nat) : ∀ n, leanTo vs s n = true ∨ ∃ k, k < n ∧ s.testBit k = true ∧ winsB vs (s - 2 ^ k) = true
  | 0 => .inl rfl
  | n + 1 => by
    rcases lean_or vs s n with h | ⟨k, h1, h2, h3⟩
    · cases hb : (s.testBit n && winsB vs (s - 2 ^ n)) with
      | false => left; rw [leanTo, h, hb]; rfl
      | true => rw [Bool.and_eq_true] at hb; exact .inr ⟨n, by omega, hb.1, hb.2⟩
    · exact .inr ⟨k, by omega, h2, h3⟩
/-- A winning set holds a minimal one. -/
theorem ground_of {vs : List Int} (hok : Ok vs) : ∀ (s : Nat), s < 2 ^ vs.length → winsB vs s = true → ∃ m, m ∈ mSets vs ∧ s &&& m = m := by
  intro s
  induction s using Nat.strongRecOn with
  | _ s ih =>
    intro hs hw
    rcases lean_or vs s vs.length with h | ⟨k, hk, hb, hw2⟩
    · exact ⟨s, (mem_sets hok).2 ⟨hs, by unfold minB; rw [hw, h]; rfl⟩, Nat.and_self s⟩
    · have hle : 2 ^ k ≤ s := Nat.ge_two_pow_of_testBit hb
      have hp : 0 < 2 ^ k := Nat.pow_pos (by omega)
      obtain ⟨m, hm, he⟩ := ih (s - 2 ^ k) (by omega) (by omega) hw2
      refine ⟨m, hm, bits_sub ((mem_sets hok).1 hm).1 fun j hj hmj => ?_⟩
      have := sub_bits he hmj
      rw [testBit_sub s k j hb, Bool.and_eq_true] at this
      exact this.1
theorem min_wins {vs : List Int} {m : Nat} (h : minB vs m = true) : winsB vs m = true := by unfold minB at h; rw [Bool.and_eq_true] at h; exact h.1
/-- Does a hold one of these? -/
def holdsB (a : Nat) (l : List Nat) : Bool := l.any fun m => a &&& m == m
theorem holds_wins {vs : List Int} (hok : Ok vs) {a : Nat} (ha : a < 2 ^ vs.length) : holdsB a (mSets vs) = winsB vs a := by
  unfold holdsB
  cases hw : winsB vs a with
  | true =>
    obtain ⟨m, hm, he⟩ := ground_of hok a ha hw
    exact List.any_eq_true.2 ⟨m, hm, by rw [he]; exact beq_self_eq_true m⟩
  | false =>
    rw [List.any_eq_false]
    intro m hm h
    have h1 := (mem_sets hok).1 hm
    have := wins_mono vs m a hok (fun k hk hb => sub_bits (by simpa using h) hb) (min_wins h1.2)
    rw [hw] at this
    cases this
theorem sets_ne {vs : List Int} (hok : Ok vs) : 0 < (mSets vs).length := by
  obtain ⟨m, hm, _⟩ := ground_of hok (allOf vs.length) (by unfold allOf; have := Nat.pow_pos (n := vs.length) (show 0 < 2 by omega); omega) (wins_all vs hok)
  exact List.length_pos_of_mem hm
/-- No minimal set holds another. -/
theorem sets_apart {vs : List Int} (hok : Ok vs) {j k : Nat} {a b : Nat} (hj : (mSets vs)[j]? = some a) (hk : (mSets vs)[k]? = some b) (hne : j ≠ k) : (b &&& a == a) = false ∧ (b &&& a == b) = false := by
  have ha := (mem_sets hok).1 (List.mem_of_getElem? hj)
  have hb := (mem_sets hok).1 (List.mem_of_getElem? hk)
  have hab : a ≠ b := by
    have hp := List.pairwise_iff_getElem.1 (sets_nodup hok)
    obtain ⟨hjl, hje⟩ := List.getElem?_eq_some_iff.1 hj
    obtain ⟨hkl, hke⟩ := List.getElem?_eq_some_iff.1 hk
    rcases Nat.lt_or_ge j k with h1 | h1
    · have := hp j k hjl hkl h1
      rw [hje, hke] at this
      exact this
    · have := hp k j hkl hjl (by omega)
      rw [hje, hke] at this
      exact fun e => this e.symm
  constructor
  · rw [beq_eq_false_iff_ne]
    intro h
    exact hab (min_eq hok ha.1 hb.1 hb.2 (min_wins ha.2) fun k _ hk => sub_bits h hk)
  · rw [beq_eq_false_iff_ne]
    intro h
    rw [Nat.and_comm] at h
    exact hab (min_eq hok hb.1 ha.1 ha.2 (min_wins hb.2) fun k _ hk => sub_bits h hk).symm

/-- Nodes put together. -/
def orL (l : List Int) : Nat := l.foldl (fun a x => a ||| 2 ^ x.toNat) 0
theorem orL_snoc (l : List Int) (x : Int) : orL (l ++ [x]) = orL l ||| 2 ^ x.toNat := by simp [orL]
theorem orL_to (m : Nat) : ∀ n, orL (listTo m n) = m % 2 ^ n
  | 0 => by rw [Nat.pow_zero, Nat.mod_one]; rfl
  | n + 1 => by
    rw [listTo, mod_pow_succ]
    split
    · have h1 : m % 2 ^ n < 2 ^ n := Nat.mod_lt _ (Nat.pow_pos (by omega))
      have h2 := Nat.two_pow_add_eq_or_of_lt h1 1
      rw [orL_snoc, orL_to m n, Int.toNat_natCast, Nat.or_comm]
      rw [Nat.mul_one] at h2
      omega
    · rw [orL_to m n]; omega
theorem orL_list {m n : Nat} (h : m < 2 ^ n) : orL (listTo m n) = m := by rw [orL_to, Nat.mod_eq_of_lt h]
theorem listTo_at (m : Nat) : ∀ (n i : Nat), i < (listTo m n).length → ∃ b, b < n ∧ nth (listTo m n) i = ((b : Nat) : Int)
  | 0, i, h => by cases h
  | n + 1, i, h => by
    rw [listTo] at h ⊢
    split at h <;> rename_i hb
    · rw [if_pos hb]
      by_cases e : i < (listTo m n).length
      · obtain ⟨b, h1, h2⟩ := listTo_at m n i e
        refine ⟨b, by omega, ?_⟩
        rw [← h2]
        simp [nth, List.getElem?_append_left e]
      · have e2 : i = (listTo m n).length := by simp at h; omega
        exact ⟨n, by omega, by simp [nth, e2]⟩
    · rw [if_neg hb]
      obtain ⟨b, h1, h2⟩ := listTo_at m n i h
      exact ⟨b, by omega, h2⟩
theorem orL_step {l : List Int} {i b : Nat} (hi : i < l.length) (h : nth l i = ((b : Nat) : Int)) : orL (l.take (i + 1)) = orL (l.take i) ||| 2 ^ b := by
  have : l.take (i + 1) = l.take i ++ [nth l i] := by
    rw [List.take_add_one]
    simp [nth, hi]
  rw [this, orL_snoc, h, Int.toNat_natCast]
theorem orL_lt {n : Nat} : ∀ (l : List Int), (∀ x ∈ l, ∃ b, b < n ∧ x = ((b : Nat) : Int)) → orL l < 2 ^ n := by
  intro l
  unfold orL
  suffices ∀ (l : List Int) (a : Nat), a < 2 ^ n → (∀ x ∈ l, ∃ b, b < n ∧ x = ((b : Nat) : Int)) → l.foldl (fun a x => a ||| 2 ^ x.toNat) a < 2 ^ n by
    intro h
    exact this l 0 (Nat.pow_pos (by omega)) h
  intro l
  induction l with
  | nil => intro a ha _; exact ha
  | cons x l ih =>
    intro a ha h
    obtain ⟨b, hb, rfl⟩ := h x (by simp)
    refine ih _ (Nat.or_lt_two_pow ha ?_) fun y hy => h y (by simp [hy])
    rw [Int.toNat_natCast]
    exact Nat.pow_lt_pow_right (by omega) hb
theorem holdsB_step {a j m : Nat} {l : List Nat} (h : l[j]? = some m) : holdsB a (l.take (j + 1)) = (holdsB a (l.take j) || (a &&& m == m)) := by
  unfold holdsB
  rw [List.take_add_one, h, List.any_append]
  simp
theorem holdsB_full {a : Nat} {l : List Nat} : holdsB a (l.take l.length) = holdsB a l := by rw [List.take_length]
end Go.Proofs.Yteckffndboiknaa
