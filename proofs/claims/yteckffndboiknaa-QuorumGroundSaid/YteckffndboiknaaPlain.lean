/-
  Plain facts on votes and sets of nodes (sets are numbers whose bits are the nodes): weights, the rule of half, complements. No program in sight.
-/
import Derived.Test.YteckffndboiknaaNum
namespace Go.Proofs.Yteckffndboiknaa.Q

/-- The weight of the first k nodes, of those in the set. -/
def wtTo (vs : List Int) (s : Nat) : Nat → Int
  | 0 => 0
  | k + 1 => wtTo vs s k + if s.testBit k then nth vs k else 0
def sumTo (vs : List Int) : Nat → Int
  | 0 => 0
  | k + 1 => sumTo vs k + nth vs k
def wt (vs : List Int) (s : Nat) : Int := wtTo vs s vs.length
def tot (vs : List Int) : Int := sumTo vs vs.length

/-- The lowest of the first k nodes that votes, -1 where none does. -/
def fstTo (vs : List Int) : Nat → Int
  | 0 => -1
  | k + 1 => if fstTo vs k < 0 ∧ 0 < nth vs k then (k : Int) else fstTo vs k
def fst (vs : List Int) : Nat := (fstTo vs vs.length).toNat

/-- Votes that can be. -/
def Ok (vs : List Int) : Prop := 1 ≤ vs.length ∧ vs.length ≤ 16 ∧ (∀ k, k < vs.length → 0 ≤ nth vs k ∧ nth vs k ≤ 9) ∧ tot vs ≠ 0

/-- The rule. -/
def winsB (vs : List Int) (s : Nat) : Bool := decide (tot vs < 2 * wt vs s) || (decide (2 * wt vs s = tot vs) && s.testBit (fst vs))

/-- All of the first n nodes. -/
def allOf (n : Nat) : Nat := 2 ^ n - 1

theorem testBit_allOf (n k : Nat) : (allOf n).testBit k = decide (k < n) := Nat.testBit_two_pow_sub_one n k

theorem wtTo_bound (vs : List Int) (s n : Nat) (h : ∀ k, k < n → 0 ≤ nth vs k ∧ nth vs k ≤ 9) : ∀ k, k ≤ n → 0 ≤ wtTo vs s k ∧ wtTo vs s k ≤ 9 * k := by
  intro k
  induction k with
  | zero => intro _; simp [wtTo]
  | succ k ih =>
    intro hk
    have := ih (by omega)
    have hv := h k (by omega)
    rw [wtTo]
    split <;> omega
theorem sumTo_bound (vs : List Int) (n : Nat) (h : ∀ k, k < n → 0 ≤ nth vs k ∧ nth vs k ≤ 9) : ∀ k, k ≤ n → 0 ≤ sumTo vs k ∧ sumTo vs k ≤ 9 * k := by
  intro k
  induction k with
  | zero => intro _; simp [sumTo]
  | succ k ih =>
    intro hk
    have := ih (by omega)
    have hv := h k (by omega)
    rw [sumTo]
    omega

theorem wtTo_all (vs : List Int) (s n : Nat) (h : ∀ k, k < n → s.testBit k = true) : wtTo vs s n = sumTo vs n := by
  induction n with
  | zero => rfl
  | succ n ih => rw [wtTo, sumTo, ih (fun k hk => h k (by omega)), h n (by omega)]; simp

theorem wt_all (vs : List Int) : wt vs (allOf vs.length) = tot vs := wtTo_all vs _ _ (fun k hk => by rw [testBit_allOf]; simpa using hk)

theorem wtTo_none (vs : List Int) (n : Nat) : wtTo vs 0 n = 0 := by
  induction n with
  | zero => rfl
  | succ n ih => rw [wtTo, ih]; simp

/-- A set and another that has, of the first n nodes, just those that the first has not. -/
theorem wtTo_compl (vs : List Int) (a b n : Nat) (h : ∀ k, k < n → b.testBit k = !a.testBit k) : wtTo vs a n + wtTo vs b n = sumTo vs n := by
  induction n with
  | zero => rfl
  | succ n ih =>
    have := ih (fun k hk => h k (by omega))
    rw [wtTo, wtTo, sumTo, h n (by omega)]
    cases a.testBit n <;> simp <;> omega

theorem wtTo_mono (vs : List Int) (a b n : Nat) (hv : ∀ k, k < n → 0 ≤ nth vs k) (h : ∀ k, k < n → a.testBit k = true → b.testBit k = true) : wtTo vs a n ≤ wtTo vs b n := by
  induction n with
  | zero => exact Int.le_refl _
  | succ n ih =>
    have := ih (fun k hk => hv k (by omega)) (fun k hk => h k (by omega))
    have h0 := hv n (by omega)
    have h1 := h n (by omega)
    rw [wtTo, wtTo]
    cases ha : a.testBit n
    · cases hb : b.testBit n <;> simp <;> omega
    · rw [h1 ha]; simp; omega

theorem fstTo_lt (vs : List Int) : ∀ n : Nat, fstTo vs n < n := by
  intro n
  induction n with
  | zero => simp [fstTo]
  | succ n ih => rw [fstTo]; split <;> omega
theorem fstTo_ge (vs : List Int) : ∀ n : Nat, -1 ≤ fstTo vs n := by
  intro n
  induction n with
  | zero => simp [fstTo]
  | succ n ih => rw [fstTo]; split <;> omega
/-- No node votes ahead of the lowest one. -/
theorem sumTo_zero_of (vs : List Int) : ∀ n, (∀ k, k < n → 0 ≤ nth vs k) → fstTo vs n < 0 → sumTo vs n = 0 := by
  intro n
  induction n with
  | zero => intros; rfl
  | succ n ih =>
    intro hv h
    rw [fstTo] at h
    split at h
    · omega
    · rename_i hn
      have h0 := hv n (by omega)
      rw [sumTo, ih (fun k hk => hv k (by omega)) h]
      have : ¬ 0 < nth vs n := fun hp => hn ⟨h, hp⟩
      omega
theorem fstTo_nonneg (vs : List Int) (h : Ok vs) : 0 ≤ fstTo vs vs.length := by
  rcases Int.lt_or_le (fstTo vs vs.length) 0 with hlt | hge
  · exact absurd (sumTo_zero_of vs _ (fun k hk => (h.2.2.1 k hk).1) hlt) h.2.2.2
  · exact hge
theorem fst_lt (vs : List Int) (h : Ok vs) : fst vs < vs.length := by
  have := fstTo_lt vs vs.length
  have := fstTo_nonneg vs h
  unfold fst; omega

theorem fstTo_skip (vs : List Int) (k : Nat) (h : fstTo vs k = -1) (hz : nth vs k = 0) : fstTo vs (k + 1) = -1 := by
  rw [fstTo, h, hz]; simp
theorem fstTo_keep (vs : List Int) (k : Nat) (h : 0 ≤ fstTo vs k) : ∀ j, fstTo vs (k + j) = fstTo vs k := by
  intro j
  induction j with
  | zero => rfl
  | succ j ih =>
    rw [← Nat.add_assoc, fstTo, ih, if_neg (by omega)]
theorem fst_hit (vs : List Int) (k n : Nat) (hk : k < n) (h : fstTo vs k = -1) (hp : 0 < nth vs k) : fstTo vs n = k := by
  have h1 : fstTo vs (k + 1) = k := by rw [fstTo, if_pos ⟨by omega, hp⟩]
  have := fstTo_keep vs (k + 1) (by omega) (n - (k + 1))
  rw [show k + 1 + (n - (k + 1)) = n from by omega] at this
  omega
/-- Of a set and its complement just one is quorate. -/
theorem wins_compl (vs : List Int) (a b : Nat) (hok : Ok vs) (h : ∀ k, k < vs.length → b.testBit k = !a.testBit k) : winsB vs b = !winsB vs a := by
  have hs : wt vs a + wt vs b = tot vs := wtTo_compl vs a b _ h
  have hf := h (fst vs) (fst_lt vs hok)
  unfold winsB
  rw [hf]
  by_cases h1 : tot vs < 2 * wt vs a
  · have e1 : ¬ tot vs < 2 * wt vs b := by omega
    have e2 : ¬ 2 * wt vs b = tot vs := by omega
    simp [h1, e1, e2]
  · by_cases h2 : 2 * wt vs a = tot vs
    · have e1 : ¬ tot vs < 2 * wt vs b := by omega
      have e2 : 2 * wt vs b = tot vs := by omega
      simp [h2, e2]
    · have e1 : tot vs < 2 * wt vs b := by omega
      simp [h1, e1, h2]
theorem wins_all (vs : List Int) (h : Ok vs) : winsB vs (allOf vs.length) = true := by
  have h0 := (sumTo_bound vs vs.length h.2.2.1 vs.length (Nat.le_refl _)).1
  have h1 := h.2.2.2
  unfold winsB
  rw [wt_all]
  have : tot vs < 2 * tot vs := by unfold tot at *; omega
  simp [this]
theorem wins_zero (vs : List Int) (h : Ok vs) : winsB vs 0 = false := by
  rw [wins_compl vs (allOf vs.length) 0 h (fun k hk => by rw [testBit_allOf]; simp [hk]), wins_all vs h]; rfl
theorem wins_mono (vs : List Int) (a b : Nat) (hok : Ok vs) (h : ∀ k, k < vs.length → a.testBit k = true → b.testBit k = true) (ha : winsB vs a = true) : winsB vs b = true := by
  have hm : wt vs a ≤ wt vs b := wtTo_mono vs a b _ (fun k hk => (hok.2.2.1 k hk).1) h
  have hf := h (fst vs) (fst_lt vs hok)
  unfold winsB at *
  simp only [Bool.or_eq_true, Bool.and_eq_true, decide_eq_true_eq] at *
  rcases ha with ha | ⟨ha, hb⟩
  · left; omega
  · by_cases e : 2 * wt vs b = tot vs
    · right; exact ⟨e, hf hb⟩
    · left; omega
/-- Two quorate sets share a node. -/
theorem wins_meet (vs : List Int) (a b : Nat) (hok : Ok vs) (ha : winsB vs a = true) (hb : winsB vs b = true) : ∃ k, k < vs.length ∧ a.testBit k = true ∧ b.testBit k = true := by
  refine Classical.byContradiction fun hno => ?_
  have hc : ∀ k, k < vs.length → a.testBit k = true → (allOf vs.length ^^^ b).testBit k = true := by
    intro k hk hak
    have : b.testBit k = false := by
      cases e : b.testBit k
      · rfl
      · exact absurd ⟨k, hk, hak, e⟩ hno
    rw [Nat.testBit_xor, testBit_allOf, this]; simp [hk]
  have h1 := wins_mono vs a _ hok hc ha
  rw [wins_compl vs b (allOf vs.length ^^^ b) hok (fun k hk => by rw [Nat.testBit_xor, testBit_allOf]; simp [hk]), hb] at h1
  simp at h1


open Classical in
/-- The error of votes: 0 or 110. -/
noncomputable def chkE (vs : List Int) : Int := if Ok vs then 0 else 110
theorem chkE_ok {vs : List Int} (h : Ok vs) : chkE vs = 0 := by unfold chkE; rw [if_pos h]
theorem chkE_bad {vs : List Int} (h : ¬ Ok vs) : chkE vs = 110 := by unfold chkE; rw [if_neg h]
theorem chkE_01 (vs : List Int) : chkE vs = 0 ∧ Ok vs ∨ chkE vs = 110 ∧ ¬ Ok vs := by
  by_cases h : Ok vs
  · exact .inl ⟨chkE_ok h, h⟩
  · exact .inr ⟨chkE_bad h, h⟩
/-- The first k votes are from 0 to 9. -/
def Fine (vs : List Int) (k : Nat) : Prop := ∀ j, j < k → 0 ≤ nth vs j ∧ nth vs j ≤ 9
theorem Fine.zero (vs : List Int) : Fine vs 0 := fun _ h => absurd h (by omega)
theorem Fine.succ {vs : List Int} {k : Nat} (h : Fine vs k) (h0 : 0 ≤ nth vs k) (h9 : nth vs k ≤ 9) : Fine vs (k + 1) := by
  intro j hj
  by_cases e : j = k
  · subst e; exact ⟨h0, h9⟩
  · exact h j (by omega)
theorem not_ok_len {vs : List Int} (h : vs.length < 1 ∨ 16 < vs.length) : ¬ Ok vs := by
  rintro ⟨h1, h2, _⟩; omega
theorem not_ok_at {vs : List Int} {k : Nat} (hk : k < vs.length) (h : nth vs k < 0 ∨ 9 < nth vs k) : ¬ Ok vs := by
  rintro ⟨_, _, h3, _⟩
  have := h3 k hk
  omega
theorem not_ok_sum {vs : List Int} (h : tot vs = 0) : ¬ Ok vs := fun h' => h'.2.2.2 h
theorem ok_mk {vs : List Int} (h1 : 1 ≤ vs.length) (h2 : vs.length ≤ 16) (h3 : Fine vs vs.length) (h4 : tot vs ≠ 0) : Ok vs := ⟨h1, h2, h3, h4⟩

/-- A rising list of nodes as bits: what stands after k of its numbers: the bits, and the last one. -/
def packTo (ss : List Int) (n : Nat) : Nat → Option (Nat × Int)
  | 0 => some (0, -1)
  | k + 1 => match packTo ss n k with
    | none => none
    | some (b, l) => if nth ss k ≤ l ∨ (n : Int) ≤ nth ss k then none else some (b ||| 2 ^ (nth ss k).toNat, nth ss k)
def pack (ss : List Int) (n : Nat) : Option Nat := (packTo ss n ss.length).map (·.1)
theorem packTo_bad {ss : List Int} {n k b : Nat} {l : Int} (h : packTo ss n k = some (b, l)) (hb : nth ss k ≤ l ∨ (n : Int) ≤ nth ss k) : packTo ss n (k + 1) = none := by
  rw [packTo, h]; simp only; rw [if_pos hb]
theorem packTo_good {ss : List Int} {n k b : Nat} {l : Int} (h : packTo ss n k = some (b, l)) (h1 : l < nth ss k) (h2 : nth ss k < n) : packTo ss n (k + 1) = some (b ||| 2 ^ (nth ss k).toNat, nth ss k) := by
  rw [packTo, h]; simp only; rw [if_neg (by omega)]
theorem packTo_none {ss : List Int} {n k : Nat} (h : packTo ss n k = none) : ∀ j, packTo ss n (k + j) = none := by
  intro j
  induction j with
  | zero => exact h
  | succ j ih => rw [← Nat.add_assoc, packTo, ih]
theorem pack_none {ss : List Int} {n k : Nat} (h : packTo ss n k = none) (hk : k ≤ ss.length) : pack ss n = none := by
  have := packTo_none h (ss.length - k)
  rw [show k + (ss.length - k) = ss.length from by omega] at this
  unfold pack; rw [this]; rfl
theorem packTo_inv {ss : List Int} {n : Nat} : ∀ {k b : Nat} {l : Int}, packTo ss n k = some (b, l) → -1 ≤ l ∧ l < n ∧ b < 2 ^ (l + 1).toNat ∧ k ≤ (l + 1).toNat := by
  intro k
  induction k with
  | zero =>
    intro b l h
    simp only [packTo, Option.some.injEq, Prod.mk.injEq] at h
    obtain ⟨rfl, rfl⟩ := h
    exact ⟨by omega, by omega, by decide, by omega⟩
  | succ k ih =>
    intro b l h
    rw [packTo] at h
    cases hp : packTo ss n k with
    | none => rw [hp] at h; simp at h
    | some x =>
      obtain ⟨b0, l0⟩ := x
      rw [hp] at h
      simp only at h
      obtain ⟨i1, i2, i3, i4⟩ := ih hp
      split at h
      · simp at h
      · rename_i hc
        simp only [Option.some.injEq, Prod.mk.injEq] at h
        obtain ⟨rfl, rfl⟩ := h
        refine ⟨by omega, by omega, ?_, by omega⟩
        have e : (nth ss k + 1).toNat = (nth ss k).toNat + 1 := by omega
        rw [e]
        refine Nat.or_lt_two_pow (Nat.lt_of_lt_of_le i3 (Nat.pow_le_pow_right (by omega) (by omega))) (Nat.pow_lt_pow_right (by omega) (by omega))
theorem pack_lt {ss : List Int} {n b : Nat} (h : pack ss n = some b) : b < 2 ^ n := by
  unfold pack at h
  cases hp : packTo ss n ss.length with
  | none => rw [hp] at h; simp at h
  | some x =>
    obtain ⟨b0, l0⟩ := x
    rw [hp] at h
    simp at h
    subst h
    obtain ⟨i1, i2, i3, _⟩ := packTo_inv hp
    exact Nat.lt_of_lt_of_le i3 (Nat.pow_le_pow_right (by omega) (by omega))
/-- A bit above all others: or is sum. -/
theorem or_is_add (b i j : Nat) (h : b < 2 ^ i) (hij : i ≤ j) : b ||| 2 ^ j = b + 2 ^ j := by
  have h1 : b < 2 ^ j := Nat.lt_of_lt_of_le h (Nat.pow_le_pow_right (by omega) hij)
  have := Nat.two_pow_add_eq_or_of_lt h1 1
  rw [Nat.mul_one] at this
  rw [Nat.or_comm, ← this, Nat.add_comm]

/-- What Quorate tells: whether, and the error. -/
noncomputable def quoE (vs ss : List Int) : Int := if chkE vs = 0 then (if (pack ss vs.length).isSome then 0 else 1) else chkE vs
noncomputable def quoB (vs ss : List Int) : Bool := if chkE vs = 0 then (match pack ss vs.length with | some b => winsB vs b | none => false) else false
theorem quo_bad {vs ss : List Int} (h : ¬ Ok vs) : quoE vs ss = 110 ∧ quoB vs ss = false := by
  simp [quoE, quoB, chkE_bad h]
theorem quo_none {vs ss : List Int} (h : Ok vs) (hp : pack ss vs.length = none) : quoE vs ss = 1 ∧ quoB vs ss = false := by
  simp [quoE, quoB, chkE_ok h, hp]
theorem quo_some {vs ss : List Int} {b : Nat} (h : Ok vs) (hp : pack ss vs.length = some b) : quoE vs ss = 0 ∧ quoB vs ss = winsB vs b := by
  simp [quoE, quoB, chkE_ok h, hp]

/-! ### Lists that are made step by step -/
theorem nth_front (a b : List Int) (k : Nat) (h : k < a.length) : nth (a ++ b) k = nth a k := by
  simp [nth, List.getD, List.getElem?_append_left h]
theorem nth_last (a : List Int) (x : Int) : nth (a ++ [x]) a.length = x := by
  simp [nth, List.getD]
theorem sumTo_front (a b : List Int) : ∀ k, k ≤ a.length → sumTo (a ++ b) k = sumTo a k := by
  intro k
  induction k with
  | zero => intro _; rfl
  | succ k ih => intro hk; rw [sumTo, sumTo, ih (by omega), nth_front a b k (by omega)]
theorem tot_snoc (a : List Int) (x : Int) : tot (a ++ [x]) = tot a + x := by
  unfold tot
  rw [List.length_append, List.length_singleton, sumTo, sumTo_front a [x] _ (Nat.le_refl _), nth_last]
theorem fine_snoc {a : List Int} {x : Int} (h : Fine a a.length) (h0 : 0 ≤ x) (h9 : x ≤ 9) : Fine (a ++ [x]) (a ++ [x]).length := by
  rw [List.length_append, List.length_singleton]
  intro j hj
  by_cases e : j = a.length
  · subst e; rw [nth_last]; exact ⟨h0, h9⟩
  · rw [nth_front a [x] j (by omega)]; exact h j (by omega)
theorem sumTo_pos (a : List Int) : ∀ k, (∀ j, j < k → 0 ≤ nth a j) → 0 < k → 0 < nth a 0 → 0 < sumTo a k := by
  intro k
  induction k with
  | zero => intro _ h; exact absurd h (by omega)
  | succ k ih =>
    intro hv _ h0
    have hk := hv k (by omega)
    rw [sumTo]
    by_cases e : k = 0
    · subst e; simp only [sumTo]; omega
    · have := ih (fun j hj => hv j (by omega)) (by omega) h0
      omega
theorem nth_cons_zero (x : Int) (a : List Int) : nth (x :: a) 0 = x := rfl
theorem nth_cons_succ (x : Int) (a : List Int) (k : Nat) : nth (x :: a) (k + 1) = nth a k := rfl
theorem nth_take (a : List Int) (m k : Nat) (h : k < m) : nth (a.take m) k = nth a k := by
  simp [nth, List.getD, h]
/-- A one laid ahead of fitting votes, cut at 16: they can be. -/
theorem ok_one_ahead {a : List Int} (h : Fine a a.length) : Ok ((1 :: a).take 16) := by
  have hfine : ∀ j, j < ((1 :: a).take 16).length → 0 ≤ nth ((1 :: a).take 16) j ∧ nth ((1 :: a).take 16) j ≤ 9 := by
    intro j hj
    simp only [List.length_take, List.length_cons] at hj
    rw [nth_take _ _ _ (by omega)]
    cases j with
    | zero => rw [nth_cons_zero]; omega
    | succ j => rw [nth_cons_succ]; exact h j (by omega)
  refine ⟨by rw [List.length_take, List.length_cons]; omega, by rw [List.length_take, List.length_cons]; omega, hfine, ?_⟩
  have := sumTo_pos _ _ (fun j hj => (hfine j hj).1) (by simp) (by rw [nth_take _ _ _ (by omega), nth_cons_zero]; omega)
  unfold tot
  omega
theorem tmod10 (x : Int) : -9 ≤ x.tmod 10 ∧ x.tmod 10 ≤ 9 := by
  have h1 := Int.tmod_lt_of_pos x (show (0 : Int) < 10 by omega)
  have h2 := Int.lt_tmod_of_pos x (show (0 : Int) < 10 by omega)
  omega

end Go.Proofs.Yteckffndboiknaa.Q
