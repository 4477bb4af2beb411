/-
  Plain facts on standings (node, epoch, length): which goes furthest; the list turned round names the same one.
-/
namespace Go.Proofs.Yteckffndboiknaa.Q

def pidA (l : List (Int × Int × Int)) (k : Nat) : Int := (l.getD k (0, 0, 0)).1
def epA (l : List (Int × Int × Int)) (k : Nat) : Int := (l.getD k (0, 0, 0)).2.1
def lenA (l : List (Int × Int × Int)) (k : Nat) : Int := (l.getD k (0, 0, 0)).2.2

/-- Does a standing go further than another? -/
def furB (a1 a2 a3 b1 b2 b3 : Int) : Bool := if a2 ≠ b2 then decide (b2 < a2) else if a3 ≠ b3 then decide (b3 < a3) else decide (a1 < b1)
def furA (l : List (Int × Int × Int)) (i j : Nat) : Bool := furB (pidA l i) (epA l i) (lenA l i) (pidA l j) (epA l j) (lenA l j)

/-- A standing's numbers are in their ranges. -/
def Fit (l : List (Int × Int × Int)) (k : Nat) : Prop := (0 ≤ pidA l k ∧ pidA l k < 16) ∧ (0 ≤ epA l k ∧ epA l k ≤ 4611686018427387904) ∧ (0 ≤ lenA l k ∧ lenA l k ≤ 4611686018427387904)
/-- Has one of the first k this node's number? -/
def seenTo (l : List (Int × Int × Int)) (p : Int) : Nat → Bool
  | 0 => false
  | k + 1 => seenTo l p k || decide (pidA l k = p)
theorem seenTo_iff (l : List (Int × Int × Int)) (p : Int) : ∀ k, seenTo l p k = true ↔ ∃ j, j < k ∧ pidA l j = p := by
  intro k
  induction k with
  | zero => simp [seenTo]
  | succ k ih =>
    rw [seenTo, Bool.or_eq_true, ih, decide_eq_true_eq]
    constructor
    · rintro (⟨j, h1, h2⟩ | h)
      · exact ⟨j, by omega, h2⟩
      · exact ⟨k, by omega, h⟩
    · rintro ⟨j, h1, h2⟩
      by_cases e : j = k
      · subst e; exact .inr h2
      · exact .inl ⟨j, by omega, h2⟩
/-- The first k are fitting, and of k nodes. -/
def Good (l : List (Int × Int × Int)) (k : Nat) : Prop := ∀ i, i < k → Fit l i ∧ seenTo l (pidA l i) i = false
theorem Good.zero (l : List (Int × Int × Int)) : Good l 0 := fun i h => absurd h (by omega)
theorem Good.succ {l : List (Int × Int × Int)} {k : Nat} (h : Good l k) (h1 : Fit l k) (h2 : seenTo l (pidA l k) k = false) : Good l (k + 1) := by
  intro i hi
  by_cases e : i = k
  · subst e; exact ⟨h1, h2⟩
  · exact h i (by omega)
/-- Of the first k the place of the one that goes furthest. -/
def bestTo (l : List (Int × Int × Int)) : Nat → Nat
  | 0 => 0
  | k + 1 => if furA l k (bestTo l k) = true then k else bestTo l k
theorem bestTo_lt (l : List (Int × Int × Int)) : ∀ k, 0 < k → bestTo l k < k := by
  intro k
  induction k with
  | zero => intro h; omega
  | succ k ih =>
    intro _
    rw [bestTo]
    split
    · omega
    · by_cases e : k = 0
      · subst e; simp [bestTo]
      · have := ih (by omega); omega
def BestOk (l : List (Int × Int × Int)) : Prop := 1 ≤ l.length ∧ l.length ≤ 16 ∧ Good l l.length
open Classical in
noncomputable def bestE (l : List (Int × Int × Int)) : Int := if BestOk l then 0 else 1
open Classical in
noncomputable def bestI (l : List (Int × Int × Int)) : Nat := if BestOk l then bestTo l l.length else 0
theorem best_ok {l : List (Int × Int × Int)} (h : BestOk l) : bestE l = 0 ∧ bestI l = bestTo l l.length := by
  unfold bestE bestI; rw [if_pos h, if_pos h]; exact ⟨rfl, rfl⟩
theorem best_bad {l : List (Int × Int × Int)} (h : ¬ BestOk l) : bestE l = 1 ∧ bestI l = 0 := by
  unfold bestE bestI; rw [if_neg h, if_neg h]; exact ⟨rfl, rfl⟩
theorem bad_len {l : List (Int × Int × Int)} (h : l.length < 1 ∨ 16 < l.length) : ¬ BestOk l := by rintro ⟨h1, h2, _⟩; omega
theorem bad_at {l : List (Int × Int × Int)} {k : Nat} (hk : k < l.length) (h : ¬ Fit l k ∨ seenTo l (pidA l k) k = true) : ¬ BestOk l := by
  rintro ⟨_, _, h3⟩
  obtain ⟨h4, h5⟩ := h3 k hk
  rcases h with h | h
  · exact h h4
  · rw [h5] at h; cases h

/-! ### Turned round -/
theorem furB_irrefl (a b c : Int) : furB a b c a b c = false := by simp [furB]
theorem furB_asymm {a1 a2 a3 b1 b2 b3 : Int} (h : furB a1 a2 a3 b1 b2 b3 = true) : furB b1 b2 b3 a1 a2 a3 = false := by
  unfold furB at *
  by_cases h2 : a2 = b2
  · subst h2
    by_cases h3 : a3 = b3
    · subst h3; simp at h ⊢; omega
    · have : ¬ b3 = a3 := fun q => h3 q.symm
      simp [h3, this] at h ⊢; omega
  · have : ¬ b2 = a2 := fun q => h2 q.symm
    simp [h2, this] at h ⊢; omega
theorem furB_total {a1 a2 a3 b1 b2 b3 : Int} (hne : a1 ≠ b1) (h : furB a1 a2 a3 b1 b2 b3 = false) : furB b1 b2 b3 a1 a2 a3 = true := by
  unfold furB at *
  by_cases h2 : a2 = b2
  · subst h2
    by_cases h3 : a3 = b3
    · subst h3; simp at h ⊢; omega
    · have : ¬ b3 = a3 := fun q => h3 q.symm
      simp [h3, this] at h ⊢; omega
  · have : ¬ b2 = a2 := fun q => h2 q.symm
    simp [h2, this] at h ⊢; omega
theorem furB_iff (a1 a2 a3 b1 b2 b3 : Int) : furB a1 a2 a3 b1 b2 b3 = true ↔ (b2 < a2 ∨ (a2 = b2 ∧ (b3 < a3 ∨ (a3 = b3 ∧ a1 < b1)))) := by
  unfold furB
  by_cases h2 : a2 = b2
  · by_cases h3 : a3 = b3
    · simp [h2, h3]
    · simp [h2, h3]
  · simp [h2]
theorem furB_trans {a1 a2 a3 b1 b2 b3 c1 c2 c3 : Int} (h : furB a1 a2 a3 b1 b2 b3 = true) (k : furB b1 b2 b3 c1 c2 c3 = true) : furB a1 a2 a3 c1 c2 c3 = true := by
  rw [furB_iff] at *
  omega
/-- What is found is furthest: none of the first k goes further. -/
theorem bestTo_max (l : List (Int × Int × Int)) : ∀ k j, j < k → furA l j (bestTo l k) = false := by
  intro k
  induction k with
  | zero => intro j h; omega
  | succ k ih =>
    intro j hj
    rw [bestTo]
    by_cases hf : furA l k (bestTo l k) = true
    · rw [if_pos hf]
      by_cases e : j = k
      · subst e; exact furB_irrefl _ _ _
      · have h1 := ih j (by omega)
        cases h2 : furA l j k
        · rfl
        · have h3 : furA l j (bestTo l k) = true := furB_trans h2 hf
          rw [h1] at h3; cases h3
    · rw [if_neg hf]
      by_cases e : j = k
      · subst e; simpa using hf
      · exact ih j (by omega)
/-- Where all nodes differ there is one furthest place. -/
theorem best_unique {l : List (Int × Int × Int)} (hg : Good l l.length) {a b : Nat} (ha : a < l.length) (hb : b < l.length) (h1 : ∀ j, j < l.length → furA l j a = false) (h2 : ∀ j, j < l.length → furA l j b = false) : a = b := by
  rcases Nat.lt_trichotomy a b with h | h | h
  · exfalso
    have hs := (hg b hb).2
    have hne : pidA l a ≠ pidA l b := fun e => by
      have := (seenTo_iff l (pidA l b) b).2 ⟨a, h, e⟩
      rw [hs] at this; cases this
    have := furB_total hne (h2 a ha)
    have h3 := h1 b hb
    unfold furA at h3
    rw [this] at h3; cases h3
  · exact h
  · exfalso
    have hs := (hg a ha).2
    have hne : pidA l b ≠ pidA l a := fun e => by
      have := (seenTo_iff l (pidA l a) a).2 ⟨b, h, e⟩
      rw [hs] at this; cases this
    have := furB_total hne (h1 b hb)
    have h3 := h2 a ha
    unfold furA at h3
    rw [this] at h3; cases h3
theorem rev_at (l : List (Int × Int × Int)) (k : Nat) (h : k < l.length) : pidA l.reverse k = pidA l (l.length - 1 - k) ∧ epA l.reverse k = epA l (l.length - 1 - k) ∧ lenA l.reverse k = lenA l (l.length - 1 - k) := by
  have e : l.reverse.getD k (0, 0, 0) = l.getD (l.length - 1 - k) (0, 0, 0) := by
    rw [List.getD, List.getD, List.getElem?_reverse h]
  unfold pidA epA lenA
  rw [e]
  exact ⟨rfl, rfl, rfl⟩
theorem rev_good {l : List (Int × Int × Int)} (h : BestOk l) : BestOk l.reverse := by
  obtain ⟨h1, h2, h3⟩ := h
  refine ⟨by simpa using h1, by simpa using h2, ?_⟩
  rw [List.length_reverse]
  intro i hi
  obtain ⟨e1, e2, e3⟩ := rev_at l i hi
  refine ⟨?_, ?_⟩
  · unfold Fit
    rw [e1, e2, e3]
    exact (h3 _ (by omega)).1
  · cases hs : seenTo l.reverse (pidA l.reverse i) i
    · rfl
    · exfalso
      obtain ⟨j, hj, he⟩ := (seenTo_iff _ _ _).1 hs
      rw [(rev_at l j (by omega)).1, e1] at he
      have h4 := (h3 (l.length - 1 - j) (by omega)).2
      have := (seenTo_iff l (pidA l (l.length - 1 - j)) (l.length - 1 - j)).2 ⟨l.length - 1 - i, by omega, he.symm⟩
      rw [h4] at this; cases this
/-- The list turned round names the same one. -/
theorem best_rev {l : List (Int × Int × Int)} (h : BestOk l) : bestTo l.reverse l.length = l.length - 1 - bestTo l l.length := by
  obtain ⟨h1, h2, h3⟩ := id h
  have b1 := bestTo_lt l l.length (by omega)
  have b2 := bestTo_lt l.reverse l.length (by omega)
  have key : l.length - 1 - bestTo l.reverse l.length = bestTo l l.length := by
    refine best_unique h3 (by omega) b1 (fun j hj => ?_) (fun j hj => bestTo_max l l.length j hj)
    have hm := bestTo_max l.reverse l.length (l.length - 1 - j) (by omega)
    unfold furA at hm ⊢
    obtain ⟨e1, e2, e3⟩ := rev_at l (l.length - 1 - j) (by omega)
    obtain ⟨f1, f2, f3⟩ := rev_at l (bestTo l.reverse l.length) b2
    rw [e1, e2, e3, f1, f2, f3, show l.length - 1 - (l.length - 1 - j) = j from by omega] at hm
    exact hm
  omega
end Go.Proofs.Yteckffndboiknaa.Q
