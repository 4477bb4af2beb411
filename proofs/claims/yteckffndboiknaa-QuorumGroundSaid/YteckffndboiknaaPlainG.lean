/-
  Plain facts on minimal sets: the order of their lists; the reference's way to list them; two rising lists with the same members are one.
-/
import Derived.Test.YteckffndboiknaaWins
set_option linter.unusedVariables false
set_option linter.unusedSimpArgs false
namespace Go.Proofs.Yteckffndboiknaa
open Go.RowKit Go.WideShapes Go.ChangeShapes Q

/-! ### The order of lists -/
def lexB : List Int → List Int → Bool
  | [], [] => false
  | [], _ :: _ => true
  | _ :: _, [] => false
  | a :: s, b :: t => if a = b then lexB s t else decide (a < b)
theorem lexB_irrefl : ∀ a, lexB a a = false
  | [] => rfl
  | a :: s => by rw [lexB, if_pos rfl]; exact lexB_irrefl s
theorem lexB_trans : ∀ a b c, lexB a b = true → lexB b c = true → lexB a c = true
  | [], [], _, h, _ => by cases h
  | [], _ :: _, [], _, h => by cases h
  | [], _ :: _, _ :: _, _, _ => rfl
  | _ :: _, [], _, h, _ => by cases h
  | _ :: _, _ :: _, [], _, h => by cases h
  | a :: s, b :: t, c :: u, h1, h2 => by
    rw [lexB] at h1 h2 ⊢
    by_cases e1 : a = b
    · subst e1
      rw [if_pos rfl] at h1
      by_cases e2 : a = c
      · subst e2
        rw [if_pos rfl] at h2 ⊢
        exact lexB_trans s t u h1 h2
      · rw [if_neg e2] at h2 ⊢
        exact h2
    · rw [if_neg e1] at h1
      by_cases e2 : b = c
      · subst e2
        rw [if_neg e1]
        exact h1
      · rw [if_neg e2] at h2
        have h3 := of_decide_eq_true h1
        have h4 := of_decide_eq_true h2
        rw [if_neg (by omega)]
        exact decide_eq_true (by omega)
theorem lexB_tri : ∀ a b, lexB a b = false → lexB b a = false → a = b
  | [], [], _, _ => rfl
  | [], _ :: _, h, _ => by cases h
  | _ :: _, [], _, h => by cases h
  | a :: s, b :: t, h1, h2 => by
    rw [lexB] at h1 h2
    by_cases e : a = b
    · subst e
      rw [if_pos rfl] at h1 h2
      rw [lexB_tri s t h1 h2]
    · rw [if_neg e] at h1
      rw [if_neg (fun h => e h.symm)] at h2
      have h3 := of_decide_eq_false h1
      have h4 := of_decide_eq_false h2
      exact absurd (show a = b by omega) e
theorem lexB_ntrans (a b c : List Int) (h1 : lexB a b = false) (h2 : lexB b c = false) : lexB a c = false := by
  cases h : lexB a c with
  | false => rfl
  | true =>
    exfalso
    cases hb : lexB b a with
    | true =>
      have := lexB_trans b a c hb h
      rw [h2] at this
      cases this
    | false =>
      have := lexB_tri a b h1 hb
      subst this
      rw [h2] at h
      cases h
theorem lexB_front (p : List Int) {a b : Int} (x y : List Int) (h : a < b) : lexB (p ++ a :: x) (p ++ b :: y) = true := by
  induction p with
  | nil => show lexB (a :: x) (b :: y) = true; rw [lexB, if_neg (by omega)]; exact decide_eq_true h
  | cons c p ih => show lexB (c :: (p ++ a :: x)) (c :: (p ++ b :: y)) = true; rw [lexB, if_pos rfl]; exact ih
/-- Two rising lists with the same members are one. -/
theorem rising_unique : ∀ (l m : List (List Int)), l.Pairwise (fun a b => lexB a b = true) → m.Pairwise (fun a b => lexB a b = true) → (∀ x, x ∈ l ↔ x ∈ m) → l = m
  | [], [], _, _, _ => rfl
  | [], b :: m, _, _, h => by have := (h b).2 (by simp); cases this
  | a :: l, [], _, _, h => by have := (h a).1 (by simp); cases this
  | a :: l, b :: m, hl, hm, h => by
    rw [List.pairwise_cons] at hl hm
    have e : a = b := by
      have h1 := (h a).1 (by simp)
      have h2 := (h b).2 (by simp)
      rcases List.mem_cons.1 h1 with e | h1
      · exact e
      · rcases List.mem_cons.1 h2 with e | h2
        · exact e.symm
        · have h3 := hl.1 b h2
          have h4 := hm.1 a h1
          have := lexB_trans a b a h3 h4
          rw [lexB_irrefl] at this
          cases this
    subst e
    congr 1
    refine rising_unique l m hl.2 hm.2 fun x => ?_
    constructor
    · intro hx
      rcases List.mem_cons.1 ((h x).1 (by simp [hx])) with e | h1
      · subst e
        have := hl.1 x hx
        rw [lexB_irrefl] at this
        cases this
      · exact h1
    · intro hx
      rcases List.mem_cons.1 ((h x).2 (by simp [hx])) with e | h1
      · subst e
        have := hm.1 x hx
        rw [lexB_irrefl] at this
        cases this
      · exact h1

/-! ### Minimal sets -/
def leanTo (vs : List Int) (s : Nat) : Nat → Bool
  | 0 => true
  | k + 1 => leanTo vs s k && !(s.testBit k && winsB vs (s - 2 ^ k))
def minB (vs : List Int) (s : Nat) : Bool := winsB vs s && leanTo vs s vs.length
theorem leanTo_at {vs : List Int} {s : Nat} : ∀ {n k : Nat}, leanTo vs s n = true → k < n → s.testBit k = true → winsB vs (s - 2 ^ k) = false
  | n + 1, k, h, hk, hb => by
    rw [leanTo, Bool.and_eq_true] at h
    by_cases e : k = n
    · subst e
      have := h.2
      rw [hb] at this
      simpa using this
    · exact leanTo_at h.1 (by omega) hb
theorem leanTo_stop {vs : List Int} {s k : Nat} (hb : s.testBit k = true) (hw : winsB vs (s - 2 ^ k) = true) : ∀ {n : Nat}, k < n → leanTo vs s n = false
  | n + 1, hk => by
    rw [leanTo]
    by_cases e : k = n
    · subst e; rw [hb, hw]; simp
    · rw [leanTo_stop hb hw (n := n) (by omega)]; rfl
theorem testBit_sub (s p k : Nat) (h : s.testBit p = true) : (s - 2 ^ p).testBit k = (s.testBit k && decide (k ≠ p)) := by
  have hd : s / 2 ^ p % 2 = 1 := by rw [Nat.testBit_eq_decide_div_mod_eq] at h; exact of_decide_eq_true h
  have hr : s % 2 ^ p < 2 ^ p := Nat.mod_lt _ (Nat.pow_pos (by omega))
  have hs := Nat.div_add_mod s (2 ^ p)
  have hq : s / 2 ^ p = 2 * (s / 2 ^ p / 2) + 1 := by omega
  generalize s / 2 ^ p / 2 = q at hq
  generalize s % 2 ^ p = r at hr hs
  rw [hq] at hs
  have e2 : s - 2 ^ p = 2 ^ p * (2 * q) + r := by rw [Nat.mul_add, Nat.mul_one] at hs; omega
  rw [e2, ← hs, Nat.testBit_two_pow_mul_add _ hr, Nat.testBit_two_pow_mul_add _ hr]
  by_cases hk : k < p
  · rw [if_pos hk, if_pos hk]
    have : k ≠ p := by omega
    simp [this]
  · rw [if_neg hk, if_neg hk]
    by_cases e : k = p
    · subst e
      simp
    · obtain ⟨j, hj⟩ : ∃ j, k - p = j + 1 := ⟨k - p - 1, by omega⟩
      rw [hj, Nat.testBit_succ, Nat.testBit_succ]
      have h1 : (2 * q + 1) / 2 = q := by omega
      have h2 : 2 * q / 2 = q := by omega
      rw [h1, h2]
      simp [e]

theorem eq_of_bits {n s m : Nat} (hs : s < 2 ^ n) (hm : m < 2 ^ n) (h : ∀ k, k < n → s.testBit k = m.testBit k) : s = m := by
  apply Nat.eq_of_testBit_eq
  intro k
  by_cases hk : k < n
  · exact h k hk
  · have h1 : s < 2 ^ k := Nat.lt_of_lt_of_le hs (Nat.pow_le_pow_right (by omega) (by omega))
    have h2 : m < 2 ^ k := Nat.lt_of_lt_of_le hm (Nat.pow_le_pow_right (by omega) (by omega))
    rw [Nat.testBit_lt_two_pow h1, Nat.testBit_lt_two_pow h2]
/-- A minimal set that holds a winning one is that one. -/
theorem min_eq {vs : List Int} (hok : Ok vs) {s m : Nat} (hs : s < 2 ^ vs.length) (hm : m < 2 ^ vs.length) (hmin : minB vs m = true) (hw : winsB vs s = true) (hsub : ∀ k, k < vs.length → s.testBit k = true → m.testBit k = true) : s = m := by
  refine eq_of_bits hs hm fun p hp => ?_
  cases h1 : m.testBit p with
  | false =>
    cases h2 : s.testBit p with
    | false => rfl
    | true => rw [hsub p hp h2] at h1; cases h1
  | true =>
    cases h2 : s.testBit p with
    | true => rfl
    | false =>
      exfalso
      unfold minB at hmin
      rw [Bool.and_eq_true] at hmin
      have h3 := leanTo_at hmin.2 hp h1
      have h4 := wins_mono vs s (m - 2 ^ p) hok (fun k hk hb => by
        rw [testBit_sub m p k h1, hsub k hk hb]
        have : k ≠ p := fun e => by rw [e, h2] at hb; cases hb
        simp [this]) hw
      rw [h3] at h4
      cases h4

/-! ### The reference's way -/
/-- The sets that from (true) or its loop (false) lists, with d nodes to go, set s so far. -/
def fromN (vs : List Int) : Bool → Nat → Nat → List Nat
  | true, 0, s => if minB vs s = true then [s] else []
  | false, 0, s => []
  | true, d + 1, s => if minB vs s = true then [s] else if winsB vs s = true then [] else fromN vs true d (s + 2 ^ (vs.length - (d + 1))) ++ fromN vs false d s
  | false, d + 1, s => fromN vs true d (s + 2 ^ (vs.length - (d + 1))) ++ fromN vs false d s
theorem listTo_congr {s t : Nat} : ∀ {k : Nat}, (∀ j, j < k → s.testBit j = t.testBit j) → listTo s k = listTo t k
  | 0, _ => rfl
  | k + 1, h => by
    have ih := listTo_congr (k := k) fun j hj => h j (by omega)
    rw [listTo, listTo, ih, h k (by omega)]
def upL (m i : Nat) : Nat → List Int
  | 0 => []
  | d + 1 => upL m i d ++ if m.testBit (i + d) = true then [((i + d : Nat) : Int)] else []
theorem listTo_up (m i : Nat) : ∀ d, listTo m (i + d) = listTo m i ++ upL m i d
  | 0 => by simp [upL]
  | d + 1 => by
    have ih := listTo_up m i d
    show listTo m (i + d + 1) = _
    rw [listTo, upL, ih]
    split
    · simp
    · simp
theorem upL_cons (m i : Nat) : ∀ d, upL m i (d + 1) = (if m.testBit i = true then [(i : Int)] else []) ++ upL m (i + 1) d
  | 0 => by simp [upL]
  | d + 1 => by
    have ih := upL_cons m i d
    rw [upL, ih, upL, show i + (d + 1) = i + 1 + d by omega]
    simp [List.append_assoc]
theorem upL_head (m : Nat) : ∀ (d i : Nat), upL m i d ≠ [] → ∃ b y, upL m i d = b :: y ∧ (i : Int) ≤ b
  | 0, i, h => absurd rfl h
  | d + 1, i, h => by
    rw [upL_cons] at h ⊢
    by_cases hb : m.testBit i = true
    · rw [if_pos hb]
      exact ⟨i, upL m (i + 1) d, rfl, Int.le_refl _⟩
    · rw [if_neg hb] at h ⊢
      obtain ⟨b, y, e, hle⟩ := upL_head m d (i + 1) h
      exact ⟨b, y, e, by omega⟩
theorem upL_ne {m k : Nat} (hb : m.testBit k = true) : ∀ (d i : Nat), i ≤ k → k < i + d → upL m i d ≠ []
  | 0, i, h1, h2 => by omega
  | d + 1, i, h1, h2 => by
    rw [upL_cons]
    by_cases e : i = k
    · subst e; rw [if_pos hb]; simp
    · have := upL_ne hb d (i + 1) (by omega) (by omega)
      intro h
      rw [List.append_eq_nil_iff] at h
      exact this h.2
/-- Where the one goes on with node i and the other with a later one, the first comes first. -/
theorem lex_branch {n i m1 m2 : Nat} (hi : i < n) (h1 : m1.testBit i = true) (h2 : m2.testBit i = false) (hc : ∀ j, j < i → m1.testBit j = m2.testBit j) {k : Nat} (hk : i < k) (hkn : k < n) (h3 : m2.testBit k = true) :
    lexB (listTo m1 n) (listTo m2 n) = true := by
  obtain ⟨d, rfl⟩ : ∃ d, n = i + (d + 1) := ⟨n - i - 1, by omega⟩
  rw [listTo_up m1, listTo_up m2, listTo_congr hc, upL_cons, upL_cons, if_pos h1, h2]
  have hne := upL_ne h3 d (i + 1) (by omega) (by omega)
  obtain ⟨b, y, e, hle⟩ := upL_head m2 d (i + 1) hne
  rw [e]
  exact lexB_front _ _ _ (by omega)
theorem low_bits {m s i : Nat} (h : m % 2 ^ i = s) {j : Nat} (hj : j < i) : m.testBit j = s.testBit j := by
  rw [← h, Nat.testBit_mod_two_pow]
  simp [hj]
theorem bit_of_mod {m s i : Nat} (hs : s < 2 ^ i) : m % 2 ^ (i + 1) = s + 2 ^ i ↔ m % 2 ^ i = s ∧ m.testBit i = true := by
  have hm := mod_pow_succ m i
  have hlt : m % 2 ^ i < 2 ^ i := Nat.mod_lt _ (Nat.pow_pos (by omega))
  cases hb : m.testBit i with
  | true =>
    rw [hb, if_pos rfl] at hm
    constructor
    · intro h; exact ⟨by omega, rfl⟩
    · intro h; omega
  | false =>
    rw [hb, if_neg (by simp)] at hm
    constructor
    · intro h; omega
    · intro h; cases h.2
theorem nobit_of_mod {m s i : Nat} (hs : s < 2 ^ i) : m % 2 ^ (i + 1) = s ↔ m % 2 ^ i = s ∧ m.testBit i = false := by
  have hm := mod_pow_succ m i
  have hlt : m % 2 ^ i < 2 ^ i := Nat.mod_lt _ (Nat.pow_pos (by omega))
  cases hb : m.testBit i with
  | false =>
    rw [hb, if_neg (by simp)] at hm
    constructor
    · intro h; exact ⟨by omega, rfl⟩
    · intro h; omega
  | true =>
    rw [hb, if_pos rfl] at hm
    constructor
    · intro h; omega
    · intro h; cases h.2
def Sp (vs : List Int) (b : Bool) (d s : Nat) : Prop :=
  (∀ m, m ∈ fromN vs b d s ↔ m < 2 ^ vs.length ∧ minB vs m = true ∧ m % 2 ^ (vs.length - d) = s ∧ (b = false → m ≠ s)) ∧
    (fromN vs b d s).Pairwise (fun m1 m2 => lexB (listTo m1 vs.length) (listTo m2 vs.length) = true)
theorem from_loop {vs : List Int} {d s : Nat} (hd : d + 1 ≤ vs.length) (hs : s < 2 ^ (vs.length - (d + 1))) (h1 : Sp vs true d (s + 2 ^ (vs.length - (d + 1)))) (h2 : Sp vs false d s) : Sp vs false (d + 1) s := by
  obtain ⟨i, hi⟩ : ∃ i, i = vs.length - (d + 1) := ⟨_, rfl⟩
  have hi1 : vs.length - d = i + 1 := by omega
  rw [← hi] at hs h1
  unfold Sp at h1 h2 ⊢
  rw [hi1] at h1 h2
  have hpow : 0 < 2 ^ i := Nat.pow_pos (by omega)
  refine ⟨fun m => ?_, ?_⟩
  · rw [fromN, ← hi, List.mem_append, h1.1, h2.1, bit_of_mod hs, nobit_of_mod hs]
    constructor
    · rintro (⟨a, b, c, _⟩ | ⟨a, b, c, e⟩)
      · refine ⟨a, b, c.1, fun _ hm => ?_⟩
        have h3 := c.2
        rw [hm, Nat.testBit_lt_two_pow hs] at h3
        cases h3
      · exact ⟨a, b, c.1, fun _ => e rfl⟩
    · rintro ⟨a, b, c, e⟩
      cases hb : m.testBit i with
      | true => exact .inl ⟨a, b, ⟨c, rfl⟩, fun h => by cases h⟩
      | false => exact .inr ⟨a, b, ⟨c, rfl⟩, fun _ => e rfl⟩
  · rw [fromN, ← hi, List.pairwise_append]
    refine ⟨h1.2, h2.2, fun m1 hm1 m2 hm2 => ?_⟩
    obtain ⟨a1, b1, c1, _⟩ := (h1.1 m1).1 hm1
    obtain ⟨a2, b2, c2, e2⟩ := (h2.1 m2).1 hm2
    have c1' := (bit_of_mod hs).1 c1
    have c2' := (nobit_of_mod hs).1 c2
    -- m2 has a later node
    obtain ⟨k, hk, hkn, hb⟩ : ∃ k, i < k ∧ k < vs.length ∧ m2.testBit k = true := by
      apply Classical.byContradiction
      intro hno
      apply e2 rfl
      refine eq_of_bits a2 (Nat.lt_of_lt_of_le hs (Nat.pow_le_pow_right (by omega) (by omega))) fun k hk => ?_
      by_cases h3 : k < i
      · exact low_bits c2'.1 h3
      · have h4 : s.testBit k = false := Nat.testBit_lt_two_pow (Nat.lt_of_lt_of_le hs (Nat.pow_le_pow_right (by omega) (by omega)))
        rw [h4]
        by_cases h5 : k = i
        · subst h5; exact c2'.2
        · cases hb : m2.testBit k with
          | false => rfl
          | true => exact absurd ⟨k, by omega, hk, hb⟩ hno
    exact lex_branch (i := i) (by omega) c1'.2 c2'.2 (fun j hj => by rw [low_bits c1'.1 hj, low_bits c2'.1 hj]) hk hkn hb
theorem from_true {vs : List Int} (hok : Ok vs) {d s : Nat} (hd : d ≤ vs.length) (hs : s < 2 ^ (vs.length - d)) (hf : Sp vs false d s) (he : fromN vs true d s = if minB vs s = true then [s] else if winsB vs s = true then [] else fromN vs false d s) : Sp vs true d s := by
  have hsn : s < 2 ^ vs.length := Nat.lt_of_lt_of_le hs (Nat.pow_le_pow_right (by omega) (by omega))
  have hmod : s % 2 ^ (vs.length - d) = s := Nat.mod_eq_of_lt hs
  have hsub : ∀ m, m % 2 ^ (vs.length - d) = s → ∀ k, k < vs.length → s.testBit k = true → m.testBit k = true := by
    intro m hm k hk hb
    have hkd : k < vs.length - d := by
      apply Classical.byContradiction
      intro h
      have : s < 2 ^ k := Nat.lt_of_lt_of_le hs (Nat.pow_le_pow_right (by omega) (by omega))
      rw [Nat.testBit_lt_two_pow this] at hb
      cases hb
    rw [low_bits hm hkd]
    exact hb
  unfold Sp at hf ⊢
  rw [he]
  by_cases h1 : minB vs s = true
  · rw [if_pos h1]
    have hw : winsB vs s = true := by unfold minB at h1; rw [Bool.and_eq_true] at h1; exact h1.1
    refine ⟨fun m => ?_, List.pairwise_singleton _ _⟩
    rw [List.mem_singleton]
    constructor
    · rintro rfl
      exact ⟨hsn, h1, hmod, fun h => by cases h⟩
    · rintro ⟨a, b, c, _⟩
      exact (min_eq hok hsn a b hw (hsub m c)).symm
  · rw [if_neg h1]
    by_cases h2 : winsB vs s = true
    · rw [if_pos h2]
      refine ⟨fun m => ?_, List.Pairwise.nil⟩
      constructor
      · intro h; cases h
      · rintro ⟨a, b, c, _⟩
        have := min_eq hok hsn a b h2 (hsub m c)
        subst this
        exact absurd b h1
    · rw [if_neg h2]
      refine ⟨fun m => ?_, hf.2⟩
      rw [hf.1]
      constructor
      · rintro ⟨a, b, c, _⟩
        exact ⟨a, b, c, fun h => by cases h⟩
      · rintro ⟨a, b, c, _⟩
        refine ⟨a, b, c, fun _ hm => ?_⟩
        subst hm
        exact h1 b
theorem from_spec {vs : List Int} (hok : Ok vs) : ∀ d s, d ≤ vs.length → s < 2 ^ (vs.length - d) → Sp vs true d s ∧ Sp vs false d s
  | 0, s, hd, hs => by
    have hf : Sp vs false 0 s := by
      refine ⟨fun m => ?_, List.Pairwise.nil⟩
      constructor
      · intro h; cases h
      · rintro ⟨a, b, c, e⟩
        rw [Nat.sub_zero, Nat.mod_eq_of_lt a] at c
        exact absurd c (e rfl)
    refine ⟨from_true hok hd hs hf ?_, hf⟩
    show (if minB vs s = true then [s] else []) = _
    split
    · rfl
    · split <;> rfl
  | d + 1, s, hd, hs => by
    have hi : vs.length - d = (vs.length - (d + 1)) + 1 := by omega
    have hp : 2 ^ (vs.length - d) = 2 ^ (vs.length - (d + 1)) + 2 ^ (vs.length - (d + 1)) := by rw [hi, Nat.pow_succ]; omega
    have h1 := (from_spec hok d (s + 2 ^ (vs.length - (d + 1))) (by omega) (by omega)).1
    have h2 := (from_spec hok d s (by omega) (by omega)).2
    have hf := from_loop hd hs h1 h2
    exact ⟨from_true hok hd hs hf rfl, hf⟩
/-- All minimal sets as lists, in the reference's order. -/
def minL (vs : List Int) : List (List Int) := (fromN vs true vs.length 0).map fun m => listTo m vs.length
def minSets (vs : List Int) (k : Nat) : List Nat := (List.range k).filter fun s => minB vs s
theorem minSets_succ (vs : List Int) (k : Nat) : minSets vs (k + 1) = if minB vs k = true then minSets vs k ++ [k] else minSets vs k := by
  unfold minSets
  rw [List.range_succ, List.filter_append]
  split <;> rename_i h <;> simp [h]
theorem listTo_inj {n a b : Nat} (ha : a < 2 ^ n) (hb : b < 2 ^ n) (h : listTo a n = listTo b n) : a = b := by
  have h1 := pack_list a n ha
  have h2 := pack_list b n hb
  rw [h, h2] at h1
  injection h1 with h1
  exact h1.symm
theorem minL_mem {vs : List Int} (hok : Ok vs) (x : List Int) : x ∈ minL vs ↔ x ∈ (minSets vs (2 ^ vs.length)).map fun m => listTo m vs.length := by
  have h := (from_spec hok vs.length 0 (Nat.le_refl _) (Nat.pow_pos (by omega))).1.1
  unfold minL
  rw [List.mem_map, List.mem_map]
  constructor
  · rintro ⟨m, hm, e⟩
    obtain ⟨a, b, _, _⟩ := (h m).1 hm
    exact ⟨m, by unfold minSets; simp [a, b], e⟩
  · rintro ⟨m, hm, e⟩
    unfold minSets at hm
    simp only [List.mem_filter, List.mem_range] at hm
    exact ⟨m, (h m).2 ⟨hm.1, hm.2, by rw [Nat.sub_self]; exact Nat.mod_one m, fun h => by cases h⟩, e⟩
theorem minL_rise {vs : List Int} (hok : Ok vs) : (minL vs).Pairwise (fun a b => lexB a b = true) := by
  unfold minL
  rw [List.pairwise_map]
  exact (from_spec hok vs.length 0 (Nat.le_refl _) (Nat.pow_pos (by omega))).1.2
/-- What the program has sorted is the reference's list. -/
theorem sorted_minL {vs : List Int} (hok : Ok vs) {l : List (List Int)} (hp : l.Perm ((minSets vs (2 ^ vs.length)).map fun m => listTo m vs.length)) (hs : l.Pairwise (fun a b => lexB b a = false)) : l = minL vs := by
  have hnd : ((minSets vs (2 ^ vs.length)).map fun m => listTo m vs.length).Nodup := by
    unfold List.Nodup
    rw [List.pairwise_map]
    have h1 : (minSets vs (2 ^ vs.length)).Pairwise (fun a b => a < b) := List.pairwise_lt_range.filter _
    have h2 : ∀ a ∈ minSets vs (2 ^ vs.length), a < 2 ^ vs.length := fun a ha => by
      unfold minSets at ha
      simp only [List.mem_filter, List.mem_range] at ha
      exact ha.1
    refine List.Pairwise.imp_of_mem ?_ h1
    intro a b ha hb hab e
    have := listTo_inj (h2 a ha) (h2 b hb) e
    omega
  have hnl : l.Nodup := hp.symm.nodup hnd
  refine rising_unique l (minL vs) ?_ (minL_rise hok) fun x => by rw [minL_mem hok, hp.mem_iff]
  have := hs.and hnl
  refine this.imp fun {a b} h => ?_
  cases hb : lexB a b with
  | true => rfl
  | false => exact absurd (lexB_tri a b hb h.1) h.2
end Go.Proofs.Yteckffndboiknaa
