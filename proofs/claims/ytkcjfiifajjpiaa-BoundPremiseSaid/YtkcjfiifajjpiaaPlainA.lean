/-
  Plain facts of the answer of Premise: what one event more at the end does; an empty script; a split.
-/
import Derived.Test.YtkcjfiifajjpiaaEvs
set_option linter.unusedVariables false
set_option linter.unusedSimpArgs false
namespace Go.Proofs.Ytkcjfiifajjpiaa
open Go.RowKit Go.WideShapes Go.ChangeShapes Q

/-- An event without the places of its lists. -/
def El.plain (x : El) : El := { x with bA := none, bc := 0, A := none, c := 0 }
theorem runP_plain (n : Nat) (ins : Nat → Bool) (most : Int) (l : List El) : ∀ k, runP n ins most (l.map El.plain) k = runP n ins most l k
  | 0 => rfl
  | k + 1 => by
    rw [runP, runP, runP_plain n ins most l k, List.getElem?_map]
    cases l[k]? <;> rfl
theorem premP_plain (c : Cfg) (set : List Int) (l : List El) : premP c set (l.map El.plain) = premP c set l := by
  unfold premP
  rw [List.length_map, runP_plain]
theorem premP_same {c : Cfg} {set : List Int} {l l' : List El} (h : l.map El.plain = l'.map El.plain) : premP c set l = premP c set l' := by
  rw [← premP_plain c set l, h, premP_plain]

/-- What the whole script makes. -/
def finP (n : Nat) (ins : Nat → Bool) (most : Int) (l : List El) : Pst := runP n ins most l l.length
theorem runP_front (n : Nat) (ins : Nat → Bool) (most : Int) (l m : List El) : ∀ k, k ≤ l.length → runP n ins most (l ++ m) k = runP n ins most l k
  | 0, _ => rfl
  | k + 1, h => by
    rw [runP, runP, runP_front n ins most l m k (by omega), List.getElem?_append_left (by omega)]
theorem finP_snoc (n : Nat) (ins : Nat → Bool) (most : Int) (l : List El) (e : El) : finP n ins most (l ++ [e]) = stepP n ins most (finP n ins most l) l.length e := by
  unfold finP
  rw [List.length_append, List.length_singleton, runP_succ (e := e) (by simp), runP_front _ _ _ _ _ _ (Nat.le_refl _)]
theorem runP_inv (n : Nat) (ins : Nat → Bool) (most : Int) (l : List El) : ∀ k, ((runP n ins most l k).d = 0 ↔ aloneN n (runP n ins most l k).x ins most = 0) ∧ aloneN n (runP n ins most l k).x ins most ≤ (runP n ins most l k).d
  | 0 => ⟨Iff.rfl, Int.le_refl _⟩
  | k + 1 => by
    have ih := runP_inv n ins most l k
    have hb := runP_b n ins most l k
    rw [runP]
    cases l[k]? with
    | none => exact ih
    | some e =>
      have hx := hb.1.play e.k e.a e.b e.n e.zs
      have hn := aloneN_b hx ins most
      show ((stepP n ins most (runP n ins most l k) k e).d = 0 ↔ aloneN n (stepP n ins most (runP n ins most l k) k e).x ins most = 0) ∧ aloneN n (stepP n ins most (runP n ins most l k) k e).x ins most ≤ (stepP n ins most (runP n ins most l k) k e).d
      unfold stepP
      simp only []
      split
      · exact ⟨Iff.rfl, Int.le_refl _⟩
      · rename_i hc
        have h1 : ¬ (runP n ins most l k).d = 0 := fun h => hc (.inl h)
        have h2 : ¬ aloneN n (playN n (runP n ins most l k).x e.k e.a e.b e.n e.zs) ins most = 0 := fun h => hc (.inr (.inr h))
        have h3 := hb.2.2.2.1
        have h4 := hn.1
        constructor
        · constructor
          · intro h
            have : max (runP n ins most l k).d (aloneN n (playN n (runP n ins most l k).x e.k e.a e.b e.n e.zs) ins most) = 0 := h
            omega
          · intro h
            exact absurd h h2
        · exact Int.le_max_right _ _
theorem finP_inv (n : Nat) (ins : Nat → Bool) (most : Int) (l : List El) : ((finP n ins most l).d = 0 ↔ aloneN n (finP n ins most l).x ins most = 0) ∧ aloneN n (finP n ins most l).x ins most ≤ (finP n ins most l).d := runP_inv n ins most l l.length
theorem finP_x (n : Nat) (ins ins' : Nat → Bool) (most : Int) (l : List El) : (finP n ins most l).x = (finP n ins' most l).x := by
  unfold finP
  generalize l.length = k
  induction k with
  | zero => rfl
  | succ k ih =>
    rw [runP, runP]
    cases l[k]? with
    | none => exact ih
    | some e =>
      show (stepP n ins most (runP n ins most l k) k e).x = (stepP n ins' most (runP n ins' most l k) k e).x
      unfold stepP
      simp only []
      rw [← ih]
      split <;> split <;> rfl

theorem stepP_yes {n : Nat} {ins : Nat → Bool} {most : Int} {s : Pst} {i : Nat} {e : El} (h : s.d = 0 ∨ touchN n ins e.k e.a = true ∨ aloneN n (playN n s.x e.k e.a e.b e.n e.zs) ins most = 0) :
    stepP n ins most s i e = ⟨playN n s.x e.k e.a e.b e.n e.zs, (i : Int) + 1, aloneN n (playN n s.x e.k e.a e.b e.n e.zs) ins most⟩ := by
  unfold stepP
  simp only []
  rw [if_pos h]
theorem stepP_no {n : Nat} {ins : Nat → Bool} {most : Int} {s : Pst} {i : Nat} {e : El} (h : ¬ (s.d = 0 ∨ touchN n ins e.k e.a = true ∨ aloneN n (playN n s.x e.k e.a e.b e.n e.zs) ins most = 0)) :
    stepP n ins most s i e = ⟨playN n s.x e.k e.a e.b e.n e.zs, s.t, max s.d (aloneN n (playN n s.x e.k e.a e.b e.n e.zs) ins most)⟩ := by
  unfold stepP
  simp only []
  rw [if_neg h]
theorem nth_get {l : List Int} {i : Nat} (h : i < l.length) : nth l i = l[i] := by simp [nth, List.getD, h]

/-- All that a set and a configuration must be. -/
structure Fit (c : Cfg) (set : List Int) (l : List El) : Prop where
  ok : c.Ok
  len : l.length ≤ 4000
  some_ : set ≠ []
  floor : c.floor ≤ 2305843009213693952
  set : SetOk c.nodes.toNat set
theorem premP_fit {c : Cfg} {set : List Int} {l : List El} (h : Fit c set l) : premP c set l = if (finP c.nodes.toNat (inK set set.length) c.base l).d = 0 then (0, 0, 180) else ((finP c.nodes.toNat (inK set set.length) c.base l).t, (finP c.nodes.toNat (inK set set.length) c.base l).d, 0) := by
  unfold premP
  have h1 := h.floor
  have h2 := h.len
  have e1 : ¬ c.err ≠ 0 := by rw [Cfg.err_ok h.ok]; simp
  have e2 : ¬ 4000 < l.length := by omega
  have e3 : ¬ (set = [] ∨ 2305843009213693952 < c.floor) := by rintro (h3 | h3); exact h.some_ h3; omega
  have e4 : ¬ ¬ SetOk c.nodes.toNat set := fun h3 => h3 h.set
  rw [if_neg e1, if_neg e2, if_neg e3, if_neg e4]
  rfl
theorem premP_not {c : Cfg} {set : List Int} {l l' : List El} (h : ¬ (set ≠ [] ∧ SetOk c.nodes.toNat set)) (hok : c.Ok) (hf : c.floor ≤ 2305843009213693952) (h4 : l.length ≤ 4000) (h4' : l'.length ≤ 4000) : premP c set l = premP c set l' ∧ (premP c set l).2.2 ≠ 0 := by
  have key : ∀ m : List El, m.length ≤ 4000 → premP c set m = (0, 0, 1) := by
    intro m hm
    have e1 : ¬ c.err ≠ 0 := by rw [Cfg.err_ok hok]; simp
    have e2 : ¬ 4000 < m.length := by omega
    unfold premP
    rw [if_neg e1, if_neg e2]
    by_cases hs : set = []
    · rw [if_pos (.inl hs)]
    · have e3 : ¬ (set = [] ∨ 2305843009213693952 < c.floor) := by rintro (h3 | h3); exact hs h3; omega
      have e4 : ¬ SetOk c.nodes.toNat set := fun h' => h ⟨hs, h'⟩
      rw [if_neg e3, if_pos e4]
  rw [key l h4, key l' h4']
  exact ⟨rfl, by simp⟩
theorem premP_err {c : Cfg} {set : List Int} {l : List El} (hok : c.Ok) (hf : c.floor ≤ 2305843009213693952) (h4 : l.length ≤ 4000) (h : (premP c set l).2.2 = 0) : Fit c set l ∧ (finP c.nodes.toNat (inK set set.length) c.base l).d ≠ 0 := by
  by_cases hs : set ≠ [] ∧ SetOk c.nodes.toNat set
  · have hF : Fit c set l := ⟨hok, h4, hs.1, hf, hs.2⟩
    refine ⟨hF, fun h0 => ?_⟩
    rw [premP_fit hF, if_pos h0] at h
    simp at h
  · exact absurd h (premP_not (l' := l) hs hok hf h4 h4).2

/-- An event of just a kind, a node, sides. -/
def El.mk0 (k a : Int) (A : Option Addr) (c : Nat) (zs : List Int) : El := ⟨k, a, 0, 0, none, 0, [], 0, 0, 0, 0, ⟨#[]⟩, ⟨#[]⟩, ⟨#[]⟩, A, c, zs⟩

theorem step_round (n : Nat) (ins : Nat → Bool) (most : Int) (l : List El) (e : El) (hk : e.k = 1) :
    ((finP n ins most (l ++ [e])).d = 0 ↔ (finP n ins most l).d = 0) ∧ ((finP n ins most l).d ≠ 0 → finP n ins most (l ++ [e]) = finP n ins most l) := by
  have h1 := finP_inv n ins most l
  have hb := runP_b n ins most l l.length
  have hp : playN n (finP n ins most l).x e.k e.a e.b e.n e.zs = (finP n ins most l).x := by unfold playN; rw [hk]; rfl
  have ht : touchN n ins e.k e.a = false := by unfold touchN; rw [hk]; rfl
  rw [finP_snoc]
  unfold stepP
  simp only []
  rw [hp, ht]
  by_cases hd : (finP n ins most l).d = 0
  · rw [if_pos (.inl hd)]
    exact ⟨⟨fun _ => hd, fun _ => h1.1.1 hd⟩, fun h => absurd hd h⟩
  · have ha : ¬ aloneN n (finP n ins most l).x ins most = 0 := fun h => hd (h1.1.2 h)
    rw [if_neg (by rintro (h | h | h); exact hd h; cases h; exact ha h)]
    have hm : max (finP n ins most l).d (aloneN n (finP n ins most l).x ins most) = (finP n ins most l).d := by have := h1.2; omega
    rw [hm]
    exact ⟨Iff.rfl, fun _ => rfl⟩
theorem prem_round {c : Cfg} {set : List Int} {l : List El} {e : El} (hok : c.Ok) (hf : c.floor ≤ 2305843009213693952) (h4 : l.length ≤ 3990) (hk : e.k = 1) : premP c set (l ++ [e]) = premP c set l := by
  by_cases hs : set ≠ [] ∧ SetOk c.nodes.toNat set
  · rw [premP_fit (l := l) ⟨hok, by omega, hs.1, hf, hs.2⟩, premP_fit (l := l ++ [e]) ⟨hok, by simp; omega, hs.1, hf, hs.2⟩]
    obtain ⟨h1, h2⟩ := step_round c.nodes.toNat (inK set set.length) c.base l e hk
    by_cases hd : (finP c.nodes.toNat (inK set set.length) c.base l).d = 0
    · rw [if_pos hd, if_pos (h1.2 hd)]
    · rw [h2 hd]
  · exact (premP_not hs hok hf (by simp; omega) (by omega)).1
theorem prem_drop {c : Cfg} {set : List Int} {l : List El} {e : El} (hok : c.Ok) (hf : c.floor ≤ 2305843009213693952) (h4 : l.length ≤ 3999) (hk : e.k = 12) (h0 : (premP c set l).2.2 = 0) : ∃ d, premP c set (l ++ [e]) = ((l.length : Int) + 1, d, 0) := by
  obtain ⟨hF, hd⟩ := premP_err hok hf (by omega) h0
  have h1 := finP_inv c.nodes.toNat (inK set set.length) c.base l
  rw [premP_fit (l := l ++ [e]) ⟨hok, by simp; omega, hF.some_, hf, hF.set⟩, finP_snoc]
  have hp : playN c.nodes.toNat (finP c.nodes.toNat (inK set set.length) c.base l).x e.k e.a e.b e.n e.zs = (finP c.nodes.toNat (inK set set.length) c.base l).x := by unfold playN; rw [hk]; rfl
  have ht : touchN c.nodes.toNat (inK set set.length) e.k e.a = true := by unfold touchN; rw [hk]; rfl
  rw [stepP_yes (.inr (.inl ht)), hp]
  have h2 : ¬ aloneN c.nodes.toNat (finP c.nodes.toNat (inK set set.length) c.base l).x (inK set set.length) c.base = 0 := fun h => hd (h1.1.2 h)
  refine ⟨aloneN c.nodes.toNat (finP c.nodes.toNat (inK set set.length) c.base l).x (inK set set.length) c.base, ?_⟩
  exact if_neg h2
theorem inK_mem {set : List Int} {i q : Nat} (hi : i < set.length) (h : nth set i = (q : Int)) : inK set set.length q = true := by
  unfold inK
  rw [List.take_length]
  have : set[i] = (q : Int) := by rw [← h]; simp [nth, List.getD, hi]
  simp only [List.contains_iff_mem]
  rw [← this]
  exact List.getElem_mem hi
theorem prem_crash {c : Cfg} {set : List Int} {l : List El} {e : El} (hok : c.Ok) (hf : c.floor ≤ 2305843009213693952) (h4 : l.length ≤ 3999) (hk : e.k = 5) (ha : e.a = nth set 0) (h0 : (premP c set l).2.2 = 0) : premP c set (l ++ [e]) = (0, 0, 180) := by
  obtain ⟨hF, hd⟩ := premP_err hok hf (by omega) h0
  rw [premP_fit (l := l ++ [e]) ⟨hok, by simp; omega, hF.some_, hf, hF.set⟩, finP_snoc]
  have hs0 : 0 < set.length := by
    have := hF.some_
    cases set with
    | nil => exact absurd rfl this
    | cons a r => simp
  obtain ⟨h1, h2, _⟩ := hF.set 0 hs0
  obtain ⟨q, hq⟩ : ∃ q : Nat, nth set 0 = (q : Int) := ⟨(nth set 0).toNat, by omega⟩
  have hqn : q < c.nodes.toNat := by omega
  have hin := inK_mem hs0 hq
  have hz : aloneN c.nodes.toNat (playN c.nodes.toNat (finP c.nodes.toNat (inK set set.length) c.base l).x e.k e.a e.b e.n e.zs) (inK set set.length) c.base = 0 := by
    refine aloneN_no hqn fun h => ?_
    have := (h hin).1
    unfold playN at this
    rw [if_pos (.inl hk), if_pos ⟨by unfold isNode; rw [ha, hq]; simp; omega, .inl hk⟩, ha, hq] at this
    simp [up1] at this
  rw [stepP_yes (.inr (.inr hz))]
  exact if_pos hz

/-! ### All nodes, and all but the first -/
def upto (n : Nat) : List Int := (List.range n).map fun (i : Nat) => (i : Int)
theorem upto_len (n : Nat) : (upto n).length = n := by simp [upto]
theorem upto_succ (n : Nat) : upto (n + 1) = upto n ++ [(n : Int)] := by simp [upto, List.range_succ]
theorem nth_upto {n i : Nat} (h : i < n) : nth (upto n) i = (i : Int) := by simp [nth, upto, h]
theorem upto_ok (n : Nat) : SetOk n (upto n) := by
  intro i hi
  rw [upto_len] at hi
  rw [nth_upto hi]
  refine ⟨by omega, by omega, fun h => ?_⟩
  rw [nth_upto (by omega)]
  omega
theorem upto_in {n q : Nat} (h : q < n) : inK (upto n) (upto n).length q = true := inK_mem (i := q) (by rw [upto_len]; exact h) (nth_upto h)
theorem prem_begin {c : Cfg} (hok : c.Ok) (hf : c.floor ≤ 2305843009213693952) : premP c (upto c.nodes.toNat) [] = (0, 1, 0) := by
  have hn := hok.nodes
  have hb := hok.base
  have hne : upto c.nodes.toNat ≠ [] := by
    intro h
    have := congrArg List.length h
    rw [upto_len] at this
    simp at this
    omega
  rw [premP_fit ⟨hok, by simp, hne, hf, upto_ok _⟩]
  have hm : ∀ k, k ≤ c.nodes.toNat → most_ c.nodes.toNat net0 (inK (upto c.nodes.toNat) (upto c.nodes.toNat).length) k = 1 := by
    have hi : ∀ (q j : Nat), into net0 (inK (upto c.nodes.toNat) (upto c.nodes.toNat).length) q j 1 = 1 := by
      intro q j
      induction j with
      | zero => rfl
      | succ j ih =>
        unfold into
        rw [ih]
        split <;> rfl
    intro k
    induction k with
    | zero => intro _; rfl
    | succ k ih =>
      intro hk
      unfold most_
      rw [ih (by omega), hi]
      split <;> rfl
  have ha : aloneN c.nodes.toNat net0 (inK (upto c.nodes.toNat) (upto c.nodes.toNat).length) c.base = 1 := by
    rw [aloneN_yes, hm _ (Nat.le_refl _)]
    intro q hq _
    refine ⟨rfl, rfl, fun p hp => ?_⟩
    unfold okPath
    rw [upto_in hp]
    have hb1 : decide ((1 : Int) ≤ c.base) = true := decide_eq_true hb.1
    simp [net0]
    exact .inr hb1
  have hd : (finP c.nodes.toNat (inK (upto c.nodes.toNat) (upto c.nodes.toNat).length) c.base []).d = 1 := ha
  rw [hd]
  rfl
theorem nth_tail {vs : List Int} (i : Nat) : nth vs.tail i = nth vs (i + 1) := by cases vs <;> simp [nth]
theorem prem_part {c : Cfg} (hok : c.Ok) (hf : c.floor ≤ 2305843009213693952) (hn : 1 < c.nodes) : premP c (upto c.nodes.toNat).tail [] = (0, 0, 180) := by
  have hl : (upto c.nodes.toNat).tail.length = c.nodes.toNat - 1 := by rw [List.length_tail, upto_len]
  have hs : SetOk c.nodes.toNat (upto c.nodes.toNat).tail := by
    intro i hi
    rw [hl] at hi
    rw [nth_tail, nth_upto (by omega)]
    refine ⟨by omega, by omega, fun h => ?_⟩
    rw [nth_tail, nth_upto (by omega)]
    omega
  have hne : (upto c.nodes.toNat).tail ≠ [] := by
    intro h
    rw [h] at hl
    simp at hl
    omega
  rw [premP_fit ⟨hok, by simp, hne, hf, hs⟩]
  have ha : aloneN c.nodes.toNat net0 (inK (upto c.nodes.toNat).tail (upto c.nodes.toNat).tail.length) c.base = 0 := by
    refine aloneN_no (q := 1) (by omega) fun h => ?_
    have h1 : inK (upto c.nodes.toNat).tail (upto c.nodes.toNat).tail.length 1 = true := inK_mem (i := 0) (by omega) (by rw [nth_tail, nth_upto (by omega)])
    have h0 : inK (upto c.nodes.toNat).tail (upto c.nodes.toNat).tail.length 0 = false := by
      unfold inK
      rw [List.take_length]
      rw [Bool.eq_false_iff]
      intro hm
      rw [List.contains_iff_mem] at hm
      obtain ⟨i, hi, he⟩ := List.getElem_of_mem hm
      have : nth (upto c.nodes.toNat).tail i = ((0 : Nat) : Int) := by rw [nth_get hi, he]
      rw [nth_tail, nth_upto (by omega)] at this
      omega
    have h2 := (h h1).2.2 0 (by omega)
    unfold okPath at h2
    rw [h0] at h2
    simp [net0] at h2
  have hd : (finP c.nodes.toNat (inK (upto c.nodes.toNat).tail (upto c.nodes.toNat).tail.length) c.base []).d = 0 := ha
  rw [hd]
  rfl
end Go.Proofs.Ytkcjfiifajjpiaa
