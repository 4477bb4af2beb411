/-
  Plain facts of the reference: nets that agree below n, the set in its order, the way back.
-/
import Derived.Test.YtkcjfiifajjpiaaRSplit
import Derived.Test.YtkcjfiifajjpiaaPlainS
set_option linter.unusedVariables false
set_option linter.unusedSimpArgs false
namespace Go.Proofs.Ytkcjfiifajjpiaa
open Go.RowKit Go.WideShapes Go.ChangeShapes Q

/-- Two nets agree on the nodes below n. -/
structure EqN (n : Nat) (x y : Net) : Prop where
  up : ∀ p, p < n → x.up p = y.up p
  left : ∀ p, p < n → x.left p = y.left p
  cut : ∀ p q, p < n → q < n → x.cut p q = y.cut p q
  dly : ∀ p q, p < n → q < n → x.dly p q = y.dly p q
theorem EqN.begun (n : Nat) : EqN n net0 (begunN n) := by
  refine ⟨fun p hp => ?_, fun p hp => rfl, fun p q hp hq => rfl, fun p q hp hq => ?_⟩
  · simp [net0, begunN, bgN, hp]
  · simp [net0, begunN, bgN, hp, hq]
theorem EqN.split {n : Nat} {x y : Net} (h : EqN n x y) (zs : List Int) : EqN n (splitN n x zs) (splitN n y zs) := by
  unfold splitN
  split
  · refine ⟨h.up, h.left, fun p q hp hq => ?_, h.dly⟩
    show cutK zs n n 0 x.cut p q = cutK zs n n 0 y.cut p q
    rw [cutK_all hp hq, cutK_all hp hq]
  · exact h
theorem isNode_lt {n : Nat} {a : Int} (h : isNode n a = true) : a.toNat < n := by
  obtain ⟨i, rfl, hi⟩ := isNode_nat h
  simpa using hi
theorem EqN.play {n : Nat} {x y : Net} (h : EqN n x y) (k a b m : Int) (zs : List Int) : EqN n (playN n x k a b m zs) (playN n y k a b m zs) := by
  unfold playN
  split
  · split
    · refine ⟨fun p hp => ?_, h.left, h.cut, h.dly⟩
      simp only [up1]
      split
      · rfl
      · exact h.up p hp
    · exact h
  · split
    · by_cases hn : isNode n a = true
      · have e := h.up _ (isNode_lt hn)
        rw [e]
        split
        · refine ⟨fun p hp => ?_, fun p hp => ?_, h.cut, h.dly⟩
          · simp only [up1]; split
            · rfl
            · exact h.up p hp
          · simp only [up1]; split
            · rfl
            · exact h.left p hp
        · exact h
      · rw [if_neg (fun hh => hn hh.1), if_neg (fun hh => hn hh.1)]
        exact h
    · split
      · by_cases hn : isNode n a = true
        · have e := h.up _ (isNode_lt hn)
          rw [e]
          split
          · refine ⟨h.up, fun p hp => ?_, h.cut, h.dly⟩
            simp only [up1]; split
            · rfl
            · exact h.left p hp
          · exact h
        · rw [if_neg (fun hh => hn hh.1), if_neg (fun hh => hn hh.1)]
          exact h
      · split
        · split
          · refine ⟨h.up, h.left, fun p q hp hq => ?_, h.dly⟩
            simp only [up2]; split
            · rfl
            · exact h.cut p q hp hq
          · exact h
        · split
          · split
            · refine ⟨h.up, h.left, h.cut, fun p q hp hq => ?_⟩
              simp only [up2]; split
              · rfl
              · exact h.dly p q hp hq
            · exact h
          · split
            · exact h.split zs
            · exact h
theorem EqN.into {n : Nat} {x y : Net} (h : EqN n x y) (ins : Nat → Bool) {q : Nat} (hq : q < n) : ∀ (j : Nat) (d : Int), j ≤ n → into x ins q j d = into y ins q j d
  | 0, d, _ => rfl
  | j + 1, d, hj => by
    have ih := EqN.into h ins hq j d (by omega)
    unfold Go.Proofs.Ytkcjfiifajjpiaa.into
    rw [ih, h.dly j q (by omega) hq]
theorem EqN.most {n : Nat} {x y : Net} (h : EqN n x y) (ins : Nat → Bool) : ∀ k, k ≤ n → most_ n x ins k = most_ n y ins k
  | 0, _ => rfl
  | k + 1, hk => by
    have ih := EqN.most h ins k (by omega)
    unfold most_
    rw [ih, h.into ins (by omega) n _ (Nat.le_refl n)]
theorem EqN.node {n : Nat} {x y : Net} (h : EqN n x y) (ins : Nat → Bool) (most : Int) {q : Nat} (hq : q < n) : okNode n x ins most q ↔ okNode n y ins most q := by
  unfold okNode okPath
  rw [h.up q hq, h.left q hq]
  constructor
  · intro hh hi
    obtain ⟨h1, h2, h3⟩ := hh hi
    refine ⟨h1, h2, fun p hp => ?_⟩
    rw [← h.cut p q hp hq, ← h.dly p q hp hq]
    exact h3 p hp
  · intro hh hi
    obtain ⟨h1, h2, h3⟩ := hh hi
    refine ⟨h1, h2, fun p hp => ?_⟩
    rw [h.cut p q hp hq, h.dly p q hp hq]
    exact h3 p hp
theorem EqN.alone {n : Nat} {x y : Net} (h : EqN n x y) (ins : Nat → Bool) (most : Int) : aloneN n x ins most = aloneN n y ins most := by
  unfold aloneN
  rw [h.most ins n (Nat.le_refl n)]
  by_cases hh : ∀ q, q < n → okNode n x ins most q
  · rw [if_pos hh, if_pos (fun q hq => (h.node ins most hq).1 (hh q hq))]
  · rw [if_neg hh, if_neg (fun h' => hh fun q hq => (h.node ins most hq).2 (h' q hq))]

/-! ### The set in its order -/
/-- The greatest delay to the first i of a set. -/
def mostR (n : Nat) (x : Net) (ins : Nat → Bool) (set : List Int) : Nat → Int
  | 0 => 1
  | i + 1 => into x ins (nth set i).toNat n (mostR n x ins set i)
theorem rise {n : Nat} {set : List Int} (h : SetOk n set) : ∀ j i, i < j → j < set.length → nth set i < nth set j
  | 0, i, hi, hj => absurd hi (by omega)
  | j + 1, i, hi, hj => by
    have h1 := (h (j + 1) hj).2.2 (by omega)
    rw [Nat.add_sub_cancel] at h1
    by_cases e : i = j
    · subst e; exact h1
    · have := rise h j i (by omega) (by omega)
      omega
theorem mostR_upto {n : Nat} {set : List Int} (h : SetOk n set) (x : Net) : ∀ k, k ≤ n → ∃ c, c ≤ set.length ∧ (∀ i, i < set.length → (i < c ↔ nth set i < k)) ∧ most_ n x (inK set set.length) k = mostR n x (inK set set.length) set c
  | 0, _ => ⟨0, Nat.zero_le _, fun i hi => by have := (h i hi).1; constructor <;> intro h' <;> omega, rfl⟩
  | k + 1, hk => by
    obtain ⟨c, hc, hi, e⟩ := mostR_upto h x k (by omega)
    by_cases hin : inK set set.length k = true
    · have hm := inK_all.1 hin
      obtain ⟨i, hil, hie⟩ := List.getElem_of_mem hm
      have hie2 : nth set i = (k : Int) := by rw [nth_get hil]; exact hie
      have hic : i = c := by
        have h1 : ¬ i < c := fun h' => by have := (hi i hil).1 h'; omega
        by_cases h2 : c < i
        · have h3 := rise h i c h2 hil
          have h4 : ¬ nth set c < k := fun h' => by have := (hi c (by omega)).2 h'; omega
          omega
        · omega
      subst hic
      refine ⟨i + 1, by omega, fun j hj => ?_, ?_⟩
      · constructor
        · intro h'
          by_cases e2 : j = i
          · subst e2; omega
          · have := (hi j hj).1 (by omega); omega
        · intro h'
          by_cases e2 : i < j
          · have := rise h j i e2 hj; omega
          · omega
      · rw [most_, if_pos hin, mostR, e, hie2]
        simp
    · refine ⟨c, hc, fun j hj => ?_, by rw [most_, if_neg hin, e]⟩
      rw [hi j hj]
      constructor
      · intro h'; omega
      · intro h'
        by_cases e2 : nth set j = (k : Int)
        · exfalso
          apply hin
          rw [inK_all, ← e2, nth_get hj]
          exact List.getElem_mem _
        · omega
theorem mostR_all {n : Nat} {set : List Int} (h : SetOk n set) (x : Net) : mostR n x (inK set set.length) set set.length = most_ n x (inK set set.length) n := by
  obtain ⟨c, hc, hi, e⟩ := mostR_upto h x n (Nat.le_refl n)
  have : c = set.length := by
    by_cases h' : c < set.length
    · have := (hi c h').2 (h c h').2.1
      omega
    · omega
  rw [e, this]
/-- Is all well with one of the set? -/
def okQ (n : Nat) (x : Net) (ins : Nat → Bool) (most : Int) (q : Nat) : Prop := x.up q = true ∧ x.left q = false ∧ ∀ p, p < n → okPath x ins most p q = true
theorem aloneR_yes {n : Nat} {set : List Int} (h : SetOk n set) {x : Net} {most : Int} (hq : ∀ i, i < set.length → okQ n x (inK set set.length) most (nth set i).toNat) :
    aloneN n x (inK set set.length) most = mostR n x (inK set set.length) set set.length := by
  rw [mostR_all h]
  refine aloneN_yes fun q hq' hin => ?_
  obtain ⟨i, hil, hie⟩ := List.getElem_of_mem (inK_all.1 hin)
  have hie2 : nth set i = (q : Int) := by rw [nth_get hil]; exact hie
  have := hq i hil
  rw [hie2] at this
  exact this
theorem aloneR_no {n : Nat} {set : List Int} (h : SetOk n set) {x : Net} {most : Int} {i : Nat} (hi : i < set.length) (hq : ¬ okQ n x (inK set set.length) most (nth set i).toNat) :
    aloneN n x (inK set set.length) most = 0 := by
  obtain ⟨h1, h2, _⟩ := h i hi
  refine aloneN_no (q := (nth set i).toNat) (by omega) fun hh => hq (hh ?_)
  rw [inK_all, nth_get hi]
  rw [nth_get hi] at h1
  rw [Int.toNat_of_nonneg h1]
  exact List.getElem_mem _
theorem mostR_b {n : Nat} {set : List Int} (h : SetOk n set) {x : Net} (hx : Slow n x) (ins : Nat → Bool) : ∀ i, i ≤ set.length → 1 ≤ mostR n x ins set i ∧ mostR n x ins set i ≤ 16
  | 0, _ => by simp [mostR]
  | i + 1, hi => by
    have ih := mostR_b h hx ins i (by omega)
    have hs := h i (by omega)
    have h1 := into_ge x ins (nth set i).toNat n (mostR n x ins set i)
    have h2 := into_le hx ins (q := (nth set i).toNat) (by omega) n _ (Nat.le_refl n) ih.2
    unfold mostR
    omega

/-! ### The way back -/
/-- The reference's net at a place. -/
def netR (n : Nat) (l : List El) : Nat → Net
  | 0 => begunN n
  | k + 1 => match l[k]? with
    | some e => playN n (netR n l k) e.k e.a e.b e.n e.zs
    | none => netR n l k
theorem netR_succ {n : Nat} {l : List El} {k : Nat} {e : El} (h : l[k]? = some e) : netR n l (k + 1) = playN n (netR n l k) e.k e.a e.b e.n e.zs := by rw [netR, h]
theorem runP_net (n : Nat) (ins : Nat → Bool) (most : Int) (l : List El) : ∀ k, EqN n (runP n ins most l k).x (netR n l k)
  | 0 => EqN.begun n
  | k + 1 => by
    have ih := runP_net n ins most l k
    rw [runP, netR]
    cases l[k]? with
    | none => exact ih
    | some e =>
      show EqN n (stepP n ins most (runP n ins most l k) k e).x (playN n (netR n l k) e.k e.a e.b e.n e.zs)
      have : (stepP n ins most (runP n ins most l k) k e).x = playN n (runP n ins most l k).x e.k e.a e.b e.n e.zs := by
        unfold stepP
        simp only []
        split <;> rfl
      rw [this]
      exact ih.play _ _ _ _ _
/-- How it is at a place: the greatest delay, 0: not left alone. -/
def atR (n : Nat) (ins : Nat → Bool) (most : Int) (l : List El) (k : Nat) : Int := aloneN n (netR n l k) ins most
theorem atR_run (n : Nat) (ins : Nat → Bool) (most : Int) (l : List El) (k : Nat) : atR n ins most l k = aloneN n (runP n ins most l k).x ins most := ((runP_net n ins most l k).alone ins most).symm
def barAt (n : Nat) (ins : Nat → Bool) (l : List El) (k : Nat) : Bool := match l[k]? with
  | some e => touchN n ins e.k e.a
  | none => false
/-- From a place back, as far as it goes. -/
def backR (n : Nat) (ins : Nat → Bool) (most : Int) (l : List El) : Nat → Int → Nat × Int
  | 0, d => (0, d)
  | t + 1, d => if atR n ins most l t ≠ 0 ∧ barAt n ins l t = false then backR n ins most l t (max d (atR n ins most l t)) else (t + 1, d)
theorem backR_run (n : Nat) (ins : Nat → Bool) (most : Int) (l : List El) : ∀ (k : Nat) (d : Int), k ≤ l.length → atR n ins most l k ≠ 0 → atR n ins most l k ≤ d →
    (((backR n ins most l k d).1 : Int), (backR n ins most l k d).2) = ((runP n ins most l k).t, max d (runP n ins most l k).d)
  | 0, d, _, h0, hd => by
    have : max d (runP n ins most l 0).d = d := by
      have e : (runP n ins most l 0).d = atR n ins most l 0 := by rw [atR_run]; rfl
      rw [e]
      omega
    rw [this]
    rfl
  | k + 1, d, hk, h0, hd => by
    obtain ⟨e, he⟩ : ∃ e, l[k]? = some e := ⟨_, List.getElem?_eq_getElem (by omega)⟩
    have hinv := runP_inv n ins most l k
    rw [← atR_run] at hinv
    have hx : (stepP n ins most (runP n ins most l k) k e).x = playN n (runP n ins most l k).x e.k e.a e.b e.n e.zs := by
      unfold stepP
      simp only []
      split <;> rfl
    have hnow : aloneN n (playN n (runP n ins most l k).x e.k e.a e.b e.n e.zs) ins most = atR n ins most l (k + 1) := by
      rw [atR_run, runP_succ he, hx]
    have hbar : barAt n ins l k = touchN n ins e.k e.a := by unfold barAt; rw [he]
    rw [runP_succ he, backR, hbar]
    by_cases hg : atR n ins most l k ≠ 0 ∧ touchN n ins e.k e.a = false
    · rw [if_pos hg, backR_run n ins most l k (max d (atR n ins most l k)) (by omega) hg.1 (by omega)]
      rw [stepP_no (by
        rintro (h | h | h)
        · exact hg.1 (hinv.1.1 h)
        · rw [hg.2] at h; cases h
        · rw [hnow] at h; exact h0 h)]
      rw [hnow]
      have e1 : max (max d (atR n ins most l k)) (runP n ins most l k).d = max d (max (runP n ins most l k).d (atR n ins most l (k + 1))) := by
        have := hinv.2
        omega
      rw [e1]
    · rw [if_neg hg, stepP_yes (by
        by_cases h1 : atR n ins most l k = 0
        · exact .inl (hinv.1.2 h1)
        · right; left
          cases ht : touchN n ins e.k e.a with
          | true => rfl
          | false => exact absurd ⟨h1, ht⟩ hg)]
      rw [hnow]
      have e1 : max d (atR n ins most l (k + 1)) = d := by omega
      show (((k + 1 : Nat) : Int), d) = ((k : Int) + 1, max d (atR n ins most l (k + 1)))
      rw [e1]
      simp
/-- What Within answers is what the run ends in. -/
theorem within_run {n : Nat} {ins : Nat → Bool} {most : Int} {l : List El} (h0 : atR n ins most l l.length ≠ 0) :
    (runP n ins most l l.length).d ≠ 0 ∧ (((backR n ins most l l.length (atR n ins most l l.length)).1 : Int), (backR n ins most l l.length (atR n ins most l l.length)).2) = ((runP n ins most l l.length).t, (runP n ins most l l.length).d) := by
  have hinv := runP_inv n ins most l l.length
  rw [← atR_run] at hinv
  refine ⟨fun h => h0 (hinv.1.1 h), ?_⟩
  rw [backR_run n ins most l l.length _ (Nat.le_refl _) h0 (Int.le_refl _)]
  have : max (atR n ins most l l.length) (runP n ins most l l.length).d = (runP n ins most l l.length).d := by have := hinv.2; omega
  rw [this]
theorem within_no {n : Nat} {ins : Nat → Bool} {most : Int} {l : List El} (h0 : atR n ins most l l.length = 0) : (runP n ins most l l.length).d = 0 := by
  have hinv := runP_inv n ins most l l.length
  rw [← atR_run] at hinv
  exact hinv.1.2 h0
theorem Slow.netR (n : Nat) (l : List El) : ∀ k, Slow n (netR n l k)
  | 0 => fun p q hp hq => by
    show 1 ≤ (if (p < n ∧ q < n) ∨ (p = n ∧ q < 0) then (1 : Int) else 0) ∧ _
    refine ⟨by rw [if_pos (.inl ⟨hp, hq⟩)]; omega, ?_⟩
    show (if (p < n ∧ q < n) ∨ (p = n ∧ q < 0) then (1 : Int) else 0) ≤ 16
    rw [if_pos (.inl ⟨hp, hq⟩)]; omega
  | k + 1 => by
    unfold Go.Proofs.Ytkcjfiifajjpiaa.netR
    cases l[k]? with
    | none => exact Slow.netR n l k
    | some e => exact (Slow.netR n l k).play _ _ _ _ _
end Go.Proofs.Ytkcjfiifajjpiaa
