/-
  Plain facts of a split: where all nodes together are left alone, so is each side of a split behind it.
-/
import Derived.Test.YtkcjfiifajjpiaaPiece
set_option linter.unusedVariables false
set_option linter.unusedSimpArgs false
namespace Go.Proofs.Ytkcjfiifajjpiaa
open Go.RowKit Go.WideShapes Go.ChangeShapes Q

/-- n times the side 3. -/
def same3 (n : Nat) : List Int := List.replicate n 3
theorem same3_len (n : Nat) : (same3 n).length = n := by simp [same3]
theorem same3_succ (n : Nat) : same3 (n + 1) = same3 n ++ [3] := by simp [same3, List.replicate_succ']
theorem nth_same3 {n i : Nat} (h : i < n) : nth (same3 n) i = 3 := by simp [nth, same3, h]
/-- On which side a node is. -/
def sideOf (set : List Int) (p : Nat) : Int := if set.contains (p : Int) then 2 else 1
def two (set : List Int) (n : Nat) : List Int := (List.range n).map (sideOf set)
theorem two_len (set : List Int) (n : Nat) : (two set n).length = n := by simp [two]
theorem two_succ (set : List Int) (n : Nat) : two set (n + 1) = two set n ++ [sideOf set n] := by simp [two, List.range_succ]
theorem nth_two {set : List Int} {n i : Nat} (h : i < n) : nth (two set n) i = sideOf set i := by simp [nth, two, h]
/-- The nodes of one side. -/
def sideL (set : List Int) (k : Int) (n : Nat) : List Int := ((List.range n).filter fun p => decide (sideOf set p = k)).map fun (i : Nat) => (i : Int)
theorem sideL_succ (set : List Int) (k : Int) (n : Nat) : sideL set k (n + 1) = if sideOf set n = k then sideL set k n ++ [(n : Int)] else sideL set k n := by
  unfold sideL
  rw [List.range_succ, List.filter_append, List.map_append]
  split <;> rename_i h <;> simp [h]
theorem sideL_len (set : List Int) (k : Int) (n : Nat) : (sideL set k n).length ≤ n := by
  unfold sideL
  rw [List.length_map]
  exact Nat.le_trans (List.length_filter_le _ _) (by simp)
theorem mem_sideL {set : List Int} {k : Int} {n : Nat} {q : Nat} : (q : Int) ∈ sideL set k n ↔ q < n ∧ sideOf set q = k := by
  unfold sideL
  simp only [List.mem_map, List.mem_filter, List.mem_range, decide_eq_true_eq]
  constructor
  · rintro ⟨a, h, e⟩
    obtain rfl : a = q := by omega
    exact h
  · intro h
    exact ⟨q, h, rfl⟩
theorem sideL_ok (set : List Int) (k : Int) (n : Nat) : SetOk n (sideL set k n) := by
  have hp : (sideL set k n).Pairwise (· < ·) := by
    unfold sideL
    rw [List.pairwise_map]
    exact (List.pairwise_lt_range.filter _).imp fun h => by omega
  intro i hi
  rw [nth_get hi]
  have hm : (sideL set k n)[i] ∈ sideL set k n := List.getElem_mem hi
  obtain ⟨q, hq⟩ : ∃ q : Nat, (sideL set k n)[i] = (q : Int) ∧ q < n := by
    unfold sideL at hm ⊢
    simp only [List.mem_map, List.mem_filter, List.mem_range] at hm
    obtain ⟨a, h, e⟩ := hm
    exact ⟨a, e.symm, h.1⟩
  refine ⟨by omega, by omega, fun h => ?_⟩
  rw [nth_get (by omega), ← nth_get hi, nth_get hi]
  exact List.pairwise_iff_getElem.1 hp _ _ (by omega) hi (by omega)
theorem inK_all {set : List Int} {q : Nat} : inK set set.length q = true ↔ (q : Int) ∈ set := by
  unfold inK
  rw [List.take_length]
  simp
theorem side_in {set : List Int} {k : Int} {n q : Nat} : inK (sideL set k n) (sideL set k n).length q = true ↔ q < n ∧ sideOf set q = k := by rw [inK_all, mem_sideL]

theorem cutK_all {zs : List Int} {n p q : Nat} {c : Nat → Nat → Bool} (hp : p < n) (hq : q < n) : cutK zs n n 0 c p q = (nth zs p != nth zs q) := by
  unfold cutK
  rw [if_pos (.inl ⟨hp, hq⟩)]
theorem any_bad_false {zs : List Int} (h : ∀ z ∈ zs, 0 ≤ z ∧ z < 16) : zs.any badSide = false := by
  rw [List.any_eq_false]
  intro z hz
  have := h z hz
  unfold badSide
  simp
  omega
theorem play_split {n : Nat} {x : Net} {a b m : Int} {zs : List Int} (hl : zs.length = n) (h : ∀ z ∈ zs, 0 ≤ z ∧ z < 16) : playN n x 11 a b m zs = { x with cut := cutK zs n n 0 x.cut } := by
  show splitN n x zs = _
  unfold splitN
  rw [if_pos ⟨hl, any_bad_false h⟩]
theorem touch_split (n : Nat) (ins : Nat → Bool) (a : Int) : touchN n ins 11 a = false := rfl
theorem same3_in (n : Nat) : ∀ z ∈ same3 n, (0 : Int) ≤ z ∧ z < 16 := by
  intro z hz
  have := List.eq_of_mem_replicate hz
  omega
theorem two_in (set : List Int) (n : Nat) : ∀ z ∈ two set n, (0 : Int) ≤ z ∧ z < 16 := by
  intro z hz
  unfold two at hz
  obtain ⟨p, _, rfl⟩ := List.mem_map.1 hz
  unfold sideOf
  split <;> omega

/-! ### The greatest delay grows with the set -/
theorem into_mono (x x' : Net) (hx : x.dly = x'.dly) (ins ins' : Nat → Bool) (h : ∀ p, ins p = true → ins' p = true) (q : Nat) : ∀ (j : Nat) (d d' : Int), d ≤ d' → into x ins q j d ≤ into x' ins' q j d'
  | 0, d, d', hd => hd
  | j + 1, d, d', hd => by
    have ih := into_mono x x' hx ins ins' h q j d d' hd
    unfold into
    rw [← hx]
    by_cases h1 : j ≠ q ∧ ins j = true
    · rw [if_pos h1, if_pos ⟨h1.1, h j h1.2⟩]
      omega
    · rw [if_neg h1]
      split <;> omega
theorem most_mono (n : Nat) (x x' : Net) (hx : x.dly = x'.dly) (ins ins' : Nat → Bool) (h : ∀ p, ins p = true → ins' p = true) : ∀ k, most_ n x ins k ≤ most_ n x' ins' k
  | 0 => Int.le_refl 1
  | k + 1 => by
    have ih := most_mono n x x' hx ins ins' h k
    unfold most_
    by_cases h1 : ins k = true
    · rw [if_pos h1, if_pos (h k h1)]
      exact into_mono x x' hx ins ins' h k n _ _ ih
    · rw [if_neg h1]
      split
      · exact Int.le_trans ih (into_ge _ _ _ _ _)
      · exact ih

/-- Behind both splits. -/
theorem prem_apart {c : Cfg} {set : List Int} {l : List El} {k : Int} {e1 e2 : El} (hok : c.Ok) (hf : c.floor ≤ 2305843009213693952) (h4 : l.length ≤ 3990)
    (hk1 : e1.k = 11) (hz1 : e1.zs = same3 c.nodes.toNat) (hk2 : e2.k = 11) (hz2 : e2.zs = two set c.nodes.toNat) {t d : Int} (hp : premP c (upto c.nodes.toNat) (l ++ [e1]) = (t, d, 0)) (hs : sideL set k c.nodes.toNat ≠ []) :
    ∃ u g, premP c (sideL set k c.nodes.toNat) (l ++ [e1] ++ [e2]) = (u, g, 0) ∧ ((sideL set k c.nodes.toNat).length < c.nodes.toNat → u = (l.length : Int) + 2 ∧ 1 ≤ g ∧ g ≤ d) ∧ ((sideL set k c.nodes.toNat).length = c.nodes.toNat → u = t ∧ g = d) := by
  obtain ⟨n, hn⟩ : ∃ n, n = c.nodes.toNat := ⟨_, rfl⟩
  rw [← hn] at hz1 hz2 hp hs ⊢
  obtain ⟨hF, hd⟩ := premP_err hok hf (l := l ++ [e1]) (by simp; omega) (by rw [hp])
  have hpf := premP_fit hF
  rw [← hn] at hd hpf
  rw [hp, if_neg hd] at hpf
  simp only [Prod.mk.injEq] at hpf
  obtain ⟨ht, hdd, _⟩ := hpf
  have hb := hok.base
  -- the net behind the first split
  obtain ⟨x0, hx0⟩ : ∃ x0, x0 = (finP n (inK (upto n) (upto n).length) c.base l).x := ⟨_, rfl⟩
  obtain ⟨x1, hx1⟩ : ∃ x1, x1 = (finP n (inK (upto n) (upto n).length) c.base (l ++ [e1])).x := ⟨_, rfl⟩
  have hs1 : playN n x0 e1.k e1.a e1.b e1.n e1.zs = { x0 with cut := cutK (same3 n) n n 0 x0.cut } := by
    rw [hk1, hz1]
    exact play_split (same3_len n) (same3_in n)
  have step_x : ∀ (ins : Nat → Bool) (s : Pst) (i : Nat) (e : El), (stepP n ins c.base s i e).x = playN n s.x e.k e.a e.b e.n e.zs := by
    intro ins s i e
    unfold stepP
    simp only []
    split <;> rfl
  have hx1e : x1 = { x0 with cut := cutK (same3 n) n n 0 x0.cut } := by rw [hx1, finP_snoc, step_x, ← hx0, hs1]
  have hcut1 : ∀ p q, p < n → q < n → x1.cut p q = false := by
    intro p q hp hq
    rw [hx1e]
    show cutK (same3 n) n n 0 x0.cut p q = false
    rw [cutK_all hp hq, nth_same3 hp, nth_same3 hq]
    rfl
  have hinv := finP_inv n (inK (upto n) (upto n).length) c.base (l ++ [e1])
  rw [← hx1] at hinv
  have ha1 : aloneN n x1 (inK (upto n) (upto n).length) c.base ≠ 0 := fun h => hd (hinv.1.2 h)
  have hall : ∀ q, q < n → okNode n x1 (inK (upto n) (upto n).length) c.base q := by
    intro q hq
    by_cases h : okNode n x1 (inK (upto n) (upto n).length) c.base q
    · exact h
    · exact absurd (aloneN_no hq h) ha1
  have hup : ∀ q, q < n → x1.up q = true ∧ x1.left q = false ∧ ∀ p, p < n → p ≠ q → x1.dly p q ≤ c.base := by
    intro q hq
    obtain ⟨h1, h2, h3⟩ := hall q hq (upto_in hq)
    refine ⟨h1, h2, fun p hp hpq => ?_⟩
    have := h3 p hp
    unfold okPath at this
    rw [upto_in hp] at this
    simp only [Bool.or_eq_true, Bool.and_eq_true, decide_eq_true_eq, Bool.not_true, Bool.false_eq_true, false_or] at this
    rcases this with h | ⟨_, h⟩
    · exact absurd h hpq
    · exact h
  -- the net behind the second
  obtain ⟨ins, hins⟩ : ∃ ins, ins = inK (sideL set k n) (sideL set k n).length := ⟨_, rfl⟩
  have hin : ∀ q, ins q = true ↔ q < n ∧ sideOf set q = k := by intro q; rw [hins]; exact side_in
  have hx1s : (finP n ins c.base (l ++ [e1])).x = x1 := by rw [hx1]; exact finP_x n _ _ _ _
  obtain ⟨x2, hx2⟩ : ∃ x2 : Net, x2 = { x1 with cut := cutK (two set n) n n 0 x1.cut } := ⟨_, rfl⟩
  have hs2 : playN n x1 e2.k e2.a e2.b e2.n e2.zs = x2 := by
    rw [hk2, hz2, hx2]
    exact play_split (two_len set n) (two_in set n)
  have hcut2 : ∀ p q, p < n → q < n → x2.cut p q = (sideOf set p != sideOf set q) := by
    intro p q hp hq
    rw [hx2]
    show cutK (two set n) n n 0 x1.cut p q = _
    rw [cutK_all hp hq, nth_two hp, nth_two hq]
  have hd2 : x1.dly = x2.dly := by rw [hx2]
  have hok2 : ∀ q, q < n → okNode n x2 ins c.base q := by
    intro q hq hi
    obtain ⟨h1, h2, h3⟩ := hup q hq
    have hsq := ((hin q).1 hi).2
    refine ⟨by rw [hx2]; exact h1, by rw [hx2]; exact h2, fun p hp => ?_⟩
    unfold okPath
    by_cases hpq : p = q
    · simp [hpq]
    · rw [hcut2 p q hp hq, hsq, ← hd2]
      have h4 := h3 p hp hpq
      by_cases hsp : sideOf set p = k
      · have hip : ins p = true := (hin p).2 ⟨hp, hsp⟩
        rw [hip, hsp]
        simp [h4]
      · have hip : ins p = false := by
          rw [Bool.eq_false_iff]
          intro h
          exact hsp ((hin p).1 h).2
        rw [hip]
        simp [hsp]
  have hnow : aloneN n x2 ins c.base = most_ n x2 ins n := aloneN_yes hok2
  have hm1 := most_ge n x2 ins n
  have hmle : most_ n x2 ins n ≤ d := by
    have h1 := most_mono n x2 x1 hd2.symm ins (inK (upto n) (upto n).length) (fun p hp => upto_in ((hin p).1 hp).1) n
    have h2 : aloneN n x1 (inK (upto n) (upto n).length) c.base = most_ n x1 (inK (upto n) (upto n).length) n := aloneN_yes hall
    have h3 := hinv.2
    rw [h2, ← hdd] at h3
    omega
  have hfit2 : Fit c (sideL set k n) (l ++ [e1] ++ [e2]) := ⟨hok, by simp; omega, hs, hf, by rw [← hn]; exact sideL_ok set k n⟩
  have hpf2 := premP_fit hfit2
  rw [← hn, ← hins, finP_snoc] at hpf2
  have hstep : playN n (finP n ins c.base (l ++ [e1])).x e2.k e2.a e2.b e2.n e2.zs = x2 := by rw [hx1s, hs2]
  have htc : touchN n ins e2.k e2.a = false := by rw [hk2]; rfl
  by_cases hlen : (sideL set k n).length = n
  · -- all on one side: nothing turns
    have hfull : ∀ q, q < n → sideOf set q = k := by
      intro q hq
      have hlf : ((List.range n).filter fun p => decide (sideOf set p = k)).length = (List.range n).length := by
        have : (sideL set k n).length = ((List.range n).filter fun p => decide (sideOf set p = k)).length := by simp [sideL]
        rw [← this, hlen]
        simp
      have := List.length_filter_eq_length_iff.1 hlf q (by simp [hq])
      simpa using this
    have hie : ∀ q, q < n → ins q = inK (upto n) (upto n).length q := by
      intro q hq
      rw [upto_in hq]
      exact (hin q).2 ⟨hq, hfull q hq⟩
    have hinsE : ins = inK (upto n) (upto n).length := by
      funext q
      by_cases hq : q < n
      · exact hie q hq
      · have h1 : ins q = false := by
          rw [Bool.eq_false_iff]
          intro h
          exact hq ((hin q).1 h).1
        have h2 : inK (upto n) (upto n).length q = false := by
          rw [Bool.eq_false_iff]
          intro h
          rw [inK_all] at h
          unfold upto at h
          simp at h
          omega
        rw [h1, h2]
    have hsd : finP n ins c.base (l ++ [e1]) = finP n (inK (upto n) (upto n).length) c.base (l ++ [e1]) := by rw [hinsE]
    have hmd : most_ n x2 ins n ≤ (finP n ins c.base (l ++ [e1])).d := by rw [hsd, ← hdd]; exact hmle
    have hno : ¬ ((finP n ins c.base (l ++ [e1])).d = 0 ∨ touchN n ins e2.k e2.a = true ∨ aloneN n (playN n (finP n ins c.base (l ++ [e1])).x e2.k e2.a e2.b e2.n e2.zs) ins c.base = 0) := by
      rintro (h | h | h)
      · rw [hsd] at h; exact hd h
      · rw [htc] at h; cases h
      · rw [hstep, hnow] at h; omega
    rw [stepP_no hno, hstep, hnow] at hpf2
    have hmax : max (finP n ins c.base (l ++ [e1])).d (most_ n x2 ins n) = d := by rw [hsd] at hmd ⊢; rw [← hdd] at hmd ⊢; omega
    refine ⟨t, d, ?_, fun h => absurd hlen (by omega), fun _ => ⟨rfl, rfl⟩⟩
    rw [hpf2]
    show (if max (finP n ins c.base (l ++ [e1])).d (most_ n x2 ins n) = 0 then _ else ((finP n ins c.base (l ++ [e1])).t, max (finP n ins c.base (l ++ [e1])).d (most_ n x2 ins n), (0 : Int))) = _
    rw [hmax, if_neg (by rw [hdd]; exact hd), hsd, ← ht]
  · -- a part: it was not left alone before
    have hlt : (sideL set k n).length < n := by have := sideL_len set k n; omega
    obtain ⟨q, hq⟩ : ∃ q, ins q = true := by
      cases hcs : sideL set k n with
      | nil => exact absurd hcs hs
      | cons a r =>
        have hm : a ∈ sideL set k n := by rw [hcs]; simp
        have hm2 := hm
        unfold sideL at hm2
        simp only [List.mem_map] at hm2
        obtain ⟨q, _, rfl⟩ := hm2
        exact ⟨q, by rw [hins, inK_all]; exact hm⟩
    have hqn := ((hin q).1 hq).1
    obtain ⟨p, hpn, hpk⟩ : ∃ p, p < n ∧ sideOf set p ≠ k := by
      by_cases h : ∀ p, p < n → sideOf set p = k
      · exfalso
        apply hlen
        have : (List.range n).filter (fun p => decide (sideOf set p = k)) = List.range n := List.filter_eq_self.2 fun p hp => by simpa using h p (by simpa using hp)
        unfold sideL
        rw [this]
        simp
      · simpa using h
    have hbad : aloneN n x1 ins c.base = 0 := by
      refine aloneN_no hqn fun h => ?_
      have h3 := (h hq).2.2 p hpn
      unfold okPath at h3
      have hip : ins p = false := by
        rw [Bool.eq_false_iff]
        intro h'
        exact hpk ((hin p).1 h').2
      rw [hip, hcut1 p q hpn hqn] at h3
      have hpq : p ≠ q := by
        intro e
        rw [e] at hip
        rw [hip] at hq
        cases hq
      simp [hpq] at h3
    have hz : (finP n ins c.base (l ++ [e1])).d = 0 := by
      have := (finP_inv n ins c.base (l ++ [e1])).1
      rw [hx1s] at this
      exact this.2 hbad
    rw [stepP_yes (.inl hz), hstep, hnow] at hpf2
    refine ⟨((l ++ [e1]).length : Int) + 1, most_ n x2 ins n, ?_, fun _ => ⟨by simp; omega, hm1, hmle⟩, fun h => absurd h hlen⟩
    rw [hpf2]
    show (if most_ n x2 ins n = 0 then _ else _) = _
    rw [if_neg (by omega)]
/-- All together: only the last error is left. -/
theorem prem_all_err {c : Cfg} {l : List El} (hok : c.Ok) (hf : c.floor ≤ 2305843009213693952) (h4 : l.length ≤ 4000) : (premP c (upto c.nodes.toNat) l).2.2 = 0 ∨ (premP c (upto c.nodes.toNat) l).2.2 = 180 := by
  have hn := hok.nodes
  have hne : upto c.nodes.toNat ≠ [] := by
    intro h
    have := congrArg List.length h
    rw [upto_len] at this
    simp at this
    omega
  rw [premP_fit ⟨hok, h4, hne, hf, upto_ok _⟩]
  split
  · exact .inr rfl
  · exact .inl rfl
end Go.Proofs.Ytkcjfiifajjpiaa
