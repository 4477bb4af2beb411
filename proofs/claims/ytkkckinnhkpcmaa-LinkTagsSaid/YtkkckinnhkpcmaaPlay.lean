/-
  Two streams that talk: what each act makes of them, and what stays true (plain).
-/
import Derived.Test.YtkkckinnhkpcmaaWir
import Derived.Test.YtkkckinnhkpcmaaAcked
set_option linter.unusedVariables false
namespace Go.Proofs.Ytkkckinnhkpcmaa
open Q

def bodN (bs : List Int) : List Int := if bs.length = 0 then [1] else bs.take 20
theorem bodN_len (bs : List Int) : 1 ≤ (bodN bs).length ∧ (bodN bs).length ≤ 20 := by
  unfold bodN
  split
  · simp
  · rw [List.length_take]; omega
def pushS (Sp : Nat) (x : Wr) (s : Nat) (bs : List Int) : Wr :=
  if (x.st s).out.length < Sp then { x with st := upd x.st s { x.st s with out := (x.st s).out ++ [bodN bs] }, P := upd x.P s (x.P s ++ [bodN bs]) } else x
def shown (W : Nat) (y : Str) : List (Int × List Int) := (List.range (Min.min W y.out.length)).map fun (i : Nat) => (y.first + (i : Int), y.out.getD i [])
def showS (W : Nat) (x : Wr) (s : Nat) : Wr := { x with F := upd x.F s (x.F s ++ shown W (x.st s)) }
def oweS (x : Wr) (s : Nat) : Wr := if (x.st s).owed then { x with st := upd x.st s { x.st s with owed := false }, A := upd x.A s (x.A s ++ [(x.st s).next - 1]) } else x
def pick {α : Type} (l : List α) (n : Int) : Option α := l[(absZ n % l.length).toNat]?
def carryF (x : Wr) (t : Nat) (f : Int × List Int) : Wr := { x with st := upd x.st t (takeS (x.st t) f.1 f.2), O := upd x.O t (x.O t ++ takeO (x.st t) f.1 f.2) }
def carryS (x : Wr) (s t : Nat) (n : Int) : Wr :=
  match pick (x.F s) n with
  | none => x
  | some f => carryF x t f
def answerU (x : Wr) (t : Nat) (u : Int) : Wr := { x with st := upd x.st t (ackS (x.st t) u) }
def answerS (x : Wr) (s t : Nat) (n : Int) : Wr :=
  match pick (x.A s) n with
  | none => x
  | some u => answerU x t u

/-- One direction: a sends, b takes; P was pushed, O came out, F and A are what the network holds. -/
structure Half (W Sp n p q : Nat) (a b : Str) (P O : List (List Int)) (F : List (Int × List Int)) (A : List Int) : Prop where
  af : a.first = (p : Int) + 1
  bn : b.next = (q : Int) + 1
  out : a.out = P.drop p
  pP : p ≤ P.length
  room : a.out.length ≤ Sp
  oq : O = P.take q
  qP : q ≤ P.length
  pq : p ≤ q
  qW : q ≤ p + W
  el : b.ear.length = W
  ear : ∀ i y, b.ear[i]? = some (some y) → P[q + i]? = some y ∧ q + i + 1 ≤ p + W
  e0 : (b.ear.getD 0 none).isSome = false
  fr : ∀ f ∈ F, ∃ j : Nat, f.1 = (j : Int) + 1 ∧ j < p + W ∧ P[j]? = some f.2
  ak : ∀ u ∈ A, ∃ j : Nat, u = (j : Int) ∧ j ≤ q
  len : ∀ y ∈ P, 1 ≤ y.length ∧ y.length ≤ 20
  cP : P.length ≤ n
  cF : F.length ≤ 5 * n
  cA : A.length ≤ n
def Inv (W Sp n : Nat) (x : Wr) : Prop := ∀ s t, s + t = 1 → ∃ p q, Half W Sp n p q (x.st s) (x.st t) (x.P s) (x.O t) (x.F s) (x.A t)

section
variable {W Sp n p q : Nat} {a b : Str} {P O : List (List Int)} {F : List (Int × List Int)} {A : List Int}
theorem Half.oLen (h : Half W Sp n p q a b P O F A) : O.length = q := by rw [h.oq, List.length_take]; have := h.qP; omega
theorem Half.outLen (h : Half W Sp n p q a b P O F A) : p + a.out.length = P.length := by rw [h.out, List.length_drop]; have := h.pP; omega
theorem Half.more (h : Half W Sp n p q a b P O F A) : Half W Sp (n + 1) p q a b P O F A :=
  ⟨h.af, h.bn, h.out, h.pP, h.room, h.oq, h.qP, h.pq, h.qW, h.el, h.ear, h.e0, h.fr, h.ak, h.len, by have := h.cP; omega, by have := h.cF; omega, by have := h.cA; omega⟩
/-- b's keeping of what is owed, and what b sends, do not matter. -/
theorem Half.turn (h : Half W Sp n p q a b P O F A) {a' b' : Str} (h1 : a'.first = a.first) (h2 : a'.out = a.out) (h3 : b'.next = b.next) (h4 : b'.ear = b.ear) : Half W Sp n p q a' b' P O F A :=
  ⟨by rw [h1]; exact h.af, by rw [h3]; exact h.bn, by rw [h2]; exact h.out, h.pP, by rw [h2]; exact h.room, h.oq, h.qP, h.pq, h.qW, by rw [h4]; exact h.el, by rw [h4]; exact h.ear, by rw [h4]; exact h.e0, h.fr, h.ak, h.len, h.cP, h.cF, h.cA⟩
theorem Half.push (h : Half W Sp n p q a b P O F A) (y : List Int) (hy : 1 ≤ y.length ∧ y.length ≤ 20) (hr : a.out.length < Sp) :
    Half W Sp (n + 1) p q { a with out := a.out ++ [y] } b (P ++ [y]) O F A := by
  have get : ∀ (j : Nat) z, P[j]? = some z → (P ++ [y])[j]? = some z := fun j z hz => by
    rw [List.getElem?_append_left (List.getElem?_eq_some_iff.1 hz).1]; exact hz
  refine ⟨h.af, h.bn, ?_, ?_, ?_, ?_, ?_, h.pq, h.qW, h.el, fun i z hz => ⟨get _ _ (h.ear i z hz).1, (h.ear i z hz).2⟩, h.e0, fun f hf => ?_, h.ak, fun z hz => ?_, ?_, by have := h.cF; omega, by have := h.cA; omega⟩
  · show a.out ++ [y] = _
    rw [List.drop_append_of_le_length h.pP, h.out]
  · have := h.pP; simp; omega
  · simp; omega
  · rw [List.take_append_of_le_length h.qP]; exact h.oq
  · have := h.qP; simp; omega
  · obtain ⟨j, h1, h2, h3⟩ := h.fr f hf
    exact ⟨j, h1, h2, get _ _ h3⟩
  · rcases List.mem_append.1 hz with hz | hz
    · exact h.len z hz
    · simp at hz; subst hz; exact hy
  · have := h.cP; simp; omega
theorem Half.shown_ok (h : Half W Sp n p q a b P O F A) : ∀ f ∈ shown W a, ∃ j : Nat, f.1 = (j : Int) + 1 ∧ j < p + W ∧ P[j]? = some f.2 := by
  intro f hf
  simp only [shown, List.mem_map, List.mem_range] at hf
  obtain ⟨i, hi, rfl⟩ := hf
  have hi1 : i < a.out.length := by omega
  refine ⟨p + i, ?_, by omega, ?_⟩
  · show a.first + (i : Int) = _
    rw [h.af]; omega
  · show _ = some (a.out.getD i [])
    have : a.out[i]? = P[p + i]? := by rw [h.out, List.getElem?_drop]
    rw [← this]
    simp [List.getD, List.getElem?_eq_getElem hi1]
theorem shown_len (W : Nat) (y : Str) : (shown W y).length = Min.min W y.out.length := by simp [shown]
theorem Half.show_ (h : Half W Sp n p q a b P O F A) (hW : W ≤ 5) : Half W Sp (n + 1) p q a b P O (F ++ shown W a) A := by
  refine ⟨h.af, h.bn, h.out, h.pP, h.room, h.oq, h.qP, h.pq, h.qW, h.el, h.ear, h.e0, fun f hf => ?_, h.ak, h.len, by have := h.cP; omega, ?_, by have := h.cA; omega⟩
  · rcases List.mem_append.1 hf with hf | hf
    · exact h.fr f hf
    · exact h.shown_ok f hf
  · have := h.cF
    rw [List.length_append, shown_len]; omega
theorem Half.owe (h : Half W Sp n p q a b P O F A) : Half W Sp (n + 1) p q a { b with owed := false } P O F (A ++ [b.next - 1]) := by
  refine ⟨h.af, h.bn, h.out, h.pP, h.room, h.oq, h.qP, h.pq, h.qW, h.el, h.ear, h.e0, h.fr, fun u hu => ?_, h.len, by have := h.cP; omega, by have := h.cF; omega, by have := h.cA; simp; omega⟩
  rcases List.mem_append.1 hu with hu | hu
  · exact h.ak u hu
  · simp at hu; subst hu
    exact ⟨q, by rw [h.bn]; omega, Nat.le_refl _⟩

theorem ear_outs {es : List (Option (List Int))} {q m : Nat} {P : List (List Int)} (hqP : q ≤ P.length) (h : ∀ i y, es[i]? = some (some y) → P[q + i]? = some y ∧ q + i + 1 ≤ m) : outs es = (P.drop q).take (lead es) ∧ q + lead es ≤ P.length ∧ (0 < lead es → q + lead es ≤ m) := by
  have hget : ∀ k, k < lead es → ∃ y, es[k]? = some (some y) := fun k hk => by
    have h1 := lead_here hk
    have hl := lead_le es
    have h2 : es[k]? = some (es[k]'(by omega)) := List.getElem?_eq_getElem (by omega)
    simp only [List.getD, h2, Option.getD_some] at h1
    cases he : es[k]'(by omega) with
    | none => rw [he] at h1; cases h1
    | some y => exact ⟨y, by rw [h2, he]⟩
  refine ⟨?_, ?_, fun h0 => ?_⟩
  · apply List.ext_getElem?
    intro k
    by_cases hk : k < lead es
    · have hl : k < (outs es).length := by rw [outs_len]; exact hk
      have e1 : (outs es)[k]? = some ((outs es)[k]'hl) := List.getElem?_eq_getElem hl
      have e2 := outs_get es k _ e1
      rw [e1, List.getElem?_take, if_pos hk, List.getElem?_drop, (h k _ e2).1]
    · rw [List.getElem?_eq_none (by rw [outs_len]; omega), List.getElem?_take, if_neg hk]
  · rcases Nat.eq_zero_or_pos (lead es) with h0 | h0
    · omega
    · obtain ⟨y, hy⟩ := hget (lead es - 1) (by omega)
      have := (List.getElem?_eq_some_iff.1 (h _ y hy).1).1
      omega
  · obtain ⟨y, hy⟩ := hget (lead es - 1) (by omega)
    have := (h _ y hy).2
    omega
theorem take_take_drop {α : Type} (l : List α) (q k : Nat) : l.take q ++ (l.drop q).take k = l.take (q + k) := by
  rw [List.take_add]
theorem Half.take_ (h : Half W Sp n p q a b P O F A) {j : Nat} {y : List Int} (hj : j < p + W) (hy : P[j]? = some y) :
    ∃ q', q ≤ q' ∧ (j ≤ q → j + 1 ≤ q') ∧ Half W Sp n p q' a (takeS b ((j : Int) + 1) y) P (O ++ takeO b ((j : Int) + 1) y) F A := by
  unfold takeS takeO
  have hbn := h.bn
  have hqP := h.qP
  by_cases hh : hasB b ((j : Int) + 1) = true
  · rw [if_pos hh, if_pos hh, List.append_nil]
    refine ⟨q, Nat.le_refl _, fun hjq => ?_, (h.turn (a' := a) (b' := { b with owed := true }) rfl rfl rfl rfl)⟩
    rcases Nat.lt_or_ge j q with hlt | hge
    · omega
    · exfalso
      obtain rfl : j = q := by omega
      unfold hasB at hh
      rw [if_neg (by omega), show ((j : Int) + 1 - b.next).toNat = 0 by omega, h.e0] at hh
      cases hh
  · rw [if_neg hh, if_neg hh]
    have hq : q ≤ j := by
      rcases Nat.lt_or_ge j q with hlt | hge
      · exfalso; apply hh; unfold hasB; rw [if_pos (by omega)]
      · exact hge
    have hi : ((j : Int) + 1 - b.next).toNat = j - q := by omega
    have het : takeE b ((j : Int) + 1) y = b.ear.set (j - q) (some y) := by unfold takeE; rw [hi]
    rw [het]
    have hil : j - q < b.ear.length := by rw [h.el]; have := h.pq; omega
    have hes : ∀ i z, (b.ear.set (j - q) (some y))[i]? = some (some z) → P[q + i]? = some z ∧ q + i + 1 ≤ p + W := by
      intro i z hz
      rw [List.getElem?_set] at hz
      by_cases e : j - q = i
      · subst e
        rw [if_pos rfl, if_pos hil] at hz
        simp at hz; subst hz
        rw [show q + (j - q) = j by omega]
        exact ⟨hy, by omega⟩
      · rw [if_neg e] at hz
        exact h.ear i z hz
    obtain ⟨e1, e2, e3⟩ := ear_outs hqP hes
    have hll := lead_le (b.ear.set (j - q) (some y))
    generalize hes' : b.ear.set (j - q) (some y) = es at *
    have hel : es.length = W := by rw [← hes', List.length_set]; exact h.el
    refine ⟨q + lead es, by omega, fun hjq => ?_, ⟨h.af, ?_, h.out, h.pP, h.room, ?_, e2, by have := h.pq; omega, ?_, ?_, ?_, ?_, h.fr, ?_, h.len, h.cP, h.cF, h.cA⟩⟩
    · have hjq' : j = q := by omega
      subst hjq'
      rcases Nat.eq_zero_or_pos (lead es) with h0 | h0
      · have := lead_stop (es := es) (by have := h.el; omega)
        rw [h0, ← hes'] at this
        simp [List.getD, show 0 < b.ear.length by omega] at this
      · omega
    · show b.next + (lead es : Int) = _
      rw [hbn]; omega
    · rw [e1]
      conv => lhs; lhs; rw [h.oq]
      exact take_take_drop _ _ _
    · rcases Nat.eq_zero_or_pos (lead es) with h0 | h0
      · have := h.qW; omega
      · have := e3 h0; omega
    · show (shifted es none (lead es)).length = W
      rw [shifted_len _ _ _ hll]; exact hel
    · intro i z hz
      have hz' : (shifted es none (lead es))[i]? = some (some z) := hz
      unfold shifted at hz'
      rcases Nat.lt_or_ge i (es.drop (lead es)).length with hk | hk
      · rw [List.getElem?_append_left hk, List.getElem?_drop] at hz'
        have := hes _ z hz'
        rw [← Nat.add_assoc] at this
        exact this
      · rw [List.getElem?_append_right hk] at hz'
        have := List.eq_of_mem_replicate (List.mem_of_getElem? hz')
        cases this
    · show ((shifted es none (lead es)).getD 0 none).isSome = false
      unfold shifted
      rcases Nat.lt_or_ge (lead es) es.length with hk | hk
      · have := lead_stop hk
        rw [List.getD, List.getElem?_append_left (by simp; omega), List.getElem?_drop, Nat.add_zero]
        exact this
      · rw [List.drop_of_length_le hk, List.nil_append, List.getD]
        cases hz : (List.replicate (lead es) (none : Option (List Int)))[0]? with
        | none => rfl
        | some z =>
          have := List.eq_of_mem_replicate (List.mem_of_getElem? hz)
          subst this; rfl
    · intro u hu
      obtain ⟨k, hk1, hk2⟩ := h.ak u hu
      exact ⟨k, hk1, by omega⟩
theorem Half.ack (h : Half W Sp n p q a b P O F A) {j : Nat} (hj : j ≤ q) : ∃ p', p ≤ p' ∧ j ≤ p' ∧ p' ≤ max p j ∧ Half W Sp n p' q (ackS a (j : Int)) b P O F A := by
  unfold ackS
  have haf := h.af
  have hpP := h.pP
  have hqP := h.qP
  by_cases hp : a.first ≤ (j : Int)
  · rw [if_pos hp]
    have hk : ((j : Int) - a.first + 1).toNat = j - p := by omega
    rw [hk]
    refine ⟨j, by omega, Nat.le_refl _, by omega, ⟨rfl, h.bn, ?_, by omega, ?_, h.oq, h.qP, hj, ?_, h.el, fun i z hz => ?_, h.e0, fun f hf => ?_, h.ak, h.len, h.cP, h.cF, h.cA⟩⟩
    · show a.out.drop (j - p) = _
      rw [h.out, List.drop_drop]; congr 1; omega
    · show (a.out.drop (j - p)).length ≤ Sp
      have := h.room; rw [List.length_drop]; omega
    · have := h.qW; omega
    · have := h.ear i z hz
      exact ⟨this.1, by omega⟩
    · obtain ⟨k, h1, h2, h3⟩ := h.fr f hf
      exact ⟨k, h1, by omega, h3⟩
  · rw [if_neg hp]
    exact ⟨p, Nat.le_refl _, by omega, by omega, h⟩
end
section
variable {W Sp n : Nat} {x : Wr}
theorem Inv.more (h : Inv W Sp n x) : Inv W Sp (n + 1) x := fun s t hst => by
  obtain ⟨p, q, hh⟩ := h s t hst
  exact ⟨p, q, hh.more⟩
theorem Inv.push (h : Inv W Sp n x) (s : Nat) (hs : s < 2) (bs : List Int) : Inv W Sp (n + 1) (pushS Sp x s bs) := by
  unfold pushS
  split
  · rename_i hr
    intro s' t' hst
    obtain ⟨p, q, hh⟩ := h s' t' hst
    by_cases e : s' = s
    · subst e
      have ht : t' ≠ s' := by omega
      refine ⟨p, q, ?_⟩
      show Half W Sp (n + 1) p q (upd x.st s' _ s') (upd x.st s' _ t') (upd x.P s' _ s') _ _ _
      rw [upd_same, upd_same, upd_ne _ _ _ _ ht]
      exact hh.push _ (bodN_len bs) hr
    · obtain rfl : t' = s := by omega
      refine ⟨p, q, ?_⟩
      show Half W Sp (n + 1) p q (upd x.st t' _ s') (upd x.st t' _ t') (upd x.P t' _ s') _ _ _
      rw [upd_same, upd_ne _ _ _ _ e, upd_ne _ _ _ _ e]
      exact hh.more.turn rfl rfl rfl rfl
  · exact h.more
theorem Inv.show_ (h : Inv W Sp n x) (s : Nat) (hs : s < 2) (hW : W ≤ 5) : Inv W Sp (n + 1) (showS W x s) := by
  intro s' t' hst
  obtain ⟨p, q, hh⟩ := h s' t' hst
  by_cases e : s' = s
  · subst e
    refine ⟨p, q, ?_⟩
    show Half W Sp (n + 1) p q _ _ _ _ (upd x.F s' _ s') _
    rw [upd_same]
    exact hh.show_ hW
  · refine ⟨p, q, ?_⟩
    show Half W Sp (n + 1) p q _ _ _ _ (upd x.F s _ s') _
    rw [upd_ne _ _ _ _ e]
    exact hh.more
theorem Inv.owe (h : Inv W Sp n x) (s : Nat) (hs : s < 2) : Inv W Sp (n + 1) (oweS x s) := by
  unfold oweS
  split
  · intro s' t' hst
    obtain ⟨p, q, hh⟩ := h s' t' hst
    by_cases e : s' = s
    · subst e
      have ht : t' ≠ s' := by omega
      refine ⟨p, q, ?_⟩
      show Half W Sp (n + 1) p q (upd x.st s' _ s') (upd x.st s' _ t') _ _ _ (upd x.A s' _ t')
      rw [upd_same, upd_ne _ _ _ _ ht, upd_ne _ _ _ _ ht]
      exact hh.more.turn rfl rfl rfl rfl
    · obtain rfl : t' = s := by omega
      refine ⟨p, q, ?_⟩
      show Half W Sp (n + 1) p q (upd x.st t' _ s') (upd x.st t' _ t') _ _ _ (upd x.A t' _ t')
      rw [upd_same, upd_same, upd_ne _ _ _ _ e]
      exact hh.owe
  · exact h.more
theorem Inv.carryF (h : Inv W Sp n x) {s t : Nat} (hst : s + t = 1) {f : Int × List Int} (hf : f ∈ x.F s) : Inv W Sp n (carryF x t f) := by
  intro s' t' hst'
  obtain ⟨p, q, hh⟩ := h s' t' hst'
  by_cases e : t' = t
  · subst e
    obtain rfl : s' = s := by omega
    have ne : s' ≠ t' := by omega
    obtain ⟨j, h1, h2, h3⟩ := hh.fr f hf
    obtain ⟨q', _, _, h4⟩ := hh.take_ h2 h3
    refine ⟨p, q', ?_⟩
    show Half W Sp n p q' (upd x.st t' _ s') (upd x.st t' _ t') _ (upd x.O t' _ t') _ _
    rw [upd_same, upd_same, upd_ne _ _ _ _ ne, h1]
    exact h4
  · obtain rfl : t' = s := by omega
    obtain rfl : s' = t := by omega
    refine ⟨p, q, ?_⟩
    show Half W Sp n p q (upd x.st s' _ s') (upd x.st s' _ t') _ (upd x.O s' _ t') _ _
    rw [upd_same, upd_ne _ _ _ _ e, upd_ne _ _ _ _ e]
    refine hh.turn ?_ ?_ rfl rfl
    · unfold takeS; split <;> rfl
    · unfold takeS; split <;> rfl
theorem Inv.answerU (h : Inv W Sp n x) {s t : Nat} (hst : s + t = 1) {u : Int} (hu : u ∈ x.A s) : Inv W Sp n (answerU x t u) := by
  intro s' t' hst'
  obtain ⟨p, q, hh⟩ := h s' t' hst'
  by_cases e : s' = t
  · subst e
    obtain rfl : t' = s := by omega
    have ne : t' ≠ s' := by omega
    obtain ⟨j, rfl, hj⟩ := hh.ak u hu
    obtain ⟨p', _, _, _, h4⟩ := hh.ack hj
    refine ⟨p', q, ?_⟩
    show Half W Sp n p' q (upd x.st s' _ s') (upd x.st s' _ t') _ _ _ _
    rw [upd_same, upd_ne _ _ _ _ ne]
    exact h4
  · obtain rfl : t' = t := by omega
    refine ⟨p, q, ?_⟩
    show Half W Sp n p q (upd x.st t' _ s') (upd x.st t' _ t') _ _ _ _
    rw [upd_same, upd_ne _ _ _ _ e]
    refine hh.turn rfl rfl ?_ ?_
    · unfold ackS; split <;> rfl
    · unfold ackS; split <;> rfl
theorem pick_mem {α : Type} {l : List α} {n : Int} {a : α} (h : pick l n = some a) : a ∈ l := List.mem_of_getElem? h
theorem Inv.carry (h : Inv W Sp n x) {s t : Nat} (hst : s + t = 1) (k : Int) : Inv W Sp n (carryS x s t k) := by
  unfold carryS
  split
  · exact h
  · rename_i f hf
    exact h.carryF hst (pick_mem hf)
theorem Inv.answer (h : Inv W Sp n x) {s t : Nat} (hst : s + t = 1) (k : Int) : Inv W Sp n (answerS x s t k) := by
  unfold answerS
  split
  · exact h
  · rename_i f hf
    exact h.answerU hst (pick_mem hf)
end
theorem pushS_out {Sp : Nat} {x : Wr} {s : Nat} {bs : List Int} (h : (x.st s).out.length < Sp) : ((pushS Sp x s bs).st s).out.length = (x.st s).out.length + 1 := by
  unfold pushS
  rw [if_pos h]
  have e : (upd x.st s { x.st s with out := (x.st s).out ++ [bodN bs] } s).out.length = (x.st s).out.length + 1 := by rw [upd_same]; simp
  exact e
end Go.Proofs.Ytkkckinnhkpcmaa
