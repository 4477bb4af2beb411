/-
  Plain: a line's words, read byte by byte; a line's words where a line's end may stand in a word.
-/
import Derived.Lib.SpaceUEq
import Derived.Lib.MapLaws
import Derived.Test.YtcibcmfaebbhnaaDoorZRead
set_option linter.unusedVariables false
set_option linter.unusedSimpArgs false
namespace Go.Proofs.YtcibcmfaebbhnaaDoor
open Go
/-- A blank? -/
def blk (c : UInt8) : Bool := c.toNat == 32 || c.toNat == 9
/-- A byte of a plain word (nl: a line's end is none). -/
def plnB (nl : Bool) (c : UInt8) : Bool := !blk c && !(c.toNat == 34) && !(nl && c.toNat == 10)
/-- May a word end ahead of it? -/
def edge : List UInt8 → Bool
  | [] => true
  | c :: _ => blk c
/-- A word: its bytes, and whether it stood as a string. -/
abbrev Wd := List UInt8 × Bool
theorem drop_len (p : UInt8 → Bool) (l : List UInt8) : (l.dropWhile p).length ≤ l.length := (List.dropWhile_sublist p).length_le
def wordsG (nl : Bool) (l : List UInt8) : Option (List Wd) :=
  match l with
  | [] => some []
  | c :: r =>
    if blk c = true then wordsG nl r
    else if c.toNat = 34 then
      match h : unq r with
      | none => none
      | some p => if edge p.2 = true then (wordsG nl p.2).map ((p.1, true) :: ·) else none
    else if plnB nl c = true ∧ edge (r.dropWhile (plnB nl)) = true then (wordsG nl (r.dropWhile (plnB nl))).map ((c :: r.takeWhile (plnB nl), false) :: ·) else none
termination_by l.length
decreasing_by
  · simp
  · have := unq_lt _ r (Nat.le_refl _) p.1 p.2 h
    simp only [List.length_cons]
    omega
  · have := drop_len (plnB nl) r
    simp only [List.length_cons]
    omega
section
variable {nl : Bool}
theorem wds_nil : wordsG nl [] = some [] := by rw [wordsG]
theorem wds_blank {c : UInt8} (r : List UInt8) (h : blk c = true) : wordsG nl (c :: r) = wordsG nl r := by
  conv => lhs; rw [wordsG]
  rw [if_pos h]
theorem wds_str {c : UInt8} (r : List UInt8) (h : c.toNat = 34) : wordsG nl (c :: r) = match unq r with
    | none => none
    | some p => if edge p.2 = true then (wordsG nl p.2).map ((p.1, true) :: ·) else none := by
  have hb : ¬ blk c = true := by unfold blk; rw [h]; decide
  conv => lhs; rw [wordsG]
  rw [if_neg hb, if_pos h]
  split <;> (rename_i h1; rw [h1])
theorem wds_run {c : UInt8} (r : List UInt8) (h : plnB nl c = true) : wordsG nl (c :: r) = if edge (r.dropWhile (plnB nl)) = true then (wordsG nl (r.dropWhile (plnB nl))).map ((c :: r.takeWhile (plnB nl), false) :: ·) else none := by
  have hb : ¬ blk c = true := by
    intro e
    unfold plnB at h
    rw [e] at h
    simp at h
  have hq : ¬ c.toNat = 34 := by
    intro e
    unfold plnB at h
    rw [e] at h
    simp at h
  conv => lhs; rw [wordsG]
  rw [if_neg hb, if_neg hq]
  by_cases he : edge (r.dropWhile (plnB nl)) = true
  · rw [if_pos ⟨h, he⟩, if_pos he]
  · rw [if_neg (fun h => he h.2), if_neg he]
theorem wds_stop {c : UInt8} (r : List UInt8) (hb : blk c = false) (hq : ¬ c.toNat = 34) (h : plnB nl c = false) : wordsG nl (c :: r) = none := by
  conv => lhs; rw [wordsG]
  rw [if_neg (by rw [hb]; decide), if_neg hq, if_neg (by rw [h]; rintro ⟨h1, _⟩; cases h1)]
/-- A run of plain bytes. -/
theorem takeW {p : UInt8 → Bool} : ∀ {w t : List UInt8}, (∀ q ∈ w, p q = true) → (t = [] ∨ ∃ c r, t = c :: r ∧ p c = false) → (w ++ t).takeWhile p = w ∧ (w ++ t).dropWhile p = t
  | [], t, _, ht => by
    rcases ht with rfl | ⟨c, r, rfl, hc⟩
    · exact ⟨rfl, rfl⟩
    · simp [List.takeWhile, List.dropWhile, hc]
  | a :: w, t, hw, ht => by
    have h1 := takeW (p := p) (w := w) (t := t) (fun q hq => hw q (by simp [hq])) ht
    have h2 := hw a (by simp)
    simp [List.takeWhile, List.dropWhile, h2, h1.1, h1.2]
theorem wds_word {w t : List UInt8} (hne : w ≠ []) (hw : ∀ q ∈ w, plnB nl q = true) (ht : t = [] ∨ ∃ c r, t = c :: r ∧ plnB nl c = false) : wordsG nl (w ++ t) = if edge t = true then (wordsG nl t).map ((w, false) :: ·) else none := by
  cases w with
  | nil => exact absurd rfl hne
  | cons a w =>
    have h1 := takeW (p := plnB nl) (w := w) (t := t) (fun q hq => hw q (by simp [hq])) ht
    rw [List.cons_append, wds_run _ (hw a (by simp)), h1.1, h1.2]
theorem blk_pln {c : UInt8} (h : blk c = true) : plnB nl c = false := by unfold plnB; rw [h]; rfl
theorem quo_pln {c : UInt8} (h : c.toNat = 34) : plnB nl c = false := by unfold plnB; rw [h]; simp
/-- A word at the line's end. -/
theorem wds_last {w : List UInt8} (hne : w ≠ []) (hw : ∀ q ∈ w, plnB nl q = true) : wordsG nl w = some [(w, false)] := by
  have := wds_word hne hw (.inl rfl : ([] : List UInt8) = [] ∨ _)
  rw [List.append_nil] at this
  rw [this, if_pos (show edge [] = true from rfl), wds_nil]
  rfl
theorem wds_sep {w r : List UInt8} {c : UInt8} (hne : w ≠ []) (hw : ∀ q ∈ w, plnB nl q = true) (hc : blk c = true) : wordsG nl (w ++ c :: r) = (wordsG nl r).map ((w, false) :: ·) := by
  rw [wds_word hne hw (.inr ⟨c, r, rfl, blk_pln hc⟩), if_pos (show edge (c :: r) = true from hc), wds_blank r hc]
theorem wds_bad {w r : List UInt8} {c : UInt8} (hne : w ≠ []) (hw : ∀ q ∈ w, plnB nl q = true) (hb : blk c = false) (hc : plnB nl c = false) : wordsG nl (w ++ c :: r) = none := by
  rw [wds_word hne hw (.inr ⟨c, r, rfl, hc⟩), if_neg (by show ¬ blk c = true; rw [hb]; decide)]
end
/-- A byte that may stand inside a string. -/
def Inn (q : UInt8) : Prop := 32 ≤ q.toNat ∧ q.toNat ≤ 126
theorem nib_inn {c : UInt8} {x : Nat} (h : nib c = some x) : Inn c := by
  unfold nib at h
  split at h
  · exact ⟨by omega, by omega⟩
  · split at h
    · exact ⟨by omega, by omega⟩
    · cases h
theorem qhex_pre {l r : List UInt8} {b : UInt8} (h : qhex l = .byte b r) : ∃ a, l = a ++ r ∧ ∀ q ∈ a, Inn q := by
  match l, h with
  | [], h => cases h
  | [_], h => cases h
  | x :: y :: r', h =>
    rw [qhex] at h
    cases hx : nib x with
    | none => simp [hx] at h
    | some a =>
      cases hy : nib y with
      | none => simp [hx, hy] at h
      | some b' =>
        simp only [hx, hy] at h
        injection h with h1 h2
        subst h2
        refine ⟨[x, y], rfl, fun q hq => ?_⟩
        simp only [List.mem_cons, List.mem_nil_iff, or_false] at hq
        rcases hq with rfl | rfl
        · exact nib_inn hx
        · exact nib_inn hy
theorem qesc_pre {l r : List UInt8} {b : UInt8} (h : qesc l = .byte b r) : ∃ a, l = a ++ r ∧ ∀ q ∈ a, Inn q := by
  match l, h with
  | [], h => cases h
  | d :: r', h =>
    rw [qesc] at h
    split at h
    · rename_i hd
      injection h with h1 h2
      subst h2
      refine ⟨[d], rfl, fun q hq => ?_⟩
      simp only [List.mem_cons, List.mem_nil_iff, or_false] at hq
      subst hq
      rcases hd with hd | hd <;> exact ⟨by omega, by omega⟩
    · split at h
      · rename_i hd
        obtain ⟨a, rfl, ha⟩ := qhex_pre h
        refine ⟨d :: a, rfl, fun q hq => ?_⟩
        rcases List.mem_cons.1 hq with rfl | hq
        · exact ⟨by omega, by omega⟩
        · exact ha q hq
      · cases h
theorem qstep_pre {l r : List UInt8} {b : UInt8} (h : qstep l = .byte b r) : ∃ a, l = a ++ r ∧ ∀ q ∈ a, Inn q := by
  match l, h with
  | [], h => cases h
  | c :: r', h =>
    rw [qstep] at h
    split at h
    · cases h
    · split at h
      · cases h
      · rename_i h1 h2
        have hc : Inn c := ⟨by omega, by omega⟩
        split at h
        · injection h with h3 h4
          subst h4
          refine ⟨[c], rfl, fun q hq => ?_⟩
          simp only [List.mem_cons, List.mem_nil_iff, or_false] at hq
          subst hq
          exact hc
        · obtain ⟨a, rfl, ha⟩ := qesc_pre h
          refine ⟨c :: a, rfl, fun q hq => ?_⟩
          rcases List.mem_cons.1 hq with rfl | hq
          · exact hc
          · exact ha q hq
theorem qstop_pre {l r : List UInt8} (h : qstep l = .stop r) : ∃ a, l = a ++ r ∧ ∀ q ∈ a, Inn q := by
  match l, h with
  | [], h => cases h
  | c :: r', h =>
    rw [qstep] at h
    split at h
    · rename_i hc
      injection h with h
      subst h
      refine ⟨[c], rfl, fun q hq => ?_⟩
      simp only [List.mem_cons, List.mem_nil_iff, or_false] at hq
      subst hq
      exact ⟨by omega, by omega⟩
    · split at h
      · cases h
      · split at h
        · cases h
        · exact absurd (qesc_stop h) id
/-- What is read of a string: all its bytes may stand inside one. -/
theorem unq_pre : ∀ (n : Nat) (l : List UInt8), l.length ≤ n → ∀ b r, unq l = some (b, r) → ∃ a, l = a ++ r ∧ ∀ q ∈ a, Inn q
  | n, l, hn, b, r, h => by
    cases hs : qstep l with
    | bad => rw [unq_bad hs] at h; cases h
    | stop r' =>
      rw [unq_stop hs] at h
      injection h with h
      injection h with h1 h2
      subst h2
      exact qstop_pre hs
    | byte c r' =>
      rw [unq_byte hs] at h
      cases hu : unq r' with
      | none => rw [hu] at h; cases h
      | some p =>
        obtain ⟨b2, r2⟩ := p
        rw [hu] at h
        injection h with h
        injection h with h1 h2
        have hlt := qstep_byte hs
        match n, hn with
        | 0, hn => omega
        | n + 1, hn =>
          obtain ⟨a2, e2, h3⟩ := unq_pre n r' (by omega) b2 r2 hu
          obtain ⟨a1, e1, h4⟩ := qstep_pre hs
          simp only at h2
          subst h2
          refine ⟨a1 ++ a2, by rw [e1, e2, List.append_assoc], fun q hq => ?_⟩
          rcases List.mem_append.1 hq with hq | hq
          · exact h4 q hq
          · exact h3 q hq
theorem take_plain {p : UInt8 → Bool} : ∀ (l : List UInt8), ∀ q ∈ l.takeWhile p, p q = true
  | [], q, hq => by cases hq
  | a :: l, q, hq => by
    cases h : p a with
    | true =>
      rw [List.takeWhile_cons, h, if_pos rfl] at hq
      rcases List.mem_cons.1 hq with rfl | hq
      · exact h
      · exact take_plain l q hq
    | false =>
      rw [List.takeWhile_cons, h, if_neg (by decide)] at hq
      cases hq
/-- A line's end in no word: both readings are the same; in a word: there are no words. -/
theorem wds_nl : ∀ (n : Nat) (l : List UInt8), l.length ≤ n → ((∀ q ∈ l, ¬ q.toNat = 10) → wordsG true l = wordsG false l) ∧ ((∃ q ∈ l, q.toNat = 10) → wordsG true l = none)
  | n, [], hn => ⟨fun _ => by rw [wds_nil, wds_nil], fun h => by obtain ⟨q, hq, _⟩ := h; cases hq⟩
  | 0, c :: r, hn => by simp at hn
  | n + 1, c :: r, hn => by
    have hr : r.length ≤ n := by simpa using hn
    by_cases hb : blk c = true
    · have ih := wds_nl n r hr
      have h10 : ¬ c.toNat = 10 := by
        intro e
        unfold blk at hb
        rw [e] at hb
        cases hb
      rw [wds_blank r hb, wds_blank r hb]
      refine ⟨fun h => ih.1 fun q hq => h q (by simp [hq]), fun h => ih.2 ?_⟩
      obtain ⟨q, hq, e⟩ := h
      rcases List.mem_cons.1 hq with rfl | hq
      · exact absurd e h10
      · exact ⟨q, hq, e⟩
    · by_cases hq : c.toNat = 34
      · rw [wds_str r hq, wds_str r hq]
        cases hu : unq r with
        | none => exact ⟨fun _ => rfl, fun _ => rfl⟩
        | some p =>
          obtain ⟨b, t⟩ := p
          obtain ⟨a, ha, hin⟩ := unq_pre _ r (Nat.le_refl _) b t hu
          have hlt := unq_lt _ r (Nat.le_refl _) b t hu
          have ih := wds_nl n t (by omega)
          simp only
          by_cases he : edge t = true
          · rw [if_pos he, if_pos he]
            refine ⟨fun h => by rw [ih.1 fun q hq => h q (by rw [ha]; simp [hq])], fun h => ?_⟩
            obtain ⟨q, hq2, e⟩ := h
            rw [ih.2, Option.map_none]
            rcases List.mem_cons.1 hq2 with rfl | hq2
            · omega
            · rw [ha] at hq2
              rcases List.mem_append.1 hq2 with hq2 | hq2
              · have := (hin q hq2).1
                omega
              · exact ⟨q, hq2, e⟩
          · rw [if_neg he, if_neg he]
            exact ⟨fun _ => rfl, fun _ => rfl⟩
      · have hbf : blk c = false := by simpa using hb
        by_cases h10 : c.toNat = 10
        · have hp : plnB true c = false := by unfold plnB; rw [h10]; simp
          rw [wds_stop r hbf hq hp]
          exact ⟨fun h => absurd h10 (h c (by simp)), fun _ => rfl⟩
        · have hp : ∀ nl, plnB nl c = true := fun nl => by
            unfold plnB
            rw [hbf]
            simp [hq, h10]
          have hagree : ∀ w : List UInt8, (∀ q ∈ w, ¬ q.toNat = 10) → ∀ q ∈ w, plnB true q = plnB false q := fun w hw q hq => by
            unfold plnB
            simp [hw q hq]
          -- the run of the narrow reading
          have e0 : r.takeWhile (plnB true) ++ r.dropWhile (plnB true) = r := List.takeWhile_append_dropWhile
          obtain ⟨w, hw⟩ : ∃ w, w = r.takeWhile (plnB true) := ⟨_, rfl⟩
          obtain ⟨t, ht⟩ : ∃ t, t = r.dropWhile (plnB true) := ⟨_, rfl⟩
          have hwp : ∀ q ∈ w, plnB true q = true := by rw [hw]; exact take_plain r
          have hw10 : ∀ q ∈ w, ¬ q.toNat = 10 := fun q hq e => by
            have := hwp q hq
            unfold plnB at this
            rw [e] at this
            simp at this
          have htl : t.length ≤ r.length := by rw [ht]; exact drop_len _ _
          have ih := wds_nl n t (by omega)
          rw [wds_run r (hp true), ← hw, ← ht]
          rw [← hw, ← ht] at e0
          have hhead : t = [] ∨ ∃ c' r', t = c' :: r' ∧ plnB true c' = false := by
            cases hT : t with
            | nil => exact .inl rfl
            | cons c' r' =>
              refine .inr ⟨c', r', rfl, ?_⟩
              have := List.head?_dropWhile_not (plnB true) r
              rw [← ht, hT] at this
              simpa using this
          refine ⟨fun h => ?_, fun h => ?_⟩
          · have hr10 : ∀ q ∈ r, ¬ q.toNat = 10 := fun q hq => h q (by simp [hq])
            have hwf : ∀ q ∈ w, plnB false q = true := fun q hq => by rw [← hagree w hw10 q hq]; exact hwp q hq
            have htf : t = [] ∨ ∃ c' r', t = c' :: r' ∧ plnB false c' = false := by
              rcases hhead with h1 | ⟨c', r', h1, h2⟩
              · exact .inl h1
              · refine .inr ⟨c', r', h1, ?_⟩
                have h3 : c' ∈ r := by rw [← e0, h1]; simp
                have h4 := hr10 c' h3
                have h5 : plnB false c' = plnB true c' := by unfold plnB; simp [h4]
                exact h5.trans h2
            have h5 := takeW hwf htf
            rw [e0] at h5
            rw [wds_run r (hp false), h5.1, h5.2, ih.1 fun q hq => hr10 q (by rw [← e0]; simp [hq])]
          · obtain ⟨q, hq2, e⟩ := h
            have hqt : q ∈ t := by
              rcases List.mem_cons.1 hq2 with rfl | hq2
              · exact absurd e h10
              · rw [← e0] at hq2
                rcases List.mem_append.1 hq2 with hq2 | hq2
                · exact absurd e (hw10 q hq2)
                · exact hq2
            rw [ih.2 ⟨q, hqt, e⟩]
            split <;> rfl
/-- A byte below 128 is a rune of its own. -/
theorem rune_low {c : UInt8} (r : List UInt8) (h : c.toNat < 128) : Lib.decodeL (c :: r) = (c.toNat, 1) := Lib.decodeL_ascii c r h
theorem take_low {l : List UInt8} {n : Nat} (h0 : 0 < n → 128 ≤ (l.getD 0 0).toNat) (h1 : 1 < n → 128 ≤ (l.getD 1 0).toNat) (h2 : 2 < n → 128 ≤ (l.getD 2 0).toNat) (h3 : 3 < n → 128 ≤ (l.getD 3 0).toNat) (hn : n ≤ 4) : ∀ q ∈ l.take n, 128 ≤ q.toNat := by
  intro q hq
  obtain ⟨i, hi, rfl⟩ := List.getElem_of_mem hq
  rw [List.length_take] at hi
  rw [List.getElem_take]
  have e : l.getD i 0 = l[i] := by simp [show i < l.length by omega]
  rw [← e]
  have : i = 0 ∨ i = 1 ∨ i = 2 ∨ i = 3 := by omega
  rcases this with rfl | rfl | rfl | rfl
  · exact h0 (by omega)
  · exact h1 (by omega)
  · exact h2 (by omega)
  · exact h3 (by omega)
/-- A byte from 128 on begins a rune from 128 on, all of whose bytes lie there. -/
theorem rune_high {c : UInt8} (r : List UInt8) (h : 128 ≤ c.toNat) : 128 ≤ (Lib.decodeL (c :: r)).1 ∧ 1 ≤ (Lib.decodeL (c :: r)).2 ∧ (Lib.decodeL (c :: r)).2 ≤ (c :: r).length ∧ ∀ q ∈ (c :: r).take (Lib.decodeL (c :: r)).2, 128 ≤ q.toNat := by
  obtain ⟨l, hl⟩ : ∃ l, l = c :: r := ⟨_, rfl⟩
  have hc : (l.getD 0 0).toNat = c.toNat := by rw [hl]; rfl
  have hlen : 1 ≤ l.length := by rw [hl]; simp
  rw [← hl, Lib.decodeL_N]
  rcases Lib.decodeN_shape l.length (l.getD 0 0).toNat (l.getD 1 0).toNat (l.getD 2 0).toNat (l.getD 3 0).toNat with ⟨h1, _⟩ | ⟨h1, h2, h3, h4, e⟩ | ⟨h1, h2, h3, h4, h5, h6, e⟩ | ⟨h1, h2, h3, h4, h5, h6, h7, e⟩ | e
  · omega
  · rw [e]; exact ⟨by show 128 ≤ _; omega, by show 1 ≤ 2; omega, by show 2 ≤ _; omega, take_low (fun _ => by omega) (fun _ => by omega) (fun h => by simp at h) (fun h => by simp at h) (by simp)⟩
  · rw [e]; exact ⟨by show 128 ≤ _; omega, by show 1 ≤ 3; omega, by show 3 ≤ _; omega, take_low (fun _ => by omega) (fun _ => by omega) (fun _ => by omega) (fun h => by simp at h) (by simp)⟩
  · rw [e]; exact ⟨by show 128 ≤ _; omega, by show 1 ≤ 4; omega, by show 4 ≤ _; omega, take_low (fun _ => by omega) (fun _ => by omega) (fun _ => by omega) (fun _ => by omega) (by simp)⟩
  · rw [e]; exact ⟨by show 128 ≤ 65533; omega, by show 1 ≤ 1; omega, by show 1 ≤ _; omega, take_low (fun _ => by omega) (fun h => by simp at h) (fun h => by simp at h) (fun h => by simp at h) (by simp)⟩
end Go.Proofs.YtcibcmfaebbhnaaDoor
