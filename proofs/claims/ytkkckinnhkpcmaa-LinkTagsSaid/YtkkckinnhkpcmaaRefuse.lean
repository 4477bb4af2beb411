/-
  Contracts of Mux.Take and Mux.Acked where the tag is another: an error, and nothing turns.
-/
import Derived.Test.YtkkckinnhkpcmaaOwed
set_option linter.unusedVariables false
namespace Go.Proofs.Ytkkckinnhkpcmaa
open Go.RowKit Go.WideShapes Go.ChangeShapes Q

/-- Two tags are not one: the first field that parts them. -/
theorem tag_parts {a b c d : Int} {t : Tg} (h : (⟨a, b, c, d⟩ : Tg) ≠ t) : (a == t.ep) = false ∨ (a = t.ep ∧ (b == t.lead) = false) ∨ (a = t.ep ∧ b = t.lead ∧ (c == t.inc) = false) ∨ (a = t.ep ∧ b = t.lead ∧ c = t.inc ∧ (d == t.cid) = false) := by
  obtain ⟨a', b', c', d'⟩ := t
  by_cases h1 : a = a'
  · by_cases h2 : b = b'
    · by_cases h3 : c = c'
      · by_cases h4 : d = d'
        · subst h1; subst h2; subst h3; subst h4; exact absurd rfl h
        · exact .inr (.inr (.inr ⟨h1, h2, h3, by simpa using h4⟩))
      · exact .inr (.inr (.inl ⟨h1, h2, by simpa using h3⟩))
    · exact .inr (.inl ⟨h1, by simpa using h2⟩)
  · exact .inl (by simpa using h1)

set_option maxRecDepth 100000 in
set_option maxHeartbeats 2000000 in
theorem take_tag (m sb : Nat) (X : Mx) (p : Int) (ea eb ec ed : Int) (k : Int) (A : Option Addr) (n c : Nat) (w : World) (hm : MuxAt w m X) (hp : X.with_ p = some sb) (ht : (⟨ea, eb, ec, ed⟩ : Tg) ≠ X.t) :
    Calls Try.prog 28 #[.pointer (some ⟨m, 0, none⟩), .int .i64 p, .agg #[.int .i64 ea, .int .i64 eb, .int .i64 ec, .int .i64 ed, .int .i64 k, .slice A n c]] w fun e w' => (e = .returned (.tuple #[.slice none 0 0, .int .i64 1]) ∨ e = .returned (.tuple #[.slice none 0 0, .int .i64 40])) ∧ St (fun _ => False) w w' := by
  have H0 : St (fun _ => False) w (w.alloc (.cells #[.int .i64 ea, .int .i64 eb, .int .i64 ec, .int .i64 ed, .int .i64 k, .slice A n c] 57)) := (St.refl _ w).alloc _
  have M0 := hm.alloc (.cells #[.int .i64 ea, .int .i64 eb, .int .i64 ec, .int .i64 ed, .int .i64 k, .slice A n c] 57)
  have B0 := Blk.new w 57 #[.int .i64 ea, .int .i64 eb, .int .i64 ec, .int .i64 ed, .int .i64 k, .slice A n c]
  clear hm
  have hcnt := hide (count_any k)
  go_enter Try.func28, Try.ntmps28
  go_wp2_with fail
  obtain ⟨w0, hw0⟩ : ∃ w0, w0 = w.alloc (.cells #[.int .i64 ea, .int .i64 eb, .int .i64 ec, .int .i64 ed, .int .i64 k, .slice A n c] 57) := ⟨_, rfl⟩
  rw [← hw0] at H0 M0 B0 ⊢
  clear hw0
  have hw := with_any m X p w0 M0
  rw [hp] at hw
  have hw := hide hw
  obtain ⟨p0, p1, p2, p3, p4, p5, p6, p7, p8⟩ := m9 M0.1
  obtain ⟨b0, b1, b2, b3, b4, b5⟩ := m6 B0
  have HH0 := hide H0
  clear M0 B0 H0
  by_cases hk : 1 ≤ k ∧ k ≤ 4611686018427387904
  · have dk : Hid (decide (1 ≤ k ∧ k ≤ 4611686018427387904) = true) := decide_eq_true hk
    by_cases hn : 1 ≤ n ∧ n ≤ 300
    · obtain ⟨n1, n2⟩ := hn
      rcases tag_parts ht with h | ⟨rfl, h⟩ | ⟨rfl, rfl, h⟩ | ⟨rfl, rfl, rfl, h⟩
      all_goals
        clear ht
        go_wp2_with (first | (go_at_call 41; refine hw.out.mono ?_; rintro e w' ⟨rfl, rfl⟩; unfold ptr) | (go_at_call 45; refine (hcnt.out _).mono ?_; rintro e w' ⟨rfl, rfl⟩; rw [dk.out]))
        go_quiet (fail)
        go_wp2_with fail
        go_ret2
        exact ⟨.inr rfl, HH0.out.drewN _⟩
    · have hn' : n < 1 ∨ (1 ≤ n ∧ 300 < n) := by omega
      rcases hn' with n1 | ⟨n1, n2⟩
      all_goals
        go_wp2_with (first | (go_at_call 41; refine hw.out.mono ?_; rintro e w' ⟨rfl, rfl⟩; unfold ptr) | (go_at_call 45; refine (hcnt.out _).mono ?_; rintro e w' ⟨rfl, rfl⟩; rw [dk.out]))
        go_ret2
        exact ⟨.inl rfl, HH0.out⟩
  · have dk : Hid (decide (1 ≤ k ∧ k ≤ 4611686018427387904) = false) := decide_eq_false hk
    go_wp2_with (first | (go_at_call 41; refine hw.out.mono ?_; rintro e w' ⟨rfl, rfl⟩; unfold ptr) | (go_at_call 45; refine (hcnt.out _).mono ?_; rintro e w' ⟨rfl, rfl⟩; rw [dk.out]))
    go_ret2
    exact ⟨.inl rfl, HH0.out⟩

set_option maxRecDepth 100000 in
set_option maxHeartbeats 2000000 in
theorem acked_tag (m sb : Nat) (X : Mx) (p : Int) (ea eb ec ed : Int) (k : Int)  (w : World) (hm : MuxAt w m X) (hp : X.with_ p = some sb) (ht : (⟨ea, eb, ec, ed⟩ : Tg) ≠ X.t) :
    Calls Try.prog 29 #[.pointer (some ⟨m, 0, none⟩), .int .i64 p, .agg #[.int .i64 ea, .int .i64 eb, .int .i64 ec, .int .i64 ed, .int .i64 k]] w fun e w' => (e = .returned (.int .i64 1) ∨ e = .returned (.int .i64 40)) ∧ St (fun _ => False) w w' := by
  have H0 : St (fun _ => False) w (w.alloc (.cells #[.int .i64 ea, .int .i64 eb, .int .i64 ec, .int .i64 ed, .int .i64 k] 60)) := (St.refl _ w).alloc _
  have M0 := hm.alloc (.cells #[.int .i64 ea, .int .i64 eb, .int .i64 ec, .int .i64 ed, .int .i64 k] 60)
  have B0 := Blk.new w 60 #[.int .i64 ea, .int .i64 eb, .int .i64 ec, .int .i64 ed, .int .i64 k]
  clear hm
  go_enter Try.func29, Try.ntmps29
  go_wp2_with fail
  obtain ⟨w0, hw0⟩ : ∃ w0, w0 = w.alloc (.cells #[.int .i64 ea, .int .i64 eb, .int .i64 ec, .int .i64 ed, .int .i64 k] 60) := ⟨_, rfl⟩
  rw [← hw0] at H0 M0 B0 ⊢
  clear hw0
  have hw := with_any m X p w0 M0
  rw [hp] at hw
  have hw := hide hw
  obtain ⟨p0, p1, p2, p3, p4, p5, p6, p7, p8⟩ := m9 M0.1
  obtain ⟨b0, b1, b2, b3, b4⟩ := m5 B0
  have HH0 := hide H0
  clear M0 B0 H0
  by_cases hk : 0 ≤ k ∧ k ≤ 4611686018427387904
  · obtain ⟨n1, n2⟩ := hk
    rcases tag_parts ht with h | ⟨rfl, h⟩ | ⟨rfl, rfl, h⟩ | ⟨rfl, rfl, rfl, h⟩
    all_goals
      clear ht
      go_wp2_with (go_at_call 41; refine hw.out.mono ?_; rintro e w' ⟨rfl, rfl⟩; unfold ptr)
      go_quiet (fail)
      go_wp2_with fail
      go_ret
      exact ⟨.inr rfl, HH0.out.drewN _⟩
  · have hn' : k < 0 ∨ (0 ≤ k ∧ 4611686018427387904 < k) := by omega
    rcases hn' with n1 | ⟨n1, n2⟩
    all_goals
      go_wp2_with (go_at_call 41; refine hw.out.mono ?_; rintro e w' ⟨rfl, rfl⟩; unfold ptr)
      go_ret
      exact ⟨.inl rfl, HH0.out⟩
end Go.Proofs.Ytkkckinnhkpcmaa
