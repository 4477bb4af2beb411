/-
  Contracts of the questions: has, last, flying, Got, Sent, Waiting, Room, Tag.
-/
import Derived.Test.YtkkckinnhkpcmaaSmall
set_option linter.unusedVariables false
namespace Go.Proofs.Ytkkckinnhkpcmaa
open Go.RowKit Go.WideShapes Go.ChangeShapes Q

def hasB (x : Str) (k : Int) : Bool := if k < x.next then true else (x.ear.getD (k - x.next).toNat none).isSome
/-- How far a stream's numbers go. -/
structure Str.Fits (x : Str) : Prop where
  f0 : 1 ≤ x.first
  f1 : x.first ≤ 4611686018427387905
  n0 : 1 ≤ x.next
  n1 : x.next ≤ 4611686018427387905
  o1 : x.out.length ≤ 20000
  e1 : x.ear.length ≤ 20000

theorem ear_cell {w : World} {g : Nat} {es : List (Option (List Int))} {k : Nat} (h : Blk w g 4 (hereC es)) (hk : k < es.length) : w.cell? ⟨g, k, none⟩ = some (.bool (es.getD k none).isSome) := by
  rw [h.cell k]
  simp [hereC, List.getD, List.getElem?_eq_getElem hk]

set_option maxRecDepth 100000 in
theorem has_any (S : Nat → Prop) (sb : Nat) (x : Str) (k : Int) (w : World) (h : StreamAt w S sb x) (hf : x.Fits) (h0 : 1 ≤ k) (h1 : k < x.next + x.ear.length) :
    Calls Try.prog 46 #[.pointer (some ⟨sb, 2, none⟩), .int .i64 k] w fun r w' => r = .returned (.bool (hasB x k)) ∧ ∃ m, w' = w.drewN m := by
  obtain ⟨vo, hb, ib, is, hB, _, hH, _⟩ := h
  obtain ⟨m0, m1, m2, m3, m4, m5⟩ := m6 hB
  obtain ⟨f0, f1, n0, n1, o1, e1⟩ := hf
  by_cases h2 : k < x.next
  · have hw : Hid (hasB x k = true) := if_pos h2
    go_enter Try.func46, Try.ntmps46
    go_wp2
    go_quiet (fail)
    go_wp2
    go_ret
    rw [hw.out]
    exact ⟨rfl, _, rfl⟩
  · obtain ⟨j, hj⟩ : ∃ j : Nat, k - x.next = j := ⟨(k - x.next).toNat, by omega⟩
    have hjl : j < x.ear.length := by omega
    have hw : Hid (hasB x k = (x.ear.getD j none).isSome) := by show _ = _; unfold hasB; rw [if_neg h2, hj, Int.toNat_natCast]
    have hc := ear_cell hH hjl
    have hs : IntKind.i64.wrap (j : Int) = (j : Int) := by rw [IntWalk.i64_in _ (by constructor <;> omega)]
    have i0 : (0 : Int) ≤ (j : Int) := by omega
    have i1 : (j : Int) < (x.ear.length : Int) := by omega
    have d2 : decide (k < x.next) = false := by simpa using h2
    clear hB hH
    generalize (x.ear.getD j none).isSome = q at hc hw
    go_enter Try.func46, Try.ntmps46
    go_wp2
    go_quiet (fail)
    go_wp2
    go_ret
    rw [hw.out]
    exact ⟨rfl, _, rfl⟩

set_option maxRecDepth 100000 in
theorem last_any (S : Nat → Prop) (sb : Nat) (x : Str) (w : World) (h : StreamAt w S sb x) (hf : x.Fits) :
    Calls Try.prog 51 #[.pointer (some ⟨sb, 0, none⟩)] w fun r w' => r = .returned (.int .i64 (x.first + x.out.length - 1)) ∧ ∃ m, w' = w.drewN m := by
  obtain ⟨vo, hb, ib, is, hB, hR, hH, _⟩ := h
  obtain ⟨A, c, vs, rfl, _, _, hc⟩ := hR.val
  obtain ⟨m0, m1, m2, m3, m4, m5⟩ := m6 hB
  obtain ⟨f0, f1, n0, n1, o1, e1⟩ := hf
  clear hB hH hR
  go_enter Try.func51, Try.ntmps51
  go_wp2
  go_quiet (fail)
  go_wp2
  go_ret
  exact ⟨rfl, _, rfl⟩

set_option maxRecDepth 100000 in
theorem flying_any (S : Nat → Prop) (m sb : Nat) (X : Mx) (x : Str) (w : World) (hm : MuxAt w m X) (h : StreamAt w S sb x) (hf : x.Fits) :
    Calls Try.prog 48 #[.pointer (some ⟨m, 0, none⟩), .pointer (some ⟨sb, 0, none⟩)] w fun r w' => r = .returned (.int .i64 (Min.min X.window x.out.length : Nat)) ∧ ∃ m, w' = w.drewN m := by
  obtain ⟨vo, hb, ib, is, hB, hR, hH, _⟩ := h
  obtain ⟨A, c, vs, rfl, _, _, hc⟩ := hR.val
  obtain ⟨m0, m1, m2, m3, m4, m5⟩ := m6 hB
  obtain ⟨p0, p1, p2, p3, p4, p5, p6, p7, p8⟩ := m9 hm.1
  obtain ⟨f0, f1, n0, n1, o1, e1⟩ := hf
  clear hB hH hR hm
  go_enter Try.func48, Try.ntmps48
  go_wp2
  go_quiet (fail)
  go_wp2
  all_goals (go_ret; refine ⟨ret_int ?_, _, rfl⟩; show (_ : Int) = _; first | (rw [Nat.min_eq_left (by omega)]; done) | (rw [Nat.min_eq_right (by omega)]; done))

set_option maxRecDepth 100000 in
theorem got_any (S : Nat → Prop) (m sb : Nat) (X : Mx) (p : Int) (x : Str) (w : World) (hm : MuxAt w m X) (hp : X.with_ p = some sb) (h : StreamAt w S sb x) (hf : x.Fits) :
    Calls Try.prog 30 #[.pointer (some ⟨m, 0, none⟩), .int .i64 p] w fun r w' => r = .returned (.int .i64 (x.next - 1)) ∧ w = w' := by
  have hw := with_any m X p w hm
  rw [hp] at hw
  have hw := hide hw
  obtain ⟨vo, hb, ib, is, hB, _⟩ := h
  obtain ⟨m0, m1, m2, m3, m4, m5⟩ := m6 hB
  obtain ⟨f0, f1, n0, n1, o1, e1⟩ := hf
  clear hB
  go_enter Try.func30, Try.ntmps30
  go_wp2_with (go_at_call 41; refine hw.out.mono ?_; rintro e w' ⟨rfl, rfl⟩; unfold ptr)
  go_ret
  exact ⟨rfl, rfl⟩
set_option maxRecDepth 100000 in
theorem waiting_any (S : Nat → Prop) (m sb : Nat) (X : Mx) (p : Int) (x : Str) (w : World) (hm : MuxAt w m X) (hp : X.with_ p = some sb) (h : StreamAt w S sb x) (hf : x.Fits) :
    Calls Try.prog 20 #[.pointer (some ⟨m, 0, none⟩), .int .i64 p] w fun r w' => r = .returned (.int .i64 x.out.length) ∧ w = w' := by
  have hw := with_any m X p w hm
  rw [hp] at hw
  have hw := hide hw
  obtain ⟨vo, hb, ib, is, hB, hR, _⟩ := h
  obtain ⟨A, c, vs, rfl, _, _, hc⟩ := hR.val
  obtain ⟨m0, m1, m2, m3, m4, m5⟩ := m6 hB
  obtain ⟨f0, f1, n0, n1, o1, e1⟩ := hf
  clear hB hR
  go_enter Try.func20, Try.ntmps20
  go_wp2_with (go_at_call 41; refine hw.out.mono ?_; rintro e w' ⟨rfl, rfl⟩; unfold ptr)
  go_ret
  exact ⟨rfl, rfl⟩
set_option maxRecDepth 100000 in
theorem sent_any (S : Nat → Prop) (m sb : Nat) (X : Mx) (p : Int) (x : Str) (w : World) (hm : MuxAt w m X) (hp : X.with_ p = some sb) (h : StreamAt w S sb x) (hf : x.Fits) :
    Calls Try.prog 32 #[.pointer (some ⟨m, 0, none⟩), .int .i64 p] w fun r w' => r = .returned (.int .i64 (x.first + x.out.length - 1)) ∧ ∃ m, w' = w.drewN m := by
  have hw := with_any m X p w hm
  rw [hp] at hw
  have hw := hide hw
  have hl := hide (last_any S sb x w h hf)
  go_enter Try.func32, Try.ntmps32
  go_wp2_with (first | (go_at_call 41; refine hw.out.mono ?_; rintro e w' ⟨rfl, rfl⟩; unfold ptr) | (go_at_call 51; refine hl.out.mono ?_; rintro e w' ⟨rfl, n, rfl⟩))
  go_ret
  exact ⟨rfl, _, rfl⟩
set_option maxRecDepth 100000 in
theorem room_any (S : Nat → Prop) (m sb : Nat) (X : Mx) (p : Int) (x : Str) (w : World) (hm : MuxAt w m X) (hp : X.with_ p = some sb) (h : StreamAt w S sb x) (hf : x.Fits) :
    Calls Try.prog 24 #[.pointer (some ⟨m, 0, none⟩), .int .i64 p] w fun r w' => r = .returned (.int .i64 (X.room - x.out.length)) ∧ ∃ m, w' = w.drewN m := by
  have hw := with_any m X p w hm
  rw [hp] at hw
  have hw := hide hw
  have hq : ∀ n, Hid (Calls Try.prog 20 #[.pointer (some ⟨m, 0, none⟩), .int .i64 p] (w.drewN n) fun r w' => r = .returned (.int .i64 x.out.length) ∧ w.drewN n = w') := fun n => waiting_any S m sb X p x (w.drewN n) hm hp h hf
  obtain ⟨p0, p1, p2, p3, p4, p5, p6, p7, p8⟩ := m9 hm.1
  have hr := hm.2.2.2.1
  obtain ⟨f0, f1, n0, n1, o1, e1⟩ := hf
  have hs : IntKind.i64.wrap ((X.room : Int) - (x.out.length : Int)) = (X.room : Int) - (x.out.length : Int) := IntWalk.i64_in _ (by constructor <;> omega)
  clear hm h
  go_enter Try.func24, Try.ntmps24
  go_wp2_with (go_at_call 41; refine hw.out.mono ?_; rintro e w' ⟨rfl, rfl⟩; unfold ptr)
  go_quiet ((go_at_call 20; exact quiet_left ((hq _).out)))
  go_wp2
  go_ret
  exact ⟨rfl, _, rfl⟩
end Go.Proofs.Ytkkckinnhkpcmaa
