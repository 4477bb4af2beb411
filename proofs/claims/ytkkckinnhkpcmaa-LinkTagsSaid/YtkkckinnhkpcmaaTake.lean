/-
  Contract of Mux.Take where the peer is one, the frame is whole and not too far.
-/
import Derived.Test.YtkkckinnhkpcmaaPut
import Derived.Test.YtkkckinnhkpcmaaMPush
set_option linter.unusedVariables false
namespace Go.Proofs.Ytkkckinnhkpcmaa
open Go.RowKit Go.WideShapes Go.ChangeShapes Q

def frC (t : Tg) (k : Int) (b : Value) : Array Value := #[.int .i64 t.ep, .int .i64 t.lead, .int .i64 t.inc, .int .i64 t.cid, .int .i64 k, b]
def takeE (x : Str) (k : Int) (bs : List Int) : List (Option (List Int)) := x.ear.set (k - x.next).toNat (some bs)
/-- The stream behind a Take. -/
def takeS (x : Str) (k : Int) (bs : List Int) : Str :=
  if hasB x k then { x with owed := true } else { x with next := x.next + (lead (takeE x k bs) : Nat), ear := shifted (takeE x k bs) none (lead (takeE x k bs)), owed := true }
/-- What comes out. -/
def takeO (x : Str) (k : Int) (bs : List Int) : List (List Int) := if hasB x k then [] else outs (takeE x k bs)
def TakeP (S : Nat → Prop) (sb : Nat) (x : Str) (k : Int) (bs : List Int) (w : World) (e : Ending) (w' : World) : Prop :=
  ∃ v, e = .returned (.tuple #[v, .int .i64 0]) ∧ BRow w' (fun q => w.heap.size ≤ q) v (takeO x k bs) ∧ St S w w' ∧ StreamAt w' S sb (takeS x k bs)

theorem MuxAt.alloc {w : World} {m : Nat} {X : Mx} (h : MuxAt w m X) (o : Obj) : MuxAt (w.alloc o) m X := ⟨h.1.alloc o, h.2.1.alloc o, h.2.2⟩
theorem MuxAt.st {S : Nat → Prop} {w w' : World} {m : Nat} {X : Mx} (h : MuxAt w m X) (hs : St S w w') (h1 : ¬ S m) (h2 : ¬ S X.pb) : MuxAt w' m X := ⟨h.1.st hs h1, h.2.1.st hs h2, h.2.2⟩

theorem StreamAt.bound {S : Nat → Prop} {w : World} {sb : Nat} {x : Str} (h : StreamAt w S sb x) : StreamAt w (fun q => S q ∧ q < w.heap.size) sb x := by
  obtain ⟨vo, hb, ib, is, h1, ⟨vs, r1, r2, r3⟩, h3, h4, h5, h6, h7, h8, h9⟩ := h
  exact ⟨vo, hb, ib, is, h1, ⟨vs, r1, r2, fun g hg => ⟨r3 g hg, (r1.lt g hg).2⟩⟩, h3, h4, h5, h6, ⟨h7, h1.lt⟩, ⟨h8, h3.lt⟩, ⟨h9, h4.lt⟩⟩
theorem hasB_owed (x : Str) (k : Int) : hasB { x with owed := true } k = hasB x k := rfl

theorem take_mem1 {S : Nat → Prop} {w : World} {sb n : Nat} {x : Str} (h : StreamAt w S sb x) : StreamAt ((w.drewN n).setCell ⟨sb, 5, none⟩ (.bool true)) S sb { x with owed := true } ∧ St S w ((w.drewN n).setCell ⟨sb, 5, none⟩ (.bool true)) := by
  have h1 := (h.far ((St.refl (fun _ => False) w).drewN n) (fun _ _ e => e)).set 5 (.bool true) { x with owed := true } rfl rfl (fun _ _ _ => rfl)
  exact ⟨h1.1, ((St.refl S w).drewN n).trans h1.2⟩

theorem hb1b {S : Nat → Prop} {w0 w1 : World} {A : Option Addr} {c : Nat} {bs : List Int} (h : Bod w0 (.slice A bs.length c) bs) (hs : St S w0 w1) : Reads w1 w1.heap.size 1 A bs.length (byts bs) := by
  obtain ⟨A', c', e, hr, _⟩ := (h.st hs).val
  injection e with e1 _ _
  rw [e1]
  exact hr

set_option maxRecDepth 100000 in
set_option maxHeartbeats 2000000 in
theorem take_has (S : Nat → Prop) (m sb : Nat) (X : Mx) (p : Int) (x : Str) (k : Int) (A : Option Addr) (c : Nat) (bs : List Int) (w : World) (hm : MuxAt w m X) (hp : X.with_ p = some sb) (h : StreamAt w S sb x) (hf : x.Fits)
    (hb : Bod w (.slice A bs.length c) bs) (hn1 : 1 ≤ bs.length) (hn2 : bs.length ≤ 300) (hk1 : 1 ≤ k) (hk2 : k ≤ 4611686018427387904) (hk3 : k - X.window < x.next) (hew : x.ear.length = X.window) (hhas : hasB x (k) = true) :
    Calls Try.prog 28 #[.pointer (some ⟨m, 0, none⟩), .int .i64 p, .agg (frC X.t (k) (.slice A bs.length c))] w (TakeP S sb x (k) bs w) := by
  obtain ⟨i0, hi, hz0, hz1, hz2⟩ := info_parts info5
  have hlt := h.lt
  obtain ⟨S', hS'⟩ : ∃ S' : Nat → Prop, S' = fun q => S q ∧ q < w.heap.size := ⟨_, rfl⟩
  have hSS : Hid (∀ q, S' q → S q ∧ q < w.heap.size) := fun q hq => by rw [hS'] at hq; exact hq
  have h := h.bound
  rw [← hS'] at h
  clear hS'
  have H0 : St (fun _ => False) w (w.alloc (.cells (frC X.t (k) (.slice A bs.length c)) 57)) := (St.refl _ w).alloc _
  have M0 := hm.alloc (.cells (frC X.t (k) (.slice A bs.length c)) 57)
  have S0 := h.far H0 (fun _ _ e => e)
  have R0 := hb.st H0
  have B0 := Blk.new w 57 (frC X.t (k) (.slice A bs.length c))
  clear hm h hb
  unfold frC at H0 M0 S0 R0 B0 ⊢
  have hcnt := hide (count_any (k))
  have dcnt : Hid (decide (1 ≤ k ∧ k ≤ 4611686018427387904) = true) := by show _ = _; simp; omega
  go_enter Try.func28, Try.ntmps28
  go_wp2_with fail
  obtain ⟨w0, hw0⟩ : ∃ w0, w0 = w.alloc (.cells #[.int .i64 X.t.ep, .int .i64 X.t.lead, .int .i64 X.t.inc, .int .i64 X.t.cid, .int .i64 (k), .slice A bs.length c] 57) := ⟨_, rfl⟩
  rw [← hw0] at H0 M0 S0 R0 B0 ⊢
  clear hw0
  have hw := with_any m X p w0 M0
  rw [hp] at hw
  have hw := hide hw
  obtain ⟨vo, hb, ib, is, h1, h2, _⟩ := id S0
  obtain ⟨s0, s1, s2, s3, s4, s5⟩ := m6 h1
  obtain ⟨p0, p1, p2, p3, p4, p5, p6, p7, p8⟩ := m9 M0.1
  obtain ⟨b0, b1, b2, b3, b4, b5⟩ := m6 B0
  have hr := M0.2.2
  have fr5 := h1.frozen 5
  have HF := hide hf
  obtain ⟨f0, f1, n0, n1, o1, e1⟩ := hf
  have wr1 : IntKind.i64.wrap (k - X.window) = k - X.window := IntWalk.i64_in _ (by constructor <;> omega)
  have dfar : decide (x.next ≤ k - X.window) = false := by simpa using hk3
  have hne : w.heap.size ≠ sb := by omega
  have HS0 := hide S0
  have HR0 := hide R0
  have HB0 := hide B0
  have HH0 := hide H0
  clear h1 h2 M0 S0 R0 B0 H0
  go_wp2_with (first | (go_at_call 41; refine hw.out.mono ?_; rintro e w' ⟨rfl, rfl⟩; unfold ptr) | (go_at_call 45; refine (hcnt.out _).mono ?_; rintro e w' ⟨rfl, rfl⟩; rw [dcnt.out]))
  go_quiet (fail)
  go_wp2_with fail
  go_quiet (fail)
  go_wp2_with fail
  generalize hgw : (World.setCell _ _ _) = w1
  obtain ⟨hs1, hst1⟩ : StreamAt w1 S' sb { x with owed := true } ∧ St S' w0 w1 := by rw [← hgw]; exact take_mem1 HS0.out
  have hb1 : Blk w1 w.heap.size 57 #[.int .i64 X.t.ep, .int .i64 X.t.lead, .int .i64 X.t.inc, .int .i64 X.t.cid, .int .i64 (k), .slice A bs.length c] := by
    rw [← hgw]; exact (HB0.out.drewN _).far (p := ⟨sb, 5, none⟩) hne _
  clear hgw b0 b1 b2 b3 b4 b5 s0 s1 s2 s3 s4 s5 p0 p1 p2 p3 p4 p5 p6 p7 p8 fr5
  have HHAS : ∀ n, Hid (Calls Try.prog 46 #[.pointer (some ⟨sb, 2, none⟩), .int .i64 (k)] (w1.drewN n) fun r w' => r = .returned (.bool (hasB x (k))) ∧ ∃ m, w' = (w1.drewN n).drewN m) := fun n =>
    has_any S' sb { x with owed := true } (k) (w1.drewN n) (hs1.far ((St.refl (fun _ => False) w1).drewN n) (fun _ _ e => e)) ⟨f0, f1, n0, n1, o1, e1⟩ hk1 (by simp only; rw [hew]; omega)
  rw [hhas] at HHAS
  have HS1 := hide hs1
  have HST1 := hide hst1
  have HB1 := hide hb1
  obtain ⟨b0, b1, b2, b3, b4, b5⟩ := m6 hb1
  clear hs1 hst1 hb1
  go_quiet ((go_at_call 46; exact Calls.quiet_of ((HHAS _).out)))
  go_wp2_with fail
  go_ret2
  have e1 : takeO x k bs = [] := if_pos hhas
  have e2 : takeS x k bs = { x with owed := true } := if_pos hhas
  refine ⟨.slice none 0 0, rfl, ?_, ?_, ?_⟩
  · rw [e1]; exact BRow.nil _ _
  · exact (HH0.out.mono (fun _ _ e => e.elim)).trans' (HST1.out.drewN _) (fun q _ h => (hSS.out q h).1)
  · rw [e2]; exact (HS1.out.far ((St.refl (fun _ => False) w1).drewN _) (fun _ _ e => e)).mono (fun q h => (hSS.out q h).1)

set_option maxRecDepth 100000 in
set_option maxHeartbeats 2000000 in
theorem take_miss (S : Nat → Prop) (m sb : Nat) (X : Mx) (p : Int) (x : Str) (i : Nat) (A : Option Addr) (c : Nat) (bs : List Int) (w : World) (hm : MuxAt w m X) (hp : X.with_ p = some sb) (h : StreamAt w S sb x) (hf : x.Fits)
    (hb : Bod w (.slice A bs.length c) bs) (hn1 : 1 ≤ bs.length) (hn2 : bs.length ≤ 300) (hk1 : 1 ≤ x.next + (i : Int)) (hk2 : x.next + (i : Int) ≤ 4611686018427387904) (hk3 : x.next + (i : Int) - X.window < x.next) (hew : x.ear.length = X.window) (hhas : hasB x (x.next + i) = false) :
    Calls Try.prog 28 #[.pointer (some ⟨m, 0, none⟩), .int .i64 p, .agg (frC X.t (x.next + i) (.slice A bs.length c))] w (TakeP S sb x (x.next + i) bs w) := by
  obtain ⟨i0, hi, hz0, hz1, hz2⟩ := info_parts info5
  have hlt := h.lt
  obtain ⟨S', hS'⟩ : ∃ S' : Nat → Prop, S' = fun q => S q ∧ q < w.heap.size := ⟨_, rfl⟩
  have hSS : Hid (∀ q, S' q → S q ∧ q < w.heap.size) := fun q hq => by rw [hS'] at hq; exact hq
  have h := h.bound
  rw [← hS'] at h
  clear hS'
  have H0 : St (fun _ => False) w (w.alloc (.cells (frC X.t (x.next + i) (.slice A bs.length c)) 57)) := (St.refl _ w).alloc _
  have M0 := hm.alloc (.cells (frC X.t (x.next + i) (.slice A bs.length c)) 57)
  have S0 := h.far H0 (fun _ _ e => e)
  have R0 := hb.st H0
  have B0 := Blk.new w 57 (frC X.t (x.next + i) (.slice A bs.length c))
  clear hm h hb
  unfold frC at H0 M0 S0 R0 B0 ⊢
  have hcnt := hide (count_any (x.next + i))
  have dcnt : Hid (decide (1 ≤ x.next + (i : Int) ∧ x.next + (i : Int) ≤ 4611686018427387904) = true) := by show _ = _; simp; omega
  go_enter Try.func28, Try.ntmps28
  go_wp2_with fail
  obtain ⟨w0, hw0⟩ : ∃ w0, w0 = w.alloc (.cells #[.int .i64 X.t.ep, .int .i64 X.t.lead, .int .i64 X.t.inc, .int .i64 X.t.cid, .int .i64 (x.next + i), .slice A bs.length c] 57) := ⟨_, rfl⟩
  rw [← hw0] at H0 M0 S0 R0 B0 ⊢
  clear hw0
  have hw := with_any m X p w0 M0
  rw [hp] at hw
  have hw := hide hw
  obtain ⟨vo, hb, ib, is, h1, h2, _⟩ := id S0
  obtain ⟨s0, s1, s2, s3, s4, s5⟩ := m6 h1
  obtain ⟨p0, p1, p2, p3, p4, p5, p6, p7, p8⟩ := m9 M0.1
  obtain ⟨b0, b1, b2, b3, b4, b5⟩ := m6 B0
  have hr := M0.2.2
  have fr5 := h1.frozen 5
  have HF := hide hf
  obtain ⟨f0, f1, n0, n1, o1, e1⟩ := hf
  have wr1 : IntKind.i64.wrap (x.next + (i : Int) - X.window) = x.next + (i : Int) - X.window := IntWalk.i64_in _ (by constructor <;> omega)
  have dfar : decide (x.next ≤ x.next + (i : Int) - X.window) = false := by simpa using hk3
  have hne : w.heap.size ≠ sb := by omega
  have HS0 := hide S0
  have HR0 := hide R0
  have HB0 := hide B0
  have HH0 := hide H0
  clear h1 h2 M0 S0 R0 B0 H0
  go_wp2_with (first | (go_at_call 41; refine hw.out.mono ?_; rintro e w' ⟨rfl, rfl⟩; unfold ptr) | (go_at_call 45; refine (hcnt.out _).mono ?_; rintro e w' ⟨rfl, rfl⟩; rw [dcnt.out]))
  go_quiet (fail)
  go_wp2_with fail
  go_quiet (fail)
  go_wp2_with fail
  generalize hgw : (World.setCell _ _ _) = w1
  obtain ⟨hs1, hst1⟩ : StreamAt w1 S' sb { x with owed := true } ∧ St S' w0 w1 := by rw [← hgw]; exact take_mem1 HS0.out
  have hb1 : Blk w1 w.heap.size 57 #[.int .i64 X.t.ep, .int .i64 X.t.lead, .int .i64 X.t.inc, .int .i64 X.t.cid, .int .i64 (x.next + i), .slice A bs.length c] := by
    rw [← hgw]; exact (HB0.out.drewN _).far (p := ⟨sb, 5, none⟩) hne _
  clear hgw b0 b1 b2 b3 b4 b5 s0 s1 s2 s3 s4 s5 p0 p1 p2 p3 p4 p5 p6 p7 p8 fr5
  have HHAS : ∀ n, Hid (Calls Try.prog 46 #[.pointer (some ⟨sb, 2, none⟩), .int .i64 (x.next + i)] (w1.drewN n) fun r w' => r = .returned (.bool (hasB x (x.next + i))) ∧ ∃ m, w' = (w1.drewN n).drewN m) := fun n =>
    has_any S' sb { x with owed := true } (x.next + i) (w1.drewN n) (hs1.far ((St.refl (fun _ => False) w1).drewN n) (fun _ _ e => e)) ⟨f0, f1, n0, n1, o1, e1⟩ hk1 (by simp only; rw [hew]; omega)
  rw [hhas] at HHAS
  have HS1 := hide hs1
  have HST1 := hide hst1
  have HB1 := hide hb1
  obtain ⟨b0, b1, b2, b3, b4, b5⟩ := m6 hb1
  clear hs1 hst1 hb1
  go_quiet ((go_at_call 46; exact Calls.quiet_of ((HHAS _).out)))
  go_wp2_with fail
  have hil : i < x.ear.length := by rw [hew]; omega
  have HBB := hide ((hb1b HR0.out HST1.out))
  go_region_held3 (fun W => W.cell? ⟨w.heap.size, 4, none⟩ = some (.int .i64 (x.next + i)) ∧ W.cell? ⟨w.heap.size, 5, none⟩ = some (.slice A bs.length c))
    (first | exact ⟨b4, b5⟩ | exact ⟨d4, d5⟩ | exact ⟨g4, g5⟩)
    (first
      | ((refine step_append_any _ (by rfl) _ _ _ (by rfl) 0 5 i0 _ 1 1 Try.underlying28 hi hz0 hz1 hz2 (by rfl) (by omega) (.slice none 0 0) 0 [] (by rfl) (World.ownsRow_nil _ _ _ _) w1.heap.size A bs.length c (byts bs) (by rfl) ?_ (byts_one bs) ?_ ?_ (Nat.zero_le _) ?_; exact HBB.out; (unfold maxLen; omega); omega; intro v3 w3 hown3 hg3 hat3; simp only [Nat.zero_add, List.nil_append] at hown3; have hst3 := hide (st_append hg3); have hb3 := HB1.out.st hst3.out (fun e => e); obtain ⟨d0, d1, d2, d3, d4, d5⟩ := m6 hb3; have HB3 := hide hb3; have HS3 := hide (StreamAt.far HS1.out hst3.out (fun _ _ e => e)); have HV3 : Hid (Bod w3 v3 bs) := hown3; clear hb3 hown3 hg3 hat3))
      | ((go_at_call 47; refine (put_any S' sb { x with owed := true } i v3 bs w3 HS3.out ⟨f0, f1, n0, n1, o1, e1⟩ hil HV3.out).mono ?_; rintro e w4 ⟨v4, rfl, r4, st4, s4⟩; have hb4 := HB3.out.st st4 (fun h => absurd (hSS.out _ h).2 (by omega)); obtain ⟨g0, g1, g2, g3, g4, g5⟩ := m6 hb4; have R4 := hide r4; have ST4 := hide st4; have S4 := hide s4; clear hb4 r4 st4 s4)))
  go_wp2
  go_ret2
  have q0 : (x.next + (i : Int) - x.next).toNat = i := by omega
  have q1 : takeO x (x.next + i) bs = outs (x.ear.set i (some bs)) := by unfold takeO takeE; rw [if_neg (by rw [hhas]; decide), q0]
  have q2 : takeS x (x.next + i) bs = { x with next := x.next + (lead (x.ear.set i (some bs)) : Nat), ear := shifted (x.ear.set i (some bs)) none (lead (x.ear.set i (some bs))), owed := true } := by unfold takeS takeE; rw [if_neg (by rw [hhas]; decide), q0]
  have st1 : St S w w1 := (HH0.out.mono (fun _ _ e => e.elim)).trans' HST1.out (fun q _ h => (hSS.out q h).1)
  have st3 : St S w w3 := st1.trans (hst3.out.mono (fun _ _ e => e.elim))
  refine ⟨v4, rfl, ?_, st3.trans (ST4.out.mono (fun q _ h => (hSS.out q h).1)), ?_⟩
  · rw [q1]; exact R4.out.mono (fun q hq => Nat.le_trans st3.size hq)
  · rw [q2]; exact S4.out.mono (fun q h => (hSS.out q h).1)
end Go.Proofs.Ytkkckinnhkpcmaa
