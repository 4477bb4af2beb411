/-
  Contract of Mux.Acked where the peer is one, the tag is the present one and the number is within what flies. (Printed by wip/tools/mkacked.py.)
-/
import Derived.Test.YtkkckinnhkpcmaaTake
set_option linter.unusedVariables false
namespace Go.Proofs.Ytkkckinnhkpcmaa
open Go.RowKit Go.WideShapes Go.ChangeShapes Q

def akC (t : Tg) (u : Int) : Array Value := #[.int .i64 t.ep, .int .i64 t.lead, .int .i64 t.inc, .int .i64 t.cid, .int .i64 u]
/-- The stream behind an acknowledgement. -/
def ackS (x : Str) (u : Int) : Str := if x.first ≤ u then { x with first := u + 1, out := x.out.drop (u - x.first + 1).toNat } else x
def AckP (S : Nat → Prop) (sb : Nat) (x : Str) (u : Int) (w : World) (e : Ending) (w' : World) : Prop :=
  e = .returned (.int .i64 0) ∧ St S w w' ∧ StreamAt w' (fun q => S q ∨ w.heap.size ≤ q) sb (ackS x u)
theorem m5 {w : World} {g : Nat} {t : TypeId} {a0 a1 a2 a3 a4 : Value} (h : Blk w g t #[a0, a1, a2, a3, a4]) : w.cell? ⟨g, 0, none⟩ = some a0 ∧ w.cell? ⟨g, 1, none⟩ = some a1 ∧ w.cell? ⟨g, 2, none⟩ = some a2 ∧ w.cell? ⟨g, 3, none⟩ = some a3 ∧ w.cell? ⟨g, 4, none⟩ = some a4 :=
  ⟨h.cell 0, h.cell 1, h.cell 2, h.cell 3, h.cell 4⟩

set_option maxRecDepth 100000 in
set_option maxHeartbeats 2000000 in
theorem acked_old (S : Nat → Prop) (m sb : Nat) (X : Mx) (p : Int) (x : Str) (u : Int) (w : World) (hm : MuxAt w m X) (hp : X.with_ p = some sb) (h : StreamAt w S sb x) (hf : x.Fits)
    (hk1 : 0 ≤ u) (hk2 : u ≤ 4611686018427387904) (hold : u < x.first) :
    Calls Try.prog 29 #[.pointer (some ⟨m, 0, none⟩), .int .i64 p, .agg (akC X.t (u))] w (AckP S sb x (u) w) := by
  have hlt := h.lt
  have H0 : St (fun _ => False) w (w.alloc (.cells (akC X.t (u)) 60)) := (St.refl _ w).alloc _
  have M0 := hm.alloc (.cells (akC X.t (u)) 60)
  have S0 := h.far H0 (fun _ _ e => e)
  have B0 := Blk.new w 60 (akC X.t (u))
  clear hm h
  unfold akC at H0 M0 S0 B0 ⊢
  go_enter Try.func29, Try.ntmps29
  go_wp2_with fail
  obtain ⟨w0, hw0⟩ : ∃ w0, w0 = w.alloc (.cells #[.int .i64 X.t.ep, .int .i64 X.t.lead, .int .i64 X.t.inc, .int .i64 X.t.cid, .int .i64 (u)] 60) := ⟨_, rfl⟩
  rw [← hw0] at H0 M0 S0 B0 ⊢
  clear hw0
  have hw := with_any m X p w0 M0
  rw [hp] at hw
  have hw := hide hw
  have HFLY : ∀ n, Hid (Calls Try.prog 48 #[.pointer (some ⟨m, 0, none⟩), .pointer (some ⟨sb, 0, none⟩)] (w0.drewN n) fun r w' => r = .returned (.int .i64 (Min.min X.window x.out.length : Nat)) ∧ ∃ m, w' = (w0.drewN n).drewN m) := fun n =>
    flying_any S m sb X x (w0.drewN n) M0 (S0.far ((St.refl (fun _ => False) w0).drewN n) (fun _ _ e => e)) hf
  obtain ⟨vo, hb, ib, is, h1, h2, _⟩ := id S0
  obtain ⟨s0, s1, s2, s3, s4, s5⟩ := m6 h1
  obtain ⟨p0, p1, p2, p3, p4, p5, p6, p7, p8⟩ := m9 M0.1
  obtain ⟨b0, b1, b2, b3, b4⟩ := m5 B0
  have hr := M0.2.2
  have HF := hide hf
  obtain ⟨f0, f1, n0, n1, o1, e1⟩ := hf
  have hmin : Min.min X.window x.out.length ≤ 20000 := by omega
  obtain ⟨mn, hmn⟩ : ∃ mn, mn = Min.min X.window x.out.length := ⟨_, rfl⟩
  rw [← hmn] at HFLY hmin
  have HMN := hide hmn
  have wr1 : IntKind.i64.wrap (x.first - 1) = x.first - 1 := IntWalk.i64_in _ (by constructor <;> omega)
  have wr2 : IntKind.i64.wrap (x.first - 1 + (mn : Int)) = x.first - 1 + (mn : Int) := IntWalk.i64_in _ (by constructor <;> omega)
  have dfar : decide (x.first - 1 + (mn : Int) < u) = false := by rw [decide_eq_false_iff_not]; omega
  have dge : decide (x.first ≤ u) = false := by rw [decide_eq_false_iff_not]; omega
  have HS0 := hide S0
  have HB0 := hide B0
  have HH0 := hide H0
  clear h1 h2 M0 S0 B0 H0 hmn
  go_wp2_with (go_at_call 41; refine hw.out.mono ?_; rintro e w' ⟨rfl, rfl⟩; unfold ptr)
  go_quiet (fail)
  go_wp2_with fail
  go_quiet ((go_at_call 48; exact quiet_add ((HFLY _).out)))
  go_wp2_with fail
  go_quiet (fail)
  go_wp2_with fail
  go_ret
  have e1 : ackS x u = x := if_neg (by omega)
  refine ⟨rfl, ((((HH0.out.mono (fun _ _ e => e.elim)).drewN _).drewN _).drewN _), ?_⟩
  rw [e1]
  exact (HS0.out.far ((((St.refl (fun _ => False) w0).drewN _).drewN _).drewN _) (fun _ _ e => e)).mono (fun q h => .inl h)

set_option maxRecDepth 100000 in
set_option maxHeartbeats 2000000 in
theorem acked_new (S : Nat → Prop) (m sb : Nat) (X : Mx) (p : Int) (x : Str) (j : Nat) (w : World) (hm : MuxAt w m X) (hp : X.with_ p = some sb) (h : StreamAt w S sb x) (hf : x.Fits)
    (hk1 : 0 ≤ x.first + (j : Int) - 1) (hk2 : x.first + (j : Int) - 1 ≤ 4611686018427387904) (hj1 : 1 ≤ j) (hj2 : j ≤ Min.min X.window x.out.length) :
    Calls Try.prog 29 #[.pointer (some ⟨m, 0, none⟩), .int .i64 p, .agg (akC X.t (x.first + (j : Int) - 1))] w (AckP S sb x (x.first + (j : Int) - 1) w) := by
  have hlt := h.lt
  have H0 : St (fun _ => False) w (w.alloc (.cells (akC X.t (x.first + (j : Int) - 1)) 60)) := (St.refl _ w).alloc _
  have M0 := hm.alloc (.cells (akC X.t (x.first + (j : Int) - 1)) 60)
  have S0 := h.far H0 (fun _ _ e => e)
  have B0 := Blk.new w 60 (akC X.t (x.first + (j : Int) - 1))
  clear hm h
  unfold akC at H0 M0 S0 B0 ⊢
  go_enter Try.func29, Try.ntmps29
  go_wp2_with fail
  obtain ⟨w0, hw0⟩ : ∃ w0, w0 = w.alloc (.cells #[.int .i64 X.t.ep, .int .i64 X.t.lead, .int .i64 X.t.inc, .int .i64 X.t.cid, .int .i64 (x.first + (j : Int) - 1)] 60) := ⟨_, rfl⟩
  rw [← hw0] at H0 M0 S0 B0 ⊢
  clear hw0
  have hw := with_any m X p w0 M0
  rw [hp] at hw
  have hw := hide hw
  have HFLY : ∀ n, Hid (Calls Try.prog 48 #[.pointer (some ⟨m, 0, none⟩), .pointer (some ⟨sb, 0, none⟩)] (w0.drewN n) fun r w' => r = .returned (.int .i64 (Min.min X.window x.out.length : Nat)) ∧ ∃ m, w' = (w0.drewN n).drewN m) := fun n =>
    flying_any S m sb X x (w0.drewN n) M0 (S0.far ((St.refl (fun _ => False) w0).drewN n) (fun _ _ e => e)) hf
  obtain ⟨vo, hb, ib, is, h1, h2, _⟩ := id S0
  obtain ⟨s0, s1, s2, s3, s4, s5⟩ := m6 h1
  obtain ⟨p0, p1, p2, p3, p4, p5, p6, p7, p8⟩ := m9 M0.1
  obtain ⟨b0, b1, b2, b3, b4⟩ := m5 B0
  have hr := M0.2.2
  have HF := hide hf
  obtain ⟨f0, f1, n0, n1, o1, e1⟩ := hf
  have hmin : Min.min X.window x.out.length ≤ 20000 := by omega
  obtain ⟨mn, hmn⟩ : ∃ mn, mn = Min.min X.window x.out.length := ⟨_, rfl⟩
  rw [← hmn] at HFLY hmin
  have HMN := hide hmn
  have wr1 : IntKind.i64.wrap (x.first - 1) = x.first - 1 := IntWalk.i64_in _ (by constructor <;> omega)
  have wr2 : IntKind.i64.wrap (x.first - 1 + (mn : Int)) = x.first - 1 + (mn : Int) := IntWalk.i64_in _ (by constructor <;> omega)
  have dfar : decide (x.first - 1 + (mn : Int) < x.first + (j : Int) - 1) = false := by rw [decide_eq_false_iff_not]; omega
  have dge : decide (x.first ≤ x.first + (j : Int) - 1) = true := by rw [decide_eq_true_eq]; omega
  have HS0 := hide S0
  have HB0 := hide B0
  have HH0 := hide H0
  clear h1 h2 M0 S0 B0 H0 hmn
  go_wp2_with (go_at_call 41; refine hw.out.mono ?_; rintro e w' ⟨rfl, rfl⟩; unfold ptr)
  go_quiet (fail)
  go_wp2_with fail
  go_quiet ((go_at_call 48; exact quiet_add ((HFLY _).out)))
  go_wp2_with fail
  go_quiet (fail)
  go_wp2_with fail
  generalize hgw : (World.drewN (World.drewN (World.drewN _ _) _) _) = w1
  have hst1 : St (fun _ => False) w0 w1 := by rw [← hgw]; exact (((St.refl (fun _ => False) w0).drewN _).drewN _).drewN _
  have hs1 := HS0.out.far hst1 (fun _ _ e => e)
  have hb1 := HB0.out.st hst1 (fun e => e)
  clear hgw b0 b1 b2 b3 b4 s0 s1 s2 s3 s4 s5 p0 p1 p2 p3 p4 p5 p6 p7 p8
  obtain ⟨b0, b1, b2, b3, b4⟩ := m5 hb1
  have hjo : j ≤ x.out.length := by have := HMN.out; omega
  have HD := hide (drop_any S sb x j w1.drew (hs1.far ((St.refl (fun _ => False) w1).drew) (fun _ _ e => e)) HF.out hjo)
  have HST1 := hide hst1
  clear hs1 hb1 hst1
  go_still_tail 5, (by kernel_rfl)
  change wpList _ _ _ _ _ w1.drew
  go_wp2_with (go_at_call 49; refine HD.out.mono ?_; rintro e w4 ⟨rfl, st4, s4⟩; have ST4 := hide st4; have S4 := hide s4; clear st4 s4)
  go_ret
  have e1 : ackS x (x.first + (j : Int) - 1) = { x with first := x.first + j, out := x.out.drop j } := by
    unfold ackS
    rw [if_pos (by omega), show (x.first + (j : Int) - 1 - x.first + 1).toNat = j by omega, show x.first + (j : Int) - 1 + 1 = x.first + j by omega]
  have st1 : St S w w1.drew := ((HH0.out.mono (fun _ _ e => e.elim)).trans (HST1.out.mono (fun _ _ e => e.elim))).drew
  refine ⟨rfl, st1.trans ST4.out, ?_⟩
  rw [e1]
  refine S4.out.mono fun q hq => ?_
  rcases hq with hq | hq
  · exact .inl hq
  · exact .inr (Nat.le_trans st1.size hq)
end Go.Proofs.Ytkkckinnhkpcmaa
