/-
  Contract of Mux.Owed where the peer is one.
-/
import Derived.Test.YtkkckinnhkpcmaaAcked
import Derived.Laws.ResultCell
set_option linter.unusedVariables false
namespace Go.Proofs.Ytkkckinnhkpcmaa
open Go.RowKit Go.WideShapes Go.ChangeShapes Q

theorem results_cell_row2 {P : Program} {fn : Func} {p u : Tmp} {ty : TypeId} (h : fn.results = #[.cell p ty, .tmp u]) (tmps : Array Value) (w : World) (g : Nat) (t : TypeId) (cs : Array Value) (fr : Nat × Nat) (d : TypeDesc)
    (hp : tmps.getD p undef = .pointer (some ⟨g, 0, none⟩)) (hg : w.heap[g]? = some (.cells cs t fr))
    (hu : P.underlying ty = some d) (hd : (match d with | .struct _ | .array _ _ => true | _ => false) = true) (hi : (P.info? ty).map (·.size) = some cs.size) :
    (results fn tmps).run P w = .ok (.tuple #[.agg cs, tmps.getD u undef]) w := by
  rw [results_cell_tmp h, hp]
  simp [asAddr, Result.andThen, run_loadVar_row w g t ty cs fr d hg hu hd hi]

theorem box5 {S : Nat → Prop} {w w0 : World} {g : Nat} {t : TypeId} {a0 a1 a2 a3 a4 u0 u1 u2 u3 u4 : Value} (hs : St S w w0) (hb : Blk w0 g t #[a0, a1, a2, a3, a4]) (ht : t ≠ 5) (no : g < w.heap.size → S g) :
    Blk (((((w0.setCell ⟨g, 0, none⟩ u0).setCell ⟨g, 1, none⟩ u1).setCell ⟨g, 2, none⟩ u2).setCell ⟨g, 3, none⟩ u3).setCell ⟨g, 4, none⟩ u4) g t #[u0, u1, u2, u3, u4] ∧
      St S w (((((w0.setCell ⟨g, 0, none⟩ u0).setCell ⟨g, 1, none⟩ u1).setCell ⟨g, 2, none⟩ u2).setCell ⟨g, 3, none⟩ u3).setCell ⟨g, 4, none⟩ u4) := by
  have b1 := hb.set_ 0 u0
  have b2 := b1.set_ 1 u1
  have b3 := b2.set_ 2 u2
  have b4 := b3.set_ 3 u3
  have b5 := b4.set_ 4 u4
  exact ⟨b5, ((((hs.setCell hb ht no u0).setCell b1 ht no u1).setCell b2 ht no u2).setCell b3 ht no u3).setCell b4 ht no u4⟩

set_option maxRecDepth 100000 in
set_option maxHeartbeats 2000000 in
theorem owed_no (S : Nat → Prop) (m sb : Nat) (X : Mx) (p : Int) (x : Str) (w : World) (hm : MuxAt w m X) (hp : X.with_ p = some sb) (h : StreamAt w S sb x) (ho : x.owed = false) :
    Calls Try.prog 33 #[.pointer (some ⟨m, 0, none⟩), .int .i64 p] w fun e w' => e = .returned (.tuple #[.agg (akC ⟨0, 0, 0, 0⟩ 0), .bool false]) ∧ St (fun _ => False) w w' := by
  have H0 : St (fun _ => False) w (w.alloc (.cells (akC ⟨0, 0, 0, 0⟩ 0) 60)) := (St.refl _ w).alloc _
  have M0 := hm.alloc (.cells (akC ⟨0, 0, 0, 0⟩ 0) 60)
  have S0 := h.far H0 (fun _ _ e => e)
  have B0 := Blk.new w 60 (akC ⟨0, 0, 0, 0⟩ 0)
  clear hm h
  unfold akC at H0 M0 S0 B0 ⊢
  simp only at H0 M0 S0 B0 ⊢
  go_enter Try.func33, Try.ntmps33
  go_wp2_with fail
  obtain ⟨w0, hw0⟩ : ∃ w0, w0 = w.alloc (.cells #[.int .i64 0, .int .i64 0, .int .i64 0, .int .i64 0, .int .i64 0] 60) := ⟨_, rfl⟩
  rw [← hw0] at H0 M0 S0 B0 ⊢
  clear hw0
  have hw := with_any m X p w0 M0
  rw [hp] at hw
  have hw := hide hw
  obtain ⟨vo, hb, ib, is, h1, h2, _⟩ := id S0
  obtain ⟨s0, s1, s2, s3, s4, s5⟩ := m6 h1
  rw [ho] at s5
  obtain ⟨b0, b1, b2, b3, b4⟩ := m5 B0
  have g0 := B0.frozen 0
  have g1 := B0.frozen 1
  have g2 := B0.frozen 2
  have g3 := B0.frozen 3
  have g4 := B0.frozen 4
  have HB0 := hide B0
  have HH0 := hide H0
  clear h1 h2 M0 S0 B0 H0
  go_wp2_with (go_at_call 41; refine hw.out.mono ?_; rintro e w' ⟨rfl, rfl⟩; unfold ptr)
  obtain ⟨b5, st5⟩ := box5 (u0 := .int .i64 0) (u1 := .int .i64 0) (u2 := .int .i64 0) (u3 := .int .i64 0) (u4 := .int .i64 0) HH0.out HB0.out (by decide) (fun h => absurd h (by omega))
  refine bodyPost_ret (results_cell_row2 rfl _ _ w.heap.size 60 _ (0, 0) _ rfl b5 Try.underlying60 rfl (by kernel_rfl)) rfl ?_
  exact ⟨rfl, st5⟩

set_option maxRecDepth 100000 in
set_option maxHeartbeats 2000000 in
theorem owed_yes (S : Nat → Prop) (m sb : Nat) (X : Mx) (p : Int) (x : Str) (w : World) (hm : MuxAt w m X) (hp : X.with_ p = some sb) (h : StreamAt w S sb x) (hf : x.Fits) (ho : x.owed = true) (hSm : ¬ S m) :
    Calls Try.prog 33 #[.pointer (some ⟨m, 0, none⟩), .int .i64 p] w fun e w' => e = .returned (.tuple #[.agg (akC X.t (x.next - 1)), .bool true]) ∧ St S w w' ∧ StreamAt w' S sb { x with owed := false } := by
  have hlt := h.lt
  obtain ⟨S', hS'⟩ : ∃ S' : Nat → Prop, S' = fun q => S q ∧ q < w.heap.size := ⟨_, rfl⟩
  have hSS : Hid (∀ q, S' q → S q ∧ q < w.heap.size) := fun q hq => by rw [hS'] at hq; exact hq
  have h := h.bound
  rw [← hS'] at h
  clear hS'
  have H0 : St (fun _ => False) w (w.alloc (.cells (akC ⟨0, 0, 0, 0⟩ 0) 60)) := (St.refl _ w).alloc _
  have M0 := hm.alloc (.cells (akC ⟨0, 0, 0, 0⟩ 0) 60)
  have S0 := h.far H0 (fun _ _ e => e)
  have B0 := Blk.new w 60 (akC ⟨0, 0, 0, 0⟩ 0)
  clear hm h
  unfold akC at H0 M0 S0 B0 ⊢
  simp only at H0 M0 S0 B0 ⊢
  go_enter Try.func33, Try.ntmps33
  go_wp2_with fail
  obtain ⟨w0, hw0⟩ : ∃ w0, w0 = w.alloc (.cells #[.int .i64 0, .int .i64 0, .int .i64 0, .int .i64 0, .int .i64 0] 60) := ⟨_, rfl⟩
  rw [← hw0] at H0 M0 S0 B0 ⊢
  clear hw0
  have hw := with_any m X p w0 M0
  rw [hp] at hw
  have hw := hide hw
  obtain ⟨vo, hb, ib, is, h1, h2, _⟩ := id S0
  obtain ⟨s0, s1, s2, s3, s4, s5⟩ := m6 h1
  rw [ho] at s5
  have fr5 := h1.frozen 5
  obtain ⟨f0, f1, n0, n1, o1, e1⟩ := hf
  have HB0 := hide B0
  have HH0 := hide H0
  have HM0 := hide M0
  have HS0 := hide S0
  clear h1 h2 M0 S0 B0 H0
  go_wp2_with (go_at_call 41; refine hw.out.mono ?_; rintro e w' ⟨rfl, rfl⟩; unfold ptr)
  generalize hgw : (World.setCell _ _ _) = w1
  obtain ⟨hs1, hst1⟩ : StreamAt w1 S' sb { x with owed := false } ∧ St S' w0 w1 := by rw [← hgw]; exact HS0.out.set 5 (.bool false) { x with owed := false } rfl rfl (fun _ _ _ => rfl)
  have hb1 : Blk w1 w.heap.size 60 #[.int .i64 0, .int .i64 0, .int .i64 0, .int .i64 0, .int .i64 0] := HB0.out.st hst1 (fun h => absurd (hSS.out _ h).2 (by omega))
  have hm1 : Blk w1 m 83 (muxC X) := HM0.out.1.st hst1 (fun h => hSm (hSS.out _ h).1)
  clear hgw s0 s1 s2 s3 s4 s5 fr5
  have HS1 := hide hs1
  obtain ⟨vo, hb, ib, is, h1, h2, _⟩ := id hs1
  obtain ⟨s0, s1, s2, s3, s4, s5⟩ := m6 h1
  obtain ⟨p0, p1, p2, p3, p4, p5, p6, p7, p8⟩ := m9 hm1
  obtain ⟨b0, b1, b2, b3, b4⟩ := m5 hb1
  have g0 := hb1.frozen 0
  have g1 := hb1.frozen 1
  have g2 := hb1.frozen 2
  have g3 := hb1.frozen 3
  have g4 := hb1.frozen 4
  have HST1 := hide hst1
  have HB1 := hide hb1
  have wr1 : IntKind.i64.wrap (x.next - 1) = x.next - 1 := IntWalk.i64_in _ (by constructor <;> omega)
  clear hs1 hst1 hb1 hm1 h1 h2
  go_still_tail 11, (by kernel_rfl)
  change wpList _ _ _ _ _ w1.drew
  go_wp2_with fail
  obtain ⟨b5, st5⟩ := box5 (S := fun q => q = w.heap.size) (u0 := .int .i64 X.t.ep) (u1 := .int .i64 X.t.lead) (u2 := .int .i64 X.t.inc) (u3 := .int .i64 X.t.cid) (u4 := .int .i64 (x.next - 1)) (St.refl _ w1) HB1.out (by decide) (fun _ => rfl)
  refine bodyPost_ret (results_cell_row2 rfl _ _ w.heap.size 60 _ (0, 0) _ rfl b5.drew Try.underlying60 rfl (by kernel_rfl)) rfl ?_
  have c : St S w w1 := (HH0.out.mono (fun _ _ e => e.elim)).trans' HST1.out (fun q _ h => (hSS.out q h).1)
  refine ⟨rfl, (c.trans' st5 (fun q hq e => by omega)).drew, ?_⟩
  exact (HS1.out.far st5.drew (fun q h e => by have := (hSS.out q h).2; omega)).mono (fun q h => (hSS.out q h).1)
end Go.Proofs.Ytkkckinnhkpcmaa
