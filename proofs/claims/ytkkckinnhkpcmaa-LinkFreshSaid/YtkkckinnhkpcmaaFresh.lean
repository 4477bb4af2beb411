/-
  LinkFresh, the walk.
-/
import Derived.Test.YtkkckinnhkpcmaaAnew
set_option linter.unusedVariables false
set_option linter.unusedSimpArgs false
namespace Go.Proofs.Ytkkckinnhkpcmaa
open Go.RowKit Go.WideShapes Go.ChangeShapes Q

theorem Made.st' {w wr : World} {wb W Sp : Nat} {y : Wr} (h : Made w wb W Sp y wr) : St (fun _ => False) w wr := by
  obtain ⟨o, g, _, b, _⟩ := h
  exact b

theorem Anew.lower {w : World} {a a' b W Sp s m : Nat} (h : Anew w a b W Sp s m) (hb : a' ≤ a) : Anew w a' b W Sp s m := by
  obtain ⟨sb, X, h1, h2, h3, h4, h5⟩ := h
  exact ⟨sb, X, h1, h2.mono fun k hk => ⟨Nat.le_trans hb hk.1, hk.2⟩, Nat.le_trans hb h3, h4, h5⟩

/-- How far the Resets have gone. -/
def FrRel (w : World) (B a0 nb W Sp m0 m1 : Nat) (X0 X1 : Mx) (k : Nat) (wr : World) : Prop :=
  St (fun _ => False) w wr ∧ a0 ≤ wr.heap.size ∧ Blk wr nb 45 (headC (.pointer (some ⟨m0, 0, none⟩)) (.pointer (some ⟨m1, 0, none⟩)) W Sp) ∧
  ((k = 0 ∧ MuxOld wr B W Sp 0 m0 X0 ∧ MuxOld wr B W Sp 1 m1 X1) ∨ (k = 1 ∧ Anew wr a0 wr.heap.size W Sp 0 m0 ∧ MuxOld wr B W Sp 1 m1 X1) ∨
   (k = 2 ∧ ∃ a1, a0 ≤ a1 ∧ a1 ≤ wr.heap.size ∧ Anew wr a0 a1 W Sp 0 m0 ∧ Anew wr a1 wr.heap.size W Sp 1 m1))

set_option maxRecDepth 100000 in
set_option maxHeartbeats 8000000 in
theorem fresh_walk (wn rn s0 s1 s2 s3 s4 : Int) (A A2 A5 : Option Addr) (n5 c c2 c5 : Nat) (l l2 : List Ai) (w : World) (h0 : -9223372036854775808 ≤ wn) (h1 : wn ≤ 9223372036854775807) (h2 : -9223372036854775808 ≤ rn) (h3 : rn ≤ 9223372036854775807)
    (hA : ActsIn w A l) (hl : l.length ≤ 140737488351232) (hA2 : ActsIn w A2 l2) (hl2 : l2.length ≤ 140737488351232) :
    Calls Try.prog 7 #[.agg #[.int .i64 wn, .int .i64 rn, .slice A2 l2.length c2, .slice A l.length c, .int .i64 s0, .int .i64 s1, .int .i64 s2, .int .i64 s3, .int .i64 s4, .slice A5 n5 c5]] w fun e w' => e = .returned (.bool true) ∧ Below w.heap.size w w' := by
  have H0 : St (fun _ => False) w (w.alloc (.cells #[.int .i64 wn, .int .i64 rn, .slice A2 l2.length c2, .slice A l.length c, .int .i64 s0, .int .i64 s1, .int .i64 s2, .int .i64 s3, .int .i64 s4, .slice A5 n5 c5] 30)) := (St.refl _ w).alloc _
  have B0 := Blk.new w 30 #[.int .i64 wn, .int .i64 rn, .slice A2 l2.length c2, .slice A l.length c, .int .i64 s0, .int .i64 s1, .int .i64 s2, .int .i64 s3, .int .i64 s4, .slice A5 n5 c5]
  have hA0 := hA.st H0
  have hA2' := hA2.st H0
  obtain ⟨W, hW⟩ : ∃ W, W = wndOf wn := ⟨_, rfl⟩
  obtain ⟨Sp, hSp⟩ : ∃ Sp, Sp = spcOf wn rn := ⟨_, rfl⟩
  have hwb := wnd_b wn
  have hsb := spc_b wn rn
  rw [← hW] at hwb hsb
  rw [← hSp] at hsb
  go_enter Try.func7, Try.ntmps7
  go_wp2_with fail
  obtain ⟨w0, hw0⟩ : ∃ w0, w0 = w.alloc (.cells #[.int .i64 wn, .int .i64 rn, .slice A2 l2.length c2, .slice A l.length c, .int .i64 s0, .int .i64 s1, .int .i64 s2, .int .i64 s3, .int .i64 s4, .slice A5 n5 c5] 30) := ⟨_, rfl⟩
  rw [← hw0] at H0 B0 hA0 hA2' ⊢
  have HT1 : Hid (Calls Try.prog 16 #[.int .i64 wn, .int .i64 rn, .slice A2 l2.length c2] w0 (TalkP wn rn l2 w0)) := talked_any wn rn A2 c2 l2 w0 h0 h1 h2 h3 hA2' hl2
  have HAA := hide (And.intro hA0 hl)
  have HW5 := hide (And.intro hwb hsb)
  have HWS := hide (And.intro hW hSp)
  have HH0 := hide H0
  have HB0 := hide B0
  obtain ⟨b0, b1, b2⟩ : w0.cell? ⟨w.heap.size, 0, none⟩ = some (.int .i64 wn) ∧ w0.cell? ⟨w.heap.size, 1, none⟩ = some (.int .i64 rn) ∧ w0.cell? ⟨w.heap.size, 2, none⟩ = some (.slice A2 l2.length c2) := ⟨B0.cell 0, B0.cell 1, B0.cell 2⟩
  clear hw0 hA hA0 hA2 hA2' H0 B0 h0 h1 h2 h3 hl hl2 hwb hsb hW hSp
  go_wp2_with (go_at_call 16; refine HT1.out.mono ?_; rintro e w1 ⟨wb, rfl, hm1⟩; obtain ⟨m0, m1, X0, X1, hst1, hOl⟩ := (show Made w0 wb W Sp _ w1 by obtain ⟨q1, q2⟩ := HWS.out; rw [q1, q2]; exact hm1).olds; have HOL := hide hOl; have HST1 := hide hst1; clear hm1 hst1 hOl; try clear b0 b1 b2)
  obtain ⟨c0, c1, c2, c3, o0, o1, n0, n1, n2⟩ := HOL.out
  have HOL := hide (And.intro o0 (And.intro o1 (And.intro n0 (And.intro n1 n2))))
  clear o0 o1 n0 n1 n2 HT1
  have hSd : (fun V : World => V.cell? ⟨wb, 0, none⟩ = some (.pointer (some ⟨m0, 0, none⟩)) ∧ V.cell? ⟨wb, 1, none⟩ = some (.pointer (some ⟨m1, 0, none⟩)) ∧ V.cell? ⟨wb, 2, none⟩ = some (.int .i64 (W : Int)) ∧ V.cell? ⟨wb, 3, none⟩ = some (.int .i64 (Sp : Int))) w1.drew := ⟨c0, c1, c2, c3⟩
  have hSe : (fun V : World => V.cell? ⟨wb, 0, none⟩ = some (.pointer (some ⟨m0, 0, none⟩)) ∧ V.cell? ⟨wb, 1, none⟩ = some (.pointer (some ⟨m1, 0, none⟩)) ∧ V.cell? ⟨wb, 2, none⟩ = some (.int .i64 (W : Int)) ∧ V.cell? ⟨wb, 3, none⟩ = some (.int .i64 (Sp : Int))) (w1.alloc (.cells #[.pointer (some ⟨m0, 0, none⟩), .pointer (some ⟨m1, 0, none⟩), .int .i64 (W : Int), .int .i64 (Sp : Int), .slice none 0 0, .slice none 0 0, .slice none 0 0, .slice none 0 0, .slice none 0 0, .slice none 0 0, .slice none 0 0, .slice none 0 0] 45)).drew := ⟨cell_alloc c0 (.cells #[.pointer (some ⟨m0, 0, none⟩), .pointer (some ⟨m1, 0, none⟩), .int .i64 (W : Int), .int .i64 (Sp : Int), .slice none 0 0, .slice none 0 0, .slice none 0 0, .slice none 0 0, .slice none 0 0, .slice none 0 0, .slice none 0 0, .slice none 0 0] 45), cell_alloc c1 (.cells #[.pointer (some ⟨m0, 0, none⟩), .pointer (some ⟨m1, 0, none⟩), .int .i64 (W : Int), .int .i64 (Sp : Int), .slice none 0 0, .slice none 0 0, .slice none 0 0, .slice none 0 0, .slice none 0 0, .slice none 0 0, .slice none 0 0, .slice none 0 0] 45), cell_alloc c2 (.cells #[.pointer (some ⟨m0, 0, none⟩), .pointer (some ⟨m1, 0, none⟩), .int .i64 (W : Int), .int .i64 (Sp : Int), .slice none 0 0, .slice none 0 0, .slice none 0 0, .slice none 0 0, .slice none 0 0, .slice none 0 0, .slice none 0 0, .slice none 0 0] 45), cell_alloc c3 (.cells #[.pointer (some ⟨m0, 0, none⟩), .pointer (some ⟨m1, 0, none⟩), .int .i64 (W : Int), .int .i64 (Sp : Int), .slice none 0 0, .slice none 0 0, .slice none 0 0, .slice none 0 0, .slice none 0 0, .slice none 0 0, .slice none 0 0, .slice none 0 0] 45)⟩
  clear c0 c1 c2 c3
  go_region_held3 (fun V : World => V.cell? ⟨wb, 0, none⟩ = some (.pointer (some ⟨m0, 0, none⟩)) ∧ V.cell? ⟨wb, 1, none⟩ = some (.pointer (some ⟨m1, 0, none⟩)) ∧ V.cell? ⟨wb, 2, none⟩ = some (.int .i64 (W : Int)) ∧ V.cell? ⟨wb, 3, none⟩ = some (.int .i64 (Sp : Int)))
    (first | with_reducible exact hSd | with_reducible exact hSe)
    (fail)
  clear hSd hSe
  obtain ⟨w2, hw2⟩ : ∃ w2, w2 = (w1.alloc (.cells #[.pointer (some ⟨m0, 0, none⟩), .pointer (some ⟨m1, 0, none⟩), .int .i64 (W : Int), .int .i64 (Sp : Int), .slice none 0 0, .slice none 0 0, .slice none 0 0, .slice none 0 0, .slice none 0 0, .slice none 0 0, .slice none 0 0, .slice none 0 0] 45)).drew := ⟨_, rfl⟩
  rw [← hw2]
  obtain ⟨nb, hnb⟩ : ∃ nb, nb = w1.heap.size := ⟨_, rfl⟩
  rw [← hnb]
  obtain ⟨a0, ha0⟩ : ∃ a0, a0 = w2.heap.size := ⟨_, rfl⟩
  have HF0 : Hid (FrRel w0 w0.heap.size a0 nb W Sp m0 m1 X0 X1 0 w2) := by
    have e1 : St (fun _ => False) w1 w2 := by
      rw [hw2]
      exact ((St.refl _ w1).alloc _).drew
    refine ⟨HST1.out.trans e1, by omega, ?_, .inl ⟨rfl, HOL.out.1.far e1 (fun e => e) (fun e => e), HOL.out.2.1.far e1 (fun e => e) (fun e => e)⟩⟩
    rw [hw2, hnb]
    exact (Blk.new w1 45 #[.pointer (some ⟨m0, 0, none⟩), .pointer (some ⟨m1, 0, none⟩), .int .i64 (W : Int), .int .i64 (Sp : Int), .slice none 0 0, .slice none 0 0, .slice none 0 0, .slice none 0 0, .slice none 0 0, .slice none 0 0, .slice none 0 0, .slice none 0 0]).drew
  have HLT : Hid (m0 < nb ∧ m1 < nb ∧ nb < a0 ∧ w0.heap.size ≤ m0 ∧ w0.heap.size ≤ m1 ∧ m0 ≠ m1) := by
    have q1 := HOL.out.1.mux.1.lt
    have q2 := HOL.out.2.1.mux.1.lt
    have q3 := HF0.out.2.2.1.lt
    exact ⟨by omega, by omega, by omega, HOL.out.1.b0, HOL.out.2.1.b0, HOL.out.2.2.1⟩
  have HPB : Hid (X1.pb ≠ m0 ∧ X0.pb ≠ m1) := HOL.out.2.2.2
  clear hw2 hnb ha0 HOL HST1
  go_wp2_with fail
  go_loopw [5] (fun i wr => ∃ k : Nat, k ≤ 2 ∧ i = .int .i64 k ∧ Hid (FrRel w0 w0.heap.size a0 nb W Sp m0 m1 X0 X1 k wr)) (fun i _ => 2 - (intOf i).toNat)
  case atStart => exact ⟨0, by omega, rfl, HF0⟩
  case round =>
    obtain ⟨k, hk, rfl, hrel⟩ := hrel
    obtain ⟨hrs, hra, hbw, hcase⟩ := hrel.out
    clear HF0 hrel
    rcases hcase with ⟨rfl, ho0, ho1⟩ | ⟨rfl, hn0, ho1⟩ | ⟨rfl, a1, ha1, ha2, hn0, hn1⟩
    · clear hk
      have hbw' := hbw
      unfold headC at hbw'
      obtain ⟨c0, c1, c2, c3, _⟩ := m12 hbw'
      have hSd : (fun V : World => V.cell? ⟨nb, 0, none⟩ = some (.pointer (some ⟨m0, 0, none⟩)) ∧ V.cell? ⟨nb, 2, none⟩ = some (.int .i64 (W : Int)) ∧ V.cell? ⟨nb, 3, none⟩ = some (.int .i64 (Sp : Int))) wr.drew := ⟨c0, c2, c3⟩
      have HR0 := hide (And.intro hbw (And.intro ho0 ho1))
      have HRS := hide hrs
      have HRA := hide hra
      clear hbw hbw' c0 c1 c2 c3 ho0 ho1 hrs hra
      have w11 : IntKind.i64.wrap (1 - 0) = 1 := by decide
      go_wp2_with fail
      go_region_held3 (fun V : World => V.cell? ⟨nb, 0, none⟩ = some (.pointer (some ⟨m0, 0, none⟩)) ∧ V.cell? ⟨nb, 2, none⟩ = some (.int .i64 (W : Int)) ∧ V.cell? ⟨nb, 3, none⟩ = some (.int .i64 (Sp : Int)))
        (first | with_reducible exact hSd | with_reducible exact hS3 | with_reducible exact hS4 | with_reducible exact hS6 | with_reducible exact hS7 | with_reducible exact hS8)
        (first
          | (go_at_call 27; refine (tag_any _).mono ?_; rintro e w3 ⟨rfl, hs3⟩; have hS3 : (fun V : World => V.cell? ⟨nb, 0, none⟩ = some (.pointer (some ⟨m0, 0, none⟩)) ∧ V.cell? ⟨nb, 2, none⟩ = some (.int .i64 (W : Int)) ∧ V.cell? ⟨nb, 3, none⟩ = some (.int .i64 (Sp : Int))) w3 := ⟨hs3.only.cell hSd.1 (fun e => e), hs3.only.cell hSd.2.1 (fun e => e), hs3.only.cell hSd.2.2 (fun e => e)⟩; have hS4 : (fun V : World => V.cell? ⟨nb, 0, none⟩ = some (.pointer (some ⟨m0, 0, none⟩)) ∧ V.cell? ⟨nb, 2, none⟩ = some (.int .i64 (W : Int)) ∧ V.cell? ⟨nb, 3, none⟩ = some (.int .i64 (Sp : Int))) (w3.alloc (.cells #[.int .i64 5] 3)) := ⟨cell_alloc hS3.1 _, cell_alloc hS3.2.1 _, cell_alloc hS3.2.2 _⟩; have HQ4 : Hid (St (fun _ => False) wr (w3.alloc (.cells #[.int .i64 5] 3))) := (((St.refl (fun _ => False) wr).drew.trans hs3).alloc _); have HO4 := hide (HR0.out.2.1.far HQ4.out (fun e => e) (fun e => e)); have HPG : Hid (w3.heap.size ≠ m0) := (by have q1 := HR0.out.2.1.mux.1.lt; have q2 := hs3.size; have q3 : wr.drew.heap.size = wr.heap.size := rfl; show _ ≠ _; omega); have HRST := hide (HO4.out.reset (by omega) (p := 5) ((Blk.new w3 3 #[.int .i64 5]).cell 0) rfl HPG.out); clear hs3)
          | (go_at_call 21; refine (pid1 _).mono ?_; rintro e w' ⟨rfl, rfl⟩)
          | (go_at_call 31; refine HRST.out.mono ?_; rintro e w6 ⟨rfl, hs6, hn6⟩; have hnm : nb ≠ m0 := (by have q1 := HLT.out; omega); have hS6 : (fun V : World => V.cell? ⟨nb, 0, none⟩ = some (.pointer (some ⟨m0, 0, none⟩)) ∧ V.cell? ⟨nb, 2, none⟩ = some (.int .i64 (W : Int)) ∧ V.cell? ⟨nb, 3, none⟩ = some (.int .i64 (Sp : Int))) w6 := ⟨hs6.only.cell hS4.1 hnm, hs6.only.cell hS4.2.1 hnm, hs6.only.cell hS4.2.2 hnm⟩; have HS6 := hide hs6; have HN6 := hide hn6; have hfr6 := hide (((HR0.out.1.st HQ4.out (fun e => e)).st hs6 hnm)); clear hs6 hn6)
          | (go_at_call 15; refine (num_any _ _).mono ?_; rintro e w' ⟨rfl, rfl⟩)
          | (go_at_call 32; refine (HN6.out.sent HW5.out.1.2 (p := 5) rfl).mono ?_; rintro e w7 ⟨rfl, hw7⟩; have hS7 : (fun V : World => V.cell? ⟨nb, 0, none⟩ = some (.pointer (some ⟨m0, 0, none⟩)) ∧ V.cell? ⟨nb, 2, none⟩ = some (.int .i64 (W : Int)) ∧ V.cell? ⟨nb, 3, none⟩ = some (.int .i64 (Sp : Int))) w7 := (by obtain ⟨n7, rfl⟩ := hw7; exact hS6); have HQ7 : Hid (St (fun _ => False) w6 w7) := (by obtain ⟨n7, rfl⟩ := hw7; exact (St.refl _ _).drewN n7); have HN7 := hide (HN6.out.quiet HQ7.out); clear hw7)
          | (go_at_call 30; refine (HN7.out.got HW5.out.1.2 (p := 5) rfl).mono ?_; rintro e w' ⟨rfl, rfl⟩)
          | (go_at_call 24; refine (HN7.out.room HW5.out.1.2 (p := 5) rfl).mono ?_; rintro e w8 ⟨rfl, hw8⟩; have hS8 : (fun V : World => V.cell? ⟨nb, 0, none⟩ = some (.pointer (some ⟨m0, 0, none⟩)) ∧ V.cell? ⟨nb, 2, none⟩ = some (.int .i64 (W : Int)) ∧ V.cell? ⟨nb, 3, none⟩ = some (.int .i64 (Sp : Int))) w8 := (by obtain ⟨n8, rfl⟩ := hw8; exact hS7); have HQ8 : Hid (St (fun _ => False) w7 w8) := (by obtain ⟨n8, rfl⟩ := hw8; exact (St.refl _ _).drewN n8); have HN8 := hide (HN7.out.quiet HQ8.out); clear hw8))
      have hk8 := hS8.1
      have HSS := hide (And.intro hS4 (And.intro hS6 hS7))
      have HFR8 := hide (hfr6.out.st (HQ7.out.trans HQ8.out) (fun e => e))
      clear hSd hS3 hS4 hS6 hS7 hS8
      obtain ⟨w9, hw9⟩ : ∃ w9, w9 = w8 := ⟨_, rfl⟩
      rw [← hw9] at hk8 HFR8 HN8 ⊢
      have HW9 := hide hw9
      clear hw9
      have kd : w9.drew.cell? ⟨nb, 0, none⟩ = some (.pointer (some ⟨m0, 0, none⟩)) := hk8
      have kbd : (w9.alloc (.cells #[.int .i64 0, .int .i64 0, .int .i64 0, .int .i64 0, .int .i64 0] 60)).drew.cell? ⟨nb, 0, none⟩ = some (.pointer (some ⟨m0, 0, none⟩)) := cell_alloc kd _
      have hAA : St (fun _ => False) w9 w9.drew := (St.refl _ w9).drew
      have hBB : St (fun _ => False) w9 (w9.alloc (.cells #[.int .i64 0, .int .i64 0, .int .i64 0, .int .i64 0, .int .i64 0] 60)).drew := ((St.refl _ w9).alloc _).drew
      have hwn : nb ≠ w9.heap.size := Nat.ne_of_lt HFR8.out.lt
      have HOW : ∀ V, St (fun _ => False) w9 V → Hid (Calls Try.prog 33 #[.pointer (some ⟨m0, 0, none⟩), .int .i64 5] V fun e w' => e = .returned (.tuple #[.agg #[.int .i64 0, .int .i64 0, .int .i64 0, .int .i64 0, .int .i64 0], .bool false]) ∧ St (fun _ => False) V w') := fun V hV =>
        (HN8.out.quiet hV).owed (p := 5) rfl
      go_upto_region 10 with fail
      go_cut [6, 7] (fun s5 s6 wx => OweZ w9 s5 s6 wx)
      case first =>
        go_region_held3 (fun V : World => V.cell? ⟨nb, 0, none⟩ = some (.pointer (some ⟨m0, 0, none⟩)))
          (first | with_reducible exact kd | with_reducible exact kbd | with_reducible exact ka | with_reducible exact cell_alloc ka _ | with_reducible exact cell_set hwn (cell_set hwn (cell_set hwn (cell_set hwn (cell_set hwn ka)))))
          (first
            | ((go_at_call 21; refine (pid1 _).mono ?_; rintro e w' ⟨rfl, rfl⟩))
            | ((go_at_call 33; first
              | ((with_reducible refine (HOW w9.drew hAA).out.mono ?_); rintro e w1 ⟨rfl, hs1⟩; have ka := hs1.only.cell kd (fun e => e); have HSA := hide hs1; clear hs1)
              | ((with_reducible refine (HOW _ hBB).out.mono ?_); rintro e w1 ⟨rfl, hs1⟩; have ka := hs1.only.cell kbd (fun e => e); have hbb := (Blk.drew (Blk.new w9 60 #[.int .i64 0, .int .i64 0, .int .i64 0, .int .i64 0, .int .i64 0])).st hs1 (fun e => e); obtain ⟨q0, q1, q2, q3, q4⟩ := m5 hbb; have f0 := hbb.frozen 0; have f1 := hbb.frozen 1; have f2 := hbb.frozen 2; have f3 := hbb.frozen 3; have f4 := hbb.frozen 4; have HSB := hide hs1; clear hs1 hbb))))
        all_goals
          go_wp2_with fail
          go_meet
          first | (with_reducible exact OweZ.late HSA.out) | (with_reducible exact OweZ.early HSB.out)
      case rest =>
        obtain ⟨b2, rfl, rfl, hbz, hstz⟩ := hcut
        have HSTZ := hide hstz
        have HNZ := hide (HN8.out.quiet hstz)
        have hkz : wc.cell? ⟨nb, 0, none⟩ = some (.pointer (some ⟨m0, 0, none⟩)) := hstz.only.cell hk8 (fun e => e)
        obtain ⟨wz, hwz⟩ : ∃ wz, wz = wc := ⟨_, rfl⟩
        rw [← hwz] at HSTZ HNZ hkz ⊢
        have kz : wz.drew.cell? ⟨nb, 0, none⟩ = some (.pointer (some ⟨m0, 0, none⟩)) := hkz
        have HFRA : ∀ V, St (fun _ => False) wz V → Hid (Calls Try.prog 34 #[.pointer (some ⟨m0, 0, none⟩), .int .i64 5] V fun e w' => ∃ A c, e = .returned (.slice A 0 c) ∧ St (fun _ => False) V w') := fun V hV =>
          (HNZ.out.quiet hV).frames HW5.out.1.2 (p := 5) rfl
        clear hwz hbz hstz hkz hk8 kd kbd hAA hBB hwn HOW
        go_wp2_with fail
        go_region_held3 (fun V : World => V.cell? ⟨nb, 0, none⟩ = some (.pointer (some ⟨m0, 0, none⟩)))
          (first | with_reducible exact kz | with_reducible exact ky)
          (first
            | (go_at_call 21; refine (pid1 _).mono ?_; rintro e w' ⟨rfl, rfl⟩)
            | (go_at_call 34; refine (HFRA _ (St.refl _ wz).drew).out.mono ?_; rintro e wy ⟨Ay, cy, rfl, hsy⟩; have ky := hsy.only.cell kz (fun e => e); have HSY := hide hsy; clear hsy))
        have HREL : Hid (FrRel w0 w0.heap.size a0 nb W Sp m0 m1 X0 X1 1 wy) := by
          have e1 := HW9.out
          have e2 := HSTZ.out
          rw [e1] at e2
          have hst : St (fun _ => False) w6 wy := ((HQ7.out.trans HQ8.out).trans e2).trans ((St.refl _ wz).drew.trans HSY.out)
          obtain ⟨z1, z2, z3, z4, z5, z6⟩ := HLT.out
          obtain ⟨z7, z8⟩ := HPB.out
          have hall : St (fun _ => False) w0 wy := (HRS.out.trans HQ4.out |>.trans' HS6.out fun q hq hh => by omega).trans hst
          have g4 := HQ4.out.size
          have g6 := HS6.out.size
          have gy := hst.size
          have ga := HRA.out
          refine ⟨hall, by omega, hfr6.out.st hst (fun e => e), ?_⟩
          refine .inr (.inl ⟨rfl, ((HN6.out.quiet hst).upper gy).lower (by omega), ((HR0.out.2.2.far HQ4.out (fun e => e) (fun e => e)).far HS6.out (fun e => by omega) (fun e => by omega)).far hst (fun e => e) (fun e => e)⟩)
        go_wp2
        go_roundw
        case rel => first | exact ⟨1, by omega, by go_num, HREL⟩ | ((repeat apply Exists.intro); exact ⟨⟨1, by omega, by go_num, HREL⟩, rfl⟩)
        case measure => simp [intOf]
    · clear hk
      have hbw' := hbw
      unfold headC at hbw'
      obtain ⟨c0, c1, c2, c3, _⟩ := m12 hbw'
      have hSd : (fun V : World => V.cell? ⟨nb, 1, none⟩ = some (.pointer (some ⟨m1, 0, none⟩)) ∧ V.cell? ⟨nb, 2, none⟩ = some (.int .i64 (W : Int)) ∧ V.cell? ⟨nb, 3, none⟩ = some (.int .i64 (Sp : Int))) wr.drew := ⟨c1, c2, c3⟩
      have HR0 := hide (And.intro hbw (And.intro hn0 ho1))
      have HRS := hide hrs
      have HRA := hide hra
      clear hbw hbw' c0 c1 c2 c3 hn0 ho1 hrs hra
      have w11 : IntKind.i64.wrap (1 - 1) = 0 := by decide
      go_wp2_with fail
      go_region_held3 (fun V : World => V.cell? ⟨nb, 1, none⟩ = some (.pointer (some ⟨m1, 0, none⟩)) ∧ V.cell? ⟨nb, 2, none⟩ = some (.int .i64 (W : Int)) ∧ V.cell? ⟨nb, 3, none⟩ = some (.int .i64 (Sp : Int)))
        (first | with_reducible exact hSd | with_reducible exact hS3 | with_reducible exact hS4 | with_reducible exact hS6 | with_reducible exact hS7 | with_reducible exact hS8)
        (first
          | (go_at_call 27; refine (tag_any _).mono ?_; rintro e w3 ⟨rfl, hs3⟩; have hS3 : (fun V : World => V.cell? ⟨nb, 1, none⟩ = some (.pointer (some ⟨m1, 0, none⟩)) ∧ V.cell? ⟨nb, 2, none⟩ = some (.int .i64 (W : Int)) ∧ V.cell? ⟨nb, 3, none⟩ = some (.int .i64 (Sp : Int))) w3 := ⟨hs3.only.cell hSd.1 (fun e => e), hs3.only.cell hSd.2.1 (fun e => e), hs3.only.cell hSd.2.2 (fun e => e)⟩; have hS4 : (fun V : World => V.cell? ⟨nb, 1, none⟩ = some (.pointer (some ⟨m1, 0, none⟩)) ∧ V.cell? ⟨nb, 2, none⟩ = some (.int .i64 (W : Int)) ∧ V.cell? ⟨nb, 3, none⟩ = some (.int .i64 (Sp : Int))) (w3.alloc (.cells #[.int .i64 2] 3)) := ⟨cell_alloc hS3.1 _, cell_alloc hS3.2.1 _, cell_alloc hS3.2.2 _⟩; have HQ4 : Hid (St (fun _ => False) wr (w3.alloc (.cells #[.int .i64 2] 3))) := (((St.refl (fun _ => False) wr).drew.trans hs3).alloc _); have HO4 := hide (HR0.out.2.2.far HQ4.out (fun e => e) (fun e => e)); have HPG : Hid (w3.heap.size ≠ m1) := (by have q1 := HR0.out.2.2.mux.1.lt; have q2 := hs3.size; have q3 : wr.drew.heap.size = wr.heap.size := rfl; show _ ≠ _; omega); have HRST := hide (HO4.out.reset (by omega) (p := 2) ((Blk.new w3 3 #[.int .i64 2]).cell 0) rfl HPG.out); clear hs3)
          | (go_at_call 21; refine (pid0 _).mono ?_; rintro e w' ⟨rfl, rfl⟩)
          | (go_at_call 31; refine HRST.out.mono ?_; rintro e w6 ⟨rfl, hs6, hn6⟩; have hnm : nb ≠ m1 := (by have q1 := HLT.out; omega); have hS6 : (fun V : World => V.cell? ⟨nb, 1, none⟩ = some (.pointer (some ⟨m1, 0, none⟩)) ∧ V.cell? ⟨nb, 2, none⟩ = some (.int .i64 (W : Int)) ∧ V.cell? ⟨nb, 3, none⟩ = some (.int .i64 (Sp : Int))) w6 := ⟨hs6.only.cell hS4.1 hnm, hs6.only.cell hS4.2.1 hnm, hs6.only.cell hS4.2.2 hnm⟩; have HS6 := hide hs6; have HN6 := hide hn6; have hfr6 := hide (((HR0.out.1.st HQ4.out (fun e => e)).st hs6 hnm)); clear hs6 hn6)
          | (go_at_call 15; refine (num_any _ _).mono ?_; rintro e w' ⟨rfl, rfl⟩)
          | (go_at_call 32; refine (HN6.out.sent HW5.out.1.2 (p := 2) rfl).mono ?_; rintro e w7 ⟨rfl, hw7⟩; have hS7 : (fun V : World => V.cell? ⟨nb, 1, none⟩ = some (.pointer (some ⟨m1, 0, none⟩)) ∧ V.cell? ⟨nb, 2, none⟩ = some (.int .i64 (W : Int)) ∧ V.cell? ⟨nb, 3, none⟩ = some (.int .i64 (Sp : Int))) w7 := (by obtain ⟨n7, rfl⟩ := hw7; exact hS6); have HQ7 : Hid (St (fun _ => False) w6 w7) := (by obtain ⟨n7, rfl⟩ := hw7; exact (St.refl _ _).drewN n7); have HN7 := hide (HN6.out.quiet HQ7.out); clear hw7)
          | (go_at_call 30; refine (HN7.out.got HW5.out.1.2 (p := 2) rfl).mono ?_; rintro e w' ⟨rfl, rfl⟩)
          | (go_at_call 24; refine (HN7.out.room HW5.out.1.2 (p := 2) rfl).mono ?_; rintro e w8 ⟨rfl, hw8⟩; have hS8 : (fun V : World => V.cell? ⟨nb, 1, none⟩ = some (.pointer (some ⟨m1, 0, none⟩)) ∧ V.cell? ⟨nb, 2, none⟩ = some (.int .i64 (W : Int)) ∧ V.cell? ⟨nb, 3, none⟩ = some (.int .i64 (Sp : Int))) w8 := (by obtain ⟨n8, rfl⟩ := hw8; exact hS7); have HQ8 : Hid (St (fun _ => False) w7 w8) := (by obtain ⟨n8, rfl⟩ := hw8; exact (St.refl _ _).drewN n8); have HN8 := hide (HN7.out.quiet HQ8.out); clear hw8))
      have hk8 := hS8.1
      have HSS := hide (And.intro hS4 (And.intro hS6 hS7))
      have HFR8 := hide (hfr6.out.st (HQ7.out.trans HQ8.out) (fun e => e))
      clear hSd hS3 hS4 hS6 hS7 hS8
      obtain ⟨w9, hw9⟩ : ∃ w9, w9 = w8 := ⟨_, rfl⟩
      rw [← hw9] at hk8 HFR8 HN8 ⊢
      have HW9 := hide hw9
      clear hw9
      have kd : w9.drew.cell? ⟨nb, 1, none⟩ = some (.pointer (some ⟨m1, 0, none⟩)) := hk8
      have kbd : (w9.alloc (.cells #[.int .i64 0, .int .i64 0, .int .i64 0, .int .i64 0, .int .i64 0] 60)).drew.cell? ⟨nb, 1, none⟩ = some (.pointer (some ⟨m1, 0, none⟩)) := cell_alloc kd _
      have hAA : St (fun _ => False) w9 w9.drew := (St.refl _ w9).drew
      have hBB : St (fun _ => False) w9 (w9.alloc (.cells #[.int .i64 0, .int .i64 0, .int .i64 0, .int .i64 0, .int .i64 0] 60)).drew := ((St.refl _ w9).alloc _).drew
      have hwn : nb ≠ w9.heap.size := Nat.ne_of_lt HFR8.out.lt
      have HOW : ∀ V, St (fun _ => False) w9 V → Hid (Calls Try.prog 33 #[.pointer (some ⟨m1, 0, none⟩), .int .i64 2] V fun e w' => e = .returned (.tuple #[.agg #[.int .i64 0, .int .i64 0, .int .i64 0, .int .i64 0, .int .i64 0], .bool false]) ∧ St (fun _ => False) V w') := fun V hV =>
        (HN8.out.quiet hV).owed (p := 2) rfl
      go_upto_region 10 with fail
      go_cut [6, 7] (fun s5 s6 wx => OweZ w9 s5 s6 wx)
      case first =>
        go_region_held3 (fun V : World => V.cell? ⟨nb, 1, none⟩ = some (.pointer (some ⟨m1, 0, none⟩)))
          (first | with_reducible exact kd | with_reducible exact kbd | with_reducible exact ka | with_reducible exact cell_alloc ka _ | with_reducible exact cell_set hwn (cell_set hwn (cell_set hwn (cell_set hwn (cell_set hwn ka)))))
          (first
            | ((go_at_call 21; refine (pid0 _).mono ?_; rintro e w' ⟨rfl, rfl⟩))
            | ((go_at_call 33; first
              | ((with_reducible refine (HOW w9.drew hAA).out.mono ?_); rintro e w1 ⟨rfl, hs1⟩; have ka := hs1.only.cell kd (fun e => e); have HSA := hide hs1; clear hs1)
              | ((with_reducible refine (HOW _ hBB).out.mono ?_); rintro e w1 ⟨rfl, hs1⟩; have ka := hs1.only.cell kbd (fun e => e); have hbb := (Blk.drew (Blk.new w9 60 #[.int .i64 0, .int .i64 0, .int .i64 0, .int .i64 0, .int .i64 0])).st hs1 (fun e => e); obtain ⟨q0, q1, q2, q3, q4⟩ := m5 hbb; have f0 := hbb.frozen 0; have f1 := hbb.frozen 1; have f2 := hbb.frozen 2; have f3 := hbb.frozen 3; have f4 := hbb.frozen 4; have HSB := hide hs1; clear hs1 hbb))))
        all_goals
          go_wp2_with fail
          go_meet
          first | (with_reducible exact OweZ.late HSA.out) | (with_reducible exact OweZ.early HSB.out)
      case rest =>
        obtain ⟨b2, rfl, rfl, hbz, hstz⟩ := hcut
        have HSTZ := hide hstz
        have HNZ := hide (HN8.out.quiet hstz)
        have hkz : wc.cell? ⟨nb, 1, none⟩ = some (.pointer (some ⟨m1, 0, none⟩)) := hstz.only.cell hk8 (fun e => e)
        obtain ⟨wz, hwz⟩ : ∃ wz, wz = wc := ⟨_, rfl⟩
        rw [← hwz] at HSTZ HNZ hkz ⊢
        have kz : wz.drew.cell? ⟨nb, 1, none⟩ = some (.pointer (some ⟨m1, 0, none⟩)) := hkz
        have HFRA : ∀ V, St (fun _ => False) wz V → Hid (Calls Try.prog 34 #[.pointer (some ⟨m1, 0, none⟩), .int .i64 2] V fun e w' => ∃ A c, e = .returned (.slice A 0 c) ∧ St (fun _ => False) V w') := fun V hV =>
          (HNZ.out.quiet hV).frames HW5.out.1.2 (p := 2) rfl
        clear hwz hbz hstz hkz hk8 kd kbd hAA hBB hwn HOW
        go_wp2_with fail
        go_region_held3 (fun V : World => V.cell? ⟨nb, 1, none⟩ = some (.pointer (some ⟨m1, 0, none⟩)))
          (first | with_reducible exact kz | with_reducible exact ky)
          (first
            | (go_at_call 21; refine (pid0 _).mono ?_; rintro e w' ⟨rfl, rfl⟩)
            | (go_at_call 34; refine (HFRA _ (St.refl _ wz).drew).out.mono ?_; rintro e wy ⟨Ay, cy, rfl, hsy⟩; have ky := hsy.only.cell kz (fun e => e); have HSY := hide hsy; clear hsy))
        have HREL : Hid (FrRel w0 w0.heap.size a0 nb W Sp m0 m1 X0 X1 2 wy) := by
          have e1 := HW9.out
          have e2 := HSTZ.out
          rw [e1] at e2
          have hst : St (fun _ => False) w6 wy := ((HQ7.out.trans HQ8.out).trans e2).trans ((St.refl _ wz).drew.trans HSY.out)
          obtain ⟨z1, z2, z3, z4, z5, z6⟩ := HLT.out
          obtain ⟨z7, z8⟩ := HPB.out
          have hall : St (fun _ => False) w0 wy := (HRS.out.trans HQ4.out |>.trans' HS6.out fun q hq hh => by omega).trans hst
          have g4 := HQ4.out.size
          have g6 := HS6.out.size
          have gy := hst.size
          have ga := HRA.out
          refine ⟨hall, by omega, hfr6.out.st hst (fun e => e), ?_⟩
          refine .inr (.inr ⟨rfl, (w3.alloc (.cells #[.int .i64 2] 3)).heap.size, by omega, by omega, ((((HR0.out.2.1.upper g4).quiet HQ4.out).far HS6.out fun q hq => ⟨.inl (by omega), by omega⟩).quiet hst), (HN6.out.quiet hst).upper gy⟩)
        go_wp2
        go_roundw
        case rel => first | exact ⟨2, by omega, by go_num, HREL⟩ | ((repeat apply Exists.intro); exact ⟨⟨2, by omega, by go_num, HREL⟩, rfl⟩)
        case measure => simp [intOf]
    · clear hk
      have HM : Hid (Made w0 nb W Sp (wr0 W) wr) := by
        obtain ⟨q1, q2, q3, q4, q5, q6⟩ := HLT.out
        obtain ⟨o, g, e1, e2⟩ := wire_again hbw (B := w0.heap.size) (by omega) q4 q5 q1 q2 q3 ha1 ha2 hn0 hn1
        exact ⟨o, g, e1, hrs, e2⟩
      have HI : ∀ k, Hid (Inv W Sp k (runS W Sp (l.take k))) := fun k => Inv.run HW5.out.1.1 HW5.out.1.2 l k
      obtain ⟨ln, hln⟩ : ∃ ln, ln = l.length := ⟨_, rfl⟩
      have hlb := HAA.out.2
      rw [← hln] at hlb HB0
      have HLN := hide hln
      have HRS := hide hrs
      clear hln hbw hn0 hn1 hra ha1 ha2 hrs
      go_wp2_with fail
      go_loopw [8] (fun i V => ∃ k : Nat, k ≤ ln ∧ k ≤ 200 ∧ i = .int .i64 k ∧ Hid (Made w0 nb W Sp (runS W Sp (l.take k)) V)) (fun i _ => ln - (intOf i).toNat)
      case atStart => exact ⟨0, Nat.zero_le _, Nat.zero_le _, rfl, by rw [show runS W Sp (l.take 0) = wr0 W by simp [runS]]; exact HM⟩
      case round =>
        obtain ⟨k, hk, hk4, rfl, hm⟩ := hrel
        have hb4 := HB0.out.st hm.out.st' (fun e => e)
        have b3 := hb4.cell 3
        clear hb4
        by_cases hlt : k < ln
        · by_cases hl4 : k < 200
          · obtain ⟨x, b, off, hx, rfl, hb, c0, c1, c2, c3, hg⟩ := HAA.out.1.at_ (k := k) (by have := HLN.out; omega)
            have hst := hm.out.st'
            have c0 := hst.only.cell c0 (fun e => e)
            have c1 := hst.only.cell c1 (fun e => e)
            have c2 := hst.only.cell c2 (fun e => e)
            have c3 := hst.only.cell c3 (fun e => e)
            have HACT := hide (hm.out.act (HI k).out (by omega) HW5.out.1.2 hg)
            have hstep := runS_snoc W Sp l k x hx
            rw [← hstep] at HACT
            have HSO : ∀ V, Made w0 nb W Sp (runS W Sp (l.take (k + 1))) V → Hid (Calls Try.prog 35 #[.pointer (some ⟨nb, 0, none⟩)] V fun e w' => e = .returned (.bool true) ∧ Made w0 nb W Sp (runS W Sp (l.take (k + 1))) w') := fun V hV => hV.sound (HI (k + 1)).out (by omega)
            have i0 : (0 : Int) ≤ (k : Int) := by omega
            have i1 : (k : Int) < (ln : Int) := by omega
            clear hx hg hst hstep hm hb
            go_wp2_with (first | (go_at_call 26; refine HACT.out.mono ?_; rintro e w2 ⟨rfl, hm2⟩; have HM2 := hide hm2; clear hm2) | (go_at_call 35; refine (HSO w2 HM2.out).out.mono ?_; rintro e w3 ⟨rfl, hm3⟩; have HM3 := hide hm3; clear hm3))
            go_roundw
            case rel =>
              repeat apply Exists.intro
              refine And.intro ?_ rfl
              exact ⟨k + 1, by omega, by omega, by go_num, HM3⟩
            case measure => simp [intOf]; omega
          · obtain rfl : k = 200 := by omega
            go_wp2
            go_ret
            exact ⟨rfl, (HH0.out.trans hm.out.st').only.below (Nat.le_refl _) (fun _ _ e => e)⟩
        · obtain rfl : k = ln := by omega
          go_wp2
          go_ret
          exact ⟨rfl, (HH0.out.trans hm.out.st').only.below (Nat.le_refl _) (fun _ _ e => e)⟩
end Go.Proofs.Ytkkckinnhkpcmaa

