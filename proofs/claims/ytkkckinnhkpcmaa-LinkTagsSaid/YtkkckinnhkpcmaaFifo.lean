/-
  LinkFifo, the walk.
-/
import Derived.Test.YtkkckinnhkpcmaaTalk
set_option linter.unusedVariables false
set_option linter.unusedSimpArgs false
namespace Go.Proofs.Ytkkckinnhkpcmaa
open Go.RowKit Go.WideShapes Go.ChangeShapes Q

section
variable {w wr : World} {wb W Sp n : Nat} {x : Wr}
theorem Made.st {y : Wr} (h : Made w wb W Sp y wr) : St (fun _ => False) w wr := by
  obtain ⟨o, g, _, b, _⟩ := h
  exact b
/-- A piece that has just been laid is pushed. -/
theorem Made.pushLit (h : Made w wb W Sp x wr) (hI : Inv W Sp n x) (hn : n < 5000) {s : Nat} (hs : s < 2) (bs : List Int) (hb : bs.length ≤ 20) :
    Calls Try.prog 17 #[.pointer (some ⟨wb, 0, none⟩), .int .i64 (s : Int), .slice (some ⟨wr.heap.size, 0, none⟩) bs.length bs.length] (wr.alloc (.cells (byts bs).toArray 5)) fun e w' => e = .returned (.bool true) ∧ Made w wb W Sp (pushS Sp x s bs) w' := by
  obtain ⟨o, g, hA, hst, ho⟩ := h
  have hs1 : St (fun _ => False) wr (wr.alloc (.cells (byts bs).toArray 5)) := (St.refl _ wr).alloc _
  have hr := reads_blk (cs := byts bs) (Blk.new wr 5 (byts bs).toArray) (Nat.le_refl _)
  rw [byts_len, List.take_of_length_le (by rw [byts_len]; omega)] at hr
  refine ((hA.quiet hs1).push' hI hn hs hr (Nat.le_refl _) (by omega) fun _ ad e => ?_).mono fun e w' hh => ⟨hh.1, Made.step (x := x) (hst.trans hs1) ho hh.2⟩
  injection e with e
  rw [← e]
  exact hA.lim _ (Nat.le_refl _)
theorem Made.show_ (h : Made w wb W Sp x wr) (hI : Inv W Sp n x) (hn : n < 5000) (hW : W ≤ 5) {s : Nat} (hs : s < 2) : Calls Try.prog 18 #[.pointer (some ⟨wb, 0, none⟩), .int .i64 (s : Int)] wr fun e w' => e = .returned (.bool true) ∧ Made w wb W Sp (showS W x s) w' := by
  obtain ⟨o, g, hA, hst, ho⟩ := h
  exact (hA.show' hI hn hW hs).mono fun e w' hh => ⟨hh.1, Made.step (x := x) hst ho hh.2⟩
theorem Made.owe (h : Made w wb W Sp x wr) (hI : Inv W Sp n x) (hn : n < 5000) {s : Nat} (hs : s < 2) : Calls Try.prog 42 #[.pointer (some ⟨wb, 0, none⟩), .int .i64 (s : Int)] wr fun e w' => e = .returned (.bool true) ∧ Made w wb W Sp (oweS x s) w' := by
  obtain ⟨o, g, hA, hst, ho⟩ := h
  exact (hA.owe' hI hn hs).mono fun e w' hh => ⟨hh.1, Made.step (x := x) hst ho hh.2⟩
theorem Made.carry (h : Made w wb W Sp x wr) (hI : Inv W Sp n x) (hn : n < 5000) {s : Nat} (hs : s < 2) {k : Int} (h0 : -9223372036854775808 ≤ k) (h1 : k ≤ 9223372036854775807) :
    Calls Try.prog 19 #[.pointer (some ⟨wb, 0, none⟩), .int .i64 (s : Int), .int .i64 k] wr fun e w' => e = .returned (.bool true) ∧ Made w wb W Sp (carryS x s (1 - s) k) w' := by
  obtain ⟨o, g, hA, hst, ho⟩ := h
  exact (hA.carry' hI hn hs h0 h1).mono fun e w' hh => ⟨hh.1, Made.step (x := x) hst ho hh.2⟩
theorem Made.answer (h : Made w wb W Sp x wr) (hI : Inv W Sp n x) (hn : n < 5000) {s : Nat} (hs : s < 2) {k : Int} (h0 : -9223372036854775808 ≤ k) (h1 : k ≤ 9223372036854775807) :
    Calls Try.prog 43 #[.pointer (some ⟨wb, 0, none⟩), .int .i64 (s : Int), .int .i64 k] wr fun e w' => e = .returned (.bool true) ∧ Made w wb W Sp (answerS x s (1 - s) k) w' := by
  obtain ⟨o, g, hA, hst, ho⟩ := h
  exact (hA.answer' hI hn hs h0 h1).mono fun e w' hh => ⟨hh.1, Made.step (x := x) hst ho hh.2⟩
/-- The slice of what came out at a side. -/
theorem Made.outAt (h : Made w wb W Sp x wr) {s : Nat} (hs : s < 2) : ∃ A c, wr.cell? ⟨wb, 6 + s, none⟩ = some (.slice A (x.O s).length c) ∧ (x.O s).length ≤ c := by
  obtain ⟨o, g, hA, hst, ho⟩ := h
  obtain ⟨A, c, vs, hv, _, _, hc⟩ := BRow.val (hA.row 1 s (by omega) hs)
  refine ⟨A, c, ?_, hc⟩
  rw [← hv]
  exact hA.cellR 1 s (by omega) hs
end
/-- What a piece's way from side 0 to side 1 leaves: it has come out. -/
theorem way_out {W Sp : Nat} (hW : 1 ≤ W) (hWS : W ≤ Sp) (bs : List Int) : ((carryS (showS W (pushS Sp (wr0 W) 0 bs) 0) 0 1 0).O 1).length = 1 := by
  have h0 : (((wr0 W).st 0).out.length < Sp) := by show 0 < Sp; omega
  have h1 := ((Inv.zero (Sp := Sp) hW) 0 1 rfl)
  obtain ⟨p, q, hh⟩ := h1
  have hp : p = 0 := by have := hh.af; simp [wr0, str0] at this; omega
  have hq : q = 0 := by have := hh.oLen; simp [wr0] at this; omega
  subst hp
  subst hq
  have h2 := hh.push (bodN bs) (bodN_len bs) h0
  have e1 : pushS Sp (wr0 W) 0 bs = { wr0 W with st := upd (wr0 W).st 0 { (wr0 W).st 0 with out := ((wr0 W).st 0).out ++ [bodN bs] }, P := upd (wr0 W).P 0 ((wr0 W).P 0 ++ [bodN bs]) } := if_pos h0
  have eF : (showS W (pushS Sp (wr0 W) 0 bs) 0).F 0 = [(1, bodN bs)] := by
    show upd (pushS Sp (wr0 W) 0 bs).F 0 ((pushS Sp (wr0 W) 0 bs).F 0 ++ shown W ((pushS Sp (wr0 W) 0 bs).st 0)) 0 = _
    rw [upd_same, e1]
    show [] ++ shown W (upd (wr0 W).st 0 _ 0) = _
    rw [upd_same]
    show [] ++ shown W ⟨1, [] ++ [bodN bs], 1, _, _⟩ = _
    have hmin : Min.min W 1 = 1 := by omega
    simp [shown, hmin]
  have hpk : pick ((showS W (pushS Sp (wr0 W) 0 bs) 0).F 0) 0 = some (1, bodN bs) := by
    rw [eF]
    rfl
  have e2 : carryS (showS W (pushS Sp (wr0 W) 0 bs) 0) 0 1 0 = carryF (showS W (pushS Sp (wr0 W) 0 bs) 0) 1 (1, bodN bs) := by
    unfold carryS
    rw [hpk]
  obtain ⟨q', _, h4, h5⟩ := h2.take_ (j := 0) (y := bodN bs) (by omega) (by simp [wr0])
  have h6 := h5.oLen
  have h7 := h5.qP
  have h8 := h4 (Nat.le_refl _)
  have e3 : (carryF (showS W (pushS Sp (wr0 W) 0 bs) 0) 1 (1, bodN bs)).O 1 = (wr0 W).O 1 ++ takeO ((wr0 W).st 1) 1 (bodN bs) := by
    show upd (showS W (pushS Sp (wr0 W) 0 bs) 0).O 1 ((showS W (pushS Sp (wr0 W) 0 bs) 0).O 1 ++ takeO ((showS W (pushS Sp (wr0 W) 0 bs) 0).st 1) 1 (bodN bs)) 1 = _
    rw [upd_same]
    show (pushS Sp (wr0 W) 0 bs).O 1 ++ takeO ((pushS Sp (wr0 W) 0 bs).st 1) 1 (bodN bs) = _
    rw [e1]
    rfl
  rw [e2, e3]
  simp only [Int.ofNat_zero, Int.zero_add] at h6
  rw [h6]
  have h9 : (wr0 W).P 0 ++ [bodN bs] = [bodN bs] := rfl
  rw [h9] at h7
  simp at h7
  omega

set_option maxRecDepth 100000 in
set_option maxHeartbeats 400000 in
theorem fifo_walk (wn rn s0 s1 s2 s3 s4 : Int) (A A2 A5 : Option Addr) (n2 n5 c c2 c5 : Nat) (l : List Ai) (w : World) (h0 : -9223372036854775808 ≤ wn) (h1 : wn ≤ 9223372036854775807) (h2 : -9223372036854775808 ≤ rn) (h3 : rn ≤ 9223372036854775807)
    (hA : ActsIn w A l) (hl : l.length ≤ 140737488351232) :
    Calls Try.prog 4 #[.agg #[.int .i64 wn, .int .i64 rn, .slice A2 n2 c2, .slice A l.length c, .int .i64 s0, .int .i64 s1, .int .i64 s2, .int .i64 s3, .int .i64 s4, .slice A5 n5 c5]] w fun e w' => e = .returned (.bool true) ∧ Below w.heap.size w w' := by
  have H0 : St (fun _ => False) w (w.alloc (.cells #[.int .i64 wn, .int .i64 rn, .slice A2 n2 c2, .slice A l.length c, .int .i64 s0, .int .i64 s1, .int .i64 s2, .int .i64 s3, .int .i64 s4, .slice A5 n5 c5] 30)) := (St.refl _ w).alloc _
  have B0 := Blk.new w 30 #[.int .i64 wn, .int .i64 rn, .slice A2 n2 c2, .slice A l.length c, .int .i64 s0, .int .i64 s1, .int .i64 s2, .int .i64 s3, .int .i64 s4, .slice A5 n5 c5]
  have hA0 := hA.st H0
  obtain ⟨W, hW⟩ : ∃ W, W = wndOf wn := ⟨_, rfl⟩
  obtain ⟨Sp, hSp⟩ : ∃ Sp, Sp = spcOf wn rn := ⟨_, rfl⟩
  have hwb := wnd_b wn
  have hsb := spc_b wn rn
  rw [← hW] at hwb hsb
  rw [← hSp] at hsb
  go_enter Try.func4, Try.ntmps4
  go_wp2_with fail
  obtain ⟨w0, hw0⟩ : ∃ w0, w0 = w.alloc (.cells #[.int .i64 wn, .int .i64 rn, .slice A2 n2 c2, .slice A l.length c, .int .i64 s0, .int .i64 s1, .int .i64 s2, .int .i64 s3, .int .i64 s4, .slice A5 n5 c5] 30) := ⟨_, rfl⟩
  rw [← hw0] at H0 B0 hA0 ⊢
  have HT1 : Hid (Calls Try.prog 16 #[.int .i64 wn, .int .i64 rn, .slice none 0 0] w0 (TalkP wn rn [] w0)) := talked_any wn rn none 0 [] w0 h0 h1 h2 h3 ⟨⟨by simp [acells], fun h => absurd h (by simp)⟩, fun x hx => by cases hx⟩ (by simp)
  have HT2 : ∀ V, St (fun _ => False) w0 V → Hid (Calls Try.prog 16 #[.int .i64 wn, .int .i64 rn, .slice A l.length c] V (TalkP wn rn l V)) := fun V hV => talked_any wn rn A c l V h0 h1 h2 h3 (hA0.st hV) hl
  have I0 := hide (Inv.zero (Sp := Sp) hwb.1)
  have I1 := hide (I0.out.push 0 (by omega) [4, 2])
  have I2 := hide (I1.out.show_ 0 (by omega) hwb.2)
  have HPU : ∀ w1 wb, Made w0 wb W Sp (wr0 W) w1 → Calls Try.prog 17 #[.pointer (some ⟨wb, 0, none⟩), .int .i64 0, .slice (some ⟨w1.heap.size, 0, none⟩) 2 2] (w1.alloc (.cells #[.int .u8 4, .int .u8 2] 5)) (fun e w' => e = .returned (.bool true) ∧ Made w0 wb W Sp (pushS Sp (wr0 W) 0 [4, 2]) w') := fun w1 wb hm => hm.pushLit I0.out (by omega) (s := 0) (by omega) [4, 2] (by simp)
  have HWAY := hide (way_out hwb.1 hsb.1 [4, 2])
  have HW5 := hide hwb
  have HWS := hide (And.intro hW hSp)
  have HH0 := hide H0
  have HB0 := hide B0
  clear hw0 hA hA0 H0 B0 h0 h1 h2 h3 hl hwb hsb hW hSp
  go_wp2_with (first
    | (go_at_call 17; have hpu := HPU w1 wb HM1.out; refine hpu.mono ?_; clear hpu; rintro e w2 ⟨rfl, hm2⟩; have HM2 := hide hm2; clear hm2)
    | (go_at_call 18; refine (HM2.out.show_ I1.out (by omega) HW5.out.2 (s := 0) (by omega)).mono ?_; rintro e w3 ⟨rfl, hm3⟩; have HM3 := hide hm3; clear hm3)
    | (go_at_call 19; refine (HM3.out.carry I2.out (by omega) (s := 0) (by omega) (k := 0) (by omega) (by omega)).mono ?_; rintro e w4 ⟨rfl, hm4⟩; obtain ⟨Ao, co, kO, hco⟩ := hm4.outAt (s := 1) (by omega); rw [HWAY.out] at kO hco; have HM4 := hide hm4.st; have hb4 := HB0.out.st HM4.out (fun e => e); have b0 := hb4.cell 0; have b1 := hb4.cell 1; have b3 := hb4.cell 3; have HT3 := HT2 w4 HM4.out; clear hm4 hb4)
    | (go_at_call 16; first | ((with_reducible refine HT1.out.mono ?_); rintro e w1 ⟨wb, rfl, hm1⟩; have HM1 : Hid (Made w0 wb W Sp (wr0 W) w1) := (by obtain ⟨q1, q2⟩ := HWS.out; rw [q1, q2]; exact hm1); clear hm1) | ((with_reducible refine HT3.out.mono ?_); rintro e w5 ⟨wb5, rfl, hm5⟩; have HM5 := hide hm5.st; clear hm5)))
  go_ret
  exact ⟨rfl, (HH0.out.trans (HM4.out.trans HM5.out)).only.below (Nat.le_refl _) (fun _ _ e => e)⟩
end Go.Proofs.Ytkkckinnhkpcmaa
