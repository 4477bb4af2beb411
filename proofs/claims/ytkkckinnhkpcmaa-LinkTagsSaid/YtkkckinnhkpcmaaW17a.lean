/-
  Contract of Wire.push at the side 0. (Printed for both sides by wip/tools/sides.py.)
-/
import Derived.Test.YtkkckinnhkpcmaaWbase
set_option linter.unusedVariables false
namespace Go.Proofs.Ytkkckinnhkpcmaa
open Go.RowKit Go.WideShapes Go.ChangeShapes Q
set_option maxRecDepth 100000 in
set_option maxHeartbeats 2000000 in
theorem wpush0 (w : World) (o : Nat → Nat) (wb W Sp n : Nat) (g : Gw) (x : Wr) (A : Option Addr) (c : Nat) (bs : List Int) (h : WireAt w o wb W Sp g x) (hI : Inv W Sp n x) (hn : n < 5000)
    (hb : Reads w w.heap.size 1 A bs.length (byts bs)) (hc : bs.length ≤ c) (hcc : c ≤ 140737488351232) (ho : 0 < bs.length → ∀ ad, A = some ad → o ad.block = 0) :
    Calls Try.prog 17 #[.pointer (some ⟨wb, 0, none⟩), .int .i64 0, .slice A bs.length c] w fun e w' => e = .returned (.bool true) ∧ WStep w o wb W Sp g (pushS Sp x 0 bs) w' := by
  have HB := hide hb
  have HW := hide h
  have HI := hide hI
  have HO := hide ho
  clear h hI hb ho
  go_enter Try.func17, Try.ntmps17
  go_upto_if 12 with (fail)
  go_cut [2] (fun s2 wx => BodC w o (bodM bs) s2 wx)
  case first =>
    by_cases h0 : bs.length = 0
    · have d0 : ((bs.length : Int) == 0) = true := by rw [beq_iff_eq]; omega
      go_wp2_with fail
      go_meet
      exact bodC_nil h0 HW.out.lim
    · have d0 : ((bs.length : Int) == 0) = false := by rw [beq_eq_false_iff_ne]; omega
      go_wp2_with fail
      go_meet
      exact bodC_same h0 HB.out hc hcc (HO.out (by omega))
  case rest =>
    obtain ⟨A1, c1, rfl, hr1, st1, hc1, hcc1, ho1⟩ := hcut
    have HO1 := hide ho1
    clear ho1
    have HR1 := hide hr1
    have ST1 := hide st1
    generalize hys : bodM bs = ys at *
    have HYS := hide hys
    clear hr1 st1 hys
    go_upto_if 16 with (fail)
    go_cut [2] (fun s2 wy => BodC w o (ys.take 20) s2 wy)
    case first =>
      by_cases h0 : 20 < ys.length
      · have hi : (20 : Int) ≤ (c1 : Int) := by omega
        have d0 : decide ((20 : Int) < (ys.length : Int)) = true := by rw [decide_eq_true_eq]; omega
        go_wp2_with fail
        go_meet
        exact bodC_cut h0 HR1.out ST1.out hc1 hcc1 HO1.out
      · have d0 : decide ((20 : Int) < (ys.length : Int)) = false := by rw [decide_eq_false_iff_not]; omega
        go_wp2_with fail
        go_meet
        exact bodC_all h0 HR1.out ST1.out hc1 hcc1 HO1.out
    case rest =>
      obtain ⟨A2, c2, rfl, hr2, st2, hc2, hcc2, ho2⟩ := hcut
      have HO2 := hide ho2
      clear ho2
      have hyb : ys.take 20 = bodN bs := by rw [bodN_of, HYS.out]
      rw [hyb] at hr2 hc2 ⊢
      have hbl := bodN_len bs
      have HYB := hide hyb
      generalize hbd : bodN bs = bd at *
      have HBD := hide hbd
      have HW2 := hide (HW.out.quiet st2)
      have HR2 := hide hr2
      have ST2 := hide st2
      have hnum := HW2.out.nums
      clear hyb hbd hr2 st2
      have k0 := HW2.out.cellM 0 (by omega)
      have HROOM := hide (HW2.out.room HI.out (by omega) (s := 0) (by omega) (p := 5) rfl)
      by_cases hfull : Sp ≤ (x.st 0).out.length
      · have hz : (Sp : Int) - ((x.st 0).out.length : Int) = 0 := by
          obtain ⟨p0, q0, hh⟩ := HI.out 0 1 (by omega)
          have := hh.room
          omega
        have HROOM0 : Hid (Calls Try.prog 24 #[.pointer (some ⟨g.m 0, 0, none⟩), .int .i64 5] wc fun r w' => r = .returned (.int .i64 0) ∧ ∃ m, w' = wc.drewN m) := by
          have hh := HROOM.out
          rw [hz] at hh
          exact hh
        clear hz
        go_wp2_with (first | (go_at_call 21; refine (pid1 _).mono ?_; rintro e w' ⟨rfl, rfl⟩) | (go_at_call 24; refine HROOM0.out.mono ?_; rintro e w' ⟨rfl, nr, rfl⟩))
        obtain ⟨w0, hw0⟩ : ∃ w0, w0 = wc.drewN nr := ⟨_, rfl⟩
        rw [← hw0]
        have hs0 : St (fun _ => False) wc w0 := by rw [hw0]; exact (St.refl _ wc).drewN nr
        have HS0 := hide (ST2.out.trans hs0)
        have HW3 := hide (HW2.out.quiet hs0)
        have hr3 : Reads w0.drew w0.drew.heap.size 1 A2 bd.length (byts bd) := by rw [hw0]; exact HR2.out
        have HC := hide (copied_any A2 bd.length c2 bd w0.drew hr3 (by omega))
        clear hw0 hs0 hr3 k0
        have k0 := HW3.out.cellM 0 (by omega)
        go_region_held3 (fun V => V.cell? ⟨wb, 0, none⟩ = some (.pointer (some ⟨g.m 0, 0, none⟩)))
          (first | exact k0 | exact q0 | exact t0)
          (first
            | ((go_at_call 38; refine HC.out.mono ?_; rintro e w4 ⟨v4, rfl, hb4, hs4, hn4⟩; have HB4 := hide hb4; have HS4 := hide hs4; have HW4 := hide (HW3.out.quiet ((St.refl (fun _ => False) w0).drew.trans hs4)); have q0 := HW4.out.cellM 0 (by omega); clear hb4 hs4 hn4))
            | ((go_at_call 15; refine (num_any _ _).mono ?_; rintro e w' ⟨rfl, rfl⟩))
            | ((go_at_call 37; refine (HW4.out.mpush HI.out (by omega) (s := 0) (by omega) (p := 5) rfl HB4.out hbl.1 (by omega)).mono ?_; rintro e w5 ⟨hyes, _⟩; obtain ⟨rfl, hst5⟩ := hyes hfull; have HST5 := hide hst5; have HW5 := hide (HW4.out.quiet hst5); have t0 := HW5.out.cellM 0 (by omega); clear hyes hst5)))
        have HR : Hid (Calls Try.prog 24 #[.pointer (some ⟨g.m 0, 0, none⟩), .int .i64 5] w5 fun r w' => r = .returned (.int .i64 0) ∧ ∃ m, w' = w5.drewN m) := by
          have hh := HW5.out.room HI.out (by omega) (s := 0) (by omega) (p := 5) rfl
          have hz : (Sp : Int) - ((x.st 0).out.length : Int) = 0 := by
            obtain ⟨p0, q0, hh⟩ := HI.out 0 1 (by omega)
            have := hh.room
            omega
          rw [hz] at hh
          exact hh
        go_wp2_with (go_at_call 24; refine HR.out.mono ?_; rintro e w' ⟨rfl, nr, rfl⟩)
        go_ret
        refine ⟨rfl, ?_⟩
        have e1 : pushS Sp x 0 bs = x := by unfold pushS; rw [if_neg (by omega)]
        rw [e1]
        exact HW.out.refl_ (((HS0.out.trans ((St.refl (fun _ => False) w0).drew.trans HS4.out)).trans HST5.out).drewN _)
      · go_wp2_with (first | (go_at_call 21; refine (pid1 _).mono ?_; rintro e w' ⟨rfl, rfl⟩) | (go_at_call 24; refine HROOM.out.mono ?_; rintro e w' ⟨rfl, nr, rfl⟩))
        obtain ⟨w0, hw0⟩ : ∃ w0, w0 = wc.drewN nr := ⟨_, rfl⟩
        rw [← hw0]
        have hs0 : St (fun _ => False) wc w0 := by rw [hw0]; exact (St.refl _ wc).drewN nr
        have HS00 := hide hs0
        have HS0 := hide (ST2.out.trans hs0)
        have HW3 := hide (HW2.out.quiet hs0)
        have hr3 : Reads w0.drew w0.drew.heap.size 1 A2 bd.length (byts bd) := by rw [hw0]; exact HR2.out
        have HC := hide (copied_any A2 bd.length c2 bd w0.drew hr3 (by omega))
        obtain ⟨x1, hx1⟩ : ∃ x1 : Wr, x1 = { x with st := upd x.st 0 { x.st 0 with out := (x.st 0).out ++ [bd] } } := ⟨_, rfl⟩
        have HX1 := hide hx1
        clear hx1
        clear hw0 hs0 hr3 k0
        have k0 := HW3.out.cellM 0 (by omega)
        go_region_held3 (fun V => V.cell? ⟨wb, 0, none⟩ = some (.pointer (some ⟨g.m 0, 0, none⟩)))
          (first | exact k0 | exact q0 | exact t0)
          (first
            | ((go_at_call 38; refine HC.out.mono ?_; rintro e w4 ⟨v4, rfl, hb4, hs4, hn4⟩; have HB4 := hide hb4; have HS4 := hide hs4; have HW4 := hide (HW3.out.quiet ((St.refl (fun _ => False) w0).drew.trans hs4)); have q0 := HW4.out.cellM 0 (by omega); clear hb4 hs4 hn4))
            | ((go_at_call 15; refine (num_any _ _).mono ?_; rintro e w' ⟨rfl, rfl⟩))
            | ((go_at_call 37; refine (HW4.out.mpush HI.out (by omega) (s := 0) (by omega) (p := 5) rfl HB4.out hbl.1 (by omega)).mono ?_; rintro e w5 ⟨_, hyes⟩; obtain ⟨rfl, hst5⟩ := hyes (by omega); rw [← HX1.out] at hst5; obtain ⟨o5, g5, hW5, st5, ag5, em, eX, es⟩ := hst5; have HW5 := hide hW5; have ST5 := hide (And.intro st5 ag5); have t0 := HW5.out.cellM 0 (by omega); rw [em] at t0; have EM := hide (And.intro em (And.intro eX es)); clear hyes hW5 st5 ag5 em eX es)))
        have dr : decide ((0 : Int) < (Sp : Int) - ((x.st 0).out.length : Int)) = true := by rw [decide_eq_true_eq]; omega
        go_wp2_with fail
        go_upto_region 9 with fail
        go_cut [] (fun wz => WStep w o wb W Sp g { x1 with P := upd x1.P 0 (x1.P 0 ++ [bd]) } wz)
        case first =>
          have hP1 : x1.P = x.P := by rw [HX1.out]
          obtain ⟨p0, q0', hh0⟩ := HI.out 0 1 (by omega)
          have hcp := hh0.cP
          obtain ⟨vs, r1, r2, r3⟩ : BRow w5 (fun q => o5 q = 5 + 2 * 0 + 0) (g5.row 0 0) (x.P 0) := by have := HW5.out.row 0 0 (by omega) (by omega); rw [← hP1]; exact this
          have f0 : w5.cell? ⟨wb, 4, none⟩ = some (g5.row 0 0) := HW5.out.cellR 0 0 (by omega) (by omega)
          have hlt5 := HW5.out.head.lt
          generalize hrv : g5.row 0 0 = rv at *
          obtain ⟨Ar, cr, rfl, _, _⟩ := own_val r1
          have R1 := hide r1
          have R2 := hide r2
          have R3 := hide r3
          have HRV := hide hrv
          have HP1 := hide hP1
          have hsc5 : St (fun q => o q ≠ 0) wc w5 := ((HS00.out.mono (fun _ _ e => e.elim)).trans ((((St.refl (fun _ => False) w0).drew.trans HS4.out)).mono (fun _ _ e => e.elim))).trans ST5.out.1
          have hr4 : Reads w5.drew w5.drew.heap.size 1 A2 bd.length (byts bd) := ((HR2.out.only hsc5.only (fun ad e hn => hn (HO2.out ad e))).more hsc5.size).drew
          have HC2 := hide (copied_any A2 bd.length c2 bd w5.drew hr4 (by omega))
          have HSC5 := hide hsc5
          obtain ⟨i0, hi, hz0, hz1, hz2⟩ := info_parts info28
          clear hr4 hsc5 r1 r2 r3 hrv hP1 hh0 k0 q0
          go_region_law (first
            | ((refine step_in (by rfl) ?_; go_simp; go_at_call 38; refine HC2.out.mono ?_; rintro e w6 ⟨v6, rfl, hb6, hs6, hn6⟩; obtain ⟨A6, c6, rfl, _, _⟩ := hb6.val; have hs56 := (St.refl (fun _ => False) w5).drew.trans hs6; have hsA := hs56.alloc (.cells #[.slice A6 bd.length c6] 28); have f6 := hs56.only.cell f0 (fun e => e); have fA := hsA.only.cell f0 (fun e => e); have HB6 := hide hb6; have HS56 := hide hs56; have HSA := hide hsA; clear hb6 hs6 hn6 hs56 hsA))
            | ((refine step_push (w6.alloc (.cells #[.slice A6 bd.length c6] 28)) (by rfl) (.tmp 50) (.tmp 53) _ (by rfl) 0 28 i0 _ 1 24 Try.underlying36 hi hz0 hz1 hz2 (by rfl) (by omega) (.slice Ar (x.P 0).length cr) (x.P 0).length vs (by rfl) ?_ w6.heap.size 1 1 #[.slice A6 bd.length c6] (by rfl) (Blk.new _ _ _) (by rfl) ?_ (by omega) ?_ ?_ (Nat.zero_le _) ?_; exact own_only R1.out HSA.out.only (fun _ _ e => e); (intro u hu; simp at hu; subst hu; rfl); (unfold maxLen; omega); omega; intro g7 cap7 w7 hown7 hgr7 hor7 hlt7; have hb7 := Blk.grown (HW5.out.head.st HSA.out (fun e => e)) hgr7 (fun e => own_blk_ne R1.out HW5.out.head (by decide) e.symm); have f7 : w7.cell? ⟨wb, 4, none⟩ = some (g5.row 0 0) := hb7.cell 4; rw [HRV.out] at f7; have fr7 := hb7.frozen 4)))
          all_goals
            go_wp2_with fail
            go_meet
            have e7 : x1.P 0 = x.P 0 := by rw [HP1.out]
            have hfin := HW5.out.pushB (k := 0) (s := 0) (by omega) (by omega) (i := 4) (y := { x1 with P := upd x1.P 0 (x1.P 0 ++ [bd]) }) R1.out R2.out R3.out HSA.out hgr7 (HB6.out.st ((St.refl (fun _ => False) w6).alloc _)) hown7 hor7 rfl (rows_P ⟨by rw [HX1.out], by rw [HX1.out], by rw [HX1.out], HP1.out⟩) (fun w S v hh => by
              show BRow w S v (upd x1.P 0 (x1.P 0 ++ [bd]) 0)
              rw [upd_same, e7]; exact hh) rfl
            have hw4 : St (fun _ => False) w w4 := HS0.out.trans ((St.refl (fun _ => False) w0).drew.trans HS4.out)
            refine WStep.after ((hw4.mono fun _ _ e => e.elim).trans ST5.out.1) (fun q hq => ST5.out.2 q (Nat.lt_of_lt_of_le hq hw4.size)) EM.out hfin
        case rest =>
          obtain ⟨o8, g8, a8, b8, c8, d8⟩ := hcut
          have hst2 : pushS Sp x 0 bs = { x1 with P := upd x1.P 0 (x1.P 0 ++ [bd]) } := by
            unfold pushS
            rw [if_pos (by omega), HBD.out, HX1.out]
          rw [← hst2] at a8
          have H8 := hide (show WStep w o wb W Sp g (pushS Sp x 0 bs) wc from ⟨o8, g8, by rw [hst2]; rw [hst2] at a8; exact a8, b8, c8, d8⟩)
          have hI2 := HI.out.push 0 (by omega) bs
          have hlen : ((pushS Sp x 0 bs).st 0).out.length = (x.st 0).out.length + 1 := pushS_out (by omega)
          obtain ⟨x2, hx2⟩ : ∃ x2, x2 = pushS Sp x 0 bs := ⟨_, rfl⟩
          rw [← hx2] at hI2 hlen a8
          have HI2 := hide hI2
          have HX2 := hide hx2
          have HR : ∀ k, Hid (Calls Try.prog 24 #[.pointer (some ⟨g.m 0, 0, none⟩), .int .i64 5] (wc.drewN k) fun r w' => r = .returned (.int .i64 ((Sp : Int) - ((x.st 0).out.length : Int) - 1)) ∧ ∃ m, w' = (wc.drewN k).drewN m) := fun k => by
            have hh := (a8.quiet ((St.refl (fun _ => False) wc).drewN k)).room HI2.out (by omega) (s := 0) (by omega) (p := 5) rfl
            rw [hlen, d8.1, show (Sp : Int) - (((x.st 0).out.length + 1 : Nat) : Int) = (Sp : Int) - ((x.st 0).out.length : Int) - 1 by omega] at hh
            exact hh
          have HSN : ∀ k, Hid (Calls Try.prog 32 #[.pointer (some ⟨g.m 0, 0, none⟩), .int .i64 5] (wc.drewN k) fun r w' => r = .returned (.int .i64 ((x2.P 0).length : Int)) ∧ ∃ m, w' = (wc.drewN k).drewN m) := fun k => by
            have hh := (a8.quiet ((St.refl (fun _ => False) wc).drewN k)).sent HI2.out (by omega) (s := 0) (by omega) (p := 5) rfl
            rw [d8.1] at hh
            exact hh
          obtain ⟨Ar, cr, vs, hrv, _, _, _⟩ := BRow.val (a8.row 0 0 (by omega) (by omega))
          have k0 := a8.cellM 0 (by omega)
          have k4 : wc.cell? ⟨wb, 4, none⟩ = some (g8.row 0 0) := a8.cellR 0 0 (by omega) (by omega)
          rw [hrv] at k4
          rw [d8.1] at k0
          clear a8 b8 c8 d8 hrv hI2 hx2 hst2 hlen
          have hroom := hnum.2.2
          go_wp2_with fail
          go_quiet ((first | (go_at_call 24; exact Calls.quiet_of ((HR _).out)) | (go_at_call 32; exact Calls.quiet_of ((HSN _).out))))
          go_wp2
          go_ret
          exact ⟨rfl, H8.out.quiet ((St.refl (fun _ => False) wc).drewN _)⟩
end Go.Proofs.Ytkkckinnhkpcmaa
