/-
  Contract of Wire.carry from the side 0. (Printed for both sides by wip/tools/mkcarry.py, sides.py.)
-/
import Derived.Test.YtkkckinnhkpcmaaWtake
set_option linter.unusedVariables false
set_option linter.unusedSimpArgs false
namespace Go.Proofs.Ytkkckinnhkpcmaa
open Go.RowKit Go.WideShapes Go.ChangeShapes Q

set_option maxRecDepth 100000 in
set_option maxHeartbeats 2000000 in
theorem wcarry0 (w : World) (o : Nat → Nat) (wb W Sp n : Nat) (g : Gw) (x : Wr) (kn : Int) (h : WireAt w o wb W Sp g x) (hI : Inv W Sp n x) (hn : n < 5000) (hk0 : -9223372036854775808 ≤ kn) (hk1 : kn ≤ 9223372036854775807) :
    Calls Try.prog 19 #[.pointer (some ⟨wb, 0, none⟩), .int .i64 0, .int .i64 kn] w fun e w' => e = .returned (.bool true) ∧ WStep w o wb W Sp g (carryS x 0 1 kn) w' := by
  have HW := hide h
  have HI := hide hI
  have f0 : w.cell? ⟨wb, 8, none⟩ = some (g.row 2 0) := h.cellR 2 0 (by omega) (by omega)
  have hfr : FRow w (fun q => o q = 5 + 2 * 2 + 0) (g.row 2 0) (frs (x.F 0)) := h.row 2 0 (by omega) (by omega)
  have hfl : (x.F 0).length ≤ 25000 := by
    obtain ⟨p1, q1, hh1⟩ := hI 0 1 (by omega)
    have h1 := hh1.cF
    omega
  clear h hI
  by_cases hF : (x.F 0).length = 0
  · have e1 : carryS x 0 1 kn = x := by unfold carryS; rw [pick_none _ _ hF]
    obtain ⟨A, c, hv⟩ : ∃ A c, g.row 2 0 = .slice A 0 c := by
      obtain ⟨vs, h1, _, _⟩ := hfr
      obtain ⟨A, c, e, _, _⟩ := own_val h1
      exact ⟨A, c, by rw [e]; congr 1; simpa [frs] using hF⟩
    rw [hv] at f0
    rw [e1]
    clear hfr hv e1 hF hfl
    go_enter Try.func19, Try.ntmps19
    go_wp2
    go_ret
    exact ⟨rfl, HW.out.refl_ (St.refl _ w)⟩
  · obtain ⟨j, f, hj, hmod, hfj, hpick⟩ := pick_at (x.F 0) kn hF
    obtain ⟨gf, cap, vk, hv, hcap, hgf, hbk, l0, l1, l2, l3, l4, l5⟩ := hfr.at_ hj hfj
    obtain ⟨an, han⟩ : ∃ an, an = absZ kn := ⟨_, rfl⟩
    have HAB : ∀ V, Hid (Calls Try.prog 39 #[.int .i64 kn] V fun r w' => r = .returned (.int .i64 an) ∧ V = w') := fun V => by
      have hh := abs_any kn V hk0 hk1
      rw [← han] at hh
      exact hh
    have ha0 : 0 ≤ an := by rw [han]; exact absZ_nonneg kn
    have ha1 : an ≤ 9223372036854775807 := by rw [han]; exact absZ_le hk0 hk1
    rw [← han] at hmod
    clear han
    obtain ⟨Av, cv, rfl, hrv0, _⟩ := hbk.val
    have hfmem : f ∈ x.F 0 := List.mem_of_getElem? hfj
    have HPICK := hide hpick
    have HFM := hide hfmem
    obtain ⟨fs, hfs⟩ : ∃ fs, fs = f.1 := ⟨_, rfl⟩
    obtain ⟨fb, hfb⟩ : ∃ fb, fb = f.2 := ⟨_, rfl⟩
    have hfb20 : fb.length ≤ 300 := by
      obtain ⟨p1, q1, hh1⟩ := HI.out 0 1 (by omega)
      obtain ⟨jj, _, _, hP⟩ := hh1.fr f hfmem
      have := hh1.len f.2 (List.mem_of_getElem? hP)
      rw [hfb]; omega
    rw [← hfs] at l4
    rw [← hfb] at l5 hbk
    have HBK := hide hbk
    have HFS := hide (And.intro hfs hfb)
    rw [hv] at f0
    generalize hnl : (x.F 0).length = nl at *
    clear hnl
    have L0 : (fun V : World => V.cell? ⟨wb, 8, none⟩ = some (.slice (some ⟨gf, 0, none⟩) nl cap) ∧ V.cell? ⟨gf, j * 6, none⟩ = some (.int .i64 3) ∧ V.cell? ⟨gf, j * 6 + 1, none⟩ = some (.int .i64 2) ∧ V.cell? ⟨gf, j * 6 + 2, none⟩ = some (.int .i64 4) ∧ V.cell? ⟨gf, j * 6 + 3, none⟩ = some (.int .i64 9) ∧ V.cell? ⟨gf, j * 6 + 4, none⟩ = some (.int .i64 fs) ∧ V.cell? ⟨gf, j * 6 + 5, none⟩ = some (.slice Av fb.length cv)) w := ⟨f0, l0, l1, l2, l3, l4, l5⟩
    have LD : (fun V : World => V.cell? ⟨wb, 8, none⟩ = some (.slice (some ⟨gf, 0, none⟩) nl cap) ∧ V.cell? ⟨gf, j * 6, none⟩ = some (.int .i64 3) ∧ V.cell? ⟨gf, j * 6 + 1, none⟩ = some (.int .i64 2) ∧ V.cell? ⟨gf, j * 6 + 2, none⟩ = some (.int .i64 4) ∧ V.cell? ⟨gf, j * 6 + 3, none⟩ = some (.int .i64 9) ∧ V.cell? ⟨gf, j * 6 + 4, none⟩ = some (.int .i64 fs) ∧ V.cell? ⟨gf, j * 6 + 5, none⟩ = some (.slice Av fb.length cv)) w.drew := L0
    have LB : (fun V : World => V.cell? ⟨wb, 8, none⟩ = some (.slice (some ⟨gf, 0, none⟩) nl cap) ∧ V.cell? ⟨gf, j * 6, none⟩ = some (.int .i64 3) ∧ V.cell? ⟨gf, j * 6 + 1, none⟩ = some (.int .i64 2) ∧ V.cell? ⟨gf, j * 6 + 2, none⟩ = some (.int .i64 4) ∧ V.cell? ⟨gf, j * 6 + 3, none⟩ = some (.int .i64 9) ∧ V.cell? ⟨gf, j * 6 + 4, none⟩ = some (.int .i64 fs) ∧ V.cell? ⟨gf, j * 6 + 5, none⟩ = some (.slice Av fb.length cv)) (w.alloc (.cells #[.int .i64 0, .int .i64 0, .int .i64 0, .int .i64 0, .int .i64 0, .slice none 0 0] 57)).drew := ⟨cell_alloc L0.1 _, cell_alloc L0.2.1 _, cell_alloc L0.2.2.1 _, cell_alloc L0.2.2.2.1 _, cell_alloc L0.2.2.2.2.1 _, cell_alloc L0.2.2.2.2.2.1 _, cell_alloc L0.2.2.2.2.2.2 _⟩
    have LC : (fun V : World => V.cell? ⟨wb, 8, none⟩ = some (.slice (some ⟨gf, 0, none⟩) nl cap) ∧ V.cell? ⟨gf, j * 6, none⟩ = some (.int .i64 3) ∧ V.cell? ⟨gf, j * 6 + 1, none⟩ = some (.int .i64 2) ∧ V.cell? ⟨gf, j * 6 + 2, none⟩ = some (.int .i64 4) ∧ V.cell? ⟨gf, j * 6 + 3, none⟩ = some (.int .i64 9) ∧ V.cell? ⟨gf, j * 6 + 4, none⟩ = some (.int .i64 fs) ∧ V.cell? ⟨gf, j * 6 + 5, none⟩ = some (.slice Av fb.length cv)) (w.alloc (.cells #[.int .i64 3, .int .i64 2, .int .i64 4, .int .i64 9, .int .i64 fs, .slice Av fb.length cv] 57)).drew := ⟨cell_alloc L0.1 _, cell_alloc L0.2.1 _, cell_alloc L0.2.2.1 _, cell_alloc L0.2.2.2.1 _, cell_alloc L0.2.2.2.2.1 _, cell_alloc L0.2.2.2.2.2.1 _, cell_alloc L0.2.2.2.2.2.2 _⟩
    have j0 : (0 : Int) ≤ (j : Int) := by omega
    have j1 : (j : Int) < (nl : Int) := by omega
    have hne : ((nl : Int) == 0) = false := by rw [beq_eq_false_iff_ne]; omega
    have hne1 : ¬ (nl : Int) = 0 := by omega
    have htm : an.tmod (nl : Int) = (j : Int) := by rw [Int.tmod_eq_emod_of_nonneg ha0]; exact hmod
    have hwj : IntKind.i64.wrap (j : Int) = (j : Int) := IntWalk.i64_in _ (by constructor <;> omega)
    have hne2 : (1 : Int) ≤ (nl : Int) := by omega
    have hob : o w.heap.size = 0 := HW.out.lim _ (Nat.le_refl _)
    have HOB := hide hob
    clear hbk hpick hfmem hfj hfs hfb hrv0 l0 l1 l2 l3 l4 l5 hv hfr hgf hob
    go_enter Try.func19, Try.ntmps19
    go_wp2_with fail
    go_upto_region 3 with fail
    go_cut [7] (fun s7 wy => BoxF w o fs (.slice Av fb.length cv) s7 wy)
    case first =>
      go_region_held3 (fun V : World => V.cell? ⟨wb, 8, none⟩ = some (.slice (some ⟨gf, 0, none⟩) nl cap) ∧ V.cell? ⟨gf, j * 6, none⟩ = some (.int .i64 3) ∧ V.cell? ⟨gf, j * 6 + 1, none⟩ = some (.int .i64 2) ∧ V.cell? ⟨gf, j * 6 + 2, none⟩ = some (.int .i64 4) ∧ V.cell? ⟨gf, j * 6 + 3, none⟩ = some (.int .i64 9) ∧ V.cell? ⟨gf, j * 6 + 4, none⟩ = some (.int .i64 fs) ∧ V.cell? ⟨gf, j * 6 + 5, none⟩ = some (.slice Av fb.length cv))
        (first | with_reducible exact LD | with_reducible exact LB | with_reducible exact LC)
        ((go_at_call 39; first | ((with_reducible refine (HAB w.drew).out.mono ?_); rintro e w' ⟨rfl, rfl⟩) | ((with_reducible refine (HAB (w.alloc (.cells #[.int .i64 0, .int .i64 0, .int .i64 0, .int .i64 0, .int .i64 0, .slice none 0 0] 57)).drew).out.mono ?_); rintro e w' ⟨rfl, rfl⟩)))
      all_goals
        go_wp2_with fail
        go_meet
        exact ⟨_, rfl, Blk.drew (Blk.new _ _ _), ((St.refl _ w).alloc _).drew, HOB.out⟩
    case rest =>
      obtain ⟨b, rfl, hbx, hst4, hob4⟩ := hcut
      obtain ⟨w4, hw4⟩ : ∃ w4, w4 = wc := ⟨_, rfl⟩
      rw [← hw4] at hbx hst4 ⊢
      clear hw4 L0 LD LB LC f0 HAB hne hne1 hne2 htm hwj hmod j0 j1 ha0 ha1 hF
      have HW4 := hide (HW.out.quiet hst4)
      have HST4 := hide hst4
      have kM := HW4.out.cellM 1 (by omega)
      obtain ⟨b0, b1, b2, b3, b4, b5⟩ := m6 hbx
      have M0 : (fun V : World => V.cell? ⟨wb, 1, none⟩ = some (.pointer (some ⟨g.m 1, 0, none⟩)) ∧ V.cell? ⟨b, 0, none⟩ = some (.int .i64 3) ∧ V.cell? ⟨b, 1, none⟩ = some (.int .i64 2) ∧ V.cell? ⟨b, 2, none⟩ = some (.int .i64 4) ∧ V.cell? ⟨b, 3, none⟩ = some (.int .i64 9) ∧ V.cell? ⟨b, 4, none⟩ = some (.int .i64 fs) ∧ V.cell? ⟨b, 5, none⟩ = some (.slice Av fb.length cv)) w4.drew := ⟨kM, b0, b1, b2, b3, b4, b5⟩
      have hrd : Reads w4.drew w4.drew.heap.size 1 Av fb.length (byts fb) := by
        obtain ⟨A', c', e, hr, _⟩ := (HBK.out.st hst4).val
        injection e with e1 _ _
        rw [e1]
        exact hr
      have HC := hide (copied_any Av fb.length cv fb w4.drew hrd (by omega))
      obtain ⟨os, hos⟩ : ∃ os, os = takeO (x.st 1) fs fb := ⟨_, rfl⟩
      obtain ⟨x1, hx1⟩ : ∃ x1 : Wr, x1 = { x with st := upd x.st 1 (takeS (x.st 1) fs fb) } := ⟨_, rfl⟩
      have HTK : ∀ V v, St (fun _ => False) w4 V → Bod V v fb → Hid (Calls Try.prog 28 #[.pointer (some ⟨g.m 1, 0, none⟩), .int .i64 2, .agg #[.int .i64 3, .int .i64 2, .int .i64 4, .int .i64 9, .int .i64 fs, v]] V fun e w' => ∃ v', e = .returned (.tuple #[v', .int .i64 0]) ∧ BRow w' (fun q => o q = 0) v' os ∧ WireAt w' o wb W Sp g x1 ∧ St (fun q => o q ≠ 0) V w') := fun V v hV hb => by
        have hb' : Bod V v f.2 := by rw [← HFS.out.2]; exact hb
        have hh := (HW4.out.quiet hV).take2 HI.out (by omega) (s := 0) (t := 1) rfl (p := 2) rfl HFM.out hb'
        rw [← HFS.out.1, ← HFS.out.2, ← hos, ← hx1] at hh
        unfold tg frC at hh
        simp only at hh
        exact hh
      have HOS := hide hos
      have HX1 := hide hx1
      clear hbx hst4 hrd hos hx1 kM b0 b1 b2 b3 b4 b5
      go_wp2_with fail
      go_upto_region 5 with fail
      go_cut [9, 10] (fun s9 s10 wy => s10 = .int .i64 0 ∧ BRow wy (fun q => o q = 0) s9 os ∧ WireAt wy o wb W Sp g x1 ∧ St (fun q => o q ≠ 0) w4 wy)
      case first =>
        go_region_held3 (fun V : World => V.cell? ⟨wb, 1, none⟩ = some (.pointer (some ⟨g.m 1, 0, none⟩)) ∧ V.cell? ⟨b, 0, none⟩ = some (.int .i64 3) ∧ V.cell? ⟨b, 1, none⟩ = some (.int .i64 2) ∧ V.cell? ⟨b, 2, none⟩ = some (.int .i64 4) ∧ V.cell? ⟨b, 3, none⟩ = some (.int .i64 9) ∧ V.cell? ⟨b, 4, none⟩ = some (.int .i64 fs) ∧ V.cell? ⟨b, 5, none⟩ = some (.slice Av fb.length cv))
          (first | with_reducible exact M0 | with_reducible exact M6 | with_reducible exact M7)
          (first
            | ((go_at_call 21; refine (pid0 _).mono ?_; rintro e w' ⟨rfl, rfl⟩))
            | ((go_at_call 38; refine HC.out.mono ?_; rintro e w6 ⟨v6, rfl, hb6, hs6, _⟩; obtain ⟨A6, c6, rfl, _, _⟩ := hb6.val; have hs46 := (St.refl (fun _ => False) w4).drew.trans hs6; have M6 : (fun V : World => V.cell? ⟨wb, 1, none⟩ = some (.pointer (some ⟨g.m 1, 0, none⟩)) ∧ V.cell? ⟨b, 0, none⟩ = some (.int .i64 3) ∧ V.cell? ⟨b, 1, none⟩ = some (.int .i64 2) ∧ V.cell? ⟨b, 2, none⟩ = some (.int .i64 4) ∧ V.cell? ⟨b, 3, none⟩ = some (.int .i64 9) ∧ V.cell? ⟨b, 4, none⟩ = some (.int .i64 fs) ∧ V.cell? ⟨b, 5, none⟩ = some (.slice Av fb.length cv)) w6 := ⟨hs6.only.cell M0.1 (fun e => e), hs6.only.cell M0.2.1 (fun e => e), hs6.only.cell M0.2.2.1 (fun e => e), hs6.only.cell M0.2.2.2.1 (fun e => e), hs6.only.cell M0.2.2.2.2.1 (fun e => e), hs6.only.cell M0.2.2.2.2.2.1 (fun e => e), hs6.only.cell M0.2.2.2.2.2.2 (fun e => e)⟩; have HB6 := hide hb6; have HS46 := hide hs46; clear hb6 hs6 hs46))
            | ((go_at_call 28; refine (HTK w6 _ HS46.out HB6.out).out.mono ?_; rintro e w7 ⟨v7, rfl, hr7, hA7, hs7⟩; have M7 : (fun V : World => V.cell? ⟨wb, 1, none⟩ = some (.pointer (some ⟨g.m 1, 0, none⟩)) ∧ V.cell? ⟨b, 0, none⟩ = some (.int .i64 3) ∧ V.cell? ⟨b, 1, none⟩ = some (.int .i64 2) ∧ V.cell? ⟨b, 2, none⟩ = some (.int .i64 4) ∧ V.cell? ⟨b, 3, none⟩ = some (.int .i64 9) ∧ V.cell? ⟨b, 4, none⟩ = some (.int .i64 fs) ∧ V.cell? ⟨b, 5, none⟩ = some (.slice Av fb.length cv)) w7 := ⟨hA7.cellM 1 (by omega), hs7.only.cell M6.2.1 (fun e => e hob4), hs7.only.cell M6.2.2.1 (fun e => e hob4), hs7.only.cell M6.2.2.2.1 (fun e => e hob4), hs7.only.cell M6.2.2.2.2.1 (fun e => e hob4), hs7.only.cell M6.2.2.2.2.2.1 (fun e => e hob4), hs7.only.cell M6.2.2.2.2.2.2 (fun e => e hob4)⟩; have HR7 := hide hr7; have HA7 := hide hA7; have HS7 := hide ((HS46.out.mono fun _ _ e => e.elim).trans hs7); clear hr7 hA7 hs7)))
        all_goals
          go_wp2_with fail
          go_meet
          exact ⟨rfl, HR7.out, HA7.out, HS7.out⟩
      case rest =>
        obtain ⟨rfl, hr7, hA7, hs7⟩ := hcut
        obtain ⟨w7, hw7⟩ : ∃ w7, w7 = wc := ⟨_, rfl⟩
        rw [← hw7] at hr7 hA7 hs7 ⊢
        clear hw7 M0
        have I7 : Inv W Sp n (carryF x 1 f) := HI.out.carryF rfl HFM.out
        have HI7 := hide I7
        have hx2 : outK x1 1 os os.length = carryF x 1 f := by
          unfold outK carryF
          rw [List.take_length, HX1.out, HOS.out, HFS.out.1, HFS.out.2]
        have HX2 := hide hx2
        have hx1O : x1.O = x.O := by rw [HX1.out]
        have hx1P : x1.P = x.P := by rw [HX1.out]
        obtain ⟨p2, q2, h2⟩ := I7 0 1 rfl
        have hOP : x.O 1 ++ os = (x.P 0).take q2 := by
          have e := h2.oq
          have e1 : (carryF x 1 f).O 1 = x.O 1 ++ os := by
            rw [HOS.out, HFS.out.1, HFS.out.2]
            show upd x.O 1 (x.O 1 ++ takeO (x.st 1) f.1 f.2) 1 = _
            exact upd_same _ _ _
          rw [e1] at e
          exact e
        have hcP : (x.P 0).length ≤ n := h2.cP
        have hlo : (x.O 1).length + os.length ≤ (x.P 0).length := by
          have e := congrArg List.length hOP
          rw [List.length_append, List.length_take] at e
          omega
        have HOP := hide hOP
        have HXO := hide (And.intro hx1O hx1P)
        obtain ⟨Al, cl, vsl, rfl, _, _, hcl⟩ := BRow.val hr7
        have HR7 := hide hr7
        have HA7 := hide hA7
        have HS7 := hide hs7
        obtain ⟨m, hm⟩ : ∃ m, m = os.length := ⟨_, rfl⟩
        obtain ⟨no, hno⟩ : ∃ no, no = (x.O 1).length := ⟨_, rfl⟩
        obtain ⟨np, hnp⟩ : ∃ np, np = (x.P 0).length := ⟨_, rfl⟩
        rw [← hm, ← hno, ← hnp] at hlo
        rw [← hm] at hcl ⊢
        rw [← hnp] at hcP
        have HM := hide (And.intro hm (And.intro hno hnp))
        clear hx2 hx1O hx1P h2 hOP I7 hr7 hA7 hs7 hm hno hnp
        go_wp2_with (go_at_call 15; refine (num_any _ _).mono ?_; rintro e w' ⟨rfl, rfl⟩)
        go_loopw [11] (fun i wr => ∃ k : Nat, k ≤ m ∧ i = .int .i64 k ∧ Hid (WStep w7 o wb W Sp g (outK x1 1 os k) wr)) (fun i _ => m - (intOf i).toNat)
        case atStart => exact ⟨0, Nat.zero_le _, rfl, by rw [outK_0]; exact HA7.out.refl_ (St.refl _ w7)⟩
        case round =>
          obtain ⟨k, hk, rfl, hws⟩ := hrel
          by_cases hlt : k < m
          · obtain ⟨o', g', hA', hst', hag', hm', hX', hsb'⟩ := hws.out
            obtain ⟨yb, hyb⟩ : ∃ yb, os[k]? = some yb := ⟨_, List.getElem?_eq_getElem (by have := HM.out.1; omega)⟩
            obtain ⟨gl, capl, u, hAl, hcapl, hgl, hby, lu⟩ := (HR7.out.far hst' (fun q hq e => e hq)).at_ (by have := HM.out.1; omega) hyb
            rw [← HM.out.1] at hAl hcapl
            injection hAl with hA1 _ hA3
            subst hA1
            subst hA3
            obtain ⟨nk, hnk⟩ : ∃ nk, nk = no + k := ⟨_, rfl⟩
            have hPk : (x.P 0)[nk]? = some yb := by
              have e := congrArg (fun l => l[nk]?) HOP.out
              rw [List.getElem?_append_right (by have := HM.out.2.1; omega), List.getElem?_take] at e
              have hlt2 : nk < q2 := by
                have e2 := congrArg List.length HOP.out
                rw [List.length_append, List.length_take] at e2
                have := HM.out
                omega
              rw [if_pos hlt2, show nk - (x.O 1).length = k by have := HM.out.2.1; omega, hyb] at e
              exact e.symm
            have hrP : BRow wr (fun q => o' q = 5 + 2 * 0 + 0) (g'.row 0 0) (x.P 0) := by
              have hr := hA'.row 0 0 (by omega) (by omega)
              rw [← HXO.out.2]
              exact hr
            obtain ⟨gp, capp, up, hvp, hcp, hgp, hbp, lp⟩ := hrP.at_ (k := nk) (by have := HM.out.2.2; omega) hPk
            rw [← HM.out.2.2] at hvp hcp
            have fP : wr.cell? ⟨wb, 4, none⟩ = some (g'.row 0 0) := hA'.cellR 0 0 (by omega) (by omega)
            rw [hvp] at fP
            obtain ⟨xs, hxs⟩ : ∃ xs, xs = x.O 1 ++ os.take k := ⟨_, rfl⟩
            have hxl : xs.length = nk := by
              rw [hxs, List.length_append, List.length_take]
              have := HM.out
              omega
            obtain ⟨vs, r1, r2, r3⟩ : BRow wr (fun q => o' q = 5 + 2 * 1 + 1) (g'.row 1 1) xs := by
              have hr := hA'.row 1 1 (by omega) (by omega)
              have hr' : BRow wr (fun q => o' q = 5 + 2 * 1 + 1) (g'.row 1 1) ((outK x1 1 os k).O 1) := hr
              rw [outK_O, HXO.out.1, ← hxs] at hr'
              exact hr'
            have fO : wr.cell? ⟨wb, 7, none⟩ = some (g'.row 1 1) := hA'.cellR 1 1 (by omega) (by omega)
            rw [hxl] at r1
            generalize hrv : g'.row 1 1 = rv at *
            obtain ⟨Ar, cr, rfl, _, _⟩ := own_val r1
            obtain ⟨Au, cu, rfl, hru, _⟩ := hby.val
            obtain ⟨Ap, cp, rfl, hrp, _⟩ := hbp.val
            have hyl : yb.length ≤ 20 := by
              obtain ⟨p3, q3, h3⟩ := HI.out 0 1 rfl
              exact (h3.len yb (List.mem_of_getElem? hPk)).2
            have HSB : ∀ n', Hid (Calls Try.prog 40 #[.slice Au yb.length cu, .slice Ap yb.length cp] (wr.drewN n') fun e w' => e = .returned (.bool true) ∧ ∃ m, w' = (wr.drewN n').drewN m) := fun n' => by
              have hh := same_any Au Ap yb.length yb.length cu cp yb yb (wr.drewN n') hru hrp (by omega) (by omega)
              rw [decide_eq_true rfl] at hh
              exact hh
            have HA3 := hide hA'
            have HS3 := hide (And.intro hst' (And.intro hag' (And.intro hm' (And.intro hX' hsb'))))
            have R1 := hide r1
            have R2 := hide r2
            have R3 := hide r3
            have HRV := hide hrv
            have HXS := hide (And.intro hxs hxl)
            have HBY := hide hby
            have HYB := hide hyb
            have HGL : Hid (o' gl = 0) := by
              have hlt2 : gl < w7.heap.size := by
                obtain ⟨vs', r1', _, _⟩ := HR7.out
                exact (r1'.lt gl rfl).2
              exact (hag' gl hlt2).trans hgl
            have i0 : (0 : Int) ≤ (k : Int) := by omega
            have i1 : (k : Int) < (m : Int) := by omega
            have i2 : (0 : Int) ≤ (nk : Int) := by omega
            have i3 : (nk : Int) < (np : Int) := by omega
            have d1 : decide (np ≤ nk) = false := by rw [decide_eq_false_iff_not]; omega
            have d2 : decide ((np : Int) ≤ (nk : Int)) = false := by rw [decide_eq_false_iff_not]; omega
            have LL := hide (And.intro fO lu)
            clear hA' hst' hag' hm' hX' hsb' r1 r2 r3 hrv hxs hxl hby hyb hPk hrP hgl hgp hru hrp hvp hws hnk hbp
            go_wp2_with fail
            go_upto_region 12 with fail
            go_cut [102] (fun b wy => b = .bool false ∧ St (fun _ => False) wr wy)
            case first =>
              go_quiet ((go_at_call 40; exact Calls.quiet_of ((HSB _).out)))
              go_wp2_with fail
              go_meet
              exact ⟨rfl, (St.refl (fun _ => False) wr).drewN _⟩
            case rest =>
              obtain ⟨rfl, hs8⟩ := hcut
              obtain ⟨w8, hw8⟩ : ∃ w8, w8 = wc := ⟨_, rfl⟩
              rw [← hw8] at hs8 ⊢
              clear hw8 fO lu fP lp
              have HS8 := hide hs8
              have HA8 := hide (HA3.out.quiet hs8)
              have R1' := hide (own_only R1.out hs8.only (fun _ _ e => e))
              have R2' := hide (R2.out.st hs8)
              have hSd : (fun V : World => V.cell? ⟨wb, 7, none⟩ = some (.slice Ar nk cr) ∧ V.cell? ⟨gl, k, none⟩ = some (.slice Au yb.length cu)) w8.drew := ⟨hs8.only.cell LL.out.1 (fun e => e), hs8.only.cell LL.out.2 (fun e => e)⟩
              have hby8 := HBY.out.st hs8
              have HBY8 := hide hby8
              obtain ⟨i28, hi28, hu0, hu1, hu2⟩ := info_parts info28
              clear hs8 hby8
              go_wp2_with fail
              refine wp_region_L [0, 14, 15, 16, 17] (fun V : World => V.cell? ⟨wb, 7, none⟩ = some (.slice Ar nk cr) ∧ V.cell? ⟨gl, k, none⟩ = some (.slice Au yb.length cu)) (by kernel_rfl) ?_
              refine wpL_takeU 0 (v := ?_) rfl (by kernel_rfl) (by kernel_rfl) (by kernel_rfl) (by kernel_rfl) (fun _ _ _ h => h) (Or.inl ⟨by rfl, ?_⟩) ?_
              rotate_left
              · intro V _
                go_simp
                try with_reducible rfl
              simp only [Act.put, List.setIfInBounds_toArray, List.set_cons_zero, List.set_cons_succ]
              refine wpL_takeU 14 (v := ?_) rfl (by kernel_rfl) (by kernel_rfl) (by kernel_rfl) (by kernel_rfl) (fun _ _ _ h => h) (Or.inl ⟨by rfl, ?_⟩) ?_
              rotate_left
              · intro V _
                go_simp
                try with_reducible rfl
              simp only [Act.put, List.setIfInBounds_toArray, List.set_cons_zero, List.set_cons_succ]
              refine wpL_takeU 15 (v := ?_) rfl (by kernel_rfl) (by kernel_rfl) (by kernel_rfl) (by kernel_rfl) (fun _ _ _ h => h) (Or.inl ⟨by rfl, ?_⟩) ?_
              rotate_left
              · intro V _
                go_simp
                try with_reducible rfl
              simp only [Act.put, List.setIfInBounds_toArray, List.set_cons_zero, List.set_cons_succ]
              refine wpL_take 1 (v := ?_) rfl (by kernel_rfl) (by kernel_rfl) (by kernel_rfl) (by kernel_rfl) (fun _ _ _ h => h) (Or.inl ⟨by rfl, ?_⟩) hSd ?_
              rotate_left
              · intro V hV
                try dsimp only at hV
                go_simp
                try with_reducible rfl
              simp only [Act.put, List.setIfInBounds_toArray, List.set_cons_zero, List.set_cons_succ]
              refine wpL_take 2 (v := ?_) rfl (by kernel_rfl) (by kernel_rfl) (by kernel_rfl) (by kernel_rfl) (fun _ _ _ h => h) (Or.inl ⟨by rfl, ?_⟩) hSd ?_
              rotate_left
              · intro V hV
                try dsimp only at hV
                go_simp
                try with_reducible rfl
              simp only [Act.put, List.setIfInBounds_toArray, List.set_cons_zero, List.set_cons_succ]
              refine wpL_take 3 (v := ?_) rfl (by kernel_rfl) (by kernel_rfl) (by kernel_rfl) (by kernel_rfl) (fun _ _ _ h => h) (Or.inl ⟨by rfl, ?_⟩) hSd ?_
              rotate_left
              · intro V hV
                try dsimp only at hV
                go_simp
                try with_reducible rfl
              simp only [Act.put, List.setIfInBounds_toArray, List.set_cons_zero, List.set_cons_succ]
              refine wpL_take 4 (v := ?_) rfl (by kernel_rfl) (by kernel_rfl) (by kernel_rfl) (by kernel_rfl) (fun _ _ _ h => h) (Or.inl ⟨by rfl, ?_⟩) hSd ?_
              rotate_left
              · intro V hV
                try dsimp only at hV
                go_simp
                try with_reducible rfl
              simp only [Act.put, List.setIfInBounds_toArray, List.set_cons_zero, List.set_cons_succ]
              refine wpL_take 5 (v := ?_) rfl (by kernel_rfl) (by kernel_rfl) (by kernel_rfl) (by kernel_rfl) (fun _ _ _ h => h) (Or.inl ⟨by rfl, ?_⟩) hSd ?_
              rotate_left
              · intro V hV
                try dsimp only at hV
                go_simp
                try with_reducible rfl
              simp only [Act.put, List.setIfInBounds_toArray, List.set_cons_zero, List.set_cons_succ]
              refine wpL_take 6 (v := ?_) rfl (by kernel_rfl) (by kernel_rfl) (by kernel_rfl) (by kernel_rfl) (fun _ _ _ h => h) (Or.inl ⟨by rfl, ?_⟩) hSd ?_
              rotate_left
              · intro V hV
                try dsimp only at hV
                go_simp
                try with_reducible rfl
              simp only [Act.put, List.setIfInBounds_toArray, List.set_cons_zero, List.set_cons_succ]
              refine wpL_take 7 (v := ?_) rfl (by kernel_rfl) (by kernel_rfl) (by kernel_rfl) (by kernel_rfl) (fun _ _ _ h => h) (Or.inl ⟨by rfl, ?_⟩) hSd ?_
              rotate_left
              · intro V hV
                try dsimp only at hV
                go_simp
                try with_reducible rfl
              simp only [Act.put, List.setIfInBounds_toArray, List.set_cons_zero, List.set_cons_succ]
              refine wpL_take 8 (v := ?_) rfl (by kernel_rfl) (by kernel_rfl) (by kernel_rfl) (by kernel_rfl) (fun _ _ _ h => h) (Or.inl ⟨by rfl, ?_⟩) hSd ?_
              rotate_left
              · intro V hV
                try dsimp only at hV
                go_simp
                try with_reducible rfl
              simp only [Act.put, List.setIfInBounds_toArray, List.set_cons_zero, List.set_cons_succ]
              refine wpL_take 9 (v := ?_) rfl (by kernel_rfl) (by kernel_rfl) (by kernel_rfl) (by kernel_rfl) (fun _ _ _ h => h) (Or.inl ⟨by rfl, ?_⟩) hSd ?_
              rotate_left
              · intro V hV
                try dsimp only at hV
                go_simp
                try with_reducible rfl
              simp only [Act.put, List.setIfInBounds_toArray, List.set_cons_zero, List.set_cons_succ]
              refine wpL_take 10 (v := ?_) rfl (by kernel_rfl) (by kernel_rfl) (by kernel_rfl) (by kernel_rfl) (fun _ _ _ h => h) (Or.inl ⟨by rfl, ?_⟩) hSd ?_
              rotate_left
              · intro V hV
                try dsimp only at hV
                go_simp
                try with_reducible rfl
              simp only [Act.put, List.setIfInBounds_toArray, List.set_cons_zero, List.set_cons_succ]
              refine wpL_take 11 (v := ?_) rfl (by kernel_rfl) (by kernel_rfl) (by kernel_rfl) (by kernel_rfl) (fun _ _ _ h => h) (Or.inl ⟨by rfl, ?_⟩) hSd ?_
              rotate_left
              · intro V hV
                try dsimp only at hV
                go_simp
                try with_reducible rfl
              simp only [Act.put, List.setIfInBounds_toArray, List.set_cons_zero, List.set_cons_succ]
              refine wpL_one 12 (by kernel_rfl) rfl (fun K hK => ?_)
              refine step_in (by rfl) ?_
              go_simp
              have hsA : St (fun _ => False) w8 ((w8.alloc (.cells #[.slice Au yb.length cu] 28)).drew) := ((St.refl (fun _ => False) w8).alloc _).drew
              have hSA : (fun V : World => V.cell? ⟨wb, 7, none⟩ = some (.slice Ar nk cr) ∧ V.cell? ⟨gl, k, none⟩ = some (.slice Au yb.length cu)) ((w8.alloc (.cells #[.slice Au yb.length cu] 28)).drew) := ⟨hsA.only.cell hSd.1 (fun e => e), hsA.only.cell hSd.2 (fun e => e)⟩
              refine hK _ _ (fun _ => hSA) ?_
              clear hK K
              try simp only [Act.put, List.setIfInBounds_toArray, List.set_cons_zero, List.set_cons_succ]

              refine wpL_one 13 (by kernel_rfl) rfl (fun K hK => ?_)
              refine step_push ((w8.alloc (.cells #[.slice Au yb.length cu] 28)).drew) (by rfl) (.tmp 110) (.tmp 115) _ (by rfl) 0 28 i28 _ 1 24 Try.underlying36 hi28 hu0 hu1 hu2 (by rfl) (by omega) (.slice Ar nk cr) nk vs (by rfl) ?_ w8.heap.size 1 1 #[.slice Au yb.length cu] (by rfl) (Blk.drew (Blk.new _ _ _)) (by rfl) ?_ (by omega) ?_ ?_ (Nat.zero_le _) ?_
              · exact own_only R1'.out hsA.only (fun _ _ e => e)
              · intro u' hu'
                simp at hu'
                subst hu'
                rfl
              · unfold maxLen; omega
              · omega
              intro g9 cap9 w9 hown9 hgr9 hor9 hlt9
              obtain ⟨st9, kp9⟩ := row_grown (S := fun q => o' q = 7 + 1) (by decide) R1'.out R3.out hsA hgr9
              have hgn : ¬ (o' gl = 7 + 1) := by rw [HGL.out]; omega
              have hwn : ¬ (o' wb = 7 + 1) := by rw [HA8.out.ohead]; omega
              have hS9 : (fun V : World => V.cell? ⟨wb, 7, none⟩ = some (.slice Ar nk cr) ∧ V.cell? ⟨gl, k, none⟩ = some (.slice Au yb.length cu)) w9 := ⟨st9.only.cell hSd.1 hwn, st9.only.cell hSd.2 hgn⟩
              refine hK _ _ (fun _ => hS9) ?_
              clear hK K
              try simp only [Act.put, List.setIfInBounds_toArray, List.set_cons_zero, List.set_cons_succ]

              refine wpL_takeU 16 (v := ?_) rfl (by kernel_rfl) (by kernel_rfl) (by kernel_rfl) (by kernel_rfl) (fun _ _ _ h => h) (Or.inl ⟨by rfl, ?_⟩) ?_
              rotate_left
              · intro V _
                go_simp
                try with_reducible rfl
              simp only [Act.put, List.setIfInBounds_toArray, List.set_cons_zero, List.set_cons_succ]
              have fr9 := (HA8.out.head.st st9 hwn).frozen 7
              have f9 := hS9.1
              refine wpL_one 17 (by kernel_rfl) rfl (fun K hK => ?_)
              refine step_in (by rfl) ?_
              go_simp
              refine hK _ _ (fun h => absurd h (by decide)) ?_
              clear hK K
              refine wpL_done (by kernel_rfl) ?_ _
              have hfin : WStep w8 o' wb W Sp g' (outK x1 1 os (k + 1)) (w9.setCell ⟨wb, 7, none⟩ (.slice (some ⟨g9, 0, none⟩) (nk + 1) cap9)) := by
                obtain ⟨hxs, hxl⟩ := HXS.out
                subst hxl
                refine HA8.out.pushB (k := 1) (s := 1) (by omega) (by omega) (y := outK x1 1 os (k + 1)) (i := 7) R1'.out R2'.out R3.out hsA hgr9 (v6 := .slice Au yb.length cu) (bd := yb) (HBY8.out.st hsA) hown9 hor9 rfl (rows_O rfl rfl rfl (fun q hq => by
                  show upd _ _ _ q = upd _ _ _ q
                  rw [upd_ne _ _ _ _ hq, upd_ne _ _ _ _ hq])) (fun w S v hh => by
                  show BRow w S v ((outK x1 1 os (k + 1)).O 1)
                  rw [outK_O, HXO.out.1, List.take_add_one, HYB.out, ← List.append_assoc, ← hxs]
                  exact hh) rfl
              obtain ⟨y1, y2, y3, y4, y5⟩ := HS3.out
              have HFIN : Hid (WStep w7 o wb W Sp g (outK x1 1 os (k + 1)) (w9.setCell ⟨wb, 7, none⟩ (.slice (some ⟨g9, 0, none⟩) (nk + 1) cap9))) := WStep.after (y1.trans (HS8.out.mono fun _ _ e => e.elim)) (fun q hq => y2 q hq) ⟨y3, y4, y5⟩ hfin
              clear hfin st9 kp9 hS9 hSd hSA hsA hown9 hgr9 hor9 y1 y2 y3 y4 y5 hgn hwn i0 i1 i2 i3 d1 d2
              go_wp2
              go_roundw
              case rel => first | exact ⟨k + 1, by omega, by go_num, HFIN⟩ | ((repeat apply Exists.intro); exact ⟨⟨k + 1, by omega, by go_num, HFIN⟩, rfl⟩)
              case measure => simp [intOf]; omega
          · obtain rfl : k = m := by omega
            have hwsm : WStep w7 o wb W Sp g (carryF x 1 f) wr := by rw [← HX2.out, ← HM.out.1]; exact hws.out
            have HWSM := hide hwsm
            obtain ⟨o', g', hA', hst', hag', hm', hX', hsb'⟩ := hwsm
            have HGT : ∀ n', Hid (Calls Try.prog 30 #[.pointer (some ⟨g.m 1, 0, none⟩), .int .i64 2] (wr.drewN n') fun r w' => r = .returned (.int .i64 (((carryF x 1 f).O 1).length : Int)) ∧ wr.drewN n' = w') := fun n' => by
              have hh := (hA'.quiet ((St.refl (fun _ => False) wr).drewN n')).got HI7.out (by omega) (s := 1) (by omega) (p := 2) rfl
              rw [hm'] at hh
              exact hh
            have kM : wr.cell? ⟨wb, 1, none⟩ = some (.pointer (some ⟨g.m 1, 0, none⟩)) := by rw [← hm']; exact hA'.cellM 1 (by omega)
            obtain ⟨Ao, co, vso, hvo, _, _, hco⟩ := BRow.val (hA'.row 1 1 (by omega) (by omega))
            have fO : wr.cell? ⟨wb, 7, none⟩ = some (g'.row 1 1) := hA'.cellR 1 1 (by omega) (by omega)
            rw [hvo] at fO
            generalize ((carryF x 1 f).O 1).length = nf at HGT fO hco
            clear hA' hst' hag' hm' hX' hsb' hvo hws
            go_wp2_with fail
            go_quiet ((first | (go_at_call 21; exact quiet_left (pid0 _)) | (go_at_call 30; exact quiet_left ((HGT _).out))))
            go_wp2
            go_ret
            have e1 : carryS x 0 1 kn = carryF x 1 f := by unfold carryS; rw [HPICK.out]
            rw [e1]
            exact ⟨rfl, (WStep.after ((HST4.out.mono fun _ _ e => e.elim).trans HS7.out) (fun _ _ => rfl) ⟨rfl, rfl, rfl⟩ HWSM.out).quiet ((St.refl (fun _ => False) wr).drewN _)⟩
end Go.Proofs.Ytkkckinnhkpcmaa
