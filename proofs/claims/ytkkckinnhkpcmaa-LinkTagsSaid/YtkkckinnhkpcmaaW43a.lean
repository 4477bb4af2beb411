/-
  Contract of Wire.answer from the side 0. (Printed for both sides by wip/tools/mkanswer.py, sides.py.)
-/
import Derived.Test.YtkkckinnhkpcmaaWtake
set_option linter.unusedVariables false
set_option linter.unusedSimpArgs false
namespace Go.Proofs.Ytkkckinnhkpcmaa
open Go.RowKit Go.WideShapes Go.ChangeShapes Q

def BoxB0 (w : World) (o : Nat → Nat) (u : Int) (s7 : Value) (wx : World) : Prop :=
  ∃ b, s7 = .pointer (some ⟨b, 0, none⟩) ∧ Blk wx b 60 #[.int .i64 3, .int .i64 2, .int .i64 4, .int .i64 9, .int .i64 u] ∧ St (fun _ => False) w wx ∧ o b = 0
set_option maxRecDepth 100000 in
set_option maxHeartbeats 2000000 in
theorem wanswer0 (w : World) (o : Nat → Nat) (wb W Sp n : Nat) (g : Gw) (x : Wr) (kn : Int) (h : WireAt w o wb W Sp g x) (hI : Inv W Sp n x) (hn : n < 5000) (hk0 : -9223372036854775808 ≤ kn) (hk1 : kn ≤ 9223372036854775807) :
    Calls Try.prog 43 #[.pointer (some ⟨wb, 0, none⟩), .int .i64 0, .int .i64 kn] w fun e w' => e = .returned (.bool true) ∧ WStep w o wb W Sp g (answerS x 0 1 kn) w' := by
  have HW := hide h
  have HI := hide hI
  have f0 : w.cell? ⟨wb, 10, none⟩ = some (g.row 3 0) := h.cellR 3 0 (by omega) (by omega)
  have hfr : ARow w (fun q => o q = 5 + 2 * 3 + 0) (g.row 3 0) (x.A 0) := h.row 3 0 (by omega) (by omega)
  have hfl : (x.A 0).length ≤ 5000 := by
    obtain ⟨p1, q1, hh1⟩ := hI 1 0 (by omega)
    have h1 := hh1.cA
    omega
  clear h hI
  by_cases hF : (x.A 0).length = 0
  · have e1 : answerS x 0 1 kn = x := by unfold answerS; rw [pick_none _ _ hF]
    obtain ⟨A, c, hv⟩ : ∃ A c, g.row 3 0 = .slice A 0 c := by
      obtain ⟨h1, _⟩ := hfr
      obtain ⟨A, c, e, _, _⟩ := own_val h1
      exact ⟨A, c, by rw [e, hF]⟩
    rw [hv] at f0
    rw [e1]
    clear hfr hv e1 hF hfl
    go_enter Try.func43, Try.ntmps43
    go_wp2
    go_ret
    exact ⟨rfl, HW.out.refl_ (St.refl _ w)⟩
  · obtain ⟨j, u, hj, hmod, hfj, hpick⟩ := pick_at (x.A 0) kn hF
    obtain ⟨gf, cap, hv, hcap, hgf, l0, l1, l2, l3, l4⟩ := hfr.at_ hj hfj
    obtain ⟨an, han⟩ : ∃ an, an = absZ kn := ⟨_, rfl⟩
    have HAB : ∀ V, Hid (Calls Try.prog 39 #[.int .i64 kn] V fun r w' => r = .returned (.int .i64 an) ∧ V = w') := fun V => by
      have hh := abs_any kn V hk0 hk1
      rw [← han] at hh
      exact hh
    have ha0 : 0 ≤ an := by rw [han]; exact absZ_nonneg kn
    have ha1 : an ≤ 9223372036854775807 := by rw [han]; exact absZ_le hk0 hk1
    rw [← han] at hmod
    clear han
    have hfmem : u ∈ x.A 0 := List.mem_of_getElem? hfj
    have HPICK := hide hpick
    have HFM := hide hfmem
    rw [hv] at f0
    generalize hnl : (x.A 0).length = nl at *
    clear hnl
    have L0 : (fun V : World => V.cell? ⟨wb, 10, none⟩ = some (.slice (some ⟨gf, 0, none⟩) nl cap) ∧ V.cell? ⟨gf, j * 5, none⟩ = some (.int .i64 3) ∧ V.cell? ⟨gf, j * 5 + 1, none⟩ = some (.int .i64 2) ∧ V.cell? ⟨gf, j * 5 + 2, none⟩ = some (.int .i64 4) ∧ V.cell? ⟨gf, j * 5 + 3, none⟩ = some (.int .i64 9) ∧ V.cell? ⟨gf, j * 5 + 4, none⟩ = some (.int .i64 u)) w := ⟨f0, l0, l1, l2, l3, l4⟩
    have LD : (fun V : World => V.cell? ⟨wb, 10, none⟩ = some (.slice (some ⟨gf, 0, none⟩) nl cap) ∧ V.cell? ⟨gf, j * 5, none⟩ = some (.int .i64 3) ∧ V.cell? ⟨gf, j * 5 + 1, none⟩ = some (.int .i64 2) ∧ V.cell? ⟨gf, j * 5 + 2, none⟩ = some (.int .i64 4) ∧ V.cell? ⟨gf, j * 5 + 3, none⟩ = some (.int .i64 9) ∧ V.cell? ⟨gf, j * 5 + 4, none⟩ = some (.int .i64 u)) w.drew := L0
    have LB : (fun V : World => V.cell? ⟨wb, 10, none⟩ = some (.slice (some ⟨gf, 0, none⟩) nl cap) ∧ V.cell? ⟨gf, j * 5, none⟩ = some (.int .i64 3) ∧ V.cell? ⟨gf, j * 5 + 1, none⟩ = some (.int .i64 2) ∧ V.cell? ⟨gf, j * 5 + 2, none⟩ = some (.int .i64 4) ∧ V.cell? ⟨gf, j * 5 + 3, none⟩ = some (.int .i64 9) ∧ V.cell? ⟨gf, j * 5 + 4, none⟩ = some (.int .i64 u)) (w.alloc (.cells #[.int .i64 0, .int .i64 0, .int .i64 0, .int .i64 0, .int .i64 0] 60)).drew := ⟨cell_alloc L0.1 _, cell_alloc L0.2.1 _, cell_alloc L0.2.2.1 _, cell_alloc L0.2.2.2.1 _, cell_alloc L0.2.2.2.2.1 _, cell_alloc L0.2.2.2.2.2 _⟩
    have LC : (fun V : World => V.cell? ⟨wb, 10, none⟩ = some (.slice (some ⟨gf, 0, none⟩) nl cap) ∧ V.cell? ⟨gf, j * 5, none⟩ = some (.int .i64 3) ∧ V.cell? ⟨gf, j * 5 + 1, none⟩ = some (.int .i64 2) ∧ V.cell? ⟨gf, j * 5 + 2, none⟩ = some (.int .i64 4) ∧ V.cell? ⟨gf, j * 5 + 3, none⟩ = some (.int .i64 9) ∧ V.cell? ⟨gf, j * 5 + 4, none⟩ = some (.int .i64 u)) (w.alloc (.cells #[.int .i64 3, .int .i64 2, .int .i64 4, .int .i64 9, .int .i64 u] 60)).drew := ⟨cell_alloc L0.1 _, cell_alloc L0.2.1 _, cell_alloc L0.2.2.1 _, cell_alloc L0.2.2.2.1 _, cell_alloc L0.2.2.2.2.1 _, cell_alloc L0.2.2.2.2.2 _⟩
    have j0 : (0 : Int) ≤ (j : Int) := by omega
    have j1 : (j : Int) < (nl : Int) := by omega
    have hne : ((nl : Int) == 0) = false := by rw [beq_eq_false_iff_ne]; omega
    have hne1 : ¬ (nl : Int) = 0 := by omega
    have htm : an.tmod (nl : Int) = (j : Int) := by rw [Int.tmod_eq_emod_of_nonneg ha0]; exact hmod
    have hwj : IntKind.i64.wrap (j : Int) = (j : Int) := IntWalk.i64_in _ (by constructor <;> omega)
    have hne2 : (1 : Int) ≤ (nl : Int) := by omega
    have HOB : Hid (o w.heap.size = 0) := HW.out.lim _ (Nat.le_refl _)
    clear hpick hfmem hfj l0 l1 l2 l3 l4 hv hfr hgf
    go_enter Try.func43, Try.ntmps43
    go_wp2_with fail
    go_upto_region 3 with fail
    go_cut [7] (fun s7 wy => BoxB0 w o u s7 wy)
    case first =>
      go_region_held3 (fun V : World => V.cell? ⟨wb, 10, none⟩ = some (.slice (some ⟨gf, 0, none⟩) nl cap) ∧ V.cell? ⟨gf, j * 5, none⟩ = some (.int .i64 3) ∧ V.cell? ⟨gf, j * 5 + 1, none⟩ = some (.int .i64 2) ∧ V.cell? ⟨gf, j * 5 + 2, none⟩ = some (.int .i64 4) ∧ V.cell? ⟨gf, j * 5 + 3, none⟩ = some (.int .i64 9) ∧ V.cell? ⟨gf, j * 5 + 4, none⟩ = some (.int .i64 u))
        (first | with_reducible exact LD | with_reducible exact LB | with_reducible exact LC)
        ((go_at_call 39; first | ((with_reducible refine (HAB w.drew).out.mono ?_); rintro e w' ⟨rfl, rfl⟩) | ((with_reducible refine (HAB (w.alloc (.cells #[.int .i64 0, .int .i64 0, .int .i64 0, .int .i64 0, .int .i64 0] 60)).drew).out.mono ?_); rintro e w' ⟨rfl, rfl⟩)))
      all_goals
        go_wp2_with fail
        go_meet
        exact ⟨_, rfl, Blk.drew (Blk.new _ _ _), ((St.refl _ w).alloc _).drew, HOB.out⟩
    case rest =>
      obtain ⟨b, rfl, hbx, hst4, hob4⟩ := hcut
      have HOB4 := hide hob4
      obtain ⟨w4, hw4⟩ : ∃ w4, w4 = wc := ⟨_, rfl⟩
      rw [← hw4] at hbx hst4 ⊢
      clear hw4 L0 LD LB LC f0 HAB hne hne1 hne2 htm hwj hmod j0 j1 ha0 ha1 hF
      have HW4 := hide (HW.out.quiet hst4)
      have HST4 := hide hst4
      have kM := HW4.out.cellM 1 (by omega)
      obtain ⟨b0, b1, b2, b3, b4⟩ := m5 hbx
      have M0 : (fun V : World => V.cell? ⟨wb, 1, none⟩ = some (.pointer (some ⟨g.m 1, 0, none⟩)) ∧ V.cell? ⟨b, 0, none⟩ = some (.int .i64 3) ∧ V.cell? ⟨b, 1, none⟩ = some (.int .i64 2) ∧ V.cell? ⟨b, 2, none⟩ = some (.int .i64 4) ∧ V.cell? ⟨b, 3, none⟩ = some (.int .i64 9) ∧ V.cell? ⟨b, 4, none⟩ = some (.int .i64 u)) w4.drew := ⟨kM, b0, b1, b2, b3, b4⟩
      obtain ⟨x1, hx1⟩ : ∃ x1 : Wr, x1 = answerU x 1 u := ⟨_, rfl⟩
      have HAK : Hid (Calls Try.prog 29 #[.pointer (some ⟨g.m 1, 0, none⟩), .int .i64 2, .agg #[.int .i64 3, .int .i64 2, .int .i64 4, .int .i64 9, .int .i64 u]] w4.drew fun e w' => e = .returned (.int .i64 0) ∧ WStep w4.drew o wb W Sp g x1 w') := by
        have hh := (HW4.out.quiet (St.refl (fun _ => False) w4).drew).acked HI.out (by omega) (s := 0) (t := 1) rfl (p := 2) rfl HFM.out
        rw [← hx1] at hh
        unfold tg akC at hh
        simp only at hh
        exact hh
      have HX1 := hide hx1
      clear hbx hst4 hx1 kM b0 b1 b2 b3 b4 hob4
      go_wp2_with fail
      have wz0 : IntKind.i64.wrap 0 = 0 := by kernel_rfl
      have wz1 : IntKind.i64.wrap 1 = 1 := by kernel_rfl
      go_region_held3 (fun V : World => V.cell? ⟨wb, 1, none⟩ = some (.pointer (some ⟨g.m 1, 0, none⟩)) ∧ V.cell? ⟨b, 0, none⟩ = some (.int .i64 3) ∧ V.cell? ⟨b, 1, none⟩ = some (.int .i64 2) ∧ V.cell? ⟨b, 2, none⟩ = some (.int .i64 4) ∧ V.cell? ⟨b, 3, none⟩ = some (.int .i64 9) ∧ V.cell? ⟨b, 4, none⟩ = some (.int .i64 u))
        (first | with_reducible exact M0 | with_reducible exact M5)
        (first
          | ((go_at_call 21; refine (pid0 _).mono ?_; rintro e w' ⟨rfl, rfl⟩))
          | ((go_at_call 15; refine (num_any _ _).mono ?_; rintro e w' ⟨rfl, rfl⟩))
          | ((go_at_call 29; refine HAK.out.mono ?_; rintro e w5 ⟨rfl, hs5⟩; have HS5 := hide hs5; obtain ⟨o5, g5, hA5, st5, ag5, em5, eX5, es5⟩ := hs5; have M5 : (fun V : World => V.cell? ⟨wb, 1, none⟩ = some (.pointer (some ⟨g.m 1, 0, none⟩)) ∧ V.cell? ⟨b, 0, none⟩ = some (.int .i64 3) ∧ V.cell? ⟨b, 1, none⟩ = some (.int .i64 2) ∧ V.cell? ⟨b, 2, none⟩ = some (.int .i64 4) ∧ V.cell? ⟨b, 3, none⟩ = some (.int .i64 9) ∧ V.cell? ⟨b, 4, none⟩ = some (.int .i64 u)) w5 := ⟨HS5.out.cellM 1 (by omega), st5.only.cell M0.2.1 (fun e => e HOB4.out), st5.only.cell M0.2.2.1 (fun e => e HOB4.out), st5.only.cell M0.2.2.2.1 (fun e => e HOB4.out), st5.only.cell M0.2.2.2.2.1 (fun e => e HOB4.out), st5.only.cell M0.2.2.2.2.2 (fun e => e HOB4.out)⟩; clear hA5 st5 ag5 em5 eX5 es5)))
      go_wp2
      go_ret
      have e1 : answerS x 0 1 kn = x1 := by unfold answerS; rw [HPICK.out, HX1.out]
      rw [e1]
      exact ⟨rfl, WStep.after ((HST4.out.mono fun _ _ e => e.elim).trans (St.refl _ w4).drew) (fun _ _ => rfl) ⟨rfl, rfl, rfl⟩ HS5.out⟩
end Go.Proofs.Ytkkckinnhkpcmaa
