/-
  Contract of Wire.owe at the side 0. (Printed for both sides by wip/tools/sides.py.)
-/
import Derived.Test.YtkkckinnhkpcmaaWowe
set_option linter.unusedVariables false
set_option linter.unusedSimpArgs false
namespace Go.Proofs.Ytkkckinnhkpcmaa
open Go.RowKit Go.WideShapes Go.ChangeShapes Q

set_option maxRecDepth 100000 in
set_option maxHeartbeats 2000000 in
theorem wowe0 (w : World) (o : Nat → Nat) (wb W Sp n : Nat) (g : Gw) (x : Wr) (h : WireAt w o wb W Sp g x) (hI : Inv W Sp n x) (hn : n < 5000) :
    Calls Try.prog 42 #[.pointer (some ⟨wb, 0, none⟩), .int .i64 0] w fun e w' => e = .returned (.bool true) ∧ WStep w o wb W Sp g (oweS x 0) w' := by
  have HW := hide h
  have HI := hide hI
  have k0 := h.cellM 0 (by omega)
  clear h hI
  by_cases ho : (x.st 0).owed = true
  · have HOW : ∀ V, St (fun _ => False) w V → Hid (Calls Try.prog 33 #[.pointer (some ⟨g.m 0, 0, none⟩), .int .i64 5] V fun e w' => e = .returned (.tuple #[.agg (akC tg (x.O 0).length), .bool true]) ∧ WStep V o wb W Sp g { x with st := upd x.st 0 { x.st 0 with owed := false } } w') := fun V hV =>
      (HW.out.quiet hV).owedY HI.out (by omega) (s := 0) (by omega) (p := 5) rfl ho
    have HO := hide ho
    clear ho
    go_enter Try.func42, Try.ntmps42
    go_wp2_with fail
    obtain ⟨nu, hnu⟩ : ∃ nu, nu = (x.O 0).length := ⟨_, rfl⟩
    obtain ⟨x1, hx1⟩ : ∃ x1 : Wr, x1 = { x with st := upd x.st 0 { x.st 0 with owed := false } } := ⟨_, rfl⟩
    rw [← hnu, ← hx1] at HOW
    unfold tg akC at HOW
    simp only at HOW
    have HNU := hide hnu
    have HX1 := hide hx1
    have kb := cell_alloc k0 (.cells #[.int .i64 0, .int .i64 0, .int .i64 0, .int .i64 0, .int .i64 0] 60)
    have kd : w.drew.cell? ⟨wb, 0, none⟩ = some (.pointer (some ⟨g.m 0, 0, none⟩)) := k0
    have kbd : (w.alloc (.cells #[.int .i64 0, .int .i64 0, .int .i64 0, .int .i64 0, .int .i64 0] 60)).drew.cell? ⟨wb, 0, none⟩ = some (.pointer (some ⟨g.m 0, 0, none⟩)) := kb
    have hAA : St (fun _ => False) w w.drew := (St.refl _ w).drew
    have hBB : St (fun _ => False) w (w.alloc (.cells #[.int .i64 0, .int .i64 0, .int .i64 0, .int .i64 0, .int .i64 0] 60)).drew := ((St.refl _ w).alloc _).drew
    have hob : Hid (o w.heap.size = 0) := HW.out.lim _ (Nat.le_refl _)
    have hwn : wb ≠ w.heap.size := Nat.ne_of_lt HW.out.head.lt
    clear hnu hx1
    go_upto_region 1 with fail
    go_cut [5, 6] (fun s5 s6 wx => OweC w o wb W Sp g x1 (nu : Int) true s5 s6 wx)
    case first =>
      go_region_held3 (fun V => V.cell? ⟨wb, 0, none⟩ = some (.pointer (some ⟨g.m 0, 0, none⟩)))
        (first | with_reducible exact kd | with_reducible exact kbd | with_reducible exact ka | with_reducible exact cell_alloc ka _ | with_reducible exact cell_set hwn (cell_set hwn (cell_set hwn (cell_set hwn (cell_set hwn ka)))))
        (first
          | ((go_at_call 21; refine (pid1 _).mono ?_; rintro e w' ⟨rfl, rfl⟩))
          | ((go_at_call 33; first
            | ((with_reducible refine (HOW w.drew hAA).out.mono ?_); rintro e w1 ⟨rfl, hs1⟩; have ka := hs1.cellM 0 (by omega); have HSA := hide hs1; clear hs1)
            | ((with_reducible refine (HOW _ hBB).out.mono ?_); rintro e w1 ⟨rfl, hs1⟩; have ka := hs1.cellM 0 (by omega); have hbb := hs1.blk (Blk.drew (Blk.new w 60 #[.int .i64 0, .int .i64 0, .int .i64 0, .int .i64 0, .int .i64 0])) hob.out; obtain ⟨q0, q1, q2, q3, q4⟩ := m5 hbb; have f0 := hbb.frozen 0; have f1 := hbb.frozen 1; have f2 := hbb.frozen 2; have f3 := hbb.frozen 3; have f4 := hbb.frozen 4; have HSB := hide hs1; clear hs1 hbb))))
      all_goals
        go_wp2_with fail
        go_meet
        first | (with_reducible exact OweC.late HW.out HSA.out) | (with_reducible exact OweC.early HW.out HSB.out rfl)
    case rest =>
      obtain ⟨b, rfl, rfl, hb, o', g', hA, hst, hag, hm, hX, hsb, hob'⟩ := hcut
      have HA1 := hide hA
      have HB1 := hide hb
      have HST1 := hide hst
      have HEQ := hide (And.intro hag (And.intro hm (And.intro hX hsb)))
      have r0 : ARow wc (fun q => o' q = 5 + 2 * 3 + 0) (g'.row 3 0) (x.A 0) := by
        have hr := HA1.out.row 3 0 (by omega) (by omega)
        rw [HX1.out] at hr
        exact hr
      obtain ⟨r1, r3⟩ := r0
      have hxl : (x.A 0).length ≤ 5000 := by
        obtain ⟨p1, q1, hh1⟩ := HI.out 1 0 (by omega)
        have h1 := hh1.cA
        omega
      have f0 : wc.cell? ⟨wb, 10, none⟩ = some (g'.row 3 0) := HA1.out.cellR 3 0 (by omega) (by omega)
      generalize hrv : g'.row 3 0 = rv at *
      obtain ⟨Ar, cr, rfl, _, _⟩ := own_val r1
      have R1 := hide r1
      have R3 := hide r3
      have hwb : ¬ (o' wb = 11 + 0) := by rw [HA1.out.ohead]; omega
      have hbn : ¬ (o' b = 11 + 0) := by rw [hob']; omega
      have HWB := hide hwb
      have HBN := hide hbn
      have HOB := hide hob'
      obtain ⟨w4, hw4⟩ : ∃ w4, w4 = wc := ⟨_, rfl⟩
      rw [← hw4] at HA1 HB1 HST1 R1 f0 ⊢
      clear hw4
      obtain ⟨b0, b1, b2, b3, b4⟩ := m5 HB1.out
      have hSd : (fun V : World => V.cell? ⟨wb, 10, none⟩ = some (.slice Ar (x.A 0).length cr) ∧ V.cell? ⟨b, 0, none⟩ = some (.int .i64 3) ∧ V.cell? ⟨b, 1, none⟩ = some (.int .i64 2) ∧ V.cell? ⟨b, 2, none⟩ = some (.int .i64 4) ∧ V.cell? ⟨b, 3, none⟩ = some (.int .i64 9) ∧ V.cell? ⟨b, 4, none⟩ = some (.int .i64 (nu : Int))) w4.drew := ⟨f0, b0, b1, b2, b3, b4⟩
      obtain ⟨i60, hi60, hu0, hu1, hu2⟩ := info_parts info60z
      clear hA hb hst hag hm hX hsb hob' r1 r3 hrv f0 b0 b1 b2 b3 b4 hwb hbn kd kb kbd k0 hwn hob hAA hBB
      go_upto_region 4 with fail
      go_cut [] (fun wx => WStep w4 o' wb W Sp g' (oweS x 0) wx ∧ Blk wx b 60 #[.int .i64 3, .int .i64 2, .int .i64 4, .int .i64 9, .int .i64 (nu : Int)])
      case first =>
        refine wp_region_L [0, 11, 12, 13, 14] (fun V : World => V.cell? ⟨wb, 10, none⟩ = some (.slice Ar (x.A 0).length cr) ∧ V.cell? ⟨b, 0, none⟩ = some (.int .i64 3) ∧ V.cell? ⟨b, 1, none⟩ = some (.int .i64 2) ∧ V.cell? ⟨b, 2, none⟩ = some (.int .i64 4) ∧ V.cell? ⟨b, 3, none⟩ = some (.int .i64 9) ∧ V.cell? ⟨b, 4, none⟩ = some (.int .i64 (nu : Int))) (by kernel_rfl) ?_
        refine wpL_takeU 0 (v := ?_) rfl (by kernel_rfl) (by kernel_rfl) (by kernel_rfl) (by kernel_rfl) (fun _ _ _ h => h) (Or.inl ⟨by rfl, ?_⟩) ?_
        rotate_left
        · intro V _
          go_simp
          try with_reducible rfl
        simp only [Act.put, List.setIfInBounds_toArray, List.set_cons_zero, List.set_cons_succ]
        refine wpL_takeU 11 (v := ?_) rfl (by kernel_rfl) (by kernel_rfl) (by kernel_rfl) (by kernel_rfl) (fun _ _ _ h => h) (Or.inl ⟨by rfl, ?_⟩) ?_
        rotate_left
        · intro V _
          go_simp
          try with_reducible rfl
        simp only [Act.put, List.setIfInBounds_toArray, List.set_cons_zero, List.set_cons_succ]
        refine wpL_takeU 12 (v := ?_) rfl (by kernel_rfl) (by kernel_rfl) (by kernel_rfl) (by kernel_rfl) (fun _ _ _ h => h) (Or.inl ⟨by rfl, ?_⟩) ?_
        rotate_left
        · intro V _
          go_simp
          try with_reducible rfl
        simp only [Act.put, List.setIfInBounds_toArray, List.set_cons_zero, List.set_cons_succ]
        refine wpL_take 1 (v := ?_) rfl (by kernel_rfl) (by kernel_rfl) (by kernel_rfl) (by kernel_rfl) (fun _ _ _ h => h) (Or.inl ⟨by rfl, ?_⟩) hSd ?_
        rotate_left
        · intro V hV
          try dsimp only at hV
          go_simp
          try with_reducible rfl
        simp only [Act.put, List.setIfInBounds_toArray, List.set_cons_zero, List.set_cons_succ]
        refine wpL_take 2 (v := ?_) rfl (by kernel_rfl) (by kernel_rfl) (by kernel_rfl) (by kernel_rfl) (fun _ _ _ h => h) (Or.inl ⟨by rfl, ?_⟩) hSd ?_
        rotate_left
        · intro V hV
          try dsimp only at hV
          go_simp
          try with_reducible rfl
        simp only [Act.put, List.setIfInBounds_toArray, List.set_cons_zero, List.set_cons_succ]
        refine wpL_take 3 (v := ?_) rfl (by kernel_rfl) (by kernel_rfl) (by kernel_rfl) (by kernel_rfl) (fun _ _ _ h => h) (Or.inl ⟨by rfl, ?_⟩) hSd ?_
        rotate_left
        · intro V hV
          try dsimp only at hV
          go_simp
          try with_reducible rfl
        simp only [Act.put, List.setIfInBounds_toArray, List.set_cons_zero, List.set_cons_succ]
        refine wpL_take 4 (v := ?_) rfl (by kernel_rfl) (by kernel_rfl) (by kernel_rfl) (by kernel_rfl) (fun _ _ _ h => h) (Or.inl ⟨by rfl, ?_⟩) hSd ?_
        rotate_left
        · intro V hV
          try dsimp only at hV
          go_simp
          try with_reducible rfl
        simp only [Act.put, List.setIfInBounds_toArray, List.set_cons_zero, List.set_cons_succ]
        refine wpL_take 5 (v := ?_) rfl (by kernel_rfl) (by kernel_rfl) (by kernel_rfl) (by kernel_rfl) (fun _ _ _ h => h) (Or.inl ⟨by rfl, ?_⟩) hSd ?_
        rotate_left
        · intro V hV
          try dsimp only at hV
          go_simp
          try with_reducible rfl
        simp only [Act.put, List.setIfInBounds_toArray, List.set_cons_zero, List.set_cons_succ]
        refine wpL_take 6 (v := ?_) rfl (by kernel_rfl) (by kernel_rfl) (by kernel_rfl) (by kernel_rfl) (fun _ _ _ h => h) (Or.inl ⟨by rfl, ?_⟩) hSd ?_
        rotate_left
        · intro V hV
          try dsimp only at hV
          go_simp
          try with_reducible rfl
        simp only [Act.put, List.setIfInBounds_toArray, List.set_cons_zero, List.set_cons_succ]
        refine wpL_take 7 (v := ?_) rfl (by kernel_rfl) (by kernel_rfl) (by kernel_rfl) (by kernel_rfl) (fun _ _ _ h => h) (Or.inl ⟨by rfl, ?_⟩) hSd ?_
        rotate_left
        · intro V hV
          try dsimp only at hV
          go_simp
          try with_reducible rfl
        simp only [Act.put, List.setIfInBounds_toArray, List.set_cons_zero, List.set_cons_succ]
        refine wpL_take 8 (v := ?_) rfl (by kernel_rfl) (by kernel_rfl) (by kernel_rfl) (by kernel_rfl) (fun _ _ _ h => h) (Or.inl ⟨by rfl, ?_⟩) hSd ?_
        rotate_left
        · intro V hV
          try dsimp only at hV
          go_simp
          try with_reducible rfl
        simp only [Act.put, List.setIfInBounds_toArray, List.set_cons_zero, List.set_cons_succ]
        refine wpL_one 9 (by kernel_rfl) rfl (fun K hK => ?_)
        refine step_in (by rfl) ?_
        go_simp
        have hsA : St (fun _ => False) w4 ((w4.alloc (.cells #[.int .i64 3, .int .i64 2, .int .i64 4, .int .i64 9, .int .i64 (nu : Int)] 60)).drew) := ((St.refl (fun _ => False) w4).alloc _).drew
        have hSA : (fun V : World => V.cell? ⟨wb, 10, none⟩ = some (.slice Ar (x.A 0).length cr) ∧ V.cell? ⟨b, 0, none⟩ = some (.int .i64 3) ∧ V.cell? ⟨b, 1, none⟩ = some (.int .i64 2) ∧ V.cell? ⟨b, 2, none⟩ = some (.int .i64 4) ∧ V.cell? ⟨b, 3, none⟩ = some (.int .i64 9) ∧ V.cell? ⟨b, 4, none⟩ = some (.int .i64 (nu : Int))) ((w4.alloc (.cells #[.int .i64 3, .int .i64 2, .int .i64 4, .int .i64 9, .int .i64 (nu : Int)] 60)).drew) := ⟨hsA.only.cell hSd.1 (fun e => e), hsA.only.cell hSd.2.1 (fun e => e), hsA.only.cell hSd.2.2.1 (fun e => e), hsA.only.cell hSd.2.2.2.1 (fun e => e), hsA.only.cell hSd.2.2.2.2.1 (fun e => e), hsA.only.cell hSd.2.2.2.2.2 (fun e => e)⟩
        refine hK _ _ (fun _ => hSA) ?_
        clear hK K
        try simp only [Act.put, List.setIfInBounds_toArray, List.set_cons_zero, List.set_cons_succ]
        refine wpL_one 10 (by kernel_rfl) rfl (fun K hK => ?_)
        refine step_push ((w4.alloc (.cells #[.int .i64 3, .int .i64 2, .int .i64 4, .int .i64 9, .int .i64 (nu : Int)] 60)).drew) (by rfl) (.tmp 34) (.tmp 36) _ (by rfl) 0 60 i60 _ 5 40 Try.underlying42 hi60 hu0 hu1 hu2 (by rfl) (by omega) (.slice Ar (x.A 0).length cr) (x.A 0).length (akAll (x.A 0)) (by rfl) ?_ w4.heap.size 1 1 #[.int .i64 3, .int .i64 2, .int .i64 4, .int .i64 9, .int .i64 (nu : Int)] (by rfl) (Blk.drew (Blk.new _ _ _)) (by rfl) ?_ (by omega) ?_ ?_ (Nat.zero_le _) ?_
        · exact own_only R1.out hsA.only (fun _ _ e => e)
        · intro u hu
          simp at hu
          rcases hu with rfl | rfl | rfl | rfl | rfl <;> rfl
        · unfold maxLen; omega
        · omega
        intro g7 cap7 w7 hown7 hgr7 hor7 hlt7
        obtain ⟨st7, kp7⟩ := row_grown (S := fun q => o' q = 11 + 0) (by decide) R1.out R3.out hsA hgr7
        have hS7 : (fun V : World => V.cell? ⟨wb, 10, none⟩ = some (.slice Ar (x.A 0).length cr) ∧ V.cell? ⟨b, 0, none⟩ = some (.int .i64 3) ∧ V.cell? ⟨b, 1, none⟩ = some (.int .i64 2) ∧ V.cell? ⟨b, 2, none⟩ = some (.int .i64 4) ∧ V.cell? ⟨b, 3, none⟩ = some (.int .i64 9) ∧ V.cell? ⟨b, 4, none⟩ = some (.int .i64 (nu : Int))) w7 := ⟨st7.only.cell hSd.1 HWB.out, st7.only.cell hSd.2.1 HBN.out, st7.only.cell hSd.2.2.1 HBN.out, st7.only.cell hSd.2.2.2.1 HBN.out, st7.only.cell hSd.2.2.2.2.1 HBN.out, st7.only.cell hSd.2.2.2.2.2 HBN.out⟩
        refine hK _ _ (fun _ => hS7) ?_
        clear hK K
        try simp only [Act.put, List.setIfInBounds_toArray, List.set_cons_zero, List.set_cons_succ]
        refine wpL_takeU 13 (v := ?_) rfl (by kernel_rfl) (by kernel_rfl) (by kernel_rfl) (by kernel_rfl) (fun _ _ _ h => h) (Or.inl ⟨by rfl, ?_⟩) ?_
        rotate_left
        · intro V _
          go_simp
          try with_reducible rfl
        simp only [Act.put, List.setIfInBounds_toArray, List.set_cons_zero, List.set_cons_succ]
        have fr7 := (HA1.out.head.st st7 HWB.out).frozen 10
        have f7 := hS7.1
        have hb7 := HB1.out.st st7 HBN.out
        refine wpL_one 14 (by kernel_rfl) rfl (fun K hK => ?_)
        refine step_in (by rfl) ?_
        go_simp
        refine hK _ _ (fun h => absurd h (by decide)) ?_
        clear hK K
        refine wpL_done (by kernel_rfl) ?_ _
        have hwb2 : b ≠ wb := fun e => by have h1 := HOB.out; rw [e, HA1.out.ohead] at h1; omega
        have hfin : WStep w4 o' wb W Sp g' (oweS x 0) (w7.setCell ⟨wb, 10, none⟩ (.slice (some ⟨g7, 0, none⟩) ((x.A 0).length + 1) cap7)) ∧ Blk (w7.setCell ⟨wb, 10, none⟩ (.slice (some ⟨g7, 0, none⟩) ((x.A 0).length + 1) cap7)) b 60 #[.int .i64 3, .int .i64 2, .int .i64 4, .int .i64 9, .int .i64 (nu : Int)] := by
          refine ⟨?_, hb7.far (p := ⟨wb, 10, none⟩) hwb2 _⟩
          have hy : oweS x 0 = { x1 with A := upd x.A 0 (x.A 0 ++ [(nu : Int)]) } := by
            unfold oweS
            rw [if_pos HO.out, HX1.out, HI.out.next1 (by omega), HNU.out]
          rw [hy]
          refine HA1.out.pushA (s := 0) (by omega) (y := { x1 with A := upd x.A 0 (x.A 0 ++ [(nu : Int)]) }) (i := 10) R1.out R3.out hsA hgr7 (u := (nu : Int)) hown7 hor7 rfl (rows_A rfl rfl rfl (fun q hq => by
            show upd _ _ _ q = x1.A q
            rw [upd_ne _ _ _ _ hq, HX1.out])) (show upd x.A 0 (x.A 0 ++ [(nu : Int)]) 0 = x.A 0 ++ [(nu : Int)] from upd_same _ _ _) rfl
        have HFIN := hide hfin
        clear hfin st7 kp7 hS7 hSd hSA hsA hown7 hgr7 hor7 hb7 hwb2
        go_wp2_with fail
        go_meet
        exact HFIN.out
      case rest =>
        obtain ⟨hws, hbk⟩ := hcut
        have HBK := hide hbk
        have HWS := hide hws
        obtain ⟨o2, g2, hA2, hst2, hag2, hm2, hX2, hsb2⟩ := hws
        have HA2 := hide hA2
        obtain ⟨hag1, hm1, hX1', hsb1⟩ := HEQ.out
        have hmm : g2.m = g.m := hm2.trans hm1
        have HMM := hide hmm
        have ho2 : ((oweS x 0).st 0).owed = false := oweS_owed x 0
        have HOW2 : ∀ V, St (fun _ => False) wc V → Hid (Calls Try.prog 33 #[.pointer (some ⟨g.m 0, 0, none⟩), .int .i64 5] V fun e w' => e = .returned (.tuple #[.agg #[.int .i64 0, .int .i64 0, .int .i64 0, .int .i64 0, .int .i64 0], .bool false]) ∧ St (fun _ => False) V w') := fun V hV => by
          have hc := (HA2.out.quiet hV).owedN (s := 0) (by omega) (p := 5) rfl ho2
          rw [HMM.out] at hc
          exact hc
        obtain ⟨w8, hw8⟩ : ∃ w8, w8 = wc := ⟨_, rfl⟩
        rw [← hw8] at HBK HWS HA2 HOW2 ⊢
        clear hw8 hA2 hst2 hag2 hm2 hX2 hsb2 hag1 hm1 hX1' hsb1 hmm ho2 hSd hbk
        have kd : w8.drew.cell? ⟨wb, 0, none⟩ = some (.pointer (some ⟨g.m 0, 0, none⟩)) := by rw [← HMM.out]; exact HA2.out.cellM 0 (by omega)
        have kbd : (w8.alloc (.cells #[.int .i64 0, .int .i64 0, .int .i64 0, .int .i64 0, .int .i64 0] 60)).drew.cell? ⟨wb, 0, none⟩ = some (.pointer (some ⟨g.m 0, 0, none⟩)) := cell_alloc kd _
        have hAA : St (fun _ => False) w8 w8.drew := (St.refl _ w8).drew
        have hBB : St (fun _ => False) w8 (w8.alloc (.cells #[.int .i64 0, .int .i64 0, .int .i64 0, .int .i64 0, .int .i64 0] 60)).drew := ((St.refl _ w8).alloc _).drew
        have hwn : wb ≠ w8.heap.size := Nat.ne_of_lt HA2.out.head.lt
        go_upto_region 5 with fail
        go_cut [7, 8] (fun s5 s6 wx => OweZ w8 s5 s6 wx)
        case first =>
          go_region_held3 (fun V => V.cell? ⟨wb, 0, none⟩ = some (.pointer (some ⟨g.m 0, 0, none⟩)))
            (first | with_reducible exact kd | with_reducible exact kbd | with_reducible exact ka | with_reducible exact cell_alloc ka _ | with_reducible exact cell_set hwn (cell_set hwn (cell_set hwn (cell_set hwn (cell_set hwn ka)))))
            (first
              | ((go_at_call 21; refine (pid1 _).mono ?_; rintro e w' ⟨rfl, rfl⟩))
              | ((go_at_call 33; first
                | ((with_reducible refine (HOW2 w8.drew hAA).out.mono ?_); rintro e w1 ⟨rfl, hs1⟩; have ka := hs1.only.cell kd (fun e => e); have HSA := hide hs1; clear hs1)
                | ((with_reducible refine (HOW2 _ hBB).out.mono ?_); rintro e w1 ⟨rfl, hs1⟩; have ka := hs1.only.cell kbd (fun e => e); have hbb := (Blk.drew (Blk.new w8 60 #[.int .i64 0, .int .i64 0, .int .i64 0, .int .i64 0, .int .i64 0])).st hs1 (fun e => e); obtain ⟨q0, q1, q2, q3, q4⟩ := m5 hbb; have f0 := hbb.frozen 0; have f1 := hbb.frozen 1; have f2 := hbb.frozen 2; have f3 := hbb.frozen 3; have f4 := hbb.frozen 4; have HSB := hide hs1; clear hs1 hbb))))
          all_goals
            go_wp2_with fail
            go_meet
            first | (with_reducible exact OweZ.late HSA.out) | (with_reducible exact OweZ.early HSB.out)
        case rest =>
          obtain ⟨b2, rfl, rfl, hbz, hstz⟩ := hcut
          have HBK2 := HBK.out.st hstz (fun e => e)
          have HA3 := hide (HA2.out.quiet hstz)
          have HSTZ := hide hstz
          have k6 : wc.cell? ⟨wb, 6, none⟩ = some (g2.row 1 0) := HA3.out.cellR 1 0 (by omega) (by omega)
          obtain ⟨Ao, co, vso, hro, _, _, hco⟩ := BRow.val (HA3.out.row 1 0 (by omega) (by omega))
          have hO : (oweS x 0).O = x.O := by unfold oweS; split <;> rfl
          rw [hO, ← HNU.out] at hro hco
          rw [hro] at k6
          obtain ⟨b0, b1, b2', b3, b4⟩ := m5 HBK2
          have hS3 : Hid (wc.cell? ⟨b, 0, none⟩ = some (.int .i64 3) ∧ wc.cell? ⟨b, 1, none⟩ = some (.int .i64 2) ∧ wc.cell? ⟨b, 2, none⟩ = some (.int .i64 4) ∧ wc.cell? ⟨b, 3, none⟩ = some (.int .i64 9) ∧ wc.cell? ⟨b, 4, none⟩ = some (.int .i64 (nu : Int)) ∧ wc.cell? ⟨wb, 6, none⟩ = some (.slice Ao nu co)) := ⟨b0, b1, b2', b3, b4, k6⟩
          clear hbz hstz HBK2 k6 hro hO b0 b1 b2' b3 b4 kd kbd hAA hBB hwn
          go_wp2_with fail
          go_region_held3 (fun V => V.cell? ⟨b, 0, none⟩ = some (.int .i64 3) ∧ V.cell? ⟨b, 1, none⟩ = some (.int .i64 2) ∧ V.cell? ⟨b, 2, none⟩ = some (.int .i64 4) ∧ V.cell? ⟨b, 3, none⟩ = some (.int .i64 9) ∧ V.cell? ⟨b, 4, none⟩ = some (.int .i64 (nu : Int)) ∧ V.cell? ⟨wb, 6, none⟩ = some (.slice Ao nu co))
            (first | exact hS3.out | exact hS9.out)
            ((go_at_call 27; refine (tag_any _).mono ?_; rintro e w9 ⟨rfl, hs9⟩; unfold tg Tg.v; have hs9' := (St.refl (fun _ => False) wc).drew.trans hs9; obtain ⟨t0, t1, t2, t3, t4, t5⟩ := hS3.out; have hS9 := hide (And.intro (hs9'.only.cell t0 (fun e => e)) (And.intro (hs9'.only.cell t1 (fun e => e)) (And.intro (hs9'.only.cell t2 (fun e => e)) (And.intro (hs9'.only.cell t3 (fun e => e)) (And.intro (hs9'.only.cell t4 (fun e => e)) (hs9'.only.cell t5 (fun e => e))))))); have HS9 := hide hs9'; clear hs9 hs9' t0 t1 t2 t3 t4 t5))
          go_wp2
          go_ret
          obtain ⟨hag1, hm1, hX1', hsb1⟩ := HEQ.out
          exact ⟨rfl, (WStep.after HST1.out hag1 ⟨hm1, hX1', hsb1⟩ HWS.out).quiet (HSTZ.out.trans HS9.out)⟩
  · have ho' : (x.st 0).owed = false := by simpa using ho
    have HOW : ∀ V, St (fun _ => False) w V → Hid (Calls Try.prog 33 #[.pointer (some ⟨g.m 0, 0, none⟩), .int .i64 5] V fun e w' => e = .returned (.tuple #[.agg #[.int .i64 0, .int .i64 0, .int .i64 0, .int .i64 0, .int .i64 0], .bool false]) ∧ St (fun _ => False) V w') := fun V hV =>
      (HW.out.quiet hV).owedN (s := 0) (by omega) (p := 5) rfl ho'
    have HO := hide ho'
    clear ho ho'
    go_enter Try.func42, Try.ntmps42
    go_wp2_with fail
    have kd : w.drew.cell? ⟨wb, 0, none⟩ = some (.pointer (some ⟨g.m 0, 0, none⟩)) := k0
    have kbd : (w.alloc (.cells #[.int .i64 0, .int .i64 0, .int .i64 0, .int .i64 0, .int .i64 0] 60)).drew.cell? ⟨wb, 0, none⟩ = some (.pointer (some ⟨g.m 0, 0, none⟩)) := cell_alloc k0 _
    have hAA : St (fun _ => False) w w.drew := (St.refl _ w).drew
    have hBB : St (fun _ => False) w (w.alloc (.cells #[.int .i64 0, .int .i64 0, .int .i64 0, .int .i64 0, .int .i64 0] 60)).drew := ((St.refl _ w).alloc _).drew
    have hwn : wb ≠ w.heap.size := Nat.ne_of_lt HW.out.head.lt
    go_upto_region 1 with fail
    go_cut [5, 6] (fun s5 s6 wx => OweZ w s5 s6 wx)
    case first =>
      go_region_held3 (fun V => V.cell? ⟨wb, 0, none⟩ = some (.pointer (some ⟨g.m 0, 0, none⟩)))
        (first | with_reducible exact kd | with_reducible exact kbd | with_reducible exact ka | with_reducible exact cell_alloc ka _ | with_reducible exact cell_set hwn (cell_set hwn (cell_set hwn (cell_set hwn (cell_set hwn ka)))))
        (first
          | ((go_at_call 21; refine (pid1 _).mono ?_; rintro e w' ⟨rfl, rfl⟩))
          | ((go_at_call 33; first
            | ((with_reducible refine (HOW w.drew hAA).out.mono ?_); rintro e w1 ⟨rfl, hs1⟩; have ka := hs1.only.cell kd (fun e => e); have HSA := hide hs1; clear hs1)
            | ((with_reducible refine (HOW _ hBB).out.mono ?_); rintro e w1 ⟨rfl, hs1⟩; have ka := hs1.only.cell kbd (fun e => e); have hbb := (Blk.drew (Blk.new w 60 #[.int .i64 0, .int .i64 0, .int .i64 0, .int .i64 0, .int .i64 0])).st hs1 (fun e => e); obtain ⟨q0, q1, q2, q3, q4⟩ := m5 hbb; have f0 := hbb.frozen 0; have f1 := hbb.frozen 1; have f2 := hbb.frozen 2; have f3 := hbb.frozen 3; have f4 := hbb.frozen 4; have HSB := hide hs1; clear hs1 hbb))))
      all_goals
        go_wp2_with fail
        go_meet
        first | (with_reducible exact OweZ.late HSA.out) | (with_reducible exact OweZ.early HSB.out)
    case rest =>
      obtain ⟨b2, rfl, rfl, hbz, hstz⟩ := hcut
      obtain ⟨b0, b1, b2', b3, b4⟩ := m5 hbz
      have HSTZ := hide hstz
      clear hbz hstz kd kbd hAA hBB hwn k0
      go_wp2
      go_ret
      have e1 : oweS x 0 = x := by unfold oweS; rw [if_neg (by rw [HO.out]; decide)]
      rw [e1]
      exact ⟨rfl, HW.out.refl_ HSTZ.out⟩
end Go.Proofs.Ytkkckinnhkpcmaa
