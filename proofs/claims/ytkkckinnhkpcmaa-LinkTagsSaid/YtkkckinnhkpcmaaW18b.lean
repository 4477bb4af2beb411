/-
  Contract of Wire.show at the side 1. (Printed for both sides by wip/tools/sides.py.)
-/
import Derived.Test.YtkkckinnhkpcmaaFrow
import Derived.Test.YtkkckinnhkpcmaaHeldL
set_option linter.unusedVariables false
set_option linter.unusedSimpArgs false
namespace Go.Proofs.Ytkkckinnhkpcmaa
open Go.RowKit Go.WideShapes Go.ChangeShapes Q

set_option maxRecDepth 100000 in
set_option maxHeartbeats 2000000 in
theorem wshow1 (w : World) (o : Nat → Nat) (wb W Sp n : Nat) (g : Gw) (x : Wr) (h : WireAt w o wb W Sp g x) (hI : Inv W Sp n x) (hn : n < 5000) (hW5 : W ≤ 5) :
    Calls Try.prog 18 #[.pointer (some ⟨wb, 0, none⟩), .int .i64 1] w fun e w' => e = .returned (.bool true) ∧ WStep w o wb W Sp g (showS W x 1) w' := by
  have HW := hide h
  have HI := hide hI
  have hnum := h.nums
  have k0 := h.cellM 1 (by omega)
  have HF := hide (h.frames hI (by omega) (s := 1) (by omega) (p := 2) rfl)
  clear h hI
  go_enter Try.func18, Try.ntmps18
  go_wp2_with (first | (go_at_call 21; refine (pid0 _).mono ?_; rintro e w' ⟨rfl, rfl⟩) | (go_at_call 34; refine HF.out.mono ?_; rintro e w1 ⟨lv, rfl, hfr, hst⟩; have HFR := hide hfr; have HST := hide hst; clear hfr hst))
  have HW1 := hide (HW.out.quiet HST.out)
  have k0 := HW1.out.cellM 1 (by omega)
  obtain ⟨k2, k3⟩ := HW1.out.cellN
  obtain ⟨sh, hsh⟩ : ∃ sh, sh = shown W (x.st 1) := ⟨_, rfl⟩
  have hmn : sh.length = Min.min W (x.st 1).out.length := by rw [hsh, shown_len]
  have HFR1 : Hid (FRow w1 (fun q => o q = 0) lv (frs sh)) := by rw [hsh]; exact HFR.out
  obtain ⟨Al, cl, hlv, hcl⟩ : ∃ Al cl, lv = .slice Al sh.length cl ∧ sh.length ≤ cl := by
    obtain ⟨vs, h1, _, _⟩ := HFR1.out
    obtain ⟨A, c, e, _, hc⟩ := own_val h1
    have hl : (frs sh).length = sh.length := by simp [frs]
    rw [hl] at e hc
    exact ⟨A, c, e, hc⟩
  subst hlv
  have HSH := hide hsh
  have HMN := hide hmn
  clear hmn
  have HWT : ∀ n', Hid (Calls Try.prog 20 #[.pointer (some ⟨g.m 1, 0, none⟩), .int .i64 2] (w1.drewN n') fun r w' => r = .returned (.int .i64 (x.st 1).out.length) ∧ w1.drewN n' = w') := fun n' =>
    (HW1.out.quiet ((St.refl (fun _ => False) w1).drewN n')).waiting HI.out (by omega) (s := 1) (by omega) (p := 2) rfl
  obtain ⟨p0, q0, hh0⟩ := HI.out 1 0 (by omega)
  have hol := hh0.room
  clear hsh hh0
  go_upto_region 3 with fail
  go_cut [34] (fun b wy => b = .bool false ∧ St (fun _ => False) w1 wy)
  case first =>
    rcases Nat.lt_or_ge (x.st 1).out.length W with hle | hle
    · have e1 : ((sh.length : Int) != ((x.st 1).out.length : Int)) = false := by have := HMN.out; rw [bne_eq_false_iff_eq]; omega
      go_quiet ((go_at_call 20; exact quiet_left ((HWT _).out)))
      go_wp2_with fail
      go_meet
      exact ⟨rfl, (St.refl (fun _ => False) w1).drewN _⟩
    · have e1 : ((sh.length : Int) != (W : Int)) = false := by have := HMN.out; rw [bne_eq_false_iff_eq]; omega
      go_quiet ((go_at_call 20; exact quiet_left ((HWT _).out)))
      go_wp2_with fail
      go_meet
      exact ⟨rfl, (St.refl (fun _ => False) w1).drewN _⟩
  case rest =>
    obtain ⟨rfl, hst2⟩ := hcut
    have HFR2 := hide (HFR1.out.far hst2 (fun _ _ e => e))
    have HW2 := hide (HW1.out.quiet hst2)
    have HS2 := hide (HST.out.trans hst2)
    clear hst2 k0 k2 k3
    obtain ⟨w2, hw2⟩ : ∃ w2, w2 = wc := ⟨_, rfl⟩
    rw [← hw2] at HFR2 HW2 HS2 ⊢
    clear hw2
    obtain ⟨mn, hmn⟩ : ∃ mn, mn = sh.length := ⟨_, rfl⟩
    rw [← hmn] at hcl ⊢
    have HML := hide hmn
    have hmn5 : mn ≤ 5 := by have := HMN.out; omega
    clear hmn
    obtain ⟨p0, q0, hh0⟩ := HI.out 1 0 (by omega)
    have haf := hh0.af
    have hout := hh0.outLen
    have hcP := hh0.cP
    obtain ⟨na, hna⟩ : ∃ na, na = (x.P 1).length := ⟨_, rfl⟩
    obtain ⟨nb, hnb⟩ : ∃ nb, nb = (x.st 1).out.length := ⟨_, rfl⟩
    rw [← hna] at hout hcP
    rw [← hnb] at hout hol
    have HNA := hide hna
    have HNB := hide hnb
    have HFI : Hid ((x.st 1).first = (na : Int) - (nb : Int) + 1) := by show _ = _; omega
    clear hna hnb haf hh0
    go_wp2_with fail
    go_loopw [7] (fun i wr => ∃ k : Nat, k ≤ mn ∧ i = .int .i64 k ∧ Hid (WStep w2 o wb W Sp g (showK W x 1 k) wr)) (fun i _ => mn - (intOf i).toNat)
    case atStart => exact ⟨0, Nat.zero_le _, rfl, by rw [showK_0]; exact HW2.out.refl_ (St.refl _ w2)⟩
    case round =>
      obtain ⟨k, hk, rfl, hws⟩ := hrel
      by_cases hlt : k < mn
      · obtain ⟨o', g', hW', hst', hag', hm', hX', hsb'⟩ := hws.out
        have hksh : k < sh.length := by have := HML.out; omega
        have hfk : sh[k]? = some ((na : Int) - (nb : Int) + 1 + (k : Int), (x.st 1).out.getD k []) := by
          rw [HSH.out, shown_get (by rw [← HSH.out]; exact hksh), HFI.out]
        obtain ⟨gl, cap, vk, hAl, hcap, hgl, hbk, l0, l1, l2, l3, l4, l5⟩ := (HFR2.out.far hst' (fun q hq e => e hq)).at_ hksh hfk
        injection hAl with hA1 _ hA3
        subst hA1
        subst hA3
        have kM : wr.cell? ⟨wb, 1, none⟩ = some (.pointer (some ⟨g.m 1, 0, none⟩)) := by rw [← hm']; exact hW'.cellM 1 (by omega)
        have HW3 := hide hW'
        have HSN : ∀ V, St (fun _ => False) wr V → Hid (Calls Try.prog 32 #[.pointer (some ⟨g.m 1, 0, none⟩), .int .i64 2] V fun r w' => r = .returned (.int .i64 (na : Int)) ∧ ∃ m, w' = V.drewN m) := fun V hV => by
          have hc := (HW3.out.quiet hV).sent (HI.out.showK 1 (by omega) hW5 k) (by omega) (s := 1) (by omega) (p := 2) rfl
          rw [hm', show ((showK W x 1 k).P 1).length = na from HNA.out.symm] at hc
          exact hc
        have HWA : ∀ V, St (fun _ => False) wr V → Hid (Calls Try.prog 20 #[.pointer (some ⟨g.m 1, 0, none⟩), .int .i64 2] V fun r w' => r = .returned (.int .i64 (nb : Int)) ∧ V = w') := fun V hV => by
          have hc := (HW3.out.quiet hV).waiting (HI.out.showK 1 (by omega) hW5 k) (by omega) (s := 1) (by omega) (p := 2) rfl
          rw [hm', show ((showK W x 1 k).st 1).out.length = nb from HNB.out.symm] at hc
          exact hc
        have HS3 := hide (And.intro hst' (And.intro hag' (And.intro hm' (And.intro hX' hsb'))))
        have HBK := hide hbk
        have HFK := hide hfk
        have HGL : Hid (o' gl = 0) := by
          have hlt2 : gl < w2.heap.size := by
            obtain ⟨vs, r1, _, _⟩ := HFR2.out
            exact (r1.lt gl rfl).2
          exact (hag' gl hlt2).trans hgl
        have i0 : (0 : Int) ≤ (k : Int) := by omega
        have i1 : (k : Int) < (mn : Int) := by omega
        have hgl0 := hide hgl
        clear hW' hst' hag' hm' hX' hsb' hbk hfk hws hgl hksh
        have LS := hide (And.intro kM (And.intro l0 (And.intro l1 (And.intro l2 (And.intro l3 l4)))))
        go_upto_region 8 with fail
        go_cut [75] (fun b wy => b = .bool false ∧ St (fun _ => False) wr wy)
        case first =>
          clear k0 l5
          have wr1 : IntKind.i64.wrap ((na : Int) - (nb : Int)) = (na : Int) - (nb : Int) := IntWalk.i64_in _ (by constructor <;> omega)
          have wr2 : IntKind.i64.wrap ((na : Int) - (nb : Int) + 1) = (na : Int) - (nb : Int) + 1 := IntWalk.i64_in _ (by constructor <;> omega)
          have wr3 : IntKind.i64.wrap ((na : Int) - (nb : Int) + 1 + (k : Int)) = (na : Int) - (nb : Int) + 1 + (k : Int) := IntWalk.i64_in _ (by constructor <;> omega)
          go_region_held3 (fun V => V.cell? ⟨wb, 1, none⟩ = some (.pointer (some ⟨g.m 1, 0, none⟩)) ∧ V.cell? ⟨gl, k * 6, none⟩ = some (.int .i64 3) ∧ V.cell? ⟨gl, k * 6 + 1, none⟩ = some (.int .i64 2) ∧ V.cell? ⟨gl, k * 6 + 2, none⟩ = some (.int .i64 4) ∧ V.cell? ⟨gl, k * 6 + 3, none⟩ = some (.int .i64 9) ∧ V.cell? ⟨gl, k * 6 + 4, none⟩ = some (.int .i64 ((na : Int) - (nb : Int) + 1 + (k : Int))))
            (first | exact LS.out | exact LS8.out)
            (first
              | ((go_at_call 32; refine (HSN w8 HS8.out).out.mono ?_; rintro e w9 ⟨rfl, nn, rfl⟩))
              | ((go_at_call 20; first | (refine (HWA w8 HS8.out).out.mono ?_; rintro e w9 ⟨rfl, rfl⟩) | (refine (HWA (w8.drewN nn) (HS8.out.drewN nn)).out.mono ?_; rintro e w9 ⟨rfl, rfl⟩)))
              | ((go_at_call 27; refine (tag_any _).mono ?_; rintro e w8 ⟨rfl, hs8⟩; unfold tg Tg.v; have hs8' := (St.refl (fun _ => False) wr).drew.trans hs8; have HS8 := hide hs8'; obtain ⟨t0, t1, t2, t3, t4, t5⟩ := LS.out; have LS8 := hide (And.intro (hs8'.only.cell t0 (fun e => e)) (And.intro (hs8'.only.cell t1 (fun e => e)) (And.intro (hs8'.only.cell t2 (fun e => e)) (And.intro (hs8'.only.cell t3 (fun e => e)) (And.intro (hs8'.only.cell t4 (fun e => e)) (hs8'.only.cell t5 (fun e => e))))))); clear hs8 hs8' t0 t1 t2 t3 t4 t5)))
          go_wp2_with fail
          go_meet
          exact ⟨rfl, HS8.out.drewN _⟩
        case rest =>
          obtain ⟨rfl, hs4⟩ := hcut
          obtain ⟨w4, hw4⟩ : ∃ w4, w4 = wc := ⟨_, rfl⟩
          rw [← hw4] at hs4 ⊢
          clear hw4
          have HW4 := hide (HW3.out.quiet hs4)
          obtain ⟨xs, hxs⟩ : ∃ xs, xs = x.F 1 ++ (shown W (x.st 1)).take k := ⟨_, rfl⟩
          obtain ⟨vs, r1, r2, r3⟩ : FRow w4 (fun q => o' q = 5 + 2 * 2 + 1) (g'.row 2 1) (frs xs) := by
            have hr := HW4.out.row 2 1 (by omega) (by omega)
            have hr' : FRow w4 (fun q => o' q = 5 + 2 * 2 + 1) (g'.row 2 1) (frs ((showK W x 1 k).F 1)) := hr
            rw [showK_F, ← hxs] at hr'
            exact hr'
          have hxl : xs.length ≤ 30000 := by
            obtain ⟨p1, q1, hh1⟩ := HI.out 1 0 (by omega)
            have h1 := hh1.cF
            rw [hxs, List.length_append, List.length_take, shown_len]
            omega
          have f0 : w4.cell? ⟨wb, 9, none⟩ = some (g'.row 2 1) := HW4.out.cellR 2 1 (by omega) (by omega)
          have hlxs : (frs xs).length = xs.length := by simp [frs]
          rw [hlxs] at r1
          generalize hrv : g'.row 2 1 = rv at *
          obtain ⟨Ar, cr, rfl, _, _⟩ := own_val r1
          have R1 := hide r1
          have R2 := hide r2
          have R3 := hide r3
          have HRV := hide hrv
          have HXS := hide hxs
          have hbk4 := HBK.out.st hs4
          obtain ⟨Ak, ck, rfl, hrk, _⟩ := hbk4.val
          have hbd : ((x.st 1).out.getD k []).length ≤ 300 := by
            obtain ⟨p1, q1, hh1⟩ := HI.out 1 0 (by omega)
            by_cases hkk : k < (x.st 1).out.length
            · have := hh1.out300 ((x.st 1).out[k]'hkk) (List.getElem_mem hkk)
              simpa [List.getD, List.getElem?_eq_getElem hkk] using this
            · simp [List.getD, List.getElem?_eq_none (Nat.le_of_not_lt hkk)]
          generalize hbdd : (x.st 1).out.getD k [] = bd at *
          have HBDD := hide hbdd
          have HC := hide (copied_any Ak bd.length ck bd w4.drew hrk (by omega))
          have HS4 := hide hs4
          have l0 := hs4.only.cell l0 (fun e => e)
          have l1 := hs4.only.cell l1 (fun e => e)
          have l2 := hs4.only.cell l2 (fun e => e)
          have l3 := hs4.only.cell l3 (fun e => e)
          have l4 := hs4.only.cell l4 (fun e => e)
          have l5 := hs4.only.cell l5 (fun e => e)
          have hS0 := And.intro f0 (And.intro l0 (And.intro l1 (And.intro l2 (And.intro l3 (And.intro l4 l5)))))
          have HL0 := hide hS0
          obtain ⟨i57, hi57, hu0, hu1, hu2⟩ := info_parts info57z
          clear r1 r2 r3 hrv hxs hbk4 hrk hbdd hs4 kM k0 hlxs
          go_wp2_with fail
          have hSd : (fun V : World => V.cell? ⟨wb, 9, none⟩ = some (.slice Ar xs.length cr) ∧ V.cell? ⟨gl, k * 6, none⟩ = some (.int .i64 3) ∧ V.cell? ⟨gl, k * 6 + 1, none⟩ = some (.int .i64 2) ∧ V.cell? ⟨gl, k * 6 + 2, none⟩ = some (.int .i64 4) ∧ V.cell? ⟨gl, k * 6 + 3, none⟩ = some (.int .i64 9) ∧ V.cell? ⟨gl, k * 6 + 4, none⟩ = some (.int .i64 ((na : Int) - (nb : Int) + 1 + (k : Int))) ∧ V.cell? ⟨gl, k * 6 + 5, none⟩ = some (.slice Ak bd.length ck)) w4.drew := HL0.out
          clear hS0 f0 l0 l1 l2 l3 l4 l5 HL0
          refine wp_region_L [0, 27, 28, 29, 30] (fun V : World => V.cell? ⟨wb, 9, none⟩ = some (.slice Ar xs.length cr) ∧ V.cell? ⟨gl, k * 6, none⟩ = some (.int .i64 3) ∧ V.cell? ⟨gl, k * 6 + 1, none⟩ = some (.int .i64 2) ∧ V.cell? ⟨gl, k * 6 + 2, none⟩ = some (.int .i64 4) ∧ V.cell? ⟨gl, k * 6 + 3, none⟩ = some (.int .i64 9) ∧ V.cell? ⟨gl, k * 6 + 4, none⟩ = some (.int .i64 ((na : Int) - (nb : Int) + 1 + (k : Int))) ∧ V.cell? ⟨gl, k * 6 + 5, none⟩ = some (.slice Ak bd.length ck)) (by kernel_rfl) ?_
          refine wpL_takeU 0 (v := ?_) rfl (by kernel_rfl) (by kernel_rfl) (by kernel_rfl) (by kernel_rfl) (fun _ _ _ h => h) (Or.inl ⟨by rfl, ?_⟩) ?_
          rotate_left
          · intro V _
            go_simp
            try with_reducible rfl
          simp only [Act.put, List.setIfInBounds_toArray, List.set_cons_zero, List.set_cons_succ]
          refine wpL_takeU 27 (v := ?_) rfl (by kernel_rfl) (by kernel_rfl) (by kernel_rfl) (by kernel_rfl) (fun _ _ _ h => h) (Or.inl ⟨by rfl, ?_⟩) ?_
          rotate_left
          · intro V _
            go_simp
            try with_reducible rfl
          simp only [Act.put, List.setIfInBounds_toArray, List.set_cons_zero, List.set_cons_succ]
          refine wpL_takeU 28 (v := ?_) rfl (by kernel_rfl) (by kernel_rfl) (by kernel_rfl) (by kernel_rfl) (fun _ _ _ h => h) (Or.inl ⟨by rfl, ?_⟩) ?_
          rotate_left
          · intro V _
            go_simp
            try with_reducible rfl
          simp only [Act.put, List.setIfInBounds_toArray, List.set_cons_zero, List.set_cons_succ]
          refine wpL_take 1 (v := ?_) rfl (by kernel_rfl) (by kernel_rfl) (by kernel_rfl) (by kernel_rfl) (fun _ _ _ h => h) (Or.inl ⟨by rfl, ?_⟩) hSd ?_
          rotate_left
          · intro V hV
            try dsimp only at hV
            go_simp
            try with_reducible rfl
          simp only [Act.put, List.setIfInBounds_toArray, List.set_cons_zero, List.set_cons_succ]
          refine wpL_take 2 (v := ?_) rfl (by kernel_rfl) (by kernel_rfl) (by kernel_rfl) (by kernel_rfl) (fun _ _ _ h => h) (Or.inl ⟨by rfl, ?_⟩) hSd ?_
          rotate_left
          · intro V hV
            try dsimp only at hV
            go_simp
            try with_reducible rfl
          simp only [Act.put, List.setIfInBounds_toArray, List.set_cons_zero, List.set_cons_succ]
          refine wpL_take 3 (v := ?_) rfl (by kernel_rfl) (by kernel_rfl) (by kernel_rfl) (by kernel_rfl) (fun _ _ _ h => h) (Or.inl ⟨by rfl, ?_⟩) hSd ?_
          rotate_left
          · intro V hV
            try dsimp only at hV
            go_simp
            try with_reducible rfl
          simp only [Act.put, List.setIfInBounds_toArray, List.set_cons_zero, List.set_cons_succ]
          refine wpL_take 4 (v := ?_) rfl (by kernel_rfl) (by kernel_rfl) (by kernel_rfl) (by kernel_rfl) (fun _ _ _ h => h) (Or.inl ⟨by rfl, ?_⟩) hSd ?_
          rotate_left
          · intro V hV
            try dsimp only at hV
            go_simp
            try with_reducible rfl
          simp only [Act.put, List.setIfInBounds_toArray, List.set_cons_zero, List.set_cons_succ]
          refine wpL_take 5 (v := ?_) rfl (by kernel_rfl) (by kernel_rfl) (by kernel_rfl) (by kernel_rfl) (fun _ _ _ h => h) (Or.inl ⟨by rfl, ?_⟩) hSd ?_
          rotate_left
          · intro V hV
            try dsimp only at hV
            go_simp
            try with_reducible rfl
          simp only [Act.put, List.setIfInBounds_toArray, List.set_cons_zero, List.set_cons_succ]
          refine wpL_take 6 (v := ?_) rfl (by kernel_rfl) (by kernel_rfl) (by kernel_rfl) (by kernel_rfl) (fun _ _ _ h => h) (Or.inl ⟨by rfl, ?_⟩) hSd ?_
          rotate_left
          · intro V hV
            try dsimp only at hV
            go_simp
            try with_reducible rfl
          simp only [Act.put, List.setIfInBounds_toArray, List.set_cons_zero, List.set_cons_succ]
          refine wpL_take 7 (v := ?_) rfl (by kernel_rfl) (by kernel_rfl) (by kernel_rfl) (by kernel_rfl) (fun _ _ _ h => h) (Or.inl ⟨by rfl, ?_⟩) hSd ?_
          rotate_left
          · intro V hV
            try dsimp only at hV
            go_simp
            try with_reducible rfl
          simp only [Act.put, List.setIfInBounds_toArray, List.set_cons_zero, List.set_cons_succ]
          refine wpL_take 8 (v := ?_) rfl (by kernel_rfl) (by kernel_rfl) (by kernel_rfl) (by kernel_rfl) (fun _ _ _ h => h) (Or.inl ⟨by rfl, ?_⟩) hSd ?_
          rotate_left
          · intro V hV
            try dsimp only at hV
            go_simp
            try with_reducible rfl
          simp only [Act.put, List.setIfInBounds_toArray, List.set_cons_zero, List.set_cons_succ]
          refine wpL_take 9 (v := ?_) rfl (by kernel_rfl) (by kernel_rfl) (by kernel_rfl) (by kernel_rfl) (fun _ _ _ h => h) (Or.inl ⟨by rfl, ?_⟩) hSd ?_
          rotate_left
          · intro V hV
            try dsimp only at hV
            go_simp
            try with_reducible rfl
          simp only [Act.put, List.setIfInBounds_toArray, List.set_cons_zero, List.set_cons_succ]
          refine wpL_take 10 (v := ?_) rfl (by kernel_rfl) (by kernel_rfl) (by kernel_rfl) (by kernel_rfl) (fun _ _ _ h => h) (Or.inl ⟨by rfl, ?_⟩) hSd ?_
          rotate_left
          · intro V hV
            try dsimp only at hV
            go_simp
            try with_reducible rfl
          simp only [Act.put, List.setIfInBounds_toArray, List.set_cons_zero, List.set_cons_succ]
          refine wpL_take 11 (v := ?_) rfl (by kernel_rfl) (by kernel_rfl) (by kernel_rfl) (by kernel_rfl) (fun _ _ _ h => h) (Or.inl ⟨by rfl, ?_⟩) hSd ?_
          rotate_left
          · intro V hV
            try dsimp only at hV
            go_simp
            try with_reducible rfl
          simp only [Act.put, List.setIfInBounds_toArray, List.set_cons_zero, List.set_cons_succ]
          refine wpL_take 12 (v := ?_) rfl (by kernel_rfl) (by kernel_rfl) (by kernel_rfl) (by kernel_rfl) (fun _ _ _ h => h) (Or.inl ⟨by rfl, ?_⟩) hSd ?_
          rotate_left
          · intro V hV
            try dsimp only at hV
            go_simp
            try with_reducible rfl
          simp only [Act.put, List.setIfInBounds_toArray, List.set_cons_zero, List.set_cons_succ]
          refine wpL_take 13 (v := ?_) rfl (by kernel_rfl) (by kernel_rfl) (by kernel_rfl) (by kernel_rfl) (fun _ _ _ h => h) (Or.inl ⟨by rfl, ?_⟩) hSd ?_
          rotate_left
          · intro V hV
            try dsimp only at hV
            go_simp
            try with_reducible rfl
          simp only [Act.put, List.setIfInBounds_toArray, List.set_cons_zero, List.set_cons_succ]
          refine wpL_take 14 (v := ?_) rfl (by kernel_rfl) (by kernel_rfl) (by kernel_rfl) (by kernel_rfl) (fun _ _ _ h => h) (Or.inl ⟨by rfl, ?_⟩) hSd ?_
          rotate_left
          · intro V hV
            try dsimp only at hV
            go_simp
            try with_reducible rfl
          simp only [Act.put, List.setIfInBounds_toArray, List.set_cons_zero, List.set_cons_succ]
          refine wpL_take 15 (v := ?_) rfl (by kernel_rfl) (by kernel_rfl) (by kernel_rfl) (by kernel_rfl) (fun _ _ _ h => h) (Or.inl ⟨by rfl, ?_⟩) hSd ?_
          rotate_left
          · intro V hV
            try dsimp only at hV
            go_simp
            try with_reducible rfl
          simp only [Act.put, List.setIfInBounds_toArray, List.set_cons_zero, List.set_cons_succ]
          refine wpL_take 16 (v := ?_) rfl (by kernel_rfl) (by kernel_rfl) (by kernel_rfl) (by kernel_rfl) (fun _ _ _ h => h) (Or.inl ⟨by rfl, ?_⟩) hSd ?_
          rotate_left
          · intro V hV
            try dsimp only at hV
            go_simp
            try with_reducible rfl
          simp only [Act.put, List.setIfInBounds_toArray, List.set_cons_zero, List.set_cons_succ]
          refine wpL_take 17 (v := ?_) rfl (by kernel_rfl) (by kernel_rfl) (by kernel_rfl) (by kernel_rfl) (fun _ _ _ h => h) (Or.inl ⟨by rfl, ?_⟩) hSd ?_
          rotate_left
          · intro V hV
            try dsimp only at hV
            go_simp
            try with_reducible rfl
          simp only [Act.put, List.setIfInBounds_toArray, List.set_cons_zero, List.set_cons_succ]
          refine wpL_take 18 (v := ?_) rfl (by kernel_rfl) (by kernel_rfl) (by kernel_rfl) (by kernel_rfl) (fun _ _ _ h => h) (Or.inl ⟨by rfl, ?_⟩) hSd ?_
          rotate_left
          · intro V hV
            try dsimp only at hV
            go_simp
            try with_reducible rfl
          simp only [Act.put, List.setIfInBounds_toArray, List.set_cons_zero, List.set_cons_succ]
          refine wpL_take 19 (v := ?_) rfl (by kernel_rfl) (by kernel_rfl) (by kernel_rfl) (by kernel_rfl) (fun _ _ _ h => h) (Or.inl ⟨by rfl, ?_⟩) hSd ?_
          rotate_left
          · intro V hV
            try dsimp only at hV
            go_simp
            try with_reducible rfl
          simp only [Act.put, List.setIfInBounds_toArray, List.set_cons_zero, List.set_cons_succ]
          refine wpL_take 20 (v := ?_) rfl (by kernel_rfl) (by kernel_rfl) (by kernel_rfl) (by kernel_rfl) (fun _ _ _ h => h) (Or.inl ⟨by rfl, ?_⟩) hSd ?_
          rotate_left
          · intro V hV
            try dsimp only at hV
            go_simp
            try with_reducible rfl
          simp only [Act.put, List.setIfInBounds_toArray, List.set_cons_zero, List.set_cons_succ]
          refine wpL_take 21 (v := ?_) rfl (by kernel_rfl) (by kernel_rfl) (by kernel_rfl) (by kernel_rfl) (fun _ _ _ h => h) (Or.inl ⟨by rfl, ?_⟩) hSd ?_
          rotate_left
          · intro V hV
            try dsimp only at hV
            go_simp
            try with_reducible rfl
          simp only [Act.put, List.setIfInBounds_toArray, List.set_cons_zero, List.set_cons_succ]
          refine wpL_take 22 (v := ?_) rfl (by kernel_rfl) (by kernel_rfl) (by kernel_rfl) (by kernel_rfl) (fun _ _ _ h => h) (Or.inl ⟨by rfl, ?_⟩) hSd ?_
          rotate_left
          · intro V hV
            try dsimp only at hV
            go_simp
            try with_reducible rfl
          simp only [Act.put, List.setIfInBounds_toArray, List.set_cons_zero, List.set_cons_succ]
          refine wpL_one 23 (by kernel_rfl) rfl (fun K hK => ?_)
          refine step_in (by rfl) ?_
          go_simp
          go_at_call 38
          refine HC.out.mono ?_
          rintro e w6 ⟨v6, rfl, hb6, hs6, _⟩
          obtain ⟨A6, c6, rfl, _, _⟩ := hb6.val
          have hs46 := (St.refl (fun _ => False) w4).drew.trans hs6
          have hS6 : (fun V : World => V.cell? ⟨wb, 9, none⟩ = some (.slice Ar xs.length cr) ∧ V.cell? ⟨gl, k * 6, none⟩ = some (.int .i64 3) ∧ V.cell? ⟨gl, k * 6 + 1, none⟩ = some (.int .i64 2) ∧ V.cell? ⟨gl, k * 6 + 2, none⟩ = some (.int .i64 4) ∧ V.cell? ⟨gl, k * 6 + 3, none⟩ = some (.int .i64 9) ∧ V.cell? ⟨gl, k * 6 + 4, none⟩ = some (.int .i64 ((na : Int) - (nb : Int) + 1 + (k : Int))) ∧ V.cell? ⟨gl, k * 6 + 5, none⟩ = some (.slice Ak bd.length ck)) w6 := ⟨hs46.only.cell hSd.1 (fun e => e), hs46.only.cell hSd.2.1 (fun e => e), hs46.only.cell hSd.2.2.1 (fun e => e), hs46.only.cell hSd.2.2.2.1 (fun e => e), hs46.only.cell hSd.2.2.2.2.1 (fun e => e), hs46.only.cell hSd.2.2.2.2.2.1 (fun e => e), hs46.only.cell hSd.2.2.2.2.2.2 (fun e => e)⟩
          refine hK _ _ (fun _ => hS6) ?_
          clear hK K
          try simp only [Act.put, List.setIfInBounds_toArray, List.set_cons_zero, List.set_cons_succ]
          refine wpL_take 24 (v := ?_) rfl (by kernel_rfl) (by kernel_rfl) (by kernel_rfl) (by kernel_rfl) (fun _ _ _ h => h) (Or.inl ⟨by rfl, ?_⟩) hS6 ?_
          rotate_left
          · intro V hV
            try dsimp only at hV
            go_simp
            try with_reducible rfl
          simp only [Act.put, List.setIfInBounds_toArray, List.set_cons_zero, List.set_cons_succ]
          refine wpL_one 25 (by kernel_rfl) rfl (fun K hK => ?_)
          refine step_in (by rfl) ?_
          go_simp
          have hsA : St (fun _ => False) w6 (w6.alloc (.cells #[.int .i64 3, .int .i64 2, .int .i64 4, .int .i64 9, .int .i64 ((na : Int) - (nb : Int) + 1 + (k : Int)), .slice A6 bd.length c6] 57)) := (St.refl (fun _ => False) w6).alloc _
          have hSA : (fun V : World => V.cell? ⟨wb, 9, none⟩ = some (.slice Ar xs.length cr) ∧ V.cell? ⟨gl, k * 6, none⟩ = some (.int .i64 3) ∧ V.cell? ⟨gl, k * 6 + 1, none⟩ = some (.int .i64 2) ∧ V.cell? ⟨gl, k * 6 + 2, none⟩ = some (.int .i64 4) ∧ V.cell? ⟨gl, k * 6 + 3, none⟩ = some (.int .i64 9) ∧ V.cell? ⟨gl, k * 6 + 4, none⟩ = some (.int .i64 ((na : Int) - (nb : Int) + 1 + (k : Int))) ∧ V.cell? ⟨gl, k * 6 + 5, none⟩ = some (.slice Ak bd.length ck)) (w6.alloc (.cells #[.int .i64 3, .int .i64 2, .int .i64 4, .int .i64 9, .int .i64 ((na : Int) - (nb : Int) + 1 + (k : Int)), .slice A6 bd.length c6] 57)) := ⟨hsA.only.cell hS6.1 (fun e => e), hsA.only.cell hS6.2.1 (fun e => e), hsA.only.cell hS6.2.2.1 (fun e => e), hsA.only.cell hS6.2.2.2.1 (fun e => e), hsA.only.cell hS6.2.2.2.2.1 (fun e => e), hsA.only.cell hS6.2.2.2.2.2.1 (fun e => e), hsA.only.cell hS6.2.2.2.2.2.2 (fun e => e)⟩
          refine hK _ _ (fun _ => hSA) ?_
          clear hK K
          try simp only [Act.put, List.setIfInBounds_toArray, List.set_cons_zero, List.set_cons_succ]
          have hsAA := hs46.trans hsA
          refine wpL_one 26 (by kernel_rfl) rfl (fun K hK => ?_)
          refine step_push (w6.alloc (.cells #[.int .i64 3, .int .i64 2, .int .i64 4, .int .i64 9, .int .i64 ((na : Int) - (nb : Int) + 1 + (k : Int)), .slice A6 bd.length c6] 57)) (by rfl) (.tmp 83) (.tmp 101) _ (by rfl) 0 57 i57 _ 6 64 Try.underlying40 hi57 hu0 hu1 hu2 (by rfl) (by omega) (.slice Ar xs.length cr) xs.length (frAll (frs xs) vs) (by rfl) ?_ w6.heap.size 1 1 #[.int .i64 3, .int .i64 2, .int .i64 4, .int .i64 9, .int .i64 ((na : Int) - (nb : Int) + 1 + (k : Int)), .slice A6 bd.length c6] (by rfl) (Blk.new _ _ _) (by rfl) ?_ (by omega) ?_ ?_ (Nat.zero_le _) ?_
          · exact own_only R1.out hsAA.only (fun _ _ e => e)
          · exact frL_one (f := ⟨tg, (na : Int) - (nb : Int) + 1 + (k : Int), bd⟩) (v := .slice A6 bd.length c6) rfl
          · unfold maxLen; omega
          · omega
          intro g7 cap7 w7 hown7 hgr7 hor7 hlt7
          obtain ⟨st7, kp7⟩ := row_grown (S := fun q => o' q = 9 + 1) (by decide) R1.out R3.out hsAA hgr7
          have hgn : ¬ (o' gl = 9 + 1) := by rw [HGL.out]; omega
          have hwn : ¬ (o' wb = 9 + 1) := by rw [HW4.out.ohead]; omega
          have hS7 : (fun V : World => V.cell? ⟨wb, 9, none⟩ = some (.slice Ar xs.length cr) ∧ V.cell? ⟨gl, k * 6, none⟩ = some (.int .i64 3) ∧ V.cell? ⟨gl, k * 6 + 1, none⟩ = some (.int .i64 2) ∧ V.cell? ⟨gl, k * 6 + 2, none⟩ = some (.int .i64 4) ∧ V.cell? ⟨gl, k * 6 + 3, none⟩ = some (.int .i64 9) ∧ V.cell? ⟨gl, k * 6 + 4, none⟩ = some (.int .i64 ((na : Int) - (nb : Int) + 1 + (k : Int))) ∧ V.cell? ⟨gl, k * 6 + 5, none⟩ = some (.slice Ak bd.length ck)) w7 := ⟨st7.only.cell hSd.1 hwn, st7.only.cell hSd.2.1 hgn, st7.only.cell hSd.2.2.1 hgn, st7.only.cell hSd.2.2.2.1 hgn, st7.only.cell hSd.2.2.2.2.1 hgn, st7.only.cell hSd.2.2.2.2.2.1 hgn, st7.only.cell hSd.2.2.2.2.2.2 hgn⟩
          refine hK _ _ (fun _ => hS7) ?_
          clear hK K
          try simp only [Act.put, List.setIfInBounds_toArray, List.set_cons_zero, List.set_cons_succ]
          refine wpL_takeU 29 (v := ?_) rfl (by kernel_rfl) (by kernel_rfl) (by kernel_rfl) (by kernel_rfl) (fun _ _ _ h => h) (Or.inl ⟨by rfl, ?_⟩) ?_
          rotate_left
          · intro V _
            go_simp
            try with_reducible rfl
          simp only [Act.put, List.setIfInBounds_toArray, List.set_cons_zero, List.set_cons_succ]
          have fr7 := (HW4.out.head.st st7 hwn).frozen 9
          have f7 := hS7.1
          refine wpL_one 30 (by kernel_rfl) rfl (fun K hK => ?_)
          refine step_in (by rfl) ?_
          go_simp
          refine hK _ _ (fun h => absurd h (by decide)) ?_
          clear hK K
          refine wpL_done (by kernel_rfl) ?_ _
          have hfin : WStep w4 o' wb W Sp g' (showK W x 1 (k + 1)) (w7.setCell ⟨wb, 9, none⟩ (.slice (some ⟨g7, 0, none⟩) (xs.length + 1) cap7)) := by
            refine HW4.out.pushF (s := 1) (by omega) (y := showK W x 1 (k + 1)) (i := 9) R1.out R2.out R3.out hsAA hgr7 (v6 := .slice A6 bd.length c6) (sq := (na : Int) - (nb : Int) + 1 + (k : Int)) (bd := bd) (hb6.st hsA) hown7 hor7 rfl (rows_F rfl rfl rfl (fun q hq => by
              show upd _ _ _ q = upd _ _ _ q
              rw [upd_ne _ _ _ _ hq, upd_ne _ _ _ _ hq])) ?_ rfl
            rw [showK_F, HXS.out, List.take_add_one, ← List.append_assoc, ← HSH.out, HFK.out]
            rfl
          obtain ⟨x1, x2, x3, x4, x5⟩ := HS3.out
          have HFIN : Hid (WStep w2 o wb W Sp g (showK W x 1 (k + 1)) (w7.setCell ⟨wb, 9, none⟩ (.slice (some ⟨g7, 0, none⟩) (xs.length + 1) cap7))) := WStep.after (x1.trans (HS4.out.mono fun _ _ e => e.elim)) (fun q hq => x2 q hq) ⟨x3, x4, x5⟩ hfin
          clear hfin st7 kp7 hS7 hSd hS6 hSA hs46 hsA hsAA hown7 hgr7 hor7 hb6 hs6 x1 x2 x3 x4 x5 hgn hwn
          go_wp2
          go_roundw
          case rel => first | exact ⟨k + 1, by omega, by go_num, HFIN⟩ | ((repeat apply Exists.intro); exact ⟨⟨k + 1, by omega, by go_num, HFIN⟩, rfl⟩)
          case measure => simp [intOf]; omega
      · obtain rfl : k = mn := by omega
        go_wp2
        go_ret
        refine ⟨rfl, ?_⟩
        have e1 := showK_all W x 1 k (by have := HML.out; rw [← HSH.out]; omega)
        rw [← e1]
        exact WStep.after (HS2.out.mono fun _ _ e => e.elim) (fun _ _ => rfl) ⟨rfl, rfl, rfl⟩ hws.out
end Go.Proofs.Ytkkckinnhkpcmaa
