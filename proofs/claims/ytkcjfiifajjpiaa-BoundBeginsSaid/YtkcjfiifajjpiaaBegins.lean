/-
  BoundBegins answers true.
-/
import Derived.Test.YtkcjfiifajjpiaaMore
set_option linter.unusedVariables false
set_option linter.unusedSimpArgs false
namespace Go.Proofs.Ytkcjfiifajjpiaa
open Go.RowKit Go.WideShapes Go.ChangeShapes Q

set_option maxRecDepth 100000 in
set_option maxHeartbeats 8000000 in
theorem begins_any (a0 a1 a2 a3 a4 a5 a6 : Int) (vs : List Int) (l : List El) (V E Z : Option Addr) (k f kz B : Nat) (set : List Int) (w : World)
    (hv : RI w B V vs.length vs) (he : EvsIn w B E l) (hz : RI w B Z set.length set) (hvl : vs.length * 8 ≤ 140737488351232) (hel : l.length * 160 ≤ 140737488351232) (hsl : set.length * 8 ≤ 140737488351232) (hzl : ∀ x ∈ l, x.zs.length * 8 ≤ 140737488351232) (hB : B ≤ w.heap.size) :
    Calls Try.prog 5 #[.agg #[.int .i64 a0, .int .i64 a1, .int .i64 a2, .int .i64 a3, .int .i64 a4, .int .i64 a5, .int .i64 a6, .slice V vs.length k, .slice E l.length f, .slice Z set.length kz]] w
      fun e w' => e = .returned (.bool true) ∧ St (fun _ => False) w w' := by
  obtain ⟨n, hn⟩ : ∃ n, n = vs.length := ⟨_, rfl⟩
  obtain ⟨m, hm⟩ : ∃ m, m = l.length := ⟨_, rfl⟩
  obtain ⟨z, hzz⟩ : ∃ z, z = set.length := ⟨_, rfl⟩
  rw [← hn] at hv hvl ⊢
  rw [← hm] at hel ⊢
  rw [← hzz] at hz hsl ⊢
  have HN := hide hn
  have HM := hide hm
  have HZ := hide hzz
  have HZL := hide hzl
  obtain ⟨base, hbase⟩ : ∃ b, b = w.heap.size := ⟨_, rfl⟩
  obtain ⟨o1, ho1⟩ : ∃ o : Obj, o = .cells #[.int .i64 a0, .int .i64 a1, .int .i64 a2, .int .i64 a3, .int .i64 a4, .int .i64 a5, .int .i64 a6, .slice V n k, .slice E m f, .slice Z z kz] 35 := ⟨_, rfl⟩
  have H0 : St (fun _ => False) w (w.alloc o1) := (St.refl _ w).alloc _
  have P1 : Blk (w.alloc o1) base 35 _ := ho1 ▸ Blk.new' w 35 #[.int .i64 a0, .int .i64 a1, .int .i64 a2, .int .i64 a3, .int .i64 a4, .int .i64 a5, .int .i64 a6, .slice V n k, .slice E m f, .slice Z z kz] base hbase
  have HBB := hide hB
  have HW0 := hide hbase
  have V0 := hv.st H0 (fun q e => e.elim)
  have HV := hide hv
  have HE := hide he
  have HZI := hide hz
  clear hn hm hzl hv he hB hz hzz
  go_enter Try.func5, Try.ntmps5
  go_upto_region 1 with fail
  rw [← ho1, ← hbase]
  obtain ⟨w0, hw0⟩ : ∃ w0, w0 = w.alloc o1 := ⟨_, rfl⟩
  rw [← hw0] at H0 P1 V0 ⊢
  have HS0 := hide H0
  have HP1 := hide P1
  have hbw : base ≤ w0.heap.size := by have := H0.size; omega
  have hwB : ∀ q, base ≤ q → B ≤ q := fun q e => by have := HBB.out; have := HW0.out; omega
  have HCK := hide (rck a0 a1 a2 a3 a4 a5 a6 vs V n k B w0 V0 (by have := HBB.out; omega) (by omega))
  obtain ⟨y0, y1, y2, y3, y4, y5, y6, y7, y8, y9⟩ := mm10 P1
  clear hw0 ho1 H0 P1 V0 hbase
  by_cases hok : Cfg.Ok ⟨a0, a1, a2, a3, a4, a5, a6, vs⟩
  · have he0 := Cfg.err_ok hok
    rw [he0] at HCK
    obtain ⟨nn, hnn⟩ : ∃ nn : Nat, a0 = (nn : Int) := ⟨a0.toNat, by have : 1 ≤ a0 := hok.nodes.1; omega⟩
    subst hnn
    have hn1 : 1 ≤ nn := by have : 1 ≤ (nn : Int) := hok.nodes.1; omega
    have hn2 : nn ≤ 16 := by have : (nn : Int) ≤ 16 := hok.nodes.2; omega
    have HOK := hide hok
    clear he0 hok
    by_cases hf : 2305843009213693952 < a6
    · go_wp2_with ((go_at_call 19; refine HCK.out.mono ?_; rintro e w1 ⟨rfl, hst⟩; have HST1 := hide hst; clear y0 y1 y2 y3 y4 y5 y6 y7 y8 y9; obtain ⟨y0, y1, y2, y3, y4, y5, y6, y7, y8, y9⟩ := mm10 (HP1.out.st hst (fun e => e)); clear hst))
      go_ret
      exact ⟨rfl, HS0.out.trans HST1.out⟩
    · by_cases hl : 3990 < m
      · have hl' : (3990 : Int) < (m : Int) := by omega
        go_wp2_with ((go_at_call 19; refine HCK.out.mono ?_; rintro e w1 ⟨rfl, hst⟩; have HST1 := hide hst; clear y0 y1 y2 y3 y4 y5 y6 y7 y8 y9; obtain ⟨y0, y1, y2, y3, y4, y5, y6, y7, y8, y9⟩ := mm10 (HP1.out.st hst (fun e => e)); clear hst))
        go_ret
        exact ⟨rfl, HS0.out.trans HST1.out⟩
      · have hl' : (m : Int) ≤ (3990 : Int) := by omega
        have hl2 : m ≤ 3990 := by omega
        have hf' : a6 ≤ 2305843009213693952 := by omega
        have HF := hide hf'
        go_upto_region 5 with ((go_at_call 19; refine HCK.out.mono ?_; rintro e w1 ⟨rfl, hst⟩; have HST1 := hide hst; clear y0 y1 y2 y3 y4 y5 y6 y7 y8 y9; obtain ⟨y0, y1, y2, y3, y4, y5, y6, y7, y8, y9⟩ := mm10 (HP1.out.st hst (fun e => e)); clear hst))
        clear y0 y1 y2 y3 y4 y5 y6 y7 y8 y9 hf hl
        have HEV := hide (everybody_any nn w1 (by omega))
        go_upto_region 6 with ((go_at_call 20; refine HEV.out.mono ?_; rintro e w2 ⟨va, rfl, hown, hst⟩; have HOA := hide hown; have HST2 := hide ((HS0.out.trans HST1.out).trans hst); have HP2 := hide ((HP1.out.st HST1.out (fun e => e)).st hst (fun e => e)); clear hst hown))
        obtain ⟨Aa, ca, rfl, _, hca⟩ := own_val HOA.out
        have RA := RN.of_own HOA.out
        have HRA := hide RA
        have V2 := HV.out.st HST2.out (fun q e => e.elim)
        have hB2 : B ≤ w2.heap.size := by have := HST2.out.size; have := HBB.out; omega
        have HPA := hide (prem_any (nn : Int) a1 a2 a3 a4 a5 a6 vs V k none 0 [] Aa ca w2.heap.size (upto nn) w2 (by rw [← HN.out]; exact V2.more hB2) (EvsIn.nil _ _) (by rw [upto_len]; exact RA.reads (Nat.le_refl _)) (Nat.le_refl _) (by have := HN.out; omega) (by simp) (by rw [upto_len]; omega))
        have hpb := prem_begin HOK.out HF.out
        simp only [Int.toNat_natCast] at hpb
        rw [hpb, ← HN.out, upto_len] at HPA
        obtain ⟨y0, y1, y2, y3, y4, y5, y6, y7, y8, y9⟩ := mm10 HP2.out
        unfold p3 at HPA
        clear RA V2 hB2 hpb HCK HEV
        go_upto_region 9 with ((go_at_call 18; refine HPA.out.mono ?_; rintro e w3 ⟨rfl, hst⟩; have HST23 := hide hst; clear y0 y1 y2 y3 y4 y5 y6 y7 y8 y9 hst))
        have HST3 := hide (HST2.out.trans HST23.out)
        have HP3 := hide (HP2.out.st HST23.out (fun e => e))
        have HRA3 := hide (HRA.out.st (.inl rfl) HST23.out)
        clear HPA HST23 HP2 HRA HOA
        go_upto_if 61 with fail
        go_cut [8] (fun _ wx => Hid (St (fun _ => False) w3 wx))
        case first =>
          by_cases h1n : 1 < nn
          · have i1 : (1 : Int) < (nn : Int) := by omega
            obtain ⟨x0, x1, x2, x3, x4, x5, x6, x7, x8, x9⟩ := mm10 HP3.out
            have hdr : St (fun _ => False) w3 w3.drew := (St.refl _ w3).drew
            have V3 := (HV.out.st HST3.out (fun q e => e.elim)).st hdr (fun q e => e.elim)
            have hB3 : B ≤ w3.drew.heap.size := by have := HST3.out.size; have := HBB.out; show B ≤ w3.heap.size; omega
            obtain ⟨ga, ofa, csa, ega, hba, hca2⟩ := HRA3.out.2 (by omega)
            have RT : RI w3.drew w3.drew.heap.size (some ⟨ga, ofa + 1, none⟩) (nn - 1) (upto nn).tail := by
              refine RN.reads (t := 3) ⟨by simp [ints, upto_len], fun _ => ⟨ga, ofa + 1, csa, rfl, hba.drew, fun j hj => ?_⟩⟩ (Nat.le_refl _)
              rw [show ofa + 1 + j = ofa + (j + 1) by omega, hca2 (j + 1) (by omega)]
              simp [ints, List.getElem?_map, List.getElem?_tail]
            have HPB := hide (prem_any (nn : Int) a1 a2 a3 a4 a5 a6 vs V k none 0 [] (some ⟨ga, ofa + 1, none⟩) (ca - 1) w3.drew.heap.size (upto nn).tail w3.drew (by rw [← HN.out]; exact V3.more hB3) (EvsIn.nil _ _) (by rw [List.length_tail, upto_len]; exact RT) (Nat.le_refl _) (by have := HN.out; omega) (by simp) (by rw [List.length_tail, upto_len]; omega))
            have hpb := prem_part HOK.out HF.out (by show (1 : Int) < (nn : Int); omega)
            simp only [Int.toNat_natCast] at hpb
            rw [hpb, ← HN.out, List.length_tail, upto_len] at HPB
            unfold p3 at HPB
            rw [List.length_nil] at HPB
            subst ega
            have hca1 : (1 : Int) ≤ (nn : Int) := by omega
            have hca3 : (nn : Int) ≤ (ca : Int) := by omega
            have hca4 : ¬ ca = 1 := by omega
            clear hdr V3 hB3 RT hpb hba hca2
            go_upto_region 10 with fail
            have LD0 : w3.drew.cell? ⟨base, 0, none⟩ = some (.int .i64 (nn : Int)) ∧ w3.drew.cell? ⟨base, 1, none⟩ = some (.int .i64 a1) ∧ w3.drew.cell? ⟨base, 2, none⟩ = some (.int .i64 a2) ∧ w3.drew.cell? ⟨base, 3, none⟩ = some (.int .i64 a3) ∧ w3.drew.cell? ⟨base, 4, none⟩ = some (.int .i64 a4) ∧ w3.drew.cell? ⟨base, 5, none⟩ = some (.int .i64 a5) ∧ w3.drew.cell? ⟨base, 6, none⟩ = some (.int .i64 a6) ∧ w3.drew.cell? ⟨base, 7, none⟩ = some (.slice V n k) := ⟨x0, x1, x2, x3, x4, x5, x6, x7⟩
            go_region_held3 (fun W : World => W.cell? ⟨base, 0, none⟩ = some (.int .i64 (nn : Int)) ∧ W.cell? ⟨base, 1, none⟩ = some (.int .i64 a1) ∧ W.cell? ⟨base, 2, none⟩ = some (.int .i64 a2) ∧ W.cell? ⟨base, 3, none⟩ = some (.int .i64 a3) ∧ W.cell? ⟨base, 4, none⟩ = some (.int .i64 a4) ∧ W.cell? ⟨base, 5, none⟩ = some (.int .i64 a5) ∧ W.cell? ⟨base, 6, none⟩ = some (.int .i64 a6) ∧ W.cell? ⟨base, 7, none⟩ = some (.slice V n k))
              (first | with_reducible exact LD | with_reducible exact LD0)
              ((go_at_call 18; (with_reducible refine HPB.out.mono ?_); rintro e w4 ⟨rfl, hst⟩; have HST4 := hide (((St.refl (fun _ => False) w3).drew).trans hst); have LD := (show _ from ⟨(HP3.out.st HST4.out (fun e => e)).cell 0, (HP3.out.st HST4.out (fun e => e)).cell 1, (HP3.out.st HST4.out (fun e => e)).cell 2, (HP3.out.st HST4.out (fun e => e)).cell 3, (HP3.out.st HST4.out (fun e => e)).cell 4, (HP3.out.st HST4.out (fun e => e)).cell 5, (HP3.out.st HST4.out (fun e => e)).cell 6, (HP3.out.st HST4.out (fun e => e)).cell 7⟩ : w4.cell? ⟨base, 0, none⟩ = some (.int .i64 (nn : Int)) ∧ w4.cell? ⟨base, 1, none⟩ = some (.int .i64 a1) ∧ w4.cell? ⟨base, 2, none⟩ = some (.int .i64 a2) ∧ w4.cell? ⟨base, 3, none⟩ = some (.int .i64 a3) ∧ w4.cell? ⟨base, 4, none⟩ = some (.int .i64 a4) ∧ w4.cell? ⟨base, 5, none⟩ = some (.int .i64 a5) ∧ w4.cell? ⟨base, 6, none⟩ = some (.int .i64 a6) ∧ w4.cell? ⟨base, 7, none⟩ = some (.slice V n k)); clear hst))
            all_goals
              go_wp2_with fail
              go_meet
              exact HST4
          · have i1 : (nn : Int) ≤ 1 := by omega
            go_wp2_with fail
            go_meet
            exact St.refl _ _
        case rest =>
          obtain ⟨w4, hw4⟩ : ∃ w4, w4 = wc := ⟨_, rfl⟩
          rw [← hw4] at hcut ⊢
          have HST4 := hide (HST3.out.trans hcut.out)
          have HP4 := hide (HP3.out.st hcut.out (fun e => e))
          clear hw4 hcut HST3 HP3 HRA3
          obtain ⟨y0, y1, y2, y3, y4, y5, y6, y7, y8, y9⟩ := mm10 HP4.out
          have hB4 : B ≤ w4.heap.size := by have := HST4.out.size; have := HBB.out; omega
          obtain ⟨p, hp⟩ : ∃ p, p = premP ⟨(nn : Int), a1, a2, a3, a4, a5, a6, vs⟩ set l := ⟨_, rfl⟩
          have HPR := hide (premise_any (nn : Int) a1 a2 a3 a4 a5 a6 vs l V E Z k f kz B set w4 (by rw [← HN.out]; exact HV.out.st HST4.out (fun q e => e.elim)) (HE.out.st HST4.out (fun q e => e.elim)) (by rw [← HZ.out]; exact HZI.out.st HST4.out (fun q e => e.elim)) (by have := HN.out; omega) (by have := HM.out; omega) (by have := HZ.out; omega) HZL.out hB4)
          rw [← hp, ← HN.out, ← HM.out, ← HZ.out] at HPR
          have HP := hide hp
          clear hp hB4
          go_upto_region 16 with ((go_at_call 15; refine HPR.out.mono ?_; rintro e w5 ⟨rfl, hst⟩; have HST5 := hide (HST4.out.trans hst); have HP5 := hide (HP4.out.st hst (fun e => e)); clear hst y0 y1 y2 y3 y4 y5 y6 y7 y8 y9))
          obtain ⟨y0, y1, y2, y3, y4, y5, y6, y7, y8, y9⟩ := mm10 HP5.out
          have hB5 : B ≤ w5.heap.size := by have := HST5.out.size; have := HBB.out; omega
          have HCP := hide (copied_any (nn : Int) a1 a2 a3 a4 a5 a6 vs l V E k f B w5 (by rw [← HN.out]; exact HV.out.st HST5.out (fun q e => e.elim)) (HE.out.st HST5.out (fun q e => e.elim)) (by have := HN.out; omega) (by have := HM.out; omega) HZL.out hB5)
          rw [← HN.out, ← HM.out] at HCP
          clear hB5 HPR HP4 HST4
          go_upto_region 17 with ((go_at_call 17; refine HCP.out.mono ?_; rintro e w6 ⟨V', k', E', f', l1, rfl, hrn, hev, hlen, hmap, hst⟩; have HRN := hide hrn; have HEV := hide hev; have HLEN := hide hlen; have HMAP := hide hmap; have HST6 := hide hst; clear hrn hev hlen hmap hst y0 y1 y2 y3 y4 y5 y6 y7 y8 y9))
          have HMI : Hid (MI w (w6.alloc (.cells #[.int .i64 (nn : Int), .int .i64 a1, .int .i64 a2, .int .i64 a3, .int .i64 a4, .int .i64 a5, .int .i64 a6, .slice V' n k', .slice E' m f'] 33)) base w6.heap.size #[.int .i64 (nn : Int), .int .i64 a1, .int .i64 a2, .int .i64 a3, .int .i64 a4, .int .i64 a5, .int .i64 a6, .slice V n k, .slice E m f, .slice Z z kz] (nn : Int) a1 a2 a3 a4 a5 a6 n vs V' k' E' m f' l1) := by
            have sa : St (fun q => base ≤ q) w6 (w6.alloc (.cells #[.int .i64 (nn : Int), .int .i64 a1, .int .i64 a2, .int .i64 a3, .int .i64 a4, .int .i64 a5, .int .i64 a6, .slice V' n k', .slice E' m f'] 33)) := (St.refl _ w6).alloc _
            have hb5 : base ≤ w5.heap.size := by have := HST5.out.size; have := HW0.out; omega
            have hb6 : base ≤ w6.heap.size := Nat.le_trans hb5 HST6.out.size
            have hr := own_base HEV.out.1 hb5
            rw [HLEN.out] at hr
            exact ⟨(HP5.out.st HST6.out (fun e => e)).alloc _, Blk.new _ _ _, hb6, hr.alloc _, HLEN.out, fun x hx => (HEV.out.2 x hx).st sa, HRN.out.st (.inl rfl) sa, ((HST5.out.trans HST6.out).mono (fun _ _ e => e.elim)).trans sa⟩
          obtain ⟨g, hg⟩ : ∃ g, g = w6.heap.size := ⟨_, rfl⟩
          obtain ⟨w7, hw7⟩ : ∃ w7, w7 = w6.alloc (.cells #[.int .i64 (nn : Int), .int .i64 a1, .int .i64 a2, .int .i64 a3, .int .i64 a4, .int .i64 a5, .int .i64 a6, .slice V' n k', .slice E' m f'] 33) := ⟨_, rfl⟩
          rw [← hg, ← hw7] at HMI
          rw [← hg, ← hw7]
          clear hg hw7 HST5 HST6 HRN HEV HP5 HCP
          have HL3 : Hid (m ≤ 3990) := hl2
          obtain ⟨i45, z45, hi45, hz45, hs45, hb45, hc45⟩ := info45
          have I45 := hide hi45
          clear hi45
          have hp1 : premP ⟨(nn : Int), a1, a2, a3, a4, a5, a6, vs⟩ set l1 = p := by rw [premP_same HMAP.out, HP.out]
          have HP1' := hide hp1
          have hp2 : premP ⟨(nn : Int), a1, a2, a3, a4, a5, a6, vs⟩ set (l1 ++ [El.mk0 1 0 none 0 []]) = p := by rw [prem_round HOK.out HF.out (by rw [HLEN.out]; exact hl2) rfl, hp1]
          clear hp1
          have hel2 : m * 160 ≤ 639000 := by omega
          have HC1 := HMI.out.c
          have c8 : w7.cell? ⟨g, 8, none⟩ = some (.slice E' m f') := HC1.cell 8
          have hbw1 : base ≤ w7.heap.size := by have := HMI.out.st.size; have := HW0.out; omega
          clear HC1
          go_upto_region 18 with (at_builtin; refine wpList_push rfl (.tmp 88) (.tmp 90) _ rfl base 45 i45 _ 13 160 Try.underlying31 I45.out hz45 hs45 hb45 hc45 (by omega) (.slice E' (m) f') (m) _ rfl HMI.out.row 1 1 #[.int .i64 1, .int .i64 0, .int .i64 0, .int .i64 0, .slice none 0 0, .int .i64 0, .int .i64 0, .int .i64 0, .int .i64 0, .string ⟨#[]⟩, .string ⟨#[]⟩, .string ⟨#[]⟩, .slice none 0 0] rfl rfl (by simp [Value.oneCell']) (by omega) (by unfold maxLen; omega) (by omega) hbw1 ?_; intro g6 f2 w8 hown6 hg6 _ _ _ _; obtain ⟨hmi6, hc6⟩ := MI.push HMI.out (ev0_own w7 1 0) rfl hown6 hg6; have c8' : w8.cell? ⟨g, 8, none⟩ = some (.slice E' (m) f') := hc6.cell 8; have f8 := hc6.frozen 8; have HM9 := hide hmi6; clear hmi6 hc6 hown6 hg6 c8)
          obtain ⟨w9, hw8⟩ : ∃ wX, wX = w8.setCell ⟨g, 8, none⟩ (.slice (some ⟨g6, 0, none⟩) (m + 1) f2) := ⟨_, rfl⟩
          obtain ⟨E2, hE2⟩ : ∃ E2 : Option Addr, E2 = some ⟨g6, 0, none⟩ := ⟨_, rfl⟩
          rw [← hw8, ← hE2] at HM9
          rw [← hw8, ← hE2]
          clear hw8 hE2 c8' f8 hbw1
          have hl9 : Hid ((l1 ++ [El.mk0 1 0 none 0 []]).length = m + 1) := by
            show _ = _
            rw [List.length_append, HLEN.out]
            rfl
          obtain ⟨x0, x1, x2, x3, x4, x5, x6, x7, x8⟩ := mm9 HM9.out.c
          have d9 : w9.cell? ⟨base, 9, none⟩ = some (.slice Z z kz) := HM9.out.b1.cell 9
          have HPQ := hide (prem_any (nn : Int) a1 a2 a3 a4 a5 a6 vs V' k' E2 f2 (l1 ++ [El.mk0 1 0 none 0 []]) Z kz w9.heap.size set w9 (by rw [← HN.out]; exact HM9.out.rn.reads (Nat.le_refl _)) HM9.out.evs (by rw [← HZ.out]; exact (HZI.out.st HM9.out.st hwB).more (by have := HM9.out.st.size; have := HBB.out; omega)) (Nat.le_refl _) (by have := HN.out; omega) (by rw [HM9.out.len]; omega) (by have := HZ.out; omega))
          rw [hp2, ← HN.out, ← HZ.out, HM9.out.len] at HPQ
          unfold p3 at HPQ
          go_upto_region 19 with ((go_at_call 18; refine HPQ.out.mono ?_; rintro e wa ⟨rfl, hst⟩; have HMA := hide (HM9.out.quiet hst); clear hst d9 x0 x1 x2 x3 x4 x5 x6 x7 x8))
          clear HPQ
          by_cases hp0 : p.2.2 = 0
          · have e1 : ((p.2.2 : Int) == 0) = true := by simpa using hp0
            have e2 : ((p.2.2 : Int) != 0) = false := by simp [hp0]
            have h0 : (premP ⟨(nn : Int), a1, a2, a3, a4, a5, a6, vs⟩ set (l1 ++ [El.mk0 1 0 none 0 []])).2.2 = 0 := by rw [hp2]; exact hp0
            obtain ⟨dd, hdd⟩ := prem_drop (e := El.mk0 12 0 none 0 []) HOK.out HF.out (by rw [hl9.out]; omega) rfl h0
            rw [hl9.out] at hdd
            have h00 : (premP ⟨(nn : Int), a1, a2, a3, a4, a5, a6, vs⟩ set (l1 ++ [El.mk0 1 0 none 0 []] ++ [El.mk0 12 0 none 0 []])).2.2 = 0 := by rw [hdd]
            have HFIT := hide (premP_err HOK.out HF.out (by rw [hl9.out]; omega) h0).1
            clear h0
            go_upto_region 23 with fail
            have HC1 := HMA.out.c
            have c8 : wa.cell? ⟨g, 8, none⟩ = some (.slice E2 (m + 1) f2) := HC1.cell 8
            have hbw1 : base ≤ wa.heap.size := by have := HMA.out.st.size; have := HW0.out; omega
            clear HC1
            go_upto_region 24 with (at_builtin; refine wpList_push rfl (.tmp 117) (.tmp 119) _ rfl base 45 i45 _ 13 160 Try.underlying31 I45.out hz45 hs45 hb45 hc45 (by omega) (.slice E2 (m + 1) f2) (m + 1) _ rfl HMA.out.row 1 1 #[.int .i64 12, .int .i64 0, .int .i64 0, .int .i64 0, .slice none 0 0, .int .i64 0, .int .i64 0, .int .i64 0, .int .i64 0, .string ⟨#[]⟩, .string ⟨#[]⟩, .string ⟨#[]⟩, .slice none 0 0] rfl rfl (by simp [Value.oneCell']) (by omega) (by unfold maxLen; omega) (by omega) hbw1 ?_; intro g6 f3 wb hown6 hg6 _ _ _ _; obtain ⟨hmi6, hc6⟩ := MI.push HMA.out (ev0_own wa 12 0) rfl hown6 hg6; have c8' : wb.cell? ⟨g, 8, none⟩ = some (.slice E2 (m + 1) f2) := hc6.cell 8; have f8 := hc6.frozen 8; have HMD := hide hmi6; clear hmi6 hc6 hown6 hg6 c8)
            obtain ⟨wd, hw8⟩ : ∃ wX, wX = wb.setCell ⟨g, 8, none⟩ (.slice (some ⟨g6, 0, none⟩) (m + 1 + 1) f3) := ⟨_, rfl⟩
            obtain ⟨E3, hE2⟩ : ∃ E2 : Option Addr, E2 = some ⟨g6, 0, none⟩ := ⟨_, rfl⟩
            rw [← hw8, ← hE2] at HMD
            rw [← hw8, ← hE2]
            clear hw8 hE2 c8' f8 hbw1
            have hl10 : Hid ((l1 ++ [El.mk0 1 0 none 0 []] ++ [El.mk0 12 0 none 0 []]).length = m + 1 + 1) := by
              show _ = _
              rw [List.length_append, hl9.out]
              rfl
            obtain ⟨x0, x1, x2, x3, x4, x5, x6, x7, x8⟩ := mm9 HMD.out.c
            have d9 : wd.cell? ⟨base, 9, none⟩ = some (.slice Z z kz) := HMD.out.b1.cell 9
            have HPQ := hide (prem_any (nn : Int) a1 a2 a3 a4 a5 a6 vs V' k' E3 f3 (l1 ++ [El.mk0 1 0 none 0 []] ++ [El.mk0 12 0 none 0 []]) Z kz wd.heap.size set wd (by rw [← HN.out]; exact HMD.out.rn.reads (Nat.le_refl _)) HMD.out.evs (by rw [← HZ.out]; exact (HZI.out.st HMD.out.st hwB).more (by have := HMD.out.st.size; have := HBB.out; omega)) (Nat.le_refl _) (by have := HN.out; omega) (by rw [HMD.out.len]; omega) (by have := HZ.out; omega))
            rw [hdd, ← HN.out, ← HZ.out, HMD.out.len] at HPQ
            unfold p3 at HPQ
            go_upto_region 25 with ((go_at_call 18; refine HPQ.out.mono ?_; rintro e we ⟨rfl, hst⟩; have HME := hide (HMD.out.quiet hst); clear hst d9 x0 x1 x2 x3 x4 x5 x6 x7 x8))
            clear HPQ
            have c8 : we.cell? ⟨g, 8, none⟩ = some (.slice E3 (m + 1 + 1) f3) := HME.out.c.cell 8
            have em : (((m + 1 : Nat) : Int) + 1) = ((m + 1 + 1 : Nat) : Int) := by omega
            go_upto_region 27 with fail
            have hz0 : 0 < z := by
              have := HFIT.out.some_
              have h2 := HZ.out
              cases set with
              | nil => exact absurd rfl this
              | cons a r => simp at h2; omega
            have hb9 := HME.out.b1
            have hZe := HZI.out.st HME.out.st hwB
            obtain ⟨ad, rfl, hadb, hcz⟩ := hZe.at_ (k := 0) hz0
            have hadd : ad.add 0 = ad := by unfold Addr.add; rw [if_pos rfl]
            rw [hadd] at hcz
            have d9 : we.cell? ⟨base, 9, none⟩ = some (.slice (some ad) z kz) := hb9.cell 9
            have d9a : ∀ o, (we.alloc o).cell? ⟨base, 9, none⟩ = some (.slice (some ad) z kz) := fun o => (World.cell?_alloc_lt we o _ hb9.lt).trans d9
            have c8a : ∀ o, (we.alloc o).cell? ⟨g, 8, none⟩ = some (.slice E3 (m + 1 + 1) f3) := fun o => (World.cell?_alloc_lt we o _ HME.out.c.lt).trans c8
            have hcza : ∀ o, (we.alloc o).cell? ad = some (.int .i64 (nth set 0)) := fun o => (World.cell?_alloc_lt we o _ (World.block_lt_of_cell? we ad hcz)).trans hcz
            have hbwe : base ≤ we.heap.size := by have := HME.out.st.size; have := HW0.out; omega
            have i1 : (0 : Int) < (z : Int) := by omega
            clear hZe hb9 hadd
            go_cut [] (fun wx => ∃ E4 f4, Hid (MI w wx base g #[.int .i64 (nn : Int), .int .i64 a1, .int .i64 a2, .int .i64 a3, .int .i64 a4, .int .i64 a5, .int .i64 a6, .slice V n k, .slice E m f, .slice (some ad) z kz] (nn : Int) a1 a2 a3 a4 a5 a6 n vs V' k' E4 (m + 1 + 1 + 1) f4 (l1 ++ [El.mk0 1 0 none 0 []] ++ [El.mk0 12 0 none 0 []] ++ [El.mk0 5 (nth set 0) none 0 []])))
            case first =>
              go_region_law ((refine step_push _ (by rfl) (.tmp 140) (.tmp 146) _ (by rfl) base 45 i45 _ 13 160 Try.underlying31 I45.out hz45 hs45 hb45 hc45 (by omega) (.slice E3 (m + 1 + 1) f3) (m + 1 + 1) (ecells (l1 ++ [El.mk0 1 0 none 0 []] ++ [El.mk0 12 0 none 0 []])) (by rfl) ?_ we.heap.size 1 1 #[.int .i64 5, .int .i64 (nth set 0), .int .i64 0, .int .i64 0, .slice none 0 0, .int .i64 0, .int .i64 0, .int .i64 0, .int .i64 0, .string ⟨#[]⟩, .string ⟨#[]⟩, .string ⟨#[]⟩, .slice none 0 0] (by rfl) ?_ (by rfl) ?_ (by omega) ?_ ?_ ?_ ?_; exact HME.out.row.alloc _; exact Blk.new we _ _; (simp [Value.oneCell']); (unfold maxLen; omega); omega; (have := hbwe; simp <;> omega); intro g6 f4 w6 hown6 hg6 hat6 hlt6; obtain ⟨hmi6, hc6⟩ := MI.push HME.out (ev0_own we 5 (nth set 0)) rfl hown6 (show (we.alloc (.cells (El.mk0 5 (nth set 0) none 0 []).cells.toArray 45)).grownBy w6 _ from ⟨hg6.os, hg6.tape, hg6.output, hg6.size, hg6.block⟩); have c8' : w6.cell? ⟨g, 8, none⟩ = some (.slice E3 (m + 1 + 1) f3) := hc6.cell 8; have f8 := hc6.frozen 8; have HMF := hide hmi6; clear hmi6 hc6 hown6 hg6 hat6 hlt6))
              all_goals
                go_wp2_with fail
                go_meet
                exact ⟨_, _, HMF⟩
            case rest =>
              obtain ⟨E4, f4, HMG⟩ := hcut
              obtain ⟨wg, hwg⟩ : ∃ wg, wg = wc := ⟨_, rfl⟩
              rw [← hwg] at HMG ⊢
              clear hwg c8 c8a d9 d9a hcza hcz
              have hl11 : Hid ((l1 ++ [El.mk0 1 0 none 0 []] ++ [El.mk0 12 0 none 0 []] ++ [El.mk0 5 (nth set 0) none 0 []]).length = m + 1 + 1 + 1) := by
                show _ = _
                rw [List.length_append, hl10.out]
                rfl
              have hcr := prem_crash (e := El.mk0 5 (nth set 0) none 0 []) HOK.out HF.out (by rw [hl10.out]; omega) rfl rfl h00
              obtain ⟨x0, x1, x2, x3, x4, x5, x6, x7, x8⟩ := mm9 HMG.out.c
              have d9 : wg.cell? ⟨base, 9, none⟩ = some (.slice (some ad) z kz) := HMG.out.b1.cell 9
              have HPQ := hide (prem_any (nn : Int) a1 a2 a3 a4 a5 a6 vs V' k' E4 f4 (l1 ++ [El.mk0 1 0 none 0 []] ++ [El.mk0 12 0 none 0 []] ++ [El.mk0 5 (nth set 0) none 0 []]) (some ad) kz wg.heap.size set wg (by rw [← HN.out]; exact HMG.out.rn.reads (Nat.le_refl _)) HMG.out.evs (by rw [← HZ.out]; exact (HZI.out.st HMG.out.st hwB).more (by have := HMG.out.st.size; have := HBB.out; omega)) (Nat.le_refl _) (by have := HN.out; omega) (by rw [HMG.out.len]; omega) (by have := HZ.out; omega))
              rw [hcr, ← HN.out, ← HZ.out, HMG.out.len] at HPQ
              unfold p3 at HPQ
              go_wp2_with ((go_at_call 18; refine HPQ.out.mono ?_; rintro e wh ⟨rfl, hst⟩; have HMH := hide (HMG.out.quiet hst); clear hst d9 x0 x1 x2 x3 x4 x5 x6 x7 x8))
              go_ret
              exact ⟨rfl, HMH.out.st.mono fun q' hq h => by have h1 : base ≤ q' := h; have h2 := HW0.out; omega⟩
          · have e1 : ((p.2.2 : Int) == 0) = false := by simpa using hp0
            have e2 : ((p.2.2 : Int) != 0) = true := by simp [hp0]
            go_wp2_with fail
            go_ret
            exact ⟨rfl, HMA.out.st.mono fun q' hq h => by have h1 : base ≤ q' := h; have h2 := HW0.out; omega⟩
  · have he0 := Cfg.err_bad hok
    rw [he0] at HCK
    clear he0 hok
    go_wp2_with ((go_at_call 19; refine HCK.out.mono ?_; rintro e w1 ⟨rfl, hst⟩; have HST1 := hide hst; clear hst y0 y1 y2 y3 y4 y5 y6 y7 y8 y9))
    go_ret
    exact ⟨rfl, HS0.out.trans HST1.out⟩
end Go.Proofs.Ytkcjfiifajjpiaa
