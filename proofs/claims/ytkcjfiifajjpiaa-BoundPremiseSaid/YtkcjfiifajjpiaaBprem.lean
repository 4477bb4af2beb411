/-
  BoundPremise answers true.
-/
import Derived.Test.YtkcjfiifajjpiaaPutEv
set_option linter.unusedVariables false
set_option linter.unusedSimpArgs false
namespace Go.Proofs.Ytkcjfiifajjpiaa
open Go.RowKit Go.WideShapes Go.ChangeShapes Q

set_option maxRecDepth 100000 in
set_option maxHeartbeats 8000000 in
theorem bprem_any (a0 a1 a2 a3 a4 a5 a6 : Int) (vs : List Int) (l : List El) (V E Z : Option Addr) (k f kz B : Nat) (set : List Int) (w : World)
    (hv : RI w B V vs.length vs) (he : EvsIn w B E l) (hz : RI w B Z set.length set) (hvl : vs.length * 8 ≤ 140737488351232) (hel : l.length * 160 ≤ 140737488351232) (hsl : set.length * 8 ≤ 140737488351232) (hzl : ∀ x ∈ l, x.zs.length * 8 ≤ 140737488351232) (hB : B ≤ w.heap.size) :
    Calls Try.prog 4 #[.agg #[.int .i64 a0, .int .i64 a1, .int .i64 a2, .int .i64 a3, .int .i64 a4, .int .i64 a5, .int .i64 a6, .slice V vs.length k, .slice E l.length f, .slice Z set.length kz]] w
      fun e w' => e = .returned (.bool true) ∧ St (fun _ => False) w w' := by
  obtain ⟨n, hn⟩ : ∃ n, n = vs.length := ⟨_, rfl⟩
  obtain ⟨m, hm⟩ : ∃ m, m = l.length := ⟨_, rfl⟩
  obtain ⟨z, hzz⟩ : ∃ z, z = set.length := ⟨_, rfl⟩
  rw [← hn] at hv hvl ⊢
  rw [← hm] at hel ⊢
  rw [← hzz] at hz hsl ⊢
  have HN := hide hn
  have HM := hide hm
  have HZ := hide hzz
  have HZL := hide hzl
  obtain ⟨base, hbase⟩ : ∃ b, b = w.heap.size := ⟨_, rfl⟩
  obtain ⟨o1, ho1⟩ : ∃ o : Obj, o = .cells #[.int .i64 a0, .int .i64 a1, .int .i64 a2, .int .i64 a3, .int .i64 a4, .int .i64 a5, .int .i64 a6, .slice V n k, .slice E m f, .slice Z z kz] 35 := ⟨_, rfl⟩
  have H0 : St (fun _ => False) w (w.alloc o1) := (St.refl _ w).alloc _
  have P1 : Blk (w.alloc o1) base 35 _ := ho1 ▸ Blk.new' w 35 #[.int .i64 a0, .int .i64 a1, .int .i64 a2, .int .i64 a3, .int .i64 a4, .int .i64 a5, .int .i64 a6, .slice V n k, .slice E m f, .slice Z z kz] base hbase
  have HBB := hide hB
  have HW0 := hide hbase
  have HV := hide hv
  have HE := hide he
  have HZI := hide hz
  obtain ⟨p, hp⟩ : ∃ p, p = premP ⟨a0, a1, a2, a3, a4, a5, a6, vs⟩ set l := ⟨_, rfl⟩
  have HP := hide hp
  clear hn hm hzl hv he hB hz hzz hp
  go_enter Try.func4, Try.ntmps4
  go_upto_region 1 with fail
  rw [← ho1, ← hbase]
  obtain ⟨w0, hw0⟩ : ∃ w0, w0 = w.alloc o1 := ⟨_, rfl⟩
  rw [← hw0] at H0 P1 ⊢
  have HS0 := hide H0
  have HP1 := hide P1
  have hwB : ∀ q, base ≤ q → B ≤ q := fun q e => by have := HBB.out; have := HW0.out; omega
  obtain ⟨y0, y1, y2, y3, y4, y5, y6, y7, y8, y9⟩ := mm10 P1
  have hB0 : B ≤ w0.heap.size := by have := HS0.out.size; have := HBB.out; omega
  have HPR := hide (premise_any a0 a1 a2 a3 a4 a5 a6 vs l V E Z k f kz B set w0 (by rw [← HN.out]; exact HV.out.st HS0.out (fun q e => e.elim)) (HE.out.st HS0.out (fun q e => e.elim)) (by rw [← HZ.out]; exact HZI.out.st HS0.out (fun q e => e.elim)) (by have := HN.out; omega) (by have := HM.out; omega) (by have := HZ.out; omega) HZL.out hB0)
  rw [← HP.out, ← HN.out, ← HM.out, ← HZ.out] at HPR
  clear hw0 ho1 H0 P1 hbase hB0
  go_upto_region 2 with ((go_at_call 15; refine HPR.out.mono ?_; rintro e w1 ⟨rfl, hst⟩; have HST1 := hide (HS0.out.trans hst); have HP2 := hide (HP1.out.st hst (fun e => e)); clear hst y0 y1 y2 y3 y4 y5 y6 y7 y8 y9))
  obtain ⟨y0, y1, y2, y3, y4, y5, y6, y7, y8, y9⟩ := mm10 HP2.out
  have hB1 : B ≤ w1.heap.size := by have := HST1.out.size; have := HBB.out; omega
  have HRP := hide (rprem_any a0 a1 a2 a3 a4 a5 a6 vs V k E f l Z kz B set w1 (by rw [← HN.out]; exact HV.out.st HST1.out (fun q e => e.elim)) (HE.out.st HST1.out (fun q e => e.elim)) (by rw [← HZ.out]; exact HZI.out.st HST1.out (fun q e => e.elim)) hB1 (by have := HN.out; omega) (by have := HM.out; omega) (by have := HZ.out; omega))
  rw [← HP.out, ← HN.out, ← HM.out, ← HZ.out] at HRP
  unfold p3 at HRP
  clear HPR HS0 HP1 hB1
  go_upto_region 3 with ((go_at_call 16; refine HRP.out.mono ?_; rintro e w2 ⟨rfl, hst⟩; have HST2 := hide (HST1.out.trans hst); have HP3 := hide (HP2.out.st hst (fun e => e)); clear hst y0 y1 y2 y3 y4 y5 y6 y7 y8 y9))
  obtain ⟨y0, y1, y2, y3, y4, y5, y6, y7, y8, y9⟩ := mm10 HP3.out
  have hB2 : B ≤ w2.heap.size := by have := HST2.out.size; have := HBB.out; omega
  have HCP := hide (copied_any a0 a1 a2 a3 a4 a5 a6 vs l V E k f B w2 (by rw [← HN.out]; exact HV.out.st HST2.out (fun q e => e.elim)) (HE.out.st HST2.out (fun q e => e.elim)) (by have := HN.out; omega) (by have := HM.out; omega) HZL.out hB2)
  rw [← HN.out, ← HM.out] at HCP
  clear HRP HST1 HP2 hB2
  go_upto_region 6 with ((go_at_call 17; refine HCP.out.mono ?_; rintro e w6 ⟨V', k', E', f', l1, rfl, hrn, hev, hlen, hmap, hst⟩; have HRN := hide hrn; have HEV := hide hev; have HLEN := hide hlen; have HST6 := hide hst; clear hrn hev hlen hmap hst y0 y1 y2 y3 y4 y5 y6 y7 y8 y9))
  have HMI : Hid (MI w (w6.alloc (.cells #[.int .i64 a0, .int .i64 a1, .int .i64 a2, .int .i64 a3, .int .i64 a4, .int .i64 a5, .int .i64 a6, .slice V' n k', .slice E' m f'] 33)) base w6.heap.size #[.int .i64 a0, .int .i64 a1, .int .i64 a2, .int .i64 a3, .int .i64 a4, .int .i64 a5, .int .i64 a6, .slice V n k, .slice E m f, .slice Z z kz] a0 a1 a2 a3 a4 a5 a6 n vs V' k' E' m f' l1) := by
    have sa : St (fun q => base ≤ q) w6 (w6.alloc (.cells #[.int .i64 a0, .int .i64 a1, .int .i64 a2, .int .i64 a3, .int .i64 a4, .int .i64 a5, .int .i64 a6, .slice V' n k', .slice E' m f'] 33)) := (St.refl _ w6).alloc _
    have hb5 : base ≤ w2.heap.size := by have := HST2.out.size; have := HW0.out; omega
    have hb6 : base ≤ w6.heap.size := Nat.le_trans hb5 HST6.out.size
    have hr := own_base HEV.out.1 hb5
    rw [HLEN.out] at hr
    exact ⟨(HP3.out.st HST6.out (fun e => e)).alloc _, Blk.new _ _ _, hb6, hr.alloc _, HLEN.out, fun x hx => (HEV.out.2 x hx).st sa, HRN.out.st (.inl rfl) sa, ((HST2.out.trans HST6.out).mono (fun _ _ e => e.elim)).trans sa⟩
  obtain ⟨g, hg⟩ : ∃ g, g = w6.heap.size := ⟨_, rfl⟩
  obtain ⟨w7, hw7⟩ : ∃ w7, w7 = w6.alloc (.cells #[.int .i64 a0, .int .i64 a1, .int .i64 a2, .int .i64 a3, .int .i64 a4, .int .i64 a5, .int .i64 a6, .slice V' n k', .slice E' m f'] 33) := ⟨_, rfl⟩
  rw [← hg, ← hw7] at HMI
  rw [← hg, ← hw7]
  clear hg hw7 HST6 HRN HEV HP3 HCP HST2
  obtain ⟨bS, hbS⟩ : ∃ b, b = w7.heap.size := ⟨_, rfl⟩
  have HME := hide (ME.of HMI.out hbS)
  have HBS := hide hbS
  have hb7 : base ≤ bS := by have := HMI.out.st.size; have := HW0.out; omega
  have HBL : Hid (Below base w w7) := HMI.out.st.below_ (Nat.le_of_eq HW0.out) (fun k hk e => by have h1 : base ≤ k := e; omega)
  have y9 : w7.cell? ⟨base, 9, none⟩ = some (.slice Z z kz) := HMI.out.b1.cell 9
  have HZ7 := hide (HZI.out.st HMI.out.st hwB)
  obtain ⟨i3, hi3, hz3, hs3, hb3⟩ := info_parts info3
  have I3 := hide hi3
  clear hbS hi3 HMI
  have hz1 : z ≤ 17592186044416 := by omega
  go_upto_region 7 with (at_builtin; refine wpList_append_any _ rfl _ (.tmp 49) 22 rfl bS 3 i3 _ 1 8 Try.underlying22 I3.out hz3 hs3 hb3 rfl (by omega) (.slice none 0 0) 0 [] rfl (World.ownsRow_nil _ _ _ _) B Z z kz (ints set) rfl HZ7.out (ints_one set) (by unfold maxLen; omega) (by omega) (Nat.le_of_eq HBS.out) ?_; intro v1 w8 hown1 hg1 _; have HO := hide hown1; have HBX := hide ((Below.refl bS w7).grown hg1 (Nat.le_of_eq HBS.out) (fun k e => by simp [Value.ownBlock] at e)); clear hown1 hg1 y9)
  obtain ⟨Zs, cz, rfl, hrd, hcz⟩ := own_val HO.out
  rw [List.nil_append, Nat.zero_add] at HO
  rw [Nat.zero_add]
  have HME8 := hide (HME.out.below HBX.out)
  have HBL8 := hide (HBL.out.trans (HBX.out.mono hb7))
  have hb8 : base ≤ w8.heap.size := by have := HBL8.out.size; have := HW0.out; omega
  clear hrd HBX HBL HME HZ7
  obtain ⟨x0, x1, x2, x3, x4, x5, x6, x7, x8⟩ := mm9 HME8.out.c
  have HL1 := hide HLEN.out
  have HPQ := hide (prem_any a0 a1 a2 a3 a4 a5 a6 vs V' k' E' f' l1 Zs cz w8.heap.size set w8 (by rw [← HN.out]; exact HME8.out.rn.reads (Nat.le_refl _)) HME8.out.evs (by rw [← HZ.out]; exact (RN.of_own HO.out).reads (Nat.le_refl _)) (Nat.le_refl _) (by have := HN.out; omega) (by rw [HME8.out.len]; omega) (by have := HZ.out; omega))
  rw [← HN.out, ← HZ.out, HME8.out.len] at HPQ
  go_upto_region 8 with ((go_at_call 18; refine HPQ.out.mono ?_; rintro e w9 ⟨rfl, hst⟩; have HME9 := hide (HME8.out.quiet hst); have HO9 := hide (own_st0 HO.out hst); have HBL9 := hide (HBL8.out.trans (hst.below_ hb8 (fun _ _ e => e))); clear hst x0 x1 x2 x3 x4 x5 x6 x7 x8))
  have hb9 : base ≤ w9.heap.size := by have := HBL9.out.size; have := HW0.out; omega
  clear HPQ HME8 HO HBL8 hb8 HL1
  have x8 : w9.cell? ⟨g, 8, none⟩ = some (.slice E' m f') := HME9.out.c.cell 8
  go_upto_if 57 with fail
  go_cut [11] (fun s11 wx => s11 = .slice Zs z cz ∧ ∃ l2, Hid (ME wx base bS g a0 a1 a2 a3 a4 a5 a6 n vs V' k' E' m f' l2) ∧ Hid (wx.ownsRow bS 3 1 (.slice Zs z cz) z (ints set)) ∧ Hid (Below base w wx))
  case first =>
    by_cases hm0 : m = 0
    · subst hm0
      go_wp2_with fail
      go_meet
      exact ⟨rfl, l1, HME9, HO9, HBL9⟩
    · have hmp : 0 < m := by omega
      have imp : (0 : Int) < (m : Int) := by omega
      obtain ⟨ge, cap, cur, e1, hge, hgc, hcp, hmx, hsz, htk⟩ := own_some HME9.out.row hmp
      injection e1 with e1 e2 e3
      subst e1 e3
      have hlt2 : m / 2 < m := by omega
      have HPUT := hide (HME9.out.put (x := El.mk0 5 0 none 0 []) (ev0_own w9 5 0) ⟨fun h => absurd h (by simp [El.mk0]), fun h => absurd h (by simp [El.mk0])⟩ hlt2 rfl hgc rfl)
      obtain ⟨nw, hnw⟩ : ∃ nw, nw = (cur.toList.take (m / 2 * 13) ++ (El.mk0 5 0 none 0 []).cells ++ cur.toList.drop (m / 2 * 13 + 13)).toArray := ⟨_, rfl⟩
      rw [← hnw] at HPUT
      have HNW := hide hnw
      clear hnw
      have HST : Hid (St (fun q => q = ge) w9 (w9.setRow ge nw)) := (St.refl (fun q => q = ge) w9).setRow hgc not35_45 (fun _ => rfl) _
      have hi45 : (Try.prog.info? 45).map (·.size) = some 13 := by
        obtain ⟨i45, z45, h1, h2, h3, h4, h5⟩ := info45
        rw [h1]
        simp [h3]
      have htd : Int.tdiv (m : Int) 2 = ((m / 2 : Nat) : Int) := by
        rw [Int.tdiv_eq_ediv_of_nonneg (by omega)]
        omega
      have htn : ((m : Int) / 2).toNat = m / 2 := by omega
      have h0d : (0 : Int) ≤ ((m / 2 : Nat) : Int) := by omega
      have h1d : ((m / 2 : Nat) : Int) < (m : Int) := by omega
      have HSIZE : Hid (m / 2 * 13 + 13 ≤ cur.size) := by show _ ≤ _; omega
      have HGC := hide hgc
      have HI45 := hide hi45
      clear hgc htk hsz hcp hmx hi45 hmp
      go_wp2_with (refine wpList_store_at rfl 45 (.tmp 65) (.tmp 64) rfl ge (m / 2 * 13) #[.int .i64 5, .int .i64 0, .int .i64 0, .int .i64 0, .slice none 0 0, .int .i64 0, .int .i64 0, .int .i64 0, .int .i64 0, .string ⟨#[]⟩, .string ⟨#[]⟩, .string ⟨#[]⟩, .slice none 0 0] (by rfl) (by rfl) 45 cur HGC.out HI45.out HSIZE.out (by simp [Value.oneCell']) nw (by rw [HNW.out]; rfl) ?_)
      go_meet
      refine ⟨rfl, _, HPUT, ?_, ?_⟩
      · exact own_only HO9.out HST.out.only (fun q hq e => own_ne HO9.out HGC.out (by decide) (by rw [hq, e]))
      · exact HBL9.out.trans (HST.out.below_ hb9 (fun q hq e => by omega))
  case rest =>
    obtain ⟨rfl, l2, hme, ho, hbl⟩ := hcut
    obtain ⟨wa, hwa⟩ : ∃ wa, wa = wc := ⟨_, rfl⟩
    rw [← hwa] at hme ho hbl ⊢
    clear hwa HME9 HO9 HBL9 x8 hb9
    go_upto_if 68 with fail
    go_cut [11] (fun s11 wx => s11 = .slice Zs z cz ∧ ∃ set2, Hid (ME wx base bS g a0 a1 a2 a3 a4 a5 a6 n vs V' k' E' m f' l2) ∧ Hid (wx.ownsRow bS 3 1 (.slice Zs z cz) z (ints set2)) ∧ Hid (Below base w wx))
    case first =>
      by_cases hz0 : z = 0
      · subst hz0
        go_wp2_with fail
        go_meet
        exact ⟨rfl, set, hme, ho, hbl⟩
      · have hzp : 0 < z := by omega
        have izp : (0 : Int) < (z : Int) := by omega
        obtain ⟨gz, cap, cur, e1, hge, hgc, hcp, hmx, hsz, htk⟩ := own_some ho.out hzp
        injection e1 with e1 e2 e3
        subst e1 e3
        obtain ⟨v, hv⟩ : ∃ v, v = nth set 0 := ⟨_, rfl⟩
        have hc0 : wa.cell? ⟨gz, 0, none⟩ = some (.int .i64 v) := by
          rw [ho.out.cellAt 0 (by omega), hv]
          have hzl : 0 < set.length := by have := HZ.out; omega
          simp [ints, List.getElem?_map, nth, hzl]
        have hf0 := ho.out.frozenAt 0
        clear hgc htk hsz hcp hmx hv
        go_wp2_with fail
        go_meet
        have hgz : gz < wa.heap.size := (ho.out.lt gz rfl).2
        have hbz : Below bS wa (wa.setCell ⟨gz, 0, none⟩ (.int .i64 (wrap64 (v - 1)))) := ((Only.refl (fun q => q = gz) wa).setCell (p := ⟨gz, 0, none⟩) (fun _ => rfl) _).below (by omega) (fun k hk e => by omega)
        refine ⟨rfl, set.set 0 (wrap64 (v - 1)), hme.out.below hbz, ?_, hbl.out.trans (hbz.mono hb7)⟩
        have := (ho.out.stored 0 (.int .i64 (wrap64 (v - 1)))).1
        show World.ownsRow _ _ _ _ _ _ _
        rw [show ints (set.set 0 (wrap64 (v - 1))) = (ints set).set 0 (.int .i64 (wrap64 (v - 1))) from by simp [ints, List.map_set]]
        exact this
    case rest =>
      obtain ⟨rfl, set2, hme, ho, hbl⟩ := hcut
      obtain ⟨wb, hwb⟩ : ∃ wb, wb = wc := ⟨_, rfl⟩
      rw [← hwb] at hme ho hbl ⊢
      clear hwb
      have hbb : base ≤ wb.heap.size := by have := hbl.out.size; have := HW0.out; omega
      have hzs : Hid (set2.length = z) := by have := ho.out.1; rw [ints_len] at this; show _ = _; omega
      obtain ⟨p2, hp2⟩ : ∃ p2, p2 = premP ⟨a0, a1, a2, a3, a4, a5, a6, vs⟩ set2 l2 := ⟨_, rfl⟩
      have HP2 := hide hp2
      have HQ1 : Hid (∀ W, St (fun _ => False) wb W → Calls Try.prog 18 #[.agg #[.int .i64 a0, .int .i64 a1, .int .i64 a2, .int .i64 a3, .int .i64 a4, .int .i64 a5, .int .i64 a6, .slice V' n k', .slice E' m f'], .slice Zs z cz] W fun e w' => e = .returned (p3 p2) ∧ St (fun _ => False) W w') := fun W hW => by
        have h1 := hme.out.quiet hW
        have h2 := own_st0 ho.out hW
        have := prem_any a0 a1 a2 a3 a4 a5 a6 vs V' k' E' f' l2 Zs cz W.heap.size set2 W (by rw [← HN.out]; exact h1.rn.reads (Nat.le_refl _)) h1.evs (by rw [hzs.out]; exact (RN.of_own h2).reads (Nat.le_refl _)) (Nat.le_refl _) (by have := HN.out; omega) (by rw [h1.len]; omega) (by rw [hzs.out]; omega)
        rw [← HN.out, hzs.out, h1.len, ← HP2.out] at this
        exact this
      have HQ2 : Hid (∀ W, St (fun _ => False) wb W → Calls Try.prog 16 #[.agg #[.int .i64 a0, .int .i64 a1, .int .i64 a2, .int .i64 a3, .int .i64 a4, .int .i64 a5, .int .i64 a6, .slice V' n k', .slice E' m f'], .slice Zs z cz] W fun e w' => e = .returned (p3 p2) ∧ St (fun _ => False) W w') := fun W hW => by
        have h1 := hme.out.quiet hW
        have h2 := own_st0 ho.out hW
        have := rprem_any a0 a1 a2 a3 a4 a5 a6 vs V' k' E' f' l2 Zs cz W.heap.size set2 W (by rw [← HN.out]; exact h1.rn.reads (Nat.le_refl _)) h1.evs (by rw [hzs.out]; exact (RN.of_own h2).reads (Nat.le_refl _)) (Nat.le_refl _) (by have := HN.out; omega) (by rw [h1.len]; omega) (by rw [hzs.out]; omega)
        rw [← HN.out, hzs.out, h1.len, ← HP2.out] at this
        exact this
      obtain ⟨x0, x1, x2, x3, x4, x5, x6, x7, x8⟩ := mm9 hme.out.c
      unfold p3 at HQ1 HQ2
      have HQA := hide (HQ1.out wb (St.refl _ wb))
      clear hp2 HQ1
      go_upto_region 13 with ((go_at_call 18; refine HQA.out.mono ?_; rintro e wd ⟨rfl, hst⟩; have HSD := hide hst; obtain ⟨q0, q1, q2, q3, q4, q5, q6, q7, q8⟩ := mm9 (hme.out.quiet hst).c; clear hst x0 x1 x2 x3 x4 x5 x6 x7 x8))
      have HQB := hide (HQ2.out wd HSD.out)
      go_wp2_with ((go_at_call 16; refine HQB.out.mono ?_; rintro e we ⟨rfl, hst⟩; have HSE := hide (HSD.out.trans hst); clear hst))
      go_ret
      exact ⟨by simp, St.of_below (hbl.out.trans (HSE.out.below_ hbb (fun _ _ e => e))) (Nat.le_of_eq HW0.out.symm)⟩
end Go.Proofs.Ytkcjfiifajjpiaa
