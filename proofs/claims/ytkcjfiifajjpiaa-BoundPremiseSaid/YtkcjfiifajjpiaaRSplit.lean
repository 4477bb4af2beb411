/-
  Contract of the reference's State.split.
-/
import Derived.Test.YtkcjfiifajjpiaaRBegun
import Derived.StillTailTactics
set_option linter.unusedVariables false
set_option linter.unusedSimpArgs false
namespace Go.Proofs.Ytkcjfiifajjpiaa
open Go.RowKit Go.WideShapes Go.ChangeShapes Q

set_option maxRecDepth 100000 in
set_option maxHeartbeats 2000000 in
theorem rsplit_any (n c B : Nat) (y : Net) (A : Option Addr) (m : Nat) (zs : List Int) (w : World) (hr : RI w B A m zs) (hB : B ≤ w.heap.size) (hn : n ≤ 16) (hm : m ≤ 140737488351232) :
    Calls Try.prog 44 #[.agg (stC n y), .slice A m c] w fun e w' => e = .returned (.agg (stC n (splitN n y zs))) ∧ St (fun _ => False) w w' := by
  obtain ⟨zc, hzc⟩ : ∃ zc, zc = stC 0 netz := ⟨_, rfl⟩
  obtain ⟨cs, hcs⟩ : ∃ cs, cs = stC n y := ⟨_, rfl⟩
  have HZC := hide hzc
  have HCS := hide hcs
  have HL := hide hr.len
  have HI := hide (ld71 cs (by rw [hcs]; exact stC_size _ _))
  have HON : Hid ((cs.all (·.oneCell')) = true) := by show _ = _; rw [hcs]; exact stC_one _ _
  have HSZ : Hid (zc.size = cs.size) := by show _ = _; rw [hzc, hcs, stC_size, stC_size]
  rw [← hcs]
  clear hzc hcs
  have H0 : St (fun _ => False) w ((w.alloc (.cells cs 71)).alloc (.cells zc 71)) := ((St.refl _ w).alloc _).alloc _
  have P2 := (Blk.new w 71 cs).alloc (.cells zc 71)
  have P4 := Blk.new' (w.alloc (.cells cs 71)) 71 zc (w.heap.size + 1) (by simp)
  have R0 := hr.st H0 (fun q e => e.elim)
  clear hr
  go_enter Try.func44, Try.ntmps44
  go_upto_region 1 with (first
    | (refine wpList_alloc71 rfl rfl (w.heap.size + 1) (by simp) zc HZC.out ?_))
  obtain ⟨w0, hw0⟩ : ∃ w0, w0 = ((w.alloc (.cells cs 71)).alloc (.cells zc 71)) := ⟨_, rfl⟩
  rw [← hw0] at H0 P2 P4 R0 ⊢
  obtain ⟨b2, hb2⟩ : ∃ b2, b2 = w.heap.size := ⟨_, rfl⟩
  rw [← hb2] at P2 P4 ⊢
  have HB2 := hide hb2
  have HBB : Hid (B ≤ b2) := by show B ≤ b2; omega
  have HS0 := hide H0
  have HP2 := hide P2
  have HP4 := hide P4
  have HR0 := hide R0
  have c0 : w0.cell? ⟨b2, 0, none⟩ = some (.int .i64 n) := st_n (y := y) (by rw [← HCS.out]; exact P2)
  clear hw0 hb2 H0 P2 P4 R0
  by_cases hmn : m = n
  · subst hmn
    have hne : ((m : Int) != (m : Int)) = false := by simp
    go_wp2_with fail
    go_loopw [5] (fun i wr => ∃ k : Nat, k ≤ m ∧ i = .int .i64 k ∧ Hid (∀ j, j < k → 0 ≤ nth zs j ∧ nth zs j < 16) ∧ wr = w0) (fun i _ => m - (intOf i).toNat)
    case atStart => exact ⟨0, Nat.zero_le _, rfl, (fun j hj => absurd hj (by omega)), rfl⟩
    case round =>
      obtain ⟨k, hk, rfl, hall, rfl⟩ := hrel
      by_cases hlt : k < m
      · obtain ⟨ad, hA, _, hc⟩ := HR0.out.at_ hlt
        subst hA
        have i0 : (0 : Int) ≤ (k : Int) := by omega
        have i1 : (k : Int) < (m : Int) := by omega
        by_cases h1 : nth zs k < 0
        · have HE : Hid (splitN m y zs = y) := by
            show _ = _
            unfold splitN
            rw [if_neg (fun h => by
              have h2 := List.any_eq_false.1 h.2 (nth zs k) (by rw [nth_get (by rw [HL.out]; exact hlt)]; exact List.getElem_mem _)
              exact h2 (by unfold badSide; simp; omega))]
          go_wp2_with (first
            | (refine wpList_load_row rfl 71 (.tmp 2) rfl b2 (by rfl) 71 cs (0, 0) _ HP2.out Try.underlying71 rfl HI.out ?_)
            | (refine wpList_store_row rfl 71 (.tmp 4) (.tmp 32) rfl (b2 + 1) cs (by rfl) (by rfl) 71 zc HP4.out HI.out HSZ.out HON.out ?_))
          refine bodyPost_ret (results_cell_row rfl _ _ (b2 + 1) 71 _ (0, 0) _ rfl (HP4.out.row cs) Try.underlying71 rfl HI.out) rfl ?_
          exact ⟨by rw [HE.out, ← HCS.out], HS0.out.setRow HP4.out not35_71 (fun h => by have := HB2.out; omega) cs⟩
        · by_cases h2 : 16 ≤ nth zs k
          · have HE : Hid (splitN m y zs = y) := by
              show _ = _
              unfold splitN
              rw [if_neg (fun h => by
                have h2 := List.any_eq_false.1 h.2 (nth zs k) (by rw [nth_get (by rw [HL.out]; exact hlt)]; exact List.getElem_mem _)
                exact h2 (by unfold badSide; simp; omega))]
            go_wp2_with (first
              | (refine wpList_load_row rfl 71 (.tmp 2) rfl b2 (by rfl) 71 cs (0, 0) _ HP2.out Try.underlying71 rfl HI.out ?_)
              | (refine wpList_store_row rfl 71 (.tmp 4) (.tmp 32) rfl (b2 + 1) cs (by rfl) (by rfl) 71 zc HP4.out HI.out HSZ.out HON.out ?_))
            refine bodyPost_ret (results_cell_row rfl _ _ (b2 + 1) 71 _ (0, 0) _ rfl (HP4.out.row cs) Try.underlying71 rfl HI.out) rfl ?_
            exact ⟨by rw [HE.out, ← HCS.out], HS0.out.setRow HP4.out not35_71 (fun h => by have := HB2.out; omega) cs⟩
          · have h1' : 0 ≤ nth zs k := by omega
            have h2' : nth zs k < 16 := by omega
            have HALL : Hid (∀ j, j < k + 1 → 0 ≤ nth zs j ∧ nth zs j < 16) := fun j hj => by
              by_cases e : j = k
              · subst e; exact ⟨h1', h2'⟩
              · exact hall.out j (by omega)
            go_wp2_with fail
            go_roundw
            case rel => exact ⟨k + 1, by omega, by go_num, HALL, trivial⟩
            case measure => simp [intOf]; omega
      · obtain rfl : k = m := by omega
        have HE : Hid (splitN k y zs = { y with cut := cutK zs k k 0 y.cut }) := by
          show _ = _
          unfold splitN
          rw [if_pos ⟨HL.out, any_bad_false fun v hv => by
            obtain ⟨i, hi, e⟩ := List.getElem_of_mem hv
            have := hall.out i (by rw [← HL.out]; exact hi)
            rw [nth_get hi, e] at this
            exact this⟩]
        have hP2 : Hid (Blk wr b2 71 (stC k { y with cut := cutK zs k 0 0 y.cut })) := by
          show Blk _ _ _ _
          rw [cutK_zero]
          rw [← HCS.out]
          exact HP2.out
        have hP4 : Hid (Blk wr (b2 + 1) 71 zc) := HP4
        have hSS : Hid (St (fun q => b2 ≤ q) w wr) := HS0.out.mono (fun _ _ e => e.elim)
        have hR : Hid (RI wr B A k zs) := HR0
        clear hall HS0 HP2 HP4 HR0 HI HON
        obtain ⟨wq, hwq⟩ : ∃ wq, wq = wr := ⟨_, rfl⟩
        have hBb : Hid (∀ (W : World), St (fun q => b2 ≤ q) wq W → RI wq B A k zs → ∀ j, j < k → ∃ ad, A = some ad ∧ W.cell? (ad.add j) = some (.int .i64 (nth zs j)) ∧ ad.block < B) := fun W hW hr j hj => by
          obtain ⟨ad, e, hb, hc⟩ := hr.at_ hj
          exact ⟨ad, e, hW.only.cell hc (by have := HBB.out; show ¬ b2 ≤ (ad.add j).block; rw [block_of_add]; omega), hb⟩
        rw [← hwq] at hP2 hP4 hSS hR c0 ⊢
        clear hwq
        have c0' : Hid (∀ (W : World) (cc : Nat → Nat → Bool), Blk W b2 71 (stC k { y with cut := cc }) → W.cell? ⟨b2, 0, none⟩ = some (.int .i64 k)) := fun W cc h => st_n h
        go_wp2_with fail
        clear c0
        go_loopw [6] (fun i wr => ∃ p : Nat, p ≤ k ∧ i = .int .i64 p ∧ Hid (Blk wr b2 71 (stC k { y with cut := cutK zs k p 0 y.cut })) ∧ Hid (Blk wr (b2 + 1) 71 zc) ∧ Hid (St (fun q => b2 ≤ q) wq wr)) (fun i _ => k - (intOf i).toNat)
        case atStart => exact ⟨0, Nat.zero_le _, rfl, hP2, hP4, St.refl _ _⟩
        case round =>
          obtain ⟨p, hp, rfl, h2, h4, hs⟩ := hrel
          have c0 := c0'.out wr _ h2.out
          by_cases hlt : p < k
          · have ip : (p : Int) < (k : Int) := by omega
            have ip0 : (0 : Int) ≤ (p : Int) := by omega
            have p16 : p < 16 := by omega
            have ip16 : (p : Int) < 16 := by omega
            go_wp2_with fail
            clear c0
            go_loopw [7] (fun i wr => ∃ q : Nat, q ≤ k ∧ i = .int .i64 q ∧ Hid (Blk wr b2 71 (stC k { y with cut := cutK zs k p q y.cut })) ∧ Hid (Blk wr (b2 + 1) 71 zc) ∧ Hid (St (fun q => b2 ≤ q) wq wr)) (fun i _ => k - (intOf i).toNat)
            case atStart => exact ⟨0, Nat.zero_le _, rfl, h2, h4, hs⟩
            case round =>
              obtain ⟨q, hq, rfl, h2, h4, hs⟩ := hrel
              have c0 := c0'.out wr _ h2.out
              by_cases hlt2 : q < k
              · have iq : (q : Int) < (k : Int) := by omega
                have iq0 : (0 : Int) ≤ (q : Int) := by omega
                have q16 : q < 16 := by omega
                have iq16 : (q : Int) < 16 := by omega
                obtain ⟨ad, hA, hcp, _⟩ := hBb.out wr hs.out hR.out p hlt
                obtain ⟨ad2, hA2, hcq, _⟩ := hBb.out wr hs.out hR.out q hlt2
                subst hA
                injection hA2 with hA2
                subst hA2
                have cc := st_cut h2.out p16 q16
                have ff := h2.out.frozen (33 + p * 16 + q)
                go_upto_region 14 with fail
                go_still_tail 14, (by kernel_rfl)
                change wpList _ _ _ _ _ wr.drew
                go_wp2_with fail
                have h2' : Hid (Blk (wr.setCell ⟨b2, 33 + p * 16 + q, none⟩ (.bool (nth zs p != nth zs q))).drew b2 71 (stC k { y with cut := cutK zs k p (q + 1) y.cut })) := by
                  have := set_cut h2.out p16 q16 (nth zs p != nth zs q)
                  show Blk _ _ _ _
                  simp only [] at this
                  rw [cutK_step zs k p q y.cut hlt2] at this
                  exact this.drew
                have h4' := hide ((h4.out.far (p := ⟨b2, 33 + p * 16 + q, none⟩) (by show b2 + 1 ≠ b2; omega) (.bool (nth zs p != nth zs q))).drew)
                have hs' := hide ((hs.out.setCell (i := 33 + p * 16 + q) h2.out not35_71 (fun _ => Nat.le_refl _) (.bool (nth zs p != nth zs q))).drew)
                go_roundw
                case rel => exact ⟨q + 1, by omega, by go_num, h2', h4', hs'⟩
                case measure => simp [intOf]; omega
              · obtain rfl : q = k := by omega
                go_wp2
                have h2' : Hid (Blk wr b2 71 (stC q { y with cut := cutK zs q (p + 1) 0 y.cut })) := by
                  show Blk _ _ _ _
                  rw [← cutK_row]
                  exact h2.out
                go_roundw
                case rel => exact ⟨p + 1, by omega, by go_num, h2', h4, hs⟩
                case measure => simp [intOf]; omega
          · obtain rfl : p = k := by omega
            obtain ⟨cf, hcf⟩ : ∃ cf, cf = stC p { y with cut := cutK zs p p 0 y.cut } := ⟨_, rfl⟩
            have HLD := hide (ld71 cf (by rw [hcf]; exact stC_size _ _))
            have HON : Hid ((cf.all (·.oneCell')) = true) := by show _ = _; rw [hcf]; exact stC_one _ _
            have HSZ' : Hid (zc.size = cf.size) := by show _ = _; rw [HZC.out, hcf, stC_size, stC_size]
            rw [← hcf] at h2
            have HCF := hide hcf
            clear hcf
            go_wp2_with (first
              | (refine wpList_load_row rfl 71 (.tmp 2) rfl b2 (by rfl) 71 cf (0, 0) _ h2.out Try.underlying71 rfl HLD.out ?_)
              | (refine wpList_store_row rfl 71 (.tmp 4) (.tmp 59) rfl (b2 + 1) cf (by rfl) (by rfl) 71 zc h4.out HLD.out HSZ'.out HON.out ?_))
            refine bodyPost_ret (results_cell_row rfl _ _ (b2 + 1) 71 _ (0, 0) _ rfl (h4.out.row cf) Try.underlying71 rfl HLD.out) rfl ?_
            exact ⟨by rw [HE.out, ← HCF.out], (hSS.out.trans (hs.out.setRow h4.out not35_71 (fun _ => Nat.le_succ _) cf)).mono fun q hq h => by have h1 : b2 ≤ q := h; have := HB2.out; omega⟩
  · have hne : ((m : Int) != (n : Int)) = true := by simp; omega
    have HE : Hid (splitN n y zs = y) := by
      show _ = _
      unfold splitN
      rw [if_neg (fun h => hmn (by rw [← HL.out]; exact h.1))]
    go_wp2_with (first
      | (refine wpList_load_row rfl 71 (.tmp 2) rfl b2 (by rfl) 71 cs (0, 0) _ HP2.out Try.underlying71 rfl HI.out ?_)
      | (refine wpList_store_row rfl 71 (.tmp 4) (.tmp 13) rfl (b2 + 1) cs (by rfl) (by rfl) 71 zc HP4.out HI.out HSZ.out HON.out ?_))
    refine bodyPost_ret (results_cell_row rfl _ _ (b2 + 1) 71 _ (0, 0) _ rfl (HP4.out.row cs) Try.underlying71 rfl HI.out) rfl ?_
    exact ⟨by rw [HE.out, ← HCS.out], HS0.out.setRow HP4.out not35_71 (fun h => by have := HB2.out; omega) cs⟩
end Go.Proofs.Ytkcjfiifajjpiaa
