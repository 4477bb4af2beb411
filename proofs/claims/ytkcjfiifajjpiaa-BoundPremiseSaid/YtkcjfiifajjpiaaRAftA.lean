/-
  Contract of the reference's State.after, part of its cases. (Printed by wip/tools/mkafter.py.)
-/
import Derived.Test.YtkcjfiifajjpiaaRAft
set_option linter.unusedVariables false
set_option linter.unusedSimpArgs false
namespace Go.Proofs.Ytkcjfiifajjpiaa
open Go.RowKit Go.WideShapes Go.ChangeShapes Q

set_option maxRecDepth 100000 in
set_option maxHeartbeats 2000000 in
theorem after_5 (n c B : Nat) (y : Net) (ea eb en c1 c2 c3 c4 : Int) (vb k1 k2 k3 : Value) (A : Option Addr) (m : Nat) (zs : List Int) (w : World) (hr : RI w B A m zs) (hBw : B ≤ w.heap.size) (hn : n ≤ 16) (hm : m ≤ 140737488351232) :
    Calls Try.prog 37 #[.agg (stC n y), .agg #[.int .i64 5, .int .i64 ea, .int .i64 eb, .int .i64 en, vb, .int .i64 c1, .int .i64 c2, .int .i64 c3, .int .i64 c4, k1, k2, k3, .slice A m c]] w fun e w' => e = .returned (.agg (stC n (playN n y 5 ea eb en zs))) ∧ St (fun _ => False) w w' := by
  obtain ⟨zc, hzc⟩ : ∃ zc, zc = stC 0 netz := ⟨_, rfl⟩
  obtain ⟨cs, hcs⟩ : ∃ cs, cs = stC n y := ⟨_, rfl⟩
  have HZC := hide hzc
  have HCS := hide hcs
  have HI := hide (ld71 cs (by rw [hcs]; exact stC_size _ _))
  have HPA : ∀ (W : World), Hid (Calls Try.prog 42 #[.agg cs, .int .i64 ea, .int .i64 eb] W fun e w' => e = .returned (.bool (pathB n ea eb)) ∧ St (fun _ => False) W w') := fun W => by rw [hcs]; exact path_any n y ea eb W hn
  have HND : ∀ (W : World), Hid (Calls Try.prog 43 #[.agg cs, .int .i64 ea] W fun e w' => e = .returned (.bool (isNode n ea)) ∧ St (fun _ => False) W w') := fun W => by rw [hcs]; exact node_any n y ea W hn
  rw [← hcs]
  clear hzc hcs
  have H0 : St (fun _ => False) w (((w.alloc (.cells cs 71)).alloc (.cells #[.int .i64 5, .int .i64 ea, .int .i64 eb, .int .i64 en, vb, .int .i64 c1, .int .i64 c2, .int .i64 c3, .int .i64 c4, k1, k2, k3, .slice A m c] 45)).alloc (.cells zc 71)) := (((St.refl _ w).alloc _).alloc _).alloc _
  have P2 := ((Blk.new w 71 cs).alloc (.cells #[.int .i64 5, .int .i64 ea, .int .i64 eb, .int .i64 en, vb, .int .i64 c1, .int .i64 c2, .int .i64 c3, .int .i64 c4, k1, k2, k3, .slice A m c] 45)).alloc (.cells zc 71)
  have PE := (Blk.new' (w.alloc (.cells cs 71)) 45 #[.int .i64 5, .int .i64 ea, .int .i64 eb, .int .i64 en, vb, .int .i64 c1, .int .i64 c2, .int .i64 c3, .int .i64 c4, k1, k2, k3, .slice A m c] (w.heap.size + 1) (by simp)).alloc (.cells zc 71)
  have P4 := Blk.new' ((w.alloc (.cells cs 71)).alloc (.cells #[.int .i64 5, .int .i64 ea, .int .i64 eb, .int .i64 en, vb, .int .i64 c1, .int .i64 c2, .int .i64 c3, .int .i64 c4, k1, k2, k3, .slice A m c] 45)) 71 zc (w.heap.size + 2) (by simp)
  have R0 := hr.st H0 (fun q e => e.elim)
  clear hr
  go_enter Try.func37, Try.ntmps37
  go_upto_region 1 with (first
    | (refine wpList_alloc71 rfl rfl (w.heap.size + 2) (by simp) zc HZC.out ?_))
  obtain ⟨w0, hw0⟩ : ∃ w0, w0 = (((w.alloc (.cells cs 71)).alloc (.cells #[.int .i64 5, .int .i64 ea, .int .i64 eb, .int .i64 en, vb, .int .i64 c1, .int .i64 c2, .int .i64 c3, .int .i64 c4, k1, k2, k3, .slice A m c] 45)).alloc (.cells zc 71)) := ⟨_, rfl⟩
  rw [← hw0] at H0 P2 P4 PE R0 ⊢
  obtain ⟨b2, hb2⟩ : ∃ b2, b2 = w.heap.size := ⟨_, rfl⟩
  rw [← hb2] at P2 P4 PE ⊢
  have HB2 := hide hb2
  have HS0 := hide H0
  have HP2 := hide P2
  have HP4 := hide P4
  have HPE := hide PE
  have HR0 := hide R0
  clear hw0 hb2 H0 P2 P4 PE R0
  go_frame
  go_cut [5] (fun s5 wx => s5 = .bool (pathB n ea eb) ∧ St (fun _ => False) w0 wx)
  case first =>
    obtain ⟨z0, z1, z2, z3, z4, z5, z6, z7, z8, z9, z10, z11, z12⟩ := m13 HPE.out
    go_wp2_with (first
      | (refine wpList_load_row rfl 71 (.tmp 2) rfl b2 (by rfl) 71 cs (0, 0) _ HP2.out Try.underlying71 rfl HI.out ?_)
      | (go_at_call 42; (with_reducible refine (HPA _).out.mono ?_); rintro e w1 ⟨rfl, hst⟩; have HS1 := hide hst; clear hst))
    go_meet
    exact ⟨rfl, HS1.out⟩
  case rest =>
   obtain ⟨rfl, hs1⟩ := hcut
   obtain ⟨wa, hwa⟩ : ∃ wa, wa = wc := ⟨_, rfl⟩
   rw [← hwa] at hs1 ⊢
   clear hwa
   generalize hPB : pathB n ea eb = P
   have HPB := hide hPB
   clear hPB
   have HSA := hide hs1
   clear hs1
   have HPa := hide (HP2.out.st HSA.out (fun e => e))
   have HEa := hide (HPE.out.st HSA.out (fun e => e))
   go_upto_region 2 with fail
   go_cut [6] (fun s6 wx => s6 = .bool (upN n y ea) ∧ St (fun _ => False) wa wx)
   case first =>
    obtain ⟨z0, z1, z2, z3, z4, z5, z6, z7, z8, z9, z10, z11, z12⟩ := m13 HEa.out
    cases hnd : isNode n ea with
    | false =>
      have HU : Hid (upN n y ea = false) := by show _ = _; unfold upN; rw [hnd]; rfl
      go_wp2_with (first
        | (refine wpList_load_row rfl 71 (.tmp 2) rfl b2 (by rfl) 71 cs (0, 0) _ HPa.out Try.underlying71 rfl HI.out ?_)
        | (go_at_call 43; (with_reducible refine (HND _).out.mono ?_); rintro e w1 ⟨rfl, hst⟩; have HS1 := hide hst; rw [hnd]; clear hst))
      go_meet
      exact ⟨by rw [HU.out], HS1.out⟩
    | true =>
      obtain ⟨i, hia, hi⟩ := isNode_nat hnd
      subst hia
      have HU : Hid (upN n y (i : Int) = y.up i) := by show _ = _; unfold upN; rw [hnd]; simp
      have i0 : (0 : Int) ≤ (i : Int) := by omega
      have i1 : (i : Int) < 16 := by omega
      have i16 : i < 16 := by omega
      go_wp2_with (first
        | (refine wpList_load_row rfl 71 (.tmp 2) rfl b2 (by rfl) 71 cs (0, 0) _ HPa.out Try.underlying71 rfl HI.out ?_)
        | (go_at_call 43; (with_reducible refine (HND _).out.mono ?_); rintro e w1 ⟨rfl, hst⟩; have HS1 := hide hst; have cu1 : w1.cell? ⟨b2, 1 + i, none⟩ = some (.bool (y.up i)) := (st_up (n := n) (y := y) (by rw [← HCS.out]; exact HPa.out.st hst (fun e => e)) i16); have z1' := (HEa.out.st hst (fun e => e)).cell 1; rw [hnd]; clear hst z0 z1 z2 z3 z4 z5 z6 z7 z8 z9 z10 z11 z12))
      go_meet
      exact ⟨by rw [HU.out], HS1.out⟩
   case rest =>
    obtain ⟨rfl, hs1⟩ := hcut
    obtain ⟨w1, hw1⟩ : ∃ w1, w1 = wc := ⟨_, rfl⟩
    rw [← hw1] at hs1 ⊢
    clear hw1
    have HS : Hid (St (fun q => b2 ≤ q) w w1) := ((HS0.out.trans HSA.out).trans hs1).mono (fun _ _ e => e.elim)
    have H2 := hide (HPa.out.st hs1 (fun e => e))
    have HEV := hide (HEa.out.st hs1 (fun e => e))
    have H4 := hide ((HP4.out.st HSA.out (fun e => e)).st hs1 (fun e => e))
    have HR := hide ((HR0.out.st HSA.out (fun q e => e.elim)).st hs1 (fun q e => e.elim))
    have HBs : Hid (B ≤ w1.heap.size) := by have h1 := HS.out.size; show B ≤ _; omega
    rw [← HPB.out]
    clear hs1 HSA HS0 HPa HEa HP2 HPE HP4 HR0 HPB P HPA
    obtain ⟨z0, z1, z2, z3, z4, z5, z6, z7, z8, z9, z10, z11, z12⟩ := m13 HEV.out
    clear z4 z5 z6 z7 z8 z9 z10 z11
    cases hnd : isNode n ea with
    | true =>
      cases hup : y.up ea.toNat with
      | true =>
        have HE : Hid (playN n y 5 ea eb en zs = { y with up := up1 y.up ea.toNat false }) := by
          show _ = _
          unfold playN
          rw [if_pos (by decide), if_pos ⟨hnd, by exact .inl rfl⟩]
        generalize pathB n ea eb = P
        rw [show upN n y _ = true from by unfold upN; rw [hnd, hup]; rfl]
        obtain ⟨i, hia, hi⟩ := isNode_nat hnd
        subst hia
        have i0 : (0 : Int) ≤ (i : Int) := by omega
        have i1 : (i : Int) < 16 := by omega
        have i16 : i < 16 := by omega
        have et : ((i : Int)).toNat = i := by simp
        rw [et] at HE
        have hS2 : Blk w1 b2 71 (stC n y) := by rw [← HCS.out]; exact H2.out
        have cu := st_up hS2 i16
        have fu := hS2.frozen (1 + i)
        have cl := st_left hS2 i16
        have fl := hS2.frozen (17 + i)
        clear et hup hnd cl fl
        have hS2' := hide hS2
        clear hS2
        go_upto_region 18 with fail
        clear cu fu z0 z1 z2 z3 z12
        obtain ⟨cf, hcf⟩ : ∃ cf, cf = stC n ({ y with up := up1 y.up i false }) := ⟨_, rfl⟩
        have HLD := hide (ld71 cf (by rw [hcf]; exact stC_size _ _))
        have HON : Hid ((cf.all (·.oneCell')) = true) := by show _ = _; rw [hcf]; exact stC_one _ _
        have HSZ' : Hid (zc.size = cf.size) := by show _ = _; rw [HZC.out, hcf, stC_size, stC_size]
        have hX2 := set_up hS2'.out i16 false
        have HX4 := hide (H4.out.far (p := ⟨b2, 1 + i, none⟩) (by show b2 + 2 ≠ b2; omega) (.bool false))
        have HXS := hide (HS.out.setCell (i := 1 + i) hS2'.out not35_71 (fun _ => Nat.le_refl _) (.bool false))
        rw [← hcf] at hX2
        have HX2 := hide hX2
        have HCF := hide hcf
        clear hcf hX2
        go_wp2_with (first
          | (refine wpList_load_row rfl 71 (.tmp 2) rfl b2 (by rfl) 71 cf (0, 0) _ HX2.out Try.underlying71 rfl HLD.out ?_)
          | (refine wpList_store_row rfl 71 (.tmp 4) (.tmp 143) rfl (b2 + 2) cf (by rfl) (by rfl) 71 zc HX4.out HLD.out HSZ'.out HON.out ?_))
        refine bodyPost_ret (results_cell_row rfl _ _ (b2 + 2) 71 _ (0, 0) _ rfl (HX4.out.row cf) Try.underlying71 rfl HLD.out) rfl ?_
        exact ⟨by rw [HE.out, ← HCF.out], (HXS.out.setRow HX4.out not35_71 (fun _ => Nat.le_add_right _ _) cf).mono fun q hq h => by have h1 : b2 ≤ q := h; have := HB2.out; omega⟩
      | false =>
        have HE : Hid (playN n y 5 ea eb en zs = y) := by
          show _ = _
          unfold playN
          rw [if_pos (by decide), if_pos ⟨hnd, by exact .inl rfl⟩]
          exact net_up hup
        generalize pathB n ea eb = P
        rw [show upN n y _ = false from by unfold upN; rw [hnd, hup]; rfl]
        clear hup hnd
        obtain ⟨cf, hcf⟩ : ∃ cf, cf = stC n (y) := ⟨_, rfl⟩
        have HLD := hide (ld71 cf (by rw [hcf]; exact stC_size _ _))
        have HON : Hid ((cf.all (·.oneCell')) = true) := by show _ = _; rw [hcf]; exact stC_one _ _
        have HSZ' : Hid (zc.size = cf.size) := by show _ = _; rw [HZC.out, hcf, stC_size, stC_size]
        have hX2 := (show Blk w1 b2 71 (stC n y) from by rw [← HCS.out]; exact H2.out)
        have HX4 := hide (H4.out)
        have HXS := hide (HS.out)
        rw [← hcf] at hX2
        have HX2 := hide hX2
        have HCF := hide hcf
        clear hcf hX2
        go_wp2_with (first
          | (refine wpList_load_row rfl 71 (.tmp 2) rfl b2 (by rfl) 71 cf (0, 0) _ HX2.out Try.underlying71 rfl HLD.out ?_)
          | (refine wpList_store_row rfl 71 (.tmp 4) (.tmp 143) rfl (b2 + 2) cf (by rfl) (by rfl) 71 zc HX4.out HLD.out HSZ'.out HON.out ?_))
        refine bodyPost_ret (results_cell_row rfl _ _ (b2 + 2) 71 _ (0, 0) _ rfl (HX4.out.row cf) Try.underlying71 rfl HLD.out) rfl ?_
        exact ⟨by rw [HE.out, ← HCF.out], (HXS.out.setRow HX4.out not35_71 (fun _ => Nat.le_add_right _ _) cf).mono fun q hq h => by have h1 : b2 ≤ q := h; have := HB2.out; omega⟩
    | false =>
      have HE : Hid (playN n y 5 ea eb en zs = y) := by
        show _ = _
        unfold playN
        rw [if_pos (by decide), if_neg (by rintro ⟨hh, _⟩; rw [hnd] at hh; cases hh)]
      generalize pathB n ea eb = P
      rw [show upN n y ea = false from by unfold upN; rw [hnd]; rfl]
      clear hnd
      obtain ⟨cf, hcf⟩ : ∃ cf, cf = stC n (y) := ⟨_, rfl⟩
      have HLD := hide (ld71 cf (by rw [hcf]; exact stC_size _ _))
      have HON : Hid ((cf.all (·.oneCell')) = true) := by show _ = _; rw [hcf]; exact stC_one _ _
      have HSZ' : Hid (zc.size = cf.size) := by show _ = _; rw [HZC.out, hcf, stC_size, stC_size]
      have hX2 := (show Blk w1 b2 71 (stC n y) from by rw [← HCS.out]; exact H2.out)
      have HX4 := hide (H4.out)
      have HXS := hide (HS.out)
      rw [← hcf] at hX2
      have HX2 := hide hX2
      have HCF := hide hcf
      clear hcf hX2
      go_wp2_with (first
        | (refine wpList_load_row rfl 71 (.tmp 2) rfl b2 (by rfl) 71 cf (0, 0) _ HX2.out Try.underlying71 rfl HLD.out ?_)
        | (refine wpList_store_row rfl 71 (.tmp 4) (.tmp 143) rfl (b2 + 2) cf (by rfl) (by rfl) 71 zc HX4.out HLD.out HSZ'.out HON.out ?_))
      refine bodyPost_ret (results_cell_row rfl _ _ (b2 + 2) 71 _ (0, 0) _ rfl (HX4.out.row cf) Try.underlying71 rfl HLD.out) rfl ?_
      exact ⟨by rw [HE.out, ← HCF.out], (HXS.out.setRow HX4.out not35_71 (fun _ => Nat.le_add_right _ _) cf).mono fun q hq h => by have h1 : b2 ≤ q := h; have := HB2.out; omega⟩

end Go.Proofs.Ytkcjfiifajjpiaa
