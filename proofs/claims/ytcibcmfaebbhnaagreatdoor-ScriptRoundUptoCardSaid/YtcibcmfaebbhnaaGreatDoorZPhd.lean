/-
  The program's header: a script's first three lines. (Printed by wip/tools/mkphd.py.)
-/
import Derived.Test.YtcibcmfaebbhnaaGreatDoorZHdp
import Derived.Test.YtcibcmfaebbhnaaGreatDoorZWords
set_option linter.unusedVariables false
set_option linter.unusedSimpArgs false
namespace Go.Proofs.YtcibcmfaebbhnaaGreatDoor
open Go.RowKit Go.WideShapes Go.ChangeShapes Q
/-- How many words the reading at r has left. -/
def leftN (r : Nat) (w : World) : Nat := match w.cell? ⟨r, 0, none⟩ with
  | some (.slice _ n _) => n
  | _ => 0
theorem leftN_of {r n c : Nat} {A : Option Addr} {w : World} (h : w.cell? ⟨r, 0, none⟩ = some (.slice A n c)) : leftN r w = n := by unfold leftN; rw [h]
/-- What the loop over the votes keeps. -/
def VoJ (w W5 : World) (vs : List Wd) (c1 : Cfg) (p r : Nat) (wr : World) : Prop := ∃ (lv : List Int) (A : Option Addr) (k : Nat) (A' : Option Addr) (c' : Nat) (ws' : List Wd), Blk wr p 24 (cfC { c1 with votes := lv } A k) ∧ CfU wr W5.heap.size { c1 with votes := lv } A k ∧
  Rd wr w.heap.size r A' c' 0 ws' Em.zero ∧ Below (w.heap.size + 1) W5 wr ∧ votP vs = (votP ws').map (lv ++ ·) ∧ lv.length + ws'.length = vs.length ∧ ws'.length ≤ vs.length ∧ (∀ d ∈ ws', d ∈ vs)
theorem vot_none {ws : List Wd} (h0 : ws ≠ []) (h : numP 0 4611686018427387904 ws = none) : votP ws = none := by
  match ws with
  | [] => exact absurd rfl h0
  | d :: l =>
    rw [votP]
    cases hd : wcnt d with
    | none => rfl
    | some x =>
      simp only [numP, hd] at h
      rw [if_pos ⟨Nat.zero_le _, wcnt_le hd⟩] at h
      cases h
theorem vot_some {ws ws' : List Wd} {x : Nat} (h : numP 0 4611686018427387904 ws = some (x, ws')) : votP ws = (votP ws').map ((x : Int) :: ·) := by
  match ws with
  | [] => cases h
  | d :: l =>
    rw [votP]
    simp only [numP] at h
    cases hd : wcnt d with
    | none => rw [hd] at h; cases h
    | some y =>
      rw [hd] at h
      simp only at h
      split at h
      · injection h with h
        injection h with h1 h2
        subst h1 h2
        simp only
      · cases h
set_option maxRecDepth 100000 in
set_option maxHeartbeats 4000000 in
theorem header_any (K : List (List UInt8)) (A : Option Addr) (c bl : Nat) (w : World) (hown : w.ownsRow bl 9 1 (.slice A K.length c) K.length (ltx K)) (hz : ∀ x ∈ K, x.length ≤ 400000) (hnl : ∀ x ∈ K, NoNl x) (hKl : K.length ≤ 1000000) :
    Calls Tryz.prog 50 #[.slice A K.length c] w fun e w' => CnfP (headC K) w e w' := by
  obtain ⟨F, hF⟩ : ∃ F, F = headC K := ⟨_, rfl⟩
  rw [← hF]
  have HF := hide hF
  have HO := hide hown
  have HZK := hide hz
  have HNL := hide hnl
  obtain ⟨i3, hi3, hz3, hs3, hb3⟩ := info_parts info3
  have I3 := hide hi3
  obtain ⟨KL, hKL⟩ : ∃ KL, KL = K.length := ⟨_, rfl⟩
  have HKL := hide hKL
  rw [← hKL] at hKl ⊢
  clear hF hown hz hnl hi3 hKL
  go_enter Tryz.func50, Tryz.ntmps50
  go_upto_region 2 with fail
  generalize hW1 : World.alloc (World.alloc w _) _ = W1
  obtain ⟨Z, hZs, hZ⟩ : ∃ Z : Array Value, Z.size = 8 ∧ Blk W1 w.heap.size 24 Z := by
    rw [← hW1]
    exact ⟨_, rfl, (Blk.new _ _ _).alloc _⟩
  have HX1 : Hid (Blk W1 (w.heap.size + 1) 24 (cfC Cfg.zero none 0)) := by
    show Blk _ _ _ _
    rw [← hW1]
    exact blk_new _ _ _ _ (by simp)
  have hb1 : Below w.heap.size w W1 := by
    rw [← hW1]
    exact ((Below.refl _ _).alloc (Nat.le_refl _) _).alloc (by simp) _
  have HB1 := hide hb1
  have HZ1 := hide hZ
  have HO1 := hide (own_step HO.out hb1)
  have hs1 : w.heap.size + 1 < W1.heap.size := HX1.out.lt
  clear hW1 hb1 hZ HO
  by_cases hk3 : KL < 3
  · have HR : Hid (F = none) := by show _ = _; rw [HF.out]; exact headC_len (by rw [← HKL.out]; exact hk3)
    have e2 : (KL : Int) < 3 := by omega
    go_upto_region 3 with fail
    refine wp_region_lit ?_
    refine wpList_value rfl (.agg (cfC Cfg.zero none 0)) (ex_load 24 (.tmp 4) rfl _ rfl _ _ Tryz.underlying24 rfl (ld44 _ rfl) (box_all HX1.out)) ?_
    simp only [Act.put, aSt, aSz, aSs]
    go_wp2_with (refine wpList_put_at rfl 24 (.tmp 2) (.tmp 17) rfl (w.heap.size) 0 (cfC Cfg.zero none 0) rfl rfl 24 Z HZ1.out (ld44 _ rfl) (by rw [cf_size, hZs]; omega) (cf_all _ _ _) _ (cput Z _ hZs rfl) ?_)
    refine bodyPost_ret (results_44b rfl _ rfl (HZ1.out.row _) rfl rfl) rfl ?_
    exact cnf_any (Nat.le_refl _) HZ1.out HB1.out (CfU.zero _ _ 0) (fun h => by cases h) (fun _ => HR.out)
  have e2 : ¬ (KL : Int) < 3 := by omega
  obtain ⟨x0, x1, x2, rest, hpx⟩ : ∃ x0 x1 x2 rest, K = x0 :: x1 :: x2 :: rest := by
    have h3 : ¬ K.length < 3 := by rw [← HKL.out]; exact hk3
    match K, h3 with
    | x0 :: x1 :: x2 :: rest, _ => exact ⟨x0, x1, x2, rest, rfl⟩
    | [], h => exact absurd (by decide) h
    | [_], h => exact absurd (by simp) h
    | [_, _], h => exact absurd (by simp) h
  have HPX := hide hpx
  have hn0 : NoNl x0 := HNL.out x0 (by rw [hpx]; simp)
  have hn1 : NoNl x1 := HNL.out x1 (by rw [hpx]; simp)
  have hn2 : NoNl x2 := HNL.out x2 (by rw [hpx]; simp)
  have HN0 := hide hn0
  have HN1 := hide hn1
  have HN2 := hide hn2
  have hz0 : x0.length ≤ 400000 := HZK.out x0 (by rw [hpx]; simp)
  have hz1 : x1.length ≤ 400000 := HZK.out x1 (by rw [hpx]; simp)
  have hz2 : x2.length ≤ 400000 := HZK.out x2 (by rw [hpx]; simp)
  obtain ⟨gl, cap, hv, _, hltl⟩ := HO1.out.form (by rw [← HKL.out]; omega)
  injection hv with q1 q2 q3
  subst q1 q3
  have HG : Hid (∀ V : World, V.ownsRow bl 9 1 (.slice (some ⟨gl, 0, none⟩) K.length c) K.length (ltx K) → V.cell? ⟨gl, 0, none⟩ = some (.string (S x0)) ∧ V.cell? ⟨gl, 1, none⟩ = some (.string (S x1)) ∧ V.cell? ⟨gl, 2, none⟩ = some (.string (S x2))) := fun V hV => ⟨own_txl hV (by rw [HPX.out]; rfl), own_txl hV (by rw [HPX.out]; rfl), own_txl hV (by rw [HPX.out]; rfl)⟩
  have n1 : (0 : Int) < (KL : Int) := by omega
  have n2 : (1 : Int) < (KL : Int) := by omega
  have n3 : (2 : Int) < (KL : Int) := by omega
  clear hpx hltl hk3 hn0 hn1 hn2
  obtain ⟨k0, k1, k2⟩ := HG.out _ HO1.out
  have HNA : Hid (Calls Tryz.prog 79 #[.string (S x0), .slice (some ⟨W1.heap.size, 0, none⟩) 1 1] (W1.alloc (.cells #[.string ⟨#[113, 117, 111, 114, 97, 116, 101]⟩] 9)) fun e w' => NamP (namE [quor] x0) (W1.alloc (.cells #[.string ⟨#[113, 117, 111, 114, 97, 116, 101]⟩] 9)) e w') := by
    have h := named_any (S x0) [quor] W1.heap.size 1 (W1.alloc (.cells #[.string ⟨#[113, 117, 111, 114, 97, 116, 101]⟩] 9)) (by rw [S_size]; omega) (by decide) (by decide) (by simp) (fun k x hk => by
      match k, hk with
      | 0, hk => obtain rfl := Option.some.inj hk; exact (Blk.new W1 9 _).cell 0
      | k + 1, hk => simp at hk)
    rw [S_data] at h
    exact h
  have hal1 : Below W1.heap.size W1 (W1.alloc (.cells #[.string ⟨#[113, 117, 111, 114, 97, 116, 101]⟩] 9)) := (Below.refl _ _).alloc (Nat.le_refl _) _
  have HAL1 := hide hal1
  clear hal1
  go_upto_region 5 with (go_at_call 79; refine HNA.out.mono ?_; rintro e w2 ⟨Av, cv, va, ok, rfl, hrow, hb2, h1, h2⟩; have hb2' : Below W1.heap.size W1 w2 := HAL1.out.trans (hb2.mono HAL1.out.size); have HV2 := hide hrow; have HX2 := hide (HX1.out.below hb2' HX1.out.lt); have HZ2 := hide (HZ1.out.below hb2' HZ1.out.lt); have HB2 := hide (HB1.out.trans (hb2'.mono HB1.out.size)); have HO2 := hide (own_step HO1.out hb2'); have H1 := hide h1; have H2 := hide h2; clear hrow hb2 hb2' h1 h2)
  clear k0 k1 k2 HNA HAL1 HX1 HZ1 HB1 HO1
  cases ok with
  | false =>
    have HR : Hid (F = none) := by show _ = _; rw [HF.out, HPX.out]; exact headC_first HN0.out (by rw [H2.out rfl]; simp)
    go_upto_region 6 with fail
    refine wp_region_lit ?_
    refine wpList_value rfl (.agg (cfC Cfg.zero none 0)) (ex_load 24 (.tmp 4) rfl _ rfl _ _ Tryz.underlying24 rfl (ld44 _ rfl) (box_all HX2.out)) ?_
    simp only [Act.put, aSt, aSz, aSs]
    go_wp2_with (refine wpList_put_at rfl 24 (.tmp 2) (.tmp 34) rfl (w.heap.size) 0 (cfC Cfg.zero none 0) rfl rfl 24 Z HZ2.out (ld44 _ rfl) (by rw [cf_size, hZs]; omega) (cf_all _ _ _) _ (cput Z _ hZs rfl) ?_)
    refine bodyPost_ret (results_44b rfl _ rfl (HZ2.out.row _) rfl rfl) rfl ?_
    exact cnf_any (Nat.le_refl _) HZ2.out HB2.out (CfU.zero _ _ 0) (fun h => by cases h) (fun _ => HR.out)
  | true =>
    have hva : va.length = 1 := by
      have h := H1.out rfl
      unfold namE at h
      split at h
      · exact pairP_len _ _ _ h
      · cases h
    obtain ⟨v0, rfl⟩ : ∃ v0, va = [v0] := by
      match va, hva with
      | [v0], _ => exact ⟨v0, rfl⟩
    clear hva
    obtain ⟨gv, cap, hv, _, hltv⟩ := HV2.out.form (by simp)
    injection hv with q1 q2 q3
    subst q1 q3
    have kv : w2.cell? ⟨gv, 0, none⟩ = some (.int .i64 v0) := own_int HV2.out (k := 0) (by simp)
    clear hltv
    by_cases hv1 : ¬ v0 = 1
    · have HR : Hid (F = none) := by show _ = _; rw [HF.out, HPX.out]; exact headC_first HN0.out (by rw [H1.out rfl]; intro h; injection h with h; injection h with h _; exact hv1 h)
      have e3 : (v0 == 1) = false := by rw [beq_eq_false_iff_ne]; exact hv1
      have e4 : (v0 != 1) = true := by rw [bne, e3]; rfl
      go_upto_region 6 with fail
      refine wp_region_lit ?_
      refine wpList_value rfl (.agg (cfC Cfg.zero none 0)) (ex_load 24 (.tmp 4) rfl _ rfl _ _ Tryz.underlying24 rfl (ld44 _ rfl) (box_all HX2.out)) ?_
      simp only [Act.put, aSt, aSz, aSs]
      go_wp2_with (refine wpList_put_at rfl 24 (.tmp 2) (.tmp 34) rfl (w.heap.size) 0 (cfC Cfg.zero none 0) rfl rfl 24 Z HZ2.out (ld44 _ rfl) (by rw [cf_size, hZs]; omega) (cf_all _ _ _) _ (cput Z _ hZs rfl) ?_)
      refine bodyPost_ret (results_44b rfl _ rfl (HZ2.out.row _) rfl rfl) rfl ?_
      exact cnf_any (Nat.le_refl _) HZ2.out HB2.out (CfU.zero _ _ 0) (fun h => by cases h) (fun _ => HR.out)
    have hv1 := Decidable.not_not.1 hv1
    subst hv1
    have HFC : Hid (F = cfgL x1 x2) := by show _ = _; rw [HF.out, HPX.out]; exact headC_cfg HN0.out (H1.out rfl)
    go_upto_region 7 with fail
    clear kv HV2 H1 H2 HF
    obtain ⟨k0, k1, k2⟩ := HG.out _ HO2.out
    obtain ⟨nmC, hnmC⟩ : ∃ nmC : Array Value, nmC = #[.string (S [110, 111, 100, 101, 115]), .string (S [119, 105, 110, 100, 111, 119]), .string (S [98, 97, 115, 101]), .string (S [115, 116, 101, 112]), .string (S [99, 97, 112]), .string (S [114, 111, 111, 109]), .string (S [102, 108, 111, 111, 114])] := ⟨_, rfl⟩
    have HNB : Hid (∀ W : World, Calls Tryz.prog 79 #[.string (S x1), .slice (some ⟨W.heap.size, 0, none⟩) 7 7] (W.alloc (.cells nmC 9)) fun e w' => NamP (namE cfNames x1) (W.alloc (.cells nmC 9)) e w') := fun W => by
      have h := named_any (S x1) cfNames W.heap.size 7 (W.alloc (.cells nmC 9)) (by rw [S_size]; omega) (by decide) (by decide) (by simp) (fun k x hk => by
        rw [(Blk.new W 9 nmC).cell k, hnmC]
        match k, hk with
        | 0, hk => obtain rfl := Option.some.inj hk; rfl
        | 1, hk => obtain rfl := Option.some.inj hk; rfl
        | 2, hk => obtain rfl := Option.some.inj hk; rfl
        | 3, hk => obtain rfl := Option.some.inj hk; rfl
        | 4, hk => obtain rfl := Option.some.inj hk; rfl
        | 5, hk => obtain rfl := Option.some.inj hk; rfl
        | 6, hk => obtain rfl := Option.some.inj hk; rfl
        | k + 7, hk => simp [cfNames] at hk)
      rw [S_data] at h
      exact h
    rw [hnmC] at HNB
    have HAL2 : Hid (∀ C, Below w2.heap.size w2 (w2.alloc (.cells C 9))) := fun C => (Below.refl _ _).alloc (Nat.le_refl _) _
    clear hnmC nmC
    go_upto_region 8 with (go_at_call 79; refine (HNB.out _).mono ?_; rintro e w3 ⟨Av, cv, va, ok, rfl, hrow, hb3', h1, h2⟩; have hb3 : Below w2.heap.size w2 w3 := (HAL2.out _).trans (hb3'.mono (HAL2.out _).size); have HV3 := hide hrow; have HX3 := hide (HX2.out.below hb3 HX2.out.lt); have HZ3 := hide (HZ2.out.below hb3 HZ2.out.lt); have HB3 := hide (HB2.out.trans (hb3.mono HB2.out.size)); have HO3 := hide (own_step HO2.out hb3); have H1 := hide h1; have H2 := hide h2; clear hrow hb3 hb3' h1 h2)
    have hx2 : w.heap.size + 1 < w2.heap.size := HX2.out.lt
    clear k0 k1 k2 HNB HAL2 HX2 HZ2 HB2 HO2
    cases ok with
    | false =>
      have HR : Hid (F = none) := by show _ = _; rw [HFC.out]; exact cfgL_nam HN1.out (H2.out rfl)
      go_upto_region 9 with fail
      refine wp_region_lit ?_
      refine wpList_value rfl (.agg (cfC Cfg.zero none 0)) (ex_load 24 (.tmp 4) rfl _ rfl _ _ Tryz.underlying24 rfl (ld44 _ rfl) (box_all HX3.out)) ?_
      simp only [Act.put, aSt, aSz, aSs]
      go_wp2_with (refine wpList_put_at rfl 24 (.tmp 2) (.tmp 45) rfl (w.heap.size) 0 (cfC Cfg.zero none 0) rfl rfl 24 Z HZ3.out (ld44 _ rfl) (by rw [cf_size, hZs]; omega) (cf_all _ _ _) _ (cput Z _ hZs rfl) ?_)
      refine bodyPost_ret (results_44b rfl _ rfl (HZ3.out.row _) rfl rfl) rfl ?_
      exact cnf_any (Nat.le_refl _) HZ3.out HB3.out (CfU.zero _ _ 0) (fun h => by cases h) (fun _ => HR.out)
    | true =>
      have hva : va.length = 7 := by
        have h := H1.out rfl
        unfold namE at h
        split at h
        · exact pairP_len _ _ _ h
        · cases h
      obtain ⟨a, b, c2, d, e, f, g, rfl⟩ := seven hva
      clear hva
      obtain ⟨gv, cap, hv, hgv, hltv⟩ := HV3.out.form (by simp)
      injection hv with q1 q2 q3
      subst q1 q3
      have hgv2 : w2.heap.size + 1 ≤ gv := by simpa using hgv
      have hgp : gv ≠ w.heap.size + 1 := by omega
      have HVA : Hid (∀ V : World, V.cell? ⟨gv, 0, none⟩ = w3.cell? ⟨gv, 0, none⟩ ∧ V.cell? ⟨gv, 1, none⟩ = w3.cell? ⟨gv, 1, none⟩ ∧ V.cell? ⟨gv, 2, none⟩ = w3.cell? ⟨gv, 2, none⟩ ∧ V.cell? ⟨gv, 3, none⟩ = w3.cell? ⟨gv, 3, none⟩ ∧ V.cell? ⟨gv, 4, none⟩ = w3.cell? ⟨gv, 4, none⟩ ∧ V.cell? ⟨gv, 5, none⟩ = w3.cell? ⟨gv, 5, none⟩ ∧ V.cell? ⟨gv, 6, none⟩ = w3.cell? ⟨gv, 6, none⟩ → V.cell? ⟨gv, 0, none⟩ = some (.int .i64 a) ∧ V.cell? ⟨gv, 1, none⟩ = some (.int .i64 b) ∧ V.cell? ⟨gv, 2, none⟩ = some (.int .i64 c2) ∧ V.cell? ⟨gv, 3, none⟩ = some (.int .i64 d) ∧ V.cell? ⟨gv, 4, none⟩ = some (.int .i64 e) ∧ V.cell? ⟨gv, 5, none⟩ = some (.int .i64 f) ∧ V.cell? ⟨gv, 6, none⟩ = some (.int .i64 g)) := fun V ⟨h0, h1, h2, h3, h4, h5, h6⟩ => ⟨h0.trans (own_int HV3.out (k := 0) (by simp)), h1.trans (own_int HV3.out (k := 1) (by simp)), h2.trans (own_int HV3.out (k := 2) (by simp)), h3.trans (own_int HV3.out (k := 3) (by simp)), h4.trans (own_int HV3.out (k := 4) (by simp)), h5.trans (own_int HV3.out (k := 5) (by simp)), h6.trans (own_int HV3.out (k := 6) (by simp))⟩
      have HSV0 := hide (HVA.out w3 ⟨rfl, rfl, rfl, rfl, rfl, rfl, rfl⟩)
      clear hltv HVA
      obtain ⟨c1, hc1⟩ : ∃ c1 : Cfg, c1 = ⟨a, b, c2, d, e, f, g, []⟩ := ⟨_, rfl⟩
      have HPA : Hid (∀ m, wordsG false x2 = some m → ∃ l, pairP cfNames l = some [c1.nodes, c1.window, c1.base, c1.step, c1.cap, c1.room, c1.floor] ∧ F = cfgP l m) := fun m hm => by
        obtain ⟨l, h1, h2⟩ := cfgL_all HN1.out HN2.out (H1.out rfl) hm
        exact ⟨l, by rw [h1, hc1], by rw [HFC.out, h2]⟩
      have HCV : Hid (({ c1 with votes := [] } : Cfg) = c1) := by show _ = _; rw [hc1]
      obtain ⟨p, hp⟩ : ∃ p, p = w.heap.size + 1 := ⟨_, rfl⟩
      rw [← hp] at hgp HX3 ⊢
      have hpg : w.heap.size + 1 ≤ p := by omega
      have hpw : ¬ p = w.heap.size := by omega
      have HPW := hide hp
      clear hp hgv hgv2 hx2
      go_upto_region 10 with fail
      have HU0 : Hid (∀ (W : World), CfU W w.heap.size c1 none 0) := fun W => ⟨by rw [hc1]; exact World.ownsRow_nil _ _ _ _, by rw [hc1]; exact Nat.zero_le _⟩
      have HW0 : Hid (wordsG false x2 = none → F = none) := fun h => by rw [HFC.out]; exact cfgL_wd HN2.out h
      obtain ⟨V1, hV1⟩ : ∃ V, V = World.setCell w3.drew ⟨p, 0, none⟩ (.int .i64 a) := ⟨_, rfl⟩
      have HV1 := hide hV1
      clear hV1
      obtain ⟨V2, hV2⟩ : ∃ V, V = World.setCell V1 ⟨p, 1, none⟩ (.int .i64 b) := ⟨_, rfl⟩
      have HV2 := hide hV2
      clear hV2
      obtain ⟨V3, hV3⟩ : ∃ V, V = World.setCell V2 ⟨p, 2, none⟩ (.int .i64 c2) := ⟨_, rfl⟩
      have HV3 := hide hV3
      clear hV3
      obtain ⟨V4, hV4⟩ : ∃ V, V = World.setCell V3 ⟨p, 3, none⟩ (.int .i64 d) := ⟨_, rfl⟩
      have HV4 := hide hV4
      clear hV4
      obtain ⟨V5, hV5⟩ : ∃ V, V = World.setCell V4 ⟨p, 4, none⟩ (.int .i64 e) := ⟨_, rfl⟩
      have HV5 := hide hV5
      clear hV5
      obtain ⟨V6, hV6⟩ : ∃ V, V = World.setCell V5 ⟨p, 5, none⟩ (.int .i64 f) := ⟨_, rfl⟩
      have HV6 := hide hV6
      clear hV6
      obtain ⟨V7, hV7⟩ : ∃ V, V = World.setCell V6 ⟨p, 6, none⟩ (.int .i64 g) := ⟨_, rfl⟩
      have HV7 := hide hV7
      clear hV7
      have HS0 : Hid (Blk w3.drew p 24 (cfC Cfg.zero none 0)) := HX3.out
      have HC1 : Hid (Blk V1 p 24 (cfC ⟨a, 0, 0, 0, 0, 0, 0, []⟩ none 0)) := by show Blk _ _ _ _; rw [HV1.out]; exact Blk.set_ (HX3.out.drew) 0 _
      have HSV1 : Hid ((fun V : World => V.cell? ⟨gv, 0, none⟩ = some (.int .i64 a) ∧ V.cell? ⟨gv, 1, none⟩ = some (.int .i64 b) ∧ V.cell? ⟨gv, 2, none⟩ = some (.int .i64 c2) ∧ V.cell? ⟨gv, 3, none⟩ = some (.int .i64 d) ∧ V.cell? ⟨gv, 4, none⟩ = some (.int .i64 e) ∧ V.cell? ⟨gv, 5, none⟩ = some (.int .i64 f) ∧ V.cell? ⟨gv, 6, none⟩ = some (.int .i64 g)) V1) := by
        show _ ∧ _
        rw [HV1.out]
        obtain ⟨a0, a1, a2, a3, a4, a5, a6⟩ := HSV0.out
        exact ⟨(only_setCell0 _ _ _ _).cell a0 hgp, (only_setCell0 _ _ _ _).cell a1 hgp, (only_setCell0 _ _ _ _).cell a2 hgp, (only_setCell0 _ _ _ _).cell a3 hgp, (only_setCell0 _ _ _ _).cell a4 hgp, (only_setCell0 _ _ _ _).cell a5 hgp, (only_setCell0 _ _ _ _).cell a6 hgp⟩
      have HC2 : Hid (Blk V2 p 24 (cfC ⟨a, b, 0, 0, 0, 0, 0, []⟩ none 0)) := by show Blk _ _ _ _; rw [HV2.out]; exact Blk.set_ (HC1.out) 1 _
      have HSV2 : Hid ((fun V : World => V.cell? ⟨gv, 0, none⟩ = some (.int .i64 a) ∧ V.cell? ⟨gv, 1, none⟩ = some (.int .i64 b) ∧ V.cell? ⟨gv, 2, none⟩ = some (.int .i64 c2) ∧ V.cell? ⟨gv, 3, none⟩ = some (.int .i64 d) ∧ V.cell? ⟨gv, 4, none⟩ = some (.int .i64 e) ∧ V.cell? ⟨gv, 5, none⟩ = some (.int .i64 f) ∧ V.cell? ⟨gv, 6, none⟩ = some (.int .i64 g)) V2) := by
        show _ ∧ _
        rw [HV2.out]
        obtain ⟨a0, a1, a2, a3, a4, a5, a6⟩ := HSV1.out
        exact ⟨(only_setCell0 _ _ _ _).cell a0 hgp, (only_setCell0 _ _ _ _).cell a1 hgp, (only_setCell0 _ _ _ _).cell a2 hgp, (only_setCell0 _ _ _ _).cell a3 hgp, (only_setCell0 _ _ _ _).cell a4 hgp, (only_setCell0 _ _ _ _).cell a5 hgp, (only_setCell0 _ _ _ _).cell a6 hgp⟩
      have HC3 : Hid (Blk V3 p 24 (cfC ⟨a, b, c2, 0, 0, 0, 0, []⟩ none 0)) := by show Blk _ _ _ _; rw [HV3.out]; exact Blk.set_ (HC2.out) 2 _
      have HSV3 : Hid ((fun V : World => V.cell? ⟨gv, 0, none⟩ = some (.int .i64 a) ∧ V.cell? ⟨gv, 1, none⟩ = some (.int .i64 b) ∧ V.cell? ⟨gv, 2, none⟩ = some (.int .i64 c2) ∧ V.cell? ⟨gv, 3, none⟩ = some (.int .i64 d) ∧ V.cell? ⟨gv, 4, none⟩ = some (.int .i64 e) ∧ V.cell? ⟨gv, 5, none⟩ = some (.int .i64 f) ∧ V.cell? ⟨gv, 6, none⟩ = some (.int .i64 g)) V3) := by
        show _ ∧ _
        rw [HV3.out]
        obtain ⟨a0, a1, a2, a3, a4, a5, a6⟩ := HSV2.out
        exact ⟨(only_setCell0 _ _ _ _).cell a0 hgp, (only_setCell0 _ _ _ _).cell a1 hgp, (only_setCell0 _ _ _ _).cell a2 hgp, (only_setCell0 _ _ _ _).cell a3 hgp, (only_setCell0 _ _ _ _).cell a4 hgp, (only_setCell0 _ _ _ _).cell a5 hgp, (only_setCell0 _ _ _ _).cell a6 hgp⟩
      have HC4 : Hid (Blk V4 p 24 (cfC ⟨a, b, c2, d, 0, 0, 0, []⟩ none 0)) := by show Blk _ _ _ _; rw [HV4.out]; exact Blk.set_ (HC3.out) 3 _
      have HSV4 : Hid ((fun V : World => V.cell? ⟨gv, 0, none⟩ = some (.int .i64 a) ∧ V.cell? ⟨gv, 1, none⟩ = some (.int .i64 b) ∧ V.cell? ⟨gv, 2, none⟩ = some (.int .i64 c2) ∧ V.cell? ⟨gv, 3, none⟩ = some (.int .i64 d) ∧ V.cell? ⟨gv, 4, none⟩ = some (.int .i64 e) ∧ V.cell? ⟨gv, 5, none⟩ = some (.int .i64 f) ∧ V.cell? ⟨gv, 6, none⟩ = some (.int .i64 g)) V4) := by
        show _ ∧ _
        rw [HV4.out]
        obtain ⟨a0, a1, a2, a3, a4, a5, a6⟩ := HSV3.out
        exact ⟨(only_setCell0 _ _ _ _).cell a0 hgp, (only_setCell0 _ _ _ _).cell a1 hgp, (only_setCell0 _ _ _ _).cell a2 hgp, (only_setCell0 _ _ _ _).cell a3 hgp, (only_setCell0 _ _ _ _).cell a4 hgp, (only_setCell0 _ _ _ _).cell a5 hgp, (only_setCell0 _ _ _ _).cell a6 hgp⟩
      have HC5 : Hid (Blk V5 p 24 (cfC ⟨a, b, c2, d, e, 0, 0, []⟩ none 0)) := by show Blk _ _ _ _; rw [HV5.out]; exact Blk.set_ (HC4.out) 4 _
      have HSV5 : Hid ((fun V : World => V.cell? ⟨gv, 0, none⟩ = some (.int .i64 a) ∧ V.cell? ⟨gv, 1, none⟩ = some (.int .i64 b) ∧ V.cell? ⟨gv, 2, none⟩ = some (.int .i64 c2) ∧ V.cell? ⟨gv, 3, none⟩ = some (.int .i64 d) ∧ V.cell? ⟨gv, 4, none⟩ = some (.int .i64 e) ∧ V.cell? ⟨gv, 5, none⟩ = some (.int .i64 f) ∧ V.cell? ⟨gv, 6, none⟩ = some (.int .i64 g)) V5) := by
        show _ ∧ _
        rw [HV5.out]
        obtain ⟨a0, a1, a2, a3, a4, a5, a6⟩ := HSV4.out
        exact ⟨(only_setCell0 _ _ _ _).cell a0 hgp, (only_setCell0 _ _ _ _).cell a1 hgp, (only_setCell0 _ _ _ _).cell a2 hgp, (only_setCell0 _ _ _ _).cell a3 hgp, (only_setCell0 _ _ _ _).cell a4 hgp, (only_setCell0 _ _ _ _).cell a5 hgp, (only_setCell0 _ _ _ _).cell a6 hgp⟩
      have HC6 : Hid (Blk V6 p 24 (cfC ⟨a, b, c2, d, e, f, 0, []⟩ none 0)) := by show Blk _ _ _ _; rw [HV6.out]; exact Blk.set_ (HC5.out) 5 _
      have HSV6 : Hid ((fun V : World => V.cell? ⟨gv, 0, none⟩ = some (.int .i64 a) ∧ V.cell? ⟨gv, 1, none⟩ = some (.int .i64 b) ∧ V.cell? ⟨gv, 2, none⟩ = some (.int .i64 c2) ∧ V.cell? ⟨gv, 3, none⟩ = some (.int .i64 d) ∧ V.cell? ⟨gv, 4, none⟩ = some (.int .i64 e) ∧ V.cell? ⟨gv, 5, none⟩ = some (.int .i64 f) ∧ V.cell? ⟨gv, 6, none⟩ = some (.int .i64 g)) V6) := by
        show _ ∧ _
        rw [HV6.out]
        obtain ⟨a0, a1, a2, a3, a4, a5, a6⟩ := HSV5.out
        exact ⟨(only_setCell0 _ _ _ _).cell a0 hgp, (only_setCell0 _ _ _ _).cell a1 hgp, (only_setCell0 _ _ _ _).cell a2 hgp, (only_setCell0 _ _ _ _).cell a3 hgp, (only_setCell0 _ _ _ _).cell a4 hgp, (only_setCell0 _ _ _ _).cell a5 hgp, (only_setCell0 _ _ _ _).cell a6 hgp⟩
      have HC7 : Hid (Blk V7 p 24 (cfC ⟨a, b, c2, d, e, f, g, []⟩ none 0)) := by show Blk _ _ _ _; rw [HV7.out]; exact Blk.set_ (HC6.out) 6 _
      have HSV7 : Hid ((fun V : World => V.cell? ⟨gv, 0, none⟩ = some (.int .i64 a) ∧ V.cell? ⟨gv, 1, none⟩ = some (.int .i64 b) ∧ V.cell? ⟨gv, 2, none⟩ = some (.int .i64 c2) ∧ V.cell? ⟨gv, 3, none⟩ = some (.int .i64 d) ∧ V.cell? ⟨gv, 4, none⟩ = some (.int .i64 e) ∧ V.cell? ⟨gv, 5, none⟩ = some (.int .i64 f) ∧ V.cell? ⟨gv, 6, none⟩ = some (.int .i64 g)) V7) := by
        show _ ∧ _
        rw [HV7.out]
        obtain ⟨a0, a1, a2, a3, a4, a5, a6⟩ := HSV6.out
        exact ⟨(only_setCell0 _ _ _ _).cell a0 hgp, (only_setCell0 _ _ _ _).cell a1 hgp, (only_setCell0 _ _ _ _).cell a2 hgp, (only_setCell0 _ _ _ _).cell a3 hgp, (only_setCell0 _ _ _ _).cell a4 hgp, (only_setCell0 _ _ _ _).cell a5 hgp, (only_setCell0 _ _ _ _).cell a6 hgp⟩
      have HXF := HC7
      have hcz := HX3.out.drew.cell 0
      refine wp_region_L [] (fun V : World => V.cell? ⟨gv, 0, none⟩ = some (.int .i64 a) ∧ V.cell? ⟨gv, 1, none⟩ = some (.int .i64 b) ∧ V.cell? ⟨gv, 2, none⟩ = some (.int .i64 c2) ∧ V.cell? ⟨gv, 3, none⟩ = some (.int .i64 d) ∧ V.cell? ⟨gv, 4, none⟩ = some (.int .i64 e) ∧ V.cell? ⟨gv, 5, none⟩ = some (.int .i64 f) ∧ V.cell? ⟨gv, 6, none⟩ = some (.int .i64 g)) (by kernel_rfl) ?_
      refine wpL_take 0 (oi := ⟨some 46, _, _, _, _, _⟩) (v := ?_) rfl (by kernel_rfl) (by kernel_rfl) (by kernel_rfl) (by kernel_rfl) (fun _ _ _ h => h) (Or.inl ⟨by rfl, ?_⟩) HSV0.out ?_
      rotate_left
      · intro V hV
        obtain ⟨a0, a1, a2, a3, a4, a5, a6⟩ := hV
        go_simp
        try with_reducible rfl
      try simp only [Act.put, aSt, aSz, aSs]
      refine wpL_take 1 (oi := ⟨some 47, _, _, _, _, _⟩) (v := ?_) rfl (by kernel_rfl) (by kernel_rfl) (by kernel_rfl) (by kernel_rfl) (fun _ _ _ h => h) (Or.inl ⟨by rfl, ?_⟩) HSV0.out ?_
      rotate_left
      · intro V hV
        obtain ⟨a0, a1, a2, a3, a4, a5, a6⟩ := hV
        go_simp
        try with_reducible rfl
      try simp only [Act.put, aSt, aSz, aSs]
      refine wpL_take 2 (oi := ⟨some 48, _, _, _, _, _⟩) (v := ?_) rfl (by kernel_rfl) (by kernel_rfl) (by kernel_rfl) (by kernel_rfl) (fun _ _ _ h => h) (Or.inl ⟨by rfl, ?_⟩) HSV0.out ?_
      rotate_left
      · intro V hV
        obtain ⟨a0, a1, a2, a3, a4, a5, a6⟩ := hV
        go_simp
        try with_reducible rfl
      try simp only [Act.put, aSt, aSz, aSs]
      refine wpL_take 3 (oi := ⟨some 49, _, _, _, _, _⟩) (v := ?_) rfl (by kernel_rfl) (by kernel_rfl) (by kernel_rfl) (by kernel_rfl) (fun _ _ _ h => h) (Or.inl ⟨by rfl, ?_⟩) HSV0.out ?_
      rotate_left
      · intro V hV
        obtain ⟨a0, a1, a2, a3, a4, a5, a6⟩ := hV
        go_simp
        try with_reducible rfl
      try simp only [Act.put, aSt, aSz, aSs]
      refine wpL_take 4 (oi := ⟨some 50, _, _, _, _, _⟩) (v := ?_) rfl (by kernel_rfl) (by kernel_rfl) (by kernel_rfl) (by kernel_rfl) (fun _ _ _ h => h) (Or.inl ⟨by rfl, ?_⟩) HSV0.out ?_
      rotate_left
      · intro V hV
        obtain ⟨a0, a1, a2, a3, a4, a5, a6⟩ := hV
        go_simp
        try with_reducible rfl
      try simp only [Act.put, aSt, aSz, aSs]
      refine wpL_take 5 (oi := ⟨some 51, _, _, _, _, _⟩) (v := ?_) rfl (by kernel_rfl) (by kernel_rfl) (by kernel_rfl) (by kernel_rfl) (fun _ _ _ h => h) (Or.inl ⟨by rfl, ?_⟩) HSV0.out ?_
      rotate_left
      · intro V hV
        obtain ⟨a0, a1, a2, a3, a4, a5, a6⟩ := hV
        go_simp
        try with_reducible rfl
      try simp only [Act.put, aSt, aSz, aSs]
      refine wpL_take 6 (oi := ⟨some 52, _, _, _, _, _⟩) (v := ?_) rfl (by kernel_rfl) (by kernel_rfl) (by kernel_rfl) (by kernel_rfl) (fun _ _ _ h => h) (Or.inl ⟨by rfl, ?_⟩) HSV0.out ?_
      rotate_left
      · intro V hV
        obtain ⟨a0, a1, a2, a3, a4, a5, a6⟩ := hV
        go_simp
        try with_reducible rfl
      try simp only [Act.put, aSt, aSz, aSs]
      refine wpL_take 7 (oi := ⟨some 53, _, _, _, _, _⟩) (v := ?_) rfl (by kernel_rfl) (by kernel_rfl) (by kernel_rfl) (by kernel_rfl) (fun _ _ _ h => h) (Or.inl ⟨by rfl, ?_⟩) HSV0.out ?_
      rotate_left
      · intro V hV
        obtain ⟨a0, a1, a2, a3, a4, a5, a6⟩ := hV
        go_simp
        try with_reducible rfl
      try simp only [Act.put, aSt, aSz, aSs]
      refine wpL_take 8 (oi := ⟨some 54, _, _, _, _, _⟩) (v := ?_) rfl (by kernel_rfl) (by kernel_rfl) (by kernel_rfl) (by kernel_rfl) (fun _ _ _ h => h) (Or.inl ⟨by rfl, ?_⟩) HSV0.out ?_
      rotate_left
      · intro V hV
        obtain ⟨a0, a1, a2, a3, a4, a5, a6⟩ := hV
        go_simp
        try with_reducible rfl
      try simp only [Act.put, aSt, aSz, aSs]
      refine wpL_take 9 (oi := ⟨some 55, _, _, _, _, _⟩) (v := ?_) rfl (by kernel_rfl) (by kernel_rfl) (by kernel_rfl) (by kernel_rfl) (fun _ _ _ h => h) (Or.inl ⟨by rfl, ?_⟩) HSV0.out ?_
      rotate_left
      · intro V hV
        obtain ⟨a0, a1, a2, a3, a4, a5, a6⟩ := hV
        go_simp
        try with_reducible rfl
      try simp only [Act.put, aSt, aSz, aSs]
      refine wpL_take 10 (oi := ⟨some 56, _, _, _, _, _⟩) (v := ?_) rfl (by kernel_rfl) (by kernel_rfl) (by kernel_rfl) (by kernel_rfl) (fun _ _ _ h => h) (Or.inl ⟨by rfl, ?_⟩) HSV0.out ?_
      rotate_left
      · intro V hV
        obtain ⟨a0, a1, a2, a3, a4, a5, a6⟩ := hV
        go_simp
        try with_reducible rfl
      try simp only [Act.put, aSt, aSz, aSs]
      refine wpL_take 11 (oi := ⟨some 57, _, _, _, _, _⟩) (v := ?_) rfl (by kernel_rfl) (by kernel_rfl) (by kernel_rfl) (by kernel_rfl) (fun _ _ _ h => h) (Or.inl ⟨by rfl, ?_⟩) HSV0.out ?_
      rotate_left
      · intro V hV
        obtain ⟨a0, a1, a2, a3, a4, a5, a6⟩ := hV
        go_simp
        try with_reducible rfl
      try simp only [Act.put, aSt, aSz, aSs]
      refine wpL_take 12 (oi := ⟨some 58, _, _, _, _, _⟩) (v := ?_) rfl (by kernel_rfl) (by kernel_rfl) (by kernel_rfl) (by kernel_rfl) (fun _ _ _ h => h) (Or.inl ⟨by rfl, ?_⟩) HSV0.out ?_
      rotate_left
      · intro V hV
        obtain ⟨a0, a1, a2, a3, a4, a5, a6⟩ := hV
        go_simp
        try with_reducible rfl
      try simp only [Act.put, aSt, aSz, aSs]
      refine wpL_take 13 (oi := ⟨some 59, _, _, _, _, _⟩) (v := ?_) rfl (by kernel_rfl) (by kernel_rfl) (by kernel_rfl) (by kernel_rfl) (fun _ _ _ h => h) (Or.inl ⟨by rfl, ?_⟩) HSV0.out ?_
      rotate_left
      · intro V hV
        obtain ⟨a0, a1, a2, a3, a4, a5, a6⟩ := hV
        go_simp
        try with_reducible rfl
      try simp only [Act.put, aSt, aSz, aSs]
      refine wpL_take 14 (oi := ⟨some 60, _, _, _, _, _⟩) (v := ?_) rfl (by kernel_rfl) (by kernel_rfl) (by kernel_rfl) (by kernel_rfl) (fun _ _ _ h => h) (Or.inl ⟨by rfl, ?_⟩) HSV0.out ?_
      rotate_left
      · intro V hV
        obtain ⟨a0, a1, a2, a3, a4, a5, a6⟩ := hV
        go_simp
        try with_reducible rfl
      try simp only [Act.put, aSt, aSz, aSs]
      refine wpL_take 15 (oi := ⟨some 61, _, _, _, _, _⟩) (v := ?_) rfl (by kernel_rfl) (by kernel_rfl) (by kernel_rfl) (by kernel_rfl) (fun _ _ _ h => h) (Or.inl ⟨by rfl, ?_⟩) HSV0.out ?_
      rotate_left
      · intro V hV
        obtain ⟨a0, a1, a2, a3, a4, a5, a6⟩ := hV
        go_simp
        try with_reducible rfl
      try simp only [Act.put, aSt, aSz, aSs]
      refine wpL_take 16 (oi := ⟨some 62, _, _, _, _, _⟩) (v := ?_) rfl (by kernel_rfl) (by kernel_rfl) (by kernel_rfl) (by kernel_rfl) (fun _ _ _ h => h) (Or.inl ⟨by rfl, ?_⟩) HSV0.out ?_
      rotate_left
      · intro V hV
        obtain ⟨a0, a1, a2, a3, a4, a5, a6⟩ := hV
        go_simp
        try with_reducible rfl
      try simp only [Act.put, aSt, aSz, aSs]
      refine wpL_take 17 (oi := ⟨some 63, _, _, _, _, _⟩) (v := ?_) rfl (by kernel_rfl) (by kernel_rfl) (by kernel_rfl) (by kernel_rfl) (fun _ _ _ h => h) (Or.inl ⟨by rfl, ?_⟩) HSV0.out ?_
      rotate_left
      · intro V hV
        obtain ⟨a0, a1, a2, a3, a4, a5, a6⟩ := hV
        go_simp
        try with_reducible rfl
      try simp only [Act.put, aSt, aSz, aSs]
      refine wpL_take 18 (oi := ⟨some 64, _, _, _, _, _⟩) (v := ?_) rfl (by kernel_rfl) (by kernel_rfl) (by kernel_rfl) (by kernel_rfl) (fun _ _ _ h => h) (Or.inl ⟨by rfl, ?_⟩) HSV0.out ?_
      rotate_left
      · intro V hV
        obtain ⟨a0, a1, a2, a3, a4, a5, a6⟩ := hV
        go_simp
        try with_reducible rfl
      try simp only [Act.put, aSt, aSz, aSs]
      refine wpL_take 19 (oi := ⟨some 65, _, _, _, _, _⟩) (v := ?_) rfl (by kernel_rfl) (by kernel_rfl) (by kernel_rfl) (by kernel_rfl) (fun _ _ _ h => h) (Or.inl ⟨by rfl, ?_⟩) HSV0.out ?_
      rotate_left
      · intro V hV
        obtain ⟨a0, a1, a2, a3, a4, a5, a6⟩ := hV
        go_simp
        try with_reducible rfl
      try simp only [Act.put, aSt, aSz, aSs]
      refine wpL_take 20 (oi := ⟨some 66, _, _, _, _, _⟩) (v := ?_) rfl (by kernel_rfl) (by kernel_rfl) (by kernel_rfl) (by kernel_rfl) (fun _ _ _ h => h) (Or.inl ⟨by rfl, ?_⟩) HSV0.out ?_
      rotate_left
      · intro V hV
        obtain ⟨a0, a1, a2, a3, a4, a5, a6⟩ := hV
        go_simp
        try with_reducible rfl
      try simp only [Act.put, aSt, aSz, aSs]
      refine wpL_take 21 (oi := ⟨some 67, _, _, _, _, _⟩) (v := ?_) rfl (by kernel_rfl) (by kernel_rfl) (by kernel_rfl) (by kernel_rfl) (fun _ _ _ h => h) (Or.inl ⟨by rfl, ?_⟩) HSV0.out ?_
      rotate_left
      · intro V hV
        go_simp
        try with_reducible rfl
      try simp only [Act.put, aSt, aSz, aSs]
      have kk : w3.drew.cell? ⟨p, 0, none⟩ = some (.int .i64 0) := HX3.out.drew.cell 0
      have ff := Blk.frozen HX3.out.drew 0
      refine wpL_one 22 (by kernel_rfl) rfl (fun K hK => ?_)
      rw [if_pos (by rfl)]
      go_simp
      refine hK _ _ (fun _ => by have := HSV1.out; rw [HV1.out] at this; exact this) ?_
      clear hK K kk ff
      try simp only [Act.put, aSt, aSz, aSs]
      show wpL _ _ _ _ _ _ _ _ _ (World.setCell w3.drew ⟨p, 0, none⟩ (.int .i64 a))
      rw [← HV1.out]
      refine wpL_take 23 (oi := ⟨some 68, _, _, _, _, _⟩) (v := ?_) rfl (by kernel_rfl) (by kernel_rfl) (by kernel_rfl) (by kernel_rfl) (fun _ _ _ h => h) (Or.inl ⟨by rfl, ?_⟩) HSV1.out ?_
      rotate_left
      · intro V hV
        go_simp
        try with_reducible rfl
      try simp only [Act.put, aSt, aSz, aSs]
      have kk : V1.cell? ⟨p, 1, none⟩ = some (.int .i64 0) := HC1.out.cell 1
      have ff := Blk.frozen HC1.out 1
      refine wpL_one 24 (by kernel_rfl) rfl (fun K hK => ?_)
      rw [if_pos (by rfl)]
      go_simp
      refine hK _ _ (fun _ => by have := HSV2.out; rw [HV2.out] at this; exact this) ?_
      clear hK K kk ff
      try simp only [Act.put, aSt, aSz, aSs]
      show wpL _ _ _ _ _ _ _ _ _ (World.setCell V1 ⟨p, 1, none⟩ (.int .i64 b))
      rw [← HV2.out]
      refine wpL_take 25 (oi := ⟨some 69, _, _, _, _, _⟩) (v := ?_) rfl (by kernel_rfl) (by kernel_rfl) (by kernel_rfl) (by kernel_rfl) (fun _ _ _ h => h) (Or.inl ⟨by rfl, ?_⟩) HSV2.out ?_
      rotate_left
      · intro V hV
        go_simp
        try with_reducible rfl
      try simp only [Act.put, aSt, aSz, aSs]
      have kk : V2.cell? ⟨p, 2, none⟩ = some (.int .i64 0) := HC2.out.cell 2
      have ff := Blk.frozen HC2.out 2
      refine wpL_one 26 (by kernel_rfl) rfl (fun K hK => ?_)
      rw [if_pos (by rfl)]
      go_simp
      refine hK _ _ (fun _ => by have := HSV3.out; rw [HV3.out] at this; exact this) ?_
      clear hK K kk ff
      try simp only [Act.put, aSt, aSz, aSs]
      show wpL _ _ _ _ _ _ _ _ _ (World.setCell V2 ⟨p, 2, none⟩ (.int .i64 c2))
      rw [← HV3.out]
      refine wpL_take 27 (oi := ⟨some 70, _, _, _, _, _⟩) (v := ?_) rfl (by kernel_rfl) (by kernel_rfl) (by kernel_rfl) (by kernel_rfl) (fun _ _ _ h => h) (Or.inl ⟨by rfl, ?_⟩) HSV3.out ?_
      rotate_left
      · intro V hV
        go_simp
        try with_reducible rfl
      try simp only [Act.put, aSt, aSz, aSs]
      have kk : V3.cell? ⟨p, 3, none⟩ = some (.int .i64 0) := HC3.out.cell 3
      have ff := Blk.frozen HC3.out 3
      refine wpL_one 28 (by kernel_rfl) rfl (fun K hK => ?_)
      rw [if_pos (by rfl)]
      go_simp
      refine hK _ _ (fun _ => by have := HSV4.out; rw [HV4.out] at this; exact this) ?_
      clear hK K kk ff
      try simp only [Act.put, aSt, aSz, aSs]
      show wpL _ _ _ _ _ _ _ _ _ (World.setCell V3 ⟨p, 3, none⟩ (.int .i64 d))
      rw [← HV4.out]
      refine wpL_take 29 (oi := ⟨some 71, _, _, _, _, _⟩) (v := ?_) rfl (by kernel_rfl) (by kernel_rfl) (by kernel_rfl) (by kernel_rfl) (fun _ _ _ h => h) (Or.inl ⟨by rfl, ?_⟩) HSV4.out ?_
      rotate_left
      · intro V hV
        go_simp
        try with_reducible rfl
      try simp only [Act.put, aSt, aSz, aSs]
      have kk : V4.cell? ⟨p, 4, none⟩ = some (.int .i64 0) := HC4.out.cell 4
      have ff := Blk.frozen HC4.out 4
      refine wpL_one 30 (by kernel_rfl) rfl (fun K hK => ?_)
      rw [if_pos (by rfl)]
      go_simp
      refine hK _ _ (fun _ => by have := HSV5.out; rw [HV5.out] at this; exact this) ?_
      clear hK K kk ff
      try simp only [Act.put, aSt, aSz, aSs]
      show wpL _ _ _ _ _ _ _ _ _ (World.setCell V4 ⟨p, 4, none⟩ (.int .i64 e))
      rw [← HV5.out]
      refine wpL_take 31 (oi := ⟨some 72, _, _, _, _, _⟩) (v := ?_) rfl (by kernel_rfl) (by kernel_rfl) (by kernel_rfl) (by kernel_rfl) (fun _ _ _ h => h) (Or.inl ⟨by rfl, ?_⟩) HSV5.out ?_
      rotate_left
      · intro V hV
        go_simp
        try with_reducible rfl
      try simp only [Act.put, aSt, aSz, aSs]
      have kk : V5.cell? ⟨p, 5, none⟩ = some (.int .i64 0) := HC5.out.cell 5
      have ff := Blk.frozen HC5.out 5
      refine wpL_one 32 (by kernel_rfl) rfl (fun K hK => ?_)
      rw [if_pos (by rfl)]
      go_simp
      refine hK _ _ (fun _ => by have := HSV6.out; rw [HV6.out] at this; exact this) ?_
      clear hK K kk ff
      try simp only [Act.put, aSt, aSz, aSs]
      show wpL _ _ _ _ _ _ _ _ _ (World.setCell V5 ⟨p, 5, none⟩ (.int .i64 f))
      rw [← HV6.out]
      refine wpL_take 33 (oi := ⟨some 73, _, _, _, _, _⟩) (v := ?_) rfl (by kernel_rfl) (by kernel_rfl) (by kernel_rfl) (by kernel_rfl) (fun _ _ _ h => h) (Or.inl ⟨by rfl, ?_⟩) HSV6.out ?_
      rotate_left
      · intro V hV
        go_simp
        try with_reducible rfl
      try simp only [Act.put, aSt, aSz, aSs]
      have kk : V6.cell? ⟨p, 6, none⟩ = some (.int .i64 0) := HC6.out.cell 6
      have ff := Blk.frozen HC6.out 6
      refine wpL_one 34 (by kernel_rfl) rfl (fun K hK => ?_)
      rw [if_pos (by rfl)]
      go_simp
      refine hK _ _ (fun _ => by have := HSV7.out; rw [HV7.out] at this; exact this) ?_
      clear hK K kk ff
      try simp only [Act.put, aSt, aSz, aSs]
      show wpL _ _ _ _ _ _ _ _ _ (World.setCell V6 ⟨p, 6, none⟩ (.int .i64 g))
      rw [← HV7.out]
      refine wpL_done (by kernel_rfl) ?_ _
      obtain ⟨W4, hW4⟩ : ∃ W4, W4 = V7 := ⟨_, rfl⟩
      rw [← hW4]
      have hO4 : Only (fun q => q = p) w3 V7 := by
        rw [HV7.out, HV6.out, HV5.out, HV4.out, HV3.out, HV2.out, HV1.out]
        exact (((((((Only.refl (fun q => q = p) w3).drew.setCell (fun _ => rfl) _).setCell (fun _ => rfl) _).setCell (fun _ => rfl) _).setCell (fun _ => rfl) _).setCell (fun _ => rfl) _).setCell (fun _ => rfl) _).setCell (fun _ => rfl) _
      have HO4O := hide hO4
      clear hO4 hcz HC1 HC2 HC3 HC4 HC5 HC6 HSV1 HSV2 HSV3 HSV4 HSV5 HSV6 HSV7 HS0 HV1 HV2 HV3 HV4 HV5 HV6 HV7
      have hb4 : Below (w.heap.size + 1) w3 W4 := by rw [hW4]; exact HO4O.out.below (by have := HX3.out.lt; omega) (fun k hk e => by have e2 : k = p := e; omega)
      have HX4 : Hid (Blk W4 p 24 (cfC c1 none 0)) := by
        show Blk _ _ _ _
        rw [hW4, hc1]
        exact HXF.out
      have HZ4 := hide (HZ3.out.below hb4 (by omega))
      have HB4 := hide (HB3.out.trans (hb4.mono (by omega)))
      have HO4 : Hid (W4.ownsRow bl 9 1 (.slice (some ⟨gl, 0, none⟩) K.length c) K.length (ltx K)) := by
        refine own_apart HO3.out (F := fun q => q = p) ?_ (fun k hk hq => by subst hq; exact ⟨_, _, HX3.out, by decide⟩)
        rw [hW4]
        exact HO4O.out
      clear hW4 HXF hb4 HX3 HZ3 HB3 HO3 HV3 hc1 H1 H2 HSV0 HFC
      have hsw4 : w.heap.size ≤ W4.heap.size := HB4.out.size
      obtain ⟨k0, k1, k2⟩ := HG.out _ HO4.out
      have HSP : Hid (∀ W, Calls Tryz.prog 61 #[.string (S x2)] W fun e w' => WdsP 159 pwc (wordsG false x2) W e w') := fun W => by
        have h := split_any (S x2) W (by rw [S_size]; omega)
        rw [S_data] at h
        exact h
      go_upto_region 12 with (go_at_call 61; refine (HSP.out _).mono ?_; rintro e w5 ⟨Aw, cw, m, okm, rfl, hrow, hb5, h1, h2⟩; have HOW := hide hrow; have HX5 := hide (HX4.out.below hb5 HX4.out.lt); have HZ5 := hide (HZ4.out.below hb5 HZ4.out.lt); have HB5 := hide (HB4.out.trans (hb5.mono HB4.out.size)); have H3 := hide h1; have H4 := hide h2; clear hrow hb5 h1 h2)
      clear k0 k1 k2 HSP HX4 HZ4 HB4 HO4 HG
      have hsw5 : w.heap.size ≤ w5.heap.size := HB5.out.size
      cases okm with
      | false =>
        have HR : Hid (F = none) := by show _ = _; exact HW0.out (H4.out rfl)
        go_upto_region 13 with fail
        refine wp_region_lit ?_
        refine wpList_value rfl (.agg (cfC c1 none 0)) (ex_load 24 (.tmp 4) rfl _ rfl _ _ Tryz.underlying24 rfl (ld44 _ rfl) (box_all HX5.out)) ?_
        simp only [Act.put, aSt, aSz, aSs]
        go_wp2_with (refine wpList_put_at rfl 24 (.tmp 2) (.tmp 93) rfl (w.heap.size) 0 (cfC c1 none 0) rfl rfl 24 Z HZ5.out (ld44 _ rfl) (by rw [cf_size, hZs]; omega) (cf_all _ _ _) _ (cput Z _ hZs rfl) ?_)
        refine bodyPost_ret (results_44b rfl _ rfl (HZ5.out.row _) rfl rfl) rfl ?_
        exact cnf_any (Nat.le_refl _) HZ5.out HB5.out (HU0.out _) (fun h => by cases h) (fun _ => HR.out)
      | true =>
        obtain ⟨l, hpl, hfl⟩ := HPA.out m (H3.out rfl)
        have HPL := hide hpl
        have HFL := hide hfl
        have hmz : m.length ≤ 90000000 ∧ ∀ d ∈ m, d.1.length ≤ 100000000 := by
          have h := H3.out rfl
          have := wds_sz (nl := false) x2.length x2 (Nat.le_refl _) m
          exact ⟨by have := (this h).1; omega, fun d hd => by have := (this h).2 d hd; omega⟩
        have HMZ := hide hmz
        clear hpl hfl H3 H4 HPA hmz
        obtain ⟨ML, hML⟩ : ∃ ML, ML = m.length := ⟨_, rfl⟩
        have HML := hide hML
        rw [← hML]
        by_cases hm2 : ML < 2
        · have HR : Hid (F = none) := by show _ = _; rw [HFL.out]; exact cfgP_len (by omega)
          have e3 : (ML : Int) < 2 := by omega
          clear hML
          go_upto_region 13 with fail
          refine wp_region_lit ?_
          refine wpList_value rfl (.agg (cfC c1 none 0)) (ex_load 24 (.tmp 4) rfl _ rfl _ _ Tryz.underlying24 rfl (ld44 _ rfl) (box_all HX5.out)) ?_
          simp only [Act.put, aSt, aSz, aSs]
          go_wp2_with (refine wpList_put_at rfl 24 (.tmp 2) (.tmp 93) rfl (w.heap.size) 0 (cfC c1 none 0) rfl rfl 24 Z HZ5.out (ld44 _ rfl) (by rw [cf_size, hZs]; omega) (cf_all _ _ _) _ (cput Z _ hZs rfl) ?_)
          refine bodyPost_ret (results_44b rfl _ rfl (HZ5.out.row _) rfl rfl) rfl ?_
          exact cnf_any (Nat.le_refl _) HZ5.out HB5.out (HU0.out _) (fun h => by cases h) (fun _ => HR.out)
        have e3 : ¬ (ML : Int) < 2 := by omega
        by_cases hm17 : 17 < ML
        · have HR : Hid (F = none) := by show _ = _; rw [HFL.out]; exact cfgP_len (by omega)
          have e4 : (17 : Int) < (ML : Int) := by omega
          clear hML
          go_upto_region 13 with fail
          refine wp_region_lit ?_
          refine wpList_value rfl (.agg (cfC c1 none 0)) (ex_load 24 (.tmp 4) rfl _ rfl _ _ Tryz.underlying24 rfl (ld44 _ rfl) (box_all HX5.out)) ?_
          simp only [Act.put, aSt, aSz, aSs]
          go_wp2_with (refine wpList_put_at rfl 24 (.tmp 2) (.tmp 93) rfl (w.heap.size) 0 (cfC c1 none 0) rfl rfl 24 Z HZ5.out (ld44 _ rfl) (by rw [cf_size, hZs]; omega) (cf_all _ _ _) _ (cput Z _ hZs rfl) ?_)
          refine bodyPost_ret (results_44b rfl _ rfl (HZ5.out.row _) rfl rfl) rfl ?_
          exact cnf_any (Nat.le_refl _) HZ5.out HB5.out (HU0.out _) (fun h => by cases h) (fun _ => HR.out)
        have e4 : ¬ (17 : Int) < (ML : Int) := by omega
        have hAc : m.length ≤ cw := by
          obtain ⟨A', c', hv, _, hc⟩ := own_slice HOW.out
          injection hv with e1 e2 e3
          omega
        have HRD0 : Hid (Rd (w5.alloc (.cells (rdC Aw m.length cw 0 Em.zero) 126)) w.heap.size w5.heap.size Aw cw 0 m Em.zero) :=
          ⟨Blk.new _ _ _, (PWd.of_own HOW.out).step ((Below.refl _ _).alloc (Nat.le_refl _) _), hAc, EmU.zero _ _, hsw5⟩
        rw [← hML] at HRD0
        clear hML hAc
        go_upto_region 15 with fail
        generalize hW6 : World.alloc w5 _ = W6
        have HR6 : Hid (Rd W6 w.heap.size w5.heap.size Aw cw 0 m Em.zero) := by
          show Rd _ _ _ _ _ _ _ _
          rw [← hW6]
          exact HRD0.out
        have hb6 : Below w5.heap.size w5 W6 := by rw [← hW6]; exact (Below.refl _ _).alloc (Nat.le_refl _) _
        have HX6 := hide (HX5.out.below hb6 HX5.out.lt)
        have HZ6 := hide (HZ5.out.below hb6 HZ5.out.lt)
        have HB6 := hide (HB5.out.trans (hb6.mono HB5.out.size))
        obtain ⟨r, hr⟩ : ∃ r, r = w5.heap.size := ⟨_, rfl⟩
        have hpr : p < r := by rw [hr]; exact HX5.out.lt
        rw [← hr] at HR6 ⊢
        clear hW6 hb6 hr HRD0 HX5 HZ5 HB5 HOW
        have hsw6 : w.heap.size ≤ W6.heap.size := HB6.out.size
        have HPLN := hide (plain_any m w.heap.size r Aw cw 0 Em.zero W6 HR6.out HMZ.out.1)
        go_upto_region 16 with (go_at_call 63; refine HPLN.out.mono ?_; rintro e w7 ⟨A7, c7, t, ok7, ws7, rfl, hr7, ho7, h3, h4⟩; have HR7 := hide hr7; have HX7 := hide (HX6.out.only ho7 (by omega)); have HZ7 := hide (HZ6.out.only ho7 (by omega)); have HB7 := hide (HB6.out.trans (HR6.out.low ho7)); have H3 := hide h3; have H4 := hide h4; clear hr7 ho7 h3 h4)
        clear HPLN HR6 HX6 HZ6 HB6
        have hsw7 : w.heap.size ≤ w7.heap.size := HB7.out.size
        have hpl7 : p < w7.heap.size := HX7.out.lt
        obtain ⟨v, vs, hmv⟩ : ∃ v vs, m = v :: vs := by
          cases hm : m with
          | nil => exact absurd (by rw [HML.out, hm]; decide) hm2
          | cons v vs => exact ⟨v, vs, rfl⟩
        have HMV := hide hmv
        obtain ⟨X, hX⟩ : ∃ X, X = S t := ⟨_, rfl⟩
        rw [← hX]
        have HXT : Hid (X.toList = t) := by show _ = _; rw [hX, ByteArray.toList_eq, S_data]
        have hvs : vs.length + 1 = ML := by rw [HML.out, hmv]; rfl
        have HVZ : Hid (∀ d ∈ vs, d.1.length ≤ 100000000) := fun d hd => HMZ.out.2 d (by rw [hmv]; simp [hd])
        clear hX hmv
        by_cases hnm : ¬ X.toList = [118, 111, 116, 101, 115]
        · have f3 : (X.toList == [118, 111, 116, 101, 115]) = false := by simpa using hnm
          have HR : Hid (F = none) := by
            show _ = _
            rw [HFL.out, HMV.out]
            refine cfgP_name (fun h => ?_)
            cases hk : ok7 with
            | true =>
              have h5 := H3.out hk
              rw [HMV.out] at h5
              injection h5 with h5 _
              refine hnm ?_
              rw [HXT.out]
              have h6 := h.2
              rw [h5] at h6
              exact h6
            | false =>
              have h5 := (H4.out hk).2.2 v vs HMV.out
              rw [h.1] at h5
              cases h5
          go_upto_region 17 with fail
          refine wp_region_lit ?_
          refine wpList_value rfl (.agg (cfC c1 none 0)) (ex_load 24 (.tmp 4) rfl _ rfl _ _ Tryz.underlying24 rfl (ld44 _ rfl) (box_all HX7.out)) ?_
          simp only [Act.put, aSt, aSz, aSs]
          go_wp2_with (refine wpList_put_at rfl 24 (.tmp 2) (.tmp 104) rfl (w.heap.size) 0 (cfC c1 none 0) rfl rfl 24 Z HZ7.out (ld44 _ rfl) (by rw [cf_size, hZs]; omega) (cf_all _ _ _) _ (cput Z _ hZs rfl) ?_)
          refine bodyPost_ret (results_44b rfl _ rfl (HZ7.out.row _) rfl rfl) rfl ?_
          exact cnf_any (Nat.le_refl _) HZ7.out HB7.out (HU0.out _) (fun h => by cases h) (fun _ => HR.out)
        have hnm := Decidable.not_not.1 hnm
        have f3 : (X.toList == [118, 111, 116, 101, 115]) = true := by rw [beq_iff_eq]; exact hnm
        have HM7 : Hid (m = (votes8, false) :: ws7) := by
          cases hk : ok7 with
          | true =>
            show _ = _
            rw [H3.out hk, ← HXT.out, hnm]
            rfl
          | false =>
            have h5 := (H4.out hk).1
            rw [← HXT.out, hnm] at h5
            cases h5
        have HV7 : Hid (v = (votes8, false) ∧ vs = ws7) := by
          have h5 := HM7.out
          rw [HMV.out] at h5
          injection h5 with h5 h6
          exact ⟨h5, h6⟩
        have HFV : Hid (F = (votP vs).map (fun l => { c1 with votes := l })) := by
          show _ = _
          rw [HFL.out, HMV.out]
          exact cfgP_good HPL.out (by rw [HV7.out.1]; exact ⟨rfl, rfl⟩) (by omega)
        go_upto_region 18 with fail
        clear hnm f3 H3 H4 HM7 HXT
        have HL7 : Hid (VoJ w w7 vs c1 p r w7) := ⟨[], none, 0, A7, c7, ws7, by rw [HCV.out]; exact HX7.out, ⟨World.ownsRow_nil _ _ _ _, Nat.zero_le _⟩, HR7.out, Below.refl _ _, by rw [HV7.out.2]; simp, by rw [HV7.out.2]; simp, by rw [HV7.out.2]; exact Nat.le_refl _, fun d hd => by rw [HV7.out.2]; exact hd⟩
        go_loopw [] (fun wr => VoJ w w7 vs c1 p r wr) (fun wr => leftN r wr)
        case atStart => exact HL7.out
        case round =>
          clear HL7
          unfold VoJ at hrel
          obtain ⟨lv, A, k, A', c', ws', hbx, hcu, hrd, hbr, hvp, hlen, hle, hmem⟩ := hrel
          have HBX := hide hbx
          have HCU := hide hcu
          have HRD := hide hrd
          have HBR := hide hbr
          have HVP := hide hvp
          have HMEM := hide hmem
          have HLEN := hide hlen
          have HZR := hide (HZ7.out.below hbr (by omega))
          have HBW := hide (HB7.out.trans (hbr.mono (by omega)))
          have kr : wr.cell? ⟨r, 0, none⟩ = some (.slice A' ws'.length c') := hrd.c0
          have hln := leftN_of kr
          have HLN := hide hln
          have hswr : w7.heap.size ≤ wr.heap.size := hbr.size
          have hvb : lv.length ≤ 16 := by omega
          have hwb : ws'.length ≤ 16 := by omega
          clear hbx hcu hrd hbr hvp hmem hlen hle hln
          by_cases h0 : ws' = []
          · have HR : Hid (F = some { c1 with votes := lv }) := by
              show _ = _
              rw [HFV.out, HVP.out, h0]
              simp [votP]
            subst h0
            have kr2 : wr.cell? ⟨r, 0, none⟩ = some (.slice A' 0 c') := kr
            clear kr
            go_upto_region 23 with fail
            refine wp_region_lit ?_
            refine wpList_value rfl (.agg (cfC { c1 with votes := lv } A k)) (ex_load 24 (.tmp 4) rfl _ rfl _ _ Tryz.underlying24 rfl (ld44 _ rfl) (box_all HBX.out)) ?_
            simp only [Act.put, aSt, aSz, aSs]
            go_wp2_with (refine wpList_put_at rfl 24 (.tmp 2) (.tmp 125) rfl (w.heap.size) 0 (cfC { c1 with votes := lv } A k) rfl rfl 24 Z HZR.out (ld44 _ rfl) (by rw [cf_size, hZs]; omega) (cf_all _ _ _) _ (cput Z _ hZs rfl) ?_)
            refine bodyPost_ret (results_44b rfl _ rfl (HZR.out.row _) rfl rfl) rfl ?_
            exact cnf_any (Nat.le_refl _) HZR.out HBW.out (HCU.out.base hsw7) (fun _ => HR.out) (fun h => by cases h)
          · obtain ⟨wn, hwn⟩ : ∃ wn, wn = ws'.length := ⟨_, rfl⟩
            have hw0 : 0 < wn := by rw [hwn]; exact List.length_pos_iff.2 h0
            have hw1 : (0 : Int) < (wn : Int) := by omega
            have H0 := hide h0
            rw [← hwn] at kr hwb
            have HWN := hide hwn
            have HNU := hide (number_any 0 4611686018427387904 ws' w.heap.size r A' c' 0 Em.zero wr HRD.out (by omega) (fun d hd => HVZ.out d (HMEM.out d hd)))
            clear hwn h0
            go_upto_region 20 with (go_at_call 80; refine HNU.out.mono ?_; rintro e w8 ⟨A8, c8, x, ok8, ws8, rfl, hr8, ho8, h5, h6⟩; have HR8 := hide hr8; have HX8 := hide (HBX.out.only ho8 (by omega)); have HZ8 := hide (HZR.out.only ho8 (by omega)); have hb8' : Below (w.heap.size + 1) wr w8 := ho8.below (by omega) (fun q hq e => by have e2 : q = r := e; omega); have HB8 := hide (HBR.out.trans hb8'); have HBW8 := hide (HBW.out.trans (hb8'.mono (by omega))); have HU8 : Hid (CfU w8 w7.heap.size { c1 with votes := lv } A k) := ⟨own_apart HCU.out.own ho8 (fun k' hk' hq => by subst hq; exact ⟨_, _, HRD.out.box, by decide⟩), HCU.out.hv⟩; have H5 := hide h5; have H6 := hide h6; clear hr8 ho8 h5 h6 hb8')
            clear HNU kr HBX HZR HBR HBW HCU HRD
            have hsw8 : w7.heap.size ≤ w8.heap.size := HB8.out.size
            cases ok8 with
            | false =>
              have HR : Hid (F = none) := by show _ = _; rw [HFV.out, HVP.out, vot_none H0.out (H6.out rfl)]; rfl
              go_upto_region 21 with fail
              refine wp_region_lit ?_
              refine wpList_value rfl (.agg (cfC { c1 with votes := lv } A k)) (ex_load 24 (.tmp 4) rfl _ rfl _ _ Tryz.underlying24 rfl (ld44 _ rfl) (box_all HX8.out)) ?_
              simp only [Act.put, aSt, aSz, aSs]
              go_wp2_with (refine wpList_put_at rfl 24 (.tmp 2) (.tmp 118) rfl (w.heap.size) 0 (cfC { c1 with votes := lv } A k) rfl rfl 24 Z HZ8.out (ld44 _ rfl) (by rw [cf_size, hZs]; omega) (cf_all _ _ _) _ (cput Z _ hZs rfl) ?_)
              refine bodyPost_ret (results_44b rfl _ rfl (HZ8.out.row _) rfl rfl) rfl ?_
              exact cnf_any (Nat.le_refl _) HZ8.out HBW8.out (HU8.out.base hsw7) (fun h => by cases h) (fun _ => HR.out)
            | true =>
              obtain ⟨y, rfl, hnp⟩ := H5.out rfl
              obtain ⟨⟨d, hd⟩, _⟩ := numP_tail hnp
              have HVN : Hid (votP vs = (votP ws8).map ((lv ++ [(y : Int)]) ++ ·)) := by
                show _ = _
                rw [HVP.out, vot_some hnp, Option.map_map]
                congr 1
                funext l
                simp
              have HW8 : Hid (ws'.length = ws8.length + 1 ∧ ∀ d ∈ ws8, d ∈ vs) := by
                refine ⟨by rw [hd]; rfl, fun q hq => HMEM.out q (by rw [hd]; simp [hq])⟩
              clear hnp hd
              have kv2 : w8.cell? ⟨p, 7, none⟩ = some (.slice A lv.length k) := HX8.out.cell 7
              have hrow : w8.ownsRow w7.heap.size 3 1 (.slice A lv.length k) lv.length (ints lv) := HU8.out.own
              have HROW := hide hrow
              clear hrow
              have hvn : lv.length + 1 ≤ 16 := by have := HLEN.out; have := HW8.out.1; omega
              have HPU : Hid (∀ g9 c9 w9 o, w9.ownsRow w7.heap.size 3 1 (.slice (some ⟨g9, 0, none⟩) (lv.length + 1) c9) (lv.length + 1) (ints lv ++ [.int .i64 (y : Int)]) → (w8.alloc o).grownBy w9 (Value.slice A lv.length k).ownBlock → Blk w9 p 24 (cfC { c1 with votes := lv } A k) ∧ VoJ w w7 vs c1 p r (w9.setCell ⟨p, 7, none⟩ (.slice (some ⟨g9, 0, none⟩) (lv.length + 1) c9)) ∧ leftN r (w9.setCell ⟨p, 7, none⟩ (.slice (some ⟨g9, 0, none⟩) (lv.length + 1) c9)) = ws8.length) := by
                intro g9 c9 w9 o hown9 hgr9
                have hrA : (w8.alloc o).ownsRow w7.heap.size 3 1 (.slice A lv.length k) lv.length (ints lv) := own_step HROW.out ((Below.refl _ _).alloc (Nat.le_refl _) o)
                have hbox : Blk w9 p 24 (cfC { c1 with votes := lv } A k) := (HX8.out.alloc o).grown hgr9 (own_ne hrA (HX8.out.alloc o) (by decide))
                have hW := only_setCell0 w9 p 7 (.slice (some ⟨g9, 0, none⟩) (lv.length + 1) c9)
                have hn1 : (lv ++ [(y : Int)]).length = lv.length + 1 := by simp
                have hb9 : Below w7.heap.size w8 w9 := ((Below.refl _ _).alloc hsw8 o).grown hgr9 (by simp; omega) (fun k' hk => (hrA.lt k' hk).1)
                have hr9 : Rd w9 w.heap.size r A8 c8 0 ws8 Em.zero := ⟨(HR8.out.box.alloc o).grown hgr9 (own_ne hrA (HR8.out.box.alloc o) (by decide)), (HR8.out.wds.step ((Below.refl _ _).alloc (Nat.le_refl _) o)).grown hrA (by decide) hgr9, HR8.out.hc, EmU.zero _ _, HR8.out.hr⟩
                have hr10 : Rd (w9.setCell ⟨p, 7, none⟩ (.slice (some ⟨g9, 0, none⟩) (lv.length + 1) c9)) w.heap.size r A8 c8 0 ws8 Em.zero := ⟨hr9.box.only hW (by omega), hr9.wds.apart hW (fun k hk hq => by subst hq; exact ⟨_, _, hbox, by decide⟩), hr9.hc, EmU.zero _ _, hr9.hr⟩
                have hbb : Below (w.heap.size + 1) w7 w9 := HB8.out.trans (hb9.mono (by have := HX7.out.lt; omega))
                refine ⟨hbox, ⟨lv ++ [(y : Int)], some ⟨g9, 0, none⟩, c9, A8, c8, ws8, ?_, ?_, hr10, hbb.trans (hW.below (by have := hbb.size; have := HX7.out.lt; omega) (fun k' hk e => by omega)), HVN.out, ?_, ?_, HW8.out.2⟩, leftN_of hr10.c0⟩
                · have := hbox.set_ 7 (.slice (some ⟨g9, 0, none⟩) (lv.length + 1) c9)
                  rw [← hn1, cset_votes] at this
                  rw [← hn1]
                  exact this
                · refine CfU.far (t := 24) (cs := cfC { c1 with votes := lv } A k) ⟨?_, ?_⟩ hbox (by decide) hW
                  · show World.ownsRow _ _ _ _ (.slice _ (lv ++ [(y : Int)]).length _) (lv ++ [(y : Int)]).length (ints (lv ++ [(y : Int)]))
                    rw [hn1]
                    have e : ints (lv ++ [(y : Int)]) = ints lv ++ [.int .i64 (y : Int)] := by simp [ints]
                    rw [e]
                    exact hown9
                  · show (lv ++ [(y : Int)]).length ≤ 16
                    rw [hn1]
                    exact hvn
                · rw [hn1]
                  have := HLEN.out
                  have := HW8.out.1
                  omega
                · have := HLEN.out
                  have := HW8.out.1
                  omega
              go_wp2_with (at_builtin; refine wpList_push (W := w8) (cs := #[.int .i64 (y : Int)]) rfl (.tmp 120) (.tmp 122) _ rfl w7.heap.size 3 i3 _ 1 8 Tryz.underlying22 I3.out hz3 hs3 hb3 rfl (by omega) (.slice A lv.length k) lv.length _ rfl HROW.out 1 1 rfl rfl (by simp [Value.oneCell']) (by omega) (by unfold maxLen; omega) (by omega) hsw8 ?_; intro g9 c9 w9 hown9 hgr9 hb9 _ _ _; have HB9 := hide (HPU.out g9 c9 w9 _ hown9 hgr9).1; have HL9 := hide (HPU.out g9 c9 w9 _ hown9 hgr9).2; have k9 := HB9.out.cell 7; have f9 := Blk.frozen HB9.out 7; clear hown9 hb9 hgr9)
              go_roundw
              case rel => exact HL9.out.1
              case measure => rw [HL9.out.2, HLN.out, HW8.out.1]; omega
end Go.Proofs.YtcibcmfaebbhnaaGreatDoor
