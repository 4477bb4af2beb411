/-
  The reference's config: the second and the third line. (Printed by wip/tools/mkcnf.py.)
-/
import Derived.Test.YtcibcmfaebbhnaaDoorZCm
set_option linter.unusedVariables false
set_option linter.unusedSimpArgs false
namespace Go.Proofs.YtcibcmfaebbhnaaDoor
open Go.RowKit Go.WideShapes Go.ChangeShapes Q

theorem cfgP_pair {l m : List Wd} (h : pairP cfNames l = none) : cfgP l m = none := by
  unfold cfgP
  rw [h]
theorem cfgP_len {l m : List Wd} (h : ¬ (2 ≤ m.length ∧ m.length ≤ 17)) : cfgP l m = none := by
  unfold cfgP
  split
  · rename_i v vs _
    split
    · rename_i h1
      exact absurd ⟨by simp; omega, by simp; omega⟩ h
    · rfl
  · rfl
theorem cfgP_name {l : List Wd} {v : Wd} {vs : List Wd} (h : ¬ (v.2 = false ∧ v.1 = votes8)) : cfgP l (v :: vs) = none := by
  unfold cfgP
  split
  · rename_i v' vs' _ he
    injection he with h1 h2
    subst h1 h2
    split
    · rename_i h1
      exact absurd ⟨h1.1, h1.2.1⟩ h
    · rfl
  · rfl
theorem cfgP_good {l : List Wd} {v : Wd} {vs : List Wd} {a b c d e f g : Int} (hp : pairP cfNames l = some [a, b, c, d, e, f, g]) (h : v.2 = false ∧ v.1 = votes8) (h2 : 1 ≤ vs.length ∧ vs.length ≤ 16) : cfgP l (v :: vs) = (votP vs).map (fun l => ⟨a, b, c, d, e, f, g, l⟩) := by
  unfold cfgP
  rw [hp]
  exact if_pos ⟨h.1, h.2, h2.1, h2.2⟩
/-- What the loop over the names keeps. -/
def HdJ (W3 : World) (ws : List Wd) (n i : Value) (wr : World) : Prop := ∃ (j : Nat) (A : Option Addr) (c : Nat), j ≤ 14 ∧ i = .int .i64 j ∧ n = .slice A j c ∧ wr.ownsRow W3.heap.size 3 1 (.slice A j c) j (ints ((ws.take j).map wcntZ)) ∧ Below W3.heap.size W3 wr ∧ ∀ q, q < j → Chk ws q
/-- What the loop over the votes keeps. -/
def VtJ (B : Nat) (W3 : World) (m rest : List Wd) (c0 : Cfg) (p : Nat) (Z : Array Value) (i : Value) (wr : World) : Prop := ∃ (j : Nat) (l : List Int) (A : Option Addr) (k : Nat), 1 ≤ j ∧ j ≤ m.length ∧ i = .int .i64 j ∧ Blk wr p 44 (cfC { c0 with votes := l } A k) ∧
  CfU wr W3.heap.size { c0 with votes := l } A k ∧ Below B W3 wr ∧ votP rest = (votP (m.drop j)).map (l ++ ·) ∧ l.length + 1 = j
set_option maxRecDepth 100000 in
set_option maxHeartbeats 8000000 in
theorem config_words (l m : List Wd) (gl cl gm cm : Nat) (v : Wd) (vs : List Wd) (Z : Array Value) (hZs : Z.size = 8) (w : World) (ll : l.length = 14) : True := trivial
set_option maxRecDepth 100000 in
set_option maxHeartbeats 8000000 in
theorem config_ref (s t : ByteArray) (w : World) (hs : s.size ≤ 30000000) (ht : t.size ≤ 30000000) :
    Calls Tryd.prog 41 #[.string s, .string t] w fun e w' => CnfP (cfgL s.data.toList t.data.toList) w e w' := by
  have HWD : Hid (∀ (s : ByteArray) W, s.size ≤ 30000000 → Calls Tryd.prog 30 #[.string s] W fun e w' => WdsP 106 rwc (wordsG true s.data.toList) W e w') := fun s W h => words_ref s W (by omega)
  have HWS : Hid (∀ W, Calls Tryd.prog 30 #[.string s] W fun e w' => WdsP 106 rwc (wordsG true s.data.toList) W e w') := fun W => words_ref s W (by omega)
  have HWT : Hid (∀ W, Calls Tryd.prog 30 #[.string t] W fun e w' => WdsP 106 rwc (wordsG true t.data.toList) W e w') := fun W => words_ref t W (by omega)
  have HSZ : Hid (∀ (s : ByteArray) ws, s.size ≤ 30000000 → wordsG true s.data.toList = some ws → ∀ d ∈ ws, d.1.length ≤ 100000000) := fun s ws hs h => by
    have := wds_sz _ _ (Nat.le_refl _) ws h
    rw [str_len] at this
    exact fun d hd => by have := this.2 d hd; omega
  have HSS := hide (HSZ.out s)
  have HST := hide (HSZ.out t)
  have HNU : Hid (∀ d W, d.1.length ≤ 100000000 → Calls Tryd.prog 69 #[.agg #[.bool d.2, .string (S d.1)]] W fun e w' => e = .returned (.int .i64 (wcntZ d)) ∧ Below W.heap.size W w') := fun d W h => number_ref d.2 (S d.1) W (by rw [S_size]; omega)
  obtain ⟨i3, hi3, hz3, hs3, hb3⟩ := info_parts info3
  have I3 := hide hi3
  clear hi3 HSZ HWD
  have Hhs := hide hs
  have Hht := hide ht
  clear hs ht
  obtain ⟨F, hF⟩ : ∃ F, F = cfgL s.data.toList t.data.toList := ⟨_, rfl⟩
  rw [← hF]
  have HF := hide hF
  clear hF
  go_enter Tryd.func41, Tryd.ntmps41
  go_upto_region 1 with fail
  generalize hW1 : World.alloc w _ = W1
  obtain ⟨Z, hZs, hZ⟩ : ∃ Z : Array Value, Z.size = 8 ∧ Blk W1 w.heap.size 44 Z := by
    rw [← hW1]
    exact ⟨_, rfl, Blk.new _ _ _⟩
  have HB1 : Hid (Below w.heap.size w W1) := by
    show Below _ _ _
    rw [← hW1]
    exact (Below.refl _ _).alloc (Nat.le_refl _) _
  clear hW1
  have HZ1 := hide hZ
  clear hZ
  go_upto_region 2 with (go_at_call 30; refine (HWS.out _).mono ?_; rintro e w2 ⟨Al, cl, l, ok, rfl, hrow, hb2, h1, h2⟩; have HOl2 := hide hrow; have HB2 := hide (HB1.out.trans (hb2.mono HB1.out.size)); have HZ2 := hide (HZ1.out.below hb2 HZ1.out.lt); have H1 := hide h1; have H2 := hide h2; clear hrow hb2 h1 h2)
  go_upto_region 3 with (go_at_call 30; refine (HWT.out _).mono ?_; rintro e w3 ⟨Am, cm, m, okm, rfl, hrow, hb3', h1, h2⟩; have HOl3 := hide (own_step HOl2.out hb3'); have HOm3 := hide hrow; have HB3 := hide (HB2.out.trans (hb3'.mono HB2.out.size)); have HZ3 := hide (HZ2.out.below hb3' HZ2.out.lt); have H3 := hide h1; have H4 := hide h2; clear hrow hb3' h1 h2)
  clear HZ1 HB1 HZ2 HB2 HOl2 HWS HWT
  go_upto_region 4 with (go_at_call 44; refine (header_ref _).mono ?_; rintro e w4 ⟨rfl, rfl⟩)
  obtain ⟨gh, hgh⟩ : ∃ gh, gh = w3.heap.size := ⟨_, rfl⟩
  generalize hW4 : World.alloc w3 _ = W4
  rw [← hgh]
  have HH4 : Hid (Blk W4 gh 9 hdrV) := by show Blk _ _ _ _; rw [← hW4, hgh]; exact Blk.new _ _ _
  have hb4 : Below w3.heap.size w3 W4 := by rw [← hW4]; exact (Below.refl _ _).alloc (Nat.le_refl _) _
  have HB4 := hide (HB3.out.trans (hb4.mono HB3.out.size))
  have HZ4 := hide (HZ3.out.below hb4 HZ3.out.lt)
  have HOl4 := hide (own_step HOl3.out hb4)
  have HOm4 := hide (own_step HOm3.out hb4)
  have hsw4 : w.heap.size ≤ W4.heap.size := HB4.out.size
  clear HZ3 HB3 HOl3 HOm3 hb4 hW4 hgh
  cases ok with
  | false =>
    have HR : Hid (F = none) := by
      show _ = _
      rw [HF.out]
      unfold cfgL
      rw [H2.out rfl]
    go_wp2_with (refine wpList_put_at rfl 44 (.tmp 4) (.tmp 64) rfl (w.heap.size) 0 (cfC Cfg.zero none 0) rfl rfl 44 Z HZ4.out (ld44 _ rfl) (by rw [cf_size, hZs]; omega) (cf_all _ _ _) _ (cput Z _ hZs rfl) ?_)
    refine bodyPost_ret (results_44b rfl _ rfl (HZ4.out.row _) rfl rfl) rfl ?_
    exact cnf_no _ (Nat.le_refl _) HZ4.out HB4.out HR.out
  | true =>
    cases okm with
    | false =>
      have HR : Hid (F = none) := by
        show _ = _
        rw [HF.out]
        unfold cfgL
        rw [H4.out rfl]
        split
        · rename_i h; cases h
        · rfl
      go_wp2_with (refine wpList_put_at rfl 44 (.tmp 4) (.tmp 64) rfl (w.heap.size) 0 (cfC Cfg.zero none 0) rfl rfl 44 Z HZ4.out (ld44 _ rfl) (by rw [cf_size, hZs]; omega) (cf_all _ _ _) _ (cput Z _ hZs rfl) ?_)
      refine bodyPost_ret (results_44b rfl _ rfl (HZ4.out.row _) rfl rfl) rfl ?_
      exact cnf_no _ (Nat.le_refl _) HZ4.out HB4.out HR.out
    | true =>
      have HFP : Hid (F = cfgP l m) := by
        show _ = _
        rw [HF.out]
        unfold cfgL
        rw [H1.out rfl, H3.out rfl]
      have hlz := HSS.out l Hhs.out (H1.out rfl)
      have hmz := HST.out m Hht.out (H3.out rfl)
      have HLZ := hide hlz
      have HMZ := hide hmz
      clear hlz hmz HF H1 H2 H3 H4 HSS HST
      by_cases hl : ¬ l.length = 14
      · have HR : Hid (F = none) := by show _ = _; rw [HFP.out]; exact cfgP_pair (pair_len _ _ (by exact hl))
        have e1 : ((l.length : Int) == 14) = false := by rw [beq_eq_false_iff_ne]; omega
        have e2 : ((l.length : Int) != 14) = true := by rw [bne, e1]; rfl
        have e3 : ¬ (l.length : Int) = 14 := by omega
        go_wp2_with (refine wpList_put_at rfl 44 (.tmp 4) (.tmp 64) rfl (w.heap.size) 0 (cfC Cfg.zero none 0) rfl rfl 44 Z HZ4.out (ld44 _ rfl) (by rw [cf_size, hZs]; omega) (cf_all _ _ _) _ (cput Z _ hZs rfl) ?_)
        refine bodyPost_ret (results_44b rfl _ rfl (HZ4.out.row _) rfl rfl) rfl ?_
        exact cnf_no _ (Nat.le_refl _) HZ4.out HB4.out HR.out
      have hl := Decidable.not_not.1 hl
      have HLL := hide hl
      obtain ⟨gl, cap, hv, _, hltl⟩ := HOl4.out.form (by omega)
      injection hv with q1 q2 q3
      subst q1 q3
      have HRL := hide (RWd.of_own HOl4.out hltl)
      rw [hl]
      clear hltl
      by_cases hm2 : m.length < 2
      · have HR : Hid (F = none) := by show _ = _; rw [HFP.out]; exact cfgP_len (by omega)
        have e1 : (m.length : Int) < 2 := by omega
        clear hl
        go_wp2_with (refine wpList_put_at rfl 44 (.tmp 4) (.tmp 64) rfl (w.heap.size) 0 (cfC Cfg.zero none 0) rfl rfl 44 Z HZ4.out (ld44 _ rfl) (by rw [cf_size, hZs]; omega) (cf_all _ _ _) _ (cput Z _ hZs rfl) ?_)
        refine bodyPost_ret (results_44b rfl _ rfl (HZ4.out.row _) rfl rfl) rfl ?_
        exact cnf_no _ (Nat.le_refl _) HZ4.out HB4.out HR.out
      have e2 : ¬ (m.length : Int) < 2 := by omega
      by_cases hm17 : 17 < m.length
      · have HR : Hid (F = none) := by show _ = _; rw [HFP.out]; exact cfgP_len (by omega)
        have e1 : (17 : Int) < (m.length : Int) := by omega
        clear hl
        go_wp2_with (refine wpList_put_at rfl 44 (.tmp 4) (.tmp 64) rfl (w.heap.size) 0 (cfC Cfg.zero none 0) rfl rfl 44 Z HZ4.out (ld44 _ rfl) (by rw [cf_size, hZs]; omega) (cf_all _ _ _) _ (cput Z _ hZs rfl) ?_)
        refine bodyPost_ret (results_44b rfl _ rfl (HZ4.out.row _) rfl rfl) rfl ?_
        exact cnf_no _ (Nat.le_refl _) HZ4.out HB4.out HR.out
      have e3 : ¬ (17 : Int) < (m.length : Int) := by omega
      obtain ⟨gm, cap, hv, _, hltm⟩ := HOm4.out.form (by omega)
      injection hv with q1 q2 q3
      subst q1 q3
      have HRM := hide (RWd.of_own HOm4.out hltm)
      clear hltm
      obtain ⟨v, vs, hmv⟩ : ∃ v vs, m = v :: vs := by
        cases m with
        | nil => exact absurd (by simp) hm2
        | cons v vs => exact ⟨v, vs, rfl⟩
      obtain ⟨ML, hML⟩ : ∃ ML, ML = m.length := ⟨_, rfl⟩
      have HML := hide hML
      have HMV := hide hmv
      obtain ⟨m0, m1⟩ := HRM.out.at_ 0 v (by rw [hmv]; rfl)
      simp only [Nat.zero_mul, Nat.zero_add] at m0 m1
      have hvs : vs.length + 1 = ML := by rw [hML, hmv]; rfl
      have e6 : (0 : Int) < (ML : Int) := by omega
      obtain ⟨X, hX⟩ : ∃ X, X = S v.1 := ⟨_, rfl⟩
      rw [← hX] at m1
      rw [← hML] at e2 e3 hm2 hm17 ⊢
      clear hML hmv
      cases hv2 : v.2 with
      | true =>
        rw [hv2] at m0
        have HR : Hid (F = none) := by show _ = _; rw [HFP.out, HMV.out]; exact cfgP_name (fun h => by rw [hv2] at h; cases h.1)
        clear hv2 hX
        go_wp2_with (refine wpList_put_at rfl 44 (.tmp 4) (.tmp 64) rfl (w.heap.size) 0 (cfC Cfg.zero none 0) rfl rfl 44 Z HZ4.out (ld44 _ rfl) (by rw [cf_size, hZs]; omega) (cf_all _ _ _) _ (cput Z _ hZs rfl) ?_)
        refine bodyPost_ret (results_44b rfl _ rfl (HZ4.out.row _) rfl rfl) rfl ?_
        exact cnf_no _ (Nat.le_refl _) HZ4.out HB4.out HR.out
      | false =>
        rw [hv2] at m0
        by_cases hnm : ¬ v.1 = votes8
        · have HR : Hid (F = none) := by show _ = _; rw [HFP.out, HMV.out]; exact cfgP_name (fun h => hnm h.2)
          have f2 : ¬ X.toList = [118, 111, 116, 101, 115] := by rw [hX, ByteArray.toList_eq, S_data]; exact hnm
          have f3 : (X.toList == [118, 111, 116, 101, 115]) = false := by simpa using f2
          clear hnm hX hv2
          go_wp2_with (refine wpList_put_at rfl 44 (.tmp 4) (.tmp 64) rfl (w.heap.size) 0 (cfC Cfg.zero none 0) rfl rfl 44 Z HZ4.out (ld44 _ rfl) (by rw [cf_size, hZs]; omega) (cf_all _ _ _) _ (cput Z _ hZs rfl) ?_)
          refine bodyPost_ret (results_44b rfl _ rfl (HZ4.out.row _) rfl rfl) rfl ?_
          exact cnf_no _ (Nat.le_refl _) HZ4.out HB4.out HR.out
        have hnm := Decidable.not_not.1 hnm
        have f1 : (X.toList == [118, 111, 116, 101, 115]) = true := by rw [hX, hnm, ByteArray.toList_eq, S_data]; rfl
        have f2 : X.toList = [118, 111, 116, 101, 115] := by rw [hX, hnm, ByteArray.toList_eq, S_data]; rfl
        have HVN : Hid (v.2 = false ∧ v.1 = votes8) := ⟨hv2, hnm⟩
        clear hnm hX hv2
        go_upto_region 6 with fail
        clear m0 m1 f1 f2
        have HL0 : Hid (HdJ W4 l (.slice none 0 0) (.int .i64 0) W4) := ⟨0, none, 0, Nat.zero_le _, rfl, rfl, World.ownsRow_nil _ _ _ _, Below.refl _ _, fun q h => by omega⟩
        go_upto_region 8 with fail
        go_loopw [11, 12] (fun n i wr => HdJ W4 l n i wr) (fun _ i _ => 14 - (intOf i).toNat)
        case atStart => exact HL0.out
        case round =>
          clear HL0
          unfold HdJ at hrel
          obtain ⟨j, An, cn, hj, rfl, rfl, hown, hbr, hck⟩ := hrel
          have HO := hide hown
          have HBR := hide hbr
          have HCK := hide hck
          clear hown hbr hck
          have hswr : W4.heap.size ≤ wr.heap.size := HBR.out.size
          have j0 : (0 : Int) ≤ (j : Int) := by omega
          have HHR := hide (HH4.out.below HBR.out HH4.out.lt)
          have HZR := hide (HZ4.out.below HBR.out HZ4.out.lt)
          have HRLR := hide (HRL.out.below HBR.out)
          have HBW := hide (HB4.out.trans (HBR.out.mono HB4.out.size))
          by_cases hlt : j < 14
          · have js : (j : Int) < 14 := by omega
            obtain ⟨d, hd⟩ : ∃ d, l[j]? = some d := ⟨_, List.getElem?_eq_getElem (by omega)⟩
            obtain ⟨nm, hn, hc⟩ := hdr_cell j hlt
            have kh : wr.cell? ⟨gh, j, none⟩ = some (.string (S nm)) := by rw [HHR.out.cell]; exact hc
            obtain ⟨c0, c1⟩ := HRLR.out.at_ j d hd
            have hdl : d.1.length ≤ 100000000 := HLZ.out d (List.mem_of_getElem? hd)
            have HNX : Hid (∀ W, Calls Tryd.prog 69 #[.agg #[.bool d.2, .string (S d.1)]] W fun e w' => e = .returned (.int .i64 (wcntZ d)) ∧ Below W.heap.size W w') := fun W => HNU.out d W hdl
            obtain ⟨x, hx⟩ : ∃ x, x = wcntZ d := ⟨_, rfl⟩
            rw [← hx] at HNX
            have HX := hide hx
            have HD := hide hd
            have HN := hide hn
            have HTK : Hid ((l.take (j + 1)).map wcntZ = (l.take j).map wcntZ ++ [x]) := by
              show _ = _
              rw [List.take_add_one, hd, hx]
              simp
            clear hd hx hn hc
            go_upto_region 11 with (go_at_call 69; refine (HNX.out _).mono ?_; rintro e w2 ⟨rfl, hb2⟩; have hbb : Below W4.heap.size wr w2 := hb2.mono hswr; have HO2 := hide (own_step HO.out hb2); have HB2 := hide (HBR.out.trans hbb); have HZ2 := hide (HZR.out.below hb2 HZR.out.lt); have HBW2 := hide (HBW.out.trans (hb2.mono HBW.out.size)); have k0 := (hb2.cell (p := ⟨gl, j * 2, none⟩) (by have := HRLR.out.lt; show gl < _; omega)).trans c0; have k1 := (hb2.cell (p := ⟨gl, j * 2 + 1, none⟩) (by have := HRLR.out.lt; show gl < _; omega)).trans c1; have k2 := (hb2.cell (p := ⟨gh, j, none⟩) HHR.out.lt).trans kh; clear hb2 hbb)
            clear c0 c1 kh HO HHR HZR HBW HRLR HBR
            have hsw2 : W4.heap.size ≤ w2.heap.size := HB2.out.size
            obtain ⟨dq, hdq⟩ : ∃ dq, dq = d.2 := ⟨_, rfl⟩
            obtain ⟨X, hX⟩ : ∃ X, X = S d.1 := ⟨_, rfl⟩
            obtain ⟨Y, hY⟩ : ∃ Y, Y = S nm := ⟨_, rfl⟩
            rw [← hdq] at k0
            rw [← hX] at k1
            rw [← hY] at k2
            have HQX : Hid (dq = d.2 ∧ X = S d.1 ∧ Y = S nm) := ⟨hdq, hX, hY⟩
            clear hdq hX hY
            have hw0 : IntKind.i64.wrap 0 = 0 := by decide
            have hw1 : IntKind.i64.wrap 1 = 1 := by decide
            by_cases hpar : j % 2 = 0
            · have t1 : Int.tmod (j : Int) 2 = 0 := by rw [Int.tmod_eq_emod_of_nonneg j0]; omega
              have t2 : ((j : Int) % 2) = 0 := by omega
              have t4 : ((0 : Int) == 1) = false := by decide
              cases dq with
              | true =>
                have HR : Hid (F = none) := by
                  show _ = _
                  rw [HFP.out]
                  refine cfgP_pair (chk_bad HLL.out hlt (fun hc => ?_))
                  obtain ⟨q1, q2, q3⟩ := HQX.out
                  have hcd := hc d nm HD.out HN.out
                  have := (hcd.1 hpar).1
                  rw [← q1] at this
                  cases this
                clear hpar
                have HS : Hid ((fun V : World => V.cell? ⟨gl, j * 2, none⟩ = some (.bool true) ∧ V.cell? ⟨gl, j * 2 + 1, none⟩ = some (.string X) ∧ V.cell? ⟨gh, j, none⟩ = some (.string Y)) w2.drew) := ⟨k0, k1, k2⟩
                refine wp_region_L [] (fun V : World => V.cell? ⟨gl, j * 2, none⟩ = some (.bool true) ∧ V.cell? ⟨gl, j * 2 + 1, none⟩ = some (.string X) ∧ V.cell? ⟨gh, j, none⟩ = some (.string Y)) (by kernel_rfl) ?_
                refine wpL_take 0 (oi := ⟨some 76, _, _, _, _, _⟩) (v := ?_) rfl (by kernel_rfl) (by kernel_rfl) (by kernel_rfl) (by kernel_rfl) (fun _ _ _ h => h) (Or.inl ⟨by rfl, ?_⟩) HS.out ?_
                rotate_left
                · intro V hV
                  obtain ⟨a0, a1, a2⟩ := hV
                  go_simp
                  try with_reducible rfl
                try simp only [Act.put, List.setIfInBounds_toArray, List.set_cons_zero, List.set_cons_succ]
                refine wpL_take 1 (oi := ⟨some 77, _, _, _, _, _⟩) (v := ?_) rfl (by kernel_rfl) (by kernel_rfl) (by kernel_rfl) (by kernel_rfl) (fun _ _ _ h => h) (Or.inl ⟨by rfl, ?_⟩) HS.out ?_
                rotate_left
                · intro V hV
                  obtain ⟨a0, a1, a2⟩ := hV
                  go_simp
                  try with_reducible rfl
                try simp only [Act.put, List.setIfInBounds_toArray, List.set_cons_zero, List.set_cons_succ]
                refine wpL_take 2 (oi := ⟨some 78, _, _, _, _, _⟩) (v := ?_) rfl (by kernel_rfl) (by kernel_rfl) (by kernel_rfl) (by kernel_rfl) (fun _ _ _ h => h) (Or.inl ⟨by rfl, ?_⟩) HS.out ?_
                rotate_left
                · intro V hV
                  obtain ⟨a0, a1, a2⟩ := hV
                  go_simp
                  try with_reducible rfl
                try simp only [Act.put, List.setIfInBounds_toArray, List.set_cons_zero, List.set_cons_succ]
                refine wpL_take 3 (oi := ⟨some 79, _, _, _, _, _⟩) (v := ?_) rfl (by kernel_rfl) (by kernel_rfl) (by kernel_rfl) (by kernel_rfl) (fun _ _ _ h => h) (Or.inl ⟨by rfl, ?_⟩) HS.out ?_
                rotate_left
                · intro V hV
                  obtain ⟨a0, a1, a2⟩ := hV
                  go_simp
                  try with_reducible rfl
                try simp only [Act.put, List.setIfInBounds_toArray, List.set_cons_zero, List.set_cons_succ]
                refine wpL_take 4 (oi := ⟨some 80, _, _, _, _, _⟩) (v := ?_) rfl (by kernel_rfl) (by kernel_rfl) (by kernel_rfl) (by kernel_rfl) (fun _ _ _ h => h) (Or.inl ⟨by rfl, ?_⟩) HS.out ?_
                rotate_left
                · intro V hV
                  obtain ⟨a0, a1, a2⟩ := hV
                  go_simp
                  try with_reducible rfl
                try simp only [Act.put, List.setIfInBounds_toArray, List.set_cons_zero, List.set_cons_succ]
                refine wpL_take 5 (oi := ⟨some 81, _, _, _, _, _⟩) (v := ?_) rfl (by kernel_rfl) (by kernel_rfl) (by kernel_rfl) (by kernel_rfl) (fun _ _ _ h => h) (Or.inl ⟨by rfl, ?_⟩) HS.out ?_
                rotate_left
                · intro V hV
                  obtain ⟨a0, a1, a2⟩ := hV
                  go_simp
                  try with_reducible rfl
                try simp only [Act.put, List.setIfInBounds_toArray, List.set_cons_zero, List.set_cons_succ]
                refine wpL_take 6 (oi := ⟨some 82, _, _, _, _, _⟩) (v := ?_) rfl (by kernel_rfl) (by kernel_rfl) (by kernel_rfl) (by kernel_rfl) (fun _ _ _ h => h) (Or.inl ⟨by rfl, ?_⟩) HS.out ?_
                rotate_left
                · intro V hV
                  obtain ⟨a0, a1, a2⟩ := hV
                  go_simp
                  try with_reducible rfl
                try simp only [Act.put, List.setIfInBounds_toArray, List.set_cons_zero, List.set_cons_succ]
                refine wpL_take 7 (oi := ⟨some 83, _, _, _, _, _⟩) (v := ?_) rfl (by kernel_rfl) (by kernel_rfl) (by kernel_rfl) (by kernel_rfl) (fun _ _ _ h => h) (Or.inl ⟨by rfl, ?_⟩) HS.out ?_
                rotate_left
                · intro V hV
                  obtain ⟨a0, a1, a2⟩ := hV
                  go_simp
                  try with_reducible rfl
                try simp only [Act.put, List.setIfInBounds_toArray, List.set_cons_zero, List.set_cons_succ]
                refine wpL_take 8 (oi := ⟨some 84, _, _, _, _, _⟩) (v := ?_) rfl (by kernel_rfl) (by kernel_rfl) (by kernel_rfl) (by kernel_rfl) (fun _ _ _ h => h) (Or.inl ⟨by rfl, ?_⟩) HS.out ?_
                rotate_left
                · intro V hV
                  obtain ⟨a0, a1, a2⟩ := hV
                  go_simp
                  try with_reducible rfl
                try simp only [Act.put, List.setIfInBounds_toArray, List.set_cons_zero, List.set_cons_succ]
                refine wpL_take 9 (oi := ⟨some 85, _, _, _, _, _⟩) (v := ?_) rfl (by kernel_rfl) (by kernel_rfl) (by kernel_rfl) (by kernel_rfl) (fun _ _ _ h => h) (Or.inl ⟨by rfl, ?_⟩) HS.out ?_
                rotate_left
                · intro V hV
                  obtain ⟨a0, a1, a2⟩ := hV
                  go_simp
                  try with_reducible rfl
                try simp only [Act.put, List.setIfInBounds_toArray, List.set_cons_zero, List.set_cons_succ]
                refine wpL_take 10 (oi := ⟨some 86, _, _, _, _, _⟩) (v := undef) rfl (by kernel_rfl) (by kernel_rfl) (by kernel_rfl) (by kernel_rfl) (fun _ _ _ h => h) (Or.inr ⟨by rfl, rfl⟩) HS.out ?_
                try simp only [Act.put, List.setIfInBounds_toArray, List.set_cons_zero, List.set_cons_succ]
                refine wpL_take 11 (oi := ⟨some 87, _, _, _, _, _⟩) (v := undef) rfl (by kernel_rfl) (by kernel_rfl) (by kernel_rfl) (by kernel_rfl) (fun _ _ _ h => h) (Or.inr ⟨by rfl, rfl⟩) HS.out ?_
                try simp only [Act.put, List.setIfInBounds_toArray, List.set_cons_zero, List.set_cons_succ]
                refine wpL_take 12 (oi := ⟨some 88, _, _, _, _, _⟩) (v := undef) rfl (by kernel_rfl) (by kernel_rfl) (by kernel_rfl) (by kernel_rfl) (fun _ _ _ h => h) (Or.inr ⟨by rfl, rfl⟩) HS.out ?_
                try simp only [Act.put, List.setIfInBounds_toArray, List.set_cons_zero, List.set_cons_succ]
                refine wpL_take 13 (oi := ⟨some 89, _, _, _, _, _⟩) (v := undef) rfl (by kernel_rfl) (by kernel_rfl) (by kernel_rfl) (by kernel_rfl) (fun _ _ _ h => h) (Or.inr ⟨by rfl, rfl⟩) HS.out ?_
                try simp only [Act.put, List.setIfInBounds_toArray, List.set_cons_zero, List.set_cons_succ]
                refine wpL_take 14 (oi := ⟨some 90, _, _, _, _, _⟩) (v := undef) rfl (by kernel_rfl) (by kernel_rfl) (by kernel_rfl) (by kernel_rfl) (fun _ _ _ h => h) (Or.inr ⟨by rfl, rfl⟩) HS.out ?_
                try simp only [Act.put, List.setIfInBounds_toArray, List.set_cons_zero, List.set_cons_succ]
                refine wpL_take 15 (oi := ⟨some 91, _, _, _, _, _⟩) (v := undef) rfl (by kernel_rfl) (by kernel_rfl) (by kernel_rfl) (by kernel_rfl) (fun _ _ _ h => h) (Or.inr ⟨by rfl, rfl⟩) HS.out ?_
                try simp only [Act.put, List.setIfInBounds_toArray, List.set_cons_zero, List.set_cons_succ]
                refine wpL_take 16 (oi := ⟨some 92, _, _, _, _, _⟩) (v := undef) rfl (by kernel_rfl) (by kernel_rfl) (by kernel_rfl) (by kernel_rfl) (fun _ _ _ h => h) (Or.inr ⟨by rfl, rfl⟩) HS.out ?_
                try simp only [Act.put, List.setIfInBounds_toArray, List.set_cons_zero, List.set_cons_succ]
                refine wpL_take 17 (oi := ⟨some 93, _, _, _, _, _⟩) (v := undef) rfl (by kernel_rfl) (by kernel_rfl) (by kernel_rfl) (by kernel_rfl) (fun _ _ _ h => h) (Or.inr ⟨by rfl, rfl⟩) HS.out ?_
                try simp only [Act.put, List.setIfInBounds_toArray, List.set_cons_zero, List.set_cons_succ]
                refine wpL_take 18 (oi := ⟨some 94, _, _, _, _, _⟩) (v := undef) rfl (by kernel_rfl) (by kernel_rfl) (by kernel_rfl) (by kernel_rfl) (fun _ _ _ h => h) (Or.inr ⟨by rfl, rfl⟩) HS.out ?_
                try simp only [Act.put, List.setIfInBounds_toArray, List.set_cons_zero, List.set_cons_succ]
                refine wpL_take 19 (oi := ⟨some 95, _, _, _, _, _⟩) (v := undef) rfl (by kernel_rfl) (by kernel_rfl) (by kernel_rfl) (by kernel_rfl) (fun _ _ _ h => h) (Or.inr ⟨by rfl, rfl⟩) HS.out ?_
                try simp only [Act.put, List.setIfInBounds_toArray, List.set_cons_zero, List.set_cons_succ]
                refine wpL_take 20 (oi := ⟨some 96, _, _, _, _, _⟩) (v := ?_) rfl (by kernel_rfl) (by kernel_rfl) (by kernel_rfl) (by kernel_rfl) (fun _ _ _ h => h) (Or.inl ⟨by rfl, ?_⟩) HS.out ?_
                rotate_left
                · intro V hV
                  obtain ⟨a0, a1, a2⟩ := hV
                  go_simp
                  try with_reducible rfl
                try simp only [Act.put, List.setIfInBounds_toArray, List.set_cons_zero, List.set_cons_succ]
                refine wpL_take 21 (oi := ⟨some 97, _, _, _, _, _⟩) (v := ?_) rfl (by kernel_rfl) (by kernel_rfl) (by kernel_rfl) (by kernel_rfl) (fun _ _ _ h => h) (Or.inl ⟨by rfl, ?_⟩) HS.out ?_
                rotate_left
                · intro V hV
                  obtain ⟨a0, a1, a2⟩ := hV
                  go_simp
                  try with_reducible rfl
                try simp only [Act.put, List.setIfInBounds_toArray, List.set_cons_zero, List.set_cons_succ]
                refine wpL_take 22 (oi := ⟨some 98, _, _, _, _, _⟩) (v := ?_) rfl (by kernel_rfl) (by kernel_rfl) (by kernel_rfl) (by kernel_rfl) (fun _ _ _ h => h) (Or.inl ⟨by rfl, ?_⟩) HS.out ?_
                rotate_left
                · intro V hV
                  obtain ⟨a0, a1, a2⟩ := hV
                  go_simp
                  try with_reducible rfl
                try simp only [Act.put, List.setIfInBounds_toArray, List.set_cons_zero, List.set_cons_succ]
                refine wpL_take 23 (oi := ⟨some 99, _, _, _, _, _⟩) (v := undef) rfl (by kernel_rfl) (by kernel_rfl) (by kernel_rfl) (by kernel_rfl) (fun _ _ _ h => h) (Or.inr ⟨by rfl, rfl⟩) HS.out ?_
                try simp only [Act.put, List.setIfInBounds_toArray, List.set_cons_zero, List.set_cons_succ]
                refine wpL_take 24 (oi := ⟨some 100, _, _, _, _, _⟩) (v := undef) rfl (by kernel_rfl) (by kernel_rfl) (by kernel_rfl) (by kernel_rfl) (fun _ _ _ h => h) (Or.inr ⟨by rfl, rfl⟩) HS.out ?_
                try simp only [Act.put, List.setIfInBounds_toArray, List.set_cons_zero, List.set_cons_succ]
                refine wpL_take 25 (oi := ⟨some 101, _, _, _, _, _⟩) (v := undef) rfl (by kernel_rfl) (by kernel_rfl) (by kernel_rfl) (by kernel_rfl) (fun _ _ _ h => h) (Or.inr ⟨by rfl, rfl⟩) HS.out ?_
                try simp only [Act.put, List.setIfInBounds_toArray, List.set_cons_zero, List.set_cons_succ]
                refine wpL_take 26 (oi := ⟨some 102, _, _, _, _, _⟩) (v := undef) rfl (by kernel_rfl) (by kernel_rfl) (by kernel_rfl) (by kernel_rfl) (fun _ _ _ h => h) (Or.inr ⟨by rfl, rfl⟩) HS.out ?_
                try simp only [Act.put, List.setIfInBounds_toArray, List.set_cons_zero, List.set_cons_succ]
                refine wpL_take 27 (oi := ⟨some 103, _, _, _, _, _⟩) (v := undef) rfl (by kernel_rfl) (by kernel_rfl) (by kernel_rfl) (by kernel_rfl) (fun _ _ _ h => h) (Or.inr ⟨by rfl, rfl⟩) HS.out ?_
                try simp only [Act.put, List.setIfInBounds_toArray, List.set_cons_zero, List.set_cons_succ]
                refine wpL_take 28 (oi := ⟨some 104, _, _, _, _, _⟩) (v := undef) rfl (by kernel_rfl) (by kernel_rfl) (by kernel_rfl) (by kernel_rfl) (fun _ _ _ h => h) (Or.inr ⟨by rfl, rfl⟩) HS.out ?_
                try simp only [Act.put, List.setIfInBounds_toArray, List.set_cons_zero, List.set_cons_succ]
                refine wpL_take 29 (oi := ⟨some 105, _, _, _, _, _⟩) (v := undef) rfl (by kernel_rfl) (by kernel_rfl) (by kernel_rfl) (by kernel_rfl) (fun _ _ _ h => h) (Or.inr ⟨by rfl, rfl⟩) HS.out ?_
                try simp only [Act.put, List.setIfInBounds_toArray, List.set_cons_zero, List.set_cons_succ]
                refine wpL_take 30 (oi := ⟨some 106, _, _, _, _, _⟩) (v := ?_) rfl (by kernel_rfl) (by kernel_rfl) (by kernel_rfl) (by kernel_rfl) (fun _ _ _ h => h) (Or.inl ⟨by rfl, ?_⟩) HS.out ?_
                rotate_left
                · intro V hV
                  obtain ⟨a0, a1, a2⟩ := hV
                  go_simp
                  try with_reducible rfl
                try simp only [Act.put, List.setIfInBounds_toArray, List.set_cons_zero, List.set_cons_succ]
                refine wpL_done (by kernel_rfl) ?_ _
                have HZ3 := hide HZ2.out.drew
                have HBW3 := hide HBW2.out.drew
                go_wp2_with (refine wpList_put_at rfl 44 (.tmp 4) (.tmp 107) rfl (w.heap.size) 0 (cfC Cfg.zero none 0) rfl rfl 44 Z HZ3.out (ld44 _ rfl) (by rw [cf_size, hZs]; omega) (cf_all _ _ _) _ (cput Z _ hZs rfl) ?_)
                refine bodyPost_ret (results_44b rfl _ rfl (HZ3.out.row _) rfl rfl) rfl ?_
                exact cnf_no _ (Nat.le_refl _) HZ3.out HBW3.out HR.out
              | false =>
                by_cases hxy : X.toList = Y.toList
                · have HCJ : Hid (Chk l j) := by
                    intro d' n' h1 h2
                    obtain rfl := Option.some.inj (HD.out.symm.trans h1)
                    obtain rfl := Option.some.inj (HN.out.symm.trans h2)
                    obtain ⟨q1, q2, q3⟩ := HQX.out
                    rw [q2, q3, ByteArray.toList_eq, ByteArray.toList_eq, S_data, S_data] at hxy
                    exact ⟨fun _ => ⟨q1.symm, hxy⟩, fun h => by omega⟩
                  have x1 : (X.toList == Y.toList) = true := by rw [beq_iff_eq]; exact hxy
                  clear hpar hxy
                  have HS : Hid ((fun V : World => V.cell? ⟨gl, j * 2, none⟩ = some (.bool false) ∧ V.cell? ⟨gl, j * 2 + 1, none⟩ = some (.string X) ∧ V.cell? ⟨gh, j, none⟩ = some (.string Y)) w2.drew) := ⟨k0, k1, k2⟩
                  refine wp_region_L [] (fun V : World => V.cell? ⟨gl, j * 2, none⟩ = some (.bool false) ∧ V.cell? ⟨gl, j * 2 + 1, none⟩ = some (.string X) ∧ V.cell? ⟨gh, j, none⟩ = some (.string Y)) (by kernel_rfl) ?_
                  refine wpL_take 0 (oi := ⟨some 76, _, _, _, _, _⟩) (v := ?_) rfl (by kernel_rfl) (by kernel_rfl) (by kernel_rfl) (by kernel_rfl) (fun _ _ _ h => h) (Or.inl ⟨by rfl, ?_⟩) HS.out ?_
                  rotate_left
                  · intro V hV
                    obtain ⟨a0, a1, a2⟩ := hV
                    go_simp
                    try with_reducible rfl
                  try simp only [Act.put, List.setIfInBounds_toArray, List.set_cons_zero, List.set_cons_succ]
                  refine wpL_take 1 (oi := ⟨some 77, _, _, _, _, _⟩) (v := ?_) rfl (by kernel_rfl) (by kernel_rfl) (by kernel_rfl) (by kernel_rfl) (fun _ _ _ h => h) (Or.inl ⟨by rfl, ?_⟩) HS.out ?_
                  rotate_left
                  · intro V hV
                    obtain ⟨a0, a1, a2⟩ := hV
                    go_simp
                    try with_reducible rfl
                  try simp only [Act.put, List.setIfInBounds_toArray, List.set_cons_zero, List.set_cons_succ]
                  refine wpL_take 2 (oi := ⟨some 78, _, _, _, _, _⟩) (v := ?_) rfl (by kernel_rfl) (by kernel_rfl) (by kernel_rfl) (by kernel_rfl) (fun _ _ _ h => h) (Or.inl ⟨by rfl, ?_⟩) HS.out ?_
                  rotate_left
                  · intro V hV
                    obtain ⟨a0, a1, a2⟩ := hV
                    go_simp
                    try with_reducible rfl
                  try simp only [Act.put, List.setIfInBounds_toArray, List.set_cons_zero, List.set_cons_succ]
                  refine wpL_take 3 (oi := ⟨some 79, _, _, _, _, _⟩) (v := ?_) rfl (by kernel_rfl) (by kernel_rfl) (by kernel_rfl) (by kernel_rfl) (fun _ _ _ h => h) (Or.inl ⟨by rfl, ?_⟩) HS.out ?_
                  rotate_left
                  · intro V hV
                    obtain ⟨a0, a1, a2⟩ := hV
                    go_simp
                    try with_reducible rfl
                  try simp only [Act.put, List.setIfInBounds_toArray, List.set_cons_zero, List.set_cons_succ]
                  refine wpL_take 4 (oi := ⟨some 80, _, _, _, _, _⟩) (v := ?_) rfl (by kernel_rfl) (by kernel_rfl) (by kernel_rfl) (by kernel_rfl) (fun _ _ _ h => h) (Or.inl ⟨by rfl, ?_⟩) HS.out ?_
                  rotate_left
                  · intro V hV
                    obtain ⟨a0, a1, a2⟩ := hV
                    go_simp
                    try with_reducible rfl
                  try simp only [Act.put, List.setIfInBounds_toArray, List.set_cons_zero, List.set_cons_succ]
                  refine wpL_take 5 (oi := ⟨some 81, _, _, _, _, _⟩) (v := ?_) rfl (by kernel_rfl) (by kernel_rfl) (by kernel_rfl) (by kernel_rfl) (fun _ _ _ h => h) (Or.inl ⟨by rfl, ?_⟩) HS.out ?_
                  rotate_left
                  · intro V hV
                    obtain ⟨a0, a1, a2⟩ := hV
                    go_simp
                    try with_reducible rfl
                  try simp only [Act.put, List.setIfInBounds_toArray, List.set_cons_zero, List.set_cons_succ]
                  refine wpL_take 6 (oi := ⟨some 82, _, _, _, _, _⟩) (v := ?_) rfl (by kernel_rfl) (by kernel_rfl) (by kernel_rfl) (by kernel_rfl) (fun _ _ _ h => h) (Or.inl ⟨by rfl, ?_⟩) HS.out ?_
                  rotate_left
                  · intro V hV
                    obtain ⟨a0, a1, a2⟩ := hV
                    go_simp
                    try with_reducible rfl
                  try simp only [Act.put, List.setIfInBounds_toArray, List.set_cons_zero, List.set_cons_succ]
                  refine wpL_take 7 (oi := ⟨some 83, _, _, _, _, _⟩) (v := ?_) rfl (by kernel_rfl) (by kernel_rfl) (by kernel_rfl) (by kernel_rfl) (fun _ _ _ h => h) (Or.inl ⟨by rfl, ?_⟩) HS.out ?_
                  rotate_left
                  · intro V hV
                    obtain ⟨a0, a1, a2⟩ := hV
                    go_simp
                    try with_reducible rfl
                  try simp only [Act.put, List.setIfInBounds_toArray, List.set_cons_zero, List.set_cons_succ]
                  refine wpL_take 8 (oi := ⟨some 84, _, _, _, _, _⟩) (v := ?_) rfl (by kernel_rfl) (by kernel_rfl) (by kernel_rfl) (by kernel_rfl) (fun _ _ _ h => h) (Or.inl ⟨by rfl, ?_⟩) HS.out ?_
                  rotate_left
                  · intro V hV
                    obtain ⟨a0, a1, a2⟩ := hV
                    go_simp
                    try with_reducible rfl
                  try simp only [Act.put, List.setIfInBounds_toArray, List.set_cons_zero, List.set_cons_succ]
                  refine wpL_take 9 (oi := ⟨some 85, _, _, _, _, _⟩) (v := ?_) rfl (by kernel_rfl) (by kernel_rfl) (by kernel_rfl) (by kernel_rfl) (fun _ _ _ h => h) (Or.inl ⟨by rfl, ?_⟩) HS.out ?_
                  rotate_left
                  · intro V hV
                    obtain ⟨a0, a1, a2⟩ := hV
                    go_simp
                    try with_reducible rfl
                  try simp only [Act.put, List.setIfInBounds_toArray, List.set_cons_zero, List.set_cons_succ]
                  refine wpL_take 10 (oi := ⟨some 86, _, _, _, _, _⟩) (v := ?_) rfl (by kernel_rfl) (by kernel_rfl) (by kernel_rfl) (by kernel_rfl) (fun _ _ _ h => h) (Or.inl ⟨by rfl, ?_⟩) HS.out ?_
                  rotate_left
                  · intro V hV
                    obtain ⟨a0, a1, a2⟩ := hV
                    go_simp
                    try with_reducible rfl
                  try simp only [Act.put, List.setIfInBounds_toArray, List.set_cons_zero, List.set_cons_succ]
                  refine wpL_take 11 (oi := ⟨some 87, _, _, _, _, _⟩) (v := ?_) rfl (by kernel_rfl) (by kernel_rfl) (by kernel_rfl) (by kernel_rfl) (fun _ _ _ h => h) (Or.inl ⟨by rfl, ?_⟩) HS.out ?_
                  rotate_left
                  · intro V hV
                    obtain ⟨a0, a1, a2⟩ := hV
                    go_simp
                    try with_reducible rfl
                  try simp only [Act.put, List.setIfInBounds_toArray, List.set_cons_zero, List.set_cons_succ]
                  refine wpL_take 12 (oi := ⟨some 88, _, _, _, _, _⟩) (v := ?_) rfl (by kernel_rfl) (by kernel_rfl) (by kernel_rfl) (by kernel_rfl) (fun _ _ _ h => h) (Or.inl ⟨by rfl, ?_⟩) HS.out ?_
                  rotate_left
                  · intro V hV
                    obtain ⟨a0, a1, a2⟩ := hV
                    go_simp
                    try with_reducible rfl
                  try simp only [Act.put, List.setIfInBounds_toArray, List.set_cons_zero, List.set_cons_succ]
                  refine wpL_take 13 (oi := ⟨some 89, _, _, _, _, _⟩) (v := ?_) rfl (by kernel_rfl) (by kernel_rfl) (by kernel_rfl) (by kernel_rfl) (fun _ _ _ h => h) (Or.inl ⟨by rfl, ?_⟩) HS.out ?_
                  rotate_left
                  · intro V hV
                    obtain ⟨a0, a1, a2⟩ := hV
                    go_simp
                    try with_reducible rfl
                  try simp only [Act.put, List.setIfInBounds_toArray, List.set_cons_zero, List.set_cons_succ]
                  refine wpL_take 14 (oi := ⟨some 90, _, _, _, _, _⟩) (v := ?_) rfl (by kernel_rfl) (by kernel_rfl) (by kernel_rfl) (by kernel_rfl) (fun _ _ _ h => h) (Or.inl ⟨by rfl, ?_⟩) HS.out ?_
                  rotate_left
                  · intro V hV
                    obtain ⟨a0, a1, a2⟩ := hV
                    go_simp
                    try with_reducible rfl
                  try simp only [Act.put, List.setIfInBounds_toArray, List.set_cons_zero, List.set_cons_succ]
                  refine wpL_take 15 (oi := ⟨some 91, _, _, _, _, _⟩) (v := ?_) rfl (by kernel_rfl) (by kernel_rfl) (by kernel_rfl) (by kernel_rfl) (fun _ _ _ h => h) (Or.inl ⟨by rfl, ?_⟩) HS.out ?_
                  rotate_left
                  · intro V hV
                    obtain ⟨a0, a1, a2⟩ := hV
                    go_simp
                    try with_reducible rfl
                  try simp only [Act.put, List.setIfInBounds_toArray, List.set_cons_zero, List.set_cons_succ]
                  refine wpL_take 16 (oi := ⟨some 92, _, _, _, _, _⟩) (v := ?_) rfl (by kernel_rfl) (by kernel_rfl) (by kernel_rfl) (by kernel_rfl) (fun _ _ _ h => h) (Or.inl ⟨by rfl, ?_⟩) HS.out ?_
                  rotate_left
                  · intro V hV
                    obtain ⟨a0, a1, a2⟩ := hV
                    go_simp
                    try with_reducible rfl
                  try simp only [Act.put, List.setIfInBounds_toArray, List.set_cons_zero, List.set_cons_succ]
                  refine wpL_take 17 (oi := ⟨some 93, _, _, _, _, _⟩) (v := ?_) rfl (by kernel_rfl) (by kernel_rfl) (by kernel_rfl) (by kernel_rfl) (fun _ _ _ h => h) (Or.inl ⟨by rfl, ?_⟩) HS.out ?_
                  rotate_left
                  · intro V hV
                    obtain ⟨a0, a1, a2⟩ := hV
                    go_simp
                    try with_reducible rfl
                  try simp only [Act.put, List.setIfInBounds_toArray, List.set_cons_zero, List.set_cons_succ]
                  refine wpL_take 18 (oi := ⟨some 94, _, _, _, _, _⟩) (v := ?_) rfl (by kernel_rfl) (by kernel_rfl) (by kernel_rfl) (by kernel_rfl) (fun _ _ _ h => h) (Or.inl ⟨by rfl, ?_⟩) HS.out ?_
                  rotate_left
                  · intro V hV
                    obtain ⟨a0, a1, a2⟩ := hV
                    go_simp
                    try with_reducible rfl
                  try simp only [Act.put, List.setIfInBounds_toArray, List.set_cons_zero, List.set_cons_succ]
                  refine wpL_take 19 (oi := ⟨some 95, _, _, _, _, _⟩) (v := ?_) rfl (by kernel_rfl) (by kernel_rfl) (by kernel_rfl) (by kernel_rfl) (fun _ _ _ h => h) (Or.inl ⟨by rfl, ?_⟩) HS.out ?_
                  rotate_left
                  · intro V hV
                    obtain ⟨a0, a1, a2⟩ := hV
                    go_simp
                    try with_reducible rfl
                  try simp only [Act.put, List.setIfInBounds_toArray, List.set_cons_zero, List.set_cons_succ]
                  refine wpL_take 20 (oi := ⟨some 96, _, _, _, _, _⟩) (v := ?_) rfl (by kernel_rfl) (by kernel_rfl) (by kernel_rfl) (by kernel_rfl) (fun _ _ _ h => h) (Or.inl ⟨by rfl, ?_⟩) HS.out ?_
                  rotate_left
                  · intro V hV
                    obtain ⟨a0, a1, a2⟩ := hV
                    go_simp
                    try with_reducible rfl
                  try simp only [Act.put, List.setIfInBounds_toArray, List.set_cons_zero, List.set_cons_succ]
                  refine wpL_take 21 (oi := ⟨some 97, _, _, _, _, _⟩) (v := ?_) rfl (by kernel_rfl) (by kernel_rfl) (by kernel_rfl) (by kernel_rfl) (fun _ _ _ h => h) (Or.inl ⟨by rfl, ?_⟩) HS.out ?_
                  rotate_left
                  · intro V hV
                    obtain ⟨a0, a1, a2⟩ := hV
                    go_simp
                    try with_reducible rfl
                  try simp only [Act.put, List.setIfInBounds_toArray, List.set_cons_zero, List.set_cons_succ]
                  refine wpL_take 22 (oi := ⟨some 98, _, _, _, _, _⟩) (v := ?_) rfl (by kernel_rfl) (by kernel_rfl) (by kernel_rfl) (by kernel_rfl) (fun _ _ _ h => h) (Or.inl ⟨by rfl, ?_⟩) HS.out ?_
                  rotate_left
                  · intro V hV
                    obtain ⟨a0, a1, a2⟩ := hV
                    go_simp
                    try with_reducible rfl
                  try simp only [Act.put, List.setIfInBounds_toArray, List.set_cons_zero, List.set_cons_succ]
                  refine wpL_take 23 (oi := ⟨some 99, _, _, _, _, _⟩) (v := ?_) rfl (by kernel_rfl) (by kernel_rfl) (by kernel_rfl) (by kernel_rfl) (fun _ _ _ h => h) (Or.inl ⟨by rfl, ?_⟩) HS.out ?_
                  rotate_left
                  · intro V hV
                    obtain ⟨a0, a1, a2⟩ := hV
                    go_simp
                    try with_reducible rfl
                  try simp only [Act.put, List.setIfInBounds_toArray, List.set_cons_zero, List.set_cons_succ]
                  refine wpL_take 24 (oi := ⟨some 100, _, _, _, _, _⟩) (v := ?_) rfl (by kernel_rfl) (by kernel_rfl) (by kernel_rfl) (by kernel_rfl) (fun _ _ _ h => h) (Or.inl ⟨by rfl, ?_⟩) HS.out ?_
                  rotate_left
                  · intro V hV
                    obtain ⟨a0, a1, a2⟩ := hV
                    go_simp
                    try with_reducible rfl
                  try simp only [Act.put, List.setIfInBounds_toArray, List.set_cons_zero, List.set_cons_succ]
                  refine wpL_take 25 (oi := ⟨some 101, _, _, _, _, _⟩) (v := ?_) rfl (by kernel_rfl) (by kernel_rfl) (by kernel_rfl) (by kernel_rfl) (fun _ _ _ h => h) (Or.inl ⟨by rfl, ?_⟩) HS.out ?_
                  rotate_left
                  · intro V hV
                    obtain ⟨a0, a1, a2⟩ := hV
                    go_simp
                    try with_reducible rfl
                  try simp only [Act.put, List.setIfInBounds_toArray, List.set_cons_zero, List.set_cons_succ]
                  refine wpL_take 26 (oi := ⟨some 102, _, _, _, _, _⟩) (v := ?_) rfl (by kernel_rfl) (by kernel_rfl) (by kernel_rfl) (by kernel_rfl) (fun _ _ _ h => h) (Or.inl ⟨by rfl, ?_⟩) HS.out ?_
                  rotate_left
                  · intro V hV
                    obtain ⟨a0, a1, a2⟩ := hV
                    go_simp
                    try with_reducible rfl
                  try simp only [Act.put, List.setIfInBounds_toArray, List.set_cons_zero, List.set_cons_succ]
                  refine wpL_take 27 (oi := ⟨some 103, _, _, _, _, _⟩) (v := undef) rfl (by kernel_rfl) (by kernel_rfl) (by kernel_rfl) (by kernel_rfl) (fun _ _ _ h => h) (Or.inr ⟨by rfl, rfl⟩) HS.out ?_
                  try simp only [Act.put, List.setIfInBounds_toArray, List.set_cons_zero, List.set_cons_succ]
                  refine wpL_take 28 (oi := ⟨some 104, _, _, _, _, _⟩) (v := undef) rfl (by kernel_rfl) (by kernel_rfl) (by kernel_rfl) (by kernel_rfl) (fun _ _ _ h => h) (Or.inr ⟨by rfl, rfl⟩) HS.out ?_
                  try simp only [Act.put, List.setIfInBounds_toArray, List.set_cons_zero, List.set_cons_succ]
                  refine wpL_take 29 (oi := ⟨some 105, _, _, _, _, _⟩) (v := ?_) rfl (by kernel_rfl) (by kernel_rfl) (by kernel_rfl) (by kernel_rfl) (fun _ _ _ h => h) (Or.inl ⟨by rfl, ?_⟩) HS.out ?_
                  rotate_left
                  · intro V hV
                    obtain ⟨a0, a1, a2⟩ := hV
                    go_simp
                    try with_reducible rfl
                  try simp only [Act.put, List.setIfInBounds_toArray, List.set_cons_zero, List.set_cons_succ]
                  refine wpL_take 30 (oi := ⟨some 106, _, _, _, _, _⟩) (v := ?_) rfl (by kernel_rfl) (by kernel_rfl) (by kernel_rfl) (by kernel_rfl) (fun _ _ _ h => h) (Or.inl ⟨by rfl, ?_⟩) HS.out ?_
                  rotate_left
                  · intro V hV
                    obtain ⟨a0, a1, a2⟩ := hV
                    go_simp
                    try with_reducible rfl
                  try simp only [Act.put, List.setIfInBounds_toArray, List.set_cons_zero, List.set_cons_succ]
                  refine wpL_done (by kernel_rfl) ?_ _
                  obtain ⟨wd, hwd⟩ : ∃ wd, wd = w2.drew := ⟨_, rfl⟩
                  rw [← hwd]
                  have HO3 : Hid (wd.ownsRow W4.heap.size 3 1 (.slice An j cn) j (ints ((l.take j).map wcntZ))) := by show World.ownsRow _ _ _ _ _ _ _; rw [hwd]; exact HO2.out
                  have HB3 : Hid (Below W4.heap.size W4 wd) := by show Below _ _ _; rw [hwd]; exact HB2.out.drew
                  have hsw3 : W4.heap.size ≤ wd.heap.size := HB3.out.size
                  clear hwd HS
                  have HL8 : Hid (∀ g8 c8 w8, w8.ownsRow W4.heap.size 3 1 (.slice (some ⟨g8, 0, none⟩) (j + 1) c8) (j + 1) (ints ((l.take j).map wcntZ) ++ [.int .i64 x]) → Below W4.heap.size wd w8 → HdJ W4 l (.slice (some ⟨g8, 0, none⟩) (j + 1) c8) (.int .i64 ((j : Int) + 1)) w8) := by
                    intro g8 c8 w8 hown8 hb8
                    refine ⟨j + 1, _, c8, by omega, by go_num, rfl, ?_, HB3.out.trans hb8, ?_⟩
                    · rw [HTK.out]
                      have e : ints ((l.take j).map wcntZ ++ [x]) = ints ((l.take j).map wcntZ) ++ [.int .i64 x] := by simp [ints]
                      rw [e]
                      exact hown8
                    · intro q hq
                      by_cases hqj : q = j
                      · subst hqj
                        exact HCJ.out
                      · exact HCK.out q (by omega)
                  go_wp2_with (at_builtin; refine wpList_push (W := wd) (cs := #[.int .i64 x]) rfl (.tmp 108) (.tmp 110) _ rfl W4.heap.size 3 i3 _ 1 8 Tryd.underlying27 I3.out hz3 hs3 hb3 rfl (by omega) (.slice An j cn) j _ rfl HO3.out 1 1 rfl rfl (by simp [Value.oneCell']) (by omega) (by unfold maxLen; omega) (by omega) hsw3 ?_; intro g8 c8 w8 hown8 hgr8 hb8 _ _ _; have HL9 := hide (HL8.out g8 c8 w8 hown8 hb8); clear hown8 hb8 hgr8)
                  go_roundw
                  case rel => first | exact HL9.out | exact ⟨_, HL9.out, rfl⟩
                  case measure => simp [intOf]; omega
                · 
                  have HR : Hid (F = none) := by
                    show _ = _
                    rw [HFP.out]
                    refine cfgP_pair (chk_bad HLL.out hlt (fun hc => ?_))
                    obtain ⟨q1, q2, q3⟩ := HQX.out
                    have hcd := hc d nm HD.out HN.out
                    have := (hcd.1 hpar).2
                    rw [q2, q3, ByteArray.toList_eq, ByteArray.toList_eq, S_data, S_data] at hxy
                    exact hxy this
                  have x1 : (X.toList == Y.toList) = false := by rw [beq_eq_false_iff_ne]; exact hxy
                  clear hpar hxy
                  have HS : Hid ((fun V : World => V.cell? ⟨gl, j * 2, none⟩ = some (.bool false) ∧ V.cell? ⟨gl, j * 2 + 1, none⟩ = some (.string X) ∧ V.cell? ⟨gh, j, none⟩ = some (.string Y)) w2.drew) := ⟨k0, k1, k2⟩
                  refine wp_region_L [] (fun V : World => V.cell? ⟨gl, j * 2, none⟩ = some (.bool false) ∧ V.cell? ⟨gl, j * 2 + 1, none⟩ = some (.string X) ∧ V.cell? ⟨gh, j, none⟩ = some (.string Y)) (by kernel_rfl) ?_
                  refine wpL_take 0 (oi := ⟨some 76, _, _, _, _, _⟩) (v := ?_) rfl (by kernel_rfl) (by kernel_rfl) (by kernel_rfl) (by kernel_rfl) (fun _ _ _ h => h) (Or.inl ⟨by rfl, ?_⟩) HS.out ?_
                  rotate_left
                  · intro V hV
                    obtain ⟨a0, a1, a2⟩ := hV
                    go_simp
                    try with_reducible rfl
                  try simp only [Act.put, List.setIfInBounds_toArray, List.set_cons_zero, List.set_cons_succ]
                  refine wpL_take 1 (oi := ⟨some 77, _, _, _, _, _⟩) (v := ?_) rfl (by kernel_rfl) (by kernel_rfl) (by kernel_rfl) (by kernel_rfl) (fun _ _ _ h => h) (Or.inl ⟨by rfl, ?_⟩) HS.out ?_
                  rotate_left
                  · intro V hV
                    obtain ⟨a0, a1, a2⟩ := hV
                    go_simp
                    try with_reducible rfl
                  try simp only [Act.put, List.setIfInBounds_toArray, List.set_cons_zero, List.set_cons_succ]
                  refine wpL_take 2 (oi := ⟨some 78, _, _, _, _, _⟩) (v := ?_) rfl (by kernel_rfl) (by kernel_rfl) (by kernel_rfl) (by kernel_rfl) (fun _ _ _ h => h) (Or.inl ⟨by rfl, ?_⟩) HS.out ?_
                  rotate_left
                  · intro V hV
                    obtain ⟨a0, a1, a2⟩ := hV
                    go_simp
                    try with_reducible rfl
                  try simp only [Act.put, List.setIfInBounds_toArray, List.set_cons_zero, List.set_cons_succ]
                  refine wpL_take 3 (oi := ⟨some 79, _, _, _, _, _⟩) (v := ?_) rfl (by kernel_rfl) (by kernel_rfl) (by kernel_rfl) (by kernel_rfl) (fun _ _ _ h => h) (Or.inl ⟨by rfl, ?_⟩) HS.out ?_
                  rotate_left
                  · intro V hV
                    obtain ⟨a0, a1, a2⟩ := hV
                    go_simp
                    try with_reducible rfl
                  try simp only [Act.put, List.setIfInBounds_toArray, List.set_cons_zero, List.set_cons_succ]
                  refine wpL_take 4 (oi := ⟨some 80, _, _, _, _, _⟩) (v := ?_) rfl (by kernel_rfl) (by kernel_rfl) (by kernel_rfl) (by kernel_rfl) (fun _ _ _ h => h) (Or.inl ⟨by rfl, ?_⟩) HS.out ?_
                  rotate_left
                  · intro V hV
                    obtain ⟨a0, a1, a2⟩ := hV
                    go_simp
                    try with_reducible rfl
                  try simp only [Act.put, List.setIfInBounds_toArray, List.set_cons_zero, List.set_cons_succ]
                  refine wpL_take 5 (oi := ⟨some 81, _, _, _, _, _⟩) (v := ?_) rfl (by kernel_rfl) (by kernel_rfl) (by kernel_rfl) (by kernel_rfl) (fun _ _ _ h => h) (Or.inl ⟨by rfl, ?_⟩) HS.out ?_
                  rotate_left
                  · intro V hV
                    obtain ⟨a0, a1, a2⟩ := hV
                    go_simp
                    try with_reducible rfl
                  try simp only [Act.put, List.setIfInBounds_toArray, List.set_cons_zero, List.set_cons_succ]
                  refine wpL_take 6 (oi := ⟨some 82, _, _, _, _, _⟩) (v := ?_) rfl (by kernel_rfl) (by kernel_rfl) (by kernel_rfl) (by kernel_rfl) (fun _ _ _ h => h) (Or.inl ⟨by rfl, ?_⟩) HS.out ?_
                  rotate_left
                  · intro V hV
                    obtain ⟨a0, a1, a2⟩ := hV
                    go_simp
                    try with_reducible rfl
                  try simp only [Act.put, List.setIfInBounds_toArray, List.set_cons_zero, List.set_cons_succ]
                  refine wpL_take 7 (oi := ⟨some 83, _, _, _, _, _⟩) (v := ?_) rfl (by kernel_rfl) (by kernel_rfl) (by kernel_rfl) (by kernel_rfl) (fun _ _ _ h => h) (Or.inl ⟨by rfl, ?_⟩) HS.out ?_
                  rotate_left
                  · intro V hV
                    obtain ⟨a0, a1, a2⟩ := hV
                    go_simp
                    try with_reducible rfl
                  try simp only [Act.put, List.setIfInBounds_toArray, List.set_cons_zero, List.set_cons_succ]
                  refine wpL_take 8 (oi := ⟨some 84, _, _, _, _, _⟩) (v := ?_) rfl (by kernel_rfl) (by kernel_rfl) (by kernel_rfl) (by kernel_rfl) (fun _ _ _ h => h) (Or.inl ⟨by rfl, ?_⟩) HS.out ?_
                  rotate_left
                  · intro V hV
                    obtain ⟨a0, a1, a2⟩ := hV
                    go_simp
                    try with_reducible rfl
                  try simp only [Act.put, List.setIfInBounds_toArray, List.set_cons_zero, List.set_cons_succ]
                  refine wpL_take 9 (oi := ⟨some 85, _, _, _, _, _⟩) (v := ?_) rfl (by kernel_rfl) (by kernel_rfl) (by kernel_rfl) (by kernel_rfl) (fun _ _ _ h => h) (Or.inl ⟨by rfl, ?_⟩) HS.out ?_
                  rotate_left
                  · intro V hV
                    obtain ⟨a0, a1, a2⟩ := hV
                    go_simp
                    try with_reducible rfl
                  try simp only [Act.put, List.setIfInBounds_toArray, List.set_cons_zero, List.set_cons_succ]
                  refine wpL_take 10 (oi := ⟨some 86, _, _, _, _, _⟩) (v := ?_) rfl (by kernel_rfl) (by kernel_rfl) (by kernel_rfl) (by kernel_rfl) (fun _ _ _ h => h) (Or.inl ⟨by rfl, ?_⟩) HS.out ?_
                  rotate_left
                  · intro V hV
                    obtain ⟨a0, a1, a2⟩ := hV
                    go_simp
                    try with_reducible rfl
                  try simp only [Act.put, List.setIfInBounds_toArray, List.set_cons_zero, List.set_cons_succ]
                  refine wpL_take 11 (oi := ⟨some 87, _, _, _, _, _⟩) (v := ?_) rfl (by kernel_rfl) (by kernel_rfl) (by kernel_rfl) (by kernel_rfl) (fun _ _ _ h => h) (Or.inl ⟨by rfl, ?_⟩) HS.out ?_
                  rotate_left
                  · intro V hV
                    obtain ⟨a0, a1, a2⟩ := hV
                    go_simp
                    try with_reducible rfl
                  try simp only [Act.put, List.setIfInBounds_toArray, List.set_cons_zero, List.set_cons_succ]
                  refine wpL_take 12 (oi := ⟨some 88, _, _, _, _, _⟩) (v := ?_) rfl (by kernel_rfl) (by kernel_rfl) (by kernel_rfl) (by kernel_rfl) (fun _ _ _ h => h) (Or.inl ⟨by rfl, ?_⟩) HS.out ?_
                  rotate_left
                  · intro V hV
                    obtain ⟨a0, a1, a2⟩ := hV
                    go_simp
                    try with_reducible rfl
                  try simp only [Act.put, List.setIfInBounds_toArray, List.set_cons_zero, List.set_cons_succ]
                  refine wpL_take 13 (oi := ⟨some 89, _, _, _, _, _⟩) (v := ?_) rfl (by kernel_rfl) (by kernel_rfl) (by kernel_rfl) (by kernel_rfl) (fun _ _ _ h => h) (Or.inl ⟨by rfl, ?_⟩) HS.out ?_
                  rotate_left
                  · intro V hV
                    obtain ⟨a0, a1, a2⟩ := hV
                    go_simp
                    try with_reducible rfl
                  try simp only [Act.put, List.setIfInBounds_toArray, List.set_cons_zero, List.set_cons_succ]
                  refine wpL_take 14 (oi := ⟨some 90, _, _, _, _, _⟩) (v := ?_) rfl (by kernel_rfl) (by kernel_rfl) (by kernel_rfl) (by kernel_rfl) (fun _ _ _ h => h) (Or.inl ⟨by rfl, ?_⟩) HS.out ?_
                  rotate_left
                  · intro V hV
                    obtain ⟨a0, a1, a2⟩ := hV
                    go_simp
                    try with_reducible rfl
                  try simp only [Act.put, List.setIfInBounds_toArray, List.set_cons_zero, List.set_cons_succ]
                  refine wpL_take 15 (oi := ⟨some 91, _, _, _, _, _⟩) (v := ?_) rfl (by kernel_rfl) (by kernel_rfl) (by kernel_rfl) (by kernel_rfl) (fun _ _ _ h => h) (Or.inl ⟨by rfl, ?_⟩) HS.out ?_
                  rotate_left
                  · intro V hV
                    obtain ⟨a0, a1, a2⟩ := hV
                    go_simp
                    try with_reducible rfl
                  try simp only [Act.put, List.setIfInBounds_toArray, List.set_cons_zero, List.set_cons_succ]
                  refine wpL_take 16 (oi := ⟨some 92, _, _, _, _, _⟩) (v := ?_) rfl (by kernel_rfl) (by kernel_rfl) (by kernel_rfl) (by kernel_rfl) (fun _ _ _ h => h) (Or.inl ⟨by rfl, ?_⟩) HS.out ?_
                  rotate_left
                  · intro V hV
                    obtain ⟨a0, a1, a2⟩ := hV
                    go_simp
                    try with_reducible rfl
                  try simp only [Act.put, List.setIfInBounds_toArray, List.set_cons_zero, List.set_cons_succ]
                  refine wpL_take 17 (oi := ⟨some 93, _, _, _, _, _⟩) (v := ?_) rfl (by kernel_rfl) (by kernel_rfl) (by kernel_rfl) (by kernel_rfl) (fun _ _ _ h => h) (Or.inl ⟨by rfl, ?_⟩) HS.out ?_
                  rotate_left
                  · intro V hV
                    obtain ⟨a0, a1, a2⟩ := hV
                    go_simp
                    try with_reducible rfl
                  try simp only [Act.put, List.setIfInBounds_toArray, List.set_cons_zero, List.set_cons_succ]
                  refine wpL_take 18 (oi := ⟨some 94, _, _, _, _, _⟩) (v := ?_) rfl (by kernel_rfl) (by kernel_rfl) (by kernel_rfl) (by kernel_rfl) (fun _ _ _ h => h) (Or.inl ⟨by rfl, ?_⟩) HS.out ?_
                  rotate_left
                  · intro V hV
                    obtain ⟨a0, a1, a2⟩ := hV
                    go_simp
                    try with_reducible rfl
                  try simp only [Act.put, List.setIfInBounds_toArray, List.set_cons_zero, List.set_cons_succ]
                  refine wpL_take 19 (oi := ⟨some 95, _, _, _, _, _⟩) (v := ?_) rfl (by kernel_rfl) (by kernel_rfl) (by kernel_rfl) (by kernel_rfl) (fun _ _ _ h => h) (Or.inl ⟨by rfl, ?_⟩) HS.out ?_
                  rotate_left
                  · intro V hV
                    obtain ⟨a0, a1, a2⟩ := hV
                    go_simp
                    try with_reducible rfl
                  try simp only [Act.put, List.setIfInBounds_toArray, List.set_cons_zero, List.set_cons_succ]
                  refine wpL_take 20 (oi := ⟨some 96, _, _, _, _, _⟩) (v := ?_) rfl (by kernel_rfl) (by kernel_rfl) (by kernel_rfl) (by kernel_rfl) (fun _ _ _ h => h) (Or.inl ⟨by rfl, ?_⟩) HS.out ?_
                  rotate_left
                  · intro V hV
                    obtain ⟨a0, a1, a2⟩ := hV
                    go_simp
                    try with_reducible rfl
                  try simp only [Act.put, List.setIfInBounds_toArray, List.set_cons_zero, List.set_cons_succ]
                  refine wpL_take 21 (oi := ⟨some 97, _, _, _, _, _⟩) (v := ?_) rfl (by kernel_rfl) (by kernel_rfl) (by kernel_rfl) (by kernel_rfl) (fun _ _ _ h => h) (Or.inl ⟨by rfl, ?_⟩) HS.out ?_
                  rotate_left
                  · intro V hV
                    obtain ⟨a0, a1, a2⟩ := hV
                    go_simp
                    try with_reducible rfl
                  try simp only [Act.put, List.setIfInBounds_toArray, List.set_cons_zero, List.set_cons_succ]
                  refine wpL_take 22 (oi := ⟨some 98, _, _, _, _, _⟩) (v := ?_) rfl (by kernel_rfl) (by kernel_rfl) (by kernel_rfl) (by kernel_rfl) (fun _ _ _ h => h) (Or.inl ⟨by rfl, ?_⟩) HS.out ?_
                  rotate_left
                  · intro V hV
                    obtain ⟨a0, a1, a2⟩ := hV
                    go_simp
                    try with_reducible rfl
                  try simp only [Act.put, List.setIfInBounds_toArray, List.set_cons_zero, List.set_cons_succ]
                  refine wpL_take 23 (oi := ⟨some 99, _, _, _, _, _⟩) (v := undef) rfl (by kernel_rfl) (by kernel_rfl) (by kernel_rfl) (by kernel_rfl) (fun _ _ _ h => h) (Or.inr ⟨by rfl, rfl⟩) HS.out ?_
                  try simp only [Act.put, List.setIfInBounds_toArray, List.set_cons_zero, List.set_cons_succ]
                  refine wpL_take 24 (oi := ⟨some 100, _, _, _, _, _⟩) (v := undef) rfl (by kernel_rfl) (by kernel_rfl) (by kernel_rfl) (by kernel_rfl) (fun _ _ _ h => h) (Or.inr ⟨by rfl, rfl⟩) HS.out ?_
                  try simp only [Act.put, List.setIfInBounds_toArray, List.set_cons_zero, List.set_cons_succ]
                  refine wpL_take 25 (oi := ⟨some 101, _, _, _, _, _⟩) (v := undef) rfl (by kernel_rfl) (by kernel_rfl) (by kernel_rfl) (by kernel_rfl) (fun _ _ _ h => h) (Or.inr ⟨by rfl, rfl⟩) HS.out ?_
                  try simp only [Act.put, List.setIfInBounds_toArray, List.set_cons_zero, List.set_cons_succ]
                  refine wpL_take 26 (oi := ⟨some 102, _, _, _, _, _⟩) (v := undef) rfl (by kernel_rfl) (by kernel_rfl) (by kernel_rfl) (by kernel_rfl) (fun _ _ _ h => h) (Or.inr ⟨by rfl, rfl⟩) HS.out ?_
                  try simp only [Act.put, List.setIfInBounds_toArray, List.set_cons_zero, List.set_cons_succ]
                  refine wpL_take 27 (oi := ⟨some 103, _, _, _, _, _⟩) (v := undef) rfl (by kernel_rfl) (by kernel_rfl) (by kernel_rfl) (by kernel_rfl) (fun _ _ _ h => h) (Or.inr ⟨by rfl, rfl⟩) HS.out ?_
                  try simp only [Act.put, List.setIfInBounds_toArray, List.set_cons_zero, List.set_cons_succ]
                  refine wpL_take 28 (oi := ⟨some 104, _, _, _, _, _⟩) (v := undef) rfl (by kernel_rfl) (by kernel_rfl) (by kernel_rfl) (by kernel_rfl) (fun _ _ _ h => h) (Or.inr ⟨by rfl, rfl⟩) HS.out ?_
                  try simp only [Act.put, List.setIfInBounds_toArray, List.set_cons_zero, List.set_cons_succ]
                  refine wpL_take 29 (oi := ⟨some 105, _, _, _, _, _⟩) (v := undef) rfl (by kernel_rfl) (by kernel_rfl) (by kernel_rfl) (by kernel_rfl) (fun _ _ _ h => h) (Or.inr ⟨by rfl, rfl⟩) HS.out ?_
                  try simp only [Act.put, List.setIfInBounds_toArray, List.set_cons_zero, List.set_cons_succ]
                  refine wpL_take 30 (oi := ⟨some 106, _, _, _, _, _⟩) (v := ?_) rfl (by kernel_rfl) (by kernel_rfl) (by kernel_rfl) (by kernel_rfl) (fun _ _ _ h => h) (Or.inl ⟨by rfl, ?_⟩) HS.out ?_
                  rotate_left
                  · intro V hV
                    obtain ⟨a0, a1, a2⟩ := hV
                    go_simp
                    try with_reducible rfl
                  try simp only [Act.put, List.setIfInBounds_toArray, List.set_cons_zero, List.set_cons_succ]
                  refine wpL_done (by kernel_rfl) ?_ _
                  have HZ3 := hide HZ2.out.drew
                  have HBW3 := hide HBW2.out.drew
                  go_wp2_with (refine wpList_put_at rfl 44 (.tmp 4) (.tmp 107) rfl (w.heap.size) 0 (cfC Cfg.zero none 0) rfl rfl 44 Z HZ3.out (ld44 _ rfl) (by rw [cf_size, hZs]; omega) (cf_all _ _ _) _ (cput Z _ hZs rfl) ?_)
                  refine bodyPost_ret (results_44b rfl _ rfl (HZ3.out.row _) rfl rfl) rfl ?_
                  exact cnf_no _ (Nat.le_refl _) HZ3.out HBW3.out HR.out
            · have t1 : Int.tmod (j : Int) 2 = 1 := by rw [Int.tmod_eq_emod_of_nonneg j0]; omega
              have t2 : ((j : Int) % 2) = 1 := by omega
              have t4 : ((1 : Int) == 0) = false := by decide
              by_cases hx0 : x < 0
              · 
                have HR : Hid (F = none) := by
                  show _ = _
                  rw [HFP.out]
                  refine cfgP_pair (chk_bad HLL.out hlt (fun hc => ?_))
                  obtain ⟨q1, q2, q3⟩ := HQX.out
                  have hcd := hc d nm HD.out HN.out
                  have := (hcd.2 (by omega))
                  rw [← HX.out] at this
                  omega
                clear hpar
                have HS : Hid ((fun V : World => V.cell? ⟨gl, j * 2, none⟩ = some (.bool dq) ∧ V.cell? ⟨gl, j * 2 + 1, none⟩ = some (.string X) ∧ V.cell? ⟨gh, j, none⟩ = some (.string Y)) w2.drew) := ⟨k0, k1, k2⟩
                refine wp_region_L [] (fun V : World => V.cell? ⟨gl, j * 2, none⟩ = some (.bool dq) ∧ V.cell? ⟨gl, j * 2 + 1, none⟩ = some (.string X) ∧ V.cell? ⟨gh, j, none⟩ = some (.string Y)) (by kernel_rfl) ?_
                refine wpL_take 0 (oi := ⟨some 76, _, _, _, _, _⟩) (v := ?_) rfl (by kernel_rfl) (by kernel_rfl) (by kernel_rfl) (by kernel_rfl) (fun _ _ _ h => h) (Or.inl ⟨by rfl, ?_⟩) HS.out ?_
                rotate_left
                · intro V hV
                  obtain ⟨a0, a1, a2⟩ := hV
                  go_simp
                  try with_reducible rfl
                try simp only [Act.put, List.setIfInBounds_toArray, List.set_cons_zero, List.set_cons_succ]
                refine wpL_take 1 (oi := ⟨some 77, _, _, _, _, _⟩) (v := ?_) rfl (by kernel_rfl) (by kernel_rfl) (by kernel_rfl) (by kernel_rfl) (fun _ _ _ h => h) (Or.inl ⟨by rfl, ?_⟩) HS.out ?_
                rotate_left
                · intro V hV
                  obtain ⟨a0, a1, a2⟩ := hV
                  go_simp
                  try with_reducible rfl
                try simp only [Act.put, List.setIfInBounds_toArray, List.set_cons_zero, List.set_cons_succ]
                refine wpL_take 2 (oi := ⟨some 78, _, _, _, _, _⟩) (v := ?_) rfl (by kernel_rfl) (by kernel_rfl) (by kernel_rfl) (by kernel_rfl) (fun _ _ _ h => h) (Or.inl ⟨by rfl, ?_⟩) HS.out ?_
                rotate_left
                · intro V hV
                  obtain ⟨a0, a1, a2⟩ := hV
                  go_simp
                  try with_reducible rfl
                try simp only [Act.put, List.setIfInBounds_toArray, List.set_cons_zero, List.set_cons_succ]
                refine wpL_take 3 (oi := ⟨some 79, _, _, _, _, _⟩) (v := ?_) rfl (by kernel_rfl) (by kernel_rfl) (by kernel_rfl) (by kernel_rfl) (fun _ _ _ h => h) (Or.inl ⟨by rfl, ?_⟩) HS.out ?_
                rotate_left
                · intro V hV
                  obtain ⟨a0, a1, a2⟩ := hV
                  go_simp
                  try with_reducible rfl
                try simp only [Act.put, List.setIfInBounds_toArray, List.set_cons_zero, List.set_cons_succ]
                refine wpL_take 4 (oi := ⟨some 80, _, _, _, _, _⟩) (v := undef) rfl (by kernel_rfl) (by kernel_rfl) (by kernel_rfl) (by kernel_rfl) (fun _ _ _ h => h) (Or.inr ⟨by rfl, rfl⟩) HS.out ?_
                try simp only [Act.put, List.setIfInBounds_toArray, List.set_cons_zero, List.set_cons_succ]
                refine wpL_take 5 (oi := ⟨some 81, _, _, _, _, _⟩) (v := undef) rfl (by kernel_rfl) (by kernel_rfl) (by kernel_rfl) (by kernel_rfl) (fun _ _ _ h => h) (Or.inr ⟨by rfl, rfl⟩) HS.out ?_
                try simp only [Act.put, List.setIfInBounds_toArray, List.set_cons_zero, List.set_cons_succ]
                refine wpL_take 6 (oi := ⟨some 82, _, _, _, _, _⟩) (v := undef) rfl (by kernel_rfl) (by kernel_rfl) (by kernel_rfl) (by kernel_rfl) (fun _ _ _ h => h) (Or.inr ⟨by rfl, rfl⟩) HS.out ?_
                try simp only [Act.put, List.setIfInBounds_toArray, List.set_cons_zero, List.set_cons_succ]
                refine wpL_take 7 (oi := ⟨some 83, _, _, _, _, _⟩) (v := undef) rfl (by kernel_rfl) (by kernel_rfl) (by kernel_rfl) (by kernel_rfl) (fun _ _ _ h => h) (Or.inr ⟨by rfl, rfl⟩) HS.out ?_
                try simp only [Act.put, List.setIfInBounds_toArray, List.set_cons_zero, List.set_cons_succ]
                refine wpL_take 8 (oi := ⟨some 84, _, _, _, _, _⟩) (v := undef) rfl (by kernel_rfl) (by kernel_rfl) (by kernel_rfl) (by kernel_rfl) (fun _ _ _ h => h) (Or.inr ⟨by rfl, rfl⟩) HS.out ?_
                try simp only [Act.put, List.setIfInBounds_toArray, List.set_cons_zero, List.set_cons_succ]
                refine wpL_take 9 (oi := ⟨some 85, _, _, _, _, _⟩) (v := undef) rfl (by kernel_rfl) (by kernel_rfl) (by kernel_rfl) (by kernel_rfl) (fun _ _ _ h => h) (Or.inr ⟨by rfl, rfl⟩) HS.out ?_
                try simp only [Act.put, List.setIfInBounds_toArray, List.set_cons_zero, List.set_cons_succ]
                refine wpL_take 10 (oi := ⟨some 86, _, _, _, _, _⟩) (v := undef) rfl (by kernel_rfl) (by kernel_rfl) (by kernel_rfl) (by kernel_rfl) (fun _ _ _ h => h) (Or.inr ⟨by rfl, rfl⟩) HS.out ?_
                try simp only [Act.put, List.setIfInBounds_toArray, List.set_cons_zero, List.set_cons_succ]
                refine wpL_take 11 (oi := ⟨some 87, _, _, _, _, _⟩) (v := undef) rfl (by kernel_rfl) (by kernel_rfl) (by kernel_rfl) (by kernel_rfl) (fun _ _ _ h => h) (Or.inr ⟨by rfl, rfl⟩) HS.out ?_
                try simp only [Act.put, List.setIfInBounds_toArray, List.set_cons_zero, List.set_cons_succ]
                refine wpL_take 12 (oi := ⟨some 88, _, _, _, _, _⟩) (v := undef) rfl (by kernel_rfl) (by kernel_rfl) (by kernel_rfl) (by kernel_rfl) (fun _ _ _ h => h) (Or.inr ⟨by rfl, rfl⟩) HS.out ?_
                try simp only [Act.put, List.setIfInBounds_toArray, List.set_cons_zero, List.set_cons_succ]
                refine wpL_take 13 (oi := ⟨some 89, _, _, _, _, _⟩) (v := undef) rfl (by kernel_rfl) (by kernel_rfl) (by kernel_rfl) (by kernel_rfl) (fun _ _ _ h => h) (Or.inr ⟨by rfl, rfl⟩) HS.out ?_
                try simp only [Act.put, List.setIfInBounds_toArray, List.set_cons_zero, List.set_cons_succ]
                refine wpL_take 14 (oi := ⟨some 90, _, _, _, _, _⟩) (v := undef) rfl (by kernel_rfl) (by kernel_rfl) (by kernel_rfl) (by kernel_rfl) (fun _ _ _ h => h) (Or.inr ⟨by rfl, rfl⟩) HS.out ?_
                try simp only [Act.put, List.setIfInBounds_toArray, List.set_cons_zero, List.set_cons_succ]
                refine wpL_take 15 (oi := ⟨some 91, _, _, _, _, _⟩) (v := undef) rfl (by kernel_rfl) (by kernel_rfl) (by kernel_rfl) (by kernel_rfl) (fun _ _ _ h => h) (Or.inr ⟨by rfl, rfl⟩) HS.out ?_
                try simp only [Act.put, List.setIfInBounds_toArray, List.set_cons_zero, List.set_cons_succ]
                refine wpL_take 16 (oi := ⟨some 92, _, _, _, _, _⟩) (v := undef) rfl (by kernel_rfl) (by kernel_rfl) (by kernel_rfl) (by kernel_rfl) (fun _ _ _ h => h) (Or.inr ⟨by rfl, rfl⟩) HS.out ?_
                try simp only [Act.put, List.setIfInBounds_toArray, List.set_cons_zero, List.set_cons_succ]
                refine wpL_take 17 (oi := ⟨some 93, _, _, _, _, _⟩) (v := undef) rfl (by kernel_rfl) (by kernel_rfl) (by kernel_rfl) (by kernel_rfl) (fun _ _ _ h => h) (Or.inr ⟨by rfl, rfl⟩) HS.out ?_
                try simp only [Act.put, List.setIfInBounds_toArray, List.set_cons_zero, List.set_cons_succ]
                refine wpL_take 18 (oi := ⟨some 94, _, _, _, _, _⟩) (v := undef) rfl (by kernel_rfl) (by kernel_rfl) (by kernel_rfl) (by kernel_rfl) (fun _ _ _ h => h) (Or.inr ⟨by rfl, rfl⟩) HS.out ?_
                try simp only [Act.put, List.setIfInBounds_toArray, List.set_cons_zero, List.set_cons_succ]
                refine wpL_take 19 (oi := ⟨some 95, _, _, _, _, _⟩) (v := undef) rfl (by kernel_rfl) (by kernel_rfl) (by kernel_rfl) (by kernel_rfl) (fun _ _ _ h => h) (Or.inr ⟨by rfl, rfl⟩) HS.out ?_
                try simp only [Act.put, List.setIfInBounds_toArray, List.set_cons_zero, List.set_cons_succ]
                refine wpL_take 20 (oi := ⟨some 96, _, _, _, _, _⟩) (v := undef) rfl (by kernel_rfl) (by kernel_rfl) (by kernel_rfl) (by kernel_rfl) (fun _ _ _ h => h) (Or.inr ⟨by rfl, rfl⟩) HS.out ?_
                try simp only [Act.put, List.setIfInBounds_toArray, List.set_cons_zero, List.set_cons_succ]
                refine wpL_take 21 (oi := ⟨some 97, _, _, _, _, _⟩) (v := ?_) rfl (by kernel_rfl) (by kernel_rfl) (by kernel_rfl) (by kernel_rfl) (fun _ _ _ h => h) (Or.inl ⟨by rfl, ?_⟩) HS.out ?_
                rotate_left
                · intro V hV
                  obtain ⟨a0, a1, a2⟩ := hV
                  go_simp
                  try with_reducible rfl
                try simp only [Act.put, List.setIfInBounds_toArray, List.set_cons_zero, List.set_cons_succ]
                refine wpL_take 22 (oi := ⟨some 98, _, _, _, _, _⟩) (v := ?_) rfl (by kernel_rfl) (by kernel_rfl) (by kernel_rfl) (by kernel_rfl) (fun _ _ _ h => h) (Or.inl ⟨by rfl, ?_⟩) HS.out ?_
                rotate_left
                · intro V hV
                  obtain ⟨a0, a1, a2⟩ := hV
                  go_simp
                  try with_reducible rfl
                try simp only [Act.put, List.setIfInBounds_toArray, List.set_cons_zero, List.set_cons_succ]
                refine wpL_take 23 (oi := ⟨some 99, _, _, _, _, _⟩) (v := ?_) rfl (by kernel_rfl) (by kernel_rfl) (by kernel_rfl) (by kernel_rfl) (fun _ _ _ h => h) (Or.inl ⟨by rfl, ?_⟩) HS.out ?_
                rotate_left
                · intro V hV
                  obtain ⟨a0, a1, a2⟩ := hV
                  go_simp
                  try with_reducible rfl
                try simp only [Act.put, List.setIfInBounds_toArray, List.set_cons_zero, List.set_cons_succ]
                refine wpL_take 24 (oi := ⟨some 100, _, _, _, _, _⟩) (v := ?_) rfl (by kernel_rfl) (by kernel_rfl) (by kernel_rfl) (by kernel_rfl) (fun _ _ _ h => h) (Or.inl ⟨by rfl, ?_⟩) HS.out ?_
                rotate_left
                · intro V hV
                  obtain ⟨a0, a1, a2⟩ := hV
                  go_simp
                  try with_reducible rfl
                try simp only [Act.put, List.setIfInBounds_toArray, List.set_cons_zero, List.set_cons_succ]
                refine wpL_take 25 (oi := ⟨some 101, _, _, _, _, _⟩) (v := ?_) rfl (by kernel_rfl) (by kernel_rfl) (by kernel_rfl) (by kernel_rfl) (fun _ _ _ h => h) (Or.inl ⟨by rfl, ?_⟩) HS.out ?_
                rotate_left
                · intro V hV
                  obtain ⟨a0, a1, a2⟩ := hV
                  go_simp
                  try with_reducible rfl
                try simp only [Act.put, List.setIfInBounds_toArray, List.set_cons_zero, List.set_cons_succ]
                refine wpL_take 26 (oi := ⟨some 102, _, _, _, _, _⟩) (v := ?_) rfl (by kernel_rfl) (by kernel_rfl) (by kernel_rfl) (by kernel_rfl) (fun _ _ _ h => h) (Or.inl ⟨by rfl, ?_⟩) HS.out ?_
                rotate_left
                · intro V hV
                  obtain ⟨a0, a1, a2⟩ := hV
                  go_simp
                  try with_reducible rfl
                try simp only [Act.put, List.setIfInBounds_toArray, List.set_cons_zero, List.set_cons_succ]
                refine wpL_take 27 (oi := ⟨some 103, _, _, _, _, _⟩) (v := ?_) rfl (by kernel_rfl) (by kernel_rfl) (by kernel_rfl) (by kernel_rfl) (fun _ _ _ h => h) (Or.inl ⟨by rfl, ?_⟩) HS.out ?_
                rotate_left
                · intro V hV
                  obtain ⟨a0, a1, a2⟩ := hV
                  go_simp
                  try with_reducible rfl
                try simp only [Act.put, List.setIfInBounds_toArray, List.set_cons_zero, List.set_cons_succ]
                refine wpL_take 28 (oi := ⟨some 104, _, _, _, _, _⟩) (v := ?_) rfl (by kernel_rfl) (by kernel_rfl) (by kernel_rfl) (by kernel_rfl) (fun _ _ _ h => h) (Or.inl ⟨by rfl, ?_⟩) HS.out ?_
                rotate_left
                · intro V hV
                  obtain ⟨a0, a1, a2⟩ := hV
                  go_simp
                  try with_reducible rfl
                try simp only [Act.put, List.setIfInBounds_toArray, List.set_cons_zero, List.set_cons_succ]
                refine wpL_take 29 (oi := ⟨some 105, _, _, _, _, _⟩) (v := ?_) rfl (by kernel_rfl) (by kernel_rfl) (by kernel_rfl) (by kernel_rfl) (fun _ _ _ h => h) (Or.inl ⟨by rfl, ?_⟩) HS.out ?_
                rotate_left
                · intro V hV
                  obtain ⟨a0, a1, a2⟩ := hV
                  go_simp
                  try with_reducible rfl
                try simp only [Act.put, List.setIfInBounds_toArray, List.set_cons_zero, List.set_cons_succ]
                refine wpL_take 30 (oi := ⟨some 106, _, _, _, _, _⟩) (v := ?_) rfl (by kernel_rfl) (by kernel_rfl) (by kernel_rfl) (by kernel_rfl) (fun _ _ _ h => h) (Or.inl ⟨by rfl, ?_⟩) HS.out ?_
                rotate_left
                · intro V hV
                  obtain ⟨a0, a1, a2⟩ := hV
                  go_simp
                  try with_reducible rfl
                try simp only [Act.put, List.setIfInBounds_toArray, List.set_cons_zero, List.set_cons_succ]
                refine wpL_done (by kernel_rfl) ?_ _
                have HZ3 := hide HZ2.out.drew
                have HBW3 := hide HBW2.out.drew
                go_wp2_with (refine wpList_put_at rfl 44 (.tmp 4) (.tmp 107) rfl (w.heap.size) 0 (cfC Cfg.zero none 0) rfl rfl 44 Z HZ3.out (ld44 _ rfl) (by rw [cf_size, hZs]; omega) (cf_all _ _ _) _ (cput Z _ hZs rfl) ?_)
                refine bodyPost_ret (results_44b rfl _ rfl (HZ3.out.row _) rfl rfl) rfl ?_
                exact cnf_no _ (Nat.le_refl _) HZ3.out HBW3.out HR.out
              · have HCJ : Hid (Chk l j) := by
                  intro d' n' h1 h2
                  obtain rfl := Option.some.inj (HD.out.symm.trans h1)
                  exact ⟨fun h => by omega, fun _ => by rw [← HX.out]; omega⟩
                clear hpar
                have HS : Hid ((fun V : World => V.cell? ⟨gl, j * 2, none⟩ = some (.bool dq) ∧ V.cell? ⟨gl, j * 2 + 1, none⟩ = some (.string X) ∧ V.cell? ⟨gh, j, none⟩ = some (.string Y)) w2.drew) := ⟨k0, k1, k2⟩
                refine wp_region_L [] (fun V : World => V.cell? ⟨gl, j * 2, none⟩ = some (.bool dq) ∧ V.cell? ⟨gl, j * 2 + 1, none⟩ = some (.string X) ∧ V.cell? ⟨gh, j, none⟩ = some (.string Y)) (by kernel_rfl) ?_
                refine wpL_take 0 (oi := ⟨some 76, _, _, _, _, _⟩) (v := ?_) rfl (by kernel_rfl) (by kernel_rfl) (by kernel_rfl) (by kernel_rfl) (fun _ _ _ h => h) (Or.inl ⟨by rfl, ?_⟩) HS.out ?_
                rotate_left
                · intro V hV
                  obtain ⟨a0, a1, a2⟩ := hV
                  go_simp
                  try with_reducible rfl
                try simp only [Act.put, List.setIfInBounds_toArray, List.set_cons_zero, List.set_cons_succ]
                refine wpL_take 1 (oi := ⟨some 77, _, _, _, _, _⟩) (v := ?_) rfl (by kernel_rfl) (by kernel_rfl) (by kernel_rfl) (by kernel_rfl) (fun _ _ _ h => h) (Or.inl ⟨by rfl, ?_⟩) HS.out ?_
                rotate_left
                · intro V hV
                  obtain ⟨a0, a1, a2⟩ := hV
                  go_simp
                  try with_reducible rfl
                try simp only [Act.put, List.setIfInBounds_toArray, List.set_cons_zero, List.set_cons_succ]
                refine wpL_take 2 (oi := ⟨some 78, _, _, _, _, _⟩) (v := ?_) rfl (by kernel_rfl) (by kernel_rfl) (by kernel_rfl) (by kernel_rfl) (fun _ _ _ h => h) (Or.inl ⟨by rfl, ?_⟩) HS.out ?_
                rotate_left
                · intro V hV
                  obtain ⟨a0, a1, a2⟩ := hV
                  go_simp
                  try with_reducible rfl
                try simp only [Act.put, List.setIfInBounds_toArray, List.set_cons_zero, List.set_cons_succ]
                refine wpL_take 3 (oi := ⟨some 79, _, _, _, _, _⟩) (v := ?_) rfl (by kernel_rfl) (by kernel_rfl) (by kernel_rfl) (by kernel_rfl) (fun _ _ _ h => h) (Or.inl ⟨by rfl, ?_⟩) HS.out ?_
                rotate_left
                · intro V hV
                  obtain ⟨a0, a1, a2⟩ := hV
                  go_simp
                  try with_reducible rfl
                try simp only [Act.put, List.setIfInBounds_toArray, List.set_cons_zero, List.set_cons_succ]
                refine wpL_take 4 (oi := ⟨some 80, _, _, _, _, _⟩) (v := undef) rfl (by kernel_rfl) (by kernel_rfl) (by kernel_rfl) (by kernel_rfl) (fun _ _ _ h => h) (Or.inr ⟨by rfl, rfl⟩) HS.out ?_
                try simp only [Act.put, List.setIfInBounds_toArray, List.set_cons_zero, List.set_cons_succ]
                refine wpL_take 5 (oi := ⟨some 81, _, _, _, _, _⟩) (v := undef) rfl (by kernel_rfl) (by kernel_rfl) (by kernel_rfl) (by kernel_rfl) (fun _ _ _ h => h) (Or.inr ⟨by rfl, rfl⟩) HS.out ?_
                try simp only [Act.put, List.setIfInBounds_toArray, List.set_cons_zero, List.set_cons_succ]
                refine wpL_take 6 (oi := ⟨some 82, _, _, _, _, _⟩) (v := undef) rfl (by kernel_rfl) (by kernel_rfl) (by kernel_rfl) (by kernel_rfl) (fun _ _ _ h => h) (Or.inr ⟨by rfl, rfl⟩) HS.out ?_
                try simp only [Act.put, List.setIfInBounds_toArray, List.set_cons_zero, List.set_cons_succ]
                refine wpL_take 7 (oi := ⟨some 83, _, _, _, _, _⟩) (v := undef) rfl (by kernel_rfl) (by kernel_rfl) (by kernel_rfl) (by kernel_rfl) (fun _ _ _ h => h) (Or.inr ⟨by rfl, rfl⟩) HS.out ?_
                try simp only [Act.put, List.setIfInBounds_toArray, List.set_cons_zero, List.set_cons_succ]
                refine wpL_take 8 (oi := ⟨some 84, _, _, _, _, _⟩) (v := undef) rfl (by kernel_rfl) (by kernel_rfl) (by kernel_rfl) (by kernel_rfl) (fun _ _ _ h => h) (Or.inr ⟨by rfl, rfl⟩) HS.out ?_
                try simp only [Act.put, List.setIfInBounds_toArray, List.set_cons_zero, List.set_cons_succ]
                refine wpL_take 9 (oi := ⟨some 85, _, _, _, _, _⟩) (v := undef) rfl (by kernel_rfl) (by kernel_rfl) (by kernel_rfl) (by kernel_rfl) (fun _ _ _ h => h) (Or.inr ⟨by rfl, rfl⟩) HS.out ?_
                try simp only [Act.put, List.setIfInBounds_toArray, List.set_cons_zero, List.set_cons_succ]
                refine wpL_take 10 (oi := ⟨some 86, _, _, _, _, _⟩) (v := undef) rfl (by kernel_rfl) (by kernel_rfl) (by kernel_rfl) (by kernel_rfl) (fun _ _ _ h => h) (Or.inr ⟨by rfl, rfl⟩) HS.out ?_
                try simp only [Act.put, List.setIfInBounds_toArray, List.set_cons_zero, List.set_cons_succ]
                refine wpL_take 11 (oi := ⟨some 87, _, _, _, _, _⟩) (v := undef) rfl (by kernel_rfl) (by kernel_rfl) (by kernel_rfl) (by kernel_rfl) (fun _ _ _ h => h) (Or.inr ⟨by rfl, rfl⟩) HS.out ?_
                try simp only [Act.put, List.setIfInBounds_toArray, List.set_cons_zero, List.set_cons_succ]
                refine wpL_take 12 (oi := ⟨some 88, _, _, _, _, _⟩) (v := undef) rfl (by kernel_rfl) (by kernel_rfl) (by kernel_rfl) (by kernel_rfl) (fun _ _ _ h => h) (Or.inr ⟨by rfl, rfl⟩) HS.out ?_
                try simp only [Act.put, List.setIfInBounds_toArray, List.set_cons_zero, List.set_cons_succ]
                refine wpL_take 13 (oi := ⟨some 89, _, _, _, _, _⟩) (v := undef) rfl (by kernel_rfl) (by kernel_rfl) (by kernel_rfl) (by kernel_rfl) (fun _ _ _ h => h) (Or.inr ⟨by rfl, rfl⟩) HS.out ?_
                try simp only [Act.put, List.setIfInBounds_toArray, List.set_cons_zero, List.set_cons_succ]
                refine wpL_take 14 (oi := ⟨some 90, _, _, _, _, _⟩) (v := undef) rfl (by kernel_rfl) (by kernel_rfl) (by kernel_rfl) (by kernel_rfl) (fun _ _ _ h => h) (Or.inr ⟨by rfl, rfl⟩) HS.out ?_
                try simp only [Act.put, List.setIfInBounds_toArray, List.set_cons_zero, List.set_cons_succ]
                refine wpL_take 15 (oi := ⟨some 91, _, _, _, _, _⟩) (v := undef) rfl (by kernel_rfl) (by kernel_rfl) (by kernel_rfl) (by kernel_rfl) (fun _ _ _ h => h) (Or.inr ⟨by rfl, rfl⟩) HS.out ?_
                try simp only [Act.put, List.setIfInBounds_toArray, List.set_cons_zero, List.set_cons_succ]
                refine wpL_take 16 (oi := ⟨some 92, _, _, _, _, _⟩) (v := undef) rfl (by kernel_rfl) (by kernel_rfl) (by kernel_rfl) (by kernel_rfl) (fun _ _ _ h => h) (Or.inr ⟨by rfl, rfl⟩) HS.out ?_
                try simp only [Act.put, List.setIfInBounds_toArray, List.set_cons_zero, List.set_cons_succ]
                refine wpL_take 17 (oi := ⟨some 93, _, _, _, _, _⟩) (v := undef) rfl (by kernel_rfl) (by kernel_rfl) (by kernel_rfl) (by kernel_rfl) (fun _ _ _ h => h) (Or.inr ⟨by rfl, rfl⟩) HS.out ?_
                try simp only [Act.put, List.setIfInBounds_toArray, List.set_cons_zero, List.set_cons_succ]
                refine wpL_take 18 (oi := ⟨some 94, _, _, _, _, _⟩) (v := undef) rfl (by kernel_rfl) (by kernel_rfl) (by kernel_rfl) (by kernel_rfl) (fun _ _ _ h => h) (Or.inr ⟨by rfl, rfl⟩) HS.out ?_
                try simp only [Act.put, List.setIfInBounds_toArray, List.set_cons_zero, List.set_cons_succ]
                refine wpL_take 19 (oi := ⟨some 95, _, _, _, _, _⟩) (v := undef) rfl (by kernel_rfl) (by kernel_rfl) (by kernel_rfl) (by kernel_rfl) (fun _ _ _ h => h) (Or.inr ⟨by rfl, rfl⟩) HS.out ?_
                try simp only [Act.put, List.setIfInBounds_toArray, List.set_cons_zero, List.set_cons_succ]
                refine wpL_take 20 (oi := ⟨some 96, _, _, _, _, _⟩) (v := undef) rfl (by kernel_rfl) (by kernel_rfl) (by kernel_rfl) (by kernel_rfl) (fun _ _ _ h => h) (Or.inr ⟨by rfl, rfl⟩) HS.out ?_
                try simp only [Act.put, List.setIfInBounds_toArray, List.set_cons_zero, List.set_cons_succ]
                refine wpL_take 21 (oi := ⟨some 97, _, _, _, _, _⟩) (v := ?_) rfl (by kernel_rfl) (by kernel_rfl) (by kernel_rfl) (by kernel_rfl) (fun _ _ _ h => h) (Or.inl ⟨by rfl, ?_⟩) HS.out ?_
                rotate_left
                · intro V hV
                  obtain ⟨a0, a1, a2⟩ := hV
                  go_simp
                  try with_reducible rfl
                try simp only [Act.put, List.setIfInBounds_toArray, List.set_cons_zero, List.set_cons_succ]
                refine wpL_take 22 (oi := ⟨some 98, _, _, _, _, _⟩) (v := ?_) rfl (by kernel_rfl) (by kernel_rfl) (by kernel_rfl) (by kernel_rfl) (fun _ _ _ h => h) (Or.inl ⟨by rfl, ?_⟩) HS.out ?_
                rotate_left
                · intro V hV
                  obtain ⟨a0, a1, a2⟩ := hV
                  go_simp
                  try with_reducible rfl
                try simp only [Act.put, List.setIfInBounds_toArray, List.set_cons_zero, List.set_cons_succ]
                refine wpL_take 23 (oi := ⟨some 99, _, _, _, _, _⟩) (v := ?_) rfl (by kernel_rfl) (by kernel_rfl) (by kernel_rfl) (by kernel_rfl) (fun _ _ _ h => h) (Or.inl ⟨by rfl, ?_⟩) HS.out ?_
                rotate_left
                · intro V hV
                  obtain ⟨a0, a1, a2⟩ := hV
                  go_simp
                  try with_reducible rfl
                try simp only [Act.put, List.setIfInBounds_toArray, List.set_cons_zero, List.set_cons_succ]
                refine wpL_take 24 (oi := ⟨some 100, _, _, _, _, _⟩) (v := ?_) rfl (by kernel_rfl) (by kernel_rfl) (by kernel_rfl) (by kernel_rfl) (fun _ _ _ h => h) (Or.inl ⟨by rfl, ?_⟩) HS.out ?_
                rotate_left
                · intro V hV
                  obtain ⟨a0, a1, a2⟩ := hV
                  go_simp
                  try with_reducible rfl
                try simp only [Act.put, List.setIfInBounds_toArray, List.set_cons_zero, List.set_cons_succ]
                refine wpL_take 25 (oi := ⟨some 101, _, _, _, _, _⟩) (v := ?_) rfl (by kernel_rfl) (by kernel_rfl) (by kernel_rfl) (by kernel_rfl) (fun _ _ _ h => h) (Or.inl ⟨by rfl, ?_⟩) HS.out ?_
                rotate_left
                · intro V hV
                  obtain ⟨a0, a1, a2⟩ := hV
                  go_simp
                  try with_reducible rfl
                try simp only [Act.put, List.setIfInBounds_toArray, List.set_cons_zero, List.set_cons_succ]
                refine wpL_take 26 (oi := ⟨some 102, _, _, _, _, _⟩) (v := ?_) rfl (by kernel_rfl) (by kernel_rfl) (by kernel_rfl) (by kernel_rfl) (fun _ _ _ h => h) (Or.inl ⟨by rfl, ?_⟩) HS.out ?_
                rotate_left
                · intro V hV
                  obtain ⟨a0, a1, a2⟩ := hV
                  go_simp
                  try with_reducible rfl
                try simp only [Act.put, List.setIfInBounds_toArray, List.set_cons_zero, List.set_cons_succ]
                refine wpL_take 27 (oi := ⟨some 103, _, _, _, _, _⟩) (v := ?_) rfl (by kernel_rfl) (by kernel_rfl) (by kernel_rfl) (by kernel_rfl) (fun _ _ _ h => h) (Or.inl ⟨by rfl, ?_⟩) HS.out ?_
                rotate_left
                · intro V hV
                  obtain ⟨a0, a1, a2⟩ := hV
                  go_simp
                  try with_reducible rfl
                try simp only [Act.put, List.setIfInBounds_toArray, List.set_cons_zero, List.set_cons_succ]
                refine wpL_take 28 (oi := ⟨some 104, _, _, _, _, _⟩) (v := ?_) rfl (by kernel_rfl) (by kernel_rfl) (by kernel_rfl) (by kernel_rfl) (fun _ _ _ h => h) (Or.inl ⟨by rfl, ?_⟩) HS.out ?_
                rotate_left
                · intro V hV
                  obtain ⟨a0, a1, a2⟩ := hV
                  go_simp
                  try with_reducible rfl
                try simp only [Act.put, List.setIfInBounds_toArray, List.set_cons_zero, List.set_cons_succ]
                refine wpL_take 29 (oi := ⟨some 105, _, _, _, _, _⟩) (v := ?_) rfl (by kernel_rfl) (by kernel_rfl) (by kernel_rfl) (by kernel_rfl) (fun _ _ _ h => h) (Or.inl ⟨by rfl, ?_⟩) HS.out ?_
                rotate_left
                · intro V hV
                  obtain ⟨a0, a1, a2⟩ := hV
                  go_simp
                  try with_reducible rfl
                try simp only [Act.put, List.setIfInBounds_toArray, List.set_cons_zero, List.set_cons_succ]
                refine wpL_take 30 (oi := ⟨some 106, _, _, _, _, _⟩) (v := ?_) rfl (by kernel_rfl) (by kernel_rfl) (by kernel_rfl) (by kernel_rfl) (fun _ _ _ h => h) (Or.inl ⟨by rfl, ?_⟩) HS.out ?_
                rotate_left
                · intro V hV
                  obtain ⟨a0, a1, a2⟩ := hV
                  go_simp
                  try with_reducible rfl
                try simp only [Act.put, List.setIfInBounds_toArray, List.set_cons_zero, List.set_cons_succ]
                refine wpL_done (by kernel_rfl) ?_ _
                obtain ⟨wd, hwd⟩ : ∃ wd, wd = w2.drew := ⟨_, rfl⟩
                rw [← hwd]
                have HO3 : Hid (wd.ownsRow W4.heap.size 3 1 (.slice An j cn) j (ints ((l.take j).map wcntZ))) := by show World.ownsRow _ _ _ _ _ _ _; rw [hwd]; exact HO2.out
                have HB3 : Hid (Below W4.heap.size W4 wd) := by show Below _ _ _; rw [hwd]; exact HB2.out.drew
                have hsw3 : W4.heap.size ≤ wd.heap.size := HB3.out.size
                clear hwd HS
                have HL8 : Hid (∀ g8 c8 w8, w8.ownsRow W4.heap.size 3 1 (.slice (some ⟨g8, 0, none⟩) (j + 1) c8) (j + 1) (ints ((l.take j).map wcntZ) ++ [.int .i64 x]) → Below W4.heap.size wd w8 → HdJ W4 l (.slice (some ⟨g8, 0, none⟩) (j + 1) c8) (.int .i64 ((j : Int) + 1)) w8) := by
                  intro g8 c8 w8 hown8 hb8
                  refine ⟨j + 1, _, c8, by omega, by go_num, rfl, ?_, HB3.out.trans hb8, ?_⟩
                  · rw [HTK.out]
                    have e : ints ((l.take j).map wcntZ ++ [x]) = ints ((l.take j).map wcntZ) ++ [.int .i64 x] := by simp [ints]
                    rw [e]
                    exact hown8
                  · intro q hq
                    by_cases hqj : q = j
                    · subst hqj
                      exact HCJ.out
                    · exact HCK.out q (by omega)
                go_wp2_with (at_builtin; refine wpList_push (W := wd) (cs := #[.int .i64 x]) rfl (.tmp 108) (.tmp 110) _ rfl W4.heap.size 3 i3 _ 1 8 Tryd.underlying27 I3.out hz3 hs3 hb3 rfl (by omega) (.slice An j cn) j _ rfl HO3.out 1 1 rfl rfl (by simp [Value.oneCell']) (by omega) (by unfold maxLen; omega) (by omega) hsw3 ?_; intro g8 c8 w8 hown8 hgr8 hb8 _ _ _; have HL9 := hide (HL8.out g8 c8 w8 hown8 hb8); clear hown8 hb8 hgr8)
                go_roundw
                case rel => first | exact HL9.out | exact ⟨_, HL9.out, rfl⟩
                case measure => simp [intOf]; omega
          · have js : ¬ (j : Int) < 14 := by omega
            obtain rfl : j = 14 := by omega
            clear hlt
            obtain ⟨d1, d3, d5, d7, d9, d11, d13, g1, g3, g5, g7, g9, g11, g13, hpair⟩ := chk_all HLL.out HCK.out
            have hnt : ∀ k d, l[k]? = some d → nth ((l.take 14).map wcntZ) k = wcntZ d := fun k d h => by
              rw [List.take_of_length_le (by rw [HLL.out]; exact Nat.le_refl _)]
              simp [nth, h]
            obtain ⟨gn, cap, hv, _, hltn⟩ := HO.out.form (by omega)
            injection hv with q1 q2 q3
            subst q1 q3
            have hown' := HO.out
            have hall : ∀ V : World, V.ownsRow W4.heap.size 3 1 (.slice (some ⟨gn, 0, none⟩) 14 cn) 14 (ints ((l.take 14).map wcntZ)) → V.cell? ⟨gn, 1, none⟩ = some (.int .i64 (wcntZ d1)) ∧ V.cell? ⟨gn, 3, none⟩ = some (.int .i64 (wcntZ d3)) ∧ V.cell? ⟨gn, 5, none⟩ = some (.int .i64 (wcntZ d5)) ∧ V.cell? ⟨gn, 7, none⟩ = some (.int .i64 (wcntZ d7)) ∧ V.cell? ⟨gn, 9, none⟩ = some (.int .i64 (wcntZ d9)) ∧ V.cell? ⟨gn, 11, none⟩ = some (.int .i64 (wcntZ d11)) ∧ V.cell? ⟨gn, 13, none⟩ = some (.int .i64 (wcntZ d13)) := fun V hV => by
              have e1 := own_int hV (k := 1) (by omega)
              have e3 := own_int hV (k := 3) (by omega)
              have e5 := own_int hV (k := 5) (by omega)
              have e7 := own_int hV (k := 7) (by omega)
              have e9 := own_int hV (k := 9) (by omega)
              have e11 := own_int hV (k := 11) (by omega)
              have e13 := own_int hV (k := 13) (by omega)
              rw [hnt _ _ g1] at e1
              rw [hnt _ _ g3] at e3
              rw [hnt _ _ g5] at e5
              rw [hnt _ _ g7] at e7
              rw [hnt _ _ g9] at e9
              rw [hnt _ _ g11] at e11
              rw [hnt _ _ g13] at e13
              exact ⟨e1, e3, e5, e7, e9, e11, e13⟩
            clear g1 g3 g5 g7 g9 g11 g13 hnt
            obtain ⟨a, ha⟩ : ∃ a, a = wcntZ d1 := ⟨_, rfl⟩
            obtain ⟨b, hb⟩ : ∃ b, b = wcntZ d3 := ⟨_, rfl⟩
            obtain ⟨c, hc⟩ : ∃ c, c = wcntZ d5 := ⟨_, rfl⟩
            obtain ⟨d, hd⟩ : ∃ d, d = wcntZ d7 := ⟨_, rfl⟩
            obtain ⟨e, he⟩ : ∃ e, e = wcntZ d9 := ⟨_, rfl⟩
            obtain ⟨f, hf⟩ : ∃ f, f = wcntZ d11 := ⟨_, rfl⟩
            obtain ⟨g, hg⟩ : ∃ g, g = wcntZ d13 := ⟨_, rfl⟩
            rw [← ha, ← hb, ← hc, ← hd, ← he, ← hf, ← hg] at hall hpair
            clear ha hb hc hd he hf hg d1 d3 d5 d7 d9 d11 d13
            have HALL := hide hall
            have HPR := hide hpair
            clear hall hpair hown'
            obtain ⟨SS, hSS⟩ : ∃ SS : World → Prop, SS = fun V : World => V.cell? ⟨gn, 1, none⟩ = some (.int .i64 a) ∧ V.cell? ⟨gn, 3, none⟩ = some (.int .i64 b) ∧ V.cell? ⟨gn, 5, none⟩ = some (.int .i64 c) ∧ V.cell? ⟨gn, 7, none⟩ = some (.int .i64 d) ∧ V.cell? ⟨gn, 9, none⟩ = some (.int .i64 e) ∧ V.cell? ⟨gn, 11, none⟩ = some (.int .i64 f) ∧ V.cell? ⟨gn, 13, none⟩ = some (.int .i64 g) := ⟨_, rfl⟩
            have HS0 : Hid (SS wr.drew) := by show SS _; rw [hSS]; exact HALL.out _ HO.out
            have HSA : Hid (∀ o, SS (wr.drew.alloc o)) := fun o => by rw [hSS]; exact HALL.out _ (own_step HO.out (((Below.refl wr.heap.size wr).drew).alloc (Nat.le_refl _) o))
            have HSB : Hid (∀ C D, SS ((wr.drew.alloc (.cells C 44)).setRow wr.heap.size D)) := fun C D => by
              rw [hSS]
              have hbk : Blk (wr.drew.alloc (.cells C 44)) wr.heap.size 44 C := Blk.new wr.drew _ _
              refine HALL.out _ (own_apart (own_step HO.out (((Below.refl wr.heap.size wr).drew).alloc (Nat.le_refl _) _)) (only_setRow _ wr.heap.size _) ?_)
              intro k hk hq
              subst hq
              exact ⟨_, _, hbk, by decide⟩
            go_upto_region 14 with fail
            refine wp_region_L [] SS (by kernel_rfl) ?_
            refine wpL_take 0 (oi := ⟨some 112, _, _, _, _, _⟩) (v := ?_) rfl (by kernel_rfl) (by kernel_rfl) (by kernel_rfl) (by kernel_rfl) (fun _ _ _ h => h) (Or.inl ⟨by rfl, ?_⟩) HS0.out ?_
            rotate_left
            · intro V hV
              go_simp
              try with_reducible rfl
            try simp only [Act.put, List.setIfInBounds_toArray, List.set_cons_zero, List.set_cons_succ]
            refine wpL_take 1 (oi := ⟨some 113, _, _, _, _, _⟩) (v := ?_) rfl (by kernel_rfl) (by kernel_rfl) (by kernel_rfl) (by kernel_rfl) (fun _ _ _ h => h) (Or.inl ⟨by rfl, ?_⟩) HS0.out ?_
            rotate_left
            · intro V hV
              go_simp
              try with_reducible rfl
            try simp only [Act.put, List.setIfInBounds_toArray, List.set_cons_zero, List.set_cons_succ]
            refine wpL_take 2 (oi := ⟨some 114, _, _, _, _, _⟩) (v := ?_) rfl (by kernel_rfl) (by kernel_rfl) (by kernel_rfl) (by kernel_rfl) (fun _ _ _ h => h) (Or.inl ⟨by rfl, ?_⟩) HS0.out ?_
            rotate_left
            · intro V hV
              rw [hSS] at hV
              obtain ⟨a1, a3, a5, a7, a9, a11, a13⟩ := hV
              go_simp
              try with_reducible rfl
            try simp only [Act.put, List.setIfInBounds_toArray, List.set_cons_zero, List.set_cons_succ]
            refine wpL_take 3 (oi := ⟨some 115, _, _, _, _, _⟩) (v := ?_) rfl (by kernel_rfl) (by kernel_rfl) (by kernel_rfl) (by kernel_rfl) (fun _ _ _ h => h) (Or.inl ⟨by rfl, ?_⟩) HS0.out ?_
            rotate_left
            · intro V hV
              go_simp
              try with_reducible rfl
            try simp only [Act.put, List.setIfInBounds_toArray, List.set_cons_zero, List.set_cons_succ]
            refine wpL_take 4 (oi := ⟨some 116, _, _, _, _, _⟩) (v := ?_) rfl (by kernel_rfl) (by kernel_rfl) (by kernel_rfl) (by kernel_rfl) (fun _ _ _ h => h) (Or.inl ⟨by rfl, ?_⟩) HS0.out ?_
            rotate_left
            · intro V hV
              go_simp
              try with_reducible rfl
            try simp only [Act.put, List.setIfInBounds_toArray, List.set_cons_zero, List.set_cons_succ]
            refine wpL_take 5 (oi := ⟨some 117, _, _, _, _, _⟩) (v := ?_) rfl (by kernel_rfl) (by kernel_rfl) (by kernel_rfl) (by kernel_rfl) (fun _ _ _ h => h) (Or.inl ⟨by rfl, ?_⟩) HS0.out ?_
            rotate_left
            · intro V hV
              rw [hSS] at hV
              obtain ⟨a1, a3, a5, a7, a9, a11, a13⟩ := hV
              go_simp
              try with_reducible rfl
            try simp only [Act.put, List.setIfInBounds_toArray, List.set_cons_zero, List.set_cons_succ]
            refine wpL_take 6 (oi := ⟨some 118, _, _, _, _, _⟩) (v := ?_) rfl (by kernel_rfl) (by kernel_rfl) (by kernel_rfl) (by kernel_rfl) (fun _ _ _ h => h) (Or.inl ⟨by rfl, ?_⟩) HS0.out ?_
            rotate_left
            · intro V hV
              go_simp
              try with_reducible rfl
            try simp only [Act.put, List.setIfInBounds_toArray, List.set_cons_zero, List.set_cons_succ]
            refine wpL_take 7 (oi := ⟨some 119, _, _, _, _, _⟩) (v := ?_) rfl (by kernel_rfl) (by kernel_rfl) (by kernel_rfl) (by kernel_rfl) (fun _ _ _ h => h) (Or.inl ⟨by rfl, ?_⟩) HS0.out ?_
            rotate_left
            · intro V hV
              go_simp
              try with_reducible rfl
            try simp only [Act.put, List.setIfInBounds_toArray, List.set_cons_zero, List.set_cons_succ]
            refine wpL_take 8 (oi := ⟨some 120, _, _, _, _, _⟩) (v := ?_) rfl (by kernel_rfl) (by kernel_rfl) (by kernel_rfl) (by kernel_rfl) (fun _ _ _ h => h) (Or.inl ⟨by rfl, ?_⟩) HS0.out ?_
            rotate_left
            · intro V hV
              rw [hSS] at hV
              obtain ⟨a1, a3, a5, a7, a9, a11, a13⟩ := hV
              go_simp
              try with_reducible rfl
            try simp only [Act.put, List.setIfInBounds_toArray, List.set_cons_zero, List.set_cons_succ]
            refine wpL_take 9 (oi := ⟨some 121, _, _, _, _, _⟩) (v := ?_) rfl (by kernel_rfl) (by kernel_rfl) (by kernel_rfl) (by kernel_rfl) (fun _ _ _ h => h) (Or.inl ⟨by rfl, ?_⟩) HS0.out ?_
            rotate_left
            · intro V hV
              go_simp
              try with_reducible rfl
            try simp only [Act.put, List.setIfInBounds_toArray, List.set_cons_zero, List.set_cons_succ]
            refine wpL_take 10 (oi := ⟨some 122, _, _, _, _, _⟩) (v := ?_) rfl (by kernel_rfl) (by kernel_rfl) (by kernel_rfl) (by kernel_rfl) (fun _ _ _ h => h) (Or.inl ⟨by rfl, ?_⟩) HS0.out ?_
            rotate_left
            · intro V hV
              go_simp
              try with_reducible rfl
            try simp only [Act.put, List.setIfInBounds_toArray, List.set_cons_zero, List.set_cons_succ]
            refine wpL_take 11 (oi := ⟨some 123, _, _, _, _, _⟩) (v := ?_) rfl (by kernel_rfl) (by kernel_rfl) (by kernel_rfl) (by kernel_rfl) (fun _ _ _ h => h) (Or.inl ⟨by rfl, ?_⟩) HS0.out ?_
            rotate_left
            · intro V hV
              rw [hSS] at hV
              obtain ⟨a1, a3, a5, a7, a9, a11, a13⟩ := hV
              go_simp
              try with_reducible rfl
            try simp only [Act.put, List.setIfInBounds_toArray, List.set_cons_zero, List.set_cons_succ]
            refine wpL_take 12 (oi := ⟨some 124, _, _, _, _, _⟩) (v := ?_) rfl (by kernel_rfl) (by kernel_rfl) (by kernel_rfl) (by kernel_rfl) (fun _ _ _ h => h) (Or.inl ⟨by rfl, ?_⟩) HS0.out ?_
            rotate_left
            · intro V hV
              go_simp
              try with_reducible rfl
            try simp only [Act.put, List.setIfInBounds_toArray, List.set_cons_zero, List.set_cons_succ]
            refine wpL_take 13 (oi := ⟨some 125, _, _, _, _, _⟩) (v := ?_) rfl (by kernel_rfl) (by kernel_rfl) (by kernel_rfl) (by kernel_rfl) (fun _ _ _ h => h) (Or.inl ⟨by rfl, ?_⟩) HS0.out ?_
            rotate_left
            · intro V hV
              go_simp
              try with_reducible rfl
            try simp only [Act.put, List.setIfInBounds_toArray, List.set_cons_zero, List.set_cons_succ]
            refine wpL_take 14 (oi := ⟨some 126, _, _, _, _, _⟩) (v := ?_) rfl (by kernel_rfl) (by kernel_rfl) (by kernel_rfl) (by kernel_rfl) (fun _ _ _ h => h) (Or.inl ⟨by rfl, ?_⟩) HS0.out ?_
            rotate_left
            · intro V hV
              rw [hSS] at hV
              obtain ⟨a1, a3, a5, a7, a9, a11, a13⟩ := hV
              go_simp
              try with_reducible rfl
            try simp only [Act.put, List.setIfInBounds_toArray, List.set_cons_zero, List.set_cons_succ]
            refine wpL_take 15 (oi := ⟨some 127, _, _, _, _, _⟩) (v := ?_) rfl (by kernel_rfl) (by kernel_rfl) (by kernel_rfl) (by kernel_rfl) (fun _ _ _ h => h) (Or.inl ⟨by rfl, ?_⟩) HS0.out ?_
            rotate_left
            · intro V hV
              go_simp
              try with_reducible rfl
            try simp only [Act.put, List.setIfInBounds_toArray, List.set_cons_zero, List.set_cons_succ]
            refine wpL_take 16 (oi := ⟨some 128, _, _, _, _, _⟩) (v := ?_) rfl (by kernel_rfl) (by kernel_rfl) (by kernel_rfl) (by kernel_rfl) (fun _ _ _ h => h) (Or.inl ⟨by rfl, ?_⟩) HS0.out ?_
            rotate_left
            · intro V hV
              go_simp
              try with_reducible rfl
            try simp only [Act.put, List.setIfInBounds_toArray, List.set_cons_zero, List.set_cons_succ]
            refine wpL_take 17 (oi := ⟨some 129, _, _, _, _, _⟩) (v := ?_) rfl (by kernel_rfl) (by kernel_rfl) (by kernel_rfl) (by kernel_rfl) (fun _ _ _ h => h) (Or.inl ⟨by rfl, ?_⟩) HS0.out ?_
            rotate_left
            · intro V hV
              rw [hSS] at hV
              obtain ⟨a1, a3, a5, a7, a9, a11, a13⟩ := hV
              go_simp
              try with_reducible rfl
            try simp only [Act.put, List.setIfInBounds_toArray, List.set_cons_zero, List.set_cons_succ]
            refine wpL_take 18 (oi := ⟨some 130, _, _, _, _, _⟩) (v := ?_) rfl (by kernel_rfl) (by kernel_rfl) (by kernel_rfl) (by kernel_rfl) (fun _ _ _ h => h) (Or.inl ⟨by rfl, ?_⟩) HS0.out ?_
            rotate_left
            · intro V hV
              go_simp
              try with_reducible rfl
            try simp only [Act.put, List.setIfInBounds_toArray, List.set_cons_zero, List.set_cons_succ]
            refine wpL_take 19 (oi := ⟨some 131, _, _, _, _, _⟩) (v := ?_) rfl (by kernel_rfl) (by kernel_rfl) (by kernel_rfl) (by kernel_rfl) (fun _ _ _ h => h) (Or.inl ⟨by rfl, ?_⟩) HS0.out ?_
            rotate_left
            · intro V hV
              go_simp
              try with_reducible rfl
            try simp only [Act.put, List.setIfInBounds_toArray, List.set_cons_zero, List.set_cons_succ]
            refine wpL_take 20 (oi := ⟨some 132, _, _, _, _, _⟩) (v := ?_) rfl (by kernel_rfl) (by kernel_rfl) (by kernel_rfl) (by kernel_rfl) (fun _ _ _ h => h) (Or.inl ⟨by rfl, ?_⟩) HS0.out ?_
            rotate_left
            · intro V hV
              rw [hSS] at hV
              obtain ⟨a1, a3, a5, a7, a9, a11, a13⟩ := hV
              go_simp
              try with_reducible rfl
            try simp only [Act.put, List.setIfInBounds_toArray, List.set_cons_zero, List.set_cons_succ]
            refine wpL_take 21 (oi := ⟨some 133, _, _, _, _, _⟩) (v := .agg (cfC ⟨a, b, c, d, e, f, g, []⟩ none 0)) rfl (by kernel_rfl) (by kernel_rfl) (by kernel_rfl) (by kernel_rfl) (fun _ _ _ h => h) (Or.inl ⟨by rfl, ?_⟩) HS0.out ?_
            · intro V hV
              go_simp
              try rfl
            try simp only [Act.put, List.setIfInBounds_toArray, List.set_cons_zero, List.set_cons_succ]
            refine wpL_one 22 (by kernel_rfl) rfl (fun K hK => ?_)
            rw [if_pos (by rfl)]
            go_simp
            refine hK _ _ (fun _ => HSA.out _) ?_
            clear hK K

            try simp only [Act.put, List.setIfInBounds_toArray, List.set_cons_zero, List.set_cons_succ]
            refine wpL_one 23 (by kernel_rfl) rfl (fun K hK => ?_)
            refine one_skip (by rfl) (run_put_at 44 (.tmp 14) (.tmp 133) rfl wr.heap.size 0 (cfC ⟨a, b, c, d, e, f, g, []⟩ none 0) rfl rfl 44 (cfC Cfg.zero none 0) (Blk.new wr.drew 44 (cfC Cfg.zero none 0)) (ld44 _ rfl) (Nat.le_refl 8) (cf_all _ _ _) _ (cput _ _ rfl rfl)) (hK _ _ (fun _ => HSB.out _ _) ?_)
            clear hK K
            try simp only [Act.put, List.setIfInBounds_toArray, List.set_cons_zero, List.set_cons_succ]
            refine wpL_done (by kernel_rfl) ?_ _
            obtain ⟨c0, hc0⟩ : ∃ c0 : Cfg, c0 = ⟨a, b, c, d, e, f, g, []⟩ := ⟨_, rfl⟩
            generalize hW5 : World.setRow (World.alloc wr.drew _) _ _ = W5
            have HBX5 : Hid (Blk W5 wr.heap.size 44 (cfC { c0 with votes := [] } none 0)) := by
              show Blk _ _ _ _
              rw [← hW5, hc0]
              exact Blk.row (Blk.new wr.drew _ _) _
            have hb5 : Below wr.heap.size wr W5 := by
              rw [← hW5]
              exact (((Below.refl wr.heap.size wr).drew).alloc (Nat.le_refl _) _).trans ((only_setRow _ wr.heap.size _).below (by first | omega | (simp <;> omega)) (fun k hk e => by omega))
            have hw5 : wr.heap.size ≤ W5.heap.size := hb5.size
            have HB5 := hide (HBR.out.trans (hb5.mono hswr))
            have hw45 : W4.heap.size ≤ W5.heap.size := HB5.out.size
            clear hW5
            have HPR0 : Hid (pairP cfNames l = some [c0.nodes, c0.window, c0.base, c0.step, c0.cap, c0.room, c0.floor]) := by show _ = _; rw [HPR.out, hc0]
            clear hc0 HS0 HSA HSB HALL HPR SS hSS HZR HRLR HHR HBW HO HCK HBR
            have HM5 := hide (HRM.out.below HB5.out)
            have HL5 : Hid (VtJ W4.heap.size W5 m vs c0 wr.heap.size Z (.int .i64 1) W5) := ⟨1, [], none, 0, Nat.le_refl _, by rw [← HML.out]; omega, rfl, HBX5.out, ⟨World.ownsRow_nil _ _ _ _, Nat.zero_le _⟩, Below.refl _ _, by rw [HMV.out]; simp, rfl⟩
            obtain ⟨p, hp⟩ : ∃ p, p = wr.heap.size := ⟨_, rfl⟩
            rw [← hp] at HBX5 HL5 ⊢
            have hpw : W4.heap.size ≤ p := by omega
            have hp5 : p < W5.heap.size := HBX5.out.lt
            clear hp
            obtain ⟨W, hW⟩ : ∃ W, W = wr := ⟨_, rfl⟩
            clear hW
            go_upto_region 16 with fail
            go_loopw [15] (fun i wr => VtJ W4.heap.size W5 m vs c0 p Z i wr) (fun i _ => ML - (intOf i).toNat)
            case atStart => exact HL5.out
            case round =>
              clear HL5 HBX5
              unfold VtJ at hrel
              obtain ⟨j, lv, A, k, hj1, hj2, rfl, hbx, hcu, hbr, hvp, hlen⟩ := hrel
              have HBX := hide hbx
              have HCU := hide hcu
              have HBR := hide hbr
              have HVP := hide hvp
              rw [← HML.out] at hj2
              clear hbx hcu hbr hvp
              have hswr : W5.heap.size ≤ wr.heap.size := HBR.out.size
              have j0 : (0 : Int) ≤ (j : Int) := by omega
              have HZR := hide ((HZ4.out.below HB5.out HZ4.out.lt).below HBR.out HZ4.out.lt)
              have HBW := hide (HB4.out.trans ((HB5.out.mono HB4.out.size).trans (HBR.out.mono HB4.out.size)))
              have HMR := hide (HM5.out.below HBR.out)
              by_cases hlt : j < ML
              · have js : (j : Int) < (ML : Int) := by omega
                obtain ⟨d, hd⟩ : ∃ d, m[j]? = some d := ⟨_, List.getElem?_eq_getElem (by rw [← HML.out]; exact hlt)⟩
                obtain ⟨m0, m1⟩ := HMR.out.at_ j d hd
                have hdl : d.1.length ≤ 100000000 := HMZ.out d (List.mem_of_getElem? hd)
                have HNX : Hid (∀ W, Calls Tryd.prog 69 #[.agg #[.bool d.2, .string (S d.1)]] W fun e w' => e = .returned (.int .i64 (wcntZ d)) ∧ Below W.heap.size W w') := fun W => HNU.out d W hdl
                obtain ⟨x, hx⟩ : ∃ x, x = wcntZ d := ⟨_, rfl⟩
                rw [← hx] at HNX
                have HX := hide hx
                have HD : Hid (m.drop j = d :: m.drop (j + 1)) := by
                  show _ = _
                  obtain ⟨h1, h2⟩ := List.getElem?_eq_some_iff.1 hd
                  rw [List.drop_eq_getElem_cons h1, h2]
                have HVD : Hid (vs[j - 1]? = some d) := by
                  show _ = _
                  have h := hd
                  rw [HMV.out, show j = j - 1 + 1 by omega] at h
                  simpa using h
                clear hd hx
                have HLV := hide hlen
                clear hlen
                go_upto_region 19 with (go_at_call 69; refine (HNX.out _).mono ?_; rintro e w2 ⟨rfl, hb2⟩; have hbb : Below W4.heap.size wr w2 := hb2.mono (by omega); have HBX2 := hide (HBX.out.below hb2 HBX.out.lt); have HCU2 := hide (HCU.out.step hb2); have HB2 := hide (HBR.out.trans hbb); have HZ2 := hide (HZR.out.below hb2 HZR.out.lt); have HBW2 := hide (HBW.out.trans (hb2.mono HBW.out.size)); clear hb2 hbb)
                clear m0 m1 HBX HCU HZR HBW HBR HMR
                have hsw2 : W5.heap.size ≤ w2.heap.size := HB2.out.size
                by_cases hx0 : x < 0
                · have HR : Hid (F = none) := by
                    show _ = _
                    have h1 : wcnt d = none := wcntZ_no (by rw [← HX.out]; omega)
                    have h2 := vot_bad vs (j - 1) d HVD.out h1
                    rw [HFP.out, HMV.out]
                    by_cases hvs' : 1 ≤ vs.length ∧ vs.length ≤ 16
                    · rw [cfgP_good HPR0.out HVN.out hvs', h2]
                      rfl
                    · exact cfgP_len (by simp; omega)
                  go_wp2_with (refine wpList_put_at rfl 44 (.tmp 4) (.tmp 147) rfl (w.heap.size) 0 (cfC Cfg.zero none 0) rfl rfl 44 Z HZ2.out (ld44 _ rfl) (by rw [cf_size, hZs]; omega) (cf_all _ _ _) _ (cput Z _ hZs rfl) ?_)
                  refine bodyPost_ret (results_44b rfl _ rfl (HZ2.out.row _) rfl rfl) rfl ?_
                  exact cnf_no _ (Nat.le_refl _) HZ2.out HBW2.out HR.out
                · obtain ⟨y, hy⟩ : ∃ y : Nat, x = (y : Int) := ⟨x.toNat, by omega⟩
                  have HVJ : Hid (votP vs = (votP (m.drop (j + 1))).map ((lv ++ [x]) ++ ·)) := by
                    show _ = _
                    obtain ⟨z, hz1, hz2⟩ := wcntZ_of (d := d) (by rw [← HX.out]; omega)
                    rw [HVP.out, HD.out, votP, hz1]
                    simp only
                    rw [Option.map_map, HX.out, hz2]
                    congr 1
                    funext l
                    simp
                  have hvn : (lv.length : Nat) + 1 ≤ 16 := by have := HLV.out; omega
                  have HLV2 := HLV
                  have kv := HBX2.out.cell 7
                  have kv2 : w2.cell? ⟨p, 7, none⟩ = some (.slice A lv.length k) := kv
                  clear kv
                  obtain ⟨n, hn⟩ : ∃ n, n = lv.length := ⟨_, rfl⟩
                  have hrow := HCU2.out.own
                  have HROW : Hid (w2.ownsRow W5.heap.size 3 1 (.slice A n k) n (ints lv)) := by show World.ownsRow _ _ _ _ _ _ _; rw [hn]; exact hrow
                  rw [← hn] at kv2 hvn
                  have HNL := hide hn
                  clear hrow hn
                  have HPU : Hid (∀ g8 c8 w8 o, w8.ownsRow W5.heap.size 3 1 (.slice (some ⟨g8, 0, none⟩) (n + 1) c8) (n + 1) (ints lv ++ [.int .i64 x]) → (w2.alloc o).grownBy w8 (Value.slice A n k).ownBlock → Blk w8 p 44 (cfC { c0 with votes := lv } A k) ∧ VtJ W4.heap.size W5 m vs c0 p Z (.int .i64 ((j : Int) + 1)) (w8.setCell ⟨p, 7, none⟩ (.slice (some ⟨g8, 0, none⟩) (n + 1) c8))) := by
                    intro g8 c8 w8 o hown8 hgr8
                    have hrA : (w2.alloc o).ownsRow W5.heap.size 3 1 (.slice A n k) n (ints lv) := own_step HROW.out ((Below.refl _ _).alloc (Nat.le_refl _) o)
                    have hbox : Blk w8 p 44 (cfC { c0 with votes := lv } A k) := (HBX2.out.alloc o).grown hgr8 (own_ne hrA (HBX2.out.alloc o) (by decide))
                    have hW := only_setCell0 w8 p 7 (.slice (some ⟨g8, 0, none⟩) (n + 1) c8)
                    have hn1 : (lv ++ [x]).length = n + 1 := by simp [HNL.out]
                    have hb8 : Below W5.heap.size w2 w8 := ((Below.refl _ _).alloc hsw2 o).grown hgr8 (by simp; omega) (fun k' hk => (hrA.lt k' hk).1)
                    have hs8 := hb8.size
                    have hb9 : Below W4.heap.size W5 w8 := HB2.out.trans (hb8.mono hw45)
                    refine ⟨hbox, j + 1, lv ++ [x], some ⟨g8, 0, none⟩, c8, by omega, by rw [← HML.out]; omega, by go_num, ?_, ?_, ?_, HVJ.out, ?_⟩
                    · have := hbox.set_ 7 (.slice (some ⟨g8, 0, none⟩) (n + 1) c8)
                      rw [← hn1, cset_votes] at this
                      rw [← hn1]
                      exact this
                    · refine CfU.far (t := 44) (cs := cfC { c0 with votes := lv } A k) ⟨?_, ?_⟩ hbox (by decide) hW
                      · show World.ownsRow _ _ _ _ (.slice _ (lv ++ [x]).length _) (lv ++ [x]).length (ints (lv ++ [x]))
                        rw [hn1]
                        have e : ints (lv ++ [x]) = ints lv ++ [.int .i64 x] := by simp [ints]
                        rw [e]
                        exact hown8
                      · show (lv ++ [x]).length ≤ 16
                        rw [hn1]
                        exact hvn
                    · exact hb9.trans (hW.below (by omega) (fun k' hk e => by omega))
                    · rw [hn1, HNL.out]
                      have := HLV2.out
                      omega
                  clear hy
                  go_wp2_with (at_builtin; refine wpList_push (W := w2) (cs := #[.int .i64 x]) rfl (.tmp 149) (.tmp 151) _ rfl W5.heap.size 3 i3 _ 1 8 Tryd.underlying27 I3.out hz3 hs3 hb3 rfl (by omega) (.slice A n k) n _ rfl HROW.out 1 1 rfl rfl (by simp [Value.oneCell']) (by omega) (by unfold maxLen; omega) (by omega) hsw2 ?_; intro g8 c8 w8 hown8 hgr8 hb8 _ _ _; have HB8 := hide (HPU.out g8 c8 w8 _ hown8 hgr8).1; have HL8 := hide (HPU.out g8 c8 w8 _ hown8 hgr8).2; have c9 := HB8.out.cell 7; have f9 := Blk.frozen HB8.out 7; clear hown8 hb8 hgr8)
                  go_roundw
                  case rel => first | exact HL8.out | exact ⟨_, HL8.out, rfl⟩
                  case measure => simp [intOf]; omega
              · have js : ¬ (j : Int) < (ML : Int) := by omega
                have hjl : j = ML := by omega
                have HR : Hid (F = some { c0 with votes := lv }) := by
                  show _ = _
                  rw [HFP.out, HMV.out, cfgP_good HPR0.out HVN.out (by omega), HVP.out, List.drop_eq_nil_of_le (by rw [← HML.out]; omega)]
                  simp [votP]
                go_upto_region 22 with fail
                refine wp_region_lit ?_
                refine wpList_value rfl (.agg (cfC { c0 with votes := lv } A k)) (ex_load 44 (.tmp 14) rfl _ rfl _ _ Tryd.underlying44 rfl (ld44 _ rfl) (box_all HBX.out)) ?_
                simp only [Act.put, List.setIfInBounds_toArray, List.set_cons_zero, List.set_cons_succ]
                go_wp2_with (refine wpList_put_at rfl 44 (.tmp 4) (.tmp 154) rfl (w.heap.size) 0 (cfC { c0 with votes := lv } A k) rfl rfl 44 Z HZR.out (ld44 _ rfl) (by rw [cf_size, hZs]; omega) (cf_all _ _ _) _ (cput Z _ hZs rfl) ?_)
                refine bodyPost_ret (results_44b rfl _ rfl (HZR.out.row _) rfl rfl) rfl ?_
                exact cnf_yes (Nat.le_refl _) HZR.out HBW.out (HCU.out.base (by omega)) HR.out
end Go.Proofs.YtcibcmfaebbhnaaDoor
