/-
  The program's unmark: a line read behind a cursor, and held against itself. (Printed by wip/tools/mkwide.py.)
-/
import Derived.Test.YtenebkkfjalcaaaDoorZWap
import Derived.Test.YtenebkkfjalcaaaDoorZPbx
import Derived.Test.YtenebkkfjalcaaaDoorZMar
import Derived.Test.YtenebkkfjalcaaaDoorZRmk
set_option linter.unusedVariables false
set_option linter.unusedSimpArgs false
namespace Go.Proofs.YtenebkkfjalcaaaDoor.Wide
open Go.RowKit Go.WideShapes Go.ChangeShapes Q

theorem ld73 : (Tryd.prog.info? 73).map (·.size) = some kindV.size := by kernel_rfl
set_option maxRecDepth 100000 in
theorem run_index73 (cs : Array Value) (j : Nat) (X : ByteArray) (h : cs[j]? = some (.string X)) (hj : j < 17) (W : World) : (Instr.index 73 (.agg cs) (.int .i64 (j : Int))).run Tryd.prog W = .ok (.string X) W := by
  have h3 : (j : Int) < 17 := by omega
  have h4 : ∀ w, (isAgg 9).run Tryd.prog w = .ok false w := run_isAgg_plain Tryd.underlying9 rfl
  simp [Instr.index, run_underlying Tryd.underlying73, asIntOf, h3, part, go_sem, h4, h, Sem.run_bind, Result.andThen]
  omega
/-- How far the loop over the parts is. -/
def cmeas (n c : Nat) (wr : World) : Nat := match wr.cell? ⟨c, 2, none⟩ with
  | some (.bool false) => n + 1 - atOf wr c
  | _ => 0
theorem cu_meas {w : World} {c k n : Nat} {s : ByteArray} {bad : Bool} (h : Cu w c s k bad) : cmeas n c w = if bad = true then 0 else n + 1 - k := by
  unfold cmeas
  rw [cu2 h, h.at_]
  cases bad <;> rfl
/-- What the loop over the kinds keeps. -/
def KLoop1 (m0 : Mk) (word : List UInt8) (b : Nat) (s : ByteArray) (k : Nat) (bad : Bool) (W0 : World) (i : Value) (wr : World) : Prop := ∃ j : Nat, j ≤ 17 ∧ i = .int .i64 j ∧ PC wr b b (b + 1) { m0 with kd := kfold word (j - 1) } s k bad ∧ Below b W0 wr
/-- What the loop over the parts keeps. -/
def ULoop1 (R : PM × Nat × Bool) (b : Nat) (s : ByteArray) (W0 wr : World) : Prop := ∃ (m1 : Mk) (k1 : Nat) (b1 : Bool), PC wr b b (b + 1) m1 s k1 b1 ∧ k1 ≤ s.size ∧ R = unmP s.data.toList m1.pm k1 b1 ∧ PZ m1.pm k1 s.size ∧ Below b W0 wr
theorem until_st (stops : List UInt8) (s : ByteArray) (k b : Nat) (bad : Bool) (w : World) (h : Cu w b s k bad) (hk : k ≤ s.size) (hs : s.size ≤ 1000000000000) :
    Calls Tryd.prog 46 #[.pointer (some ⟨b, 0, none⟩), .string (S stops)] w fun e w' => e = .returned (.string (S (untL stops (s.data.toList.drop k)))) ∧ Cu w' b s (k + (untL stops (s.data.toList.drop k)).length) bad ∧ Only (fun q => q = b) w w' := until_any stops s k b bad w h hk hs

set_option maxRecDepth 100000 in
set_option maxHeartbeats 16000000 in
theorem unmark_wide (s : ByteArray) (w : World) (hs : s.size ≤ 130000000) (hZ0 : PZ (unmA s.data.toList).1 1048576 1048576) (hT : Tab w) (hK : KT w) :
    Calls Tryd.prog 24 #[.string s] w fun e w' => RdP s.data.toList w e w' := by
  have hs' : s.size ≤ 1000000000000 := by omega
  have HT := hide hT
  have HZ0 := hide hZ0
  clear hZ0
  have HKT := hide hK
  obtain ⟨l, hl⟩ : ∃ l, l = s.data.toList := ⟨_, rfl⟩
  obtain ⟨v1, h_v1⟩ : ∃ v1, v1 = nV s.data.toList 0 := ⟨_, rfl⟩
  obtain ⟨k1, h_k1⟩ : ∃ k1, k1 = nK s.data.toList 0 := ⟨_, rfl⟩
  obtain ⟨b1, h_b1⟩ : ∃ b1, b1 = nB s.data.toList 0 false := ⟨_, rfl⟩
  have l1 : k1 ≤ s.size := by rw [h_k1]; exact nK_le (Nat.zero_le _)
  obtain ⟨k2, h_k2⟩ : ∃ k2, k2 = sK [32] s.data.toList k1 := ⟨_, rfl⟩
  obtain ⟨b2, h_b2⟩ : ∃ b2, b2 = sB [32] s.data.toList k1 b1 := ⟨_, rfl⟩
  have l2 : k2 ≤ s.size := by rw [h_k2]; exact sK_le _ l1
  obtain ⟨word, h_word⟩ : ∃ word, word = untL [32] (s.data.toList.drop k2) := ⟨_, rfl⟩
  obtain ⟨k3, h_k3⟩ : ∃ k3, k3 = k2 + word.length := ⟨_, rfl⟩
  have l3 : k3 ≤ s.size := by
    have := unt_le [32] s.data.toList k2 (by rw [str_len]; exact l2)
    rw [str_len, ← h_word] at this
    rw [h_k3]
    exact this
  obtain ⟨k4, h_k4⟩ : ∃ k4, k4 = sK [32] s.data.toList k3 := ⟨_, rfl⟩
  obtain ⟨b4, h_b4⟩ : ∃ b4, b4 = sB [32] s.data.toList k3 b2 := ⟨_, rfl⟩
  have l4 : k4 ≤ s.size := by rw [h_k4]; exact sK_le _ l3
  obtain ⟨v5, h_v5⟩ : ∃ v5, v5 = nV s.data.toList k4 := ⟨_, rfl⟩
  obtain ⟨k5, h_k5⟩ : ∃ k5, k5 = nK s.data.toList k4 := ⟨_, rfl⟩
  obtain ⟨b5, h_b5⟩ : ∃ b5, b5 = nB s.data.toList k4 b4 := ⟨_, rfl⟩
  have l5 : k5 ≤ s.size := by rw [h_k5]; exact nK_le l4
  obtain ⟨k6, h_k6⟩ : ∃ k6, k6 = sK [32] s.data.toList k5 := ⟨_, rfl⟩
  obtain ⟨b6, h_b6⟩ : ∃ b6, b6 = sB [32] s.data.toList k5 b5 := ⟨_, rfl⟩
  have l6 : k6 ≤ s.size := by rw [h_k6]; exact sK_le _ l5
  obtain ⟨v7, h_v7⟩ : ∃ v7, v7 = nV s.data.toList k6 := ⟨_, rfl⟩
  obtain ⟨k7, h_k7⟩ : ∃ k7, k7 = nK s.data.toList k6 := ⟨_, rfl⟩
  obtain ⟨b7, h_b7⟩ : ∃ b7, b7 = nB s.data.toList k6 b6 := ⟨_, rfl⟩
  have l7 : k7 ≤ s.size := by rw [h_k7]; exact nK_le l6
  have H1 : Hid (∀ W c, Cu W c s 0 false → Calls Tryd.prog 44 #[.pointer (some ⟨c, 0, none⟩)] W fun e w' => e = .returned (.int .i64 v1) ∧ Cu w' c s k1 b1 ∧ Only (fun q => q = c) W w') := fun W c hW => by rw [h_v1, h_k1, h_b1]; exact number_st s 0 c false W hW (Nat.zero_le _) hs'
  have H2 : Hid (∀ W c, Cu W c s k1 b1 → Calls Tryd.prog 45 #[.pointer (some ⟨c, 0, none⟩), .string (S [32])] W fun e w' => e = .returned (.tuple #[]) ∧ Cu w' c s k2 b2 ∧ Only (fun q => q = c) W w') := fun W c hW => by rw [h_k2, h_b2]; exact skip_st [32] s k1 c b1 W hW l1 hs' (by simp)
  have H3 : Hid (∀ W c, Cu W c s k2 b2 → Calls Tryd.prog 46 #[.pointer (some ⟨c, 0, none⟩), .string (S [32])] W fun e w' => e = .returned (.string (S word)) ∧ Cu w' c s k3 b2 ∧ Only (fun q => q = c) W w') := fun W c hW => by rw [h_k3, h_word]; exact until_st [32] s k2 c b2 W hW l2 hs'
  have H4 : Hid (∀ W c, Cu W c s k3 b2 → Calls Tryd.prog 45 #[.pointer (some ⟨c, 0, none⟩), .string (S [32])] W fun e w' => e = .returned (.tuple #[]) ∧ Cu w' c s k4 b4 ∧ Only (fun q => q = c) W w') := fun W c hW => by rw [h_k4, h_b4]; exact skip_st [32] s k3 c b2 W hW l3 hs' (by simp)
  have H5 : Hid (∀ W c, Cu W c s k4 b4 → Calls Tryd.prog 44 #[.pointer (some ⟨c, 0, none⟩)] W fun e w' => e = .returned (.int .i64 v5) ∧ Cu w' c s k5 b5 ∧ Only (fun q => q = c) W w') := fun W c hW => by rw [h_v5, h_k5, h_b5]; exact number_st s k4 c b4 W hW l4 hs'
  have H6 : Hid (∀ W c, Cu W c s k5 b5 → Calls Tryd.prog 45 #[.pointer (some ⟨c, 0, none⟩), .string (S [32])] W fun e w' => e = .returned (.tuple #[]) ∧ Cu w' c s k6 b6 ∧ Only (fun q => q = c) W w') := fun W c hW => by rw [h_k6, h_b6]; exact skip_st [32] s k5 c b5 W hW l5 hs' (by simp)
  have H7 : Hid (∀ W c, Cu W c s k6 b6 → Calls Tryd.prog 44 #[.pointer (some ⟨c, 0, none⟩)] W fun e w' => e = .returned (.int .i64 v7) ∧ Cu w' c s k7 b7 ∧ Only (fun q => q = c) W w') := fun W c hW => by rw [h_v7, h_k7, h_b7]; exact number_st s k6 c b6 W hW l6 hs'
  obtain ⟨pm0, h_pm0⟩ : ∃ pm0 : PM, pm0 = { PM.zero with aT := v1, kd := kindC word, nd := v5, ic := v7 } := ⟨_, rfl⟩
  have HUA : Hid (unmA s.data.toList = ((unmP s.data.toList pm0 k7 b7).1, (unmP s.data.toList pm0 k7 b7).2.2)) := by
    show _ = _
    rw [h_pm0, h_b7, h_v7, h_k7, h_b6, h_k6, h_b5, h_v5, h_k5, h_b4, h_k4, h_k3, h_word, h_b2, h_k2, h_b1, h_v1, h_k1]
    rfl
  have HP0 : Hid (({ Mk.zero with aT := v1, kd := kfold word 16, nd := v5, ic := v7 } : Mk).pm = pm0) := by
    show _ = _
    rw [h_pm0]
    rfl
  obtain ⟨WD, h_WD⟩ : ∃ WD, WD = S word := ⟨_, rfl⟩
  have HWD : Hid (∀ j, (S (kindL.getD j [])).toList = WD.toList ↔ kindL.getD j [] = word) := fun j => by
    rw [h_WD, ByteArray.toList_eq, ByteArray.toList_eq]
    exact Iff.rfl
  rw [← h_WD] at H3
  clear h_WD h_pm0 h_b7 h_v7 h_k7 h_b6 h_k6 h_b5 h_v5 h_k5 h_b4 h_k4 h_k3 h_word h_b2 h_k2 h_b1 h_v1 h_k1 hT hK hl l
  go_enter Tryd.func24, Tryd.ntmps24
  go_upto_region 1 with fail
  generalize hW0 : World.alloc w _ = W0
  have hZ : ∃ Z : Array Value, Z.size = 26 ∧ Blk W0 w.heap.size 48 Z := by
    rw [← hW0]
    exact ⟨_, rfl, Blk.new _ _ _⟩
  have hL : Below w.heap.size w W0 := by rw [← hW0]; exact (Below.refl _ _).alloc (Nat.le_refl _) _
  obtain ⟨b, hb⟩ : ∃ b, b = W0.heap.size := ⟨_, rfl⟩
  have hbw : b = w.heap.size + 1 := by rw [hb, ← hW0]; simp
  have HZ := hide hZ
  have HL := hide hL
  have HBW := hide hbw
  clear hW0 hZ hL hbw
  go_upto_region 3 with fail
  generalize hW1 : World.alloc (World.alloc W0 _) _ = W1
  have HPC1 : Hid (PC W1 b b (b + 1) Mk.zero s 0 false) := by
    show PC _ _ _ _ _ _ _ _
    rw [← hW1, hb]
    refine ⟨(Blk.new _ _ _).alloc _, Blk.new' _ _ _ _ (by simp), MkU.zero _ _, Nat.le_refl _, by omega⟩
  have HLW1 : Hid (Below b W0 W1) := by
    show Below _ _ _
    rw [← hW1, hb]
    exact ((Below.refl _ _).alloc (Nat.le_refl _) _).alloc (by simp) _
  have HBB := hide hb
  rw [← hb]
  clear hW1 hb
  go_upto_region 4 with (go_at_call 44; refine (H1.out _ _ HPC1.out.cu).mono ?_; rintro e w2 ⟨rfl, hcu, hon⟩; have HP2 := hide (HPC1.out.cur hcu hon); have HL2 := hide (HLW1.out.trans (HPC1.out.lowc hon)); have cc := mb0 HP2.out.box; have ff := Blk.frozen HP2.out.box 0; clear hcu hon)
  generalize hw : World.setCell _ _ _ = w3
  have HP3 : Hid (PC w3 b b (b + 1) { Mk.zero with aT := v1 } s k1 b1) := by
    show PC _ _ _ _ _ _ _ _
    rw [← hw]
    exact (HP2.out.set 0 (.int .i64 v1) (set_aT _ v1) ⟨HP2.out.t.mem, HP2.out.t.tr, HP2.out.t.body, HP2.out.t.hm, HP2.out.t.ht, HP2.out.t.hb⟩).1
  have HL3 : Hid (Below b W0 w3) := by
    show Below _ _ _
    rw [← hw]
    exact HL2.out.trans (HP2.out.lowp (only_setCell0 _ _ _ _))
  clear hw cc ff
  go_upto_region 5 with (go_at_call 45; refine (H2.out _ _ HP3.out.cu).mono ?_; rintro e w4 ⟨rfl, hcu, hon⟩; have HP4 := hide (HP3.out.cur hcu hon); have HL4 := hide (HL3.out.trans (HP3.out.lowc hon)); clear hcu hon)
  go_upto_region 6 with (go_at_call 46; refine (H3.out _ _ HP4.out.cu).mono ?_; rintro e w5 ⟨rfl, hcu, hon⟩; have HP5 := hide (HP4.out.cur hcu hon); have HL5 := hide (HL4.out.trans (HP4.out.lowc hon)); clear hcu hon)
  have HKT5 : Hid (∀ j, j < 17 → w5.cell? ⟨0, j, none⟩ = kindV[j]?) := by
    intro j hj
    have h1 := HKT.out.below (HL.out.trans (HL5.out.mono (by have := HBW.out; omega)))
    exact h1.at_ j hj
  refine wp_region_lit ?_
  refine wpList_value rfl (.agg kindV) (ex_load 73 (.global 0) rfl ⟨0, 0, none⟩ rfl kindV _ Tryd.underlying73 rfl ld73 (fun j v hv => by
    have hj : j < 17 := (Array.getElem?_eq_some_iff.1 hv).1
    have e : (⟨0, 0, none⟩ : Addr).add j = ⟨0, j, none⟩ := by
      unfold Addr.add
      split
      · rename_i h0; subst h0; rfl
      · simp
    rw [e, HKT5.out j hj, hv])) ?_
  simp only [Act.put, List.setIfInBounds_toArray, List.set_cons_zero, List.set_cons_succ]
  obtain ⟨KV, hKV⟩ : ∃ KV, KV = kindV := ⟨_, rfl⟩
  have HKV := hide hKV
  rw [← hKV]
  clear hKV
  obtain ⟨m0, hm0⟩ : ∃ m0 : Mk, m0 = { Mk.zero with aT := v1 } := ⟨_, rfl⟩
  have HL1 : Hid (KLoop1 m0 word b s k3 b2 W0 (.int .i64 0) w5) := ⟨0, Nat.zero_le _, rfl, by rw [hm0]; exact HP5.out, HL5.out⟩
  have HM0 := hide hm0
  clear hm0
  go_upto_region 7 with fail
  go_loopw [7, 8, 21] (fun _ _ v wr => KLoop1 m0 word b s k3 b2 W0 v wr) (fun _ _ v _ => 17 - (intOf v).toNat)
  case atStart => exact HL1.out
  case round =>
    clear HL1
    unfold KLoop1 at hrel
    obtain ⟨j, hj, rfl, hpc, hlow⟩ := hrel
    have HPC := hide hpc
    have HLW := hide hlow
    clear hpc hlow
    have j0 : (0 : Int) ≤ (j : Int) := by omega
    by_cases hlt : j < 17
    · have js : (j : Int) < 17 := by omega
      obtain ⟨X, hX⟩ : ∃ X, X = S (kindL.getD j []) := ⟨_, rfl⟩
      have hkv : KV[j]? = some (.string X) := by rw [HKV.out, hX]; exact kindV_at hlt
      have hri := run_index73 KV j X hkv hlt
      clear hkv
      have HWX := hide (HWD.out j)
      rw [← hX] at HWX
      clear hX
      have cc := mb1 HPC.out.box
      have ff := Blk.frozen HPC.out.box 1
      by_cases he : kindL.getD j [] = word
      · have e1 : (X.toList == WD.toList) = true := by rw [beq_iff_eq]; exact HWX.out.2 he
        have HKF : Hid (kfold word (j + 1 - 1) = (j : Int)) := by
          show _ = _
          rw [show j + 1 - 1 = j by omega]
          rcases Nat.eq_zero_or_pos j with h0 | h0
          · rw [h0]; rfl
          · have := kfold_succ word (j - 1)
            rw [show j - 1 + 1 = j by omega, if_pos he] at this
            exact this
        clear he
        go_wp2_with fail
        generalize hw : World.setCell _ _ _ = w9
        have HP9 : Hid (PC w9 b b (b + 1) { m0 with kd := kfold word (j + 1 - 1) } s k3 b2) := by
          show PC _ _ _ _ _ _ _ _
          rw [← hw, HKF.out]
          exact (HPC.out.set 1 (.int .i64 (j : Int)) (set_kd _ _) ⟨HPC.out.t.mem, HPC.out.t.tr, HPC.out.t.body, HPC.out.t.hm, HPC.out.t.ht, HPC.out.t.hb⟩).1
        have HL9 : Hid (Below b W0 w9) := by
          show Below _ _ _
          rw [← hw]
          exact HLW.out.trans (HPC.out.lowp (only_setCell0 _ _ _ _))
        clear hw cc ff
        have HLX : Hid (KLoop1 m0 word b s k3 b2 W0 (.int .i64 ((j : Int) + 1)) w9) := ⟨j + 1, by omega, by go_num, HP9.out, HL9.out⟩
        go_wp2_with fail
        go_roundw
        case rel => first | exact HLX.out | exact ⟨_, HLX.out, rfl⟩ | exact ⟨_, _, _, HLX.out, rfl, rfl, rfl⟩
        case measure => simp [intOf]; omega
      · have e1 : (X.toList == WD.toList) = false := by
          rw [beq_eq_false_iff_ne]
          intro h
          exact he (HWX.out.1 h)
        have HKF : Hid (kfold word (j + 1 - 1) = kfold word (j - 1)) := by
          show _ = _
          rw [show j + 1 - 1 = j by omega]
          rcases Nat.eq_zero_or_pos j with h0 | h0
          · rw [h0]
          · have := kfold_succ word (j - 1)
            rw [show j - 1 + 1 = j by omega, if_neg he] at this
            exact this
        have HLX : Hid (KLoop1 m0 word b s k3 b2 W0 (.int .i64 ((j : Int) + 1)) wr) := ⟨j + 1, by omega, by go_num, by rw [HKF.out]; exact HPC.out, HLW.out⟩
        clear he cc ff
        go_wp2_with fail
        go_roundw
        case rel => first | exact HLX.out | exact ⟨_, HLX.out, rfl⟩ | exact ⟨_, _, _, HLX.out, rfl, rfl, rfl⟩
        case measure => simp [intOf]; omega
    · have js : ¬ (j : Int) < 17 := by omega
      have hj17 : j = 17 := by omega
      have HPZ : Hid (PC wr b b (b + 1) ({ Mk.zero with aT := v1, kd := kfold word 16 } : Mk) s k3 b2) := by
        have := HPC.out
        rw [hj17, HM0.out] at this
        exact this
      clear hlt hj17 HPC HP5 HL5
      go_upto_region 13 with (go_at_call 45; refine (H4.out _ _ HPZ.out.cu).mono ?_; rintro e w6 ⟨rfl, hcu, hon⟩; have HP6 := hide (HPZ.out.cur hcu hon); have HL6 := hide (HLW.out.trans (HPZ.out.lowc hon)); clear hcu hon)
      go_upto_region 14 with (go_at_call 44; refine (H5.out _ _ HP6.out.cu).mono ?_; rintro e w7 ⟨rfl, hcu, hon⟩; have HP7 := hide (HP6.out.cur hcu hon); have HL7 := hide (HL6.out.trans (HP6.out.lowc hon)); have cc := mb2 HP7.out.box; have ff := Blk.frozen HP7.out.box 2; clear hcu hon)
      generalize hw : World.setCell _ _ _ = w8
      have HP8 : Hid (PC w8 b b (b + 1) { Mk.zero with aT := v1, kd := kfold word 16, nd := v5 } s k5 b5) := by
        show PC _ _ _ _ _ _ _ _
        rw [← hw]
        exact (HP7.out.set 2 (.int .i64 v5) (set_nd _ v5) ⟨HP7.out.t.mem, HP7.out.t.tr, HP7.out.t.body, HP7.out.t.hm, HP7.out.t.ht, HP7.out.t.hb⟩).1
      have HL8 : Hid (Below b W0 w8) := by
        show Below _ _ _
        rw [← hw]
        exact HL7.out.trans (HP7.out.lowp (only_setCell0 _ _ _ _))
      clear hw cc ff
      go_upto_region 15 with (go_at_call 45; refine (H6.out _ _ HP8.out.cu).mono ?_; rintro e w9 ⟨rfl, hcu, hon⟩; have HP9 := hide (HP8.out.cur hcu hon); have HL9 := hide (HL8.out.trans (HP8.out.lowc hon)); clear hcu hon)
      go_upto_region 16 with (go_at_call 44; refine (H7.out _ _ HP9.out.cu).mono ?_; rintro e w10 ⟨rfl, hcu, hon⟩; have HP10 := hide (HP9.out.cur hcu hon); have HL10 := hide (HL9.out.trans (HP9.out.lowc hon)); have cc := mb3 HP10.out.box; have ff := Blk.frozen HP10.out.box 3; clear hcu hon)
      generalize hw : World.setCell _ _ _ = w11
      have HP11 : Hid (PC w11 b b (b + 1) { Mk.zero with aT := v1, kd := kfold word 16, nd := v5, ic := v7 } s k7 b7) := by
        show PC _ _ _ _ _ _ _ _
        rw [← hw]
        exact (HP10.out.set 3 (.int .i64 v7) (set_ic _ v7) ⟨HP10.out.t.mem, HP10.out.t.tr, HP10.out.t.body, HP10.out.t.hm, HP10.out.t.ht, HP10.out.t.hb⟩).1
      have HL11 : Hid (Below b W0 w11) := by
        show Below _ _ _
        rw [← hw]
        exact HL10.out.trans (HP10.out.lowp (only_setCell0 _ _ _ _))
      clear hw cc ff
      obtain ⟨R, hR⟩ : ∃ R, R = unmP s.data.toList pm0 k7 b7 := ⟨_, rfl⟩
      rw [← hR] at HUA
      have HLU : Hid (ULoop1 R b s W0 w11) := ⟨_, k7, b7, HP11.out, l7, by rw [HP0.out]; exact hR, ⟨Nat.zero_le _, Nat.zero_le _, Nat.zero_le _, Nat.zero_le _, Nat.zero_le _, Nat.zero_le _, Nat.zero_le _⟩, HL11.out⟩
      clear hR
      go_loopw [9] (fun _ wx => ULoop1 R b s W0 wx) (fun _ wx => cmeas s.size (b + 1) wx)
      case atStart => exact HLU.out
      case round =>
        clear HLU
        unfold ULoop1 at hrel
        obtain ⟨m1, kk, bb, hpc, hkk, hru, hpz, hlow⟩ := hrel
        have HPC2 := hide hpc
        have HRU := hide hru
        have HPZ2 := hide hpz
        have HLW2 := hide hlow
        have c0 := cu1 hpc.cu
        have c2 := cu2 hpc.cu
        clear hpc hru hpz hlow
        have hlen1 := RS.len (Reads.of_own HPC2.out.t.mem)
        have hlen2 := RI.len (Reads.of_own HPC2.out.t.tr)
        have kk0 : (0 : Int) ≤ (kk : Int) := by omega
        by_cases hgo : kk < s.size ∧ bb = false
        · obtain ⟨hlt2, rfl⟩ := hgo
          have js2 : (kk : Int) < (s.size : Int) := by omega
          obtain ⟨q1, h_q1⟩ : ∃ x, x = sK [32] s.data.toList kk := ⟨_, rfl⟩
          obtain ⟨d1, h_d1⟩ : ∃ x, x = sB [32] s.data.toList kk false := ⟨_, rfl⟩
          have g1 : q1 ≤ s.size := by rw [h_q1]; exact sK_le _ hkk
          obtain ⟨nm, h_nm⟩ : ∃ x, x = untL [61] (s.data.toList.drop q1) := ⟨_, rfl⟩
          obtain ⟨q2, h_q2⟩ : ∃ x, x = q1 + nm.length := ⟨_, rfl⟩
          have g2 : q2 ≤ s.size := by
            have := unt_le [61] s.data.toList q1 (by rw [str_len]; exact g1)
            rw [str_len, ← h_nm] at this
            rw [h_q2]
            exact this
          obtain ⟨q3, h_q3⟩ : ∃ x, x = sK [61] s.data.toList q2 := ⟨_, rfl⟩
          obtain ⟨d3, h_d3⟩ : ∃ x, x = sB [61] s.data.toList q2 d1 := ⟨_, rfl⟩
          have g3 : q3 ≤ s.size := by rw [h_q3]; exact sK_le _ g2
          have hrd := unmP_round m1.pm (show kk < s.data.toList.length by rw [str_len]; exact hlt2) h_q1.symm h_d1.symm h_nm.symm (k3 := q3) (b3 := d3) (by rw [← h_q2, ← h_q3]) (by rw [← h_q2, ← h_d3])
          obtain ⟨RR, hRR⟩ : ∃ RR, RR = partP s.data.toList nm m1.pm q3 d3 := ⟨_, rfl⟩
          rw [← hRR, str_len] at hrd
          obtain ⟨r1, r2, r3⟩ := hrd
          have HSZ : Hid (PZ RR.1 RR.2.1 s.size) := by
            have hq : kk ≤ q1 := by rw [h_q1]; exact sK_ge _ _ _
            have hq3 : q2 ≤ q3 := by rw [h_q3]; exact sK_ge _ _ _
            rw [hRR]
            refine partP_sz s.data.toList nm d3 HPZ2.out (by omega) ?_ (by rw [str_len]; exact g3) (by rw [str_len]; exact Nat.le_refl _)
            cases hp : preB [32] (s.data.toList.drop kk) with
            | true =>
              right
              have : q1 = kk + 1 := by rw [h_q1]; unfold sK; rw [if_pos hp]; rfl
              omega
            | false =>
              left
              have h1 : d1 = true := by rw [h_d1]; unfold sB; rw [if_neg (by rw [hp]; decide)]
              rw [h_d3, h1]
              exact sB_bad _ _ _
          have J1 : Hid (∀ W c, Cu W c s kk false → Calls Tryd.prog 45 #[.pointer (some ⟨c, 0, none⟩), .string (S [32])] W fun e w' => e = .returned (.tuple #[]) ∧ Cu w' c s q1 d1 ∧ Only (fun q => q = c) W w') := fun W c hW => by rw [h_q1, h_d1]; exact skip_st [32] s kk c false W hW hkk hs' (by simp)
          have J2 : Hid (∀ W c, Cu W c s q1 d1 → Calls Tryd.prog 46 #[.pointer (some ⟨c, 0, none⟩), .string (S [61])] W fun e w' => e = .returned (.string (S nm)) ∧ Cu w' c s q2 d1 ∧ Only (fun q => q = c) W w') := fun W c hW => by rw [h_q2, h_nm]; exact until_st [61] s q1 c d1 W hW g1 hs'
          have J3 : Hid (∀ W c, Cu W c s q2 d1 → Calls Tryd.prog 45 #[.pointer (some ⟨c, 0, none⟩), .string (S [61])] W fun e w' => e = .returned (.tuple #[]) ∧ Cu w' c s q3 d3 ∧ Only (fun q => q = c) W w') := fun W c hW => by rw [h_q3, h_d3]; exact skip_st [61] s q2 c d1 W hW g2 hs' (by simp)
          have hnm1 : m1.nm ≤ 140000000 := by have := HPZ2.out.ms; simp only [Mk.pm] at this; omega
          have hnt1 : m1.nt ≤ 140000000 := by have := HPZ2.out.ts; simp only [Mk.pm] at this; omega
          have J4 : Hid (∀ W, PC W b b (b + 1) m1 s q3 d3 → Calls Tryd.prog 47 #[.pointer (some ⟨b + 1, 0, none⟩), .pointer (some ⟨b, 0, none⟩), .string (S nm)] W fun e w' => PartR RR b b (b + 1) s W e w') := fun W hW => by rw [hRR]; exact part_all (S nm) s m1 b b (b + 1) q3 d3 W hW g3 hs hnm1 hnt1
          have HR1 : Hid (R = unmP s.data.toList RR.1 RR.2.1 RR.2.2) := by
            show _ = _
            rw [HRU.out, r1]
          have HRD : Hid ((kk < RR.2.1 ∨ RR.2.2 = true) ∧ RR.2.1 ≤ s.size) := ⟨r2, r3⟩
          clear h_q1 h_d1 h_nm h_q2 h_q3 h_d3 hRR r1 r2 r3 hlen1 hlen2
          go_upto_region 18 with (go_at_call 45; refine (J1.out _ _ HPC2.out.cu).mono ?_; rintro e w12 ⟨rfl, hcu, hon⟩; have HP12 := hide (HPC2.out.cur hcu hon); have HL12 := hide (HLW2.out.trans (HPC2.out.lowc hon)); clear hcu hon)
          go_upto_region 19 with (go_at_call 46; refine (J2.out _ _ HP12.out.cu).mono ?_; rintro e w13 ⟨rfl, hcu, hon⟩; have HP13 := hide (HP12.out.cur hcu hon); have HL13 := hide (HL12.out.trans (HP12.out.lowc hon)); clear hcu hon)
          go_upto_region 20 with (go_at_call 45; refine (J3.out _ _ HP13.out.cu).mono ?_; rintro e w14 ⟨rfl, hcu, hon⟩; have HP14 := hide (HP13.out.cur hcu hon); have HL14 := hide (HL13.out.trans (HP13.out.lowc hon)); clear hcu hon)
          have HMS := hide (cu_meas (n := s.size) HPC2.out.cu)
          go_wp2_with (go_at_call 47; refine (J4.out _ HP14.out).mono ?_; rintro e w15 ⟨m2, rfl, hpm2, hp2, hb2⟩; have HLX : Hid (ULoop1 R b s W0 w15) := ⟨m2, RR.2.1, RR.2.2, hp2, HRD.out.2, by rw [hpm2]; exact HR1.out, by rw [hpm2]; exact HSZ.out, HL14.out.trans hb2⟩; have HMX := hide (cu_meas (n := s.size) hp2.cu); clear hpm2 hp2 hb2)
          go_roundw
          case rel => first | exact HLX.out | exact ⟨_, HLX.out, rfl⟩
          case measure =>
            have h1 := HMX.out
            have h2 := HMS.out
            rw [h1, h2]
            have h3 := HRD.out
            cases hb5 : RR.2.2 with
            | true =>
              rw [if_pos rfl, if_neg (by decide)]
              omega
            | false =>
              rw [hb5] at h3
              rw [if_neg (by decide), if_neg (by decide)]
              rcases h3.1 with h | h
              · omega
              · cases h
        · have HEND : Hid (R = (m1.pm, kk, bb)) := by
            show _ = _
            rw [HRU.out, unmP_end _ (by rw [str_len]; exact hgo)]
          have HLEN : Hid (m1.ms.length = m1.nm ∧ m1.ts.length = m1.nt ∧ m1.bd.length = m1.nb) := ⟨hlen1, hlen2, HPC2.out.t.body.1⟩
          have HMZ : Hid (MkZ m1) := mkZ_of (K := 1048576) (L := 1048576) (by have h1 := HZ0.out; rw [HUA.out, HEND.out] at h1; exact h1) HLEN.out.1 HLEN.out.2.1 HLEN.out.2.2 (Nat.le_refl _) (Nat.le_refl _)
          have HPC2 : Hid (YtenebkkfjalcaaaDoor.PC wr b b (b + 1) m1 s kk bb) := ⟨HPC2.out.box, HPC2.out.cu, HPC2.out.t.narrow (Nat.le_trans HMZ.out.nm (by decide)) (Nat.le_trans HMZ.out.nt (by decide)) (Nat.le_trans HMZ.out.nb (by decide)), HPC2.out.hp, HPC2.out.hc⟩
          have HB : Hid (Below w.heap.size w wr) := HL.out.trans (HLW2.out.mono (by have := HBW.out; omega))
          have HTB : Hid (Tab wr ∧ KT wr) := ⟨HT.out.below HB.out, HKT.out.below HB.out⟩
          have HZ2 : Hid (∃ Z : Array Value, Z.size = 26 ∧ Blk wr w.heap.size 48 Z) := by
            obtain ⟨Z, hz, hZ⟩ := HZ.out
            exact ⟨Z, hz, hZ.below HLW2.out (by have := HBW.out; omega)⟩
          have HPD : Hid (YtenebkkfjalcaaaDoor.PC wr.drew b b (b + 1) m1 s kk bb) := HPC2.out.drew
          have HBD : Hid (Below w.heap.size w wr.drew) := below_drewN HB.out 1
          have HZD : Hid (∃ Z : Array Value, Z.size = 26 ∧ Blk wr.drew w.heap.size 48 Z) := HZ2.out
          have HTD : Hid (Tab wr.drew ∧ KT wr.drew) := ⟨HT.out.below HBD.out, HKT.out.below HBD.out⟩
          clear hlen1 hlen2
          have HXD : Hid (Blk wr.drew b 48 m1.cs ∧ Cu wr.drew (b + 1) s kk bb) := ⟨HPD.out.box, HPD.out.cu⟩
          cases bb with
          | true =>
            have HNO : Hid (∀ p, ¬ okPM p s.data.toList) := fun q hq => by
              have h1 := ok_prog hq
              rw [HUA.out, HEND.out] at h1
              cases h1
            clear hgo
            by_cases hkz : (kk : Int) < (s.size : Int)
            · go_upto_region 21 with fail
              refine wp_region_L [] (fun V => Blk V b 48 m1.cs ∧ Cu V (b + 1) s kk true) (by kernel_rfl) ?_
              refine wpL_take 0 (oi := ⟨some 64, _, _, _, _, _⟩) (v := .agg m1.cs) rfl (by kernel_rfl) (by kernel_rfl) (by kernel_rfl) (by kernel_rfl) (fun _ _ _ h => h) (Or.inl ⟨by rfl, ?_⟩) HXD.out ?_
              · intro V hV
                exact ex_load 48 (.tmp 4) rfl _ rfl m1.cs _ Tryd.underlying48 rfl (ld48 _ (mk_size _)) (box_all hV.1)
              try simp only [Act.put, List.setIfInBounds_toArray, List.set_cons_zero, List.set_cons_succ]
              refine wpL_take 1 (oi := ⟨some 65, _, _, _, _, _⟩) (v := ?_) rfl (by kernel_rfl) (by kernel_rfl) (by kernel_rfl) (by kernel_rfl) (fun _ _ _ h => h) (Or.inl ⟨by rfl, ?_⟩) HXD.out ?_
              rotate_left
              · intro V hV
                go_simp
                try with_reducible rfl
              try simp only [Act.put, List.setIfInBounds_toArray, List.set_cons_zero, List.set_cons_succ]
              refine wpL_take 2 (oi := ⟨some 66, _, _, _, _, _⟩) (v := ?_) rfl (by kernel_rfl) (by kernel_rfl) (by kernel_rfl) (by kernel_rfl) (fun _ _ _ h => h) (Or.inl ⟨by rfl, ?_⟩) HXD.out ?_
              rotate_left
              · intro V hV
                go_simp
                try with_reducible rfl
              try simp only [Act.put, List.setIfInBounds_toArray, List.set_cons_zero, List.set_cons_succ]
              refine wpL_take 3 (oi := ⟨some 67, _, _, _, _, _⟩) (v := ?_) rfl (by kernel_rfl) (by kernel_rfl) (by kernel_rfl) (by kernel_rfl) (fun _ _ _ h => h) (Or.inl ⟨by rfl, ?_⟩) HXD.out ?_
              rotate_left
              · intro V hV
                go_simp
                try with_reducible rfl
              try simp only [Act.put, List.setIfInBounds_toArray, List.set_cons_zero, List.set_cons_succ]
              refine wpL_take 4 (oi := ⟨some 68, _, _, _, _, _⟩) (v := ?_) rfl (by kernel_rfl) (by kernel_rfl) (by kernel_rfl) (by kernel_rfl) (fun _ _ _ h => h) (Or.inl ⟨by rfl, ?_⟩) HXD.out ?_
              rotate_left
              · intro V hV
                have k9 := cu2 hV.2
                go_simp
                try with_reducible rfl
              try simp only [Act.put, List.setIfInBounds_toArray, List.set_cons_zero, List.set_cons_succ]
              refine wpL_take 5 (oi := ⟨some 69, _, _, _, _, _⟩) (v := ?_) rfl (by kernel_rfl) (by kernel_rfl) (by kernel_rfl) (by kernel_rfl) (fun _ _ _ h => h) (Or.inl ⟨by rfl, ?_⟩) HXD.out ?_
              rotate_left
              · intro V hV
                go_simp
                try with_reducible rfl
              try simp only [Act.put, List.setIfInBounds_toArray, List.set_cons_zero, List.set_cons_succ]
              refine wpL_take 6 (oi := ⟨some 70, _, _, _, _, _⟩) (v := ?_) rfl (by kernel_rfl) (by kernel_rfl) (by kernel_rfl) (by kernel_rfl) (fun _ _ _ h => h) (Or.inl ⟨by rfl, ?_⟩) HXD.out ?_
              rotate_left
              · intro V hV
                go_simp
                try with_reducible rfl
              try simp only [Act.put, List.setIfInBounds_toArray, List.set_cons_zero, List.set_cons_succ]
              refine wpL_take 7 (oi := ⟨some 71, _, _, _, _, _⟩) (v := undef) rfl (by kernel_rfl) (by kernel_rfl) (by kernel_rfl) (by kernel_rfl) (fun _ _ _ h => h) (Or.inr ⟨by rfl, rfl⟩) HXD.out ?_
              try simp only [Act.put, List.setIfInBounds_toArray, List.set_cons_zero, List.set_cons_succ]
              refine wpL_take 8 (oi := ⟨some 72, _, _, _, _, _⟩) (v := undef) rfl (by kernel_rfl) (by kernel_rfl) (by kernel_rfl) (by kernel_rfl) (fun _ _ _ h => h) (Or.inr ⟨by rfl, rfl⟩) HXD.out ?_
              try simp only [Act.put, List.setIfInBounds_toArray, List.set_cons_zero, List.set_cons_succ]
              refine wpL_take 9 (oi := ⟨some 73, _, _, _, _, _⟩) (v := ?_) rfl (by kernel_rfl) (by kernel_rfl) (by kernel_rfl) (by kernel_rfl) (fun _ _ _ h => h) (Or.inl ⟨by rfl, ?_⟩) HXD.out ?_
              rotate_left
              · intro V hV
                go_simp
                try with_reducible rfl
              try simp only [Act.put, List.setIfInBounds_toArray, List.set_cons_zero, List.set_cons_succ]
              refine wpL_take 10 (oi := ⟨some 74, _, _, _, _, _⟩) (v := ?_) rfl (by kernel_rfl) (by kernel_rfl) (by kernel_rfl) (by kernel_rfl) (fun _ _ _ h => h) (Or.inl ⟨by rfl, ?_⟩) HXD.out ?_
              rotate_left
              · intro V hV
                go_simp
                try with_reducible rfl
              try simp only [Act.put, List.setIfInBounds_toArray, List.set_cons_zero, List.set_cons_succ]
              refine wpL_take 11 (oi := ⟨some 75, _, _, _, _, _⟩) (v := undef) rfl (by kernel_rfl) (by kernel_rfl) (by kernel_rfl) (by kernel_rfl) (fun _ _ _ h => h) (Or.inr ⟨by rfl, rfl⟩) HXD.out ?_
              try simp only [Act.put, List.setIfInBounds_toArray, List.set_cons_zero, List.set_cons_succ]
              refine wpL_take 12 (oi := ⟨some 76, _, _, _, _, _⟩) (v := undef) rfl (by kernel_rfl) (by kernel_rfl) (by kernel_rfl) (by kernel_rfl) (fun _ _ _ h => h) (Or.inr ⟨by rfl, rfl⟩) HXD.out ?_
              try simp only [Act.put, List.setIfInBounds_toArray, List.set_cons_zero, List.set_cons_succ]
              refine wpL_take 13 (oi := ⟨some 77, _, _, _, _, _⟩) (v := undef) rfl (by kernel_rfl) (by kernel_rfl) (by kernel_rfl) (by kernel_rfl) (fun _ _ _ h => h) (Or.inr ⟨by rfl, rfl⟩) HXD.out ?_
              try simp only [Act.put, List.setIfInBounds_toArray, List.set_cons_zero, List.set_cons_succ]
              refine wpL_take 14 (oi := ⟨some 78, _, _, _, _, _⟩) (v := undef) rfl (by kernel_rfl) (by kernel_rfl) (by kernel_rfl) (by kernel_rfl) (fun _ _ _ h => h) (Or.inr ⟨by rfl, rfl⟩) HXD.out ?_
              try simp only [Act.put, List.setIfInBounds_toArray, List.set_cons_zero, List.set_cons_succ]
              refine wpL_take 15 (oi := ⟨some 79, _, _, _, _, _⟩) (v := ?_) rfl (by kernel_rfl) (by kernel_rfl) (by kernel_rfl) (by kernel_rfl) (fun _ _ _ h => h) (Or.inl ⟨by rfl, ?_⟩) HXD.out ?_
              rotate_left
              · intro V hV
                go_simp
                try with_reducible rfl
              try simp only [Act.put, List.setIfInBounds_toArray, List.set_cons_zero, List.set_cons_succ]
              obtain ⟨Z, hZs, hZ⟩ := HZD.out
              have HX9 : Hid (Blk (wr.drew.setRow w.heap.size m1.cs) b 48 m1.cs ∧ Cu (wr.drew.setRow w.heap.size m1.cs) (b + 1) s kk true) := ⟨HPD.out.box.row_far (by have := HBW.out; omega) _, Blk.row_far (t := 84) HPD.out.cu (by have := HBW.out; omega) _⟩
              refine wpL_one 16 (by kernel_rfl) rfl (fun K hK => one_skip (by rfl) (run_put_at 48 (.tmp 2) (.tmp 64) rfl w.heap.size 0 m1.cs rfl rfl 48 Z hZ (ld48 _ (mk_size _)) (by rw [mk_size, hZs]; omega) (cs_all m1) _ (put_zero Z hZs m1)) (hK _ _ (fun _ => HX9.out) ?_))
              clear hK K
              try simp only [Act.put, List.setIfInBounds_toArray, List.set_cons_zero, List.set_cons_succ]
              refine wpL_take 17 (oi := ⟨some 3, _, _, _, _, _⟩) (v := ?_) rfl (by kernel_rfl) (by kernel_rfl) (by kernel_rfl) (by kernel_rfl) (fun _ _ _ h => h) (Or.inl ⟨by rfl, ?_⟩) HX9.out ?_
              rotate_left
              · intro V hV
                go_simp
                try with_reducible rfl
              try simp only [Act.put, List.setIfInBounds_toArray, List.set_cons_zero, List.set_cons_succ]
              refine wpL_done (by kernel_rfl) ?_ _
              go_wp2_with fail
              refine bodyPost_ret (results_48b rfl _ rfl (hZ.row _) rfl) rfl ?_
              have hW := only_setRow wr.drew w.heap.size m1.cs
              have hlow := HBD.out
              exact ⟨m1, _, rfl, (HPD.out.t.far hZ (by decide) (by decide) (by decide) hW).base (by have := HBW.out; omega), hlow.trans (hW.below hlow.size (fun k hk => by omega)), (fun h => by cases h), fun _ => HNO.out⟩
            · go_upto_region 21 with fail
              refine wp_region_L [] (fun V => Blk V b 48 m1.cs ∧ Cu V (b + 1) s kk true) (by kernel_rfl) ?_
              refine wpL_take 0 (oi := ⟨some 64, _, _, _, _, _⟩) (v := .agg m1.cs) rfl (by kernel_rfl) (by kernel_rfl) (by kernel_rfl) (by kernel_rfl) (fun _ _ _ h => h) (Or.inl ⟨by rfl, ?_⟩) HXD.out ?_
              · intro V hV
                exact ex_load 48 (.tmp 4) rfl _ rfl m1.cs _ Tryd.underlying48 rfl (ld48 _ (mk_size _)) (box_all hV.1)
              try simp only [Act.put, List.setIfInBounds_toArray, List.set_cons_zero, List.set_cons_succ]
              refine wpL_take 1 (oi := ⟨some 65, _, _, _, _, _⟩) (v := ?_) rfl (by kernel_rfl) (by kernel_rfl) (by kernel_rfl) (by kernel_rfl) (fun _ _ _ h => h) (Or.inl ⟨by rfl, ?_⟩) HXD.out ?_
              rotate_left
              · intro V hV
                go_simp
                try with_reducible rfl
              try simp only [Act.put, List.setIfInBounds_toArray, List.set_cons_zero, List.set_cons_succ]
              refine wpL_take 2 (oi := ⟨some 66, _, _, _, _, _⟩) (v := ?_) rfl (by kernel_rfl) (by kernel_rfl) (by kernel_rfl) (by kernel_rfl) (fun _ _ _ h => h) (Or.inl ⟨by rfl, ?_⟩) HXD.out ?_
              rotate_left
              · intro V hV
                go_simp
                try with_reducible rfl
              try simp only [Act.put, List.setIfInBounds_toArray, List.set_cons_zero, List.set_cons_succ]
              refine wpL_take 3 (oi := ⟨some 67, _, _, _, _, _⟩) (v := ?_) rfl (by kernel_rfl) (by kernel_rfl) (by kernel_rfl) (by kernel_rfl) (fun _ _ _ h => h) (Or.inl ⟨by rfl, ?_⟩) HXD.out ?_
              rotate_left
              · intro V hV
                go_simp
                try with_reducible rfl
              try simp only [Act.put, List.setIfInBounds_toArray, List.set_cons_zero, List.set_cons_succ]
              refine wpL_take 4 (oi := ⟨some 68, _, _, _, _, _⟩) (v := ?_) rfl (by kernel_rfl) (by kernel_rfl) (by kernel_rfl) (by kernel_rfl) (fun _ _ _ h => h) (Or.inl ⟨by rfl, ?_⟩) HXD.out ?_
              rotate_left
              · intro V hV
                have k9 := cu2 hV.2
                go_simp
                try with_reducible rfl
              try simp only [Act.put, List.setIfInBounds_toArray, List.set_cons_zero, List.set_cons_succ]
              refine wpL_take 5 (oi := ⟨some 69, _, _, _, _, _⟩) (v := ?_) rfl (by kernel_rfl) (by kernel_rfl) (by kernel_rfl) (by kernel_rfl) (fun _ _ _ h => h) (Or.inl ⟨by rfl, ?_⟩) HXD.out ?_
              rotate_left
              · intro V hV
                go_simp
                try with_reducible rfl
              try simp only [Act.put, List.setIfInBounds_toArray, List.set_cons_zero, List.set_cons_succ]
              refine wpL_take 6 (oi := ⟨some 70, _, _, _, _, _⟩) (v := ?_) rfl (by kernel_rfl) (by kernel_rfl) (by kernel_rfl) (by kernel_rfl) (fun _ _ _ h => h) (Or.inl ⟨by rfl, ?_⟩) HXD.out ?_
              rotate_left
              · intro V hV
                go_simp
                try with_reducible rfl
              try simp only [Act.put, List.setIfInBounds_toArray, List.set_cons_zero, List.set_cons_succ]
              refine wpL_take 7 (oi := ⟨some 71, _, _, _, _, _⟩) (v := undef) rfl (by kernel_rfl) (by kernel_rfl) (by kernel_rfl) (by kernel_rfl) (fun _ _ _ h => h) (Or.inr ⟨by rfl, rfl⟩) HXD.out ?_
              try simp only [Act.put, List.setIfInBounds_toArray, List.set_cons_zero, List.set_cons_succ]
              refine wpL_take 8 (oi := ⟨some 72, _, _, _, _, _⟩) (v := undef) rfl (by kernel_rfl) (by kernel_rfl) (by kernel_rfl) (by kernel_rfl) (fun _ _ _ h => h) (Or.inr ⟨by rfl, rfl⟩) HXD.out ?_
              try simp only [Act.put, List.setIfInBounds_toArray, List.set_cons_zero, List.set_cons_succ]
              refine wpL_take 9 (oi := ⟨some 73, _, _, _, _, _⟩) (v := ?_) rfl (by kernel_rfl) (by kernel_rfl) (by kernel_rfl) (by kernel_rfl) (fun _ _ _ h => h) (Or.inl ⟨by rfl, ?_⟩) HXD.out ?_
              rotate_left
              · intro V hV
                go_simp
                try with_reducible rfl
              try simp only [Act.put, List.setIfInBounds_toArray, List.set_cons_zero, List.set_cons_succ]
              refine wpL_take 10 (oi := ⟨some 74, _, _, _, _, _⟩) (v := ?_) rfl (by kernel_rfl) (by kernel_rfl) (by kernel_rfl) (by kernel_rfl) (fun _ _ _ h => h) (Or.inl ⟨by rfl, ?_⟩) HXD.out ?_
              rotate_left
              · intro V hV
                go_simp
                try with_reducible rfl
              try simp only [Act.put, List.setIfInBounds_toArray, List.set_cons_zero, List.set_cons_succ]
              refine wpL_take 11 (oi := ⟨some 75, _, _, _, _, _⟩) (v := undef) rfl (by kernel_rfl) (by kernel_rfl) (by kernel_rfl) (by kernel_rfl) (fun _ _ _ h => h) (Or.inr ⟨by rfl, rfl⟩) HXD.out ?_
              try simp only [Act.put, List.setIfInBounds_toArray, List.set_cons_zero, List.set_cons_succ]
              refine wpL_take 12 (oi := ⟨some 76, _, _, _, _, _⟩) (v := undef) rfl (by kernel_rfl) (by kernel_rfl) (by kernel_rfl) (by kernel_rfl) (fun _ _ _ h => h) (Or.inr ⟨by rfl, rfl⟩) HXD.out ?_
              try simp only [Act.put, List.setIfInBounds_toArray, List.set_cons_zero, List.set_cons_succ]
              refine wpL_take 13 (oi := ⟨some 77, _, _, _, _, _⟩) (v := undef) rfl (by kernel_rfl) (by kernel_rfl) (by kernel_rfl) (by kernel_rfl) (fun _ _ _ h => h) (Or.inr ⟨by rfl, rfl⟩) HXD.out ?_
              try simp only [Act.put, List.setIfInBounds_toArray, List.set_cons_zero, List.set_cons_succ]
              refine wpL_take 14 (oi := ⟨some 78, _, _, _, _, _⟩) (v := undef) rfl (by kernel_rfl) (by kernel_rfl) (by kernel_rfl) (by kernel_rfl) (fun _ _ _ h => h) (Or.inr ⟨by rfl, rfl⟩) HXD.out ?_
              try simp only [Act.put, List.setIfInBounds_toArray, List.set_cons_zero, List.set_cons_succ]
              refine wpL_take 15 (oi := ⟨some 79, _, _, _, _, _⟩) (v := ?_) rfl (by kernel_rfl) (by kernel_rfl) (by kernel_rfl) (by kernel_rfl) (fun _ _ _ h => h) (Or.inl ⟨by rfl, ?_⟩) HXD.out ?_
              rotate_left
              · intro V hV
                go_simp
                try with_reducible rfl
              try simp only [Act.put, List.setIfInBounds_toArray, List.set_cons_zero, List.set_cons_succ]
              obtain ⟨Z, hZs, hZ⟩ := HZD.out
              have HX9 : Hid (Blk (wr.drew.setRow w.heap.size m1.cs) b 48 m1.cs ∧ Cu (wr.drew.setRow w.heap.size m1.cs) (b + 1) s kk true) := ⟨HPD.out.box.row_far (by have := HBW.out; omega) _, Blk.row_far (t := 84) HPD.out.cu (by have := HBW.out; omega) _⟩
              refine wpL_one 16 (by kernel_rfl) rfl (fun K hK => one_skip (by rfl) (run_put_at 48 (.tmp 2) (.tmp 64) rfl w.heap.size 0 m1.cs rfl rfl 48 Z hZ (ld48 _ (mk_size _)) (by rw [mk_size, hZs]; omega) (cs_all m1) _ (put_zero Z hZs m1)) (hK _ _ (fun _ => HX9.out) ?_))
              clear hK K
              try simp only [Act.put, List.setIfInBounds_toArray, List.set_cons_zero, List.set_cons_succ]
              refine wpL_take 17 (oi := ⟨some 3, _, _, _, _, _⟩) (v := ?_) rfl (by kernel_rfl) (by kernel_rfl) (by kernel_rfl) (by kernel_rfl) (fun _ _ _ h => h) (Or.inl ⟨by rfl, ?_⟩) HX9.out ?_
              rotate_left
              · intro V hV
                go_simp
                try with_reducible rfl
              try simp only [Act.put, List.setIfInBounds_toArray, List.set_cons_zero, List.set_cons_succ]
              refine wpL_done (by kernel_rfl) ?_ _
              go_wp2_with fail
              refine bodyPost_ret (results_48b rfl _ rfl (hZ.row _) rfl) rfl ?_
              have hW := only_setRow wr.drew w.heap.size m1.cs
              have hlow := HBD.out
              exact ⟨m1, _, rfl, (HPD.out.t.far hZ (by decide) (by decide) (by decide) hW).base (by have := HBW.out; omega), hlow.trans (hW.below hlow.size (fun k hk => by omega)), (fun h => by cases h), fun _ => HNO.out⟩
          | false =>
            have hge : ¬ (kk : Int) < (s.size : Int) := fun h => hgo ⟨by omega, rfl⟩
            have HUQ : Hid (∀ q, okPM q s.data.toList → q = m1.pm) := fun q hq => by
              have h1 := ok_prog hq
              rw [HUA.out, HEND.out] at h1
              exact (Prod.mk.inj h1).1.symm
            clear hgo
            cases hwb : wrB m1 with
            | false =>
              have HW : Hid (∀ W, MkIn W W.heap.size m1 → Calls Tryd.prog 16 #[.agg m1.cs] W fun e w' => e = .returned (.bool false) ∧ Below W.heap.size W w') := fun W hW => by
                have := writable_any m1 W hW
                rw [hwb] at this
                exact this
              have HNO : Hid (∀ p, ¬ okPM p s.data.toList) := fun q hq => by
                have h1 := HUQ.out q hq
                rw [h1, okPM_iff HLEN.out.1 HLEN.out.2.1, hwb] at hq
                cases hq.1
              clear hwb
              go_upto_region 21 with fail
              refine wp_region_L [] (fun V => Blk V b 48 m1.cs ∧ Cu V (b + 1) s kk false) (by kernel_rfl) ?_
              refine wpL_take 0 (oi := ⟨some 64, _, _, _, _, _⟩) (v := .agg m1.cs) rfl (by kernel_rfl) (by kernel_rfl) (by kernel_rfl) (by kernel_rfl) (fun _ _ _ h => h) (Or.inl ⟨by rfl, ?_⟩) HXD.out ?_
              · intro V hV
                exact ex_load 48 (.tmp 4) rfl _ rfl m1.cs _ Tryd.underlying48 rfl (ld48 _ (mk_size _)) (box_all hV.1)
              try simp only [Act.put, List.setIfInBounds_toArray, List.set_cons_zero, List.set_cons_succ]
              refine wpL_take 1 (oi := ⟨some 65, _, _, _, _, _⟩) (v := ?_) rfl (by kernel_rfl) (by kernel_rfl) (by kernel_rfl) (by kernel_rfl) (fun _ _ _ h => h) (Or.inl ⟨by rfl, ?_⟩) HXD.out ?_
              rotate_left
              · intro V hV
                go_simp
                try with_reducible rfl
              try simp only [Act.put, List.setIfInBounds_toArray, List.set_cons_zero, List.set_cons_succ]
              refine wpL_take 2 (oi := ⟨some 66, _, _, _, _, _⟩) (v := ?_) rfl (by kernel_rfl) (by kernel_rfl) (by kernel_rfl) (by kernel_rfl) (fun _ _ _ h => h) (Or.inl ⟨by rfl, ?_⟩) HXD.out ?_
              rotate_left
              · intro V hV
                go_simp
                try with_reducible rfl
              try simp only [Act.put, List.setIfInBounds_toArray, List.set_cons_zero, List.set_cons_succ]
              refine wpL_take 3 (oi := ⟨some 67, _, _, _, _, _⟩) (v := ?_) rfl (by kernel_rfl) (by kernel_rfl) (by kernel_rfl) (by kernel_rfl) (fun _ _ _ h => h) (Or.inl ⟨by rfl, ?_⟩) HXD.out ?_
              rotate_left
              · intro V hV
                go_simp
                try with_reducible rfl
              try simp only [Act.put, List.setIfInBounds_toArray, List.set_cons_zero, List.set_cons_succ]
              refine wpL_take 4 (oi := ⟨some 68, _, _, _, _, _⟩) (v := ?_) rfl (by kernel_rfl) (by kernel_rfl) (by kernel_rfl) (by kernel_rfl) (fun _ _ _ h => h) (Or.inl ⟨by rfl, ?_⟩) HXD.out ?_
              rotate_left
              · intro V hV
                have k9 := cu2 hV.2
                go_simp
                try with_reducible rfl
              try simp only [Act.put, List.setIfInBounds_toArray, List.set_cons_zero, List.set_cons_succ]
              refine wpL_take 5 (oi := ⟨some 69, _, _, _, _, _⟩) (v := ?_) rfl (by kernel_rfl) (by kernel_rfl) (by kernel_rfl) (by kernel_rfl) (fun _ _ _ h => h) (Or.inl ⟨by rfl, ?_⟩) HXD.out ?_
              rotate_left
              · intro V hV
                go_simp
                try with_reducible rfl
              try simp only [Act.put, List.setIfInBounds_toArray, List.set_cons_zero, List.set_cons_succ]
              refine wpL_take 6 (oi := ⟨some 70, _, _, _, _, _⟩) (v := ?_) rfl (by kernel_rfl) (by kernel_rfl) (by kernel_rfl) (by kernel_rfl) (fun _ _ _ h => h) (Or.inl ⟨by rfl, ?_⟩) HXD.out ?_
              rotate_left
              · intro V hV
                go_simp
                try with_reducible rfl
              try simp only [Act.put, List.setIfInBounds_toArray, List.set_cons_zero, List.set_cons_succ]
              refine wpL_take 7 (oi := ⟨some 71, _, _, _, _, _⟩) (v := .agg m1.cs) rfl (by kernel_rfl) (by kernel_rfl) (by kernel_rfl) (by kernel_rfl) (fun _ _ _ h => h) (Or.inl ⟨by rfl, ?_⟩) HXD.out ?_
              · intro V hV
                exact ex_load 48 (.tmp 4) rfl _ rfl m1.cs _ Tryd.underlying48 rfl (ld48 _ (mk_size _)) (box_all hV.1)
              try simp only [Act.put, List.setIfInBounds_toArray, List.set_cons_zero, List.set_cons_succ]
              refine wpL_one 8 (by kernel_rfl) rfl (fun K hK => ?_)
              rw [if_pos (by rfl)]
              go_simp
              go_at_call 16
              refine (HW.out _ HPD.out.t.inn).mono ?_
              rintro e va ⟨rfl, hb7⟩
              have HPa := hide (HPD.out.step hb7)
              have HBa := hide (HBD.out.trans (hb7.mono HBD.out.size))
              have HZa : Hid (∃ Z : Array Value, Z.size = 26 ∧ Blk va w.heap.size 48 Z) := by
                obtain ⟨Z, hz, hZ⟩ := HZD.out
                exact ⟨Z, hz, hZ.below hb7 hZ.lt⟩
              have HXa : Hid (Blk va b 48 m1.cs ∧ Cu va (b + 1) s kk false) := ⟨HPa.out.box, HPa.out.cu⟩
              clear hb7
              refine hK _ _ (fun _ => HXa.out) ?_
              clear hK K
              try simp only [Act.put, List.setIfInBounds_toArray, List.set_cons_zero, List.set_cons_succ]
              refine wpL_take 9 (oi := ⟨some 73, _, _, _, _, _⟩) (v := ?_) rfl (by kernel_rfl) (by kernel_rfl) (by kernel_rfl) (by kernel_rfl) (fun _ _ _ h => h) (Or.inl ⟨by rfl, ?_⟩) HXa.out ?_
              rotate_left
              · intro V hV
                go_simp
                try with_reducible rfl
              try simp only [Act.put, List.setIfInBounds_toArray, List.set_cons_zero, List.set_cons_succ]
              refine wpL_take 10 (oi := ⟨some 74, _, _, _, _, _⟩) (v := ?_) rfl (by kernel_rfl) (by kernel_rfl) (by kernel_rfl) (by kernel_rfl) (fun _ _ _ h => h) (Or.inl ⟨by rfl, ?_⟩) HXa.out ?_
              rotate_left
              · intro V hV
                go_simp
                try with_reducible rfl
              try simp only [Act.put, List.setIfInBounds_toArray, List.set_cons_zero, List.set_cons_succ]
              refine wpL_take 11 (oi := ⟨some 75, _, _, _, _, _⟩) (v := undef) rfl (by kernel_rfl) (by kernel_rfl) (by kernel_rfl) (by kernel_rfl) (fun _ _ _ h => h) (Or.inr ⟨by rfl, rfl⟩) HXa.out ?_
              try simp only [Act.put, List.setIfInBounds_toArray, List.set_cons_zero, List.set_cons_succ]
              refine wpL_take 12 (oi := ⟨some 76, _, _, _, _, _⟩) (v := undef) rfl (by kernel_rfl) (by kernel_rfl) (by kernel_rfl) (by kernel_rfl) (fun _ _ _ h => h) (Or.inr ⟨by rfl, rfl⟩) HXa.out ?_
              try simp only [Act.put, List.setIfInBounds_toArray, List.set_cons_zero, List.set_cons_succ]
              refine wpL_take 13 (oi := ⟨some 77, _, _, _, _, _⟩) (v := undef) rfl (by kernel_rfl) (by kernel_rfl) (by kernel_rfl) (by kernel_rfl) (fun _ _ _ h => h) (Or.inr ⟨by rfl, rfl⟩) HXa.out ?_
              try simp only [Act.put, List.setIfInBounds_toArray, List.set_cons_zero, List.set_cons_succ]
              refine wpL_take 14 (oi := ⟨some 78, _, _, _, _, _⟩) (v := undef) rfl (by kernel_rfl) (by kernel_rfl) (by kernel_rfl) (by kernel_rfl) (fun _ _ _ h => h) (Or.inr ⟨by rfl, rfl⟩) HXa.out ?_
              try simp only [Act.put, List.setIfInBounds_toArray, List.set_cons_zero, List.set_cons_succ]
              refine wpL_take 15 (oi := ⟨some 79, _, _, _, _, _⟩) (v := ?_) rfl (by kernel_rfl) (by kernel_rfl) (by kernel_rfl) (by kernel_rfl) (fun _ _ _ h => h) (Or.inl ⟨by rfl, ?_⟩) HXa.out ?_
              rotate_left
              · intro V hV
                go_simp
                try with_reducible rfl
              try simp only [Act.put, List.setIfInBounds_toArray, List.set_cons_zero, List.set_cons_succ]
              obtain ⟨Z, hZs, hZ⟩ := HZa.out
              have HX9 : Hid (Blk (va.setRow w.heap.size m1.cs) b 48 m1.cs ∧ Cu (va.setRow w.heap.size m1.cs) (b + 1) s kk false) := ⟨HPa.out.box.row_far (by have := HBW.out; omega) _, Blk.row_far (t := 84) HPa.out.cu (by have := HBW.out; omega) _⟩
              refine wpL_one 16 (by kernel_rfl) rfl (fun K hK => one_skip (by rfl) (run_put_at 48 (.tmp 2) (.tmp 64) rfl w.heap.size 0 m1.cs rfl rfl 48 Z hZ (ld48 _ (mk_size _)) (by rw [mk_size, hZs]; omega) (cs_all m1) _ (put_zero Z hZs m1)) (hK _ _ (fun _ => HX9.out) ?_))
              clear hK K
              try simp only [Act.put, List.setIfInBounds_toArray, List.set_cons_zero, List.set_cons_succ]
              refine wpL_take 17 (oi := ⟨some 3, _, _, _, _, _⟩) (v := ?_) rfl (by kernel_rfl) (by kernel_rfl) (by kernel_rfl) (by kernel_rfl) (fun _ _ _ h => h) (Or.inl ⟨by rfl, ?_⟩) HX9.out ?_
              rotate_left
              · intro V hV
                go_simp
                try with_reducible rfl
              try simp only [Act.put, List.setIfInBounds_toArray, List.set_cons_zero, List.set_cons_succ]
              refine wpL_done (by kernel_rfl) ?_ _
              go_wp2_with fail
              refine bodyPost_ret (results_48b rfl _ rfl (hZ.row _) rfl) rfl ?_
              have hW := only_setRow va w.heap.size m1.cs
              have hlow := HBa.out
              exact ⟨m1, _, rfl, (HPa.out.t.far hZ (by decide) (by decide) (by decide) hW).base (by have := HBW.out; omega), hlow.trans (hW.below hlow.size (fun k hk => by omega)), (fun h => by cases h), fun _ => HNO.out⟩
            | true =>
              have HW : Hid (∀ W, MkIn W W.heap.size m1 → Calls Tryd.prog 16 #[.agg m1.cs] W fun e w' => e = .returned (.bool true) ∧ Below W.heap.size W w') := fun W hW => by
                have := writable_any m1 W hW
                rw [hwb] at this
                exact this
              have HWB := hide hwb
              clear hwb
              obtain ⟨X, hX⟩ : ∃ X, X = S (lineL m1) := ⟨_, rfl⟩
              have HLN : Hid (∀ W, MkIn W W.heap.size m1 → Tab W → KT W → Calls Tryd.prog 17 #[.agg m1.cs] W fun e w' => e = .returned (.string X) ∧ Below W.heap.size W w') := fun W h1 h2 h3 => by
                rw [hX]
                exact mark_any m1 W h1 HWB.out HMZ.out h2 h3
              by_cases hxs : lineL m1 = s.data.toList
              · have e1 : (X.toList == s.toList) = true := by rw [hX, beq_iff_eq, ByteArray.toList_eq, ByteArray.toList_eq, S_data]; exact hxs
                have HOK : Hid (okPM m1.pm s.data.toList) := (okPM_iff HLEN.out.1 HLEN.out.2.1).2 ⟨HWB.out, hxs⟩
                clear hX hxs
                go_upto_region 21 with fail
                refine wp_region_L [] (fun V => Blk V b 48 m1.cs ∧ Cu V (b + 1) s kk false) (by kernel_rfl) ?_
                refine wpL_take 0 (oi := ⟨some 64, _, _, _, _, _⟩) (v := .agg m1.cs) rfl (by kernel_rfl) (by kernel_rfl) (by kernel_rfl) (by kernel_rfl) (fun _ _ _ h => h) (Or.inl ⟨by rfl, ?_⟩) HXD.out ?_
                · intro V hV
                  exact ex_load 48 (.tmp 4) rfl _ rfl m1.cs _ Tryd.underlying48 rfl (ld48 _ (mk_size _)) (box_all hV.1)
                try simp only [Act.put, List.setIfInBounds_toArray, List.set_cons_zero, List.set_cons_succ]
                refine wpL_take 1 (oi := ⟨some 65, _, _, _, _, _⟩) (v := ?_) rfl (by kernel_rfl) (by kernel_rfl) (by kernel_rfl) (by kernel_rfl) (fun _ _ _ h => h) (Or.inl ⟨by rfl, ?_⟩) HXD.out ?_
                rotate_left
                · intro V hV
                  go_simp
                  try with_reducible rfl
                try simp only [Act.put, List.setIfInBounds_toArray, List.set_cons_zero, List.set_cons_succ]
                refine wpL_take 2 (oi := ⟨some 66, _, _, _, _, _⟩) (v := ?_) rfl (by kernel_rfl) (by kernel_rfl) (by kernel_rfl) (by kernel_rfl) (fun _ _ _ h => h) (Or.inl ⟨by rfl, ?_⟩) HXD.out ?_
                rotate_left
                · intro V hV
                  go_simp
                  try with_reducible rfl
                try simp only [Act.put, List.setIfInBounds_toArray, List.set_cons_zero, List.set_cons_succ]
                refine wpL_take 3 (oi := ⟨some 67, _, _, _, _, _⟩) (v := ?_) rfl (by kernel_rfl) (by kernel_rfl) (by kernel_rfl) (by kernel_rfl) (fun _ _ _ h => h) (Or.inl ⟨by rfl, ?_⟩) HXD.out ?_
                rotate_left
                · intro V hV
                  go_simp
                  try with_reducible rfl
                try simp only [Act.put, List.setIfInBounds_toArray, List.set_cons_zero, List.set_cons_succ]
                refine wpL_take 4 (oi := ⟨some 68, _, _, _, _, _⟩) (v := ?_) rfl (by kernel_rfl) (by kernel_rfl) (by kernel_rfl) (by kernel_rfl) (fun _ _ _ h => h) (Or.inl ⟨by rfl, ?_⟩) HXD.out ?_
                rotate_left
                · intro V hV
                  have k9 := cu2 hV.2
                  go_simp
                  try with_reducible rfl
                try simp only [Act.put, List.setIfInBounds_toArray, List.set_cons_zero, List.set_cons_succ]
                refine wpL_take 5 (oi := ⟨some 69, _, _, _, _, _⟩) (v := ?_) rfl (by kernel_rfl) (by kernel_rfl) (by kernel_rfl) (by kernel_rfl) (fun _ _ _ h => h) (Or.inl ⟨by rfl, ?_⟩) HXD.out ?_
                rotate_left
                · intro V hV
                  go_simp
                  try with_reducible rfl
                try simp only [Act.put, List.setIfInBounds_toArray, List.set_cons_zero, List.set_cons_succ]
                refine wpL_take 6 (oi := ⟨some 70, _, _, _, _, _⟩) (v := ?_) rfl (by kernel_rfl) (by kernel_rfl) (by kernel_rfl) (by kernel_rfl) (fun _ _ _ h => h) (Or.inl ⟨by rfl, ?_⟩) HXD.out ?_
                rotate_left
                · intro V hV
                  go_simp
                  try with_reducible rfl
                try simp only [Act.put, List.setIfInBounds_toArray, List.set_cons_zero, List.set_cons_succ]
                refine wpL_take 7 (oi := ⟨some 71, _, _, _, _, _⟩) (v := .agg m1.cs) rfl (by kernel_rfl) (by kernel_rfl) (by kernel_rfl) (by kernel_rfl) (fun _ _ _ h => h) (Or.inl ⟨by rfl, ?_⟩) HXD.out ?_
                · intro V hV
                  exact ex_load 48 (.tmp 4) rfl _ rfl m1.cs _ Tryd.underlying48 rfl (ld48 _ (mk_size _)) (box_all hV.1)
                try simp only [Act.put, List.setIfInBounds_toArray, List.set_cons_zero, List.set_cons_succ]
                refine wpL_one 8 (by kernel_rfl) rfl (fun K hK => ?_)
                rw [if_pos (by rfl)]
                go_simp
                go_at_call 16
                refine (HW.out _ HPD.out.t.inn).mono ?_
                rintro e va ⟨rfl, hb7⟩
                have HPa := hide (HPD.out.step hb7)
                have HBa := hide (HBD.out.trans (hb7.mono HBD.out.size))
                have HZa : Hid (∃ Z : Array Value, Z.size = 26 ∧ Blk va w.heap.size 48 Z) := by
                  obtain ⟨Z, hz, hZ⟩ := HZD.out
                  exact ⟨Z, hz, hZ.below hb7 hZ.lt⟩
                have HXa : Hid (Blk va b 48 m1.cs ∧ Cu va (b + 1) s kk false) := ⟨HPa.out.box, HPa.out.cu⟩
                clear hb7
                refine hK _ _ (fun _ => HXa.out) ?_
                clear hK K
                try simp only [Act.put, List.setIfInBounds_toArray, List.set_cons_zero, List.set_cons_succ]
                refine wpL_take 9 (oi := ⟨some 73, _, _, _, _, _⟩) (v := ?_) rfl (by kernel_rfl) (by kernel_rfl) (by kernel_rfl) (by kernel_rfl) (fun _ _ _ h => h) (Or.inl ⟨by rfl, ?_⟩) HXa.out ?_
                rotate_left
                · intro V hV
                  go_simp
                  try with_reducible rfl
                try simp only [Act.put, List.setIfInBounds_toArray, List.set_cons_zero, List.set_cons_succ]
                refine wpL_take 10 (oi := ⟨some 74, _, _, _, _, _⟩) (v := ?_) rfl (by kernel_rfl) (by kernel_rfl) (by kernel_rfl) (by kernel_rfl) (fun _ _ _ h => h) (Or.inl ⟨by rfl, ?_⟩) HXa.out ?_
                rotate_left
                · intro V hV
                  go_simp
                  try with_reducible rfl
                try simp only [Act.put, List.setIfInBounds_toArray, List.set_cons_zero, List.set_cons_succ]
                refine wpL_take 11 (oi := ⟨some 75, _, _, _, _, _⟩) (v := .agg m1.cs) rfl (by kernel_rfl) (by kernel_rfl) (by kernel_rfl) (by kernel_rfl) (fun _ _ _ h => h) (Or.inl ⟨by rfl, ?_⟩) HXa.out ?_
                · intro V hV
                  exact ex_load 48 (.tmp 4) rfl _ rfl m1.cs _ Tryd.underlying48 rfl (ld48 _ (mk_size _)) (box_all hV.1)
                try simp only [Act.put, List.setIfInBounds_toArray, List.set_cons_zero, List.set_cons_succ]
                refine wpL_take 13 (oi := ⟨some 77, _, _, _, _, _⟩) (v := ?_) rfl (by kernel_rfl) (by kernel_rfl) (by kernel_rfl) (by kernel_rfl) (fun _ _ _ h => h) (Or.inl ⟨by rfl, ?_⟩) HXa.out ?_
                rotate_left
                · intro V hV
                  go_simp
                  try with_reducible rfl
                try simp only [Act.put, List.setIfInBounds_toArray, List.set_cons_zero, List.set_cons_succ]
                refine wpL_one 12 (by kernel_rfl) rfl (fun K hK => ?_)
                rw [if_pos (by rfl)]
                go_simp
                go_at_call 17
                refine (HLN.out _ HPa.out.t.inn (HT.out.below HBa.out) (HKT.out.below HBa.out)).mono ?_
                rintro e vb ⟨rfl, hb7⟩
                have HPb := hide (HPa.out.step hb7)
                have HBb := hide (HBa.out.trans (hb7.mono HBa.out.size))
                have HZb : Hid (∃ Z : Array Value, Z.size = 26 ∧ Blk vb w.heap.size 48 Z) := by
                  obtain ⟨Z, hz, hZ⟩ := HZa.out
                  exact ⟨Z, hz, hZ.below hb7 hZ.lt⟩
                have HXb : Hid (Blk vb b 48 m1.cs ∧ Cu vb (b + 1) s kk false) := ⟨HPb.out.box, HPb.out.cu⟩
                clear hb7
                refine hK _ _ (fun _ => HXb.out) ?_
                clear hK K
                try simp only [Act.put, List.setIfInBounds_toArray, List.set_cons_zero, List.set_cons_succ]
                refine wpL_take 14 (oi := ⟨some 78, _, _, _, _, _⟩) (v := ?_) rfl (by kernel_rfl) (by kernel_rfl) (by kernel_rfl) (by kernel_rfl) (fun _ _ _ h => h) (Or.inl ⟨by rfl, ?_⟩) HXb.out ?_
                rotate_left
                · intro V hV
                  go_simp
                  try with_reducible rfl
                try simp only [Act.put, List.setIfInBounds_toArray, List.set_cons_zero, List.set_cons_succ]
                refine wpL_take 15 (oi := ⟨some 79, _, _, _, _, _⟩) (v := ?_) rfl (by kernel_rfl) (by kernel_rfl) (by kernel_rfl) (by kernel_rfl) (fun _ _ _ h => h) (Or.inl ⟨by rfl, ?_⟩) HXb.out ?_
                rotate_left
                · intro V hV
                  go_simp
                  try with_reducible rfl
                try simp only [Act.put, List.setIfInBounds_toArray, List.set_cons_zero, List.set_cons_succ]
                obtain ⟨Z, hZs, hZ⟩ := HZb.out
                have HX9 : Hid (Blk (vb.setRow w.heap.size m1.cs) b 48 m1.cs ∧ Cu (vb.setRow w.heap.size m1.cs) (b + 1) s kk false) := ⟨HPb.out.box.row_far (by have := HBW.out; omega) _, Blk.row_far (t := 84) HPb.out.cu (by have := HBW.out; omega) _⟩
                refine wpL_one 16 (by kernel_rfl) rfl (fun K hK => one_skip (by rfl) (run_put_at 48 (.tmp 2) (.tmp 64) rfl w.heap.size 0 m1.cs rfl rfl 48 Z hZ (ld48 _ (mk_size _)) (by rw [mk_size, hZs]; omega) (cs_all m1) _ (put_zero Z hZs m1)) (hK _ _ (fun _ => HX9.out) ?_))
                clear hK K
                try simp only [Act.put, List.setIfInBounds_toArray, List.set_cons_zero, List.set_cons_succ]
                refine wpL_take 17 (oi := ⟨some 3, _, _, _, _, _⟩) (v := ?_) rfl (by kernel_rfl) (by kernel_rfl) (by kernel_rfl) (by kernel_rfl) (fun _ _ _ h => h) (Or.inl ⟨by rfl, ?_⟩) HX9.out ?_
                rotate_left
                · intro V hV
                  go_simp
                  try with_reducible rfl
                try simp only [Act.put, List.setIfInBounds_toArray, List.set_cons_zero, List.set_cons_succ]
                refine wpL_done (by kernel_rfl) ?_ _
                go_wp2_with fail
                refine bodyPost_ret (results_48b rfl _ rfl (hZ.row _) rfl) rfl ?_
                have hW := only_setRow vb w.heap.size m1.cs
                have hlow := HBb.out
                exact ⟨m1, _, rfl, (HPb.out.t.far hZ (by decide) (by decide) (by decide) hW).base (by have := HBW.out; omega), hlow.trans (hW.below hlow.size (fun k hk => by omega)), (fun _ => HOK.out), (fun h => by cases h)⟩
              · have e1 : (X.toList == s.toList) = false := by rw [hX, beq_eq_false_iff_ne, ByteArray.toList_eq, ByteArray.toList_eq, S_data]; exact hxs
                have HNO : Hid (∀ p, ¬ okPM p s.data.toList) := fun q hq => by
                  have h1 := HUQ.out q hq
                  rw [h1, okPM_iff HLEN.out.1 HLEN.out.2.1] at hq
                  exact hxs hq.2
                clear hX hxs
                go_upto_region 21 with fail
                refine wp_region_L [] (fun V => Blk V b 48 m1.cs ∧ Cu V (b + 1) s kk false) (by kernel_rfl) ?_
                refine wpL_take 0 (oi := ⟨some 64, _, _, _, _, _⟩) (v := .agg m1.cs) rfl (by kernel_rfl) (by kernel_rfl) (by kernel_rfl) (by kernel_rfl) (fun _ _ _ h => h) (Or.inl ⟨by rfl, ?_⟩) HXD.out ?_
                · intro V hV
                  exact ex_load 48 (.tmp 4) rfl _ rfl m1.cs _ Tryd.underlying48 rfl (ld48 _ (mk_size _)) (box_all hV.1)
                try simp only [Act.put, List.setIfInBounds_toArray, List.set_cons_zero, List.set_cons_succ]
                refine wpL_take 1 (oi := ⟨some 65, _, _, _, _, _⟩) (v := ?_) rfl (by kernel_rfl) (by kernel_rfl) (by kernel_rfl) (by kernel_rfl) (fun _ _ _ h => h) (Or.inl ⟨by rfl, ?_⟩) HXD.out ?_
                rotate_left
                · intro V hV
                  go_simp
                  try with_reducible rfl
                try simp only [Act.put, List.setIfInBounds_toArray, List.set_cons_zero, List.set_cons_succ]
                refine wpL_take 2 (oi := ⟨some 66, _, _, _, _, _⟩) (v := ?_) rfl (by kernel_rfl) (by kernel_rfl) (by kernel_rfl) (by kernel_rfl) (fun _ _ _ h => h) (Or.inl ⟨by rfl, ?_⟩) HXD.out ?_
                rotate_left
                · intro V hV
                  go_simp
                  try with_reducible rfl
                try simp only [Act.put, List.setIfInBounds_toArray, List.set_cons_zero, List.set_cons_succ]
                refine wpL_take 3 (oi := ⟨some 67, _, _, _, _, _⟩) (v := ?_) rfl (by kernel_rfl) (by kernel_rfl) (by kernel_rfl) (by kernel_rfl) (fun _ _ _ h => h) (Or.inl ⟨by rfl, ?_⟩) HXD.out ?_
                rotate_left
                · intro V hV
                  go_simp
                  try with_reducible rfl
                try simp only [Act.put, List.setIfInBounds_toArray, List.set_cons_zero, List.set_cons_succ]
                refine wpL_take 4 (oi := ⟨some 68, _, _, _, _, _⟩) (v := ?_) rfl (by kernel_rfl) (by kernel_rfl) (by kernel_rfl) (by kernel_rfl) (fun _ _ _ h => h) (Or.inl ⟨by rfl, ?_⟩) HXD.out ?_
                rotate_left
                · intro V hV
                  have k9 := cu2 hV.2
                  go_simp
                  try with_reducible rfl
                try simp only [Act.put, List.setIfInBounds_toArray, List.set_cons_zero, List.set_cons_succ]
                refine wpL_take 5 (oi := ⟨some 69, _, _, _, _, _⟩) (v := ?_) rfl (by kernel_rfl) (by kernel_rfl) (by kernel_rfl) (by kernel_rfl) (fun _ _ _ h => h) (Or.inl ⟨by rfl, ?_⟩) HXD.out ?_
                rotate_left
                · intro V hV
                  go_simp
                  try with_reducible rfl
                try simp only [Act.put, List.setIfInBounds_toArray, List.set_cons_zero, List.set_cons_succ]
                refine wpL_take 6 (oi := ⟨some 70, _, _, _, _, _⟩) (v := ?_) rfl (by kernel_rfl) (by kernel_rfl) (by kernel_rfl) (by kernel_rfl) (fun _ _ _ h => h) (Or.inl ⟨by rfl, ?_⟩) HXD.out ?_
                rotate_left
                · intro V hV
                  go_simp
                  try with_reducible rfl
                try simp only [Act.put, List.setIfInBounds_toArray, List.set_cons_zero, List.set_cons_succ]
                refine wpL_take 7 (oi := ⟨some 71, _, _, _, _, _⟩) (v := .agg m1.cs) rfl (by kernel_rfl) (by kernel_rfl) (by kernel_rfl) (by kernel_rfl) (fun _ _ _ h => h) (Or.inl ⟨by rfl, ?_⟩) HXD.out ?_
                · intro V hV
                  exact ex_load 48 (.tmp 4) rfl _ rfl m1.cs _ Tryd.underlying48 rfl (ld48 _ (mk_size _)) (box_all hV.1)
                try simp only [Act.put, List.setIfInBounds_toArray, List.set_cons_zero, List.set_cons_succ]
                refine wpL_one 8 (by kernel_rfl) rfl (fun K hK => ?_)
                rw [if_pos (by rfl)]
                go_simp
                go_at_call 16
                refine (HW.out _ HPD.out.t.inn).mono ?_
                rintro e va ⟨rfl, hb7⟩
                have HPa := hide (HPD.out.step hb7)
                have HBa := hide (HBD.out.trans (hb7.mono HBD.out.size))
                have HZa : Hid (∃ Z : Array Value, Z.size = 26 ∧ Blk va w.heap.size 48 Z) := by
                  obtain ⟨Z, hz, hZ⟩ := HZD.out
                  exact ⟨Z, hz, hZ.below hb7 hZ.lt⟩
                have HXa : Hid (Blk va b 48 m1.cs ∧ Cu va (b + 1) s kk false) := ⟨HPa.out.box, HPa.out.cu⟩
                clear hb7
                refine hK _ _ (fun _ => HXa.out) ?_
                clear hK K
                try simp only [Act.put, List.setIfInBounds_toArray, List.set_cons_zero, List.set_cons_succ]
                refine wpL_take 9 (oi := ⟨some 73, _, _, _, _, _⟩) (v := ?_) rfl (by kernel_rfl) (by kernel_rfl) (by kernel_rfl) (by kernel_rfl) (fun _ _ _ h => h) (Or.inl ⟨by rfl, ?_⟩) HXa.out ?_
                rotate_left
                · intro V hV
                  go_simp
                  try with_reducible rfl
                try simp only [Act.put, List.setIfInBounds_toArray, List.set_cons_zero, List.set_cons_succ]
                refine wpL_take 10 (oi := ⟨some 74, _, _, _, _, _⟩) (v := ?_) rfl (by kernel_rfl) (by kernel_rfl) (by kernel_rfl) (by kernel_rfl) (fun _ _ _ h => h) (Or.inl ⟨by rfl, ?_⟩) HXa.out ?_
                rotate_left
                · intro V hV
                  go_simp
                  try with_reducible rfl
                try simp only [Act.put, List.setIfInBounds_toArray, List.set_cons_zero, List.set_cons_succ]
                refine wpL_take 11 (oi := ⟨some 75, _, _, _, _, _⟩) (v := .agg m1.cs) rfl (by kernel_rfl) (by kernel_rfl) (by kernel_rfl) (by kernel_rfl) (fun _ _ _ h => h) (Or.inl ⟨by rfl, ?_⟩) HXa.out ?_
                · intro V hV
                  exact ex_load 48 (.tmp 4) rfl _ rfl m1.cs _ Tryd.underlying48 rfl (ld48 _ (mk_size _)) (box_all hV.1)
                try simp only [Act.put, List.setIfInBounds_toArray, List.set_cons_zero, List.set_cons_succ]
                refine wpL_take 13 (oi := ⟨some 77, _, _, _, _, _⟩) (v := ?_) rfl (by kernel_rfl) (by kernel_rfl) (by kernel_rfl) (by kernel_rfl) (fun _ _ _ h => h) (Or.inl ⟨by rfl, ?_⟩) HXa.out ?_
                rotate_left
                · intro V hV
                  go_simp
                  try with_reducible rfl
                try simp only [Act.put, List.setIfInBounds_toArray, List.set_cons_zero, List.set_cons_succ]
                refine wpL_one 12 (by kernel_rfl) rfl (fun K hK => ?_)
                rw [if_pos (by rfl)]
                go_simp
                go_at_call 17
                refine (HLN.out _ HPa.out.t.inn (HT.out.below HBa.out) (HKT.out.below HBa.out)).mono ?_
                rintro e vb ⟨rfl, hb7⟩
                have HPb := hide (HPa.out.step hb7)
                have HBb := hide (HBa.out.trans (hb7.mono HBa.out.size))
                have HZb : Hid (∃ Z : Array Value, Z.size = 26 ∧ Blk vb w.heap.size 48 Z) := by
                  obtain ⟨Z, hz, hZ⟩ := HZa.out
                  exact ⟨Z, hz, hZ.below hb7 hZ.lt⟩
                have HXb : Hid (Blk vb b 48 m1.cs ∧ Cu vb (b + 1) s kk false) := ⟨HPb.out.box, HPb.out.cu⟩
                clear hb7
                refine hK _ _ (fun _ => HXb.out) ?_
                clear hK K
                try simp only [Act.put, List.setIfInBounds_toArray, List.set_cons_zero, List.set_cons_succ]
                refine wpL_take 14 (oi := ⟨some 78, _, _, _, _, _⟩) (v := ?_) rfl (by kernel_rfl) (by kernel_rfl) (by kernel_rfl) (by kernel_rfl) (fun _ _ _ h => h) (Or.inl ⟨by rfl, ?_⟩) HXb.out ?_
                rotate_left
                · intro V hV
                  go_simp
                  try with_reducible rfl
                try simp only [Act.put, List.setIfInBounds_toArray, List.set_cons_zero, List.set_cons_succ]
                refine wpL_take 15 (oi := ⟨some 79, _, _, _, _, _⟩) (v := ?_) rfl (by kernel_rfl) (by kernel_rfl) (by kernel_rfl) (by kernel_rfl) (fun _ _ _ h => h) (Or.inl ⟨by rfl, ?_⟩) HXb.out ?_
                rotate_left
                · intro V hV
                  go_simp
                  try with_reducible rfl
                try simp only [Act.put, List.setIfInBounds_toArray, List.set_cons_zero, List.set_cons_succ]
                obtain ⟨Z, hZs, hZ⟩ := HZb.out
                have HX9 : Hid (Blk (vb.setRow w.heap.size m1.cs) b 48 m1.cs ∧ Cu (vb.setRow w.heap.size m1.cs) (b + 1) s kk false) := ⟨HPb.out.box.row_far (by have := HBW.out; omega) _, Blk.row_far (t := 84) HPb.out.cu (by have := HBW.out; omega) _⟩
                refine wpL_one 16 (by kernel_rfl) rfl (fun K hK => one_skip (by rfl) (run_put_at 48 (.tmp 2) (.tmp 64) rfl w.heap.size 0 m1.cs rfl rfl 48 Z hZ (ld48 _ (mk_size _)) (by rw [mk_size, hZs]; omega) (cs_all m1) _ (put_zero Z hZs m1)) (hK _ _ (fun _ => HX9.out) ?_))
                clear hK K
                try simp only [Act.put, List.setIfInBounds_toArray, List.set_cons_zero, List.set_cons_succ]
                refine wpL_take 17 (oi := ⟨some 3, _, _, _, _, _⟩) (v := ?_) rfl (by kernel_rfl) (by kernel_rfl) (by kernel_rfl) (by kernel_rfl) (fun _ _ _ h => h) (Or.inl ⟨by rfl, ?_⟩) HX9.out ?_
                rotate_left
                · intro V hV
                  go_simp
                  try with_reducible rfl
                try simp only [Act.put, List.setIfInBounds_toArray, List.set_cons_zero, List.set_cons_succ]
                refine wpL_done (by kernel_rfl) ?_ _
                go_wp2_with fail
                refine bodyPost_ret (results_48b rfl _ rfl (hZ.row _) rfl) rfl ?_
                have hW := only_setRow vb w.heap.size m1.cs
                have hlow := HBb.out
                exact ⟨m1, _, rfl, (HPb.out.t.far hZ (by decide) (by decide) (by decide) hW).base (by have := HBW.out; omega), hlow.trans (hW.below hlow.size (fun k hk => by omega)), (fun h => by cases h), fun _ => HNO.out⟩
end Go.Proofs.YtenebkkfjalcaaaDoor.Wide
