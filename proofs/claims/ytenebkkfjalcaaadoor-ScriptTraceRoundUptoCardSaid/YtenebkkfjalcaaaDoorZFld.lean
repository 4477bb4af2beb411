/-
  The reference's field: a mark with one part more. (Printed by wip/tools/mkfld.py.)
-/
import Derived.Test.YtenebkkfjalcaaaDoorZBig
import Derived.Test.YtenebkkfjalcaaaDoorZPbx
set_option linter.unusedVariables false
set_option linter.unusedSimpArgs false
namespace Go.Proofs.YtenebkkfjalcaaaDoor
open Go.RowKit Go.WideShapes Go.ChangeShapes Q

theorem nameC_cons_no {c : UInt8} {r : List UInt8} (h : c.toNat = 61) : nameC (c :: r) = [] := by
  unfold nameC
  rw [List.takeWhile_cons, decide_eq_false (by simpa using h)]
  rfl
theorem nameC_cons {c : UInt8} {r : List UInt8} (h : ¬ c.toNat = 61) : nameC (c :: r) = c :: nameC r := by
  unfold nameC
  rw [List.takeWhile_cons, decide_eq_true h]
  rfl
/-- What the loop keeps. -/
def FLoop (s : ByteArray) (i : Value) : Prop := ∃ j : Nat, j ≤ s.size ∧ i = .int .i64 j ∧ nameC s.data.toList = piece s 0 j ++ nameC (s.data.toList.drop j)
set_option maxRecDepth 100000 in
set_option maxHeartbeats 8000000 in
theorem field_any (m : Mk) (s : ByteArray) (b : Nat) (w : World) (h : MkU w b m) (hb : b ≤ w.heap.size) (hs : s.size ≤ 5000000) (hz : m.nm ≤ 4000000) :
    Calls Tryd.prog 50 #[.agg m.cs, .string s] w fun e w' => MarkP (fieldC m.pm s.data.toList) b w e w' := by
  have HT := hide h
  have HL0 : Hid (FLoop s (.int .i64 0)) := ⟨0, Nat.zero_le _, rfl, by rw [piece_nil]; rfl⟩
  clear h
  go_enter Tryd.func50, Tryd.ntmps50
  go_upto_region 1 with fail
  generalize hW0 : World.alloc (World.alloc w _) _ = W0
  have HS0 : Hid (B2 w W0 b m) := by
    show B2 w W0 b m
    rw [← hW0]
    exact B2.new HT.out hb _ rfl
  clear hW0
  have hbW0 : b ≤ W0.heap.size := Nat.le_trans hb HS0.out.low.size
  go_upto_region 2 with fail
  go_loop [5] (fun i => FLoop s i) (fun i => s.size - (intOf i).toNat)
  case atStart => exact HL0.out
  case round =>
    clear HL0
    unfold FLoop at hrel
    obtain ⟨j, hj, rfl, hnm⟩ := hrel
    have j0 : (0 : Int) ≤ (j : Int) := by omega
    have jz : (j : Int) ≤ (s.size : Int) := by omega
    by_cases hlt : j < s.size
    · obtain ⟨c, hc⟩ : ∃ c, c = s[j] := ⟨_, rfl⟩
      have hcc := hc.symm
      have js : (j : Int) < (s.size : Int) := by omega
      have HD : Hid (s.data.toList.drop j = c :: s.data.toList.drop (j + 1)) := by rw [hc]; exact bdrop hlt
      have HCC := hide hc
      clear hc
      by_cases h61 : c.toNat = 61
      · have HN : Hid (nameC s.data.toList = piece s 0 j) := by
          show _ = _
          rw [hnm, HD.out, nameC_cons_no h61, List.append_nil]
        have ne61 : ((c.toNat : Int) == 61) = true := by rw [beq_iff_eq]; omega
        have ne62 : ((c.toNat : Int) != 61) = false := by rw [bne, ne61]; rfl
        obtain ⟨nm, hnmm⟩ : ∃ nm : ByteArray, nm = S (nameC s.data.toList) := ⟨_, rfl⟩
        obtain ⟨r, hr⟩ : ∃ r : ByteArray, r = S (s.data.toList.drop ((nameC s.data.toList).length + 1)) := ⟨_, rfl⟩
        have hnl : (nameC s.data.toList).length = j := by rw [HN.out, piece_len hj]; omega
        have hx1 : s.extract 0 j = nm := by rw [hnmm, HN.out]; exact ext_piece s 0 j
        have hx2 : s.extract (j + 1) s.size = r := by
          rw [hr, hnl, ext_piece]
          unfold piece
          rw [List.take_of_length_le (by rw [str_len]; omega)]
        have HR5 : Hid (r.size ≤ 5000000) := by
          show _ ≤ _
          rw [hr, S_size, List.length_drop, str_len]
          omega
        have HF : Hid (fieldC m.pm s.data.toList = (if nm.data.toList = [115, 101, 110, 100, 101, 114] then { m.pm with se := looseZ r.data.toList }
          else if nm.data.toList = [115, 101, 113] then { m.pm with sq := looseZ r.data.toList }
          else if nm.data.toList = [112, 111, 115] then { m.pm with po := looseZ r.data.toList }
          else if nm.data.toList = [110] then { m.pm with n := looseZ r.data.toList }
          else if nm.data.toList = [101, 114, 114] then { m.pm with er := looseZ r.data.toList }
          else bigC m.pm nm.data.toList r.data.toList)) := by
          show _ = _
          rw [hnmm, hr, S_data, S_data]
          unfold fieldC
          simp only
          rw [if_neg (by rw [hnl, str_len]; omega)]
        have HLO : Hid (∀ W, Calls Tryd.prog 49 #[.string r] W fun e w' => e = .returned (.int .i64 (looseZ r.data.toList)) ∧ W = w') := fun W => loose_any r W (by have := HR5.out; omega)
        obtain ⟨Y, hY⟩ : ∃ Y, Y = looseZ r.data.toList := ⟨_, rfl⟩
        rw [← hY] at HLO HF
        have jn : (0 : Int) ≤ (j : Int) + 1 := by omega
        have jn2 : (j : Int) + 1 ≤ (s.size : Int) := by omega
        have jn3 : ((j : Int) + 1).toNat = j + 1 := by omega
        clear hnm h61 hnmm hr hnl hY
        by_cases hw : nm.data.toList = [115, 101, 110, 100, 101, 114]
        · have f1 : nm.toList = [115, 101, 110, 100, 101, 114] := by rw [ByteArray.toList_eq]; exact hw
          have HW := hide hw
          clear hw
          have f3 := Blk.frozen HS0.out.box 10
          have c9 := mb10 HS0.out.box
          go_upto_region 20 with (go_at_call 49; refine (HLO.out _).mono ?_; rintro e w3 ⟨rfl, rfl⟩)
          obtain ⟨m', hm'⟩ : ∃ m' : Mk, m' = { m with se := Y } := ⟨_, rfl⟩
          have HM := hide hm'
          have HS8 : Hid (B2 w (W0.setCell ⟨w.heap.size, 10, none⟩ (.int .i64 Y)) b m') := HS0.out.set 10 _ (by rw [hm']; exact set_se m _) (by rw [hm']; exact ⟨HS0.out.t.mem, HS0.out.t.tr, HS0.out.t.body, HS0.out.t.hm, HS0.out.t.ht, HS0.out.t.hb⟩) hb
          clear hm' f3 c9
          refine wp_region_lit ?_
          refine wpList_value rfl (.agg m'.cs) (ex_load 48 (.tmp 2) rfl _ rfl m'.cs _ Tryd.underlying48 rfl (ld48 _ (mk_size _)) (box_all HS8.out.box)) ?_
          simp only [Act.put, List.setIfInBounds_toArray, List.set_cons_zero, List.set_cons_succ]
          obtain ⟨Z, hZs, hZ⟩ := HS8.out.out
          refine wpList_put_at rfl 48 (.tmp 4) (.tmp 62) rfl (w.heap.size + 1) 0 m'.cs rfl rfl 48 Z hZ (ld48 _ (mk_size _)) (by rw [mk_size, hZs]; omega) (cs_all m') _ (put_zero Z hZs m') ?_
          simp only [Act.put, List.setIfInBounds_toArray, List.set_cons_zero, List.set_cons_succ]
          go_wp2_with fail
          refine bodyPost_ret (results_48 rfl _ rfl (hZ.row _)) rfl ?_
          refine HS8.out.fin ?_ hb
          rw [HM.out, HF.out, HW.out]
          rfl
        have n_se := name_no hw
        have b_se := name_nb hw
        have k_se := hide hw
        clear hw
        by_cases hw : nm.data.toList = [115, 101, 113]
        · have f1 : nm.toList = [115, 101, 113] := by rw [ByteArray.toList_eq]; exact hw
          have HW := hide hw
          clear hw
          have f3 := Blk.frozen HS0.out.box 11
          have c9 := mb11 HS0.out.box
          go_upto_region 20 with (go_at_call 49; refine (HLO.out _).mono ?_; rintro e w3 ⟨rfl, rfl⟩)
          obtain ⟨m', hm'⟩ : ∃ m' : Mk, m' = { m with sq := Y } := ⟨_, rfl⟩
          have HM := hide hm'
          have HS8 : Hid (B2 w (W0.setCell ⟨w.heap.size, 11, none⟩ (.int .i64 Y)) b m') := HS0.out.set 11 _ (by rw [hm']; exact set_sq m _) (by rw [hm']; exact ⟨HS0.out.t.mem, HS0.out.t.tr, HS0.out.t.body, HS0.out.t.hm, HS0.out.t.ht, HS0.out.t.hb⟩) hb
          clear hm' f3 c9
          refine wp_region_lit ?_
          refine wpList_value rfl (.agg m'.cs) (ex_load 48 (.tmp 2) rfl _ rfl m'.cs _ Tryd.underlying48 rfl (ld48 _ (mk_size _)) (box_all HS8.out.box)) ?_
          simp only [Act.put, List.setIfInBounds_toArray, List.set_cons_zero, List.set_cons_succ]
          obtain ⟨Z, hZs, hZ⟩ := HS8.out.out
          refine wpList_put_at rfl 48 (.tmp 4) (.tmp 62) rfl (w.heap.size + 1) 0 m'.cs rfl rfl 48 Z hZ (ld48 _ (mk_size _)) (by rw [mk_size, hZs]; omega) (cs_all m') _ (put_zero Z hZs m') ?_
          simp only [Act.put, List.setIfInBounds_toArray, List.set_cons_zero, List.set_cons_succ]
          go_wp2_with fail
          refine bodyPost_ret (results_48 rfl _ rfl (hZ.row _)) rfl ?_
          refine HS8.out.fin ?_ hb
          rw [HM.out, HF.out, HW.out]
          rfl
        have n_sq := name_no hw
        have b_sq := name_nb hw
        have k_sq := hide hw
        clear hw
        by_cases hw : nm.data.toList = [112, 111, 115]
        · have f1 : nm.toList = [112, 111, 115] := by rw [ByteArray.toList_eq]; exact hw
          have HW := hide hw
          clear hw
          have f3 := Blk.frozen HS0.out.box 12
          have c9 := mb12 HS0.out.box
          go_upto_region 20 with (go_at_call 49; refine (HLO.out _).mono ?_; rintro e w3 ⟨rfl, rfl⟩)
          obtain ⟨m', hm'⟩ : ∃ m' : Mk, m' = { m with po := Y } := ⟨_, rfl⟩
          have HM := hide hm'
          have HS8 : Hid (B2 w (W0.setCell ⟨w.heap.size, 12, none⟩ (.int .i64 Y)) b m') := HS0.out.set 12 _ (by rw [hm']; exact set_po m _) (by rw [hm']; exact ⟨HS0.out.t.mem, HS0.out.t.tr, HS0.out.t.body, HS0.out.t.hm, HS0.out.t.ht, HS0.out.t.hb⟩) hb
          clear hm' f3 c9
          refine wp_region_lit ?_
          refine wpList_value rfl (.agg m'.cs) (ex_load 48 (.tmp 2) rfl _ rfl m'.cs _ Tryd.underlying48 rfl (ld48 _ (mk_size _)) (box_all HS8.out.box)) ?_
          simp only [Act.put, List.setIfInBounds_toArray, List.set_cons_zero, List.set_cons_succ]
          obtain ⟨Z, hZs, hZ⟩ := HS8.out.out
          refine wpList_put_at rfl 48 (.tmp 4) (.tmp 62) rfl (w.heap.size + 1) 0 m'.cs rfl rfl 48 Z hZ (ld48 _ (mk_size _)) (by rw [mk_size, hZs]; omega) (cs_all m') _ (put_zero Z hZs m') ?_
          simp only [Act.put, List.setIfInBounds_toArray, List.set_cons_zero, List.set_cons_succ]
          go_wp2_with fail
          refine bodyPost_ret (results_48 rfl _ rfl (hZ.row _)) rfl ?_
          refine HS8.out.fin ?_ hb
          rw [HM.out, HF.out, HW.out]
          rfl
        have n_po := name_no hw
        have b_po := name_nb hw
        have k_po := hide hw
        clear hw
        by_cases hw : nm.data.toList = [110]
        · have f1 : nm.toList = [110] := by rw [ByteArray.toList_eq]; exact hw
          have HW := hide hw
          clear hw
          have f3 := Blk.frozen HS0.out.box 13
          have c9 := mb13 HS0.out.box
          go_upto_region 20 with (go_at_call 49; refine (HLO.out _).mono ?_; rintro e w3 ⟨rfl, rfl⟩)
          obtain ⟨m', hm'⟩ : ∃ m' : Mk, m' = { m with n := Y } := ⟨_, rfl⟩
          have HM := hide hm'
          have HS8 : Hid (B2 w (W0.setCell ⟨w.heap.size, 13, none⟩ (.int .i64 Y)) b m') := HS0.out.set 13 _ (by rw [hm']; exact set_n m _) (by rw [hm']; exact ⟨HS0.out.t.mem, HS0.out.t.tr, HS0.out.t.body, HS0.out.t.hm, HS0.out.t.ht, HS0.out.t.hb⟩) hb
          clear hm' f3 c9
          refine wp_region_lit ?_
          refine wpList_value rfl (.agg m'.cs) (ex_load 48 (.tmp 2) rfl _ rfl m'.cs _ Tryd.underlying48 rfl (ld48 _ (mk_size _)) (box_all HS8.out.box)) ?_
          simp only [Act.put, List.setIfInBounds_toArray, List.set_cons_zero, List.set_cons_succ]
          obtain ⟨Z, hZs, hZ⟩ := HS8.out.out
          refine wpList_put_at rfl 48 (.tmp 4) (.tmp 62) rfl (w.heap.size + 1) 0 m'.cs rfl rfl 48 Z hZ (ld48 _ (mk_size _)) (by rw [mk_size, hZs]; omega) (cs_all m') _ (put_zero Z hZs m') ?_
          simp only [Act.put, List.setIfInBounds_toArray, List.set_cons_zero, List.set_cons_succ]
          go_wp2_with fail
          refine bodyPost_ret (results_48 rfl _ rfl (hZ.row _)) rfl ?_
          refine HS8.out.fin ?_ hb
          rw [HM.out, HF.out, HW.out]
          rfl
        have n_n := name_no hw
        have b_n := name_nb hw
        have k_n := hide hw
        clear hw
        by_cases hw : nm.data.toList = [101, 114, 114]
        · have f1 : nm.toList = [101, 114, 114] := by rw [ByteArray.toList_eq]; exact hw
          have HW := hide hw
          clear hw
          have f3 := Blk.frozen HS0.out.box 25
          have c9 := mb25 HS0.out.box
          go_upto_region 20 with (go_at_call 49; refine (HLO.out _).mono ?_; rintro e w3 ⟨rfl, rfl⟩)
          obtain ⟨m', hm'⟩ : ∃ m' : Mk, m' = { m with er := Y } := ⟨_, rfl⟩
          have HM := hide hm'
          have HS8 : Hid (B2 w (W0.setCell ⟨w.heap.size, 25, none⟩ (.int .i64 Y)) b m') := HS0.out.set 25 _ (by rw [hm']; exact set_er m _) (by rw [hm']; exact ⟨HS0.out.t.mem, HS0.out.t.tr, HS0.out.t.body, HS0.out.t.hm, HS0.out.t.ht, HS0.out.t.hb⟩) hb
          clear hm' f3 c9
          refine wp_region_lit ?_
          refine wpList_value rfl (.agg m'.cs) (ex_load 48 (.tmp 2) rfl _ rfl m'.cs _ Tryd.underlying48 rfl (ld48 _ (mk_size _)) (box_all HS8.out.box)) ?_
          simp only [Act.put, List.setIfInBounds_toArray, List.set_cons_zero, List.set_cons_succ]
          obtain ⟨Z, hZs, hZ⟩ := HS8.out.out
          refine wpList_put_at rfl 48 (.tmp 4) (.tmp 62) rfl (w.heap.size + 1) 0 m'.cs rfl rfl 48 Z hZ (ld48 _ (mk_size _)) (by rw [mk_size, hZs]; omega) (cs_all m') _ (put_zero Z hZs m') ?_
          simp only [Act.put, List.setIfInBounds_toArray, List.set_cons_zero, List.set_cons_succ]
          go_wp2_with fail
          refine bodyPost_ret (results_48 rfl _ rfl (hZ.row _)) rfl ?_
          refine HS8.out.fin ?_ hb
          rw [HM.out, HF.out, HW.out]
          rfl
        have n_er := name_no hw
        have b_er := name_nb hw
        have k_er := hide hw
        clear hw
        have hF2 : fieldC m.pm s.data.toList = bigC m.pm nm.data.toList r.data.toList := by
          rw [HF.out, if_neg k_se.out, if_neg k_sq.out, if_neg k_po.out, if_neg k_n.out, if_neg k_er.out]
        have HF2 := hide hF2
        clear hF2
        go_upto_region 9 with fail
        refine wp_region_lit ?_
        refine wpList_value rfl (.agg m.cs) (ex_load 48 (.tmp 2) rfl _ rfl m.cs _ Tryd.underlying48 rfl (ld48 _ (mk_size _)) (box_all HS0.out.box)) ?_
        simp only [Act.put, List.setIfInBounds_toArray, List.set_cons_zero, List.set_cons_succ]
        have HBG := hide (big_any m nm r b W0 HS0.out.t hbW0 HR5.out hz)
        refine wpList_step (fun K hK => ?_)
        rw [if_pos (by rfl)]
        go_simp
        refine hK _ _ ?_
        clear hK K
        refine wpList_step (fun K hK => ?_)
        rw [if_pos (by rfl)]
        go_simp
        refine hK _ _ ?_
        clear hK K
        refine wpList_step (fun K hK => ?_)
        rw [if_pos (by rfl)]
        go_simp
        go_at_call 65
        refine HBG.out.mono ?_
        rintro e w3 ⟨m', rfl, hpm, ht, hlow, hkeep⟩
        refine hK _ _ ?_
        clear hK K
        try simp only [Act.put, List.setIfInBounds_toArray, List.set_cons_zero, List.set_cons_succ]
        obtain ⟨Z, hZs, hZ0⟩ := HS0.out.out
        have hZ := hkeep _ _ _ hZ0 (by decide)
        refine wpList_put_at rfl 48 (.tmp 4) (.tmp 36) rfl (w.heap.size + 1) 0 m'.cs rfl rfl 48 Z hZ (ld48 _ (mk_size _)) (by rw [mk_size, hZs]; omega) (cs_all m') _ (put_zero Z hZs m') ?_
        simp only [Act.put, List.setIfInBounds_toArray, List.set_cons_zero, List.set_cons_succ]
        go_wp2_with fail
        refine bodyPost_ret (results_48 rfl _ rfl (hZ.row _)) rfl ?_
        have hW := only_setRow w3 (w.heap.size + 1) m'.cs
        have hl3 : Below b w w3 := HS0.out.low.trans hlow
        exact ⟨m', rfl, by rw [hpm, HF2.out], ht.far hZ (by decide) (by decide) (by decide) hW, hl3.trans (hW.below (by have := hl3.size; omega) (fun k hk => by omega)), fun g t cs hg hne => (hkeep g t cs (HS0.out.keep g t cs hg hne) hne).only hW (by have := hg.lt; omega)⟩
      · have ne61 : ((c.toNat : Int) == 61) = false := by rw [beq_eq_false_iff_ne]; omega
        have ne62 : ((c.toNat : Int) != 61) = true := by rw [bne, ne61]; rfl
        have HL2 : Hid (FLoop s (.int .i64 ((j : Int) + 1))) := by
          refine ⟨j + 1, by omega, by go_num, ?_⟩
          rw [hnm, HD.out, nameC_cons h61, piece_snoc (Nat.zero_le _) hlt, ← HCC.out, List.append_assoc]
          rfl
        clear hnm h61
        go_wp2_with fail
        go_round
        case rel => first | exact HL2.out | exact ⟨_, HL2.out, rfl⟩
        case measure => simp [intOf]; omega
    · have js : ¬ (j : Int) < (s.size : Int) := by omega
      have HF : Hid (fieldC m.pm s.data.toList = m.pm) := by
        show _ = _
        unfold fieldC
        simp only
        rw [if_pos]
        rw [hnm, List.drop_eq_nil_of_le (by rw [str_len]; omega)]
        show (piece s 0 j ++ []).length = _
        rw [List.append_nil, piece_len hj, str_len]
        omega
      obtain ⟨m', hm'⟩ : ∃ m' : Mk, m' = m := ⟨_, rfl⟩
      have HM := hide hm'
      have HS8 : Hid (B2 w W0 b m') := by
        show B2 w W0 b m'
        rw [hm']
        exact HS0.out
      clear hm' hnm hlt
      go_upto_region 5 with fail
      refine wp_region_lit ?_
      refine wpList_value rfl (.agg m'.cs) (ex_load 48 (.tmp 2) rfl _ rfl m'.cs _ Tryd.underlying48 rfl (ld48 _ (mk_size _)) (box_all HS8.out.box)) ?_
      simp only [Act.put, List.setIfInBounds_toArray, List.set_cons_zero, List.set_cons_succ]
      obtain ⟨Z, hZs, hZ⟩ := HS8.out.out
      refine wpList_put_at rfl 48 (.tmp 4) (.tmp 24) rfl (w.heap.size + 1) 0 m'.cs rfl rfl 48 Z hZ (ld48 _ (mk_size _)) (by rw [mk_size, hZs]; omega) (cs_all m') _ (put_zero Z hZs m') ?_
      simp only [Act.put, List.setIfInBounds_toArray, List.set_cons_zero, List.set_cons_succ]
      go_wp2_with fail
      refine bodyPost_ret (results_48 rfl _ rfl (hZ.row _)) rfl ?_
      refine HS8.out.fin ?_ hb
      rw [HM.out, HF.out]
end Go.Proofs.YtenebkkfjalcaaaDoor
