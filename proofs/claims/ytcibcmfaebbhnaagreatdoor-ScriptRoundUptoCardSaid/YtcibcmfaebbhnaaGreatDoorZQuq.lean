/-
  The program's quote. (Printed by wip/tools/mkquq.py.)
-/
import Derived.Test.YtcibcmfaebbhnaaGreatDoorZQuo
set_option linter.unusedVariables false
set_option linter.unusedSimpArgs false
namespace Go.Proofs.YtcibcmfaebbhnaaGreatDoor
open Go.RowKit Go.WideShapes Go.ChangeShapes Q
theorem own_of_alloc (w : World) (e : TypeId) (xs : List Value) (n : Nat) (h : xs.length = n) (hn : n ≤ maxLen) : (w.alloc (.cells xs.toArray e)).ownsRow w.heap.size e 1 (.slice (some ⟨w.heap.size, 0, none⟩) n n) n xs := by
  refine ⟨by rw [h, Nat.mul_one], .inr ⟨w.heap.size, n, xs.toArray, rfl, Nat.le_refl _, Blk.new w _ _, Nat.le_refl _, hn, by simpa using h, ?_⟩⟩
  rw [Nat.mul_one, List.take_of_length_le (by simp; omega)]
set_option maxRecDepth 100000 in
set_option maxHeartbeats 1000000 in
theorem quote_any (s : ByteArray) (w : World) (hs : s.size ≤ 1000000000000) :
    Calls Tryz.prog 58 #[.string s] w fun e w' => e = .returned (.string (S (quoteL s.data.toList))) ∧ Below w.heap.size w w' := by
  obtain ⟨i5, hi5, hz5, hs5, hb5⟩ := info_parts info5
  have I5 := hide hi5
  clear hi5
  have HO1 : Hid ((w.alloc (.cells #[.int .u8 34] 5)).ownsRow w.heap.size 5 1 (.slice (some ⟨w.heap.size, 0, none⟩) 1 1) 1 (Lib.byteCells [34])) := own_of_alloc w 5 [.int .u8 34] 1 rfl (by unfold maxLen; omega)
  have HB1 : Hid (Below w.heap.size w (w.alloc (.cells #[.int .u8 34] 5))) := (Below.refl _ _).alloc (Nat.le_refl _) _
  go_enter Tryz.func58, Tryz.ntmps58
  go_upto_region 3 with fail
  go_loopw [3, 4, 5, 9] (fun v i4 cc i9 wr => ∃ (k g cap : Nat) (out : List UInt8), k ≤ s.size ∧ i9 = .int .i64 k ∧ out = [34] ++ (s.data.toList.take k).flatMap qb ∧ v = .slice (some ⟨g, 0, none⟩) out.length cap ∧ Hid (wr.ownsRow w.heap.size 5 1 (.slice (some ⟨g, 0, none⟩) out.length cap) out.length (Lib.byteCells out)) ∧ Hid (Below w.heap.size w wr)) (fun _ _ _ i _ => s.size - (intOf i).toNat)
  case atStart => exact ⟨0, w.heap.size, 1, [34], Nat.zero_le _, rfl, rfl, rfl, HO1.out, HB1.out⟩
  case round =>
    obtain ⟨k, g, cap, out, hk, rfl, hout, rfl, hown, hb⟩ := hrel
    have HOUT := hide hout
    have hol : out.length ≤ 4000000000001 := by
      have h1 := qbs_len (s.data.toList.take k)
      rw [List.length_take, str_len] at h1
      have h2 : out.length = 1 + ((s.data.toList.take k).flatMap qb).length := by rw [hout, List.length_append]; rfl
      omega
    have hsb : w.heap.size ≤ wr.heap.size := hb.out.size
    clear hout HO1 HB1
    by_cases hlt : k < s.size
    · obtain ⟨c, hc⟩ : ∃ c, c = s[k] := ⟨_, rfl⟩
      have hcc := hc.symm
      have hqt := qb_take hlt
      rw [hcc] at hqt
      have HQT := hide hqt
      have c256 : c.toNat < 256 := c.toNat_lt
      have k0 : (0 : Int) ≤ (k : Int) := by omega
      have ks : (k : Int) < (s.size : Int) := by omega
      clear hqt hc
      by_cases h1 : c.toNat = 34 ∨ c.toNat = 92
      · have HQ : Hid (qb c = [92, c]) := if_pos h1
        by_cases h34 : c.toNat = 34
        · have e1 : ((c.toNat : Int) == 34) = true := by rw [beq_iff_eq]; omega
          clear h1 h34
          go_wp2_with (at_builtin; refine wpList_push rfl (.tmp 26) (.tmp 28) _ rfl w.heap.size 5 i5 _ 1 1 Tryz.underlying29 I5.out hz5 hs5 hb5 rfl (by omega) (.slice (some ⟨g, 0, none⟩) out.length cap) out.length _ rfl hown.out 2 2 #[.int .u8 92, .int .u8 (c.toNat : Int)] rfl rfl (by simp [Value.oneCell']) (by omega) (by unfold maxLen; omega) (by omega) hsb ?_; intro g7 c7 w7 hown7 _ hb7 _ _ _; have HO7 : Hid (w7.ownsRow w.heap.size 5 1 (.slice (some ⟨g7, 0, none⟩) (out ++ qb c).length c7) (out ++ qb c).length (Lib.byteCells (out ++ qb c))) := (by rw [HQ.out, List.length_append, Lib.byteCells_append]; exact hown7); have HL7 : Hid ((out ++ qb c).length = out.length + 2) := (by rw [HQ.out, List.length_append]; rfl); have HB7 : Hid (Below w.heap.size w w7) := hb.out.trans hb7; clear hown7 hb7)
          go_roundw
          case rel => exact ⟨k + 1, g7, c7, out ++ qb c, by omega, by go_num, by rw [HOUT.out, List.append_assoc, HQT.out], by rw [HL7.out], HO7.out, HB7.out⟩
          case measure => simp [intOf]; omega
        · have e1 : ((c.toNat : Int) == 34) = false := by rw [beq_eq_false_iff_ne]; omega
          have e2 : ((c.toNat : Int) == 92) = true := by rw [beq_iff_eq]; omega
          clear h1 h34
          go_wp2_with (at_builtin; refine wpList_push rfl (.tmp 26) (.tmp 28) _ rfl w.heap.size 5 i5 _ 1 1 Tryz.underlying29 I5.out hz5 hs5 hb5 rfl (by omega) (.slice (some ⟨g, 0, none⟩) out.length cap) out.length _ rfl hown.out 2 2 #[.int .u8 92, .int .u8 (c.toNat : Int)] rfl rfl (by simp [Value.oneCell']) (by omega) (by unfold maxLen; omega) (by omega) hsb ?_; intro g7 c7 w7 hown7 _ hb7 _ _ _; have HO7 : Hid (w7.ownsRow w.heap.size 5 1 (.slice (some ⟨g7, 0, none⟩) (out ++ qb c).length c7) (out ++ qb c).length (Lib.byteCells (out ++ qb c))) := (by rw [HQ.out, List.length_append, Lib.byteCells_append]; exact hown7); have HL7 : Hid ((out ++ qb c).length = out.length + 2) := (by rw [HQ.out, List.length_append]; rfl); have HB7 : Hid (Below w.heap.size w w7) := hb.out.trans hb7; clear hown7 hb7)
          go_roundw
          case rel => exact ⟨k + 1, g7, c7, out ++ qb c, by omega, by go_num, by rw [HOUT.out, List.append_assoc, HQT.out], by rw [HL7.out], HO7.out, HB7.out⟩
          case measure => simp [intOf]; omega
      · have e1 : ((c.toNat : Int) == 34) = false := by rw [beq_eq_false_iff_ne]; omega
        have e2 : ((c.toNat : Int) == 92) = false := by rw [beq_eq_false_iff_ne]; omega
        by_cases h2 : c.toNat < 32
        · have d1 : decide ((c.toNat : Int) < 32) = true := decide_eq_true (by omega)
          have HQ : Hid (qb c = [92, 120, hexd (c.toNat / 16), hexd (c.toNat % 16)]) := by
            show _ = _
            unfold qb
            rw [if_neg h1, if_pos (.inl h2)]
          clear h1
          obtain ⟨q, hq⟩ : ∃ q, q = c.toNat / 16 := ⟨_, rfl⟩
          obtain ⟨r, hr⟩ : ∃ r, r = c.toNat % 16 := ⟨_, rfl⟩
          have hqi : (c.toNat : Int) / 16 = (q : Int) := by omega
          have hand : bits BinOp.and IntKind.u8 (c.toNat : Int) 15 = (r : Int) := by rw [hr]; exact and15 c256
          have q16 : q < 16 := by omega
          have r16 : r < 16 := by omega
          have q16i : (q : Int) < 16 := by omega
          have r16i : (r : Int) < 16 := by omega
          have hDq := fun h' => hexd_at q16 h'
          have hDr := fun h' => hexd_at r16 h'
          rw [← hq, ← hr] at HQ
          clear hq hr
          go_upto_region 10 with fail
          go_region_law (refine step_push _ (by rfl) (.tmp 37) (.tmp 44) _ (by rfl) w.heap.size 5 i5 _ 1 1 Tryz.underlying29 I5.out hz5 hs5 hb5 (by rfl) (by omega) (.slice (some ⟨g, 0, none⟩) out.length cap) out.length (Lib.byteCells out) (by rfl) ?_ wr.heap.size 4 4 #[.int .u8 92, .int .u8 120, .int .u8 ((hexd q).toNat : Int), .int .u8 ((hexd r).toNat : Int)] (by rfl) ?_ (by rfl) ?_ (by omega) ?_ ?_ ?_ ?_; exact hown.out.alloc _; exact Blk.new wr _ _; (intro u hu; simp at hu; rcases hu with rfl | rfl | rfl | rfl <;> rfl); (unfold maxLen; omega); omega; (simp; omega); intro g7 c7 w7 hown7 hgr7 _ _)
          all_goals
            have HO7 : Hid (w7.ownsRow w.heap.size 5 1 (.slice (some ⟨g7, 0, none⟩) (out ++ qb c).length c7) (out ++ qb c).length (Lib.byteCells (out ++ qb c))) := by
              rw [HQ.out, List.length_append, Lib.byteCells_append]
              exact hown7
            have HL7 : Hid ((out ++ qb c).length = out.length + 4) := by rw [HQ.out, List.length_append]; rfl
            have HB7 : Hid (Below w.heap.size w w7) := by
              first
              | exact ((hb.out.alloc hsb _).drew).grown hgr7 (by simp; omega) (fun q hq => (hown.out.lt q hq).1)
              | exact ((hb.out.drew.alloc hsb _)).grown hgr7 (by simp; omega) (fun q hq => (hown.out.lt q hq).1)
            clear hown7 hgr7
            go_wp2_with fail

            go_roundw
            case rel => exact ⟨k + 1, g7, c7, out ++ qb c, by omega, by go_num, by rw [HOUT.out, List.append_assoc, HQT.out], by rw [HL7.out], HO7.out, HB7.out⟩
            case measure => simp [intOf]; omega
        · have d1 : decide ((c.toNat : Int) < 32) = false := decide_eq_false (by omega)
          have d1n : ¬ c.toNat < 32 := h2
          by_cases h3 : 126 < c.toNat
          · have d2 : decide ((126 : Int) < (c.toNat : Int)) = true := decide_eq_true (by omega)
            have HQ : Hid (qb c = [92, 120, hexd (c.toNat / 16), hexd (c.toNat % 16)]) := by
              show _ = _
              unfold qb
              rw [if_neg h1, if_pos (.inr h3)]
            clear h1 h2
            obtain ⟨q, hq⟩ : ∃ q, q = c.toNat / 16 := ⟨_, rfl⟩
            obtain ⟨r, hr⟩ : ∃ r, r = c.toNat % 16 := ⟨_, rfl⟩
            have hqi : (c.toNat : Int) / 16 = (q : Int) := by omega
            have hand : bits BinOp.and IntKind.u8 (c.toNat : Int) 15 = (r : Int) := by rw [hr]; exact and15 c256
            have q16 : q < 16 := by omega
            have r16 : r < 16 := by omega
            have q16i : (q : Int) < 16 := by omega
            have r16i : (r : Int) < 16 := by omega
            have hDq := fun h' => hexd_at q16 h'
            have hDr := fun h' => hexd_at r16 h'
            rw [← hq, ← hr] at HQ
            clear hq hr
            go_upto_region 10 with fail
            go_region_law (refine step_push _ (by rfl) (.tmp 37) (.tmp 44) _ (by rfl) w.heap.size 5 i5 _ 1 1 Tryz.underlying29 I5.out hz5 hs5 hb5 (by rfl) (by omega) (.slice (some ⟨g, 0, none⟩) out.length cap) out.length (Lib.byteCells out) (by rfl) ?_ wr.heap.size 4 4 #[.int .u8 92, .int .u8 120, .int .u8 ((hexd q).toNat : Int), .int .u8 ((hexd r).toNat : Int)] (by rfl) ?_ (by rfl) ?_ (by omega) ?_ ?_ ?_ ?_; exact hown.out.alloc _; exact Blk.new wr _ _; (intro u hu; simp at hu; rcases hu with rfl | rfl | rfl | rfl <;> rfl); (unfold maxLen; omega); omega; (simp; omega); intro g7 c7 w7 hown7 hgr7 _ _)
            all_goals
              have HO7 : Hid (w7.ownsRow w.heap.size 5 1 (.slice (some ⟨g7, 0, none⟩) (out ++ qb c).length c7) (out ++ qb c).length (Lib.byteCells (out ++ qb c))) := by
                rw [HQ.out, List.length_append, Lib.byteCells_append]
                exact hown7
              have HL7 : Hid ((out ++ qb c).length = out.length + 4) := by rw [HQ.out, List.length_append]; rfl
              have HB7 : Hid (Below w.heap.size w w7) := by
                first
                | exact ((hb.out.alloc hsb _).drew).grown hgr7 (by simp; omega) (fun q hq => (hown.out.lt q hq).1)
                | exact ((hb.out.drew.alloc hsb _)).grown hgr7 (by simp; omega) (fun q hq => (hown.out.lt q hq).1)
              clear hown7 hgr7
              go_wp2_with fail

              go_roundw
              case rel => exact ⟨k + 1, g7, c7, out ++ qb c, by omega, by go_num, by rw [HOUT.out, List.append_assoc, HQT.out], by rw [HL7.out], HO7.out, HB7.out⟩
              case measure => simp [intOf]; omega
          · have d2 : decide ((126 : Int) < (c.toNat : Int)) = false := decide_eq_false (by omega)
            have HQ : Hid (qb c = [c]) := by
              show _ = _
              unfold qb
              rw [if_neg h1, if_neg (by omega)]
            clear h1 h2
            go_wp2_with (at_builtin; refine wpList_push rfl (.tmp 15) (.tmp 17) _ rfl w.heap.size 5 i5 _ 1 1 Tryz.underlying29 I5.out hz5 hs5 hb5 rfl (by omega) (.slice (some ⟨g, 0, none⟩) out.length cap) out.length _ rfl hown.out 1 1 #[.int .u8 (c.toNat : Int)] rfl rfl (by simp [Value.oneCell']) (by omega) (by unfold maxLen; omega) (by omega) hsb ?_; intro g7 c7 w7 hown7 _ hb7 _ _ _; have HO7 : Hid (w7.ownsRow w.heap.size 5 1 (.slice (some ⟨g7, 0, none⟩) (out ++ qb c).length c7) (out ++ qb c).length (Lib.byteCells (out ++ qb c))) := (by rw [HQ.out, List.length_append, Lib.byteCells_append]; exact hown7); have HL7 : Hid ((out ++ qb c).length = out.length + 1) := (by rw [HQ.out, List.length_append]; rfl); have HB7 : Hid (Below w.heap.size w w7) := hb.out.trans hb7; clear hown7 hb7)
            go_roundw
            case rel => exact ⟨k + 1, g7, c7, out ++ qb c, by omega, by go_num, by rw [HOUT.out, List.append_assoc, HQT.out], by rw [HL7.out], HO7.out, HB7.out⟩
            case measure => simp [intOf]; omega
    · obtain hks : k = s.size := by omega
      have hki : ¬ (k : Int) < (s.size : Int) := by omega
      clear hlt
      go_wp2_with (first
        | (at_builtin; refine wpList_push rfl (.tmp 47) (.tmp 48) _ rfl w.heap.size 5 i5 _ 1 1 Tryz.underlying29 I5.out hz5 hs5 hb5 rfl (by omega) (.slice (some ⟨g, 0, none⟩) out.length cap) out.length _ rfl hown.out 1 1 #[.int .u8 34] rfl rfl (by simp [Value.oneCell']) (by omega) (by unfold maxLen; omega) (by omega) hsb ?_; intro g7 c7 w7 hown7 _ hb7 _ _ _; have HO7 : Hid (w7.ownsRow w.heap.size 5 1 (.slice (some ⟨g7, 0, none⟩) (out ++ [34]).length c7) (out ++ [34]).length (Lib.byteCells (out ++ [34]))) := (by rw [List.length_append, Lib.byteCells_append]; exact hown7); have HB7 := hide hb7; clear hown7 hb7)
        | (refine wpList_conv_bytes rfl (.tmp 49) 29 9 5 rfl Tryz.underlying29 Tryz.underlying5 Tryz.underlying9 ⟨g7, 0, none⟩ (out.length + 1) c7 (out ++ [34]) rfl (by simp) (own_bytes HO7.out) ?_))
      go_ret
      refine ⟨?_, hb.out.trans HB7.out⟩
      rw [HOUT.out, hks, List.take_of_length_le (by rw [str_len]; exact Nat.le_refl _)]
      rfl
end Go.Proofs.YtcibcmfaebbhnaaGreatDoor
