/-
  The reference's Lines.
-/
import Derived.Test.YtcibcmfaebbhnaaDoorZSeg
set_option linter.unusedVariables false
set_option linter.unusedSimpArgs false
namespace Go.Proofs.YtcibcmfaebbhnaaDoor
open Go.RowKit Go.WideShapes Go.ChangeShapes Q

/-- Lines as they lie. -/
def ltx (ls : List (List UInt8)) : List Value := ls.map fun l => .string (S l)
theorem ltx_app (a b : List (List UInt8)) : ltx (a ++ b) = ltx a ++ ltx b := List.map_append
theorem sg_len_ {s : ByteArray} {a j : Nat} (h : j ≤ s.size) : (sg s a j).length = j - a := by
  unfold sg
  rw [List.length_take, List.length_drop, str_len]
  omega
/-- A text's lines: cur is the line so far. -/
def linG (cur : List UInt8) : List UInt8 → List (List UInt8)
  | [] => if cur = [] then [] else [cur]
  | c :: r => if c.toNat = 10 then cur :: linG [] r else linG (cur ++ [c]) r
def LinP (l : List UInt8) (w : World) (e : Ending) (w' : World) : Prop := ∃ A cap, e = .returned (.slice A (linG [] l).length cap) ∧ w'.ownsRow w.heap.size 9 1 (.slice A (linG [] l).length cap) (linG [] l).length (ltx (linG [] l)) ∧ Below w.heap.size w w'
/-- What the loop keeps. -/
def LnJ (s : ByteArray) (W : World) (v a i : Value) (wr : World) : Prop := ∃ (ps : List (List UInt8)) (at_ j : Nat), at_ ≤ j ∧ j ≤ s.size ∧ i = .int .i64 j ∧ a = .int .i64 at_ ∧ ps.length ≤ j ∧
  linG [] s.data.toList = ps ++ linG (sg s at_ j) (s.data.toList.drop j) ∧ wr.ownsRow W.heap.size 9 1 v ps.length (ltx ps) ∧ Below W.heap.size W wr
set_option maxRecDepth 100000 in
set_option maxHeartbeats 8000000 in
theorem lines_ref (s : ByteArray) (w : World) (hs : s.size ≤ 1000000000000) :
    Calls Tryd.prog 38 #[.string s] w fun e w' => LinP s.data.toList w e w' := by
  obtain ⟨i9, hi9, hz9, hs9, hb9⟩ := info_parts info9
  have I9 := hide hi9
  clear hi9
  have HL0 : Hid (LnJ s w (.slice none 0 0) (.int .i64 0) (.int .i64 0) w) := ⟨[], 0, 0, Nat.le_refl _, Nat.zero_le _, rfl, rfl, by simp, by rw [sg_nil]; rfl, World.ownsRow_nil _ _ _ _, Below.refl _ _⟩
  go_enter Tryd.func38, Tryd.ntmps38
  go_upto_region 4 with fail
  go_loopw [3, 4, 5] (fun v a i wr => LnJ s w v a i wr) (fun _ _ i _ => s.size - (intOf i).toNat)
  case atStart => exact HL0.out
  case round =>
    clear HL0
    unfold LnJ at hrel
    obtain ⟨ps, at_, j, haj, hj, rfl, rfl, hpl, hcut, hown, hb⟩ := hrel
    have HC := hide hcut
    have HO := hide hown
    have HB := hide hb
    have hsw : w.heap.size ≤ wr.heap.size := HB.out.size
    obtain ⟨A7, c7, rfl, _, _⟩ := own_slice hown
    clear hcut hown hb
    have j0 : (0 : Int) ≤ (j : Int) := by omega
    have a0 : (0 : Int) ≤ (at_ : Int) := by omega
    have aj : (at_ : Int) ≤ (j : Int) := by omega
    have jz : (j : Int) ≤ (s.size : Int) := by omega
    by_cases hlt : j < s.size
    · obtain ⟨q, hq⟩ : ∃ q, q = s[j] := ⟨_, rfl⟩
      have hqc := hq.symm
      have HQ := hide hq
      have HD : Hid (s.data.toList.drop j = q :: s.data.toList.drop (j + 1)) := by rw [hq]; exact bdrop hlt
      have q256 : q.toNat < 256 := q.toNat_lt
      have js : (j : Int) < (s.size : Int) := by omega
      clear hq
      by_cases h10 : q.toNat = 10
      · have e1 : ((q.toNat : Int) == 10) = true := by rw [beq_iff_eq]; omega
        obtain ⟨pc, hpc⟩ : ∃ pc, pc = sg s at_ j := ⟨_, rfl⟩
        have hpx : s.extract at_ j = S pc := by rw [hpc]; exact sg_ext s at_ j
        have HC2 : Hid (linG [] s.data.toList = (ps ++ [pc]) ++ linG (sg s (j + 1) (j + 1)) (s.data.toList.drop (j + 1))) := by
          show _ = _
          rw [HC.out, HD.out, linG, if_pos h10, sg_nil, hpc]
          simp
        clear h10 hpc
        go_wp2_with (at_builtin; refine wpList_push (W := wr) (cs := #[.string (S pc)]) rfl (.tmp 16) (.tmp 21) _ rfl w.heap.size 9 i9 _ 1 16 Tryd.underlying57 I9.out hz9 hs9 hb9 rfl (by omega) (.slice A7 ps.length c7) ps.length (ltx ps) rfl HO.out 1 1 rfl rfl (by simp [Value.oneCell']) (by omega) (by unfold maxLen; omega) (by omega) hsw ?_; intro g8 c8 w8 hown8 _ hb8 _ _ _; have HL8 : Hid (LnJ s w (.slice (some ⟨g8, 0, none⟩) (ps.length + 1) c8) (.int .i64 ((j : Int) + 1)) (.int .i64 ((j : Int) + 1)) w8) := ⟨ps ++ [pc], j + 1, j + 1, Nat.le_refl _, by omega, by go_num, by go_num, by rw [List.length_append, List.length_singleton]; omega, HC2.out, by rw [ltx_app, List.length_append]; exact hown8, HB.out.trans hb8⟩; clear hown8 hb8)
        go_roundw
        case rel => first | exact HL8.out | exact ⟨_, _, _, HL8.out, rfl, rfl, rfl⟩
        case measure => simp [intOf]; omega
      · have e1 : ((q.toNat : Int) == 10) = false := by rw [beq_eq_false_iff_ne]; omega
        have HC2 : Hid (linG [] s.data.toList = ps ++ linG (sg s at_ (j + 1)) (s.data.toList.drop (j + 1))) := by
          show _ = _
          rw [HC.out, HD.out, linG, if_neg h10, sg_snoc haj hlt, HQ.out]
        have HL8 : Hid (LnJ s w (.slice A7 ps.length c7) (.int .i64 (at_ : Int)) (.int .i64 ((j : Int) + 1)) wr) := ⟨ps, at_, j + 1, by omega, by omega, by go_num, rfl, by omega, HC2.out, HO.out, HB.out⟩
        clear h10
        go_wp2_with fail
        go_roundw
        case rel => first | exact HL8.out | exact ⟨_, _, _, HL8.out, rfl, rfl, rfl⟩
        case measure => simp [intOf]; omega
    · have js : ¬ (j : Int) < (s.size : Int) := by omega
      have hjs : j = s.size := by omega
      have hC := HC.out
      rw [hjs, List.drop_eq_nil_of_le (by rw [str_len]; omega), linG] at hC
      have hl := sg_len_ (s := s) (a := at_) (j := s.size) (Nat.le_refl _)
      by_cases hat : at_ < s.size
      · obtain ⟨pc, hpc⟩ : ∃ pc, pc = sg s at_ s.size := ⟨_, rfl⟩
        have hpx : s.extract at_ s.size = S pc := by rw [hpc]; exact sg_ext s at_ s.size
        have HN : Hid (linG [] s.data.toList = ps ++ [pc]) := by
          show _ = _
          rw [hC, if_neg (by intro e; rw [e] at hl; simp at hl; omega), hpc]
        have az : (at_ : Int) ≤ (s.size : Int) := by omega
        have az2 : (at_ : Int) < (s.size : Int) := by omega
        clear hlt hjs hpc hC hl
        go_wp2_with (at_builtin; refine wpList_push (W := wr) (cs := #[.string (S pc)]) rfl (.tmp 29) (.tmp 33) _ rfl w.heap.size 9 i9 _ 1 16 Tryd.underlying57 I9.out hz9 hs9 hb9 rfl (by omega) (.slice A7 ps.length c7) ps.length (ltx ps) rfl HO.out 1 1 rfl rfl (by simp [Value.oneCell']) (by omega) (by unfold maxLen; omega) (by omega) hsw ?_; intro g8 c8 w8 hown8 _ hb8 _ _ _; have HO8 : Hid (w8.ownsRow w.heap.size 9 1 (.slice (some ⟨g8, 0, none⟩) (ps ++ [pc]).length c8) (ps ++ [pc]).length (ltx (ps ++ [pc]))) := (by show World.ownsRow _ _ _ _ _ _ _; rw [ltx_app, List.length_append]; exact hown8); have HB8 := hide (HB.out.trans hb8); clear hown8 hb8)
        go_ret
        refine ⟨some ⟨g8, 0, none⟩, c8, ?_, ?_, HB8.out⟩
        · rw [HN.out, List.length_append]
          rfl
        · rw [HN.out]
          exact HO8.out
      · have HN : Hid (linG [] s.data.toList = ps) := by
          show _ = _
          rw [hC, if_pos (List.length_eq_zero_iff.1 (by rw [hl]; omega)), List.append_nil]
        have az2 : ¬ (at_ : Int) < (s.size : Int) := by omega
        clear hlt hjs hC hl
        go_wp2_with fail
        go_ret
        refine ⟨A7, c7, ?_, ?_, HB.out⟩
        · rw [HN.out]
          rfl
        · rw [HN.out]
          exact HO.out
end Go.Proofs.YtcibcmfaebbhnaaDoor
