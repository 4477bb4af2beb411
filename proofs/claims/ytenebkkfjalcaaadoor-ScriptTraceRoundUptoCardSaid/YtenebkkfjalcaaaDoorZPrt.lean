/-
  The program's quote. (Printed by wip/tools/mkquq.py.) Contracts of the library laid at this program: where each function and type of their text lies. (Printed by wip/tools/mklay2.py.) Contracts of strconv.Itoa and strings.Join at this program; the program's joined. Contract of the program's joined. Contract of the closure in the program's mark: one part more.
-/
import Derived.Test.YtenebkkfjalcaaaDoorZRct
import Derived.Shelf.Strconv.Itoa3
import Derived.Shelf.Strings.OnBuilder
import Derived.Lib.AppendIntMem
set_option linter.unusedVariables false
set_option linter.unusedSimpArgs false
namespace Go.Proofs.YtenebkkfjalcaaaDoor
open Go.RowKit Go.WideShapes Go.ChangeShapes Q

theorem own_of_alloc (w : World) (e : TypeId) (xs : List Value) (n : Nat) (h : xs.length = n) (hn : n ≤ maxLen) : (w.alloc (.cells xs.toArray e)).ownsRow w.heap.size e 1 (.slice (some ⟨w.heap.size, 0, none⟩) n n) n xs := by
  refine ⟨by rw [h, Nat.mul_one], .inr ⟨w.heap.size, n, xs.toArray, rfl, Nat.le_refl _, Blk.new w _ _, Nat.le_refl _, hn, by simpa using h, ?_⟩⟩
  rw [Nat.mul_one, List.take_of_length_le (by simp; omega)]

set_option maxRecDepth 100000 in
set_option maxHeartbeats 1000000 in
theorem quote_any (s : ByteArray) (w : World) (hs : s.size ≤ 1000000000000) :
    Calls Tryd.prog 34 #[.string s] w fun e w' => e = .returned (.string (S (quoteL s.data.toList))) ∧ Below w.heap.size w w' := by
  obtain ⟨i5, hi5, hz5, hs5, hb5⟩ := info_parts info5
  have I5 := hide hi5
  clear hi5
  have HO1 : Hid ((w.alloc (.cells #[.int .u8 34] 5)).ownsRow w.heap.size 5 1 (.slice (some ⟨w.heap.size, 0, none⟩) 1 1) 1 (Lib.byteCells [34])) := own_of_alloc w 5 [.int .u8 34] 1 rfl (by unfold maxLen; omega)
  have HB1 : Hid (Below w.heap.size w (w.alloc (.cells #[.int .u8 34] 5))) := (Below.refl _ _).alloc (Nat.le_refl _) _
  go_enter Tryd.func34, Tryd.ntmps34
  go_upto_region 3 with fail
  go_loopw [3, 4, 5, 9] (fun v i4 cc i9 wr => ∃ (k g cap : Nat) (out : List UInt8), k ≤ s.size ∧ i9 = .int .i64 k ∧ out = [34] ++ (s.data.toList.take k).flatMap qb ∧ v = .slice (some ⟨g, 0, none⟩) out.length cap ∧ Hid (wr.ownsRow w.heap.size 5 1 (.slice (some ⟨g, 0, none⟩) out.length cap) out.length (Lib.byteCells out)) ∧ Hid (Below w.heap.size w wr)) (fun _ _ _ i _ => s.size - (intOf i).toNat)
  case atStart => exact ⟨0, w.heap.size, 1, [34], Nat.zero_le _, rfl, rfl, rfl, HO1.out, HB1.out⟩
  case round =>
    obtain ⟨k, g, cap, out, hk, rfl, hout, rfl, hown, hb⟩ := hrel
    have HOUT := hide hout
    have hol : out.length ≤ 4000000000001 := by
      have h1 := qbs_len (s.data.toList.take k)
      rw [List.length_take, str_len] at h1
      have h2 : out.length = 1 + ((s.data.toList.take k).flatMap qb).length := by rw [hout, List.length_append]; rfl
      omega
    have hsb : w.heap.size ≤ wr.heap.size := hb.out.size
    clear hout HO1 HB1
    by_cases hlt : k < s.size
    · obtain ⟨c, hc⟩ : ∃ c, c = s[k] := ⟨_, rfl⟩
      have hcc := hc.symm
      have hqt := qb_take hlt
      rw [hcc] at hqt
      have HQT := hide hqt
      have c256 : c.toNat < 256 := c.toNat_lt
      have k0 : (0 : Int) ≤ (k : Int) := by omega
      have ks : (k : Int) < (s.size : Int) := by omega
      clear hqt hc
      by_cases h1 : c.toNat = 34 ∨ c.toNat = 92
      · have HQ : Hid (qb c = [92, c]) := if_pos h1
        by_cases h34 : c.toNat = 34
        · have e1 : ((c.toNat : Int) == 34) = true := by rw [beq_iff_eq]; omega
          clear h1 h34
          go_wp2_with (at_builtin; refine wpList_push rfl (.tmp 26) (.tmp 28) _ rfl w.heap.size 5 i5 _ 1 1 Tryd.underlying42 I5.out hz5 hs5 hb5 rfl (by omega) (.slice (some ⟨g, 0, none⟩) out.length cap) out.length _ rfl hown.out 2 2 #[.int .u8 92, .int .u8 (c.toNat : Int)] rfl rfl (by simp [Value.oneCell']) (by omega) (by unfold maxLen; omega) (by omega) hsb ?_; intro g7 c7 w7 hown7 _ hb7 _ _ _; have HO7 : Hid (w7.ownsRow w.heap.size 5 1 (.slice (some ⟨g7, 0, none⟩) (out ++ qb c).length c7) (out ++ qb c).length (Lib.byteCells (out ++ qb c))) := (by rw [HQ.out, List.length_append, Lib.byteCells_append]; exact hown7); have HL7 : Hid ((out ++ qb c).length = out.length + 2) := (by rw [HQ.out, List.length_append]; rfl); have HB7 : Hid (Below w.heap.size w w7) := hb.out.trans hb7; clear hown7 hb7)
          go_roundw
          case rel => exact ⟨k + 1, g7, c7, out ++ qb c, by omega, by go_num, by rw [HOUT.out, List.append_assoc, HQT.out], by rw [HL7.out], HO7.out, HB7.out⟩
          case measure => simp [intOf]; omega
        · have e1 : ((c.toNat : Int) == 34) = false := by rw [beq_eq_false_iff_ne]; omega
          have e2 : ((c.toNat : Int) == 92) = true := by rw [beq_iff_eq]; omega
          clear h1 h34
          go_wp2_with (at_builtin; refine wpList_push rfl (.tmp 26) (.tmp 28) _ rfl w.heap.size 5 i5 _ 1 1 Tryd.underlying42 I5.out hz5 hs5 hb5 rfl (by omega) (.slice (some ⟨g, 0, none⟩) out.length cap) out.length _ rfl hown.out 2 2 #[.int .u8 92, .int .u8 (c.toNat : Int)] rfl rfl (by simp [Value.oneCell']) (by omega) (by unfold maxLen; omega) (by omega) hsb ?_; intro g7 c7 w7 hown7 _ hb7 _ _ _; have HO7 : Hid (w7.ownsRow w.heap.size 5 1 (.slice (some ⟨g7, 0, none⟩) (out ++ qb c).length c7) (out ++ qb c).length (Lib.byteCells (out ++ qb c))) := (by rw [HQ.out, List.length_append, Lib.byteCells_append]; exact hown7); have HL7 : Hid ((out ++ qb c).length = out.length + 2) := (by rw [HQ.out, List.length_append]; rfl); have HB7 : Hid (Below w.heap.size w w7) := hb.out.trans hb7; clear hown7 hb7)
          go_roundw
          case rel => exact ⟨k + 1, g7, c7, out ++ qb c, by omega, by go_num, by rw [HOUT.out, List.append_assoc, HQT.out], by rw [HL7.out], HO7.out, HB7.out⟩
          case measure => simp [intOf]; omega
      · have e1 : ((c.toNat : Int) == 34) = false := by rw [beq_eq_false_iff_ne]; omega
        have e2 : ((c.toNat : Int) == 92) = false := by rw [beq_eq_false_iff_ne]; omega
        by_cases h2 : c.toNat < 32
        · have d1 : decide ((c.toNat : Int) < 32) = true := decide_eq_true (by omega)
          have HQ : Hid (qb c = [92, 120, hexd (c.toNat / 16), hexd (c.toNat % 16)]) := by
            show _ = _
            unfold qb
            rw [if_neg h1, if_pos (.inl h2)]
          clear h1
          obtain ⟨q, hq⟩ : ∃ q, q = c.toNat / 16 := ⟨_, rfl⟩
          obtain ⟨r, hr⟩ : ∃ r, r = c.toNat % 16 := ⟨_, rfl⟩
          have hqi : (c.toNat : Int) / 16 = (q : Int) := by omega
          have hand : bits BinOp.and IntKind.u8 (c.toNat : Int) 15 = (r : Int) := by rw [hr]; exact and15 c256
          have q16 : q < 16 := by omega
          have r16 : r < 16 := by omega
          have q16i : (q : Int) < 16 := by omega
          have r16i : (r : Int) < 16 := by omega
          have hDq := fun h' => hexd_at q16 h'
          have hDr := fun h' => hexd_at r16 h'
          rw [← hq, ← hr] at HQ
          clear hq hr
          go_upto_region 10 with fail
          go_region_law (refine step_push _ (by rfl) (.tmp 37) (.tmp 44) _ (by rfl) w.heap.size 5 i5 _ 1 1 Tryd.underlying42 I5.out hz5 hs5 hb5 (by rfl) (by omega) (.slice (some ⟨g, 0, none⟩) out.length cap) out.length (Lib.byteCells out) (by rfl) ?_ wr.heap.size 4 4 #[.int .u8 92, .int .u8 120, .int .u8 ((hexd q).toNat : Int), .int .u8 ((hexd r).toNat : Int)] (by rfl) ?_ (by rfl) ?_ (by omega) ?_ ?_ ?_ ?_; exact hown.out.alloc _; exact Blk.new wr _ _; (intro u hu; simp at hu; rcases hu with rfl | rfl | rfl | rfl <;> rfl); (unfold maxLen; omega); omega; (simp; omega); intro g7 c7 w7 hown7 hgr7 _ _)
          all_goals
            have HO7 : Hid (w7.ownsRow w.heap.size 5 1 (.slice (some ⟨g7, 0, none⟩) (out ++ qb c).length c7) (out ++ qb c).length (Lib.byteCells (out ++ qb c))) := by
              rw [HQ.out, List.length_append, Lib.byteCells_append]
              exact hown7
            have HL7 : Hid ((out ++ qb c).length = out.length + 4) := by rw [HQ.out, List.length_append]; rfl
            have HB7 : Hid (Below w.heap.size w w7) := by
              first
              | exact ((hb.out.alloc hsb _).drew).grown hgr7 (by simp; omega) (fun q hq => (hown.out.lt q hq).1)
              | exact ((hb.out.drew.alloc hsb _)).grown hgr7 (by simp; omega) (fun q hq => (hown.out.lt q hq).1)
            clear hown7 hgr7
            go_wp2_with fail

            go_roundw
            case rel => exact ⟨k + 1, g7, c7, out ++ qb c, by omega, by go_num, by rw [HOUT.out, List.append_assoc, HQT.out], by rw [HL7.out], HO7.out, HB7.out⟩
            case measure => simp [intOf]; omega
        · have d1 : decide ((c.toNat : Int) < 32) = false := decide_eq_false (by omega)
          have d1n : ¬ c.toNat < 32 := h2
          by_cases h3 : 126 < c.toNat
          · have d2 : decide ((126 : Int) < (c.toNat : Int)) = true := decide_eq_true (by omega)
            have HQ : Hid (qb c = [92, 120, hexd (c.toNat / 16), hexd (c.toNat % 16)]) := by
              show _ = _
              unfold qb
              rw [if_neg h1, if_pos (.inr h3)]
            clear h1 h2
            obtain ⟨q, hq⟩ : ∃ q, q = c.toNat / 16 := ⟨_, rfl⟩
            obtain ⟨r, hr⟩ : ∃ r, r = c.toNat % 16 := ⟨_, rfl⟩
            have hqi : (c.toNat : Int) / 16 = (q : Int) := by omega
            have hand : bits BinOp.and IntKind.u8 (c.toNat : Int) 15 = (r : Int) := by rw [hr]; exact and15 c256
            have q16 : q < 16 := by omega
            have r16 : r < 16 := by omega
            have q16i : (q : Int) < 16 := by omega
            have r16i : (r : Int) < 16 := by omega
            have hDq := fun h' => hexd_at q16 h'
            have hDr := fun h' => hexd_at r16 h'
            rw [← hq, ← hr] at HQ
            clear hq hr
            go_upto_region 10 with fail
            go_region_law (refine step_push _ (by rfl) (.tmp 37) (.tmp 44) _ (by rfl) w.heap.size 5 i5 _ 1 1 Tryd.underlying42 I5.out hz5 hs5 hb5 (by rfl) (by omega) (.slice (some ⟨g, 0, none⟩) out.length cap) out.length (Lib.byteCells out) (by rfl) ?_ wr.heap.size 4 4 #[.int .u8 92, .int .u8 120, .int .u8 ((hexd q).toNat : Int), .int .u8 ((hexd r).toNat : Int)] (by rfl) ?_ (by rfl) ?_ (by omega) ?_ ?_ ?_ ?_; exact hown.out.alloc _; exact Blk.new wr _ _; (intro u hu; simp at hu; rcases hu with rfl | rfl | rfl | rfl <;> rfl); (unfold maxLen; omega); omega; (simp; omega); intro g7 c7 w7 hown7 hgr7 _ _)
            all_goals
              have HO7 : Hid (w7.ownsRow w.heap.size 5 1 (.slice (some ⟨g7, 0, none⟩) (out ++ qb c).length c7) (out ++ qb c).length (Lib.byteCells (out ++ qb c))) := by
                rw [HQ.out, List.length_append, Lib.byteCells_append]
                exact hown7
              have HL7 : Hid ((out ++ qb c).length = out.length + 4) := by rw [HQ.out, List.length_append]; rfl
              have HB7 : Hid (Below w.heap.size w w7) := by
                first
                | exact ((hb.out.alloc hsb _).drew).grown hgr7 (by simp; omega) (fun q hq => (hown.out.lt q hq).1)
                | exact ((hb.out.drew.alloc hsb _)).grown hgr7 (by simp; omega) (fun q hq => (hown.out.lt q hq).1)
              clear hown7 hgr7
              go_wp2_with fail

              go_roundw
              case rel => exact ⟨k + 1, g7, c7, out ++ qb c, by omega, by go_num, by rw [HOUT.out, List.append_assoc, HQT.out], by rw [HL7.out], HO7.out, HB7.out⟩
              case measure => simp [intOf]; omega
          · have d2 : decide ((126 : Int) < (c.toNat : Int)) = false := decide_eq_false (by omega)
            have HQ : Hid (qb c = [c]) := by
              show _ = _
              unfold qb
              rw [if_neg h1, if_neg (by omega)]
            clear h1 h2
            go_wp2_with (at_builtin; refine wpList_push rfl (.tmp 15) (.tmp 17) _ rfl w.heap.size 5 i5 _ 1 1 Tryd.underlying42 I5.out hz5 hs5 hb5 rfl (by omega) (.slice (some ⟨g, 0, none⟩) out.length cap) out.length _ rfl hown.out 1 1 #[.int .u8 (c.toNat : Int)] rfl rfl (by simp [Value.oneCell']) (by omega) (by unfold maxLen; omega) (by omega) hsb ?_; intro g7 c7 w7 hown7 _ hb7 _ _ _; have HO7 : Hid (w7.ownsRow w.heap.size 5 1 (.slice (some ⟨g7, 0, none⟩) (out ++ qb c).length c7) (out ++ qb c).length (Lib.byteCells (out ++ qb c))) := (by rw [HQ.out, List.length_append, Lib.byteCells_append]; exact hown7); have HL7 : Hid ((out ++ qb c).length = out.length + 1) := (by rw [HQ.out, List.length_append]; rfl); have HB7 : Hid (Below w.heap.size w w7) := hb.out.trans hb7; clear hown7 hb7)
            go_roundw
            case rel => exact ⟨k + 1, g7, c7, out ++ qb c, by omega, by go_num, by rw [HOUT.out, List.append_assoc, HQT.out], by rw [HL7.out], HO7.out, HB7.out⟩
            case measure => simp [intOf]; omega
    · obtain hks : k = s.size := by omega
      have hki : ¬ (k : Int) < (s.size : Int) := by omega
      clear hlt
      go_wp2_with (first
        | (at_builtin; refine wpList_push rfl (.tmp 47) (.tmp 48) _ rfl w.heap.size 5 i5 _ 1 1 Tryd.underlying42 I5.out hz5 hs5 hb5 rfl (by omega) (.slice (some ⟨g, 0, none⟩) out.length cap) out.length _ rfl hown.out 1 1 #[.int .u8 34] rfl rfl (by simp [Value.oneCell']) (by omega) (by unfold maxLen; omega) (by omega) hsb ?_; intro g7 c7 w7 hown7 _ hb7 _ _ _; have HO7 : Hid (w7.ownsRow w.heap.size 5 1 (.slice (some ⟨g7, 0, none⟩) (out ++ [34]).length c7) (out ++ [34]).length (Lib.byteCells (out ++ [34]))) := (by rw [List.length_append, Lib.byteCells_append]; exact hown7); have HB7 := hide hb7; clear hown7 hb7)
        | (refine wpList_conv_bytes rfl (.tmp 49) 42 9 5 rfl Tryd.underlying42 Tryd.underlying5 Tryd.underlying9 ⟨g7, 0, none⟩ (out.length + 1) c7 (out ++ [34]) rfl (by simp) (own_bytes HO7.out) ?_))
      go_ret
      refine ⟨?_, hb.out.trans HB7.out⟩
      rw [HOUT.out, hks, List.take_of_length_le (by rw [str_len]; exact Nat.le_refl _)]
      rfl
end Go.Proofs.YtenebkkfjalcaaaDoor
set_option linter.unusedVariables false
namespace Go.Proofs.YtenebkkfjalcaaaDoor
open Go.Shelf

def sren : Go.Shelf.Ren := ⟨fun | 129 => 89 | 156 => 33 | 165 => 53 | 166 => 15 | 167 => 18 | 169 => 19 | 171 => 30 | 240 => 28 | 241 => 67 | 243 => 52 | 246 => 66 | 276 => 51 | 277 => 82 | 283 => 78 | 284 => 79 | 285 => 80 | 286 => 81 | 317 => 88 | 318 => 90 | 319 => 91 | 320 => 92 | 337 => 99 | 338 => 100 | n => n,
  fun | 0 => 0 | 2 => 2 | 3 => 3 | 4 => 4 | 5 => 5 | 9 => 9 | 20 => 20 | 31 => 66 | 37 => 42 | 46 => 96 | 51 => 123 | 53 => 110 | 70 => 49 | 72 => 51 | 75 => 53 | 76 => 54 | 80 => 58 | 127 => 78 | 164 => 93 | 171 => 117 | 173 => 120 | 212 => 128 | 213 => 129 | 232 => 141 | 233 => 142 | n => n,
  fun | 17 => 2 | 18 => 5 | 19 => 6 | n => n⟩
theorem la171 : LaysM.n171 Tryd.prog sren := {
  mixed := by kernel_rfl,
  f129 := Tryd.func89.trans (congrArg some (by kernel_rfl)),
  f171 := Tryd.func30.trans (congrArg some (by kernel_rfl)),
  f243 := Tryd.func52.trans (congrArg some (by kernel_rfl)),
  f246 := Tryd.func66.trans (congrArg some (by kernel_rfl)),
  f283 := Tryd.func78.trans (congrArg some (by kernel_rfl)),
  f284 := Tryd.func79.trans (congrArg some (by kernel_rfl)),
  f285 := Tryd.func80.trans (congrArg some (by kernel_rfl)),
  f286 := Tryd.func81.trans (congrArg some (by kernel_rfl)),
  f317 := Tryd.func88.trans (congrArg some (by kernel_rfl)),
  f318 := Tryd.func90.trans (congrArg some (by kernel_rfl)),
  f319 := Tryd.func91.trans (congrArg some (by kernel_rfl)),
  f320 := Tryd.func92.trans (congrArg some (by kernel_rfl)),
  f337 := Tryd.func99.trans (congrArg some (by kernel_rfl)),
  f338 := Tryd.func100.trans (congrArg some (by kernel_rfl)),
  t0 := Tryd.underlying0,
  a0 := Tryd.isAgg0,
  z0 := Tryd.sizeOf0,
  v0 := Tryd.zeroValue0,
  t2 := Tryd.underlying2,
  a2 := Tryd.isAgg2,
  z2 := Tryd.sizeOf2,
  v2 := Tryd.zeroValue2,
  t3 := Tryd.underlying3,
  a3 := Tryd.isAgg3,
  z3 := Tryd.sizeOf3,
  v3 := Tryd.zeroValue3,
  t4 := Tryd.underlying4,
  a4 := Tryd.isAgg4,
  z4 := Tryd.sizeOf4,
  v4 := Tryd.zeroValue4,
  t5 := Tryd.underlying5,
  a5 := Tryd.isAgg5,
  z5 := Tryd.sizeOf5,
  v5 := Tryd.zeroValue5,
  t9 := Tryd.underlying9,
  a9 := Tryd.isAgg9,
  z9 := Tryd.sizeOf9,
  v9 := Tryd.zeroValue9,
  t20 := Tryd.underlying20,
  a20 := Tryd.isAgg20,
  z20 := Tryd.sizeOf20,
  v20 := Tryd.zeroValue20,
  t37 := Tryd.underlying42,
  a37 := Tryd.isAgg42,
  z37 := Tryd.sizeOf42,
  v37 := Tryd.zeroValue42,
  t46 := Tryd.underlying96,
  a46 := Tryd.isAgg96,
  z46 := Tryd.sizeOf96,
  v46 := Tryd.zeroValue96,
  t51 := Tryd.underlying123,
  a51 := Tryd.isAgg123,
  z51 := Tryd.sizeOf123,
  v51 := Tryd.zeroValue123,
  t53 := Tryd.underlying110,
  a53 := Tryd.isAgg110,
  z53 := Tryd.sizeOf110,
  v53 := Tryd.zeroValue110,
  t171 := Tryd.underlying117,
  a171 := Tryd.isAgg117,
  z171 := Tryd.sizeOf117,
  v171 := Tryd.zeroValue117,
  t173 := Tryd.underlying120,
  a173 := Tryd.isAgg120,
  z173 := Tryd.sizeOf120,
  v173 := Tryd.zeroValue120,
  t212 := Tryd.underlying128,
  a212 := Tryd.isAgg128,
  z212 := Tryd.sizeOf128,
  v212 := Tryd.zeroValue128,
  t213 := Tryd.underlying129,
  a213 := Tryd.isAgg129,
  z213 := Tryd.sizeOf129,
  t232 := Tryd.underlying141,
  a232 := Tryd.isAgg141,
  z232 := Tryd.sizeOf141,
  v232 := Tryd.zeroValue141,
  t233 := Tryd.underlying142,
  a233 := Tryd.isAgg142,
  z233 := Tryd.sizeOf142,
  v233 := Tryd.zeroValue142,
  g17 := by kernel_rfl,
  g18 := by kernel_rfl,
  g19 := by kernel_rfl,
  i0 := by kernel_rfl,
  i2 := by kernel_rfl,
  i3 := by kernel_rfl,
  i4 := by kernel_rfl,
  i5 := by kernel_rfl,
  i9 := by kernel_rfl,
  i20 := by kernel_rfl,
  i37 := by kernel_rfl,
  i46 := by kernel_rfl,
  i51 := by kernel_rfl,
  i53 := by kernel_rfl,
  i171 := by kernel_rfl,
  i173 := by kernel_rfl,
  i212 := by kernel_rfl,
  i232 := by kernel_rfl,
  i233 := by kernel_rfl,
  m17 := by kernel_rfl,
  m18 := by kernel_rfl,
  m19 := by kernel_rfl }
theorem la156 : Lays.n156 Tryd.prog sren := {
  mixed := by kernel_rfl,
  f156 := Tryd.func33.trans (congrArg some (by kernel_rfl)),
  f165 := Tryd.func53.trans (congrArg some (by kernel_rfl)),
  f166 := Tryd.func15.trans (congrArg some (by kernel_rfl)),
  f169 := Tryd.func19.trans (congrArg some (by kernel_rfl)),
  f240 := Tryd.func28.trans (congrArg some (by kernel_rfl)),
  f241 := Tryd.func67.trans (congrArg some (by kernel_rfl)),
  f276 := Tryd.func51.trans (congrArg some (by kernel_rfl)),
  f277 := Tryd.func82.trans (congrArg some (by kernel_rfl)),
  t0 := Tryd.underlying0,
  a0 := Tryd.isAgg0,
  z0 := Tryd.sizeOf0,
  v0 := Tryd.zeroValue0,
  t3 := Tryd.underlying3,
  a3 := Tryd.isAgg3,
  z3 := Tryd.sizeOf3,
  v3 := Tryd.zeroValue3,
  t4 := Tryd.underlying4,
  a4 := Tryd.isAgg4,
  z4 := Tryd.sizeOf4,
  v4 := Tryd.zeroValue4,
  t9 := Tryd.underlying9,
  a9 := Tryd.isAgg9,
  z9 := Tryd.sizeOf9,
  v9 := Tryd.zeroValue9,
  t20 := Tryd.underlying20,
  a20 := Tryd.isAgg20,
  z20 := Tryd.sizeOf20,
  v20 := Tryd.zeroValue20,
  t31 := Tryd.underlying66,
  a31 := Tryd.isAgg66,
  z31 := Tryd.sizeOf66,
  v31 := Tryd.zeroValue66,
  t37 := Tryd.underlying42,
  a37 := Tryd.isAgg42,
  z37 := Tryd.sizeOf42,
  v37 := Tryd.zeroValue42,
  t70 := Tryd.underlying49,
  a70 := Tryd.isAgg49,
  z70 := Tryd.sizeOf49,
  v70 := Tryd.zeroValue49,
  t72 := Tryd.underlying51,
  a72 := Tryd.isAgg51,
  z72 := Tryd.sizeOf51,
  v72 := Tryd.zeroValue51,
  t75 := Tryd.underlying53,
  a75 := Tryd.isAgg53,
  z75 := Tryd.sizeOf53,
  v75 := Tryd.zeroValue53,
  t76 := Tryd.underlying54,
  a76 := Tryd.isAgg54,
  z76 := Tryd.sizeOf54,
  v76 := Tryd.zeroValue54,
  t127 := Tryd.underlying78,
  a127 := Tryd.isAgg78,
  z127 := Tryd.sizeOf78,
  v127 := Tryd.zeroValue78,
  t164 := Tryd.underlying93,
  a164 := Tryd.isAgg93,
  z164 := Tryd.sizeOf93,
  v164 := Tryd.zeroValue93 }
theorem la167 : Lays.n167 Tryd.prog sren := {
  mixed := by kernel_rfl,
  f167 := Tryd.func18.trans (congrArg some (by kernel_rfl)),
  f240 := Tryd.func28.trans (congrArg some (by kernel_rfl)),
  f276 := Tryd.func51.trans (congrArg some (by kernel_rfl)),
  t0 := Tryd.underlying0,
  a0 := Tryd.isAgg0,
  z0 := Tryd.sizeOf0,
  v0 := Tryd.zeroValue0,
  t4 := Tryd.underlying4,
  a4 := Tryd.isAgg4,
  z4 := Tryd.sizeOf4,
  v4 := Tryd.zeroValue4,
  t5 := Tryd.underlying5,
  a5 := Tryd.isAgg5,
  z5 := Tryd.sizeOf5,
  v5 := Tryd.zeroValue5,
  t9 := Tryd.underlying9,
  a9 := Tryd.isAgg9,
  z9 := Tryd.sizeOf9,
  v9 := Tryd.zeroValue9,
  t20 := Tryd.underlying20,
  a20 := Tryd.isAgg20,
  z20 := Tryd.sizeOf20,
  v20 := Tryd.zeroValue20,
  t37 := Tryd.underlying42,
  a37 := Tryd.isAgg42,
  z37 := Tryd.sizeOf42,
  v37 := Tryd.zeroValue42,
  t70 := Tryd.underlying49,
  a70 := Tryd.isAgg49,
  z70 := Tryd.sizeOf49,
  v70 := Tryd.zeroValue49,
  t72 := Tryd.underlying51,
  a72 := Tryd.isAgg51,
  z72 := Tryd.sizeOf51,
  v72 := Tryd.zeroValue51,
  t75 := Tryd.underlying53,
  a75 := Tryd.isAgg53,
  z75 := Tryd.sizeOf53,
  v75 := Tryd.zeroValue53,
  t164 := Tryd.underlying93,
  a164 := Tryd.isAgg93,
  z164 := Tryd.sizeOf93,
  v164 := Tryd.zeroValue93 }
theorem sextra : Builder.Extra Tryd.prog sren where
  sizeBuilder := by kernel_rfl
  liesBuilder := by kernel_rfl
  t5 := Tryd.underlying5
  a5 := Tryd.isAgg5
  z5 := Tryd.sizeOf5
  v5 := Tryd.zeroValue5
  infoByte := by kernel_rfl
  cellsByte := by kernel_rfl
  sizeByte := by kernel_rfl
  neB5 := by decide
end Go.Proofs.YtenebkkfjalcaaaDoor
set_option linter.unusedVariables false
set_option linter.unusedSimpArgs false
namespace Go.Proofs.YtenebkkfjalcaaaDoor
open Go.RowKit Go.WideShapes Go.ChangeShapes Q

/-- The library's table of powers lies as its initialiser lays it. -/
def Tab (w : World) : Prop := Lib.TabIs Tryd.prog w "internal/strconv.uint64pow10" .u64 Lib.pow10Tab
theorem Tab.below {w w' : World} (h : Tab w) (hb : Below w.heap.size w w') : Tab w' := Lib.tabBelow_of_tabIs h w' hb
theorem grow_below (w : World) (k : Nat) (os : Array Obj) : Below w.heap.size w (Sort.grow (w.drewN k) os) :=
  ⟨rfl, rfl, rfl, by show w.heap.size ≤ (w.heap ++ os).size; simp, fun g hg => Lib.heap_grow_old w k os g hg⟩
theorem itoa_any (n : Int) (w : World) (h0 : -9223372036854775808 ≤ n) (h1 : n ≤ 9223372036854775807) (hT : Tab w) :
    Calls Tryd.prog 30 #[.int .i64 n] w fun e w' => e = .returned (.string (S (Lib.itoa n))) ∧ Below w.heap.size w w' :=
  (Any.strconv_Itoa la171 n h0 h1 w hT).mono fun e w' ⟨he, k, os, hw⟩ => ⟨he, by rw [hw]; exact grow_below w k os⟩
theorem join_any (bk c : Nat) (ls : List (List UInt8)) (sep : List UInt8) (w : World) (hcells : ∀ (j : Nat) l, ls[j]? = some l → w.cell? ⟨bk, j, none⟩ = some (.string (S l))) (hbk : bk < w.heap.size) (hN : ls.length ≤ 140737488355328) (hcap : ls.length ≤ c)
    (hlen : (Lib.join ls sep).length ≤ 140737488355328) :
    Calls Tryd.prog 33 #[.slice (some ⟨bk, 0, none⟩) ls.length c, .string (S sep)] w fun e w' => e = .returned (.string (S (Lib.join ls sep))) ∧ Below w.heap.size w w' := by
  have hm : (ls.map S).map (fun x : ByteArray => x.data.toList) = ls := by
    rw [List.map_map]
    exact List.map_id'' (fun l => S_data l) ls
  have h := Any.strings_Join la156 sextra bk 0 c (ls.map S) (S sep) w (fun j x hx => by
    rw [List.getElem?_map] at hx
    obtain ⟨l, hl, rfl⟩ := Option.map_eq_some_iff.1 hx
    rw [Nat.zero_add]
    exact hcells j l hl) hbk (by rw [List.length_map]; exact hN) (by rw [List.length_map]; exact hcap) (by rw [hm, S_data]; exact hlen)
  rw [hm, S_data, List.length_map] at h
  exact h

theorem itoa_len (n : Int) (h0 : -9223372036854775808 ≤ n) (h1 : n ≤ 9223372036854775807) : (Lib.itoa n).length ≤ 21 := by
  unfold Lib.itoa
  split
  · rw [List.length_cons]
    have : (Lib.decDigits n.natAbs).length ≤ 20 := dec_len 19 _ (Nat.lt_of_le_of_lt (show n.natAbs ≤ 9223372036854775808 by omega) (by decide))
    omega
  · have := dec_len 19 n.toNat (Nat.lt_of_le_of_lt (show n.toNat ≤ 9223372036854775808 by omega) (by decide))
    omega
theorem lens_le (m : Nat) : ∀ (ls : List (List UInt8)), (∀ l ∈ ls, l.length ≤ m) → Lib.lens ls ≤ m * ls.length
  | [], _ => by simp [Lib.lens]
  | l :: ls, h => by
    have h1 := lens_le m ls fun x hx => h x (by simp [hx])
    have h2 := h l (by simp)
    rw [List.length_cons, Nat.mul_add]
    have : Lib.lens (l :: ls) = l.length + Lib.lens ls := by simp [Lib.lens]
    omega
theorem join_le (m : Nat) (ls : List (List UInt8)) (sep : List UInt8) (h : ∀ l ∈ ls, l.length ≤ m) : (Lib.join ls sep).length ≤ (m + sep.length) * ls.length := by
  cases ls with
  | nil => simp [Lib.join_nil]
  | cons x r =>
    have := lens_le m (x :: r) h
    rw [Lib.join_length, Nat.add_mul]
    have h2 : sep.length * r.length ≤ sep.length * (x :: r).length := Nat.mul_le_mul_left _ (by simp)
    omega
end Go.Proofs.YtenebkkfjalcaaaDoor
set_option linter.unusedVariables false
set_option linter.unusedSimpArgs false
namespace Go.Proofs.YtenebkkfjalcaaaDoor
open Go.RowKit Go.WideShapes Go.ChangeShapes Q

theorem info9 : (Tryd.prog.info? 9).map (fun i => (i.zero, i.size, i.bytes)) = some (some (.string ⟨#[]⟩), 1, 16) := by kernel_rfl
theorem run_make_strs (n : Nat) (hn : n ≤ 1000000000) (W : World) :
    (Instr.makeSlice 66 (.int .i64 (n : Int)) (.int .i64 (n : Int))).run Tryd.prog W = .ok (.slice (some ⟨W.heap.size, 0, none⟩) n n) (W.alloc (.cells (madeCells #[.string ⟨#[]⟩] n) 9)) := by
  obtain ⟨i0, hi, hz0, hz1, hz2⟩ := info_parts info9
  have := run_make_rowN (P := Tryd.prog) 66 9 i0 (.string ⟨#[]⟩) Tryd.underlying66 hi hz0 .i64 .i64 n n (Nat.le_refl _) (by rw [hz2]; omega) (by omega) W
  rw [hz1, Nat.mul_one] at this
  exact this
def Fit (x : Int) : Prop := -9223372036854775808 ≤ x ∧ x ≤ 9223372036854775807

set_option maxRecDepth 100000 in
set_option maxHeartbeats 1000000 in
theorem joined_any (A : Option Addr) (B n c : Nat) (xs : List Int) (sep : List UInt8) (w : World) (h : RI w B A n xs) (hB : B ≤ w.heap.size) (hx : ∀ x ∈ xs, Fit x) (hn : n ≤ 10000000) (hs : sep.length ≤ 1000) (hT : Tab w) :
    Calls Tryd.prog 32 #[.slice A n c, .string (S sep)] w fun e w' => e = .returned (.string (S (Lib.join (xs.map Lib.itoa) sep))) ∧ Below w.heap.size w w' := by
  have hl := h.len
  have HX := hide hx
  have HL := hide hl
  have HR := hide h
  have HT := hide hT
  have hmk := run_make_strs n (by omega)
  clear hx hl h hT
  go_enter Tryd.func32, Tryd.ntmps32
  go_upto_region 3 with fail
  clear hmk
  go_loopw [6, 7, 13] (fun _ _ i wr => ∃ (k : Nat) (C : Array Value), k ≤ n ∧ i = .int .i64 k ∧ Hid (Blk wr w.heap.size 9 C) ∧ Hid (C.size = n ∧ ∀ j x, j < k → xs[j]? = some x → C[j]? = some (.string (S (Lib.itoa x)))) ∧ Hid (Below w.heap.size w wr)) (fun _ _ i _ => n - (intOf i).toNat)
  case atStart => exact ⟨0, madeCells #[.string ⟨#[]⟩] n, Nat.zero_le _, rfl, Blk.new _ _ _, ⟨size_madeCells _ _, fun j x hj => absurd hj (by omega)⟩, (Below.refl _ _).alloc (Nat.le_refl _) _⟩
  case round =>
    obtain ⟨k, C, hk, rfl, hblk, hC, hb⟩ := hrel
    by_cases hlt : k < n
    · obtain ⟨ad, rfl, hab, hc⟩ := RI.at_ (Reads.below HR.out (hb.out.mono hB)) hlt
      have hkx : k < xs.length := by have := HL.out; omega
      obtain ⟨x, hxe⟩ : ∃ x, x = nth xs k := ⟨_, rfl⟩
      have hxk : xs[k]? = some x := by rw [hxe]; simp [nth, hkx]
      rw [← hxe] at hc
      have hfx := HX.out x (List.mem_of_getElem? hxk)
      have HXK := hide hxk
      have k0 : (0 : Int) ≤ (k : Int) := by omega
      have kn : (k : Int) < (n : Int) := by omega
      obtain ⟨wo, hwo⟩ : ∃ wo, wo = wr := ⟨_, rfl⟩
      rw [← hwo] at hblk hb hc ⊢
      have HI := hide (itoa_any x wo hfx.1 hfx.2 (HT.out.below hb.out))
      have hsw : w.heap.size ≤ wo.heap.size := hb.out.size
      clear hxe hxk hwo
      go_wp2_with (go_at_call 30; refine HI.out.mono ?_; rintro e w2 ⟨rfl, hb2⟩; have hB2 := hblk.out.below hb2 hblk.out.lt; obtain ⟨v0, hv0⟩ : ∃ v0, C[k]? = some v0 := ⟨_, Array.getElem?_eq_getElem (by have := hC.out.1; omega)⟩; have hc2 : w2.cell? ⟨w.heap.size, k, none⟩ = some v0 := (by rw [hB2.cell]; exact hv0); have hf2 := hB2.frozen k; have HB2 := hide hb2; have HBK := hide hB2; clear hB2 hb2 hv0)
      have HBK2 : Hid (Blk (w2.setCell ⟨w.heap.size, k, none⟩ (.string (S (Lib.itoa x)))) w.heap.size 9 (C.setIfInBounds k (.string (S (Lib.itoa x))))) := HBK.out.set_ k _
      have HBB : Hid (Below w.heap.size w (w2.setCell ⟨w.heap.size, k, none⟩ (.string (S (Lib.itoa x))))) := (hb.out.trans (HB2.out.mono hsw)).setCell (Nat.le_refl _) _
      have HC2 : Hid ((C.setIfInBounds k (.string (S (Lib.itoa x)))).size = n ∧ ∀ j y, j < k + 1 → xs[j]? = some y → (C.setIfInBounds k (.string (S (Lib.itoa x))))[j]? = some (.string (S (Lib.itoa y)))) := by
        refine ⟨by simpa using hC.out.1, fun j y hj hy => ?_⟩
        by_cases e : k = j
        · subst e
          rw [HXK.out] at hy
          injection hy with hy
          subst hy
          rw [Array.getElem?_setIfInBounds_self_of_lt (by have := hC.out.1; omega)]
        · rw [Array.getElem?_setIfInBounds_ne e]
          exact hC.out.2 j y (by omega) hy
      go_roundw
      case rel => exact ⟨k + 1, _, by omega, by go_num, HBK2, HC2, HBB⟩
      case measure => simp [intOf]; omega
    · obtain hkn : k = n := by omega
      have kn : ¬ (k : Int) < (n : Int) := by omega
      have HJ : Hid (Calls Tryd.prog 33 #[.slice (some ⟨w.heap.size, 0, none⟩) n n, .string (S sep)] wr fun e w' => e = .returned (.string (S (Lib.join (xs.map Lib.itoa) sep))) ∧ Below wr.heap.size wr w') := by
        have hlen : (xs.map Lib.itoa).length = n := by rw [List.length_map, HL.out]
        have := join_any w.heap.size n (xs.map Lib.itoa) sep wr (fun j l hl => by
          rw [List.getElem?_map] at hl
          obtain ⟨x, hx, rfl⟩ := Option.map_eq_some_iff.1 hl
          rw [hblk.out.cell]
          exact hC.out.2 j x (by have := (List.getElem?_eq_some_iff.1 hx).1; have := HL.out; omega) hx) hblk.out.lt (by omega) (by omega) (by
          have h1 := join_le 21 (xs.map Lib.itoa) sep (fun l hl => by
            obtain ⟨x, hx, rfl⟩ := List.mem_map.1 hl
            have := HX.out x hx
            exact itoa_len x this.1 this.2)
          rw [hlen] at h1
          have h2 : (21 + sep.length) * n ≤ 1021 * 10000000 := Nat.mul_le_mul (by omega) hn
          omega)
        rw [hlen] at this
        exact this
      have hsw : w.heap.size ≤ wr.heap.size := hb.out.size
      clear hlt
      go_wp2_with (go_at_call 33; refine HJ.out.mono ?_; rintro e w3 ⟨rfl, hb3⟩; have HB3 := hide hb3; clear hb3)
      go_ret
      exact ⟨rfl, hb.out.trans (HB3.out.mono hsw)⟩
end Go.Proofs.YtenebkkfjalcaaaDoor
set_option linter.unusedVariables false
set_option linter.unusedSimpArgs false
namespace Go.Proofs.YtenebkkfjalcaaaDoor
open Go.RowKit Go.WideShapes Go.ChangeShapes Q

theorem own_ne {w : World} {base : Nat} {e t : TypeId} {size n g : Nat} {v : Value} {xs : List Value} {cs : Array Value} (ho : w.ownsRow base e size v n xs) (hb : Blk w g t cs) (ht : t ≠ e) : some g ≠ v.ownBlock := by
  intro h
  rcases ho.2 with ⟨rfl, _⟩ | ⟨g', cap, cur, rfl, _, hg, _⟩
  · cases h
  · have : g = g' := by simpa [Value.ownBlock] using h
    subst this
    exact Blk.ne_ hb (t' := e) hg ht rfl
def strs (ls : List (List UInt8)) : List Value := ls.map fun l => .string (S l)
theorem strs_append (a b : List (List UInt8)) : strs (a ++ b) = strs a ++ strs b := by simp [strs]
/-- The variable that holds a list of texts, and the list, both of the call's own. -/
structure PL (w : World) (base pl : Nat) (ls : List (List UInt8)) : Prop where
  lo : base ≤ pl
  ex : ∃ A c, Blk w pl 66 #[.slice A ls.length c] ∧ w.ownsRow base 9 1 (.slice A ls.length c) ls.length (strs ls)

/-- The list with one part more, where it is there. -/
def addP (b : Bool) (ls : List (List UInt8)) (nm v : List UInt8) : List (List UInt8) := if b = true then ls ++ [nm ++ [61] ++ v] else ls

set_option maxRecDepth 100000 in
set_option maxHeartbeats 1000000 in
theorem part_any (b : Bool) (nm v : List UInt8) (base pl : Nat) (ls : List (List UInt8)) (w : World) (h : PL w base pl ls) (hn : nm.length ≤ 1000) (hv : v.length ≤ 140000000000000) (hl : ls.length ≤ 1000) (hb : base ≤ w.heap.size) :
    Calls Tryd.prog 31 #[.bool b, .string (S nm), .string (S v), .pointer (some ⟨pl, 0, none⟩)] w fun e w' => e = .returned (.tuple #[]) ∧ PL w' base pl (addP b ls nm v) ∧ Below base w w' := by
  have HPL := hide h
  cases b with
  | false =>
    go_enter Tryd.func31, Tryd.ntmps31
    go_wp2_with fail
    refine bodyPost_end (results_none rfl _ _ _) rfl ?_
    exact ⟨rfl, HPL.out, Below.refl _ _⟩
  | true =>
    obtain ⟨A, c, hblk, hown⟩ := h.ex
    have hc0 : w.cell? ⟨pl, 0, none⟩ = some (.slice A ls.length c) := by have := hblk.cell 0; simpa using this
    have hf0 := hblk.frozen 0
    obtain ⟨i9, hi9, hz9, hs9, hb9⟩ := info_parts info9
    have I9 := hide hi9
    have HO := hide hown
    have HB := hide hblk
    have hs1 : ¬ 9223372036854775807 < (S nm).size + 1 := by rw [S_size]; omega
    have hs2 : ¬ 9223372036854775807 < (S nm).size + 1 + (S v).size := by rw [S_size, S_size]; omega
    clear hblk hown hi9
    go_enter Tryd.func31, Tryd.ntmps31
    have hlo := h.lo
    go_wp2_with (at_builtin; refine wpList_push (W := w) (cs := #[.string (S nm ++ { data := #[61] } ++ S v)]) ?_ (.tmp 8) (.tmp 13) 66 ?_ base 9 i9 (.string { data := #[] }) 1 16 Tryd.underlying66 I9.out hz9 hs9 hb9 rfl ?_ (.slice A ls.length c) ls.length (strs ls) ?_ HO.out 1 1 ?_ ?_ ?_ ?_ ?_ ?_ hb ?_; rfl; rfl; omega; rfl; rfl; rfl; (simp [Value.oneCell']); omega; (unfold maxLen; omega); omega; intro g7 c7 w7 hown7 hgr7 hb7 _ _ _; have hB7 := Blk.grown (HB.out.alloc _) hgr7 (own_ne HO.out HB.out (by decide)); have hc7 : w7.cell? ⟨pl, 0, none⟩ = some (.slice A ls.length c) := (by have := hB7.cell 0; simpa using this); have hf7 := hB7.frozen 0; have HB7 := hide hB7; have HO7 := hide hown7; have HL7 := hide hb7; clear hB7 hown7 hgr7 hb7)
    refine bodyPost_end (results_none rfl _ _ _) rfl ?_
    have hne := own_ne HO7.out HB7.out (by decide)
    refine ⟨rfl, ⟨hlo, some ⟨g7, 0, none⟩, c7, ?_, ?_⟩, HL7.out.setCell hlo _⟩
    · have := HB7.out.set_ 0 (.slice (some ⟨g7, 0, none⟩) (ls.length + 1) c7)
      rw [show addP true ls nm v = ls ++ [nm ++ [61] ++ v] from rfl, List.length_append]
      exact this
    · rw [show addP true ls nm v = ls ++ [nm ++ [61] ++ v] from rfl, strs_append, List.length_append]
      refine ownsRow_setCell_other ?_ (fun e => hne e.symm) _
      have e1 : strs [nm ++ [61] ++ v] = [.string (S nm ++ { data := #[61] } ++ S v)] := by
        show [Value.string (S (nm ++ [61] ++ v))] = _
        rw [← S_append, ← S_append]
        rfl
      rw [e1]
      exact HO7.out
end Go.Proofs.YtenebkkfjalcaaaDoor
