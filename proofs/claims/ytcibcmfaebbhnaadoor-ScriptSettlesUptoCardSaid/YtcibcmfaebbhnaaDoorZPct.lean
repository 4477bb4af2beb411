/-
  Contract of the library's ParseUint laid at this program. (Printed by wip/tools/mklayp.py.) The program's count and whole.
-/
import Derived.Shelf.Pu.ParseUintPublic10
import Derived.Test.YtcibcmfaebbhnaaDoorZDig
import Derived.Test.YtcibcmfaebbhnaaDoorZRct
set_option linter.unusedVariables false
namespace Go.Proofs.YtcibcmfaebbhnaaDoor
open Go.Shelf
def pren : Go.Shelf.Ren := ⟨fun | 14 => 82 | 16 => 91 | 17 => 92 | 19 => 103 | 20 => 104 | 21 => 105 | 22 => 106 | 23 => 107 | 24 => 108 | 25 => 112 | 26 => 113 | 27 => 58 | 28 => 75 | 29 => 83 | 30 => 87 | 31 => 88 | 32 => 89 | 33 => 90 | 34 => 98 | 35 => 99 | 36 => 100 | 37 => 101 | 38 => 102 | 39 => 110 | 40 => 111 | n => n,
  fun | 0 => 0 | 2 => 2 | 3 => 3 | 4 => 4 | 5 => 5 | 9 => 9 | 20 => 20 | 21 => 21 | 22 => 137 | 24 => 132 | 25 => 139 | 34 => 160 | 36 => 122 | 37 => 24 | 39 => 162 | 44 => 169 | 47 => 142 | 48 => 173 | 50 => 175 | 52 => 144 | 55 => 147 | 59 => 155 | 60 => 156 | 61 => 157 | 65 => 171 | 66 => 172 | 67 => 135 | n => n,
  fun | 0 => 3 | 1 => 4 | 2 => 2 | 3 => 5 | 4 => 6 | n => n⟩
theorem lap14 : LaysPu.n14 Tryd.prog pren := {
  mixed := by kernel_rfl,
  f14 := Tryd.func82.trans (congrArg some (by kernel_rfl)),
  f16 := Tryd.func91.trans (congrArg some (by kernel_rfl)),
  f17 := Tryd.func92.trans (congrArg some (by kernel_rfl)),
  f19 := Tryd.func103.trans (congrArg some (by kernel_rfl)),
  f20 := Tryd.func104.trans (congrArg some (by kernel_rfl)),
  f21 := Tryd.func105.trans (congrArg some (by kernel_rfl)),
  f22 := Tryd.func106.trans (congrArg some (by kernel_rfl)),
  f23 := Tryd.func107.trans (congrArg some (by kernel_rfl)),
  f24 := Tryd.func108.trans (congrArg some (by kernel_rfl)),
  f25 := Tryd.func112.trans (congrArg some (by kernel_rfl)),
  f26 := Tryd.func113.trans (congrArg some (by kernel_rfl)),
  f27 := Tryd.func58.trans (congrArg some (by kernel_rfl)),
  f28 := Tryd.func75.trans (congrArg some (by kernel_rfl)),
  f29 := Tryd.func83.trans (congrArg some (by kernel_rfl)),
  f30 := Tryd.func87.trans (congrArg some (by kernel_rfl)),
  f31 := Tryd.func88.trans (congrArg some (by kernel_rfl)),
  f32 := Tryd.func89.trans (congrArg some (by kernel_rfl)),
  f33 := Tryd.func90.trans (congrArg some (by kernel_rfl)),
  f34 := Tryd.func98.trans (congrArg some (by kernel_rfl)),
  f35 := Tryd.func99.trans (congrArg some (by kernel_rfl)),
  f36 := Tryd.func100.trans (congrArg some (by kernel_rfl)),
  f37 := Tryd.func101.trans (congrArg some (by kernel_rfl)),
  f38 := Tryd.func102.trans (congrArg some (by kernel_rfl)),
  f39 := Tryd.func110.trans (congrArg some (by kernel_rfl)),
  f40 := Tryd.func111.trans (congrArg some (by kernel_rfl)),
  t0 := Tryd.underlying0,
  a0 := Tryd.isAgg0,
  z0 := Tryd.sizeOf0,
  v0 := Tryd.zeroValue0,
  i0 := by kernel_rfl,
  t2 := Tryd.underlying2,
  a2 := Tryd.isAgg2,
  z2 := Tryd.sizeOf2,
  v2 := Tryd.zeroValue2,
  i2 := by kernel_rfl,
  t3 := Tryd.underlying3,
  a3 := Tryd.isAgg3,
  z3 := Tryd.sizeOf3,
  v3 := Tryd.zeroValue3,
  i3 := by kernel_rfl,
  t4 := Tryd.underlying4,
  a4 := Tryd.isAgg4,
  z4 := Tryd.sizeOf4,
  v4 := Tryd.zeroValue4,
  i4 := by kernel_rfl,
  t5 := Tryd.underlying5,
  a5 := Tryd.isAgg5,
  z5 := Tryd.sizeOf5,
  v5 := Tryd.zeroValue5,
  i5 := by kernel_rfl,
  t9 := Tryd.underlying9,
  a9 := Tryd.isAgg9,
  z9 := Tryd.sizeOf9,
  v9 := Tryd.zeroValue9,
  i9 := by kernel_rfl,
  t20 := Tryd.underlying20,
  a20 := Tryd.isAgg20,
  z20 := Tryd.sizeOf20,
  v20 := Tryd.zeroValue20,
  i20 := by kernel_rfl,
  t21 := Tryd.underlying21,
  a21 := Tryd.isAgg21,
  z21 := Tryd.sizeOf21,
  v21 := Tryd.zeroValue21,
  i21 := by kernel_rfl,
  t22 := Tryd.underlying137,
  a22 := Tryd.isAgg137,
  z22 := Tryd.sizeOf137,
  v22 := Tryd.zeroValue137,
  i22 := by kernel_rfl,
  t24 := Tryd.underlying132,
  a24 := Tryd.isAgg132,
  z24 := Tryd.sizeOf132,
  v24 := Tryd.zeroValue132,
  i24 := by kernel_rfl,
  t25 := Tryd.underlying139,
  a25 := Tryd.isAgg139,
  z25 := Tryd.sizeOf139,
  v25 := Tryd.zeroValue139,
  i25 := by kernel_rfl,
  t34 := Tryd.underlying160,
  a34 := Tryd.isAgg160,
  z34 := Tryd.sizeOf160,
  v34 := Tryd.zeroValue160,
  i34 := by kernel_rfl,
  c34 := by kernel_rfl,
  t36 := Tryd.underlying122,
  a36 := Tryd.isAgg122,
  z36 := Tryd.sizeOf122,
  v36 := Tryd.zeroValue122,
  i36 := by kernel_rfl,
  t37 := Tryd.underlying24,
  a37 := Tryd.isAgg24,
  z37 := Tryd.sizeOf24,
  v37 := Tryd.zeroValue24,
  i37 := by kernel_rfl,
  t39 := Tryd.underlying162,
  a39 := Tryd.isAgg162,
  z39 := Tryd.sizeOf162,
  v39 := Tryd.zeroValue162,
  i39 := by kernel_rfl,
  t44 := Tryd.underlying169,
  a44 := Tryd.isAgg169,
  z44 := Tryd.sizeOf169,
  v44 := Tryd.zeroValue169,
  i44 := by kernel_rfl,
  t47 := Tryd.underlying142,
  a47 := Tryd.isAgg142,
  z47 := Tryd.sizeOf142,
  v47 := Tryd.zeroValue142,
  i47 := by kernel_rfl,
  t48 := Tryd.underlying173,
  a48 := Tryd.isAgg173,
  z48 := Tryd.sizeOf173,
  v48 := Tryd.zeroValue173,
  i48 := by kernel_rfl,
  t50 := Tryd.underlying175,
  a50 := Tryd.isAgg175,
  z50 := Tryd.sizeOf175,
  v50 := Tryd.zeroValue175,
  i50 := by kernel_rfl,
  t52 := Tryd.underlying144,
  a52 := Tryd.isAgg144,
  z52 := Tryd.sizeOf144,
  v52 := Tryd.zeroValue144,
  i52 := by kernel_rfl,
  t55 := Tryd.underlying147,
  a55 := Tryd.isAgg147,
  z55 := Tryd.sizeOf147,
  v55 := Tryd.zeroValue147,
  i55 := by kernel_rfl,
  t59 := Tryd.underlying155,
  a59 := Tryd.isAgg155,
  z59 := Tryd.sizeOf155,
  v59 := Tryd.zeroValue155,
  i59 := by kernel_rfl,
  t60 := Tryd.underlying156,
  a60 := Tryd.isAgg156,
  z60 := Tryd.sizeOf156,
  v60 := Tryd.zeroValue156,
  i60 := by kernel_rfl,
  t61 := Tryd.underlying157,
  a61 := Tryd.isAgg157,
  z61 := Tryd.sizeOf157,
  t65 := Tryd.underlying171,
  a65 := Tryd.isAgg171,
  z65 := Tryd.sizeOf171,
  v65 := Tryd.zeroValue171,
  i65 := by kernel_rfl,
  t66 := Tryd.underlying172,
  a66 := Tryd.isAgg172,
  z66 := Tryd.sizeOf172,
  v66 := Tryd.zeroValue172,
  i66 := by kernel_rfl,
  t67 := Tryd.underlying135,
  a67 := Tryd.isAgg135,
  z67 := Tryd.sizeOf135,
  v67 := Tryd.zeroValue135,
  i67 := by kernel_rfl,
  g0 := by kernel_rfl,
  m0 := by kernel_rfl,
  g1 := by kernel_rfl,
  m1 := by kernel_rfl,
  g2 := by kernel_rfl,
  m2 := by kernel_rfl,
  g3 := by kernel_rfl,
  m3 := by kernel_rfl,
  g4 := by kernel_rfl,
  m4 := by kernel_rfl }
end Go.Proofs.YtcibcmfaebbhnaaDoor
set_option linter.unusedVariables false
set_option linter.unusedSimpArgs false
namespace Go.Proofs.YtcibcmfaebbhnaaDoor
open Go.RowKit Go.WideShapes Go.ChangeShapes Q
def ctV (l : List UInt8) : Value := match cnt l with
  | some n => .tuple #[.int .i64 (n : Int), .bool true]
  | none => .tuple #[.int .i64 0, .bool false]
theorem ctV_none {l : List UInt8} (h : cnt l = none) : ctV l = .tuple #[.int .i64 0, .bool false] := by unfold ctV; rw [h]
theorem ctV_some {l : List UInt8} {n : Nat} (h : cnt l = some n) : ctV l = .tuple #[.int .i64 (n : Int), .bool true] := by unfold ctV; rw [h]
/-- What the loop keeps. -/
def PcLoop (s : ByteArray) (w : World) (i : Value) (wr : World) : Prop := w = wr ∧ ∃ j : Nat, j ≤ s.size ∧ i = .int .i64 j ∧ (s.data.toList.take j).all isD = true
set_option maxRecDepth 100000 in
set_option maxHeartbeats 4000000 in
theorem count_prog (s : ByteArray) (w : World) (hs : s.size ≤ 1000000000000) :
    Calls Tryd.prog 73 #[.string s] w fun e w' => e = .returned (ctV s.data.toList) ∧ Below w.heap.size w w' := by
  by_cases h0 : s.size = 0
  · have HS := hide (ctV_none (cnt_shape (s := s) (.inl h0)))
    obtain rfl : s = ⟨#[]⟩ := by
      apply ByteArray.ext
      apply Array.toList_inj.1
      exact bempty.2 h0
    clear h0
    go_enter Tryd.func73, Tryd.ntmps73
    go_wp2_with fail
    refine bodyPost_ret (results_tmp2 rfl _ _ _) rfl ?_
    refine ⟨?_, Below.refl _ _⟩
    rw [HS.out]
    rfl
  · have hz0 : 0 < s.size := by omega
    have hne2 : ¬ s.toList = [] := by
      intro e
      apply h0
      have : s.toList.length = s.size := by simp [ByteArray.toList_eq]
      rw [e] at this
      exact this.symm
    have hne3 : s.toList.isEmpty = false := by
      cases hq : s.toList with
      | nil => exact absurd hq hne2
      | cons a r => rfl
    obtain ⟨c0, hc0⟩ : ∃ c0, c0 = s[0]'hz0 := ⟨_, rfl⟩
    have hcc := hc0.symm
    have e4 : (0 : Int) < (s.size : Int) := by omega
    by_cases hn : 19 < s.size ∨ (1 < s.size ∧ s.data.toList.head? = some 48)
    · have HS := hide (ctV_none (cnt_shape (s := s) (.inr hn)))
      by_cases hl : 1 < s.size ∧ c0.toNat = 48
      · have e1 : (1 : Int) < (s.size : Int) := by omega
        have e2 : ((c0.toNat : Int) == 48) = true := by rw [beq_iff_eq]; omega
        clear hn hl h0 hc0
        go_enter Tryd.func73, Tryd.ntmps73
        go_wp2_with fail
        refine bodyPost_ret (results_tmp2 rfl _ _ _) rfl ?_
        refine ⟨?_, Below.refl _ _⟩
        rw [HS.out]
        rfl
      · have h19 : 19 < s.size := by
          rcases hn with hn | ⟨h1, h48⟩
          · exact hn
          · exfalso
            apply hl
            refine ⟨h1, ?_⟩
            rw [bhead hz0, ← hc0] at h48
            rw [Option.some.inj h48]
            rfl
        have e1 : (1 : Int) < (s.size : Int) := by omega
        have e2 : ((c0.toNat : Int) == 48) = false := by rw [beq_eq_false_iff_ne]; intro h; exact hl ⟨by omega, by omega⟩
        have e3 : (19 : Int) < (s.size : Int) := by omega
        clear hn hl h0 hc0 h19
        go_enter Tryd.func73, Tryd.ntmps73
        go_wp2_with fail
        refine bodyPost_ret (results_tmp2 rfl _ _ _) rfl ?_
        refine ⟨?_, Below.refl _ _⟩
        rw [HS.out]
        rfl
    · have h19 : s.size ≤ 19 := by omega
      have HNO : Hid (¬ (s.size = 0 ∨ 19 < s.size ∨ (1 < s.size ∧ s.data.toList.head? = some 48))) := by
        rintro (h | h)
        · exact h0 h
        · exact hn h
      have hz : 1 < s.size → c0.toNat ≠ 48 := by
        intro h1 h
        apply hn
        refine .inr ⟨h1, ?_⟩
        rw [bhead hz0, ← hc0]
        congr 1
        apply UInt8.toNat_inj.1
        exact h
      have e3 : ¬ (19 : Int) < (s.size : Int) := by omega
      have HL0 : Hid (PcLoop s w (.int .i64 0) w) := ⟨rfl, 0, Nat.zero_le _, rfl, rfl⟩
      clear hn hc0 h0
      by_cases h1 : 1 < s.size
      all_goals
        first
        | (have e1 : (1 : Int) < (s.size : Int) := by omega
           have e2 : ((c0.toNat : Int) == 48) = false := by rw [beq_eq_false_iff_ne]; have := hz h1; omega)
        | (have e1 : ¬ (1 : Int) < (s.size : Int) := by omega
           have e2 : c0.toNat < 256 := c0.toNat_lt)
        clear hz h1
        go_enter Tryd.func73, Tryd.ntmps73
        go_upto_region 4 with fail
        clear e1 e2 e3 hcc hne2 hne3
        go_loopw [4, 26] (fun _ i wr => PcLoop s w i wr) (fun _ i _ => s.size - (intOf i).toNat)
        case atStart => exact HL0.out
        case round =>
          clear HL0
          unfold PcLoop at hrel
          obtain ⟨rfl, j, hj, rfl, hall⟩ := hrel
          have HALL := hide hall
          clear hall
          have j0 : (0 : Int) ≤ (j : Int) := by omega
          by_cases hlt : j < s.size
          · obtain ⟨c, hc⟩ : ∃ c, c = s[j] := ⟨_, rfl⟩
            have hcc := hc.symm
            have HC := hide hc
            have c256 : c.toNat < 256 := c.toNat_lt
            have js : (j : Int) < (s.size : Int) := by omega
            by_cases hd : 48 ≤ c.toNat ∧ c.toNat ≤ 57
            · have d1 : ¬ (c.toNat : Int) < 48 := by omega
              have d2 : ¬ 57 < (c.toNat : Int) := by omega
              have hD : isD c = true := decide_eq_true hd
              have HALL2 : Hid ((s.data.toList.take (j + 1)).all isD = true) := by
                show _ = _
                rw [take_snoc hlt, List.all_append, HALL.out, ← HC.out, List.all_cons, hD]
                rfl
              have HL4 : Hid (PcLoop s w (.int .i64 ((j : Int) + 1)) w) := ⟨rfl, j + 1, by omega, by go_num, HALL2.out⟩
              clear hc hd
              go_wp2_with fail
              go_roundw
              case rel => first | exact HL4.out | exact ⟨_, _, HL4.out, rfl, rfl⟩
              case measure => simp [intOf]; omega
            · have hD : isD c = false := decide_eq_false hd
              have HS := hide (ctV_none (cnt_digit hlt (by rw [← HC.out]; exact hD)))
              have g1 : (48 : Int) ≤ (c.toNat : Int) → 57 < (c.toNat : Int) := by omega
              clear hc hd
              by_cases hlo : (c.toNat : Int) < 48
              all_goals
                go_wp2_with fail
                all_goals try (exfalso; omega)
                all_goals refine bodyPost_ret (results_tmp2 rfl _ _ _) rfl ?_
                all_goals refine ⟨?_, Below.refl _ _⟩
                all_goals rw [HS.out]
                all_goals rfl
          · have js : ¬ (j : Int) < (s.size : Int) := by omega
            have ht : s.data.toList.take j = s.data.toList := List.take_of_length_le (by rw [str_len]; omega)
            have hA := HALL.out
            rw [ht] at hA
            obtain ⟨V, hV⟩ : ∃ V, V = valD 0 s.data.toList := ⟨_, rfl⟩
            have hpar : Lib.parseUintB 64 s.data.toList = .ok V := by
              rw [hV]
              exact parse_cnt (fun e => by have := bempty.1 e; omega) (by rw [str_len]; exact h19) hA
            have hV64 : V ≤ 18446744073709551615 := Lib.parseUintB_le hpar
            have HP : Hid (Calls Tryd.prog 82 #[.string s, .int .i64 10, .int .i64 64] w fun e w' => e = .returned (.tuple #[.int .u64 (V : Int), .nilIface]) ∧ Below w.heap.size w w') := by
              refine (Any.strconv_ParseUint_10_at64_ok lap14 s (by omega) V hpar w).mono ?_
              rintro e w' ⟨he, hw | hw⟩
              · exact ⟨he, by rw [hw]; exact Below.refl _ _⟩
              · exact ⟨he, by rw [hw]; exact Lib.bytesWorld_below _ _ _⟩
            by_cases hov : V ≤ 4611686018427387904
            · have HS := hide (ctV_some (cnt_yes HNO.out hA (by rw [← hV]; exact hov)))
              have o1 : ¬ (4611686018427387904 : Int) < (V : Int) := by omega
              have HV := hide hV
              clear hlt hA ht hpar hV
              go_wp2_with (go_at_call 82; refine HP.out.mono ?_; rintro e w2 ⟨rfl, hb2⟩; have HB2 := hide hb2; clear hb2)
              refine bodyPost_ret (results_tmp2 rfl _ _ _) rfl ?_
              refine ⟨?_, HB2.out⟩
              rw [HS.out, ← HV.out]
              rfl
            · have HS := hide (ctV_none (cnt_over (s := s) s.size (by rw [List.take_of_length_le (by rw [str_len]; omega), ← hV]; omega)))
              have o1 : (4611686018427387904 : Int) < (V : Int) := by omega
              clear hlt hA ht hpar hV
              go_wp2_with (go_at_call 82; refine HP.out.mono ?_; rintro e w2 ⟨rfl, hb2⟩; have HB2 := hide hb2; clear hb2)
              refine bodyPost_ret (results_tmp2 rfl _ _ _) rfl ?_
              refine ⟨?_, HB2.out⟩
              rw [HS.out]
              rfl
end Go.Proofs.YtcibcmfaebbhnaaDoor
