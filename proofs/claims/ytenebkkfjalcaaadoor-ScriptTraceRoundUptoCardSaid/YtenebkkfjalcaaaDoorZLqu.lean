/-
  Contract of the library's ParseUint laid at this program. (Printed by wip/tools/mklayp.py.) The program's count and whole. Contracts of the library's IndexByte, HasPrefix, CutPrefix and Cut laid at this program. (Printed by wip/tools/mklay4.py.)
-/
import Derived.Test.YtenebkkfjalcaaaDoorZRead
import Derived.Shelf.Pu.ParseUintPublic10
import Derived.Test.YtenebkkfjalcaaaDoorZSev
import Derived.Shelf.Small.Strs
import Derived.Shelf.Small.Wraps
import Derived.Shelf.Strings.Prefix
import Derived.Shelf.Strings.Cut
set_option linter.unusedVariables false
namespace Go.Proofs.YtenebkkfjalcaaaDoor
open Go.Shelf

def pren : Go.Shelf.Ren := ⟨fun | 14 => 72 | 16 => 85 | 17 => 86 | 19 => 93 | 20 => 94 | 21 => 95 | 22 => 96 | 23 => 97 | 24 => 98 | 25 => 101 | 26 => 102 | 27 => 30 | 28 => 52 | 29 => 66 | 30 => 78 | 31 => 79 | 32 => 80 | 33 => 81 | 34 => 88 | 35 => 89 | 36 => 90 | 37 => 91 | 38 => 92 | 39 => 99 | 40 => 100 | n => n,
  fun | 0 => 0 | 2 => 2 | 3 => 3 | 4 => 4 | 5 => 5 | 9 => 9 | 20 => 20 | 21 => 21 | 22 => 110 | 24 => 53 | 25 => 111 | 34 => 132 | 36 => 96 | 37 => 42 | 39 => 134 | 44 => 139 | 47 => 78 | 48 => 143 | 50 => 145 | 52 => 117 | 55 => 120 | 59 => 128 | 60 => 123 | 61 => 129 | 65 => 141 | 66 => 142 | 67 => 58 | n => n,
  fun | 0 => 3 | 1 => 4 | 2 => 2 | 3 => 5 | 4 => 6 | n => n⟩
theorem lap14 : LaysPu.n14 Tryd.prog pren := {
  mixed := by kernel_rfl,
  f14 := Tryd.func72.trans (congrArg some (by kernel_rfl)),
  f16 := Tryd.func85.trans (congrArg some (by kernel_rfl)),
  f17 := Tryd.func86.trans (congrArg some (by kernel_rfl)),
  f19 := Tryd.func93.trans (congrArg some (by kernel_rfl)),
  f20 := Tryd.func94.trans (congrArg some (by kernel_rfl)),
  f21 := Tryd.func95.trans (congrArg some (by kernel_rfl)),
  f22 := Tryd.func96.trans (congrArg some (by kernel_rfl)),
  f23 := Tryd.func97.trans (congrArg some (by kernel_rfl)),
  f24 := Tryd.func98.trans (congrArg some (by kernel_rfl)),
  f25 := Tryd.func101.trans (congrArg some (by kernel_rfl)),
  f26 := Tryd.func102.trans (congrArg some (by kernel_rfl)),
  f27 := Tryd.func30.trans (congrArg some (by kernel_rfl)),
  f28 := Tryd.func52.trans (congrArg some (by kernel_rfl)),
  f29 := Tryd.func66.trans (congrArg some (by kernel_rfl)),
  f30 := Tryd.func78.trans (congrArg some (by kernel_rfl)),
  f31 := Tryd.func79.trans (congrArg some (by kernel_rfl)),
  f32 := Tryd.func80.trans (congrArg some (by kernel_rfl)),
  f33 := Tryd.func81.trans (congrArg some (by kernel_rfl)),
  f34 := Tryd.func88.trans (congrArg some (by kernel_rfl)),
  f35 := Tryd.func89.trans (congrArg some (by kernel_rfl)),
  f36 := Tryd.func90.trans (congrArg some (by kernel_rfl)),
  f37 := Tryd.func91.trans (congrArg some (by kernel_rfl)),
  f38 := Tryd.func92.trans (congrArg some (by kernel_rfl)),
  f39 := Tryd.func99.trans (congrArg some (by kernel_rfl)),
  f40 := Tryd.func100.trans (congrArg some (by kernel_rfl)),
  t0 := Tryd.underlying0,
  a0 := Tryd.isAgg0,
  z0 := Tryd.sizeOf0,
  v0 := Tryd.zeroValue0,
  i0 := by kernel_rfl,
  t2 := Tryd.underlying2,
  a2 := Tryd.isAgg2,
  z2 := Tryd.sizeOf2,
  v2 := Tryd.zeroValue2,
  i2 := by kernel_rfl,
  t3 := Tryd.underlying3,
  a3 := Tryd.isAgg3,
  z3 := Tryd.sizeOf3,
  v3 := Tryd.zeroValue3,
  i3 := by kernel_rfl,
  t4 := Tryd.underlying4,
  a4 := Tryd.isAgg4,
  z4 := Tryd.sizeOf4,
  v4 := Tryd.zeroValue4,
  i4 := by kernel_rfl,
  t5 := Tryd.underlying5,
  a5 := Tryd.isAgg5,
  z5 := Tryd.sizeOf5,
  v5 := Tryd.zeroValue5,
  i5 := by kernel_rfl,
  t9 := Tryd.underlying9,
  a9 := Tryd.isAgg9,
  z9 := Tryd.sizeOf9,
  v9 := Tryd.zeroValue9,
  i9 := by kernel_rfl,
  t20 := Tryd.underlying20,
  a20 := Tryd.isAgg20,
  z20 := Tryd.sizeOf20,
  v20 := Tryd.zeroValue20,
  i20 := by kernel_rfl,
  t21 := Tryd.underlying21,
  a21 := Tryd.isAgg21,
  z21 := Tryd.sizeOf21,
  v21 := Tryd.zeroValue21,
  i21 := by kernel_rfl,
  t22 := Tryd.underlying110,
  a22 := Tryd.isAgg110,
  z22 := Tryd.sizeOf110,
  v22 := Tryd.zeroValue110,
  i22 := by kernel_rfl,
  t24 := Tryd.underlying53,
  a24 := Tryd.isAgg53,
  z24 := Tryd.sizeOf53,
  v24 := Tryd.zeroValue53,
  i24 := by kernel_rfl,
  t25 := Tryd.underlying111,
  a25 := Tryd.isAgg111,
  z25 := Tryd.sizeOf111,
  v25 := Tryd.zeroValue111,
  i25 := by kernel_rfl,
  t34 := Tryd.underlying132,
  a34 := Tryd.isAgg132,
  z34 := Tryd.sizeOf132,
  v34 := Tryd.zeroValue132,
  i34 := by kernel_rfl,
  c34 := by kernel_rfl,
  t36 := Tryd.underlying96,
  a36 := Tryd.isAgg96,
  z36 := Tryd.sizeOf96,
  v36 := Tryd.zeroValue96,
  i36 := by kernel_rfl,
  t37 := Tryd.underlying42,
  a37 := Tryd.isAgg42,
  z37 := Tryd.sizeOf42,
  v37 := Tryd.zeroValue42,
  i37 := by kernel_rfl,
  t39 := Tryd.underlying134,
  a39 := Tryd.isAgg134,
  z39 := Tryd.sizeOf134,
  v39 := Tryd.zeroValue134,
  i39 := by kernel_rfl,
  t44 := Tryd.underlying139,
  a44 := Tryd.isAgg139,
  z44 := Tryd.sizeOf139,
  v44 := Tryd.zeroValue139,
  i44 := by kernel_rfl,
  t47 := Tryd.underlying78,
  a47 := Tryd.isAgg78,
  z47 := Tryd.sizeOf78,
  v47 := Tryd.zeroValue78,
  i47 := by kernel_rfl,
  t48 := Tryd.underlying143,
  a48 := Tryd.isAgg143,
  z48 := Tryd.sizeOf143,
  v48 := Tryd.zeroValue143,
  i48 := by kernel_rfl,
  t50 := Tryd.underlying145,
  a50 := Tryd.isAgg145,
  z50 := Tryd.sizeOf145,
  v50 := Tryd.zeroValue145,
  i50 := by kernel_rfl,
  t52 := Tryd.underlying117,
  a52 := Tryd.isAgg117,
  z52 := Tryd.sizeOf117,
  v52 := Tryd.zeroValue117,
  i52 := by kernel_rfl,
  t55 := Tryd.underlying120,
  a55 := Tryd.isAgg120,
  z55 := Tryd.sizeOf120,
  v55 := Tryd.zeroValue120,
  i55 := by kernel_rfl,
  t59 := Tryd.underlying128,
  a59 := Tryd.isAgg128,
  z59 := Tryd.sizeOf128,
  v59 := Tryd.zeroValue128,
  i59 := by kernel_rfl,
  t60 := Tryd.underlying123,
  a60 := Tryd.isAgg123,
  z60 := Tryd.sizeOf123,
  v60 := Tryd.zeroValue123,
  i60 := by kernel_rfl,
  t61 := Tryd.underlying129,
  a61 := Tryd.isAgg129,
  z61 := Tryd.sizeOf129,
  t65 := Tryd.underlying141,
  a65 := Tryd.isAgg141,
  z65 := Tryd.sizeOf141,
  v65 := Tryd.zeroValue141,
  i65 := by kernel_rfl,
  t66 := Tryd.underlying142,
  a66 := Tryd.isAgg142,
  z66 := Tryd.sizeOf142,
  v66 := Tryd.zeroValue142,
  i66 := by kernel_rfl,
  t67 := Tryd.underlying58,
  a67 := Tryd.isAgg58,
  z67 := Tryd.sizeOf58,
  v67 := Tryd.zeroValue58,
  i67 := by kernel_rfl,
  g0 := by kernel_rfl,
  m0 := by kernel_rfl,
  g1 := by kernel_rfl,
  m1 := by kernel_rfl,
  g2 := by kernel_rfl,
  m2 := by kernel_rfl,
  g3 := by kernel_rfl,
  m3 := by kernel_rfl,
  g4 := by kernel_rfl,
  m4 := by kernel_rfl }
end Go.Proofs.YtenebkkfjalcaaaDoor
set_option linter.unusedVariables false
set_option linter.unusedSimpArgs false
namespace Go.Proofs.YtenebkkfjalcaaaDoor
open Go.RowKit Go.WideShapes Go.ChangeShapes Q

def ctV (l : List UInt8) : Value := match cnt l with
  | some n => .tuple #[.int .i64 (n : Int), .bool true]
  | none => .tuple #[.int .i64 0, .bool false]
theorem ctV_none {l : List UInt8} (h : cnt l = none) : ctV l = .tuple #[.int .i64 0, .bool false] := by unfold ctV; rw [h]
theorem ctV_some {l : List UInt8} {n : Nat} (h : cnt l = some n) : ctV l = .tuple #[.int .i64 (n : Int), .bool true] := by unfold ctV; rw [h]
/-- What the loop keeps. -/
def PcLoop (s : ByteArray) (w : World) (i : Value) (wr : World) : Prop := w = wr ∧ ∃ j : Nat, j ≤ s.size ∧ i = .int .i64 j ∧ (s.data.toList.take j).all isD = true

set_option maxRecDepth 100000 in
set_option maxHeartbeats 4000000 in
theorem count_prog (s : ByteArray) (w : World) (hs : s.size ≤ 1000000000000) :
    Calls Tryd.prog 56 #[.string s] w fun e w' => e = .returned (ctV s.data.toList) ∧ Below w.heap.size w w' := by
  by_cases h0 : s.size = 0
  · have HS := hide (ctV_none (cnt_shape (s := s) (.inl h0)))
    obtain rfl : s = ⟨#[]⟩ := by
      apply ByteArray.ext
      apply Array.toList_inj.1
      exact bempty.2 h0
    clear h0
    go_enter Tryd.func56, Tryd.ntmps56
    go_wp2_with fail
    refine bodyPost_ret (results_tmp2 rfl _ _ _) rfl ?_
    refine ⟨?_, Below.refl _ _⟩
    rw [HS.out]
    rfl
  · have hz0 : 0 < s.size := by omega
    have hne2 : ¬ s.toList = [] := by
      intro e
      apply h0
      have : s.toList.length = s.size := by simp [ByteArray.toList_eq]
      rw [e] at this
      exact this.symm
    have hne3 : s.toList.isEmpty = false := by
      cases hq : s.toList with
      | nil => exact absurd hq hne2
      | cons a r => rfl
    obtain ⟨c0, hc0⟩ : ∃ c0, c0 = s[0]'hz0 := ⟨_, rfl⟩
    have hcc := hc0.symm
    have e4 : (0 : Int) < (s.size : Int) := by omega
    by_cases hn : 19 < s.size ∨ (1 < s.size ∧ s.data.toList.head? = some 48)
    · have HS := hide (ctV_none (cnt_shape (s := s) (.inr hn)))
      by_cases hl : 1 < s.size ∧ c0.toNat = 48
      · have e1 : (1 : Int) < (s.size : Int) := by omega
        have e2 : ((c0.toNat : Int) == 48) = true := by rw [beq_iff_eq]; omega
        clear hn hl h0 hc0
        go_enter Tryd.func56, Tryd.ntmps56
        go_wp2_with fail
        refine bodyPost_ret (results_tmp2 rfl _ _ _) rfl ?_
        refine ⟨?_, Below.refl _ _⟩
        rw [HS.out]
        rfl
      · have h19 : 19 < s.size := by
          rcases hn with hn | ⟨h1, h48⟩
          · exact hn
          · exfalso
            apply hl
            refine ⟨h1, ?_⟩
            rw [bhead hz0, ← hc0] at h48
            rw [Option.some.inj h48]
            rfl
        have e1 : (1 : Int) < (s.size : Int) := by omega
        have e2 : ((c0.toNat : Int) == 48) = false := by rw [beq_eq_false_iff_ne]; intro h; exact hl ⟨by omega, by omega⟩
        have e3 : (19 : Int) < (s.size : Int) := by omega
        clear hn hl h0 hc0 h19
        go_enter Tryd.func56, Tryd.ntmps56
        go_wp2_with fail
        refine bodyPost_ret (results_tmp2 rfl _ _ _) rfl ?_
        refine ⟨?_, Below.refl _ _⟩
        rw [HS.out]
        rfl
    · have h19 : s.size ≤ 19 := by omega
      have HNO : Hid (¬ (s.size = 0 ∨ 19 < s.size ∨ (1 < s.size ∧ s.data.toList.head? = some 48))) := by
        rintro (h | h)
        · exact h0 h
        · exact hn h
      have hz : 1 < s.size → c0.toNat ≠ 48 := by
        intro h1 h
        apply hn
        refine .inr ⟨h1, ?_⟩
        rw [bhead hz0, ← hc0]
        congr 1
        apply UInt8.toNat_inj.1
        exact h
      have e3 : ¬ (19 : Int) < (s.size : Int) := by omega
      have HL0 : Hid (PcLoop s w (.int .i64 0) w) := ⟨rfl, 0, Nat.zero_le _, rfl, rfl⟩
      clear hn hc0 h0
      by_cases h1 : 1 < s.size
      all_goals
        first
        | (have e1 : (1 : Int) < (s.size : Int) := by omega
           have e2 : ((c0.toNat : Int) == 48) = false := by rw [beq_eq_false_iff_ne]; have := hz h1; omega)
        | (have e1 : ¬ (1 : Int) < (s.size : Int) := by omega
           have e2 : c0.toNat < 256 := c0.toNat_lt)
        clear hz h1
        go_enter Tryd.func56, Tryd.ntmps56
        go_upto_region 4 with fail
        clear e1 e2 e3 hcc hne2 hne3
        go_loopw [4, 26] (fun _ i wr => PcLoop s w i wr) (fun _ i _ => s.size - (intOf i).toNat)
        case atStart => exact HL0.out
        case round =>
          clear HL0
          unfold PcLoop at hrel
          obtain ⟨rfl, j, hj, rfl, hall⟩ := hrel
          have HALL := hide hall
          clear hall
          have j0 : (0 : Int) ≤ (j : Int) := by omega
          by_cases hlt : j < s.size
          · obtain ⟨c, hc⟩ : ∃ c, c = s[j] := ⟨_, rfl⟩
            have hcc := hc.symm
            have HC := hide hc
            have c256 : c.toNat < 256 := c.toNat_lt
            have js : (j : Int) < (s.size : Int) := by omega
            by_cases hd : 48 ≤ c.toNat ∧ c.toNat ≤ 57
            · have d1 : ¬ (c.toNat : Int) < 48 := by omega
              have d2 : ¬ 57 < (c.toNat : Int) := by omega
              have hD : isD c = true := decide_eq_true hd
              have HALL2 : Hid ((s.data.toList.take (j + 1)).all isD = true) := by
                show _ = _
                rw [take_snoc hlt, List.all_append, HALL.out, ← HC.out, List.all_cons, hD]
                rfl
              have HL4 : Hid (PcLoop s w (.int .i64 ((j : Int) + 1)) w) := ⟨rfl, j + 1, by omega, by go_num, HALL2.out⟩
              clear hc hd
              go_wp2_with fail
              go_roundw
              case rel => first | exact HL4.out | exact ⟨_, _, HL4.out, rfl, rfl⟩
              case measure => simp [intOf]; omega
            · have hD : isD c = false := decide_eq_false hd
              have HS := hide (ctV_none (cnt_digit hlt (by rw [← HC.out]; exact hD)))
              have g1 : (48 : Int) ≤ (c.toNat : Int) → 57 < (c.toNat : Int) := by omega
              clear hc hd
              by_cases hlo : (c.toNat : Int) < 48
              all_goals
                go_wp2_with fail
                all_goals try (exfalso; omega)
                all_goals refine bodyPost_ret (results_tmp2 rfl _ _ _) rfl ?_
                all_goals refine ⟨?_, Below.refl _ _⟩
                all_goals rw [HS.out]
                all_goals rfl
          · have js : ¬ (j : Int) < (s.size : Int) := by omega
            have ht : s.data.toList.take j = s.data.toList := List.take_of_length_le (by rw [str_len]; omega)
            have hA := HALL.out
            rw [ht] at hA
            obtain ⟨V, hV⟩ : ∃ V, V = valD 0 s.data.toList := ⟨_, rfl⟩
            have hpar : Lib.parseUintB 64 s.data.toList = .ok V := by
              rw [hV]
              exact parse_cnt (fun e => by have := bempty.1 e; omega) (by rw [str_len]; exact h19) hA
            have hV64 : V ≤ 18446744073709551615 := Lib.parseUintB_le hpar
            have HP : Hid (Calls Tryd.prog 72 #[.string s, .int .i64 10, .int .i64 64] w fun e w' => e = .returned (.tuple #[.int .u64 (V : Int), .nilIface]) ∧ Below w.heap.size w w') := by
              refine (Any.strconv_ParseUint_10_at64_ok lap14 s (by omega) V hpar w).mono ?_
              rintro e w' ⟨he, hw | hw⟩
              · exact ⟨he, by rw [hw]; exact Below.refl _ _⟩
              · exact ⟨he, by rw [hw]; exact Lib.bytesWorld_below _ _ _⟩
            by_cases hov : V ≤ 4611686018427387904
            · have HS := hide (ctV_some (cnt_yes HNO.out hA (by rw [← hV]; exact hov)))
              have o1 : ¬ (4611686018427387904 : Int) < (V : Int) := by omega
              have HV := hide hV
              clear hlt hA ht hpar hV
              go_wp2_with (go_at_call 72; refine HP.out.mono ?_; rintro e w2 ⟨rfl, hb2⟩; have HB2 := hide hb2; clear hb2)
              refine bodyPost_ret (results_tmp2 rfl _ _ _) rfl ?_
              refine ⟨?_, HB2.out⟩
              rw [HS.out, ← HV.out]
              rfl
            · have HS := hide (ctV_none (cnt_over (s := s) s.size (by rw [List.take_of_length_le (by rw [str_len]; omega), ← hV]; omega)))
              have o1 : (4611686018427387904 : Int) < (V : Int) := by omega
              clear hlt hA ht hpar hV
              go_wp2_with (go_at_call 72; refine HP.out.mono ?_; rintro e w2 ⟨rfl, hb2⟩; have HB2 := hide hb2; clear hb2)
              refine bodyPost_ret (results_tmp2 rfl _ _ _) rfl ?_
              refine ⟨?_, HB2.out⟩
              rw [HS.out]
              rfl
def wholeV (l : List UInt8) : Value := if l.head? = some 45 then (match cnt (l.drop 1) with
  | some n => .tuple #[.int .i64 (-(n : Int)), .bool (decide (0 < n))]
  | none => .tuple #[.int .i64 0, .bool false]) else ctV l
set_option maxRecDepth 100000 in
set_option maxHeartbeats 4000000 in
theorem whole_any (s : ByteArray) (w : World) (hs : s.size ≤ 1000000000000) :
    Calls Tryd.prog 74 #[.string s] w fun e w' => e = .returned (wholeV s.data.toList) ∧ Below w.heap.size w w' := by
  by_cases hh : s.data.toList.head? = some 45
  · have hz0 : 0 < s.size := by
      rcases Nat.eq_zero_or_pos s.size with h | h
      · rw [bempty.2 h] at hh
        cases hh
      · exact h
    obtain ⟨c0, hc0⟩ : ∃ c0, c0 = s[0]'hz0 := ⟨_, rfl⟩
    have hcc := hc0.symm
    have e0 : (0 : Int) < (s.size : Int) := by omega
    have e2 : ((c0.toNat : Int) == 45) = true := by
      rw [bhead hz0, ← hc0] at hh
      rw [Option.some.inj hh]
      rfl
    have hc := count_prog (s.extract 1 s.size) w (by rw [ByteArray.size_extract]; omega)
    rw [sub_list, List.take_of_length_le (by rw [str_len]; omega)] at hc
    have hw : wholeV s.data.toList = match cnt (s.data.toList.drop 1) with
        | some n => .tuple #[.int .i64 (-(n : Int)), .bool (decide (0 < n))]
        | none => .tuple #[.int .i64 0, .bool false] := by
      unfold wholeV
      rw [if_pos hh]
    cases hu : cnt (s.data.toList.drop 1) with
    | none =>
      rw [ctV_none hu] at hc
      rw [hu] at hw
      have HC := hide hc
      have HS := hide hw
      clear hh hc0 hu hc hw
      go_enter Tryd.func74, Tryd.ntmps74
      go_wp2_with (go_at_call 56; refine HC.out.mono ?_; rintro e w2 ⟨rfl, hb2⟩; have HB2 := hide hb2; clear hb2)
      refine bodyPost_ret (results_tmp2 rfl _ _ _) rfl ?_
      refine ⟨?_, HB2.out⟩
      rw [HS.out]
      rfl
    | some n =>
      have hn := cnt_le hu
      rw [ctV_some hu] at hc
      rw [hu] at hw
      have HC := hide hc
      by_cases hn0 : 0 < n
      · have HS : Hid (wholeV s.data.toList = .tuple #[.int .i64 (-(n : Int)), .bool true]) := by
          show _ = _
          rw [hw]
          simp only [hn0, decide_true]
        have n0 : (0 : Int) < (n : Int) := by omega
        clear hh hc0 hu hc hw
        go_enter Tryd.func74, Tryd.ntmps74
        go_wp2_with (go_at_call 56; refine HC.out.mono ?_; rintro e w2 ⟨rfl, hb2⟩; have HB2 := hide hb2; clear hb2)
        refine bodyPost_ret (results_tmp2 rfl _ _ _) rfl ?_
        refine ⟨?_, HB2.out⟩
        rw [HS.out]
        rfl
      · obtain rfl : n = 0 := by omega
        have HS : Hid (wholeV s.data.toList = .tuple #[.int .i64 0, .bool false]) := by
          show _ = _
          rw [hw]
          rfl
        clear hh hc0 hu hc hw hn0
        go_enter Tryd.func74, Tryd.ntmps74
        go_wp2_with (go_at_call 56; refine HC.out.mono ?_; rintro e w2 ⟨rfl, hb2⟩; have HB2 := hide hb2; clear hb2)
        refine bodyPost_ret (results_tmp2 rfl _ _ _) rfl ?_
        refine ⟨?_, HB2.out⟩
        rw [HS.out]
        rfl
  · have HS : Hid (wholeV s.data.toList = ctV s.data.toList) := by
      show _ = _
      unfold wholeV
      rw [if_neg hh]
    have hc := count_prog s w hs
    obtain ⟨V, b, hV⟩ : ∃ V b, ctV s.data.toList = .tuple #[.int .i64 V, .bool b] := by
      unfold ctV
      cases cnt s.data.toList with
      | none => exact ⟨_, _, rfl⟩
      | some n => exact ⟨_, _, rfl⟩
    rw [hV] at hc HS
    have HC := hide hc
    by_cases hz0 : 0 < s.size
    · obtain ⟨c0, hc0⟩ : ∃ c0, c0 = s[0]'hz0 := ⟨_, rfl⟩
      have hcc := hc0.symm
      have e0 : (0 : Int) < (s.size : Int) := by omega
      have e2 : ((c0.toNat : Int) == 45) = false := by
        rw [beq_eq_false_iff_ne]
        intro h
        apply hh
        rw [bhead hz0, ← hc0]
        congr 1
        apply UInt8.toNat_inj.1
        show c0.toNat = 45
        omega
      clear hh hc0 hc hV
      go_enter Tryd.func74, Tryd.ntmps74
      go_wp2_with (go_at_call 56; refine HC.out.mono ?_; rintro e w2 ⟨rfl, hb2⟩; have HB2 := hide hb2; clear hb2)
      refine bodyPost_ret (results_tmp2 rfl _ _ _) rfl ?_
      refine ⟨?_, HB2.out⟩
      rw [HS.out]
      rfl
    · have e0 : ¬ (0 : Int) < (s.size : Int) := by omega
      clear hh hc hV
      go_enter Tryd.func74, Tryd.ntmps74
      go_wp2_with (go_at_call 56; refine HC.out.mono ?_; rintro e w2 ⟨rfl, hb2⟩; have HB2 := hide hb2; clear hb2)
      refine bodyPost_ret (results_tmp2 rfl _ _ _) rfl ?_
      refine ⟨?_, HB2.out⟩
      rw [HS.out]
      rfl
end Go.Proofs.YtenebkkfjalcaaaDoor
set_option linter.unusedVariables false
namespace Go.Proofs.YtenebkkfjalcaaaDoor
open Go.Shelf

def qren : Go.Shelf.Ren := ⟨fun | 99 => 57 | 103 => 22 | 137 => 58 | 145 => 23 | 206 => 54 | 210 => 42 | 217 => 68 | 219 => 55 | 220 => 43 | 224 => 70 | 225 => 69 | 266 => 83 | 267 => 71 | 314 => 84 | n => n,
  fun | 3 => 3 | 4 => 4 | 5 => 5 | 9 => 9 | 24 => 60 | 46 => 96 | 51 => 123 | 59 => 62 | 146 => 124 | n => n,
  fun | 1 => 1 | n => n⟩
theorem lq137 : Lays.n137 Tryd.prog qren := {
  mixed := by kernel_rfl,
  f137 := Tryd.func58.trans (congrArg some (by kernel_rfl)),
  f217 := Tryd.func68.trans (congrArg some (by kernel_rfl)),
  f266 := Tryd.func83.trans (congrArg some (by kernel_rfl)),
  t3 := Tryd.underlying3,
  a3 := Tryd.isAgg3,
  z3 := Tryd.sizeOf3,
  v3 := Tryd.zeroValue3,
  t5 := Tryd.underlying5,
  a5 := Tryd.isAgg5,
  z5 := Tryd.sizeOf5,
  v5 := Tryd.zeroValue5,
  t9 := Tryd.underlying9,
  a9 := Tryd.isAgg9,
  z9 := Tryd.sizeOf9,
  v9 := Tryd.zeroValue9 }
theorem lq99 : Lays.n99 Tryd.prog qren := {
  mixed := by kernel_rfl,
  f99 := Tryd.func57.trans (congrArg some (by kernel_rfl)),
  f206 := Tryd.func54.trans (congrArg some (by kernel_rfl)),
  t3 := Tryd.underlying3,
  a3 := Tryd.isAgg3,
  z3 := Tryd.sizeOf3,
  v3 := Tryd.zeroValue3,
  t4 := Tryd.underlying4,
  a4 := Tryd.isAgg4,
  z4 := Tryd.sizeOf4,
  v4 := Tryd.zeroValue4,
  t9 := Tryd.underlying9,
  a9 := Tryd.isAgg9,
  z9 := Tryd.sizeOf9,
  v9 := Tryd.zeroValue9 }
theorem lq103 : Lays.n103 Tryd.prog qren := {
  mixed := by kernel_rfl,
  f103 := Tryd.func22.trans (congrArg some (by kernel_rfl)),
  f206 := Tryd.func54.trans (congrArg some (by kernel_rfl)),
  f210 := Tryd.func42.trans (congrArg some (by kernel_rfl)),
  t3 := Tryd.underlying3,
  a3 := Tryd.isAgg3,
  z3 := Tryd.sizeOf3,
  v3 := Tryd.zeroValue3,
  t4 := Tryd.underlying4,
  a4 := Tryd.isAgg4,
  z4 := Tryd.sizeOf4,
  v4 := Tryd.zeroValue4,
  t9 := Tryd.underlying9,
  a9 := Tryd.isAgg9,
  z9 := Tryd.sizeOf9,
  v9 := Tryd.zeroValue9,
  t24 := Tryd.underlying60,
  a24 := Tryd.isAgg60,
  z24 := Tryd.sizeOf60,
  v24 := Tryd.zeroValue60 }
theorem lq145 : Lays.n145 Tryd.prog qren := {
  mixed := by kernel_rfl,
  f145 := Tryd.func23.trans (congrArg some (by kernel_rfl)),
  f217 := Tryd.func68.trans (congrArg some (by kernel_rfl)),
  f219 := Tryd.func55.trans (congrArg some (by kernel_rfl)),
  f220 := Tryd.func43.trans (congrArg some (by kernel_rfl)),
  f224 := Tryd.func70.trans (congrArg some (by kernel_rfl)),
  f225 := Tryd.func69.trans (congrArg some (by kernel_rfl)),
  f266 := Tryd.func83.trans (congrArg some (by kernel_rfl)),
  f267 := Tryd.func71.trans (congrArg some (by kernel_rfl)),
  f314 := Tryd.func84.trans (congrArg some (by kernel_rfl)),
  t3 := Tryd.underlying3,
  a3 := Tryd.isAgg3,
  z3 := Tryd.sizeOf3,
  v3 := Tryd.zeroValue3,
  t4 := Tryd.underlying4,
  a4 := Tryd.isAgg4,
  z4 := Tryd.sizeOf4,
  v4 := Tryd.zeroValue4,
  t5 := Tryd.underlying5,
  a5 := Tryd.isAgg5,
  z5 := Tryd.sizeOf5,
  v5 := Tryd.zeroValue5,
  t9 := Tryd.underlying9,
  a9 := Tryd.isAgg9,
  z9 := Tryd.sizeOf9,
  v9 := Tryd.zeroValue9,
  t46 := Tryd.underlying96,
  a46 := Tryd.isAgg96,
  z46 := Tryd.sizeOf96,
  v46 := Tryd.zeroValue96,
  t51 := Tryd.underlying123,
  a51 := Tryd.isAgg123,
  z51 := Tryd.sizeOf123,
  v51 := Tryd.zeroValue123,
  t59 := Tryd.underlying62,
  a59 := Tryd.isAgg62,
  z59 := Tryd.sizeOf62,
  v59 := Tryd.zeroValue62,
  t146 := Tryd.underlying124,
  a146 := Tryd.isAgg124,
  z146 := Tryd.sizeOf124,
  v146 := Tryd.zeroValue124,
  g1 := by kernel_rfl }
theorem index_any (s : ByteArray) (c : UInt8) (w : World) : Calls Tryd.prog 58 #[.string s, .int .u8 (c.toNat : Int)] w fun e w' => e = .returned (.int .i64 (Lib.indexByte s.data.toList c)) ∧ w = w' := by
  have h := Any.strings_IndexByte lq137 s (c.toNat : Int) w
  have e : ((c.toNat : Int)).toNat.toUInt8 = c := by simp
  rw [e] at h
  exact h.mono fun e w' ⟨h1, h2⟩ => ⟨h1, h2.symm⟩
theorem prefix_any (s p : ByteArray) (w : World) : Calls Tryd.prog 57 #[.string s, .string p] w fun e w' => e = .returned (.bool (Lib.hasPrefix s.data.toList p.data.toList)) ∧ w = w' :=
  (Any.strings_HasPrefix lq99 s p w).mono fun e w' ⟨h1, h2⟩ => ⟨h1, h2.symm⟩
end Go.Proofs.YtenebkkfjalcaaaDoor
