/-
  The program's count and whole.
-/
import Derived.Test.YtcibcmfaebbhnaaDoorZRct
import Derived.Test.YtcibcmfaebbhnaaDoorZLpu
set_option linter.unusedVariables false
set_option linter.unusedSimpArgs false
namespace Go.Proofs.YtcibcmfaebbhnaaDoor
open Go.RowKit Go.WideShapes Go.ChangeShapes Q

def ctV (l : List UInt8) : Value := match cnt l with
  | some n => .tuple #[.int .i64 (n : Int), .bool true]
  | none => .tuple #[.int .i64 0, .bool false]
theorem ctV_none {l : List UInt8} (h : cnt l = none) : ctV l = .tuple #[.int .i64 0, .bool false] := by unfold ctV; rw [h]
theorem ctV_some {l : List UInt8} {n : Nat} (h : cnt l = some n) : ctV l = .tuple #[.int .i64 (n : Int), .bool true] := by unfold ctV; rw [h]
/-- What the loop keeps. -/
def PcLoop (s : ByteArray) (w : World) (i : Value) (wr : World) : Prop := w = wr ∧ ∃ j : Nat, j ≤ s.size ∧ i = .int .i64 j ∧ (s.data.toList.take j).all isD = true

set_option maxRecDepth 100000 in
set_option maxHeartbeats 4000000 in
theorem count_prog (s : ByteArray) (w : World) (hs : s.size ≤ 1000000000000) :
    Calls Tryd.prog 73 #[.string s] w fun e w' => e = .returned (ctV s.data.toList) ∧ Below w.heap.size w w' := by
  by_cases h0 : s.size = 0
  · have HS := hide (ctV_none (cnt_shape (s := s) (.inl h0)))
    obtain rfl : s = ⟨#[]⟩ := by
      apply ByteArray.ext
      apply Array.toList_inj.1
      exact bempty.2 h0
    clear h0
    go_enter Tryd.func73, Tryd.ntmps73
    go_wp2_with fail
    refine bodyPost_ret (results_tmp2 rfl _ _ _) rfl ?_
    refine ⟨?_, Below.refl _ _⟩
    rw [HS.out]
    rfl
  · have hz0 : 0 < s.size := by omega
    have hne2 : ¬ s.toList = [] := by
      intro e
      apply h0
      have : s.toList.length = s.size := by simp [ByteArray.toList_eq]
      rw [e] at this
      exact this.symm
    have hne3 : s.toList.isEmpty = false := by
      cases hq : s.toList with
      | nil => exact absurd hq hne2
      | cons a r => rfl
    obtain ⟨c0, hc0⟩ : ∃ c0, c0 = s[0]'hz0 := ⟨_, rfl⟩
    have hcc := hc0.symm
    have e4 : (0 : Int) < (s.size : Int) := by omega
    by_cases hn : 19 < s.size ∨ (1 < s.size ∧ s.data.toList.head? = some 48)
    · have HS := hide (ctV_none (cnt_shape (s := s) (.inr hn)))
      by_cases hl : 1 < s.size ∧ c0.toNat = 48
      · have e1 : (1 : Int) < (s.size : Int) := by omega
        have e2 : ((c0.toNat : Int) == 48) = true := by rw [beq_iff_eq]; omega
        clear hn hl h0 hc0
        go_enter Tryd.func73, Tryd.ntmps73
        go_wp2_with fail
        refine bodyPost_ret (results_tmp2 rfl _ _ _) rfl ?_
        refine ⟨?_, Below.refl _ _⟩
        rw [HS.out]
        rfl
      · have h19 : 19 < s.size := by
          rcases hn with hn | ⟨h1, h48⟩
          · exact hn
          · exfalso
            apply hl
            refine ⟨h1, ?_⟩
            rw [bhead hz0, ← hc0] at h48
            rw [Option.some.inj h48]
            rfl
        have e1 : (1 : Int) < (s.size : Int) := by omega
        have e2 : ((c0.toNat : Int) == 48) = false := by rw [beq_eq_false_iff_ne]; intro h; exact hl ⟨by omega, by omega⟩
        have e3 : (19 : Int) < (s.size : Int) := by omega
        clear hn hl h0 hc0 h19
        go_enter Tryd.func73, Tryd.ntmps73
        go_wp2_with fail
        refine bodyPost_ret (results_tmp2 rfl _ _ _) rfl ?_
        refine ⟨?_, Below.refl _ _⟩
        rw [HS.out]
        rfl
    · have h19 : s.size ≤ 19 := by omega
      have HNO : Hid (¬ (s.size = 0 ∨ 19 < s.size ∨ (1 < s.size ∧ s.data.toList.head? = some 48))) := by
        rintro (h | h)
        · exact h0 h
        · exact hn h
      have hz : 1 < s.size → c0.toNat ≠ 48 := by
        intro h1 h
        apply hn
        refine .inr ⟨h1, ?_⟩
        rw [bhead hz0, ← hc0]
        congr 1
        apply UInt8.toNat_inj.1
        exact h
      have e3 : ¬ (19 : Int) < (s.size : Int) := by omega
      have HL0 : Hid (PcLoop s w (.int .i64 0) w) := ⟨rfl, 0, Nat.zero_le _, rfl, rfl⟩
      clear hn hc0 h0
      by_cases h1 : 1 < s.size
      all_goals
        first
        | (have e1 : (1 : Int) < (s.size : Int) := by omega
           have e2 : ((c0.toNat : Int) == 48) = false := by rw [beq_eq_false_iff_ne]; have := hz h1; omega)
        | (have e1 : ¬ (1 : Int) < (s.size : Int) := by omega
           have e2 : c0.toNat < 256 := c0.toNat_lt)
        clear hz h1
        go_enter Tryd.func73, Tryd.ntmps73
        go_upto_region 4 with fail
        clear e1 e2 e3 hcc hne2 hne3
        go_loopw [4, 26] (fun _ i wr => PcLoop s w i wr) (fun _ i _ => s.size - (intOf i).toNat)
        case atStart => exact HL0.out
        case round =>
          clear HL0
          unfold PcLoop at hrel
          obtain ⟨rfl, j, hj, rfl, hall⟩ := hrel
          have HALL := hide hall
          clear hall
          have j0 : (0 : Int) ≤ (j : Int) := by omega
          by_cases hlt : j < s.size
          · obtain ⟨c, hc⟩ : ∃ c, c = s[j] := ⟨_, rfl⟩
            have hcc := hc.symm
            have HC := hide hc
            have c256 : c.toNat < 256 := c.toNat_lt
            have js : (j : Int) < (s.size : Int) := by omega
            by_cases hd : 48 ≤ c.toNat ∧ c.toNat ≤ 57
            · have d1 : ¬ (c.toNat : Int) < 48 := by omega
              have d2 : ¬ 57 < (c.toNat : Int) := by omega
              have hD : isD c = true := decide_eq_true hd
              have HALL2 : Hid ((s.data.toList.take (j + 1)).all isD = true) := by
                show _ = _
                rw [take_snoc hlt, List.all_append, HALL.out, ← HC.out, List.all_cons, hD]
                rfl
              have HL4 : Hid (PcLoop s w (.int .i64 ((j : Int) + 1)) w) := ⟨rfl, j + 1, by omega, by go_num, HALL2.out⟩
              clear hc hd
              go_wp2_with fail
              go_roundw
              case rel => first | exact HL4.out | exact ⟨_, _, HL4.out, rfl, rfl⟩
              case measure => simp [intOf]; omega
            · have hD : isD c = false := decide_eq_false hd
              have HS := hide (ctV_none (cnt_digit hlt (by rw [← HC.out]; exact hD)))
              have g1 : (48 : Int) ≤ (c.toNat : Int) → 57 < (c.toNat : Int) := by omega
              clear hc hd
              by_cases hlo : (c.toNat : Int) < 48
              all_goals
                go_wp2_with fail
                all_goals try (exfalso; omega)
                all_goals refine bodyPost_ret (results_tmp2 rfl _ _ _) rfl ?_
                all_goals refine ⟨?_, Below.refl _ _⟩
                all_goals rw [HS.out]
                all_goals rfl
          · have js : ¬ (j : Int) < (s.size : Int) := by omega
            have ht : s.data.toList.take j = s.data.toList := List.take_of_length_le (by rw [str_len]; omega)
            have hA := HALL.out
            rw [ht] at hA
            obtain ⟨V, hV⟩ : ∃ V, V = valD 0 s.data.toList := ⟨_, rfl⟩
            have hpar : Lib.parseUintB 64 s.data.toList = .ok V := by
              rw [hV]
              exact parse_cnt (fun e => by have := bempty.1 e; omega) (by rw [str_len]; exact h19) hA
            have hV64 : V ≤ 18446744073709551615 := Lib.parseUintB_le hpar
            have HP : Hid (Calls Tryd.prog 82 #[.string s, .int .i64 10, .int .i64 64] w fun e w' => e = .returned (.tuple #[.int .u64 (V : Int), .nilIface]) ∧ Below w.heap.size w w') := by
              refine (Any.strconv_ParseUint_10_at64_ok lap14 s (by omega) V hpar w).mono ?_
              rintro e w' ⟨he, hw | hw⟩
              · exact ⟨he, by rw [hw]; exact Below.refl _ _⟩
              · exact ⟨he, by rw [hw]; exact Lib.bytesWorld_below _ _ _⟩
            by_cases hov : V ≤ 4611686018427387904
            · have HS := hide (ctV_some (cnt_yes HNO.out hA (by rw [← hV]; exact hov)))
              have o1 : ¬ (4611686018427387904 : Int) < (V : Int) := by omega
              have HV := hide hV
              clear hlt hA ht hpar hV
              go_wp2_with (go_at_call 82; refine HP.out.mono ?_; rintro e w2 ⟨rfl, hb2⟩; have HB2 := hide hb2; clear hb2)
              refine bodyPost_ret (results_tmp2 rfl _ _ _) rfl ?_
              refine ⟨?_, HB2.out⟩
              rw [HS.out, ← HV.out]
              rfl
            · have HS := hide (ctV_none (cnt_over (s := s) s.size (by rw [List.take_of_length_le (by rw [str_len]; omega), ← hV]; omega)))
              have o1 : (4611686018427387904 : Int) < (V : Int) := by omega
              clear hlt hA ht hpar hV
              go_wp2_with (go_at_call 82; refine HP.out.mono ?_; rintro e w2 ⟨rfl, hb2⟩; have HB2 := hide hb2; clear hb2)
              refine bodyPost_ret (results_tmp2 rfl _ _ _) rfl ?_
              refine ⟨?_, HB2.out⟩
              rw [HS.out]
              rfl
end Go.Proofs.YtcibcmfaebbhnaaDoor
