/-
  The reference's over: is a line passed over? The reference's first: the line that says which form this is.
-/
import Derived.Test.YtcibcmfaebbhnaaDoorZLns
import Derived.Test.YtcibcmfaebbhnaaDoorZBln
import Derived.Test.YtcibcmfaebbhnaaDoorZWpa
set_option linter.unusedVariables false
set_option linter.unusedSimpArgs false
namespace Go.Proofs.YtcibcmfaebbhnaaDoor
open Go.RowKit Go.WideShapes Go.ChangeShapes Q

/-- A line is passed over: its first byte that is no blank is a sharp, or it has none. -/
def overB : List UInt8 → Bool
  | [] => true
  | c :: r => if blk c = true then overB r else c.toNat == 35
/-- What the loop keeps. -/
def OvLoop (s : ByteArray) (i : Value) : Prop := ∃ j : Nat, j ≤ s.size ∧ i = .int .i64 j ∧ overB s.data.toList = overB (s.data.toList.drop j)
set_option maxRecDepth 100000 in
set_option maxHeartbeats 3000000 in
theorem over_ref (s : ByteArray) (w : World) (hs : s.size ≤ 1000000000000) :
    Calls Tryd.prog 39 #[.string s] w fun e w' => e = .returned (.bool (overB s.data.toList)) ∧ w' = w := by
  have HBK : Hid (∀ c W, Calls Tryd.prog 52 #[.int .u8 (c.toNat : Int)] W fun e w' => e = .returned (.bool (blk c)) ∧ W = w') := fun c W => rblank_any c W
  have HL0 : Hid (OvLoop s (.int .i64 0)) := ⟨0, Nat.zero_le _, rfl, rfl⟩
  go_enter Tryd.func39, Tryd.ntmps39
  go_upto_region 2 with fail
  go_loopw [3] (fun i wr => OvLoop s i ∧ wr = w) (fun i _ => s.size - (intOf i).toNat)
  case atStart => exact ⟨HL0.out, rfl⟩
  case round =>
    clear HL0
    obtain ⟨hl, rfl⟩ := hrel
    unfold OvLoop at hl
    obtain ⟨j, hj, rfl, he⟩ := hl
    have HE := hide he
    clear he
    have j0 : (0 : Int) ≤ (j : Int) := by omega
    by_cases hlt : j < s.size
    · have js : (j : Int) < (s.size : Int) := by omega
      obtain ⟨q, hq⟩ : ∃ q, q = s[j] := ⟨_, rfl⟩
      have hqc := hq.symm
      have HD : Hid (overB s.data.toList = if blk q = true then overB (s.data.toList.drop (j + 1)) else q.toNat == 35) := by
        show _ = _
        rw [HE.out, bdrop hlt, hq]
        rfl
      have q256 : q.toNat < 256 := q.toNat_lt
      clear hq
      cases hb : blk q with
      | true =>
        have HL5 : Hid (OvLoop s (.int .i64 ((j : Int) + 1))) := ⟨j + 1, hlt, by go_num, by rw [HD.out, hb]; rfl⟩
        have HC := hide (HBK.out q)
        rw [hb] at HC
        clear hb
        go_wp2_with (go_at_call 52; refine (HC.out _).mono ?_; rintro e w2 ⟨rfl, rfl⟩)
        go_roundw
        case rel => first | exact HL5.out | exact ⟨HL5.out, rfl⟩ | exact ⟨HL5.out, trivial⟩ | (trace_state; exact ⟨_, HL5.out, rfl⟩)
        case measure => simp [intOf]; omega
      | false =>
        have HR : Hid (overB s.data.toList = (q.toNat == 35)) := by
          show _ = _
          rw [HD.out, hb]
          rfl
        have HC := hide (HBK.out q)
        rw [hb] at HC
        clear hb
        by_cases h35 : q.toNat = 35
        · have e1 : ((q.toNat : Int) == 35) = true := by rw [beq_iff_eq]; omega
          have HR2 : Hid (overB s.data.toList = true) := by show _ = _; rw [HR.out, h35]; rfl
          clear h35
          go_wp2_with (go_at_call 52; refine (HC.out _).mono ?_; rintro e w2 ⟨rfl, rfl⟩)
          go_ret
          exact ⟨by rw [HR2.out]; rfl, rfl⟩
        · have e1 : ((q.toNat : Int) == 35) = false := by rw [beq_eq_false_iff_ne]; omega
          have HR2 : Hid (overB s.data.toList = false) := by show _ = _; rw [HR.out]; simpa using h35
          clear h35
          go_wp2_with (go_at_call 52; refine (HC.out _).mono ?_; rintro e w2 ⟨rfl, rfl⟩)
          go_ret
          exact ⟨by rw [HR2.out]; rfl, rfl⟩
    · have js : ¬ (j : Int) < (s.size : Int) := by omega
      have HR : Hid (overB s.data.toList = true) := by
        show _ = _
        rw [HE.out, List.drop_eq_nil_of_le (by rw [str_len]; omega)]
        rfl
      clear hlt
      go_wp2_with fail
      go_ret
      exact ⟨by rw [HR.out]; rfl, rfl⟩
end Go.Proofs.YtcibcmfaebbhnaaDoor
set_option linter.unusedVariables false
set_option linter.unusedSimpArgs false
namespace Go.Proofs.YtcibcmfaebbhnaaDoor
open Go.RowKit Go.WideShapes Go.ChangeShapes Q

/-- Two plain words: quorate and 1. -/
def firB : List Wd → Bool
  | [a, b] => !a.2 && !b.2 && (a.1 == [113, 117, 111, 114, 97, 116, 101]) && (b.1 == [49])
  | _ => false
def firstB (l : List UInt8) : Bool := match wordsG true l with
  | some ws => firB ws
  | none => false
theorem firB_len {ws : List Wd} (h : ¬ ws.length = 2) : firB ws = false := by
  match ws, h with
  | [], _ => rfl
  | [_], _ => rfl
  | [_, _], h => exact absurd rfl h
  | _ :: _ :: _ :: _, _ => rfl
set_option maxRecDepth 100000 in
set_option maxHeartbeats 3000000 in
theorem first_ref (s : ByteArray) (w : World) (hs : s.size ≤ 30000000) :
    Calls Tryd.prog 40 #[.string s] w fun e w' => e = .returned (.bool (firstB s.data.toList)) ∧ Below w.heap.size w w' := by
  have HWD : Hid (∀ W, Calls Tryd.prog 30 #[.string s] W fun e w' => WdsP 106 rwc (wordsG true s.data.toList) W e w') := fun W => words_ref s W (by omega)
  go_enter Tryd.func40, Tryd.ntmps40
  go_upto_region 2 with (go_at_call 30; refine (HWD.out _).mono ?_; rintro e w2 ⟨A, c, ws, ok, rfl, hrow, hb2, h1, h2⟩; have HO := hide hrow; have HB2 := hide hb2; have H1 := hide h1; have H2 := hide h2; clear hrow hb2 h1 h2)
  cases ok with
  | false =>
    have HR : Hid (firstB s.data.toList = false) := by
      show _ = _
      unfold firstB
      rw [H2.out rfl]
    go_wp2_with fail
    go_ret
    exact ⟨by rw [HR.out]; rfl, HB2.out⟩
  | true =>
    have HR : Hid (firstB s.data.toList = firB ws) := by
      show _ = _
      unfold firstB
      rw [H1.out rfl]
    by_cases hl : ws.length = 2
    · match ws, hl with
      | [a, b], _ =>
        obtain ⟨g, cap, hv, _, hlt⟩ := HO.out.form (by simp)
        injection hv with e1 e2 e3
        subst e1 e3
        have hrw := RWd.of_own HO.out hlt
        obtain ⟨c0, c1⟩ := hrw.at_ 0 a rfl
        obtain ⟨c2, c3⟩ := hrw.at_ 1 b rfl
        simp only [Nat.zero_mul, Nat.one_mul, Nat.zero_add, Nat.reduceAdd, Nat.reduceMul] at c0 c1 c2 c3
        obtain ⟨at_, aq⟩ := a
        obtain ⟨bt, bq⟩ := b
        simp only at c0 c1 c2 c3
        clear hrw hlt
        cases aq with
        | true =>
          have HR2 : Hid (firstB s.data.toList = false) := by show _ = _; rw [HR.out]; rfl
          go_wp2_with fail
          go_ret
          exact ⟨by rw [HR2.out]; rfl, HB2.out⟩
        | false =>
          cases bq with
          | true =>
            have HR2 : Hid (firstB s.data.toList = false) := by show _ = _; rw [HR.out]; rfl
            go_wp2_with fail
            go_ret
            exact ⟨by rw [HR2.out]; rfl, HB2.out⟩
          | false =>
            by_cases ha : at_ = [113, 117, 111, 114, 97, 116, 101]
            · subst ha
              have g1 : (S [113, 117, 111, 114, 97, 116, 101]).toList = [113, 117, 111, 114, 97, 116, 101] := by rw [ByteArray.toList_eq, S_data]
              have g2 : ((S [113, 117, 111, 114, 97, 116, 101]).toList == [113, 117, 111, 114, 97, 116, 101]) = true := by rw [g1]; rfl
              by_cases hb : bt = [49]
              · subst hb
                have HR2 : Hid (firstB s.data.toList = true) := by show _ = _; rw [HR.out]; rfl
                have f1 : ((S [49]).toList == [49]) = true := by rw [ByteArray.toList_eq, S_data]; rfl
                go_wp2_with fail
                go_ret
                exact ⟨by rw [HR2.out]; rfl, HB2.out⟩
              · have HR2 : Hid (firstB s.data.toList = false) := by show _ = _; rw [HR.out]; simp [firB, hb]
                have f2 : ¬ (S bt).toList = [49] := by rw [ByteArray.toList_eq, S_data]; exact hb
                have f3 : ((S bt).toList == [49]) = false := by simpa using f2
                clear hb
                go_wp2_with fail
                go_ret
                exact ⟨by rw [HR2.out]; rfl, HB2.out⟩
            · have HR2 : Hid (firstB s.data.toList = false) := by show _ = _; rw [HR.out]; simp [firB, ha]
              have f2 : ¬ (S at_).toList = [113, 117, 111, 114, 97, 116, 101] := by rw [ByteArray.toList_eq, S_data]; exact ha
              have f3 : ((S at_).toList == [113, 117, 111, 114, 97, 116, 101]) = false := by simpa using f2
              clear ha
              go_wp2_with fail
              go_ret
              exact ⟨by rw [HR2.out]; rfl, HB2.out⟩
    · have HR2 : Hid (firstB s.data.toList = false) := by show _ = _; rw [HR.out]; exact firB_len hl
      have e1 : ((ws.length : Int) == 2) = false := by rw [beq_eq_false_iff_ne]; omega
      go_wp2_with fail
      go_ret
      exact ⟨by rw [HR2.out]; rfl, HB2.out⟩
end Go.Proofs.YtcibcmfaebbhnaaDoor
