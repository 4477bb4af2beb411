/-
  The reference's loose and text. The reference's Cut: the pieces of a text between bytes, strings left whole. The reference's several: numbers between bytes.
-/
import Derived.Test.YtenebkkfjalcaaaDoorZRct
import Derived.Test.YtenebkkfjalcaaaDoorZRq
import Derived.Test.YtenebkkfjalcaaaDoorZOnly
set_option linter.unusedVariables false
set_option linter.unusedSimpArgs false
namespace Go.Proofs.YtenebkkfjalcaaaDoor
open Go.RowKit Go.WideShapes Go.ChangeShapes Q

def looseZ (l : List UInt8) : Int := if l.head? = some 45 then -(cntZ (l.drop 1)) else cntZ l
theorem cntZ_bd (l : List UInt8) : -1 ≤ cntZ l ∧ cntZ l ≤ 4611686018427387904 := by
  unfold cntZ
  cases h : cnt l with
  | none => simp
  | some n => have := cnt_le h; simp only; omega
theorem sub_list (s : ByteArray) (a b : Nat) : (s.extract a b).data.toList = (s.data.toList.take b).drop a := by
  rw [ByteArray.data_extract, Array.toList_extract, List.drop_take]
set_option maxRecDepth 100000 in
set_option maxHeartbeats 4000000 in
theorem loose_any (s : ByteArray) (w : World) (hs : s.size ≤ 1000000000000) :
    Calls Tryd.prog 49 #[.string s] w fun e w' => e = .returned (.int .i64 (looseZ s.data.toList)) ∧ w = w' := by
  by_cases h0 : s.size = 0
  · have HS : Hid (looseZ s.data.toList = cntZ s.data.toList) := by
      show _ = _
      unfold looseZ
      rw [bempty.2 h0]
      rfl
    have HC := hide (count_ref s w hs)
    have e0 : ¬ (0 : Int) < (s.size : Int) := by omega
    go_enter Tryd.func49, Tryd.ntmps49
    go_wp2_with (go_at_call 64; refine HC.out.mono ?_; rintro e w2 ⟨rfl, rfl⟩)
    go_ret
    refine ⟨?_, rfl⟩
    rw [HS.out]
    rfl
  · have hz0 : 0 < s.size := by omega
    obtain ⟨c0, hc0⟩ : ∃ c0, c0 = s[0]'hz0 := ⟨_, rfl⟩
    have hcc := hc0.symm
    have e0 : (0 : Int) < (s.size : Int) := by omega
    by_cases hc : c0.toNat = 45
    · have hh : s.data.toList.head? = some 45 := by
        rw [bhead hz0, ← hc0]
        congr 1
        apply UInt8.toNat_inj.1
        exact hc
      have e2 : ((c0.toNat : Int) == 45) = true := by rw [beq_iff_eq]; omega
      have HS : Hid (looseZ s.data.toList = -(cntZ (s.data.toList.drop 1))) := by
        show _ = _
        unfold looseZ
        rw [if_pos hh]
      obtain ⟨Z, hZ⟩ : ∃ Z, Z = cntZ (s.data.toList.drop 1) := ⟨_, rfl⟩
      rw [← hZ] at HS
      have hb1 : -1 ≤ Z := by rw [hZ]; exact (cntZ_bd _).1
      have hb2 : Z ≤ 4611686018427387904 := by rw [hZ]; exact (cntZ_bd _).2
      have HC : Hid (∀ W, Calls Tryd.prog 64 #[.string (s.extract 1 s.size)] W fun e w' => e = .returned (.int .i64 Z) ∧ W = w') := fun W => by
        have := count_ref (s.extract 1 s.size) W (by rw [ByteArray.size_extract]; omega)
        rw [sub_list, List.take_of_length_le (by rw [str_len]; omega), ← hZ] at this
        exact this
      clear hc hh hZ hc0
      go_enter Tryd.func49, Tryd.ntmps49
      go_wp2_with (go_at_call 64; refine (HC.out _).mono ?_; rintro e w2 ⟨rfl, rfl⟩)
      go_ret
      refine ⟨?_, rfl⟩
      rw [HS.out]
      rfl
    · have hh : ¬ s.data.toList.head? = some 45 := by
        rw [bhead hz0, ← hc0]
        intro e
        apply hc
        rw [Option.some.inj e]
        rfl
      have e2 : ((c0.toNat : Int) == 45) = false := by rw [beq_eq_false_iff_ne]; omega
      have HS : Hid (looseZ s.data.toList = cntZ s.data.toList) := by
        show _ = _
        unfold looseZ
        rw [if_neg hh]
      have HC := hide (count_ref s w hs)
      clear hc hh hc0
      go_enter Tryd.func49, Tryd.ntmps49
      go_wp2_with (go_at_call 64; refine HC.out.mono ?_; rintro e w2 ⟨rfl, rfl⟩)
      go_ret
      refine ⟨?_, rfl⟩
      rw [HS.out]
      rfl
/-- A string as well as it can be read. -/
def textL (l : List UInt8) : List UInt8 := if l.head? = some 34 then (match unq (l.drop 1) with | some (b, _) => b | none => []) else [63]
set_option maxRecDepth 100000 in
set_option maxHeartbeats 4000000 in
theorem text_any (s : ByteArray) (w : World) (hs : s.size ≤ 1000000000000) :
    Calls Tryd.prog 77 #[.string s] w fun e w' => e = .returned (.string (S (textL s.data.toList))) ∧ Below w.heap.size w w' := by
  by_cases h0 : s.size = 0
  · have HS : Hid (textL s.data.toList = [63]) := by
      show _ = _
      unfold textL
      rw [bempty.2 h0]
      rfl
    obtain rfl : s = ⟨#[]⟩ := by
      apply ByteArray.ext
      apply Array.toList_inj.1
      exact bempty.2 h0
    clear h0
    go_enter Tryd.func77, Tryd.ntmps77
    go_wp2_with fail
    go_ret
    refine ⟨?_, Below.refl _ _⟩
    rw [HS.out]
    rfl
  · have hz0 : 0 < s.size := by omega
    have hne : (s.toList == ([] : List UInt8)) = false := by
      rw [beq_eq_false_iff_ne]
      intro e
      apply h0
      have : s.toList.length = s.size := by simp [ByteArray.toList_eq]
      rw [e] at this
      exact this.symm
    have hne2 : ¬ s.toList = [] := by rw [beq_eq_false_iff_ne] at hne; exact hne
    obtain ⟨c0, hc0⟩ : ∃ c0, c0 = s[0]'hz0 := ⟨_, rfl⟩
    have hcc := hc0.symm
    have e0 : (0 : Int) < (s.size : Int) := by omega
    by_cases hc : c0.toNat = 34
    · have hh : s.data.toList.head? = some 34 := by
        rw [bhead hz0, ← hc0]
        congr 1
        apply UInt8.toNat_inj.1
        exact hc
      have e2 : ((c0.toNat : Int) == 34) = true := by rw [beq_iff_eq]; omega
      have hq := quoted_any s 0 w hs hz0
      unfold rqV at hq
      have ht : textL s.data.toList = match unq (s.data.toList.drop 1) with | some (b, _) => b | none => [] := by
        unfold textL
        rw [if_pos hh]
      cases hu : unq (s.data.toList.drop 1) with
      | none =>
        rw [Nat.zero_add, hu] at hq
        rw [hu] at ht
        have HQ : Hid (Calls Tryd.prog 63 #[.string s, .int .i64 0] w fun e w' => e = .returned (.tuple #[.string (S []), .int .i64 (-1)]) ∧ Below w.heap.size w w') := hq
        have HS : Hid (textL s.data.toList = []) := ht
        clear hc hh hc0 hu hq ht h0
        go_enter Tryd.func77, Tryd.ntmps77
        go_wp2_with (go_at_call 63; refine HQ.out.mono ?_; rintro e w2 ⟨rfl, hb2⟩; have HB2 := hide hb2; clear hb2)
        go_ret
        refine ⟨?_, HB2.out⟩
        rw [HS.out]
        rfl
      | some p =>
        obtain ⟨b, r⟩ := p
        rw [Nat.zero_add, hu] at hq
        rw [hu] at ht
        obtain ⟨E, hE⟩ : ∃ E : Nat, E = s.data.toList.length - r.length := ⟨_, rfl⟩
        have HQ : Hid (Calls Tryd.prog 63 #[.string s, .int .i64 0] w fun e w' => e = .returned (.tuple #[.string (S b), .int .i64 (E : Int)]) ∧ Below w.heap.size w w') := by rw [hE]; exact hq
        have HS : Hid (textL s.data.toList = b) := ht
        clear hc hh hc0 hu hq ht h0 hE
        go_enter Tryd.func77, Tryd.ntmps77
        go_wp2_with (go_at_call 63; refine HQ.out.mono ?_; rintro e w2 ⟨rfl, hb2⟩; have HB2 := hide hb2; clear hb2)
        go_ret
        refine ⟨?_, HB2.out⟩
        rw [HS.out]
        rfl
    · have hh : ¬ s.data.toList.head? = some 34 := by
        rw [bhead hz0, ← hc0]
        intro e
        apply hc
        rw [Option.some.inj e]
        rfl
      have e2 : ((c0.toNat : Int) == 34) = false := by rw [beq_eq_false_iff_ne]; omega
      have HS : Hid (textL s.data.toList = [63]) := by
        show _ = _
        unfold textL
        rw [if_neg hh]
      clear hc hh hc0 h0
      go_enter Tryd.func77, Tryd.ntmps77
      go_wp2_with fail
      go_ret
      refine ⟨?_, Below.refl _ _⟩
      rw [HS.out]
      rfl
end Go.Proofs.YtenebkkfjalcaaaDoor
set_option linter.unusedVariables false
set_option linter.unusedSimpArgs false
namespace Go.Proofs.YtenebkkfjalcaaaDoor
open Go.RowKit Go.WideShapes Go.ChangeShapes Q

theorem qhex_suf {l : List UInt8} {b : UInt8} {r : List UInt8} (h : qhex l = .byte b r) : ∃ p, l = p ++ r := by
  match l, h with
  | [], h => cases h
  | [_], h => cases h
  | x :: y :: r', h =>
    rw [qhex] at h
    cases hx : nib x with
    | none => simp [hx] at h
    | some a =>
      cases hy : nib y with
      | none => simp [hx, hy] at h
      | some b' =>
        simp only [hx, hy] at h
        injection h with h1 h2
        subst h2
        exact ⟨[x, y], rfl⟩
theorem qesc_suf {l : List UInt8} {b : UInt8} {r : List UInt8} (h : qesc l = .byte b r) : ∃ p, l = p ++ r := by
  match l, h with
  | [], h => cases h
  | d :: r', h =>
    rw [qesc] at h
    split at h
    · injection h with h1 h2
      subst h2
      exact ⟨[d], rfl⟩
    · split at h
      · obtain ⟨p, e⟩ := qhex_suf h
        exact ⟨d :: p, by rw [e]; rfl⟩
      · cases h
theorem qstep_suf {l r : List UInt8} (h : qstep l = .stop r ∨ ∃ b, qstep l = .byte b r) : ∃ p, l = p ++ r := by
  match l, h with
  | [], h =>
    rcases h with h | ⟨b, h⟩
    · cases h
    · cases h
  | c :: r', h =>
    rw [qstep] at h
    by_cases h1 : c.toNat = 34
    · rw [if_pos h1] at h
      rcases h with h | ⟨b, h⟩
      · injection h with h
        subst h
        exact ⟨[c], rfl⟩
      · cases h
    · rw [if_neg h1] at h
      by_cases h2 : c.toNat < 32 ∨ 126 < c.toNat
      · rw [if_pos h2] at h
        rcases h with h | ⟨b, h⟩
        · cases h
        · cases h
      · rw [if_neg h2] at h
        by_cases h3 : c.toNat ≠ 92
        · rw [if_pos h3] at h
          rcases h with h | ⟨b, h⟩
          · cases h
          · injection h with h4 h5
            subst h5
            exact ⟨[c], rfl⟩
        · rw [if_neg h3] at h
          rcases h with h | ⟨b, h⟩
          · exact (qesc_stop h).elim
          · obtain ⟨p, e⟩ := qesc_suf h
            exact ⟨c :: p, by rw [e]; rfl⟩
theorem unq_suf : ∀ (n : Nat) (l : List UInt8), l.length ≤ n → ∀ b r, unq l = some (b, r) → ∃ p, l = p ++ r
  | 0, l, hl, b, r, h => by
    have : l = [] := List.length_eq_zero_iff.1 (by omega)
    subst this
    rw [unq_bad (by rfl)] at h
    cases h
  | n + 1, l, hl, b, r, h => by
    cases hq : qstep l with
    | stop r1 =>
      rw [unq_stop hq] at h
      injection h with h
      injection h with h1 h2
      subst h2
      exact qstep_suf (.inl hq)
    | byte b1 r1 =>
      rw [unq_byte hq] at h
      obtain ⟨p, hp, he⟩ := Option.map_eq_some_iff.1 h
      injection he with h1 h2
      have hlt := qstep_byte hq
      obtain ⟨p1, e1⟩ := unq_suf n r1 (by omega) p.1 p.2 hp
      obtain ⟨p2, e2⟩ := qstep_suf (.inr ⟨b1, hq⟩)
      rw [← h2]
      exact ⟨p2 ++ p1, by rw [e2, e1, List.append_assoc]⟩
    | bad =>
      rw [unq_bad hq] at h
      cases h
theorem unq_drop {l b r : List UInt8} (h : unq l = some (b, r)) : r = l.drop (l.length - r.length) ∧ r.length < l.length := by
  obtain ⟨p, e⟩ := unq_suf _ l (Nat.le_refl _) b r h
  refine ⟨?_, unq_lt _ l (Nat.le_refl _) b r h⟩
  conv => lhs; rw [show r = (p ++ r).drop p.length by simp]
  rw [e]
  congr 1
  simp
/-- The pieces: cur is the piece so far, the second list what is left. -/
def cutL (c : UInt8) (cur : List UInt8) (l : List UInt8) : Option (List (List UInt8)) :=
  match l with
  | [] => some [cur]
  | q :: r =>
    if q.toNat = 34 then
      match hu : unq r with
      | none => none
      | some (b, r') => cutL c (cur ++ (q :: r).take ((q :: r).length - r'.length)) r'
    else if q = c then (cutL c [] r).map fun ps => cur :: ps
    else cutL c (cur ++ [q]) r
termination_by l.length
decreasing_by
  · have := unq_lt _ r (Nat.le_refl _) _ _ hu
    simp
    omega
  · simp
  · simp
theorem cut_nil (c : UInt8) (cur : List UInt8) : cutL c cur [] = some [cur] := by rw [cutL]
theorem cut_none {c q : UInt8} {cur r : List UInt8} (h : q.toNat = 34) (hu : unq r = none) : cutL c cur (q :: r) = none := by
  rw [cutL, if_pos h]
  split
  · rfl
  · rename_i h2; rw [hu] at h2; cases h2
theorem cut_str {c q : UInt8} {cur r b r' : List UInt8} (h : q.toNat = 34) (hu : unq r = some (b, r')) : cutL c cur (q :: r) = cutL c (cur ++ (q :: r).take ((q :: r).length - r'.length)) r' := by
  rw [cutL, if_pos h]
  split
  · rename_i h2; rw [hu] at h2; cases h2
  · rename_i b2 r2 h2
    rw [hu] at h2
    injection h2 with h2
    injection h2 with h3 h4
    subst h4
    rfl
theorem cut_sep {c q : UInt8} {cur r : List UInt8} (h : ¬ q.toNat = 34) (hc : q = c) : cutL c cur (q :: r) = (cutL c [] r).map fun ps => cur :: ps := by
  rw [cutL, if_neg h, if_pos hc]
theorem cut_byte {c q : UInt8} {cur r : List UInt8} (h : ¬ q.toNat = 34) (hc : ¬ q = c) : cutL c cur (q :: r) = cutL c (cur ++ [q]) r := by
  rw [cutL, if_neg h, if_neg hc]
/-- What comes out. -/
def CutP (l : List UInt8) (c : UInt8) (w : World) (e : Ending) (w' : World) : Prop :=
  Below w.heap.size w w' ∧ ((∃ ps A cap, cutL c [] l = some ps ∧ e = .returned (.tuple #[.slice A ps.length cap, .bool true]) ∧ w'.ownsRow w.heap.size 9 1 (.slice A ps.length cap) ps.length (strs ps) ∧ ps.length ≤ l.length + 1) ∨
    (cutL c [] l = none ∧ e = .returned (.tuple #[.slice none 0 0, .bool false])))
def piece (s : ByteArray) (a b : Nat) : List UInt8 := (s.data.toList.take b).drop a
theorem ext_piece (s : ByteArray) (a b : Nat) : s.extract a b = S (piece s a b) := by rw [piece, ← sub_list, S_self]
theorem piece_snoc {s : ByteArray} {a j : Nat} (ha : a ≤ j) (h : j < s.size) : piece s a (j + 1) = piece s a j ++ [s[j]] := by
  unfold piece
  rw [take_snoc h, List.drop_append_of_le_length (by rw [List.length_take, str_len]; omega)]
theorem piece_more {s : ByteArray} {a j e : Nat} (ha : a ≤ j) (hj : j ≤ e) (h : e ≤ s.size) : piece s a e = piece s a j ++ (s.data.toList.drop j).take (e - j) := by
  unfold piece
  have h1 : s.data.toList.take e = s.data.toList.take j ++ (s.data.toList.drop j).take (e - j) := by
    rw [← List.take_append_drop j (s.data.toList.take e), List.take_take, Nat.min_eq_left hj, List.drop_take]
  rw [h1, List.drop_append_of_le_length (by rw [List.length_take, str_len]; omega)]
theorem piece_nil (s : ByteArray) (j : Nat) : piece s j j = [] := by
  unfold piece
  apply List.drop_eq_nil_of_le
  rw [List.length_take]
  omega
/-- What the loop keeps. -/
def KLoop (s : ByteArray) (c : UInt8) (W : World) (v a i : Value) (wr : World) : Prop := ∃ (ps : List (List UInt8)) (at_ j : Nat), at_ ≤ j ∧ j ≤ s.size ∧ i = .int .i64 j ∧ a = .int .i64 at_ ∧ ps.length ≤ j ∧
  (cutL c [] s.data.toList = (cutL c (piece s at_ j) (s.data.toList.drop j)).map fun qs => ps ++ qs) ∧ wr.ownsRow W.heap.size 9 1 v ps.length (strs ps) ∧ Below W.heap.size W wr

set_option maxRecDepth 100000 in
set_option maxHeartbeats 8000000 in
theorem cut_any (s : ByteArray) (c : UInt8) (w : World) (hs : s.size ≤ 1000000000000) :
    Calls Tryd.prog 48 #[.string s, .int .u8 (c.toNat : Int)] w fun e w' => CutP s.data.toList c w e w' := by
  obtain ⟨i9, hi9, hz9, hs9, hb9⟩ := info_parts info9
  have I9 := hide hi9
  clear hi9
  have HL0 : Hid (KLoop s c w (.slice none 0 0) (.int .i64 0) (.int .i64 0) w) := ⟨[], 0, 0, Nat.le_refl _, Nat.zero_le _, rfl, rfl, by simp, by rw [piece_nil]; simp, World.ownsRow_nil _ _ _ _, Below.refl _ _⟩
  go_enter Tryd.func48, Tryd.ntmps48
  go_upto_region 4 with fail
  go_loopw [6, 7, 8, 9, 10] (fun v a i _ _ wr => KLoop s c w v a i wr) (fun _ _ i _ _ _ => s.size - (intOf i).toNat)
  case atStart => exact HL0.out
  case round =>
    clear HL0
    unfold KLoop at hrel
    obtain ⟨ps, at_, j, haj, hj, rfl, rfl, hpl, hcut, hown, hb⟩ := hrel
    have HC := hide hcut
    have HO := hide hown
    have HB := hide hb
    have hsw : w.heap.size ≤ wr.heap.size := HB.out.size
    obtain ⟨A7, c7, rfl, _, _⟩ := own_slice hown
    clear hcut hown hb
    have j0 : (0 : Int) ≤ (j : Int) := by omega
    have a0 : (0 : Int) ≤ (at_ : Int) := by omega
    have aj : (at_ : Int) ≤ (j : Int) := by omega
    have jz : (j : Int) ≤ (s.size : Int) := by omega
    by_cases hlt : j < s.size
    · obtain ⟨q, hq⟩ : ∃ q, q = s[j] := ⟨_, rfl⟩
      have hqc := hq.symm
      have HQ := hide hq
      have HD : Hid (s.data.toList.drop j = q :: s.data.toList.drop (j + 1)) := by rw [hq]; exact bdrop hlt
      have q256 : q.toNat < 256 := q.toNat_lt
      have js : (j : Int) < (s.size : Int) := by omega
      clear hq
      by_cases h34 : q.toNat = 34
      · have e1 : ((q.toNat : Int) == 34) = true := by rw [beq_iff_eq]; omega
        have hq2 := fun W => quoted_any s j W hs hlt
        unfold rqV at hq2
        cases hu : unq (s.data.toList.drop (j + 1)) with
        | none =>
          rw [hu] at hq2
          have HQ2 : Hid (∀ W, Calls Tryd.prog 63 #[.string s, .int .i64 j] W fun e w' => e = .returned (.tuple #[.string (S []), .int .i64 (-1)]) ∧ Below W.heap.size W w') := hq2
          have HN : Hid (cutL c [] s.data.toList = none) := by
            show _ = _
            rw [HC.out, HD.out, cut_none h34 hu]
            rfl
          clear hq2 hu h34
          go_wp2_with (go_at_call 63; refine (HQ2.out _).mono ?_; rintro e w2 ⟨rfl, hb2⟩; have HB2 := hide (HB.out.trans (hb2.mono hsw)); clear hb2)
          refine bodyPost_ret (results_tmp2 rfl _ _ _) rfl ?_
          exact ⟨HB2.out, .inr ⟨HN.out, rfl⟩⟩
        | some p =>
          obtain ⟨b, r⟩ := p
          rw [hu] at hq2
          obtain ⟨hr1, hr2⟩ := unq_drop hu
          rw [List.length_drop, str_len] at hr1 hr2
          obtain ⟨E, hE⟩ : ∃ E : Nat, E = s.size - r.length := ⟨_, rfl⟩
          have hEj : j < E := by omega
          have hEs : E ≤ s.size := by omega
          have hr3 : r = s.data.toList.drop E := by
            rw [hr1, List.drop_drop]
            congr 1
            omega
          have HQ2 : Hid (∀ W, Calls Tryd.prog 63 #[.string s, .int .i64 j] W fun e w' => e = .returned (.tuple #[.string (S b), .int .i64 (E : Int)]) ∧ Below W.heap.size W w') := fun W => by
            have := hq2 W
            rw [hE, ← str_len]
            exact this
          have HC2 : Hid (cutL c [] s.data.toList = (cutL c (piece s at_ E) (s.data.toList.drop E)).map fun qs => ps ++ qs) := by
            show _ = _
            rw [HC.out, HD.out, cut_str h34 hu, piece_more haj (Nat.le_of_lt hEj) hEs, HD.out, ← hr3]
            have e4 : (q :: s.data.toList.drop (j + 1)).length - r.length = E - j := by rw [List.length_cons, List.length_drop, str_len]; omega
            rw [e4]
          clear hq2 hu h34 hr1 hr2 hr3 hE
          have En : ¬ (E : Int) < 0 := by omega
          go_wp2_with (go_at_call 63; refine (HQ2.out _).mono ?_; rintro e w2 ⟨rfl, hb2⟩; have HL8 : Hid (KLoop s c w (.slice A7 ps.length c7) (.int .i64 (at_ : Int)) (.int .i64 (E : Int)) w2) := ⟨ps, at_, E, by omega, hEs, rfl, rfl, by omega, HC2.out, own_step HO.out hb2, HB.out.trans (hb2.mono hsw)⟩; clear hb2)
          go_roundw
          case rel => first | exact HL8.out | exact ⟨_, _, _, _, _, HL8.out, rfl, rfl, rfl, rfl, rfl⟩
          case measure => simp [intOf]; omega
      · have e1 : ((q.toNat : Int) == 34) = false := by rw [beq_eq_false_iff_ne]; omega
        by_cases hqe : q = c
        · have e2 : ((q.toNat : Int) == (c.toNat : Int)) = true := by rw [hqe]; simp
          obtain ⟨pc, hpc⟩ : ∃ pc, pc = piece s at_ j := ⟨_, rfl⟩
          have hpx : s.extract at_ j = S pc := by rw [hpc]; exact ext_piece s at_ j
          have HC2 : Hid (cutL c [] s.data.toList = (cutL c (piece s (j + 1) (j + 1)) (s.data.toList.drop (j + 1))).map fun qs => (ps ++ [pc]) ++ qs) := by
            show _ = _
            rw [HC.out, HD.out, cut_sep h34 hqe, piece_nil, Option.map_map, hpc]
            congr 1
            funext qs
            simp
          clear h34 hqe hpc
          go_wp2_with (at_builtin; refine wpList_push (W := wr) (cs := #[.string (S pc)]) rfl (.tmp 33) (.tmp 38) _ rfl w.heap.size 9 i9 _ 1 16 Tryd.underlying66 I9.out hz9 hs9 hb9 rfl (by omega) (.slice A7 ps.length c7) ps.length (strs ps) rfl HO.out 1 1 rfl rfl (by simp [Value.oneCell']) (by omega) (by unfold maxLen; omega) (by omega) hsw ?_; intro g8 c8 w8 hown8 _ hb8 _ _ _; have HL8 : Hid (KLoop s c w (.slice (some ⟨g8, 0, none⟩) (ps.length + 1) c8) (.int .i64 ((j : Int) + 1)) (.int .i64 ((j : Int) + 1)) w8) := ⟨ps ++ [pc], j + 1, j + 1, Nat.le_refl _, by omega, by go_num, by go_num, by rw [List.length_append, List.length_singleton]; omega, HC2.out, by rw [strs_append, List.length_append]; exact hown8, HB.out.trans hb8⟩; clear hown8 hb8)
          go_roundw
          case rel => first | exact HL8.out | exact ⟨_, _, _, _, _, HL8.out, rfl, rfl, rfl, rfl, rfl⟩
          case measure => simp [intOf]; omega
        · have e2 : ((q.toNat : Int) == (c.toNat : Int)) = false := by
            rw [beq_eq_false_iff_ne]
            intro h
            apply hqe
            apply UInt8.toNat_inj.1
            omega
          have HC2 : Hid (cutL c [] s.data.toList = (cutL c (piece s at_ (j + 1)) (s.data.toList.drop (j + 1))).map fun qs => ps ++ qs) := by
            show _ = _
            rw [HC.out, HD.out, cut_byte h34 hqe, piece_snoc haj hlt, HQ.out]
          have HL8 : Hid (KLoop s c w (.slice A7 ps.length c7) (.int .i64 (at_ : Int)) (.int .i64 ((j : Int) + 1)) wr) := ⟨ps, at_, j + 1, by omega, by omega, by go_num, rfl, by omega, HC2.out, HO.out, HB.out⟩
          clear h34 hqe
          go_wp2_with fail
          go_roundw
          case rel => first | exact HL8.out | exact ⟨_, _, _, _, _, HL8.out, rfl, rfl, rfl, rfl, rfl⟩
          case measure => simp [intOf]; omega
    · have js : ¬ (j : Int) < (s.size : Int) := by omega
      have hjs : j = s.size := by omega
      obtain ⟨pc, hpc⟩ : ∃ pc, pc = piece s at_ s.size := ⟨_, rfl⟩
      have hpx : s.extract at_ s.size = S pc := by rw [hpc]; exact ext_piece s at_ s.size
      have az : (at_ : Int) ≤ (s.size : Int) := by omega
      have HN : Hid (cutL c [] s.data.toList = some (ps ++ [pc])) := by
        show _ = _
        rw [HC.out, List.drop_eq_nil_of_le (by rw [str_len]; omega), cut_nil, hpc, hjs]
        rfl
      clear hlt hjs hpc
      go_wp2_with (at_builtin; refine wpList_push (W := wr) (cs := #[.string (S pc)]) rfl (.tmp 44) (.tmp 48) _ rfl w.heap.size 9 i9 _ 1 16 Tryd.underlying66 I9.out hz9 hs9 hb9 rfl (by omega) (.slice A7 ps.length c7) ps.length (strs ps) rfl HO.out 1 1 rfl rfl (by simp [Value.oneCell']) (by omega) (by unfold maxLen; omega) (by omega) hsw ?_; intro g8 c8 w8 hown8 _ hb8 _ _ _; have HO8 : Hid (w8.ownsRow w.heap.size 9 1 (.slice (some ⟨g8, 0, none⟩) (ps ++ [pc]).length c8) (ps ++ [pc]).length (strs (ps ++ [pc]))) := (by show World.ownsRow _ _ _ _ _ _ _; rw [strs_append, List.length_append]; exact hown8); have HB8 := hide (HB.out.trans hb8); clear hown8 hb8)
      refine bodyPost_ret (results_tmp2 rfl _ _ _) rfl ?_
      refine ⟨HB8.out, .inl ⟨_, _, _, HN.out, ?_, HO8.out, by rw [List.length_append, List.length_singleton, str_len]; omega⟩⟩
      rw [List.length_append]
      rfl
end Go.Proofs.YtenebkkfjalcaaaDoor
set_option linter.unusedVariables false
set_option linter.unusedSimpArgs false
namespace Go.Proofs.YtenebkkfjalcaaaDoor
open Go.RowKit Go.WideShapes Go.ChangeShapes Q

def sevL (c : UInt8) (l : List UInt8) : List Int := match cutL c [] l with
  | some ps => ps.map looseZ
  | none => []
/-- A row of texts: each at its place. -/
theorem row_text {w : World} {base n c : Nat} {A : Option Addr} {ps : List (List UInt8)} (h : w.ownsRow base 9 1 (.slice A n c) n (strs ps)) {k : Nat} (hk : k < n) :
    ∃ g p, A = some ⟨g, 0, none⟩ ∧ ps[k]? = some p ∧ w.cell? ⟨g, k, none⟩ = some (.string (S p)) := by
  have hl : ps.length = n := by have := h.1; simpa [strs] using this
  rcases h.2 with ⟨h0, h1⟩ | ⟨g, cap, cur, h0, _⟩
  · omega
  · injection h0 with e1 e2 e3
    have hp : ps[k]? = some (ps[k]'(by omega)) := List.getElem?_eq_getElem _
    refine ⟨g, _, e1, hp, ?_⟩
    subst e1
    have := World.ownsRow.cells (g := g) h rfl k (.string (S (ps[k]'(by omega)))) (by unfold strs; rw [List.getElem?_map, hp]; rfl)
    have e : (⟨g, 0, none⟩ : Addr).add k = ⟨g, k, none⟩ := by
      unfold Addr.add
      split
      · rename_i h0; subst h0; rfl
      · simp
    rw [e] at this
    exact this
/-- Pieces are no longer than the whole. -/
theorem cut_len : ∀ (n : Nat) (c : UInt8) (cur l : List UInt8), l.length ≤ n → ∀ ps, cutL c cur l = some ps → ∀ p ∈ ps, p.length ≤ cur.length + l.length
  | n, c, cur, [], _, ps, h, p, hp => by
    rw [cut_nil] at h
    injection h with h
    subst h
    obtain rfl : p = cur := by simpa using hp
    omega
  | 0, c, cur, q :: r, hl, ps, h, p, hp => by simp at hl
  | n + 1, c, cur, q :: r, hl, ps, h, p, hp => by
    simp at hl
    by_cases h34 : q.toNat = 34
    · cases hu : unq r with
      | none => rw [cut_none h34 hu] at h; cases h
      | some x =>
        obtain ⟨b, r'⟩ := x
        rw [cut_str h34 hu] at h
        have hlt := unq_lt _ r (Nat.le_refl _) _ _ hu
        have := cut_len n c _ r' (by omega) ps h p hp
        simp only [List.length_append, List.length_take, List.length_cons] at this ⊢
        omega
    · by_cases hc : q = c
      · rw [cut_sep h34 hc] at h
        obtain ⟨qs, hq, rfl⟩ := Option.map_eq_some_iff.1 h
        rcases List.mem_cons.1 hp with rfl | hp
        · omega
        · have := cut_len n c [] r (by omega) qs hq p hp
          simp only [List.length_nil, List.length_cons] at this ⊢
          omega
      · rw [cut_byte h34 hc] at h
        have := cut_len n c _ r (by omega) ps h p hp
        simp only [List.length_append, List.length_cons, List.length_nil] at this ⊢
        omega
theorem cut_count : ∀ (n : Nat) (c : UInt8) (cur l : List UInt8), l.length ≤ n → ∀ ps, cutL c cur l = some ps → ps.length ≤ l.length + 1
  | n, c, cur, [], _, ps, h => by
    rw [cut_nil] at h
    injection h with h
    subst h
    simp
  | 0, c, cur, q :: r, hl, ps, h => by simp at hl
  | n + 1, c, cur, q :: r, hl, ps, h => by
    simp at hl
    by_cases h34 : q.toNat = 34
    · cases hu : unq r with
      | none => rw [cut_none h34 hu] at h; cases h
      | some x =>
        obtain ⟨b, r'⟩ := x
        rw [cut_str h34 hu] at h
        have hlt := unq_lt _ r (Nat.le_refl _) _ _ hu
        have := cut_count n c _ r' (by omega) ps h
        simp only [List.length_cons]
        omega
    · by_cases hc : q = c
      · rw [cut_sep h34 hc] at h
        obtain ⟨qs, hq, rfl⟩ := Option.map_eq_some_iff.1 h
        have := cut_count n c [] r (by omega) qs hq
        simp only [List.length_cons]
        omega
      · rw [cut_byte h34 hc] at h
        have := cut_count n c _ r (by omega) ps h
        simp only [List.length_cons]
        omega
/-- What comes out. -/
def SevP (c : UInt8) (l : List UInt8) (w : World) (e : Ending) (w' : World) : Prop :=
  Below w.heap.size w w' ∧ ∃ A cap, e = .returned (.slice A (sevL c l).length cap) ∧ w'.ownsRow w.heap.size 3 1 (.slice A (sevL c l).length cap) (sevL c l).length (ints (sevL c l))
/-- What the loop keeps. -/
def VLoop (ps : List (List UInt8)) (W : World) (v i : Value) (wr : World) : Prop := ∃ (j : Nat), j ≤ ps.length ∧ i = .int .i64 j ∧ wr.ownsRow W.heap.size 3 1 v j (ints ((ps.take j).map looseZ)) ∧ Below W.heap.size W wr

set_option maxRecDepth 100000 in
set_option maxHeartbeats 8000000 in
theorem several_any (s : ByteArray) (c : UInt8) (w : World) (hs : s.size ≤ 1000000000000) :
    Calls Tryd.prog 76 #[.string s, .int .u8 (c.toNat : Int)] w fun e w' => SevP c s.data.toList w e w' := by
  obtain ⟨i3, hi3, hz3, hs3, hb3⟩ := info_parts info3
  have I3 := hide hi3
  clear hi3
  have HCU := hide (cut_any s c w hs)
  cases hcut : cutL c [] s.data.toList with
  | none =>
    have HQ : Hid (Calls Tryd.prog 48 #[.string s, .int .u8 (c.toNat : Int)] w fun e w' => e = .returned (.tuple #[.slice none 0 0, .bool false]) ∧ Below w.heap.size w w') := by
      refine HCU.out.mono ?_
      rintro e w' ⟨hb, ⟨ps, A, cap, h1, _⟩ | ⟨_, he⟩⟩
      · rw [hcut] at h1; cases h1
      · exact ⟨he, hb⟩
    have HS : Hid (sevL c s.data.toList = []) := by
      show _ = _
      unfold sevL
      rw [hcut]
    clear hcut
    go_enter Tryd.func76, Tryd.ntmps76
    go_upto_region 4 with (go_at_call 48; refine HQ.out.mono ?_; rintro e w2 ⟨rfl, hb2⟩; have HB2 := hide hb2; clear hb2)
    go_loopw [7, 8, 9] (fun v i _ wr => v = .slice none 0 0 ∧ i = .int .i64 0 ∧ w2 = wr) (fun _ i _ _ => 0)
    case atStart => exact ⟨rfl, rfl, rfl⟩
    case round =>
      obtain ⟨rfl, rfl, rfl⟩ := hrel
      go_wp2_with fail
      go_ret
      refine ⟨HB2.out, none, 0, ?_, ?_⟩
      · rw [HS.out]
        rfl
      · rw [HS.out]
        exact World.ownsRow_nil _ _ _ _
  | some ps =>
    have HQ : Hid (Calls Tryd.prog 48 #[.string s, .int .u8 (c.toNat : Int)] w fun e w' => ∃ A cap, e = .returned (.tuple #[.slice A ps.length cap, .bool true]) ∧ w'.ownsRow w.heap.size 9 1 (.slice A ps.length cap) ps.length (strs ps) ∧ Below w.heap.size w w') := by
      refine HCU.out.mono ?_
      rintro e w' ⟨hb, ⟨ps', A, cap, h1, he, ho, _⟩ | ⟨h1, _⟩⟩
      · rw [hcut] at h1
        injection h1 with h1
        subst h1
        exact ⟨A, cap, he, ho, hb⟩
      · rw [hcut] at h1; cases h1
    have hpl : ps.length ≤ 1000000000001 := by
      have := cut_count _ c [] s.data.toList (Nat.le_refl _) ps hcut
      rw [str_len] at this
      omega
    have HPL : Hid (∀ p ∈ ps, p.length ≤ 1000000000000) := fun p hp => by
      have := cut_len _ c [] s.data.toList (Nat.le_refl _) ps hcut p hp
      rw [List.length_nil, str_len] at this
      omega
    have HS : Hid (sevL c s.data.toList = ps.map looseZ) := by
      show _ = _
      unfold sevL
      rw [hcut]
    clear hcut
    go_enter Tryd.func76, Tryd.ntmps76
    go_upto_region 4 with (go_at_call 48; refine HQ.out.mono ?_; rintro e w2 ⟨A, cap, rfl, ho2, hb2⟩; have HB2 := hide hb2; have HO2 := hide ho2; have HL0 : Hid (VLoop ps w2 (.slice none 0 0) (.int .i64 0) w2) := ⟨0, Nat.zero_le _, rfl, World.ownsRow_nil _ _ _ _, Below.refl _ _⟩; clear hb2 ho2)
    go_loopw [7, 8, 9] (fun v i _ wr => VLoop ps w2 v i wr) (fun _ i _ _ => ps.length - (intOf i).toNat)
    case atStart => exact HL0.out
    case round =>
      clear HL0
      unfold VLoop at hrel
      obtain ⟨j, hj, rfl, hown, hb⟩ := hrel
      have HO := hide hown
      have HB := hide hb
      obtain ⟨A7, c7, rfl, _, _⟩ := own_slice hown
      have hsw : w2.heap.size ≤ wr.heap.size := HB.out.size
      clear hown hb
      have j0 : (0 : Int) ≤ (j : Int) := by omega
      by_cases hlt : j < ps.length
      · obtain ⟨g, p, rfl, hp, hc0⟩ := row_text (own_step HO2.out HB.out) hlt
        have js : (j : Int) < (ps.length : Int) := by omega
        obtain ⟨Z, hZ⟩ : ∃ Z, Z = looseZ p := ⟨_, rfl⟩
        have HZ : Hid (ints ((ps.take (j + 1)).map looseZ) = ints ((ps.take j).map looseZ) ++ [.int .i64 Z]) := by
          obtain ⟨h1, h2⟩ := List.getElem?_eq_some_iff.1 hp
          show _ = _
          rw [List.take_succ_eq_append_getElem h1, h2, List.map_append, ints_app, hZ]
          rfl
        have HLZ : Hid (∀ W, Calls Tryd.prog 49 #[.string (S p)] W fun e w' => e = .returned (.int .i64 Z) ∧ W = w') := fun W => by
          have := loose_any (S p) W (by rw [S_size]; exact HPL.out p (List.mem_of_getElem? hp))
          rw [S_data, ← hZ] at this
          exact this
        clear hp hZ
        go_wp2_with (first | (go_at_call 49; refine (HLZ.out _).mono ?_; rintro e w4 ⟨rfl, rfl⟩) | (at_builtin; refine wpList_push (W := wr) (cs := #[.int .i64 Z]) rfl (.tmp 27) (.tmp 29) _ rfl w2.heap.size 3 i3 _ 1 8 Tryd.underlying41 I3.out hz3 hs3 hb3 rfl (by omega) (.slice A7 j c7) j (ints ((ps.take j).map looseZ)) rfl HO.out 1 1 rfl rfl (by simp [Value.oneCell']) (by omega) (by unfold maxLen; omega) (by omega) hsw ?_; intro g8 c8 w8 hown8 _ hb8 _ _ _; have HL8 : Hid (VLoop ps w2 (.slice (some ⟨g8, 0, none⟩) (j + 1) c8) (.int .i64 ((j : Int) + 1)) w8) := ⟨j + 1, by omega, by go_num, by rw [HZ.out]; exact hown8, HB.out.trans hb8⟩; clear hown8 hb8))
        go_roundw
        case rel => first | exact HL8.out | exact ⟨_, _, _, HL8.out, rfl, rfl, rfl⟩
        case measure => simp [intOf]; omega
      · have js : ¬ (j : Int) < (ps.length : Int) := by omega
        have hjn : j = ps.length := by omega
        have HO8 := HO.out
        rw [hjn, List.take_length] at HO8
        have HO9 := hide HO8
        have HJN := hide hjn
        clear hlt HO8 hjn
        go_wp2_with fail
        go_ret
        refine ⟨HB2.out.trans (HB.out.mono HB2.out.size), A7, c7, ?_, ?_⟩
        · rw [HS.out, List.length_map, ← HJN.out]
          rfl
        · rw [HS.out, List.length_map]
          exact own_base HO9.out HB2.out.size
end Go.Proofs.YtenebkkfjalcaaaDoor
