/-
  The cursor: until. The cursor: skip, here, number, signed, str.
-/
import Derived.Test.YtenebkkfjalcaaaDoorZSev
import Derived.Test.YtenebkkfjalcaaaDoorZLqu
set_option linter.unusedVariables false
set_option linter.unusedSimpArgs false
namespace Go.Proofs.YtenebkkfjalcaaaDoor
open Go.RowKit Go.WideShapes Go.ChangeShapes Q

/-- A cursor over a text. -/
def Cu (w : World) (b : Nat) (s : ByteArray) (k : Nat) (bad : Bool) : Prop := Blk w b 84 #[.string s, .int .i64 (k : Int), .bool bad]
def untL (stops l : List UInt8) : List UInt8 := l.takeWhile fun c => decide (Lib.indexByte stops c < 0)
def atOf (w : World) (b : Nat) : Nat := match w.cell? ⟨b, 1, none⟩ with
  | some (.int _ x) => x.toNat
  | _ => 0
theorem Cu.at_ {w : World} {b k : Nat} {s : ByteArray} {bad : Bool} (h : Cu w b s k bad) : atOf w b = k := by
  unfold atOf
  rw [h.cell 1]
  simp
theorem Cu.set {w : World} {b k : Nat} {s : ByteArray} {bad : Bool} (h : Cu w b s k bad) (n k' : Nat) : Cu ((w.drewN n).setCell ⟨b, 1, none⟩ (.int .i64 (k' : Int))) b s k' bad := (Blk.drewN h n).set_ 1 _
/-- What the loop keeps. -/
def NLoop (stops : List UInt8) (s : ByteArray) (k b : Nat) (bad : Bool) (w wr : World) : Prop := ∃ j : Nat, k ≤ j ∧ j ≤ s.size ∧ Cu wr b s j bad ∧ Only (fun q => q = b) w wr ∧ untL stops (s.data.toList.drop k) = piece s k j ++ untL stops (s.data.toList.drop j)

set_option maxRecDepth 100000 in
set_option maxHeartbeats 4000000 in
theorem until_any (stops : List UInt8) (s : ByteArray) (k b : Nat) (bad : Bool) (w : World) (h : Cu w b s k bad) (hk : k ≤ s.size) (hs : s.size ≤ 1000000000000) :
    Calls Tryd.prog 46 #[.pointer (some ⟨b, 0, none⟩), .string (S stops)] w fun e w' => e = .returned (.string (S (untL stops (s.data.toList.drop k)))) ∧ Cu w' b s (k + (untL stops (s.data.toList.drop k)).length) bad ∧ Only (fun q => q = b) w w' := by
  have H := hide h
  have c1 : w.cell? ⟨b, 1, none⟩ = some (.int .i64 (k : Int)) := h.cell 1
  have HL0 : Hid (NLoop stops s k b bad w w) := ⟨k, Nat.le_refl _, hk, h, Only.refl _ _, by rw [piece_nil]; rfl⟩
  clear h
  go_enter Tryd.func46, Tryd.ntmps46
  go_upto_region 2 with fail
  clear c1
  go_loopw [] (fun wr => NLoop stops s k b bad w wr) (fun wr => s.size - atOf wr b)
  case atStart => exact HL0.out
  case round =>
    clear HL0
    unfold NLoop at hrel
    obtain ⟨j, hkj, hj, hcu, honly, hun⟩ := hrel
    have HCU := hide hcu
    have HON := hide honly
    have HUN := hide hun
    have c0 : wr.cell? ⟨b, 0, none⟩ = some (.string s) := hcu.cell 0
    have c1 : wr.cell? ⟨b, 1, none⟩ = some (.int .i64 (j : Int)) := hcu.cell 1
    have f1 := Blk.frozen hcu 1
    have HAT := hide hcu.at_
    clear hcu honly hun
    have j0 : (0 : Int) ≤ (j : Int) := by omega
    by_cases hlt : j < s.size
    · obtain ⟨c, hc⟩ : ∃ c, c = s[j] := ⟨_, rfl⟩
      have hcc := hc.symm
      have js : (j : Int) < (s.size : Int) := by omega
      have HD : Hid (s.data.toList.drop j = c :: s.data.toList.drop (j + 1)) := by rw [hc]; exact bdrop hlt
      obtain ⟨X, hX⟩ : ∃ X, X = Lib.indexByte stops c := ⟨_, rfl⟩
      have HIX : ∀ n', Hid (Calls Tryd.prog 58 #[.string (S stops), .int .u8 (c.toNat : Int)] (wr.drewN n') fun r w' => r = .returned (.int .i64 X) ∧ (wr.drewN n') = w') := fun n' => by
        have := index_any (S stops) c (wr.drewN n')
        rw [S_data, ← hX] at this
        exact this
      have HX := hide hX
      clear hc hX
      by_cases hx : X < 0
      · have HU2 : Hid (untL stops (s.data.toList.drop k) = piece s k (j + 1) ++ untL stops (s.data.toList.drop (j + 1))) := by
          show _ = _
          have e : untL stops (c :: s.data.toList.drop (j + 1)) = c :: untL stops (s.data.toList.drop (j + 1)) := by
            unfold untL
            rw [List.takeWhile_cons, ← HX.out, decide_eq_true hx]
            rfl
          rw [HUN.out, HD.out, e, piece_snoc hkj hlt, hcc, List.append_assoc]
          rfl
        go_wp2_with fail
        go_quiet ((go_at_call 58; exact quiet_left ((HIX _).out)))
        go_wp2_with fail
        generalize hw5 : World.setCell _ _ _ = w5
        have HC5 : Hid (Cu w5 b s (j + 1) bad) := by
          show Cu w5 b s (j + 1) bad
          rw [← hw5]
          rw [show (j : Int) + 1 = ((j + 1 : Nat) : Int) by omega]
          exact HCU.out.set _ _
        have HO5 : Hid (Only (fun q => q = b) w w5) := by
          show Only _ w w5
          rw [← hw5]
          exact (HON.out.drewN _).setCell (fun _ => rfl) _
        clear hw5
        have HL5 : Hid (NLoop stops s k b bad w w5) := ⟨j + 1, by omega, by omega, HC5.out, HO5.out, HU2.out⟩
        go_roundw
        case rel => first | exact HL5.out | trace_state
        case measure =>
          have h1 := HAT.out
          have h2 := HC5.out.at_
          simp only [h1, h2]
          omega
      · have HU2 : Hid (untL stops (s.data.toList.drop k) = piece s k j) := by
          show _ = _
          have e : untL stops (c :: s.data.toList.drop (j + 1)) = [] := by
            unfold untL
            rw [List.takeWhile_cons, ← HX.out, decide_eq_false hx]
            rfl
          rw [HUN.out, HD.out, e, List.append_nil]
        have hpx : s.extract k j = S (piece s k j) := ext_piece s k j
        obtain ⟨P, hP⟩ : ∃ P, P = piece s k j := ⟨_, rfl⟩
        have HP := hide hP
        have hpl : Hid (P.length = j - k) := by
          show _ = _
          rw [hP]
          unfold piece
          rw [List.length_drop, List.length_take, str_len]
          omega
        rw [← hP] at hpx HU2
        have hkj2 : (k : Int) ≤ (j : Int) := by omega
        have k0 : (0 : Int) ≤ (k : Int) := by omega
        have jz : (j : Int) ≤ (s.size : Int) := by omega
        clear hP
        go_wp2_with fail
        go_quiet ((go_at_call 58; exact quiet_left ((HIX _).out)))
        go_wp2_with fail
        go_quiet (fail)
        go_wp2_with fail
        go_ret
        refine ⟨?_, ?_, ?_⟩
        · rw [HU2.out]
          rfl
        · rw [HU2.out, hpl.out, show k + (j - k) = j by omega]
          exact Blk.drewN (Blk.drewN HCU.out _) _
        · exact (HON.out.drewN _).drewN _
    · have js : ¬ (j : Int) < (s.size : Int) := by omega
      have HU2 : Hid (untL stops (s.data.toList.drop k) = piece s k j) := by
        show _ = _
        have e : s.data.toList.drop j = [] := List.drop_eq_nil_of_le (by rw [str_len]; omega)
        rw [HUN.out, e]
        show piece s k j ++ [] = _
        rw [List.append_nil]
      have hpx : s.extract k j = S (piece s k j) := ext_piece s k j
      obtain ⟨P, hP⟩ : ∃ P, P = piece s k j := ⟨_, rfl⟩
      have HP := hide hP
      have hpl : Hid (P.length = j - k) := by
        show _ = _
        rw [hP]
        unfold piece
        rw [List.length_drop, List.length_take, str_len]
        omega
      rw [← hP] at hpx HU2
      have hkj2 : (k : Int) ≤ (j : Int) := by omega
      have k0 : (0 : Int) ≤ (k : Int) := by omega
      have jz : (j : Int) ≤ (s.size : Int) := by omega
      clear hP
      go_wp2_with fail
      go_quiet (fail)
      go_wp2_with fail
      go_quiet (fail)
      go_wp2_with fail
      go_ret
      refine ⟨?_, ?_, ?_⟩
      · rw [HU2.out]
        rfl
      · rw [HU2.out, hpl.out, show k + (j - k) = j by omega]
        exact Blk.drewN (Blk.drewN HCU.out _) _
      · exact (HON.out.drewN _).drewN _
end Go.Proofs.YtenebkkfjalcaaaDoor
set_option linter.unusedVariables false
set_option linter.unusedSimpArgs false
namespace Go.Proofs.YtenebkkfjalcaaaDoor
open Go.RowKit Go.WideShapes Go.ChangeShapes Q

theorem Cu.bad {w : World} {b k : Nat} {s : ByteArray} {bad : Bool} (h : Cu w b s k bad) (n : Nat) (bad' : Bool) : Cu ((w.drewN n).setCell ⟨b, 2, none⟩ (.bool bad')) b s k bad' := (Blk.drewN h n).set_ 2 _
theorem Cu.bad0 {w : World} {b k : Nat} {s : ByteArray} {bad : Bool} (h : Cu w b s k bad) (bad' : Bool) : Cu (w.setCell ⟨b, 2, none⟩ (.bool bad')) b s k bad' := Blk.set_ h 2 _
theorem Cu.set0 {w : World} {b k : Nat} {s : ByteArray} {bad : Bool} (h : Cu w b s k bad) (k' : Nat) : Cu (w.setCell ⟨b, 1, none⟩ (.int .i64 (k' : Int))) b s k' bad := Blk.set_ h 1 _
theorem Cu.drewN {w : World} {b k : Nat} {s : ByteArray} {bad : Bool} (h : Cu w b s k bad) (n : Nat) : Cu (w.drewN n) b s k bad := Blk.drewN h n
def preB (t l : List UInt8) : Bool := Lib.hasPrefix l t
set_option maxRecDepth 100000 in
set_option maxHeartbeats 4000000 in
theorem skip_any (t : List UInt8) (s : ByteArray) (k b : Nat) (bad : Bool) (w : World) (h : Cu w b s k bad) (hk : k ≤ s.size) (hs : s.size ≤ 1000000000000) (ht : t.length ≤ 1000) :
    Calls Tryd.prog 45 #[.pointer (some ⟨b, 0, none⟩), .string (S t)] w fun e w' => e = .returned (.tuple #[]) ∧ Cu w' b s (if preB t (s.data.toList.drop k) = true then k + t.length else k) (if preB t (s.data.toList.drop k) = true then bad else true) ∧ Only (fun q => q = b) w w' := by
  have H := hide h
  have c0 : w.cell? ⟨b, 0, none⟩ = some (.string s) := h.cell 0
  have c1 : w.cell? ⟨b, 1, none⟩ = some (.int .i64 (k : Int)) := h.cell 1
  have c2 : w.cell? ⟨b, 2, none⟩ = some (.bool bad) := h.cell 2
  have f1 := Blk.frozen h 1
  have f2 := Blk.frozen h 2
  have k0 : (0 : Int) ≤ (k : Int) := by omega
  have kz : (k : Int) ≤ (s.size : Int) := by omega
  have hsz : ((S t).size : Int) = (t.length : Int) := by rw [S_size]
  obtain ⟨T, hT⟩ : ∃ T, T = s.extract k s.size := ⟨_, rfl⟩
  have hTT := hT.symm
  cases hp : preB t (s.data.toList.drop k) with
  | true =>
    have HPR : ∀ n', Hid (Calls Tryd.prog 57 #[.string T, .string (S t)] (w.drewN n') fun r w' => r = .returned (.bool true) ∧ (w.drewN n') = w') := fun n' => by
      have := prefix_any T (S t) (w.drewN n')
      rw [hT, sub_list, List.take_of_length_le (by rw [str_len]; omega), S_data] at this
      unfold preB at hp
      rw [hp, ← hT] at this
      exact this
    have HP := hide hp
    clear h hp hT
    go_enter Tryd.func45, Tryd.ntmps45
    go_wp2_with fail
    go_quiet ((go_at_call 57; exact quiet_left ((HPR _).out)))
    go_wp2_with fail
    refine bodyPost_end (results_none rfl _ _ _) rfl ?_
    refine ⟨rfl, ?_, (((Only.refl (fun q => q = b) w).drewN _).setCell (fun _ => rfl) _)⟩
    first
    | exact H.out.set _ _
    | (rw [show ((k : Int) + (t.length : Int)) = ((k + t.length : Nat) : Int) by omega]; exact H.out.set _ _)
    | trace_state
  | false =>
    have HPR : ∀ n', Hid (Calls Tryd.prog 57 #[.string T, .string (S t)] (w.drewN n') fun r w' => r = .returned (.bool false) ∧ (w.drewN n') = w') := fun n' => by
      have := prefix_any T (S t) (w.drewN n')
      rw [hT, sub_list, List.take_of_length_le (by rw [str_len]; omega), S_data] at this
      unfold preB at hp
      rw [hp, ← hT] at this
      exact this
    have HP := hide hp
    clear h hp hT
    go_enter Tryd.func45, Tryd.ntmps45
    go_wp2_with fail
    go_quiet ((go_at_call 57; exact quiet_left ((HPR _).out)))
    go_wp2_with fail
    first | refine bodyPost_ret (results_none rfl _ _ _) rfl ?_ | refine bodyPost_end (results_none rfl _ _ _) rfl ?_
    exact ⟨rfl, H.out.bad _ true, (((Only.refl (fun q => q = b) w).drewN _).setCell (fun _ => rfl) _)⟩
theorem Cu.step {w w' : World} {b k : Nat} {s : ByteArray} {bad : Bool} (h : Cu w b s k bad) (hb : Below w.heap.size w w') : Cu w' b s k bad := Blk.below h hb (Blk.lt h)
theorem only_step {F : Nat → Prop} {w w1 w2 : World} (h : Only F w w1) (hb : Below w1.heap.size w1 w2) : Only F w w2 := h.trans (Only.of_below hb (Nat.le_refl _))
/-- What number gives. -/
def numV (stops l : List UInt8) : Int := match cnt (untL stops l) with | some n => (n : Int) | none => 0
def numOk (stops l : List UInt8) : Bool := (cnt (untL stops l)).isSome
set_option maxRecDepth 100000 in
set_option maxHeartbeats 4000000 in
theorem number_any (s : ByteArray) (k b : Nat) (bad : Bool) (w : World) (h : Cu w b s k bad) (hk : k ≤ s.size) (hs : s.size ≤ 1000000000000) :
    Calls Tryd.prog 44 #[.pointer (some ⟨b, 0, none⟩)] w fun e w' => e = .returned (.int .i64 (numV [32, 47, 44] (s.data.toList.drop k))) ∧ Cu w' b s (k + (untL [32, 47, 44] (s.data.toList.drop k)).length) (bad || !numOk [32, 47, 44] (s.data.toList.drop k)) ∧ Only (fun q => q = b) w w' := by
  have HU := hide (until_any [32, 47, 44] s k b bad w h hk hs)
  obtain ⟨u, hu⟩ : ∃ u, u = untL [32, 47, 44] (s.data.toList.drop k) := ⟨_, rfl⟩
  have hul : u.length ≤ 1000000000000 := by
    rw [hu]
    unfold untL
    have h1 := (List.takeWhile_sublist (fun c => decide (Lib.indexByte [32, 47, 44] c < 0)) (l := s.data.toList.drop k)).length_le
    rw [List.length_drop, str_len] at h1
    omega
  unfold numV numOk
  rw [← hu] at HU ⊢
  have HCT := fun W => count_prog (S u) W (by rw [S_size]; exact hul)
  rw [S_data] at HCT
  clear hu h
  cases hc : cnt u with
  | none =>
    rw [ctV_none hc] at HCT
    have HC := hide HCT
    clear HCT hc
    cases bad with
    | false =>
      go_enter Tryd.func44, Tryd.ntmps44
      go_upto_region 2 with (first | (go_at_call 46; refine HU.out.mono ?_; rintro e w2 ⟨rfl, hcu, hon⟩; have HCU := hide hcu; have HON := hide hon; clear hcu hon) | (go_at_call 56; refine (HC.out _).mono ?_; rintro e w3 ⟨rfl, hb3⟩; have HCU3 := hide (HCU.out.step hb3); have HON3 := hide (only_step HON.out hb3); clear hb3))
      have c2 : w3.cell? ⟨b, 2, none⟩ = some (.bool false) := Blk.cell HCU3.out 2
      have f2 := Blk.frozen HCU3.out 2
      go_wp2_with fail
      go_ret
      exact ⟨rfl, HCU3.out.bad0 true, HON3.out.setCell (fun _ => rfl) _⟩
    | true =>
      go_enter Tryd.func44, Tryd.ntmps44
      go_upto_region 2 with (first | (go_at_call 46; refine HU.out.mono ?_; rintro e w2 ⟨rfl, hcu, hon⟩; have HCU := hide hcu; have HON := hide hon; clear hcu hon) | (go_at_call 56; refine (HC.out _).mono ?_; rintro e w3 ⟨rfl, hb3⟩; have HCU3 := hide (HCU.out.step hb3); have HON3 := hide (only_step HON.out hb3); clear hb3))
      have c2 : w3.cell? ⟨b, 2, none⟩ = some (.bool true) := Blk.cell HCU3.out 2
      have f2 := Blk.frozen HCU3.out 2
      go_wp2_with fail
      go_ret
      exact ⟨rfl, HCU3.out.bad0 true, HON3.out.setCell (fun _ => rfl) _⟩
  | some n =>
    rw [ctV_some hc] at HCT
    have HC := hide HCT
    clear HCT hc
    cases bad with
    | false =>
      go_enter Tryd.func44, Tryd.ntmps44
      go_upto_region 2 with (first | (go_at_call 46; refine HU.out.mono ?_; rintro e w2 ⟨rfl, hcu, hon⟩; have HCU := hide hcu; have HON := hide hon; clear hcu hon) | (go_at_call 56; refine (HC.out _).mono ?_; rintro e w3 ⟨rfl, hb3⟩; have HCU3 := hide (HCU.out.step hb3); have HON3 := hide (only_step HON.out hb3); clear hb3))
      have c2 : w3.cell? ⟨b, 2, none⟩ = some (.bool false) := Blk.cell HCU3.out 2
      have f2 := Blk.frozen HCU3.out 2
      go_wp2_with fail
      go_ret
      exact ⟨rfl, HCU3.out.bad0 false, HON3.out.setCell (fun _ => rfl) _⟩
    | true =>
      go_enter Tryd.func44, Tryd.ntmps44
      go_upto_region 2 with (first | (go_at_call 46; refine HU.out.mono ?_; rintro e w2 ⟨rfl, hcu, hon⟩; have HCU := hide hcu; have HON := hide hon; clear hcu hon) | (go_at_call 56; refine (HC.out _).mono ?_; rintro e w3 ⟨rfl, hb3⟩; have HCU3 := hide (HCU.out.step hb3); have HON3 := hide (only_step HON.out hb3); clear hb3))
      have c2 : w3.cell? ⟨b, 2, none⟩ = some (.bool true) := Blk.cell HCU3.out 2
      have f2 := Blk.frozen HCU3.out 2
      go_wp2_with fail
      go_ret
      exact ⟨rfl, HCU3.out.bad0 true, HON3.out.setCell (fun _ => rfl) _⟩
/-- What signed gives. -/
def sgnV (l : List UInt8) : Int := if (untL [32] l).head? = some 45 then -(match cnt ((untL [32] l).drop 1) with | some n => (n : Int) | none => 0) else numV [32] l
def sgnOk (l : List UInt8) : Bool := if (untL [32] l).head? = some 45 then (match cnt ((untL [32] l).drop 1) with | some n => decide (0 < n) | none => false) else numOk [32] l
theorem whole_parts (l : List UInt8) : wholeV (untL [32] l) = .tuple #[.int .i64 (sgnV l), .bool (sgnOk l)] := by
  unfold wholeV sgnV sgnOk numV numOk ctV
  by_cases h : (untL [32] l).head? = some 45
  · rw [if_pos h, if_pos h, if_pos h]
    cases cnt ((untL [32] l).drop 1) with
    | none => rfl
    | some n => rfl
  · rw [if_neg h, if_neg h, if_neg h]
    cases cnt (untL [32] l) with
    | none => rfl
    | some n => rfl
set_option maxRecDepth 100000 in
set_option maxHeartbeats 4000000 in
theorem signed_cur (s : ByteArray) (k b : Nat) (bad : Bool) (w : World) (h : Cu w b s k bad) (hk : k ≤ s.size) (hs : s.size ≤ 1000000000000) :
    Calls Tryd.prog 62 #[.pointer (some ⟨b, 0, none⟩)] w fun e w' => e = .returned (.int .i64 (sgnV (s.data.toList.drop k))) ∧ Cu w' b s (k + (untL [32] (s.data.toList.drop k)).length) (bad || !sgnOk (s.data.toList.drop k)) ∧ Only (fun q => q = b) w w' := by
  have HU := hide (until_any [32] s k b bad w h hk hs)
  have hwp := whole_parts (s.data.toList.drop k)
  obtain ⟨u, hu⟩ : ∃ u, u = untL [32] (s.data.toList.drop k) := ⟨_, rfl⟩
  obtain ⟨V, hV⟩ : ∃ V, V = sgnV (s.data.toList.drop k) := ⟨_, rfl⟩
  obtain ⟨K, hK⟩ : ∃ K, K = sgnOk (s.data.toList.drop k) := ⟨_, rfl⟩
  have hul : u.length ≤ 1000000000000 := by
    rw [hu]
    unfold untL
    have h1 := (List.takeWhile_sublist (fun c => decide (Lib.indexByte [32] c < 0)) (l := s.data.toList.drop k)).length_le
    rw [List.length_drop, str_len] at h1
    omega
  rw [← hu] at HU hwp ⊢
  rw [← hV, ← hK] at hwp ⊢
  have HCT := fun W => whole_any (S u) W (by rw [S_size]; exact hul)
  rw [S_data, hwp] at HCT
  have HC := hide HCT
  clear hu h hV hK hwp HCT
  cases K with
  | false =>
    cases bad with
    | false =>
      go_enter Tryd.func62, Tryd.ntmps62
      go_upto_region 2 with (first | (go_at_call 46; refine HU.out.mono ?_; rintro e w2 ⟨rfl, hcu, hon⟩; have HCU := hide hcu; have HON := hide hon; clear hcu hon) | (go_at_call 74; refine (HC.out _).mono ?_; rintro e w3 ⟨rfl, hb3⟩; have HCU3 := hide (HCU.out.step hb3); have HON3 := hide (only_step HON.out hb3); clear hb3))
      have c2 : w3.cell? ⟨b, 2, none⟩ = some (.bool false) := Blk.cell HCU3.out 2
      have f2 := Blk.frozen HCU3.out 2
      go_wp2_with fail
      go_ret
      exact ⟨rfl, HCU3.out.bad0 true, HON3.out.setCell (fun _ => rfl) _⟩
    | true =>
      go_enter Tryd.func62, Tryd.ntmps62
      go_upto_region 2 with (first | (go_at_call 46; refine HU.out.mono ?_; rintro e w2 ⟨rfl, hcu, hon⟩; have HCU := hide hcu; have HON := hide hon; clear hcu hon) | (go_at_call 74; refine (HC.out _).mono ?_; rintro e w3 ⟨rfl, hb3⟩; have HCU3 := hide (HCU.out.step hb3); have HON3 := hide (only_step HON.out hb3); clear hb3))
      have c2 : w3.cell? ⟨b, 2, none⟩ = some (.bool true) := Blk.cell HCU3.out 2
      have f2 := Blk.frozen HCU3.out 2
      go_wp2_with fail
      go_ret
      exact ⟨rfl, HCU3.out.bad0 true, HON3.out.setCell (fun _ => rfl) _⟩
  | true =>
    cases bad with
    | false =>
      go_enter Tryd.func62, Tryd.ntmps62
      go_upto_region 2 with (first | (go_at_call 46; refine HU.out.mono ?_; rintro e w2 ⟨rfl, hcu, hon⟩; have HCU := hide hcu; have HON := hide hon; clear hcu hon) | (go_at_call 74; refine (HC.out _).mono ?_; rintro e w3 ⟨rfl, hb3⟩; have HCU3 := hide (HCU.out.step hb3); have HON3 := hide (only_step HON.out hb3); clear hb3))
      have c2 : w3.cell? ⟨b, 2, none⟩ = some (.bool false) := Blk.cell HCU3.out 2
      have f2 := Blk.frozen HCU3.out 2
      go_wp2_with fail
      go_ret
      exact ⟨rfl, HCU3.out.bad0 false, HON3.out.setCell (fun _ => rfl) _⟩
    | true =>
      go_enter Tryd.func62, Tryd.ntmps62
      go_upto_region 2 with (first | (go_at_call 46; refine HU.out.mono ?_; rintro e w2 ⟨rfl, hcu, hon⟩; have HCU := hide hcu; have HON := hide hon; clear hcu hon) | (go_at_call 74; refine (HC.out _).mono ?_; rintro e w3 ⟨rfl, hb3⟩; have HCU3 := hide (HCU.out.step hb3); have HON3 := hide (only_step HON.out hb3); clear hb3))
      have c2 : w3.cell? ⟨b, 2, none⟩ = some (.bool true) := Blk.cell HCU3.out 2
      have f2 := Blk.frozen HCU3.out 2
      go_wp2_with fail
      go_ret
      exact ⟨rfl, HCU3.out.bad0 true, HON3.out.setCell (fun _ => rfl) _⟩
end Go.Proofs.YtenebkkfjalcaaaDoor
