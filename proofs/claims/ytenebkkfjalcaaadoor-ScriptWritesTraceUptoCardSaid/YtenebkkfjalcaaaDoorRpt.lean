/-
  The reference's PrintTrace.
-/
import Derived.Test.YtenebkkfjalcaaaDoorLin
import Derived.Test.YtenebkkfjalcaaaDoorMka
import Derived.Lib.AppendStr
set_option linter.unusedVariables false
set_option linter.unusedSimpArgs false
namespace Go.Proofs.YtenebkkfjalcaaaDoor
open Go.RowKit Go.WideShapes Go.ChangeShapes Q

def headT : List UInt8 := [113, 117, 111, 114, 97, 116, 101, 32, 116, 114, 97, 99, 101, 32, 49, 10]
/-- A trace's text. -/
def outL (l : List Mk) : List UInt8 := headT ++ l.flatMap fun m => lineL m ++ [10]
def resT (l : List Mk) : List UInt8 := if l.all wrB = true then outL l else []
def resN (l : List Mk) : Int := if l.all wrB = true then 0 else 23
theorem outL_snoc {l : List Mk} {k : Nat} {m : Mk} (h : l[k]? = some m) : outL (l.take (k + 1)) = outL (l.take k) ++ (lineL m ++ [10]) := by
  obtain ⟨hk, e⟩ := List.getElem?_eq_some_iff.1 h
  rw [outL, outL, List.take_succ_eq_append_getElem hk, List.flatMap_append, e]
  simp
theorem all_snoc {l : List Mk} {k : Nat} {m : Mk} (h : l[k]? = some m) (ha : (l.take k).all wrB = true) (hm : wrB m = true) : (l.take (k + 1)).all wrB = true := by
  obtain ⟨hk, e⟩ := List.getElem?_eq_some_iff.1 h
  rw [List.take_succ_eq_append_getElem hk, List.all_append, ha, e]
  simp [hm]
theorem all_no {l : List Mk} {k : Nat} {m : Mk} (h : l[k]? = some m) (hm : wrB m = false) : l.all wrB = false := by
  rw [Bool.eq_false_iff]
  intro hh
  rw [List.all_eq_true] at hh
  rw [hh m (List.mem_of_getElem? h)] at hm
  cases hm
/-- What the loop keeps. -/
def RLoop (l : List Mk) (n : Nat) (w : World) (v i : Value) (wr : World) : Prop := ∃ (j : Nat) (out : List UInt8), j ≤ n ∧ i = .int .i64 j ∧ (l.take j).all wrB = true ∧ out = outL (l.take j) ∧ out.length ≤ 16 + 121000201 * j ∧ wr.ownsRow w.heap.size 5 1 v out.length (Lib.byteCells out) ∧ Below w.heap.size w wr
theorem line_len2 {m : Mk} {w : World} {B : Nat} (h : MkIn w B m) (hw : wrB m = true) (hz : MkZ m) : (lineL m).length ≤ 121000200 := line_len (cnts hw) hz (RS.len h.mem) (RI.len h.tr)
theorem str_cells (l : List UInt8) : Lib.strCells (S l) = Lib.byteCells l := rfl

set_option maxRecDepth 100000 in
set_option maxHeartbeats 8000000 in
theorem rprint_any (A : Option Addr) (n c : Nat) (l : List Mk) (w : World) (h : MsIn w w.heap.size A n l) (hz : ∀ m ∈ l, MkZ m) (hn : n ≤ 1048576) :
    Calls Tryd.prog 9 #[.slice A n c] w fun e w' => e = .returned (.tuple #[.string (S (resT l)), .int .i64 (resN l)]) ∧ Below w.heap.size w w' := by
  have H := hide h
  have HZ := hide hz
  have hll := hide h.len
  obtain ⟨i5, hi5, hz5, hs5, hb5⟩ := info_parts info5
  have I5 := hide hi5
  clear hi5 h hz
  go_enter Tryd.func9, Tryd.ntmps9
  go_upto_region 2 with fail
  refine wp_region_lit ?_
  refine wpList_value rfl (.slice none 0 0) (by go_simp) ?_
  simp only [Act.put, List.setIfInBounds_toArray, List.set_cons_zero, List.set_cons_succ]
  refine Lib.wpList_append_own_string _ rfl (.tmp 7) _ 42 9 rfl w.heap.size 5 i5 Tryd.underlying42 Tryd.underlying9 I5.out hz5 hs5 hb5 _ 0 [] rfl (World.ownsRow_nil _ _ _ _) (S headT) rfl (by rw [S_size]; simp [headT, maxLen]) (by rw [S_size]; simp [headT]) (Nat.le_refl _) ?_
  intro v1 w1 hown1 hgr1 _
  have HL1 : Hid (RLoop l n w v1 (.int .i64 0) w1) := ⟨0, headT, Nat.zero_le _, rfl, by simp, by simp [outL], by simp [headT], (by rw [Nat.zero_add, S_size, List.nil_append, str_cells] at hown1; exact hown1), (Below.refl _ _).grown hgr1 (Nat.le_refl _) (fun k hk => by cases hk)⟩
  clear hown1 hgr1
  simp only [Act.put, List.setIfInBounds_toArray, List.set_cons_zero, List.set_cons_succ]
  go_upto_region 4 with fail
  go_loopw [4, 5, 6] (fun v i _ wr => RLoop l n w v i wr) (fun _ i _ _ => n - (intOf i).toNat)
  case atStart => exact HL1.out
  case round =>
    clear HL1
    unfold RLoop at hrel
    obtain ⟨j, out, hj, rfl, hall, hout, hlen, hown, hb⟩ := hrel
    have HALL := hide hall
    have HOUT := hide hout
    have HO := hide hown
    have HBB := hide hb
    have hol : out.length ≤ 126878000000000 := by omega
    have HLENJ := hide hlen
    clear hall hout hown hb hlen
    have hsw : w.heap.size ≤ wr.heap.size := HBB.out.size
    by_cases hlt : j < n
    · obtain ⟨b, off, m, rfl, hbB, hm, hin, qc⟩ := (H.out.below HBB.out).at_ hlt
      have HQ := hide (cells_add qc)
      have HMJ := hide hm
      have HIN := hide (hin.more hsw)
      have HMZ := hide (HZ.out m (List.mem_of_getElem? hm))
      have hbW : b < wr.heap.size := by omega
      clear hm hin qc
      have k0 : (0 : Int) ≤ (j : Int) := by omega
      have kn : (j : Int) < (n : Int) := by omega
      go_upto_region 6 with fail
      refine wp_region_lit ?_
      refine wpList_value rfl (.slice (some ⟨b, off, none⟩) n c) (by go_simp) ?_
      refine wpList_value rfl (.int .i64 (j : Int)) (by go_simp) ?_
      refine wpList_value rfl (.pointer (some ⟨b, off + j * 26, none⟩)) (by simp only [Act.put, List.setIfInBounds_toArray, List.set_cons_zero, List.set_cons_succ]; go_simp) ?_
      refine wpList_value rfl (.agg m.cs) (ex_load 48 (.tmp 17) rfl ⟨b, off + j * 26, none⟩ rfl m.cs _ Tryd.underlying48 rfl (ld48 _ (mk_size _)) HQ.out) ?_
      simp only [Act.put, List.setIfInBounds_toArray, List.set_cons_zero, List.set_cons_succ]
      cases hwb : wrB m with
      | false =>
        have HRW : Hid (Calls Tryd.prog 14 #[.agg m.cs] wr fun e w' => e = .returned (.bool false) ∧ Below wr.heap.size wr w') := by
          have := rwritable_any m wr HIN.out
          rw [hwb] at this
          exact this
        have HNO := hide (all_no HMJ.out hwb)
        clear hwb
        go_wp2_with (go_at_call 14; refine HRW.out.mono ?_; rintro e w2 ⟨rfl, hb2⟩; have HB2 := hide (HBB.out.trans (hb2.mono hsw)); clear hb2)
        first | refine bodyPost_end (results_tmp2 rfl _ _ _) rfl ?_ | refine bodyPost_ret (results_tmp2 rfl _ _ _) rfl ?_
        refine ⟨?_, HB2.out⟩
        unfold resT resN
        rw [HNO.out]
        rfl
      | true =>
        have HRW : Hid (Calls Tryd.prog 14 #[.agg m.cs] wr fun e w' => e = .returned (.bool true) ∧ Below wr.heap.size wr w') := by
          have := rwritable_any m wr HIN.out
          rw [hwb] at this
          exact this
        have HYES := hide (all_snoc HMJ.out HALL.out hwb)
        have HWB := hide hwb
        have hll2 := line_len2 HIN.out HWB.out HMZ.out
        clear hwb
        go_upto_region 9 with (go_at_call 14; refine HRW.out.mono ?_; rintro e w2 ⟨rfl, hb2⟩; have HB2 := hide (HBB.out.trans (hb2.mono hsw)); have HBr := hide hb2; clear hb2)
        have HIN2 := hide ((HIN.out.below HBr.out).more HBr.out.size)
        have HO2 := hide (own_step HO.out HBr.out)
        have HQ2 : Hid (∀ i v, m.cs[i]? = some v → w2.cell? ((⟨b, off + j * 26, none⟩ : Addr).add i) = some v) := fun i v hv => (HBr.out.cell (by rw [block_of_add]; exact hbW)).trans (HQ.out i v hv)
        clear HRW HO HIN HQ HBr
        refine wp_region_lit ?_
        refine wpList_value rfl _ (by go_simp; try with_reducible rfl) ?_
        refine wpList_value rfl (.slice (some ⟨b, off, none⟩) n c) (by go_simp) ?_
        refine wpList_value rfl (.int .i64 (j : Int)) (by go_simp) ?_
        refine wpList_value rfl (.pointer (some ⟨b, off + j * 26, none⟩)) (by simp only [Act.put, List.setIfInBounds_toArray, List.set_cons_zero, List.set_cons_succ]; go_simp) ?_
        refine wpList_value rfl (.agg m.cs) (ex_load 48 (.tmp 25) rfl ⟨b, off + j * 26, none⟩ rfl m.cs _ Tryd.underlying48 rfl (ld48 _ (mk_size _)) HQ2.out) ?_
        simp only [Act.put, List.setIfInBounds_toArray, List.set_cons_zero, List.set_cons_succ]
        refine wpList_step (fun K hK => ?_)
        rw [if_pos (by rfl)]
        go_simp
        go_at_call 20
        refine (line_any m w2 HIN2.out HWB.out HMZ.out).mono ?_
        rintro e w3 ⟨rfl, hb3⟩
        have HO3 := hide (own_step HO2.out hb3)
        have HB3 := hide (HB2.out.trans (hb3.mono HB2.out.size))
        clear hb3 HO2 HQ2 HB2
        refine hK _ _ ?_
        clear hK K
        try simp only [Act.put, List.setIfInBounds_toArray, List.set_cons_zero, List.set_cons_succ]
        refine wpList_value rfl (.string (S (cc (lineL m) [10]))) (ex_cat (.tmp 27) (.const (.string { data := #[10] })) 9 9 rfl rfl rfl (by simp only [List.length_cons, List.length_nil]; omega)) ?_
        simp only [Act.put, List.setIfInBounds_toArray, List.set_cons_zero, List.set_cons_succ]
        have hcl : (S (cc (lineL m) [10])).size ≤ 121000201 := by rw [S_size, cc_len]; simp only [List.length_cons, List.length_nil]; omega
        refine Lib.wpList_append_own_string _ rfl (.tmp 22) (.tmp 28) 42 9 rfl w.heap.size 5 i5 Tryd.underlying42 Tryd.underlying9 I5.out hz5 hs5 hb5 _ out.length (Lib.byteCells out) rfl HO3.out (S (cc (lineL m) [10])) rfl (by unfold maxLen; omega) (by omega) HB3.out.size ?_
        intro v4 w4 hown4 hgr4 _
        have HL4 : Hid (RLoop l n w v4 (.int .i64 ((j : Int) + 1)) w4) := by
          refine ⟨j + 1, out ++ (lineL m ++ [10]), by omega, by go_num, HYES.out, by rw [outL_snoc HMJ.out, ← HOUT.out], ?_, ?_, HB3.out.grown hgr4 HB3.out.size (fun k hk => (HO3.out.lt k hk).1)⟩
          · rw [S_size, cc_len] at hcl
            have : out.length ≤ 16 + 121000201 * j := HLENJ.out
            simp only [List.length_append, List.length_cons, List.length_nil] at hcl ⊢
            omega
          · rw [S_size, str_cells] at hown4
            have e1 : Lib.byteCells out ++ Lib.byteCells (cc (lineL m) [10]) = Lib.byteCells (out ++ (lineL m ++ [10])) := by simp [Lib.byteCells, cc]
            have e2 : out.length + (cc (lineL m) [10]).length = (out ++ (lineL m ++ [10])).length := by simp [cc]
            rw [e1, e2] at hown4
            exact hown4
        clear hown4 hgr4 HO3 hcl
        simp only [Act.put, List.setIfInBounds_toArray, List.set_cons_zero, List.set_cons_succ]
        go_wp2_with fail
        go_roundw
        case rel => first | exact HL4.out | exact ⟨_, _, _, HL4.out, rfl, rfl, rfl⟩
        case measure => simp [intOf]; omega
    · have kn : ¬ (j : Int) < (n : Int) := by omega
      obtain rfl : j = n := by omega
      obtain ⟨A4, c4, rfl, hr4, _⟩ := own_slice HO.out
      have HR4 := hide hr4
      clear hlt hr4
      go_wp2_with (refine wpList_value rfl (.string (S out)) (ex_conv _ rfl rfl HR4.out) ?_)
      first | refine bodyPost_end (results_tmp2 rfl _ _ _) rfl ?_ | refine bodyPost_ret (results_tmp2 rfl _ _ _) rfl ?_
      refine ⟨?_, HBB.out⟩
      have ht : l.take j = l := List.take_of_length_le (by have := hll.out; omega)
      have ha := HALL.out
      have ho := HOUT.out
      rw [ht] at ha ho
      unfold resT resN
      rw [if_pos ha, if_pos ha, ← ho]
      rfl
end Go.Proofs.YtenebkkfjalcaaaDoor
