/-
  The reference's PrintTrace. The law's marksOf: a copy of the marks, in memory of its own. (Printed by wip/tools/mkmof.py.) A mark in a block of its own, written into field by field; a result that is a mark. The lines that are a mark's; what both parsers give of them.
-/
import Derived.Test.YtenebkkfjalcaaaDoorZLin
import Derived.Test.YtenebkkfjalcaaaDoorZMka
import Derived.Lib.AppendStr
import Derived.Deep.WholeRow
import Derived.Test.YtenebkkfjalcaaaDoorZOnly
import Derived.Test.YtenebkkfjalcaaaDoorZUnl
import Derived.Laws.CopyRow
import Derived.Laws.CopyOwn
import Derived.Laws.ResultCell
import Derived.Laws.IdiomStrings
import Derived.Test.YtenebkkfjalcaaaDoorZPsz
set_option linter.unusedVariables false
set_option linter.unusedSimpArgs false
namespace Go.Proofs.YtenebkkfjalcaaaDoor
open Go.RowKit Go.WideShapes Go.ChangeShapes Q

def headT : List UInt8 := [113, 117, 111, 114, 97, 116, 101, 32, 116, 114, 97, 99, 101, 32, 49, 10]
/-- A trace's text. -/
def outL (l : List Mk) : List UInt8 := headT ++ l.flatMap fun m => lineL m ++ [10]
def resT (l : List Mk) : List UInt8 := if l.all wrB = true then outL l else []
def resN (l : List Mk) : Int := if l.all wrB = true then 0 else 23
theorem outL_snoc {l : List Mk} {k : Nat} {m : Mk} (h : l[k]? = some m) : outL (l.take (k + 1)) = outL (l.take k) ++ (lineL m ++ [10]) := by
  obtain ⟨hk, e⟩ := List.getElem?_eq_some_iff.1 h
  rw [outL, outL, List.take_succ_eq_append_getElem hk, List.flatMap_append, e]
  simp
theorem all_snoc {l : List Mk} {k : Nat} {m : Mk} (h : l[k]? = some m) (ha : (l.take k).all wrB = true) (hm : wrB m = true) : (l.take (k + 1)).all wrB = true := by
  obtain ⟨hk, e⟩ := List.getElem?_eq_some_iff.1 h
  rw [List.take_succ_eq_append_getElem hk, List.all_append, ha, e]
  simp [hm]
theorem all_no {l : List Mk} {k : Nat} {m : Mk} (h : l[k]? = some m) (hm : wrB m = false) : l.all wrB = false := by
  rw [Bool.eq_false_iff]
  intro hh
  rw [List.all_eq_true] at hh
  rw [hh m (List.mem_of_getElem? h)] at hm
  cases hm
/-- What the loop keeps. -/
def RLoop (l : List Mk) (n : Nat) (w : World) (v i : Value) (wr : World) : Prop := ∃ (j : Nat) (out : List UInt8), j ≤ n ∧ i = .int .i64 j ∧ (l.take j).all wrB = true ∧ out = outL (l.take j) ∧ out.length ≤ 16 + 121000201 * j ∧ wr.ownsRow w.heap.size 5 1 v out.length (Lib.byteCells out) ∧ Below w.heap.size w wr
theorem line_len2 {m : Mk} {w : World} {B : Nat} (h : MkIn w B m) (hw : wrB m = true) (hz : MkZ m) : (lineL m).length ≤ 121000200 := line_len (cnts hw) hz (RS.len h.mem) (RI.len h.tr)
theorem str_cells (l : List UInt8) : Lib.strCells (S l) = Lib.byteCells l := rfl

set_option maxRecDepth 100000 in
set_option maxHeartbeats 8000000 in
theorem rprint_any (A : Option Addr) (n c : Nat) (l : List Mk) (w : World) (h : MsIn w w.heap.size A n l) (hz : ∀ m ∈ l, MkZ m) (hn : n ≤ 1048576) :
    Calls Tryd.prog 9 #[.slice A n c] w fun e w' => e = .returned (.tuple #[.string (S (resT l)), .int .i64 (resN l)]) ∧ Below w.heap.size w w' := by
  have H := hide h
  have HZ := hide hz
  have hll := hide h.len
  obtain ⟨i5, hi5, hz5, hs5, hb5⟩ := info_parts info5
  have I5 := hide hi5
  clear hi5 h hz
  go_enter Tryd.func9, Tryd.ntmps9
  go_upto_region 2 with fail
  refine wp_region_lit ?_
  refine wpList_value rfl (.slice none 0 0) (by go_simp) ?_
  simp only [Act.put, List.setIfInBounds_toArray, List.set_cons_zero, List.set_cons_succ]
  refine Lib.wpList_append_own_string _ rfl (.tmp 7) _ 42 9 rfl w.heap.size 5 i5 Tryd.underlying42 Tryd.underlying9 I5.out hz5 hs5 hb5 _ 0 [] rfl (World.ownsRow_nil _ _ _ _) (S headT) rfl (by rw [S_size]; simp [headT, maxLen]) (by rw [S_size]; simp [headT]) (Nat.le_refl _) ?_
  intro v1 w1 hown1 hgr1 _
  have HL1 : Hid (RLoop l n w v1 (.int .i64 0) w1) := ⟨0, headT, Nat.zero_le _, rfl, by simp, by simp [outL], by simp [headT], (by rw [Nat.zero_add, S_size, List.nil_append, str_cells] at hown1; exact hown1), (Below.refl _ _).grown hgr1 (Nat.le_refl _) (fun k hk => by cases hk)⟩
  clear hown1 hgr1
  simp only [Act.put, List.setIfInBounds_toArray, List.set_cons_zero, List.set_cons_succ]
  go_upto_region 4 with fail
  go_loopw [4, 5, 6] (fun v i _ wr => RLoop l n w v i wr) (fun _ i _ _ => n - (intOf i).toNat)
  case atStart => exact HL1.out
  case round =>
    clear HL1
    unfold RLoop at hrel
    obtain ⟨j, out, hj, rfl, hall, hout, hlen, hown, hb⟩ := hrel
    have HALL := hide hall
    have HOUT := hide hout
    have HO := hide hown
    have HBB := hide hb
    have hol : out.length ≤ 126878000000000 := by omega
    have HLENJ := hide hlen
    clear hall hout hown hb hlen
    have hsw : w.heap.size ≤ wr.heap.size := HBB.out.size
    by_cases hlt : j < n
    · obtain ⟨b, off, m, rfl, hbB, hm, hin, qc⟩ := (H.out.below HBB.out).at_ hlt
      have HQ := hide (cells_add qc)
      have HMJ := hide hm
      have HIN := hide (hin.more hsw)
      have HMZ := hide (HZ.out m (List.mem_of_getElem? hm))
      have hbW : b < wr.heap.size := by omega
      clear hm hin qc
      have k0 : (0 : Int) ≤ (j : Int) := by omega
      have kn : (j : Int) < (n : Int) := by omega
      go_upto_region 6 with fail
      refine wp_region_lit ?_
      refine wpList_value rfl (.slice (some ⟨b, off, none⟩) n c) (by go_simp) ?_
      refine wpList_value rfl (.int .i64 (j : Int)) (by go_simp) ?_
      refine wpList_value rfl (.pointer (some ⟨b, off + j * 26, none⟩)) (by simp only [Act.put, List.setIfInBounds_toArray, List.set_cons_zero, List.set_cons_succ]; go_simp) ?_
      refine wpList_value rfl (.agg m.cs) (ex_load 48 (.tmp 17) rfl ⟨b, off + j * 26, none⟩ rfl m.cs _ Tryd.underlying48 rfl (ld48 _ (mk_size _)) HQ.out) ?_
      simp only [Act.put, List.setIfInBounds_toArray, List.set_cons_zero, List.set_cons_succ]
      cases hwb : wrB m with
      | false =>
        have HRW : Hid (Calls Tryd.prog 14 #[.agg m.cs] wr fun e w' => e = .returned (.bool false) ∧ Below wr.heap.size wr w') := by
          have := rwritable_any m wr HIN.out
          rw [hwb] at this
          exact this
        have HNO := hide (all_no HMJ.out hwb)
        clear hwb
        go_wp2_with (go_at_call 14; refine HRW.out.mono ?_; rintro e w2 ⟨rfl, hb2⟩; have HB2 := hide (HBB.out.trans (hb2.mono hsw)); clear hb2)
        first | refine bodyPost_end (results_tmp2 rfl _ _ _) rfl ?_ | refine bodyPost_ret (results_tmp2 rfl _ _ _) rfl ?_
        refine ⟨?_, HB2.out⟩
        unfold resT resN
        rw [HNO.out]
        rfl
      | true =>
        have HRW : Hid (Calls Tryd.prog 14 #[.agg m.cs] wr fun e w' => e = .returned (.bool true) ∧ Below wr.heap.size wr w') := by
          have := rwritable_any m wr HIN.out
          rw [hwb] at this
          exact this
        have HYES := hide (all_snoc HMJ.out HALL.out hwb)
        have HWB := hide hwb
        have hll2 := line_len2 HIN.out HWB.out HMZ.out
        clear hwb
        go_upto_region 9 with (go_at_call 14; refine HRW.out.mono ?_; rintro e w2 ⟨rfl, hb2⟩; have HB2 := hide (HBB.out.trans (hb2.mono hsw)); have HBr := hide hb2; clear hb2)
        have HIN2 := hide ((HIN.out.below HBr.out).more HBr.out.size)
        have HO2 := hide (own_step HO.out HBr.out)
        have HQ2 : Hid (∀ i v, m.cs[i]? = some v → w2.cell? ((⟨b, off + j * 26, none⟩ : Addr).add i) = some v) := fun i v hv => (HBr.out.cell (by rw [block_of_add]; exact hbW)).trans (HQ.out i v hv)
        clear HRW HO HIN HQ HBr
        refine wp_region_lit ?_
        refine wpList_value rfl _ (by go_simp; try with_reducible rfl) ?_
        refine wpList_value rfl (.slice (some ⟨b, off, none⟩) n c) (by go_simp) ?_
        refine wpList_value rfl (.int .i64 (j : Int)) (by go_simp) ?_
        refine wpList_value rfl (.pointer (some ⟨b, off + j * 26, none⟩)) (by simp only [Act.put, List.setIfInBounds_toArray, List.set_cons_zero, List.set_cons_succ]; go_simp) ?_
        refine wpList_value rfl (.agg m.cs) (ex_load 48 (.tmp 25) rfl ⟨b, off + j * 26, none⟩ rfl m.cs _ Tryd.underlying48 rfl (ld48 _ (mk_size _)) HQ2.out) ?_
        simp only [Act.put, List.setIfInBounds_toArray, List.set_cons_zero, List.set_cons_succ]
        refine wpList_step (fun K hK => ?_)
        rw [if_pos (by rfl)]
        go_simp
        go_at_call 20
        refine (line_any m w2 HIN2.out HWB.out HMZ.out).mono ?_
        rintro e w3 ⟨rfl, hb3⟩
        have HO3 := hide (own_step HO2.out hb3)
        have HB3 := hide (HB2.out.trans (hb3.mono HB2.out.size))
        clear hb3 HO2 HQ2 HB2
        refine hK _ _ ?_
        clear hK K
        try simp only [Act.put, List.setIfInBounds_toArray, List.set_cons_zero, List.set_cons_succ]
        refine wpList_value rfl (.string (S (cc (lineL m) [10]))) (ex_cat (.tmp 27) (.const (.string { data := #[10] })) 9 9 rfl rfl rfl (by simp only [List.length_cons, List.length_nil]; omega)) ?_
        simp only [Act.put, List.setIfInBounds_toArray, List.set_cons_zero, List.set_cons_succ]
        have hcl : (S (cc (lineL m) [10])).size ≤ 121000201 := by rw [S_size, cc_len]; simp only [List.length_cons, List.length_nil]; omega
        refine Lib.wpList_append_own_string _ rfl (.tmp 22) (.tmp 28) 42 9 rfl w.heap.size 5 i5 Tryd.underlying42 Tryd.underlying9 I5.out hz5 hs5 hb5 _ out.length (Lib.byteCells out) rfl HO3.out (S (cc (lineL m) [10])) rfl (by unfold maxLen; omega) (by omega) HB3.out.size ?_
        intro v4 w4 hown4 hgr4 _
        have HL4 : Hid (RLoop l n w v4 (.int .i64 ((j : Int) + 1)) w4) := by
          refine ⟨j + 1, out ++ (lineL m ++ [10]), by omega, by go_num, HYES.out, by rw [outL_snoc HMJ.out, ← HOUT.out], ?_, ?_, HB3.out.grown hgr4 HB3.out.size (fun k hk => (HO3.out.lt k hk).1)⟩
          · rw [S_size, cc_len] at hcl
            have : out.length ≤ 16 + 121000201 * j := HLENJ.out
            simp only [List.length_append, List.length_cons, List.length_nil] at hcl ⊢
            omega
          · rw [S_size, str_cells] at hown4
            have e1 : Lib.byteCells out ++ Lib.byteCells (cc (lineL m) [10]) = Lib.byteCells (out ++ (lineL m ++ [10])) := by simp [Lib.byteCells, cc]
            have e2 : out.length + (cc (lineL m) [10]).length = (out ++ (lineL m ++ [10])).length := by simp [cc]
            rw [e1, e2] at hown4
            exact hown4
        clear hown4 hgr4 HO3 hcl
        simp only [Act.put, List.setIfInBounds_toArray, List.set_cons_zero, List.set_cons_succ]
        go_wp2_with fail
        go_roundw
        case rel => first | exact HL4.out | exact ⟨_, _, _, HL4.out, rfl, rfl, rfl⟩
        case measure => simp [intOf]; omega
    · have kn : ¬ (j : Int) < (n : Int) := by omega
      obtain rfl : j = n := by omega
      obtain ⟨A4, c4, rfl, hr4, _⟩ := own_slice HO.out
      have HR4 := hide hr4
      clear hlt hr4
      go_wp2_with (refine wpList_value rfl (.string (S out)) (ex_conv _ rfl rfl HR4.out) ?_)
      first | refine bodyPost_end (results_tmp2 rfl _ _ _) rfl ?_ | refine bodyPost_ret (results_tmp2 rfl _ _ _) rfl ?_
      refine ⟨?_, HBB.out⟩
      have ht : l.take j = l := List.take_of_length_le (by have := hll.out; omega)
      have ha := HALL.out
      have ho := HOUT.out
      rw [ht] at ha ho
      unfold resT resN
      rw [if_pos ha, if_pos ha, ← ho]
      rfl
end Go.Proofs.YtenebkkfjalcaaaDoor
set_option linter.unusedVariables false
set_option linter.unusedSimpArgs false
namespace Go.Proofs.YtenebkkfjalcaaaDoor
open Go.RowKit Go.WideShapes Go.ChangeShapes Q

theorem info69 : (Tryd.prog.info? 69).map (fun i => (i.zero, i.size, i.bytes)) = some (some (.agg #[.int .i64 0, .int .i64 0, .int .i64 0]), 3, 24) := by kernel_rfl
theorem info48 : (Tryd.prog.info? 48).map (fun i => (i.zero, i.size, i.bytes)) = some (some (.agg #[.int .i64 0, .int .i64 0, .int .i64 0, .int .i64 0, .int .i64 0, .int .i64 0, .int .i64 0, .int .i64 0, .slice none 0 0, .slice none 0 0, .int .i64 0, .int .i64 0, .int .i64 0, .int .i64 0, .slice none 0 0, .int .i64 0, .int .i64 0, .int .i64 0, .int .i64 0, .string ⟨#[]⟩, .string ⟨#[]⟩, .string ⟨#[]⟩, .int .i64 0, .string ⟨#[]⟩, .int .i64 0, .int .i64 0]), 26, 288) := by kernel_rfl
/-- A mark whose lists are rows of the call's own. -/
structure MkT (w : World) (b : Nat) (m : Mk) : Prop where
  mem : w.ownsRow b 69 3 (.slice m.Am m.nm m.cm) m.nm (sts m.ms)
  tr : w.ownsRow b 3 1 (.slice m.At m.nt m.ct) m.nt (ints m.ts)
  body : w.ownsRow b 5 1 (.slice m.Ab m.nb m.cb) m.nb (Lib.byteCells m.bd)
  hm : m.nm ≤ 10000000
  ht : m.nt ≤ 10000000
  hb : m.nb ≤ 100000000
theorem MkT.inn {w : World} {b : Nat} {m : Mk} (h : MkT w b m) : MkIn w w.heap.size m := ⟨Reads.of_own h.mem, Reads.of_own h.tr, Reads.of_own h.body, h.hm, h.ht, h.hb⟩
theorem MkT.step {w w' : World} {b : Nat} {m : Mk} (h : MkT w b m) (hb : Below w.heap.size w w') : MkT w' b m := ⟨own_step h.mem hb, own_step h.tr hb, own_step h.body hb, h.hm, h.ht, h.hb⟩
theorem MkT.base {w : World} {b b' : Nat} {m : Mk} (h : MkT w b m) (hb : b' ≤ b) : MkT w b' m := ⟨own_base h.mem hb, own_base h.tr hb, own_base h.body hb, h.hm, h.ht, h.hb⟩
theorem own_kept {w w' : World} {b b' : Nat} {e e' : TypeId} {s s' n n' : Nat} {v v' : Value} {xs xs' : List Value} (h : w.ownsRow b e s v n xs) (h' : w.ownsRow b' e' s' v' n' xs') (hne : e ≠ e') (hg : w.grownBy w' v'.ownBlock) : w'.ownsRow b e s v n xs := by
  refine h.kept hg ?_
  rcases h.2 with ⟨rfl, _⟩ | ⟨g, cap, cur, rfl, _, hk, _⟩
  · exact .inl rfl
  · exact .inr (own_ne h' hk hne)
theorem MkT.push {w w' : World} {b b' n : Nat} {m : Mk} {v : Value} {xs : List Value} (h : MkT w b m) (h' : w.ownsRow b' 48 26 v n xs) (hg : w.grownBy w' v.ownBlock) : MkT w' b m :=
  ⟨own_kept h.mem h' (by decide) hg, own_kept h.tr h' (by decide) hg, own_kept h.body h' (by decide) hg, h.hm, h.ht, h.hb⟩
theorem sts_one (l : List (Int × Int × Int)) : ∀ u ∈ sts l, u.oneCell' = true := by
  intro u hu
  unfold sts at hu
  rw [List.mem_flatMap] at hu
  obtain ⟨s, _, h⟩ := hu
  simp at h
  rcases h with rfl | rfl | rfl <;> rfl
theorem bytes_one (l : List UInt8) : ∀ u ∈ Lib.byteCells l, u.oneCell' = true := by
  intro u hu
  unfold Lib.byteCells at hu
  obtain ⟨b, _, rfl⟩ := List.mem_map.1 hu
  rfl
theorem cs_one (m : Mk) : ∀ u ∈ m.cs.toList, u.oneCell' = true := by
  intro u hu
  have h : m.cs.all (·.oneCell') = true := by simp [Mk.cs, Value.oneCell']
  exact (Array.all_eq_true_iff_forall_mem.1 h) u (by simpa using hu)
theorem mkCells_snoc (l : List Mk) (m : Mk) : mkCells (l ++ [m]) = mkCells l ++ m.cs.toList := by simp [mkCells]
theorem own_slice' {w : World} {base : Nat} {e : TypeId} {size n : Nat} {v : Value} {xs : List Value} (h : w.ownsRow base e size v n xs) : ∃ A c, v = .slice A n c := by
  rcases h.2 with ⟨h0, h1⟩ | ⟨g, cap, cur, h0, _⟩
  · exact ⟨none, 0, by rw [h0, h1]⟩
  · exact ⟨_, _, h0⟩
section
variable {P : Program}
/-- A whole struct stored into the block that was made last. -/
theorem wpList_store_fresh {ops : Array Oper} {rest : List Oper} {o : Oper} {a : Act} {w : World} {Q : Exit → Act → World → Prop} (hgd : o.guard = none) (ty : TypeId) (x y : Operand) (ho : o.op = .store ty x y) (c c' : Array Value)
    (hx : a.eval x = .pointer (some ⟨w.heap.size, 0, none⟩)) (hy : a.eval y = .agg c') (hi : (P.info? ty).map (·.size) = some c'.size) (hz : c.size = c'.size) (h1 : c'.all (·.oneCell') = true)
    (h : wpList P ops Q rest (a.put o.dst undef) (w.alloc (.cells c' ty))) : wpList P ops Q (o :: rest) a (w.alloc (.cells c ty)) := by
  refine wpList_plain hgd fun K hK => ?_
  unfold Oper.wp execOp
  simp only [ho, hx, hy, run_storeAt_new w ty c c' hi hz h1, Sem.run_bind, Sem.run_pure, Result.andThen_ok]
  exact hK _ _ h
end
set_option maxRecDepth 100000 in
theorem run_one48 {o : Oper} {a : Act} {V : World} (x : Operand) (ho : o.op = .buildSlice 22 1 #[(0, x)]) (m : Mk) (hx : a.eval x = .agg m.cs) :
    (execOp a.eval o).run Tryd.prog V = .ok (.value (.slice (some ⟨V.heap.size, 0, none⟩) 1 1)) (V.alloc (.cells m.cs 48)) := by
  unfold execOp
  simp only [ho, List.map_toArray, List.map_cons, List.map_nil, hx]
  unfold Mk.cs
  go_simp
theorem wpList_one48 {ops : Array Oper} {rest : List Oper} {o : Oper} {a : Act} {V : World} {Q : Exit → Act → World → Prop} (hgd : o.guard = none) (x : Operand) (ho : o.op = .buildSlice 22 1 #[(0, x)]) (m : Mk) (hx : a.eval x = .agg m.cs)
    (h : wpList Tryd.prog ops Q rest (a.put o.dst (.slice (some ⟨V.heap.size, 0, none⟩) 1 1)) (V.alloc (.cells m.cs 48))) : wpList Tryd.prog ops Q (o :: rest) a V := by
  refine wpList_plain hgd fun K hK => ?_
  unfold Oper.wp
  rw [run_one48 x ho m hx]
  exact hK _ _ h
/-- What the loop keeps. -/
def CLoop (l : List Mk) (n : Nat) (w : World) (v i : Value) (wr : World) : Prop := ∃ (j : Nat) (l' : List Mk), j ≤ n ∧ i = .int .i64 j ∧ SameC (l.take j) l' ∧ wr.ownsRow w.heap.size 48 26 v j (mkCells l') ∧ (∀ m ∈ l', MkT wr w.heap.size m) ∧ Below w.heap.size w wr
theorem SameC.snoc {l l' : List Mk} {k : Nat} {m m' : Mk} (h : SameC (l.take k) l') (hm : l[k]? = some m) (hm' : ∃ Am cm At ct Ab cb, m' = m.at Am cm At ct Ab cb) : SameC (l.take (k + 1)) (l' ++ [m']) := by
  obtain ⟨hk, e⟩ := List.getElem?_eq_some_iff.1 hm
  have hl : l'.length = k := by have := h.1; rw [List.length_take] at this; omega
  rw [List.take_succ_eq_append_getElem hk, e]
  have hlt : (l.take k).length = k := by rw [List.length_take]; omega
  refine ⟨by simp [h.1], fun i a a' ha ha' => ?_⟩
  rcases Nat.lt_or_ge i k with hi | hi
  · rw [List.getElem?_append_left (by omega)] at ha ha'
    exact h.2 i a a' ha ha'
  · have hi2 : i = k := by
      have := (List.getElem?_eq_some_iff.1 ha').1
      simp at this
      omega
    subst hi2
    rw [List.getElem?_append_right (by omega), hlt, Nat.sub_self] at ha
    rw [List.getElem?_append_right (by omega), hl, Nat.sub_self] at ha'
    simp at ha ha'
    subst ha ha'
    exact hm'

/-- What comes out. -/
def CPost (l : List Mk) (n : Nat) (w : World) (e : Ending) (w' : World) : Prop := ∃ A' c' l', e = .returned (.slice A' n c') ∧ SameC l l' ∧ MsIn w' w'.heap.size A' n l' ∧ Below w.heap.size w w'

set_option maxRecDepth 100000 in
set_option maxHeartbeats 8000000 in
theorem marksOf_any (A : Option Addr) (n c : Nat) (l : List Mk) (w : World) (h : MsIn w w.heap.size A n l) (hn : n ≤ 1048576) :
    Calls Tryd.prog 7 #[.slice A n c] w fun e w' => CPost l n w e w' := by
  have H := hide h
  have hll := hide h.len
  obtain ⟨i3, hi3, hz3, hs3, hb3⟩ := info_parts info3
  obtain ⟨i5, hi5, hz5, hs5, hb5⟩ := info_parts info5
  obtain ⟨i69, hi69, hz69, hs69, hb69⟩ := info_parts info69
  obtain ⟨i48, hi48, hz48, hs48, hb48⟩ := info_parts info48
  have I3 := hide hi3
  have I5 := hide hi5
  have I69 := hide hi69
  have I48 := hide hi48
  have Z3 := hide hz3
  have Z5 := hide hz5
  have Z69 := hide hz69
  have Z48 := hide hz48
  have HL1 : Hid (CLoop l n w (.slice none 0 0) (.int .i64 0) w) := ⟨0, [], Nat.zero_le _, rfl, ⟨rfl, fun k m m' h1 h2 => by simp at h2⟩, World.ownsRow_nil _ _ _ _, fun m hm => by simp at hm, Below.refl _ _⟩
  clear hi3 hi5 hi69 hi48 hz3 hz5 hz69 hz48 h
  go_enter Tryd.func7, Tryd.ntmps7
  go_upto_region 3 with fail
  go_loopw [3, 4, 5] (fun v i _ wr => CLoop l n w v i wr) (fun _ i _ _ => n - (intOf i).toNat)
  case atStart => exact HL1.out
  case round =>
    clear HL1
    unfold CLoop at hrel
    obtain ⟨j, l', hj, rfl, hsame, hown, hent, hb⟩ := hrel
    have HSA := hide hsame
    have HO := hide hown
    have HE := hide hent
    have HBB := hide hb
    obtain ⟨Av, cv, rfl⟩ := own_slice' hown
    clear hsame hown hent hb
    have hsw : w.heap.size ≤ wr.heap.size := HBB.out.size
    by_cases hlt : j < n
    · obtain ⟨b, off, m, rfl, hbB, hm, hin, qc⟩ := (H.out.below HBB.out).at_ hlt
      have HQ := hide (cells_add qc)
      have HMJ := hide hm
      have HIN := hide hin
      have hbW : b < wr.heap.size := by omega
      clear hm hin qc
      have k0 : (0 : Int) ≤ (j : Int) := by omega
      have kn : (j : Int) < (n : Int) := by omega
      go_upto_region 5 with fail
      refine wp_region_lit ?_
      refine wpList_value rfl (.slice (some ⟨b, off, none⟩) n c) (by go_simp) ?_
      refine wpList_value rfl (.int .i64 (j : Int)) (by go_simp) ?_
      refine wpList_value rfl (.pointer (some ⟨b, off + j * 26, none⟩)) (by simp only [Act.put, List.setIfInBounds_toArray, List.set_cons_zero, List.set_cons_succ]; go_simp) ?_
      refine wpList_value rfl (.agg m.cs) (ex_load 48 (.tmp 14) rfl ⟨b, off + j * 26, none⟩ rfl m.cs _ Tryd.underlying48 rfl (ld48 _ (mk_size _)) HQ.out) ?_
      simp only [Act.put, List.setIfInBounds_toArray, List.set_cons_zero, List.set_cons_succ]
      refine wpList_step (fun K hK => ?_)
      rw [if_pos (by rfl)]
      go_simp
      refine hK _ _ ?_
      clear hK K
      refine wpList_store_fresh rfl 48 (.tmp 5) (.tmp 15) rfl _ m.cs rfl rfl (ld48 _ (mk_size _)) rfl (by simp [Mk.cs, Value.oneCell']) ?_
      simp only [Act.put, List.setIfInBounds_toArray, List.set_cons_zero, List.set_cons_succ]
      go_upto_region 6 with fail
      obtain ⟨W0, hW0⟩ : ∃ W0, W0 = World.alloc wr (.cells m.cs 48) := ⟨_, rfl⟩
      have HP0 : Hid (Blk W0 wr.heap.size 48 m.cs) := by
        show Blk W0 wr.heap.size 48 m.cs
        rw [hW0]
        exact Blk.new _ _ _
      have HW0 : Hid (Below wr.heap.size wr W0) := by
        show Below wr.heap.size wr W0
        rw [hW0]
        exact (Below.refl _ _).alloc (Nat.le_refl _) _
      rw [← hW0]
      clear hW0 HQ
      obtain ⟨C0, hC0⟩ : ∃ C0, C0 = m.cs := ⟨_, rfl⟩
      rw [← hC0] at HP0
      have HC0 := hide hC0
      clear hC0
      have hbig0 : m.nm ≤ 100000000 := by have := HIN.out.hm; omega
      have kC : (W0.alloc (.cells #[] 69)).cell? ⟨wr.heap.size, 8, none⟩ = some (.slice m.Am m.nm m.cm) := by
        have := (HP0.out.alloc (.cells #[] 69)).cell 8
        rw [this, HC0.out]
        rfl
      have HN0 : Hid ((W0.alloc (.cells #[] 69)).ownsRow wr.heap.size 69 3 (.slice (some ⟨W0.heap.size, 0, none⟩) 0 0) 0 []) := own_none (Blk.new W0 69 #[]) HW0.out.size
      have HR0 : Hid (Reads (W0.alloc (.cells #[] 69)) w.heap.size 3 m.Am m.nm (sts m.ms)) := (Reads.below HIN.out.mem (HW0.out.mono hsw)).alloc (by have := HW0.out.size; omega) _
      have HWa0 : Hid (Below wr.heap.size wr (W0.alloc (.cells #[] 69))) := HW0.out.alloc HW0.out.size _
      go_upto_region 7 with (at_builtin; refine wpList_append_any _ rfl (.tmp 16) (.tmp 18) 40 rfl wr.heap.size 69 i69 _ 3 24 Tryd.underlying40 I69.out Z69.out hs69 hb69 rfl (by omega) (.slice (some ⟨W0.heap.size, 0, none⟩) 0 0) 0 [] rfl HN0.out w.heap.size m.Am m.nm m.cm (sts m.ms) rfl HR0.out (sts_one _) (by unfold maxLen; omega) (by omega) HWa0.out.size ?_; intro v wa hown hgr _; rw [Nat.zero_add, List.nil_append] at hown; obtain ⟨A0, c0, rfl⟩ := own_slice' hown; have HPa0 := hide ((HP0.out.alloc _).grown hgr (by intro e; have h1 : wr.heap.size = W0.heap.size := Option.some.inj e; have h2 := HP0.out.lt; omega)); have HOa0 := hide hown; have HGa0 := hide hgr; have HWb0 := hide (HWa0.out.grown hgr HWa0.out.size (fun q hq => by have h1 : W0.heap.size = q := Option.some.inj hq; have h2 := HW0.out.size; omega)); have kD : wa.cell? ⟨wr.heap.size, 8, none⟩ = some (.slice m.Am m.nm m.cm) := (by have := HPa0.out.cell 8; rw [this, HC0.out]; rfl); have fD := HPa0.out.frozen 8; clear hown hgr)
      clear kC
      obtain ⟨W1, hW⟩ : ∃ W, W = World.setCell wa ⟨wr.heap.size, 8, none⟩ (.slice A0 m.nm c0) := ⟨_, rfl⟩
      obtain ⟨C1, hC⟩ : ∃ C, C = C0.setIfInBounds 8 (.slice A0 m.nm c0) := ⟨_, rfl⟩
      have HP1 : Hid (Blk W1 wr.heap.size 48 C1) := by
        show Blk W1 wr.heap.size 48 C1
        rw [hW, hC]
        exact HPa0.out.set_ 8 _
      have HW1 : Hid (Below wr.heap.size wr W1) := by
        show Below wr.heap.size wr W1
        rw [hW]
        exact HWb0.out.setCell (Nat.le_refl _) _
      have HO0_1 : Hid (W1.ownsRow wr.heap.size 69 3 (.slice A0 m.nm c0) m.nm (sts m.ms)) := by
        show World.ownsRow W1 _ _ _ _ _ _
        rw [hW]
        exact ownsRow_setCell_other HOa0.out (own_blk_ne HOa0.out HPa0.out (by decide)) _
      have HC1 := hide hC
      rw [← hW]
      clear hW hC kD fD HN0 HR0 HWa0 HPa0 HOa0 HGa0 HWb0
      have hbig1 : m.nt ≤ 100000000 := by have := HIN.out.ht; omega
      have kC : (W1.alloc (.cells #[] 3)).cell? ⟨wr.heap.size, 9, none⟩ = some (.slice m.At m.nt m.ct) := by
        have := (HP1.out.alloc (.cells #[] 3)).cell 9
        rw [this, HC1.out, HC0.out]
        rfl
      have HN1 : Hid ((W1.alloc (.cells #[] 3)).ownsRow wr.heap.size 3 1 (.slice (some ⟨W1.heap.size, 0, none⟩) 0 0) 0 []) := own_none (Blk.new W1 3 #[]) HW1.out.size
      have HR1 : Hid (Reads (W1.alloc (.cells #[] 3)) w.heap.size 1 m.At m.nt (ints m.ts)) := (Reads.below HIN.out.tr (HW1.out.mono hsw)).alloc (by have := HW1.out.size; omega) _
      have HWa1 : Hid (Below wr.heap.size wr (W1.alloc (.cells #[] 3))) := HW1.out.alloc HW1.out.size _
      go_upto_region 8 with (at_builtin; refine wpList_append_any _ rfl (.tmp 21) (.tmp 23) 41 rfl wr.heap.size 3 i3 _ 1 8 Tryd.underlying41 I3.out Z3.out hs3 hb3 rfl (by omega) (.slice (some ⟨W1.heap.size, 0, none⟩) 0 0) 0 [] rfl HN1.out w.heap.size m.At m.nt m.ct (ints m.ts) rfl HR1.out (ints_one' _) (by unfold maxLen; omega) (by omega) HWa1.out.size ?_; intro v wa hown hgr _; rw [Nat.zero_add, List.nil_append] at hown; obtain ⟨A1, c1, rfl⟩ := own_slice' hown; have HPa1 := hide ((HP1.out.alloc _).grown hgr (by intro e; have h1 : wr.heap.size = W1.heap.size := Option.some.inj e; have h2 := HP1.out.lt; omega)); have HOa1 := hide hown; have HGa1 := hide hgr; have HWb1 := hide (HWa1.out.grown hgr HWa1.out.size (fun q hq => by have h1 : W1.heap.size = q := Option.some.inj hq; have h2 := HW1.out.size; omega)); have kD : wa.cell? ⟨wr.heap.size, 9, none⟩ = some (.slice m.At m.nt m.ct) := (by have := HPa1.out.cell 9; rw [this, HC1.out, HC0.out]; rfl); have fD := HPa1.out.frozen 9; clear hown hgr)
      clear kC
      obtain ⟨W2, hW⟩ : ∃ W, W = World.setCell wa ⟨wr.heap.size, 9, none⟩ (.slice A1 m.nt c1) := ⟨_, rfl⟩
      obtain ⟨C2, hC⟩ : ∃ C, C = C1.setIfInBounds 9 (.slice A1 m.nt c1) := ⟨_, rfl⟩
      have HP2 : Hid (Blk W2 wr.heap.size 48 C2) := by
        show Blk W2 wr.heap.size 48 C2
        rw [hW, hC]
        exact HPa1.out.set_ 9 _
      have HW2 : Hid (Below wr.heap.size wr W2) := by
        show Below wr.heap.size wr W2
        rw [hW]
        exact HWb1.out.setCell (Nat.le_refl _) _
      have HO1_2 : Hid (W2.ownsRow wr.heap.size 3 1 (.slice A1 m.nt c1) m.nt (ints m.ts)) := by
        show World.ownsRow W2 _ _ _ _ _ _
        rw [hW]
        exact ownsRow_setCell_other HOa1.out (own_blk_ne HOa1.out HPa1.out (by decide)) _
      have HO0_2 : Hid (W2.ownsRow wr.heap.size 69 3 (.slice A0 m.nm c0) m.nm (sts m.ms)) := by
        show World.ownsRow W2 _ _ _ _ _ _
        rw [hW]
        have h1 := own_kept (HO0_1.out.alloc (.cells #[] 3)) HN1.out (by decide) HGa1.out
        exact ownsRow_setCell_other h1 (own_blk_ne h1 HPa1.out (by decide)) _
      have HC2 := hide hC
      rw [← hW]
      clear hW hC kD fD HN1 HR1 HWa1 HPa1 HOa1 HGa1 HWb1
      have hbig2 : m.nb ≤ 100000000 := by have := HIN.out.hb; omega
      have kC : (W2.alloc (.cells #[] 5)).cell? ⟨wr.heap.size, 14, none⟩ = some (.slice m.Ab m.nb m.cb) := by
        have := (HP2.out.alloc (.cells #[] 5)).cell 14
        rw [this, HC2.out, HC1.out, HC0.out]
        rfl
      have HN2 : Hid ((W2.alloc (.cells #[] 5)).ownsRow wr.heap.size 5 1 (.slice (some ⟨W2.heap.size, 0, none⟩) 0 0) 0 []) := own_none (Blk.new W2 5 #[]) HW2.out.size
      have HR2 : Hid (Reads (W2.alloc (.cells #[] 5)) w.heap.size 1 m.Ab m.nb (Lib.byteCells m.bd)) := (Reads.below HIN.out.body (HW2.out.mono hsw)).alloc (by have := HW2.out.size; omega) _
      have HWa2 : Hid (Below wr.heap.size wr (W2.alloc (.cells #[] 5))) := HW2.out.alloc HW2.out.size _
      go_upto_region 9 with (at_builtin; refine wpList_append_any _ rfl (.tmp 26) (.tmp 28) 42 rfl wr.heap.size 5 i5 _ 1 1 Tryd.underlying42 I5.out Z5.out hs5 hb5 rfl (by omega) (.slice (some ⟨W2.heap.size, 0, none⟩) 0 0) 0 [] rfl HN2.out w.heap.size m.Ab m.nb m.cb (Lib.byteCells m.bd) rfl HR2.out (bytes_one _) (by unfold maxLen; omega) (by omega) HWa2.out.size ?_; intro v wa hown hgr _; rw [Nat.zero_add, List.nil_append] at hown; obtain ⟨A2, c2, rfl⟩ := own_slice' hown; have HPa2 := hide ((HP2.out.alloc _).grown hgr (by intro e; have h1 : wr.heap.size = W2.heap.size := Option.some.inj e; have h2 := HP2.out.lt; omega)); have HOa2 := hide hown; have HGa2 := hide hgr; have HWb2 := hide (HWa2.out.grown hgr HWa2.out.size (fun q hq => by have h1 : W2.heap.size = q := Option.some.inj hq; have h2 := HW2.out.size; omega)); have kD : wa.cell? ⟨wr.heap.size, 14, none⟩ = some (.slice m.Ab m.nb m.cb) := (by have := HPa2.out.cell 14; rw [this, HC2.out, HC1.out, HC0.out]; rfl); have fD := HPa2.out.frozen 14; clear hown hgr)
      clear kC
      obtain ⟨W3, hW⟩ : ∃ W, W = World.setCell wa ⟨wr.heap.size, 14, none⟩ (.slice A2 m.nb c2) := ⟨_, rfl⟩
      obtain ⟨C3, hC⟩ : ∃ C, C = C2.setIfInBounds 14 (.slice A2 m.nb c2) := ⟨_, rfl⟩
      have HP3 : Hid (Blk W3 wr.heap.size 48 C3) := by
        show Blk W3 wr.heap.size 48 C3
        rw [hW, hC]
        exact HPa2.out.set_ 14 _
      have HW3 : Hid (Below wr.heap.size wr W3) := by
        show Below wr.heap.size wr W3
        rw [hW]
        exact HWb2.out.setCell (Nat.le_refl _) _
      have HO2_3 : Hid (W3.ownsRow wr.heap.size 5 1 (.slice A2 m.nb c2) m.nb (Lib.byteCells m.bd)) := by
        show World.ownsRow W3 _ _ _ _ _ _
        rw [hW]
        exact ownsRow_setCell_other HOa2.out (own_blk_ne HOa2.out HPa2.out (by decide)) _
      have HO0_3 : Hid (W3.ownsRow wr.heap.size 69 3 (.slice A0 m.nm c0) m.nm (sts m.ms)) := by
        show World.ownsRow W3 _ _ _ _ _ _
        rw [hW]
        have h1 := own_kept (HO0_2.out.alloc (.cells #[] 5)) HN2.out (by decide) HGa2.out
        exact ownsRow_setCell_other h1 (own_blk_ne h1 HPa2.out (by decide)) _
      have HO1_3 : Hid (W3.ownsRow wr.heap.size 3 1 (.slice A1 m.nt c1) m.nt (ints m.ts)) := by
        show World.ownsRow W3 _ _ _ _ _ _
        rw [hW]
        have h1 := own_kept (HO1_2.out.alloc (.cells #[] 5)) HN2.out (by decide) HGa2.out
        exact ownsRow_setCell_other h1 (own_blk_ne h1 HPa2.out (by decide)) _
      have HC3 := hide hC
      rw [← hW]
      clear hW hC kD fD HN2 HR2 HWa2 HPa2 HOa2 HGa2 HWb2
      obtain ⟨m', hm'⟩ : ∃ m', m' = m.at A0 c0 A1 c1 A2 c2 := ⟨_, rfl⟩
      have HM' := hide hm'
      have HPF : Hid (Blk W3 wr.heap.size 48 m'.cs) := by
        show Blk W3 wr.heap.size 48 m'.cs
        have h1 := HP3.out
        rw [HC3.out, HC2.out, HC1.out, HC0.out] at h1
        rw [hm']
        exact h1
      have HMT : Hid (MkT W3 w.heap.size m') := by
        show MkT W3 w.heap.size m'
        rw [hm']
        exact ⟨own_base HO0_3.out hsw, own_base HO1_3.out hsw, own_base HO2_3.out hsw, HIN.out.hm, HIN.out.ht, HIN.out.hb⟩
      have HOv : Hid (W3.ownsRow w.heap.size 48 26 (.slice Av j cv) j (mkCells l')) := own_step HO.out HW3.out
      have HE3 : Hid (∀ q ∈ l', MkT W3 w.heap.size q) := fun q hq => (HE.out q hq).step HW3.out
      have HB3 := hide (HBB.out.trans (HW3.out.mono hsw))
      clear hm' HP3 HC3 HC2 HC1 HC0 HO0_3 HO1_3 HO2_3 HO HE HW3 HP0 HP1 HP2
      refine wp_region_lit ?_
      refine wpList_value rfl (.slice Av j cv) (by go_simp) ?_
      refine wpList_value rfl (.agg m'.cs) (ex_load 48 (.tmp 5) rfl _ rfl m'.cs _ Tryd.underlying48 rfl (ld48 _ (mk_size _)) (box_all HPF.out)) ?_
      simp only [Act.put, List.setIfInBounds_toArray, List.set_cons_zero, List.set_cons_succ]
      refine wpList_one48 rfl (.tmp 32) rfl m' rfl ?_
      simp only [Act.put, List.setIfInBounds_toArray, List.set_cons_zero, List.set_cons_succ]
      refine wpList_push (W := W3) (cs := m'.cs) rfl (.tmp 31) (.tmp 33) 22 rfl w.heap.size 48 i48 _ 26 288 Tryd.underlying22 I48.out Z48.out hs48 hb48 rfl (by omega) (.slice Av j cv) j (mkCells l') rfl HOv.out 1 1 rfl rfl (cs_one m') (by omega) (by unfold maxLen; omega) (by omega) HB3.out.size ?_
      intro g4 c4 W4 hown4 hgr4 hb4 _ _ _
      have HL4 : Hid (CLoop l n w (.slice (some ⟨g4, 0, none⟩) (j + 1) c4) (.int .i64 ((j : Int) + 1)) W4) := by
        refine ⟨j + 1, l' ++ [m'], by omega, by go_num, HSA.out.snoc HMJ.out ⟨_, _, _, _, _, _, HM'.out⟩, ?_, ?_, HB3.out.trans hb4⟩
        · rw [mkCells_snoc]
          exact hown4
        · intro q hq
          rcases List.mem_append.1 hq with hq | hq
          · exact ((HE3.out q hq).step ((Below.refl _ _).alloc (Nat.le_refl _) _)).push (HOv.out.alloc _) hgr4
          · obtain rfl : q = m' := by simpa using hq
            exact (HMT.out.step ((Below.refl _ _).alloc (Nat.le_refl _) _)).push (HOv.out.alloc _) hgr4
      clear hown4 hgr4 hb4 HOv HE3 HB3 HMT HPF
      simp only [Act.put, List.setIfInBounds_toArray, List.set_cons_zero, List.set_cons_succ]
      go_wp2_with fail
      go_roundw
      case rel => first | exact HL4.out | exact ⟨_, _, _, HL4.out, rfl, rfl, rfl⟩
      case measure => simp [intOf]; omega
    · have kn : ¬ (j : Int) < (n : Int) := by omega
      obtain rfl : j = n := by omega
      clear hlt
      go_wp2_with fail
      go_ret
      have ht : l.take j = l := List.take_of_length_le (by have := hll.out; omega)
      have hs := HSA.out
      rw [ht] at hs
      exact ⟨Av, cv, l', rfl, hs, ⟨Reads.of_own HO.out, fun q hq => (HE.out q hq).inn⟩, HBB.out⟩
end Go.Proofs.YtenebkkfjalcaaaDoor
set_option linter.unusedVariables false
set_option linter.unusedSimpArgs false
namespace Go.Proofs.YtenebkkfjalcaaaDoor
open Go.RowKit Go.WideShapes Go.ChangeShapes Q

section
variable {w w' : World} {g b : Nat} {t : TypeId} {cs cs' : Array Value} {m : Mk}
theorem Blk.row (h : Blk w g t cs) (cells : Array Value) : Blk (w.setRow g cells) g t cells := setRow_heap w g cs cells t (0, 0) h
theorem Blk.row_far {k : Nat} (h : Blk w k t cs) (hne : k ≠ g) (cells : Array Value) : Blk (w.setRow g cells) k t cs := (setRow_other w g k cells hne).trans h
theorem Only.setRow {F : Nat → Prop} {w1 : World} (h : Only F w w1) (hF : g < w.heap.size → F g) (cells : Array Value) : Only F w (w1.setRow g cells) :=
  ⟨h.os, h.tape, h.output, by simpa using h.size, fun k hk hn => (setRow_other w1 g k cells (by
    rintro rfl
    exact hn (hF hk))).trans (h.block k hk hn)⟩
end
/-- Bytes in a block of their own, whatever of it is marked. -/
def RB (w : World) (b : Nat) (A : Option Addr) (n : Nat) (l : List UInt8) : Prop :=
  l.length = n ∧ (n = 0 ∨ ∃ g cs fr, A = some ⟨g, 0, none⟩ ∧ b ≤ g ∧ w.heap[g]? = some (.cells cs 5 fr) ∧ ∀ j, j < n → cs[j]? = (Lib.byteCells l)[j]?)
section
variable {w w' : World} {b n : Nat} {A : Option Addr} {l : List UInt8}
theorem cell_of_any {w : World} {g j : Nat} {cs : Array Value} {t : TypeId} {fr : Nat × Nat} (h : w.heap[g]? = some (.cells cs t fr)) : w.cell? ⟨g, j, none⟩ = cs[j]? := by simp [World.cell?, h]
theorem RB.reads (h : RB w b A n l) : Reads w w.heap.size 1 A n (Lib.byteCells l) := by
  have hl : (Lib.byteCells l).length = l.length := by simp [Lib.byteCells]
  refine ⟨by rw [hl, h.1]; omega, fun hn => ?_⟩
  rcases h.2 with h0 | ⟨g, cs, fr, e, hb, hg, hc⟩
  · omega
  · refine ⟨_, e, (Array.getElem?_eq_some_iff.1 hg).1, fun j u hu => ?_⟩
    have hj : j < n := by have := (List.getElem?_eq_some_iff.1 hu).1; rw [hl, h.1] at this; exact this
    have e2 : (⟨g, 0, none⟩ : Addr).add j = ⟨g, j, none⟩ := by
      unfold Addr.add
      split
      · rename_i h0; subst h0; rfl
      · simp
    rw [e2, cell_of_any hg, hc j hj, hu]
theorem RB.step (h : RB w b A n l) (hb : Below w.heap.size w w') : RB w' b A n l := by
  refine ⟨h.1, ?_⟩
  rcases h.2 with h0 | ⟨g, cs, fr, e, hbg, hg, hc⟩
  · exact .inl h0
  · exact .inr ⟨g, cs, fr, e, hbg, (hb.block g (Array.getElem?_eq_some_iff.1 hg).1).trans hg, hc⟩
theorem RB.only {F : Nat → Prop} (h : RB w b A n l) (ho : Only F w w') (hF : ∀ g cs fr, w.heap[g]? = some (.cells cs 5 fr) → ¬ F g) : RB w' b A n l := by
  refine ⟨h.1, ?_⟩
  rcases h.2 with h0 | ⟨g, cs, fr, e, hbg, hg, hc⟩
  · exact .inl h0
  · exact .inr ⟨g, cs, fr, e, hbg, (ho.block g (Array.getElem?_eq_some_iff.1 hg).1 (hF g cs fr hg)).trans hg, hc⟩
theorem RB.grown {b' n' s' : Nat} {e' : TypeId} {v : Value} {xs : List Value} (h : RB w b A n l) (h' : w.ownsRow b' e' s' v n' xs) (hne : e' ≠ 5) (hg : w.grownBy w' v.ownBlock) : RB w' b A n l := by
  refine h.only (Only.of_grown (F := fun k => v.ownBlock = some k) hg (fun g hg _ => hg)) ?_
  intro g cs fr hh hv
  rcases h'.2 with ⟨rfl, _⟩ | ⟨g', cap, cur, rfl, _, hk, _⟩
  · simp [Value.ownBlock] at hv
  · obtain rfl : g' = g := by simpa [Value.ownBlock] using hv
    rw [hh] at hk
    injection hk with hk
    injection hk with _ ht
    exact hne ht.symm
theorem RB.nil (w : World) (b : Nat) (A : Option Addr) : RB w b A 0 [] := ⟨rfl, .inl rfl⟩
theorem RB.base {b' : Nat} (h : RB w b A n l) (hb : b' ≤ b) : RB w b' A n l := by
  refine ⟨h.1, ?_⟩
  rcases h.2 with h0 | ⟨g, cs, fr, e, hbg, hg, hc⟩
  · exact .inl h0
  · exact .inr ⟨g, cs, fr, e, by omega, hg, hc⟩
/-- What a conversion of a text lays. -/
theorem RB.made (w : World) (s : ByteArray) (hb : b ≤ w.heap.size) (c : Nat) (fr : Nat × Nat) : RB (w.drew.alloc (.cells (bytesRow s c) 5 fr)) b (some ⟨w.heap.size, 0, none⟩) s.size s.data.toList := by
  refine ⟨str_len s, .inr ⟨w.heap.size, bytesRow s c, fr, rfl, hb, ?_, ?_⟩⟩
  · exact heap_alloc_new w.drew _
  · intro j hj
    have hj2 : j < s.data.size := hj
    unfold bytesRow Lib.byteCells
    rw [Array.getElem?_append_left (by simpa using hj2), Array.getElem?_map, List.getElem?_map, Array.getElem?_toList]
end
/-- A mark whose lists are the call's own. -/
structure MkU (w : World) (b : Nat) (m : Mk) : Prop where
  mem : w.ownsRow b 69 3 (.slice m.Am m.nm m.cm) m.nm (sts m.ms)
  tr : w.ownsRow b 3 1 (.slice m.At m.nt m.ct) m.nt (ints m.ts)
  body : RB w b m.Ab m.nb m.bd
  hm : m.nm ≤ 10000000
  ht : m.nt ≤ 10000000
  hb : m.nb ≤ 100000000
section
variable {w w' : World} {g b : Nat} {t : TypeId} {cs cs' : Array Value} {m : Mk}
theorem MkU.inn (h : MkU w b m) : MkIn w w.heap.size m := ⟨Reads.of_own h.mem, Reads.of_own h.tr, h.body.reads, h.hm, h.ht, h.hb⟩
theorem MkU.step (h : MkU w b m) (hb : Below w.heap.size w w') : MkU w' b m := ⟨own_step h.mem hb, own_step h.tr hb, h.body.step hb, h.hm, h.ht, h.hb⟩
theorem MkU.base {b' : Nat} (h : MkU w b m) (hb : b' ≤ b) : MkU w b' m := ⟨own_base h.mem hb, own_base h.tr hb, h.body.base hb, h.hm, h.ht, h.hb⟩
theorem MkU.push {b' n : Nat} {v : Value} {xs : List Value} (h : MkU w b m) (h' : w.ownsRow b' 48 26 v n xs) (hg : w.grownBy w' v.ownBlock) : MkU w' b m :=
  ⟨own_kept h.mem h' (by decide) hg, own_kept h.tr h' (by decide) hg, h.body.grown h' (by decide) hg, h.hm, h.ht, h.hb⟩
/-- Rows of other types stay where one block is written. -/
theorem MkU.far (h : MkU w b m) (hg : Blk w g t cs) (h1 : t ≠ 69) (h2 : t ≠ 3) (h3 : t ≠ 5) (ho : Only (fun q => q = g) w w') : MkU w' b m := by
  have hap : ∀ e : TypeId, t ≠ e → Apart w (fun q => q = g) e := fun e he k hk hq => by
    subst hq
    exact ⟨t, cs, hg, he⟩
  refine ⟨own_apart h.mem ho (hap 69 h1), own_apart h.tr ho (hap 3 h2), h.body.only ho ?_, h.hm, h.ht, h.hb⟩
  rintro k c fr hk rfl
  have := hk.symm.trans hg
  injection this with this
  injection this with _ ht
  exact h3 ht.symm
theorem MkU.drew (h : MkU w b m) : MkU w.drew b m := ⟨h.mem, h.tr, h.body, h.hm, h.ht, h.hb⟩
theorem MkU.alloc (h : MkU w b m) (o : Obj) : MkU (w.alloc o) b m := h.step ((Below.refl _ _).alloc (Nat.le_refl _) o)
end
/-- Cells put into a row of cells. -/
def putAt (old : Array Value) (off : Nat) (cells : Array Value) : Array Value := (old.toList.take off ++ cells.toList ++ old.toList.drop (off + cells.size)).toArray
section
variable {P : Program}
/-- A store of a struct's cells at a place of a block. -/
theorem wpList_put_at {ops : Array Oper} {rest : List Oper} {o : Oper} {a : Act} {w : World} {Q : Exit → Act → World → Prop} (hgd : o.guard = none) (ty : TypeId) (x y : Operand) (ho : o.op = .store ty x y)
    (g off : Nat) (cells : Array Value) (hx : a.eval x = .pointer (some ⟨g, off, none⟩)) (hy : a.eval y = .agg cells)
    (t : TypeId) (old : Array Value) (hg : Blk w g t old) (hi : (P.info? ty).map (·.size) = some cells.size)
    (hold : off + cells.size ≤ old.size) (h1 : cells.all (·.oneCell') = true)
    (new : Array Value) (hn : putAt old off cells = new)
    (h : wpList P ops Q rest (a.put o.dst undef) (w.setRow g new)) : wpList P ops Q (o :: rest) a w := by
  subst hn
  refine wpList_plain hgd fun K hK => ?_
  have hst := run_storeCells_at P g off t cells.toList 0 old w hg (by simpa using hold) (fun v hv => (Array.all_eq_true_iff_forall_mem.1 h1) v (by simpa using hv))
  have hv : (storeVar ty ⟨g, off, none⟩ (.agg cells)).run P w = .ok () (w.setRow g (putAt old off cells)) := by
    cases hq : P.info? ty with
    | none => simp [hq] at hi
    | some i =>
      have hs : cells.size = i.size := by simp [hq] at hi; omega
      simp only [Nat.add_zero, Array.length_toList] at hst
      simp [storeVar, sizeOf, typeInfo, hq, Value.cells, hs]
      rw [hs] at hst
      simpa [putAt, hs] using hst
  unfold Oper.wp execOp
  simp only [ho, hx, hy, Instr.storeAt, Instr.sureAddr, Sem.run_bind, Sem.run_pure, Result.andThen_ok, hv]
  exact hK _ _ h
/-- The same as a run equation. -/
theorem run_put_at {o : Oper} {a : Act} {w : World} (ty : TypeId) (x y : Operand) (ho : o.op = .store ty x y)
    (g off : Nat) (cells : Array Value) (hx : a.eval x = .pointer (some ⟨g, off, none⟩)) (hy : a.eval y = .agg cells)
    (t : TypeId) (old : Array Value) (hg : Blk w g t old) (hi : (P.info? ty).map (·.size) = some cells.size)
    (hold : off + cells.size ≤ old.size) (h1 : cells.all (·.oneCell') = true)
    (new : Array Value) (hn : putAt old off cells = new) : (execOp a.eval o).run P w = .ok .skip (w.setRow g new) := by
  subst hn
  have hst := run_storeCells_at P g off t cells.toList 0 old w hg (by simpa using hold) (fun v hv => (Array.all_eq_true_iff_forall_mem.1 h1) v (by simpa using hv))
  have hv : (storeVar ty ⟨g, off, none⟩ (.agg cells)).run P w = .ok () (w.setRow g (putAt old off cells)) := by
    cases hq : P.info? ty with
    | none => simp [hq] at hi
    | some i =>
      have hs : cells.size = i.size := by simp [hq] at hi; omega
      simp only [Nat.add_zero, Array.length_toList] at hst
      simp [storeVar, sizeOf, typeInfo, hq, Value.cells, hs]
      rw [hs] at hst
      simpa [putAt, hs] using hst
  unfold execOp
  simp only [ho, hx, hy, Instr.storeAt, Instr.sureAddr, Sem.run_bind, Sem.run_pure, Result.andThen_ok, hv]
theorem one_skip {ops : Array Oper} {o : Oper} {a : Act} {V V' : World} {K : Act → World → Prop} {Q : Exit → Act → World → Prop} {E : Prop} (hw : Region.wanted o (yielded ops a.tmps) = true) (he : (execOp a.eval o).run P V = .ok .skip V') (h : K (a.put o.dst undef) V') :
    if Region.wanted o (yielded ops a.tmps) = true then Oper.wp P o a V K Q else E := by
  rw [if_pos hw]
  unfold Oper.wp
  rw [he]
  exact h
theorem one_value {ops : Array Oper} {o : Oper} {a : Act} {V V' : World} {K : Act → World → Prop} {Q : Exit → Act → World → Prop} {E : Prop} (hw : Region.wanted o (yielded ops a.tmps) = true) (v : Value) (he : (execOp a.eval o).run P V = .ok (.value v) V') (h : K (a.put o.dst v) V') :
    if Region.wanted o (yielded ops a.tmps) = true then Oper.wp P o a V K Q else E := by
  rw [if_pos hw]
  unfold Oper.wp
  rw [he]
  exact h
end
theorem put_all (m m' : Mk) : putAt m.cs 0 m'.cs = m'.cs := rfl
theorem put_zero (Z : Array Value) (h : Z.size = 26) (m : Mk) : putAt Z 0 m.cs = m.cs := by
  unfold putAt
  have h1 : Z.toList.drop (0 + m.cs.size) = [] := List.drop_eq_nil_of_le (by rw [mk_size, Array.length_toList, h]; omega)
  rw [h1]
  simp
theorem put_id (m : Mk) (a b c d : Int) : putAt m.cs 4 #[.int .i64 a, .int .i64 b, .int .i64 c, .int .i64 d] = ({ m with ep := a, ld := b, ii := c, ci := d } : Mk).cs := rfl
theorem put_cmd (m : Mk) (a b c d : Int) (k v o : ByteArray) : putAt m.cs 15 #[.int .i64 a, .int .i64 b, .int .i64 c, .int .i64 d, .string k, .string v, .string o] = ({ m with cl := a, cn := b, rq := c, op := d, key := k, val := v, old := o } : Mk).cs := rfl
theorem put_res (m : Mk) (a : Int) (v : ByteArray) (n : Int) : putAt m.cs 22 #[.int .i64 a, .string v, .int .i64 n] = ({ m with co := a, rv := v, rn := n } : Mk).cs := rfl
theorem set_aT (m : Mk) (x : Int) : m.cs.setIfInBounds 0 (.int .i64 x) = ({ m with aT := x } : Mk).cs := rfl
theorem set_kd (m : Mk) (x : Int) : m.cs.setIfInBounds 1 (.int .i64 x) = ({ m with kd := x } : Mk).cs := rfl
theorem set_nd (m : Mk) (x : Int) : m.cs.setIfInBounds 2 (.int .i64 x) = ({ m with nd := x } : Mk).cs := rfl
theorem set_ic (m : Mk) (x : Int) : m.cs.setIfInBounds 3 (.int .i64 x) = ({ m with ic := x } : Mk).cs := rfl
theorem set_mem (m : Mk) (A : Option Addr) (n c : Nat) (l : List (Int × Int × Int)) : m.cs.setIfInBounds 8 (.slice A n c) = ({ m with Am := A, nm := n, cm := c, ms := l } : Mk).cs := rfl
theorem set_tr (m : Mk) (A : Option Addr) (n c : Nat) (l : List Int) : m.cs.setIfInBounds 9 (.slice A n c) = ({ m with At := A, nt := n, ct := c, ts := l } : Mk).cs := rfl
theorem set_se (m : Mk) (x : Int) : m.cs.setIfInBounds 10 (.int .i64 x) = ({ m with se := x } : Mk).cs := rfl
theorem set_sq (m : Mk) (x : Int) : m.cs.setIfInBounds 11 (.int .i64 x) = ({ m with sq := x } : Mk).cs := rfl
theorem set_po (m : Mk) (x : Int) : m.cs.setIfInBounds 12 (.int .i64 x) = ({ m with po := x } : Mk).cs := rfl
theorem set_n (m : Mk) (x : Int) : m.cs.setIfInBounds 13 (.int .i64 x) = ({ m with n := x } : Mk).cs := rfl
theorem set_bd (m : Mk) (A : Option Addr) (n c : Nat) (l : List UInt8) : m.cs.setIfInBounds 14 (.slice A n c) = ({ m with Ab := A, nb := n, cb := c, bd := l } : Mk).cs := rfl
theorem set_key (m : Mk) (x : ByteArray) : m.cs.setIfInBounds 19 (.string x) = ({ m with key := x } : Mk).cs := rfl
theorem set_val (m : Mk) (x : ByteArray) : m.cs.setIfInBounds 20 (.string x) = ({ m with val := x } : Mk).cs := rfl
theorem set_old (m : Mk) (x : ByteArray) : m.cs.setIfInBounds 21 (.string x) = ({ m with old := x } : Mk).cs := rfl
theorem set_co (m : Mk) (x : Int) : m.cs.setIfInBounds 22 (.int .i64 x) = ({ m with co := x } : Mk).cs := rfl
theorem set_rv (m : Mk) (x : ByteArray) : m.cs.setIfInBounds 23 (.string x) = ({ m with rv := x } : Mk).cs := rfl
theorem set_rn (m : Mk) (x : Int) : m.cs.setIfInBounds 24 (.int .i64 x) = ({ m with rn := x } : Mk).cs := rfl
theorem set_er (m : Mk) (x : Int) : m.cs.setIfInBounds 25 (.int .i64 x) = ({ m with er := x } : Mk).cs := rfl
theorem cs_all (m : Mk) : m.cs.all (·.oneCell') = true := by simp [Mk.cs, Value.oneCell']
section
variable {w : World} {g : Nat} {m : Mk}
theorem run_load48 (h : Blk w g 48 m.cs) : (loadVar 48 ⟨g, 0, none⟩).run Tryd.prog w = .ok (.agg m.cs) w := run_load_at w ⟨g, 0, none⟩ 48 m.cs _ Tryd.underlying48 rfl (ld48 _ (mk_size _)) (box_all h)
/-- A result that is a mark. -/
theorem results_48 {fn : Func} {p : Tmp} (h : fn.results = #[.cell p 48]) (tmps : Array Value) (hp : tmps.getD p undef = .pointer (some ⟨g, 0, none⟩)) (hb : Blk w g 48 m.cs) : (results fn tmps).run Tryd.prog w = .ok (.agg m.cs) w := by
  have h0 : (results fn tmps).run Tryd.prog w = ((asAddr (tmps.getD p undef)).run Tryd.prog w).andThen fun a w₁ => (loadVar 48 a).run Tryd.prog w₁ := by
    simp only [results, h]
    simp [Sem.run_bind, Result.andThen]
  rw [h0, hp]
  have h1 := run_load48 hb
  simp [Result.andThen, asAddr, h1]
/-- A mark, and a value beside it. -/
theorem results_48b {fn : Func} {p u : Tmp} (h : fn.results = #[.cell p 48, .tmp u]) (tmps : Array Value) (hp : tmps.getD p undef = .pointer (some ⟨g, 0, none⟩)) (hb : Blk w g 48 m.cs) {v : Value} (hv : tmps.getD u undef = v) : (results fn tmps).run Tryd.prog w = .ok (.tuple #[.agg m.cs, v]) w := by
  rw [results_cell_tmp h, hp, hv]
  have h1 := run_load48 hb
  simp [Result.andThen, asAddr, h1]
end
/-- The mark's box, the result's box, and the mark's rows, within a call that began at w. -/
structure B2 (w W : World) (b : Nat) (m : Mk) : Prop where
  box : Blk W w.heap.size 48 m.cs
  out : ∃ Z : Array Value, Z.size = 26 ∧ Blk W (w.heap.size + 1) 48 Z
  t : MkU W b m
  low : Below b w W
  keep : ∀ g t cs, Blk w g t cs → t ≠ 69 → Blk W g t cs
section
variable {w W W' : World} {b : Nat} {m m' : Mk}
theorem B2.step (h : B2 w W b m) (hb : Below W.heap.size W W') (hbw : b ≤ W.heap.size) : B2 w W' b m := by
  obtain ⟨Z, hz, hZ⟩ := h.out
  exact ⟨h.box.below hb h.box.lt, ⟨Z, hz, hZ.below hb hZ.lt⟩, h.t.step hb, h.low.trans (hb.mono hbw), fun g t cs hg ht => (h.keep g t cs hg ht).below hb (h.keep g t cs hg ht).lt⟩
theorem B2.drew (h : B2 w W b m) : B2 w W.drew b m := by
  obtain ⟨Z, hz, hZ⟩ := h.out
  exact ⟨h.box.drew, ⟨Z, hz, hZ.drew⟩, h.t.drew, h.low.drew, fun g t cs hg ht => (h.keep g t cs hg ht).drew⟩
theorem B2.new (ht : MkU w b m) (hb : b ≤ w.heap.size) (Z : Array Value) (hz : Z.size = 26) : B2 w ((w.alloc (.cells m.cs 48)).alloc (.cells Z 48)) b m :=
  ⟨(Blk.new _ _ _).alloc _, ⟨Z, hz, Blk.new' _ _ _ _ (by simp)⟩, (ht.alloc _).alloc _, ((Below.refl _ _).alloc hb _).alloc (by simp; omega) _, fun g t cs hg _ => (hg.alloc _).alloc _⟩
theorem only_setRow (W : World) (g : Nat) (C : Array Value) : Only (fun q => q = g) W (W.setRow g C) := (Only.refl (fun q => q = g) W).setRow (fun _ => rfl) C
theorem only_setCell0 (W : World) (g i : Nat) (v : Value) : Only (fun q => q = g) W (W.setCell ⟨g, i, none⟩ v) := (Only.refl (fun q => q = g) W).setCell (fun _ => rfl) v
/-- The box turned. -/
theorem B2.turn (h : B2 w W b m) (hW : Only (fun q => q = w.heap.size) W W') (hbox : Blk W' w.heap.size 48 m'.cs) (ht : MkU W b m') (hbw : b ≤ w.heap.size) : B2 w W' b m' := by
  obtain ⟨Z, hz, hZ⟩ := h.out
  have hlt : ∀ g, g < w.heap.size → ¬ (g = w.heap.size) := fun g hg => by omega
  refine ⟨hbox, ⟨Z, hz, hZ.only hW (by omega)⟩, ht.far h.box (by decide) (by decide) (by decide) hW, h.low.trans (hW.below (by have := h.low.size; omega) (fun k hk => by omega)), fun g t cs hg ht => (h.keep g t cs hg ht).only hW (by have := hg.lt; omega)⟩
theorem B2.put (h : B2 w W b m) (ht : MkU W b m') (hbw : b ≤ w.heap.size) : B2 w (W.setRow w.heap.size m'.cs) b m' := h.turn (only_setRow _ _ _) (h.box.row _) ht hbw
theorem B2.set (h : B2 w W b m) (i : Nat) (v : Value) (hc : m.cs.setIfInBounds i v = m'.cs) (ht : MkU W b m') (hbw : b ≤ w.heap.size) : B2 w (W.setCell ⟨w.heap.size, i, none⟩ v) b m' :=
  h.turn (only_setCell0 _ _ _ _) (hc ▸ h.box.set_ i v) ht hbw
/-- The same, beside a row of texts. -/
structure PX (w V : World) (b : Nat) (m : Mk) (B g cap : Nat) (ps : List (List UInt8)) : Prop where
  b2 : B2 w V b m
  row : V.ownsRow B 9 1 (.slice (some ⟨g, 0, none⟩) ps.length cap) ps.length (strs ps)
theorem PX.at {B g cap k : Nat} {ps : List (List UInt8)} (h : PX w W b m B g cap ps) (hk : k < ps.length) : W.cell? ⟨g, k, none⟩ = some (.string (S (ps.getD k []))) := by
  obtain ⟨g', p, e, hp, hc⟩ := row_text h.row hk
  injection e with e
  injection e with e
  subst e
  rw [hc]
  obtain ⟨h1, h2⟩ := List.getElem?_eq_some_iff.1 hp
  simp [h1, h2]
theorem PX.step {B g cap : Nat} {ps : List (List UInt8)} (h : PX w W b m B g cap ps) (hb : Below W.heap.size W W') (hbw : b ≤ W.heap.size) : PX w W' b m B g cap ps := ⟨h.b2.step hb hbw, own_step h.row hb⟩
theorem PX.drew {B g cap : Nat} {ps : List (List UInt8)} (h : PX w W b m B g cap ps) : PX w W.drew b m B g cap ps := ⟨h.b2.drew, own_drewN h.row 1⟩
/-- What comes out: a mark that says this; its rows are the call's. -/
def MarkP (f : PM) (b : Nat) (w : World) (e : Ending) (w' : World) : Prop := ∃ m' : Mk, e = .returned (.agg m'.cs) ∧ m'.pm = f ∧ MkU w' b m' ∧ Below b w w' ∧ ∀ g t cs, Blk w g t cs → t ≠ 69 → Blk w' g t cs
theorem B2.fin {f : PM} (h : B2 w W b m) (hf : m.pm = f) (hbw : b ≤ w.heap.size) : MarkP f b w (.returned (.agg m.cs)) (W.setRow (w.heap.size + 1) m.cs) := by
  obtain ⟨Z, hz, hZ⟩ := h.out
  have hW := only_setRow W (w.heap.size + 1) m.cs
  exact ⟨m, rfl, hf, h.t.far hZ (by decide) (by decide) (by decide) hW, h.low.trans (hW.below (by have := h.low.size; omega) (fun k hk => by omega)), fun g t cs hg ht => (h.keep g t cs hg ht).only hW (by have := hg.lt; omega)⟩
end
/-- A text turned into bytes. -/
theorem conv_made {b : Nat} (w : World) (l : List UInt8) (hb : b ≤ w.heap.size) : ∃ c W, (convert 9 42 (.string (S l))).run Tryd.prog w = .ok (.slice (some ⟨w.heap.size, 0, none⟩) l.length c) W ∧ RB W b (some ⟨w.heap.size, 0, none⟩) l.length l ∧ Below w.heap.size w W := by
  have h := run_bytes_of_string (P := Tryd.prog) w 9 42 5 (S l) Tryd.underlying9 Tryd.underlying42 Tryd.underlying5
  rw [S_size] at h
  refine ⟨_, _, h, ?_, ?_⟩
  · have := RB.made (b := b) w (S l) hb (grownCap w l.length 0 5) ((bytesRow (S l) (grownCap w l.length 0 5)).size, (bytesRow (S l) (grownCap w l.length 0 5)).size + 1)
    rw [S_size, S_data] at this
    exact this
  · exact ((Below.refl _ _).drew).alloc (Nat.le_refl _) _
theorem sts_snoc (l : List (Int × Int × Int)) (x y z : Int) : sts (l ++ [(x, y, z)]) = sts l ++ [.int .i64 x, .int .i64 y, .int .i64 z] := by simp [sts]
section
variable {w V w7 : World} {b g7 c7 : Nat} {m : Mk} {x y z : Int}
/-- A member pushed onto the mark's members, the box turned. -/
theorem B2.pushM (h : B2 w V b m) (hown : w7.ownsRow b 69 3 (.slice (some ⟨g7, 0, none⟩) (m.nm + 1) c7) (m.nm + 1) (sts m.ms ++ [.int .i64 x, .int .i64 y, .int .i64 z])) (hgr : V.grownBy w7 (Value.slice m.Am m.nm m.cm).ownBlock) (hb : b ≤ w.heap.size) (hn : m.nm + 1 ≤ 10000000) :
    B2 w (w7.setCell ⟨w.heap.size, 8, none⟩ (.slice (some ⟨g7, 0, none⟩) (m.nm + 1) c7)) b { m with Am := some ⟨g7, 0, none⟩, nm := m.nm + 1, cm := c7, ms := m.ms ++ [(x, y, z)] } := by
  obtain ⟨Z, hz, hZ⟩ := h.out
  have hbox : Blk w7 w.heap.size 48 m.cs := h.box.grown hgr (own_ne h.t.mem h.box (by decide))
  have hZ7 : Blk w7 (w.heap.size + 1) 48 Z := hZ.grown hgr (own_ne h.t.mem hZ (by decide))
  have ht : MkU w7 b { m with Am := some ⟨g7, 0, none⟩, nm := m.nm + 1, cm := c7, ms := m.ms ++ [(x, y, z)] } := by
    refine ⟨?_, own_kept h.t.tr h.t.mem (by decide) hgr, h.t.body.grown h.t.mem (by decide) hgr, hn, h.t.ht, h.t.hb⟩
    rw [sts_snoc]
    exact hown
  have hW := only_setCell0 w7 w.heap.size 8 (.slice (some ⟨g7, 0, none⟩) (m.nm + 1) c7)
  have hlow : Below b w w7 := h.low.grown hgr (Nat.le_trans hb h.low.size) (fun k hk => (h.t.mem.lt k hk).1)
  refine ⟨?_, ⟨Z, hz, hZ7.only hW (by omega)⟩, ht.far hbox (by decide) (by decide) (by decide) hW, hlow.trans (hW.below (by have := hlow.size; omega) (fun k hk => by omega)), fun g t cs hg ht => ?_⟩
  · have := hbox.set_ 8 (.slice (some ⟨g7, 0, none⟩) (m.nm + 1) c7)
    rw [set_mem m (some ⟨g7, 0, none⟩) (m.nm + 1) c7 (m.ms ++ [(x, y, z)])] at this
    exact this
  · exact ((h.keep g t cs hg ht).grown hgr (own_ne h.t.mem (h.keep g t cs hg ht) ht)).only hW (by have := hg.lt; omega)
end
/-- The mark's box beside three numbers read and a row of texts. -/
structure NX (w V : World) (b : Nat) (m : Mk) (B g c : Nat) (x y z : Int) (B' : Nat) (A : Option Addr) (cap : Nat) (ls : List (List UInt8)) : Prop where
  b2 : B2 w V b m
  nums : V.ownsRow B 3 1 (.slice (some ⟨g, 0, none⟩) 3 c) 3 (ints [x, y, z])
  row : V.ownsRow B' 9 1 (.slice A ls.length cap) ls.length (strs ls)
section
variable {w V V' : World} {b B g c B' cap : Nat} {m : Mk} {x y z : Int} {A : Option Addr} {ls : List (List UInt8)}
theorem NX.step (h : NX w V b m B g c x y z B' A cap ls) (hb : Below V.heap.size V V') (hbw : b ≤ V.heap.size) : NX w V' b m B g c x y z B' A cap ls := ⟨h.b2.step hb hbw, own_step h.nums hb, own_step h.row hb⟩
theorem own_int {w : World} {base n c g k : Nat} {xs : List Int} (h : w.ownsRow base 3 1 (.slice (some ⟨g, 0, none⟩) n c) n (ints xs)) (hk : k < n) : w.cell? ⟨g, k, none⟩ = some (.int .i64 (nth xs k)) := by
  have hl : xs.length = n := by have := h.1; simpa [ints] using this
  have := World.ownsRow.cells (g := g) h rfl k (.int .i64 (nth xs k)) (by unfold ints nth; rw [List.getElem?_map]; simp [hl, hk])
  have e : (⟨g, 0, none⟩ : Addr).add k = ⟨g, k, none⟩ := by
    unfold Addr.add
    split
    · rename_i h0; subst h0; rfl
    · simp
  rw [e] at this
  exact this
theorem NX.n0 (h : NX w V b m B g c x y z B' A cap ls) : V.cell? ⟨g, 0, none⟩ = some (.int .i64 x) := own_int h.nums (by omega)
theorem NX.n1 (h : NX w V b m B g c x y z B' A cap ls) : V.cell? ⟨g, 1, none⟩ = some (.int .i64 y) := own_int h.nums (by omega)
theorem NX.n2 (h : NX w V b m B g c x y z B' A cap ls) : V.cell? ⟨g, 2, none⟩ = some (.int .i64 z) := own_int h.nums (by omega)
end
/-- What the loads of a push need. -/
structure SX (p : Nat) (m : Mk) (B g c : Nat) (x y z : Int) (V : World) : Prop where
  box : Blk V p 48 m.cs
  nums : V.ownsRow B 3 1 (.slice (some ⟨g, 0, none⟩) 3 c) 3 (ints [x, y, z])
theorem SX.n0 {p B g c : Nat} {m : Mk} {x y z : Int} {V : World} (h : SX p m B g c x y z V) : V.cell? ⟨g, 0, none⟩ = some (.int .i64 x) := own_int h.nums (by omega)
theorem SX.n1 {p B g c : Nat} {m : Mk} {x y z : Int} {V : World} (h : SX p m B g c x y z V) : V.cell? ⟨g, 1, none⟩ = some (.int .i64 y) := own_int h.nums (by omega)
theorem SX.n2 {p B g c : Nat} {m : Mk} {x y z : Int} {V : World} (h : SX p m B g c x y z V) : V.cell? ⟨g, 2, none⟩ = some (.int .i64 z) := own_int h.nums (by omega)
theorem SX.step {p B g c : Nat} {m : Mk} {x y z : Int} {V V' : World} (h : SX p m B g c x y z V) (hb : Below V.heap.size V V') : SX p m B g c x y z V' := ⟨h.box.below hb h.box.lt, own_step h.nums hb⟩
theorem SX.push {p B g c b n' : Nat} {m : Mk} {x y z : Int} {V V' : World} {v : Value} {xs : List Value} (h : SX p m B g c x y z V) (h' : V.ownsRow b 69 3 v n' xs) (hg : V.grownBy V' v.ownBlock) : SX p m B g c x y z V' :=
  ⟨h.box.grown hg (own_ne h' h.box (by decide)), own_kept h.nums h' (by decide) hg⟩
end Go.Proofs.YtenebkkfjalcaaaDoor
set_option linter.unusedVariables false
set_option linter.unusedSimpArgs false
namespace Go.Proofs.YtenebkkfjalcaaaDoor
open Go.RowKit Go.WideShapes Go.ChangeShapes Q

def PM.toMk (p : PM) : Mk := ⟨p.aT, p.kd, p.nd, p.ic, p.ep, p.ld, p.ii, p.ci, none, p.ms.length, 0, p.ms, none, p.ts.length, 0, p.ts, p.se, p.sq, p.po, p.n, none, p.bd.length, 0, p.bd, p.cl, p.cn, p.rq, p.op, S p.key, S p.val, S p.old, p.co, S p.rv, p.rn, p.er⟩
theorem toMk_pm (p : PM) : p.toMk.pm = p := rfl
/-- This mark can be written, and its line is this one. -/
def okPM (p : PM) (s : List UInt8) : Prop := wrB p.toMk = true ∧ lineL p.toMk = s
theorem okPM_iff {m : Mk} {s : List UInt8} (h1 : m.ms.length = m.nm) (h2 : m.ts.length = m.nt) : okPM m.pm s ↔ (wrB m = true ∧ lineL m = s) := by
  obtain ⟨aT, kd, nd, ic, ep, ld, ii, ci, Am, nm, cm, ms, At, nt, ct, ts, se, sq, po, n, Ab, nb, cb, bd, cl, cn, rq, op, key, val, old, co, rv, rn, er⟩ := m
  simp only at h1 h2
  subst h1 h2
  exact Iff.rfl
theorem ok_ref {p : PM} {s : List UInt8} (h : okPM p s) : markC s = some p := by
  have := mark_line (cnts h.1) rfl rfl
  rw [h.2] at this
  exact this
theorem ok_prog {p : PM} {s : List UInt8} (h : okPM p s) : unmA s = (p, false) := by
  have := unm_line (cnts h.1) rfl rfl
  rw [h.2] at this
  exact this
theorem ok_unique {p q : PM} {s : List UInt8} (h : okPM p s) (h' : okPM q s) : p = q := Option.some.inj ((ok_ref h).symm.trans (ok_ref h'))
/-- What comes out of both parsers at a line: a mark, and whether the line is its line. -/
def RdP (s : List UInt8) (w : World) (e : Ending) (w' : World) : Prop := ∃ (m' : Mk) (bo : Bool), e = .returned (.tuple #[.agg m'.cs, .bool bo]) ∧ MkU w' w.heap.size m' ∧ Below w.heap.size w w' ∧ (bo = true → okPM m'.pm s) ∧ (bo = false → ∀ p, ¬ okPM p s)
def Mk.zero : Mk := PM.zero.toMk
theorem zero_cs : Mk.zero.cs = #[.int .i64 0, .int .i64 0, .int .i64 0, .int .i64 0, .int .i64 0, .int .i64 0, .int .i64 0, .int .i64 0, .slice none 0 0, .slice none 0 0, .int .i64 0, .int .i64 0, .int .i64 0, .int .i64 0, .slice none 0 0, .int .i64 0, .int .i64 0, .int .i64 0, .int .i64 0, .string ⟨#[]⟩, .string ⟨#[]⟩, .string ⟨#[]⟩, .int .i64 0, .string ⟨#[]⟩, .int .i64 0, .int .i64 0] := rfl
theorem MkU.zero (w : World) (b : Nat) : MkU w b Mk.zero := ⟨World.ownsRow_nil _ _ _ _, World.ownsRow_nil _ _ _ _, RB.nil _ _ _, Nat.zero_le _, Nat.zero_le _, Nat.zero_le _⟩
theorem own_by_keep {w w' : World} {base : Nat} {e : TypeId} {size n : Nat} {v : Value} {xs : List Value} (h : w.ownsRow base e size v n xs) (he : e ≠ 69) (hk : ∀ g t cs, Blk w g t cs → t ≠ 69 → Blk w' g t cs) : w'.ownsRow base e size v n xs := by
  refine ⟨h.1, ?_⟩
  rcases h.2 with hn | ⟨g, cap, cur, rfl, hb, hgg, rest⟩
  · exact .inl hn
  · exact .inr ⟨g, cap, cur, rfl, hb, hk g e cur hgg he, rest⟩
/-- The sizes of a mark read from a line. -/
theorem mkZ_of {m : Mk} {K L : Nat} (h : PZ m.pm K L) (h1 : m.ms.length = m.nm) (h2 : m.ts.length = m.nt) (h3 : m.bd.length = m.nb) (hK : K ≤ 1048576) (hL : L ≤ 1048576) : MkZ m := by
  have e1 := h.ms
  have e2 := h.ts
  have e3 := h.bd
  have e4 := h.key
  have e5 := h.val
  have e6 := h.old
  have e7 := h.rv
  simp only [Mk.pm, str_len] at e1 e2 e3 e4 e5 e6 e7
  exact ⟨by omega, by omega, by omega, h3, by omega, by omega, by omega, by omega⟩
end Go.Proofs.YtenebkkfjalcaaaDoor
