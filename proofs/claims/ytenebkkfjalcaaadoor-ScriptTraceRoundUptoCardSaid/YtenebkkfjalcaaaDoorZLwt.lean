/-
  The program's PrintTrace. The law ScriptWritesTrace, walked: what comes out of the program and of the reference is the same, and the marks stay.
-/
import Derived.Test.YtenebkkfjalcaaaDoorZGd
import Derived.Test.YtenebkkfjalcaaaDoorZMar
import Derived.Deep.WholeRow
set_option linter.unusedVariables false
set_option linter.unusedSimpArgs false
namespace Go.Proofs.YtenebkkfjalcaaaDoor
open Go.RowKit Go.WideShapes Go.ChangeShapes Q

section
open Go.Shelf
theorem la166 : Lays.n166 Tryd.prog sren := {
  mixed := la156.mixed,
  f166 := la156.f166,
  f240 := la156.f240,
  f276 := la156.f276,
  t0 := la156.t0,
  a0 := la156.a0,
  z0 := la156.z0,
  v0 := la156.v0,
  t3 := la156.t3,
  a3 := la156.a3,
  z3 := la156.z3,
  v3 := la156.v3,
  t4 := la156.t4,
  a4 := la156.a4,
  z4 := la156.z4,
  v4 := la156.v4,
  t9 := la156.t9,
  a9 := la156.a9,
  z9 := la156.z9,
  v9 := la156.v9,
  t20 := la156.t20,
  a20 := la156.a20,
  z20 := la156.z20,
  v20 := la156.v20,
  t37 := la156.t37,
  a37 := la156.a37,
  z37 := la156.z37,
  v37 := la156.v37,
  t70 := la156.t70,
  a70 := la156.a70,
  z70 := la156.z70,
  v70 := la156.v70,
  t72 := la156.t72,
  a72 := la156.a72,
  z72 := la156.z72,
  v72 := la156.v72,
  t75 := la156.t75,
  a75 := la156.a75,
  z75 := la156.z75,
  v75 := la156.v75,
  t164 := la156.t164,
  a164 := la156.a164,
  z164 := la156.z164,
  v164 := la156.v164 }
theorem la169 : Lays.n169 Tryd.prog sren := {
  mixed := la156.mixed,
  f169 := la156.f169,
  t0 := la156.t0,
  a0 := la156.a0,
  z0 := la156.z0,
  v0 := la156.v0,
  t3 := la156.t3,
  a3 := la156.a3,
  z3 := la156.z3,
  v3 := la156.v3,
  t9 := la156.t9,
  a9 := la156.a9,
  z9 := la156.z9,
  v9 := la156.v9,
  t37 := la156.t37,
  a37 := la156.a37,
  z37 := la156.z37,
  v37 := la156.v37,
  t70 := la156.t70,
  a70 := la156.a70,
  z70 := la156.z70,
  v70 := la156.v70,
  t72 := la156.t72,
  a72 := la156.a72,
  z72 := la156.z72,
  v72 := la156.v72,
  t127 := la156.t127,
  a127 := la156.a127,
  z127 := la156.z127,
  v127 := la156.v127 }


end
/-- The builder holds these bytes. -/
def IsB (B b : Nat) (l : List UInt8) (w : World) : Prop := Lib.IsBuilder 51 5 B b (Lib.byteCells l) w
theorem IsB.step {B b : Nat} {l : List UInt8} {w w' : World} (h : IsB B b l w) (hb : Below w.heap.size w w') : IsB B b l w' := by
  have key : ∀ p, Lib.BuilderAt 51 5 B b p (Lib.byteCells l) w → Lib.BuilderAt 51 5 B b p (Lib.byteCells l) w' := by
    rintro p ⟨hB, v, hk, ho, hn⟩
    exact ⟨hB, v, Blk.below (t := 51) hk hb (Blk.lt (t := 51) hk), own_step ho hb, hn⟩
  exact h.elim (fun x => .inl (key _ x)) (fun x => .inr (key _ x))
theorem IsB.alloc {B b : Nat} {l : List UInt8} {w : World} (h : IsB B b l w) (o : Obj) : IsB B b l (w.alloc o) := h.step ((Below.refl _ _).alloc (Nat.le_refl _) o)
theorem IsB.new (w : World) : IsB w.heap.size w.heap.size [] (w.alloc (.cells #[.pointer none, .slice none 0 0] 51)) :=
  .inl ⟨Nat.le_refl _, .slice none 0 0, Blk.new w 51 _, World.ownsRow_nil _ _ _ _, by simp [Value.ownBlock]⟩
theorem wstr_any {B b : Nat} {l : List UInt8} {w : World} (s : List UInt8) (h : IsB B b l w) (hl : l.length + s.length ≤ 140737488355328) (hB : B ≤ w.heap.size) :
    Calls Tryd.prog 15 #[.pointer (some ⟨b, 0, none⟩), .string (S s)] w fun e w' => e = .returned (.tuple #[.int .i64 s.length, .nilIface]) ∧ IsB B b (l ++ s) w' ∧ Below B w w' := by
  have hbl : (Lib.byteCells l).length = l.length := by simp [Lib.byteCells]
  refine (Any.Builder_WriteString la166 sextra B b (Lib.byteCells l) (S s) w h (by rw [hbl, S_size]; exact hl) hB).mono ?_
  rintro e w' ⟨he, hb, hbe⟩
  refine ⟨by rw [he, S_size], .inr ?_, hbe⟩
  have e1 : Lib.byteCells l ++ Lib.strCells (S s) = Lib.byteCells (l ++ s) := by rw [str_cells]; simp [Lib.byteCells]
  rw [e1] at hb
  exact hb
theorem wbyte_any {B b : Nat} {l : List UInt8} {w : World} (c : UInt8) (h : IsB B b l w) (hl : l.length + 1 ≤ 140737488355328) (hB : B ≤ w.heap.size) :
    Calls Tryd.prog 18 #[.pointer (some ⟨b, 0, none⟩), .int .u8 (c.toNat : Int)] w fun e w' => e = .returned .nilIface ∧ IsB B b (l ++ [c]) w' ∧ Below B w w' := by
  have hbl : (Lib.byteCells l).length = l.length := by simp [Lib.byteCells]
  refine (Any.Builder_WriteByte la167 sextra B b (Lib.byteCells l) (c.toNat : Int) w h (by rw [hbl]; exact hl) hB).mono ?_
  rintro e w' ⟨he, hb, hbe⟩
  refine ⟨he, .inr ?_, hbe⟩
  have e1 : Lib.byteCells l ++ [.int .u8 (c.toNat : Int)] = Lib.byteCells (l ++ [c]) := by simp [Lib.byteCells]
  rw [e1] at hb
  exact hb
theorem bstr_any {B b : Nat} {l : List UInt8} {w : World} (h : IsB B b l w) (h0 : l ≠ []) :
    Calls Tryd.prog 19 #[.pointer (some ⟨b, 0, none⟩)] w fun e w' => e = .returned (.string (S l)) ∧ Below B w w' :=
  Any.Builder_String la169 sextra B b l w h h0

section
variable {P : Program}
/-- A whole struct stored into the block that was made last. -/
theorem wpList_store_new {ops : Array Oper} {rest : List Oper} {o : Oper} {a : Act} {w : World} {Q : Exit → Act → World → Prop} (hgd : o.guard = none) (ty : TypeId) (x y : Operand) (ho : o.op = .store ty x y) (c c' : Array Value)
    (hx : a.eval x = .pointer (some ⟨w.heap.size, 0, none⟩)) (hy : a.eval y = .agg c') (hi : (P.info? ty).map (·.size) = some c'.size) (hz : c.size = c'.size) (h1 : c'.all (·.oneCell') = true)
    (h : wpList P ops Q rest (a.put o.dst undef) (w.alloc (.cells c' ty))) : wpList P ops Q (o :: rest) a (w.alloc (.cells c ty)) := by
  refine wpList_plain hgd fun K hK => ?_
  unfold Oper.wp execOp
  simp only [ho, hx, hy, run_storeAt_new w ty c c' hi hz h1, Sem.run_bind, Sem.run_pure, Result.andThen_ok]
  exact hK _ _ h
end
/-- What the loop keeps. -/
def PLoop (l : List Mk) (n : Nat) (w : World) (i : Value) (wr : World) : Prop := ∃ (j : Nat), j ≤ n ∧ i = .int .i64 j ∧ (l.take j).all wrB = true ∧ (outL (l.take j)).length ≤ 16 + 121000201 * j ∧ IsB w.heap.size w.heap.size (outL (l.take j)) wr ∧ Below w.heap.size w wr

set_option maxRecDepth 100000 in
set_option maxHeartbeats 8000000 in
theorem pprint_any (A : Option Addr) (n c : Nat) (l : List Mk) (w : World) (h : MsIn w w.heap.size A n l) (hz : ∀ m ∈ l, MkZ m) (hn : n ≤ 1048576) (hT : Tab w) (hK : KT w) :
    Calls Tryd.prog 8 #[.slice A n c] w fun e w' => e = .returned (.tuple #[.string (S (resT l)), .int .i64 (resN l)]) ∧ Below w.heap.size w w' := by
  have H := hide h
  have HZ := hide hz
  have HT := hide hT
  have HKT := hide hK
  have hll := hide h.len
  have HB0 := hide (IsB.new w)
  have HW0 : Hid (Below w.heap.size w (w.alloc (.cells #[.pointer none, .slice none 0 0] 51))) := (Below.refl _ _).alloc (Nat.le_refl _) _
  clear h hz hT hK
  go_enter Tryd.func8, Tryd.ntmps8
  go_upto_region 4 with (go_at_call 15; refine (wstr_any headT HB0.out (by simp [headT]) (by simp)).mono ?_; rintro e w1 ⟨rfl, hi1, hb1⟩; have HL1 : Hid (PLoop l n w (.int .i64 0) w1) := ⟨0, Nat.zero_le _, rfl, by simp, by simp [outL, headT], by simpa [outL] using hi1, HW0.out.trans hb1⟩; clear hi1 hb1)
  clear HB0 HW0
  go_loopw [6, 10] (fun _ i wr => PLoop l n w i wr) (fun _ i _ => n - (intOf i).toNat)
  case atStart => exact HL1.out
  case round =>
    clear HL1
    unfold PLoop at hrel
    obtain ⟨j, hj, rfl, hall, hlen, hisb, hb⟩ := hrel
    have HALL := hide hall
    have HI := hide hisb
    have HBB := hide hb
    have HLENJ := hide hlen
    have hol : (outL (l.take j)).length ≤ 126878000000000 := by omega
    have HOL := hide hol
    clear hall hisb hb hlen hol
    have hsw : w.heap.size ≤ wr.heap.size := HBB.out.size
    by_cases hlt : j < n
    · obtain ⟨b, off, m, rfl, hbB, hm, hin, qc⟩ := (H.out.below HBB.out).at_ hlt
      have HQ := hide (cells_add qc)
      have HMJ := hide hm
      have HIN := hide (hin.more hsw)
      have HMZ := hide (HZ.out m (List.mem_of_getElem? hm))
      have hbW : b < wr.heap.size := by omega
      clear hm hin qc
      have k0 : (0 : Int) ≤ (j : Int) := by omega
      have kn : (j : Int) < (n : Int) := by omega
      go_upto_region 5 with fail
      refine wp_region_lit ?_
      refine wpList_value rfl (.pointer (some ⟨b, off + j * 26, none⟩)) (by go_simp) ?_
      refine wpList_value rfl (.agg m.cs) (ex_load 48 (.tmp 12) rfl ⟨b, off + j * 26, none⟩ rfl m.cs _ Tryd.underlying48 rfl (ld48 _ (mk_size _)) HQ.out) ?_
      simp only [Act.put, List.setIfInBounds_toArray, List.set_cons_zero, List.set_cons_succ]
      refine wpList_step (fun K hK => ?_)
      rw [if_pos (by rfl)]
      go_simp
      refine hK _ _ ?_
      clear hK K
      refine wpList_store_new rfl 48 (.tmp 6) (.tmp 13) rfl _ m.cs rfl rfl (ld48 _ (mk_size _)) rfl (by simp [Mk.cs, Value.oneCell']) ?_
      simp only [Act.put, List.setIfInBounds_toArray, List.set_cons_zero, List.set_cons_succ]
      go_upto_region 6 with fail
      obtain ⟨w5, hw5⟩ : ∃ w5, w5 = World.alloc wr (.cells m.cs 48) := ⟨_, rfl⟩
      have HX : Hid (BX m wr w5) := by
        show BX m wr w5
        rw [hw5]
        exact BX.new m wr
      rw [← hw5]
      clear hw5
      have HI5 := hide (HI.out.step HX.out.low)
      have HB5 := hide (HBB.out.trans (HX.out.low.mono hsw))
      refine wp_region_lit ?_
      refine wpList_value rfl (.agg m.cs) (ex_load 48 (.tmp 6) rfl _ rfl m.cs _ Tryd.underlying48 rfl (ld48 _ (mk_size _)) (box_all HX.out.box)) ?_
      simp only [Act.put, List.setIfInBounds_toArray, List.set_cons_zero, List.set_cons_succ]
      cases hwb : wrB m with
      | false =>
        have HRW : Hid (Calls Tryd.prog 16 #[.agg m.cs] w5 fun e w' => e = .returned (.bool false) ∧ Below w5.heap.size w5 w') := by
          have := writable_any m w5 (HX.out.inn HIN.out)
          rw [hwb] at this
          exact this
        have HNO := hide (all_no HMJ.out hwb)
        clear hwb
        go_wp2_with (go_at_call 16; refine HRW.out.mono ?_; rintro e w2 ⟨rfl, hb2⟩; have HB2 := hide (HB5.out.trans (hb2.mono HB5.out.size)); clear hb2)
        first | refine bodyPost_end (results_tmp2 rfl _ _ _) rfl ?_ | refine bodyPost_ret (results_tmp2 rfl _ _ _) rfl ?_
        refine ⟨?_, HB2.out⟩
        unfold resT resN
        rw [HNO.out]
        rfl
      | true =>
        have HRW : Hid (Calls Tryd.prog 16 #[.agg m.cs] w5 fun e w' => e = .returned (.bool true) ∧ Below w5.heap.size w5 w') := by
          have := writable_any m w5 (HX.out.inn HIN.out)
          rw [hwb] at this
          exact this
        have HYES := hide (all_snoc HMJ.out HALL.out hwb)
        have HWB := hide hwb
        have HLL := hide (line_len2 HIN.out HWB.out HMZ.out)
        clear hwb
        go_upto_region 8 with (go_at_call 16; refine HRW.out.mono ?_; rintro e w2 ⟨rfl, hb2⟩; have HB2 := hide (HB5.out.trans (hb2.mono HB5.out.size)); have HX2 := hide (HX.out.step hb2); have HI2 := hide (HI5.out.step hb2); clear hb2)
        clear HRW HX HI5 HB5 HQ
        refine wp_region_lit ?_
        refine wpList_value rfl (.agg m.cs) (ex_load 48 (.tmp 6) rfl _ rfl m.cs _ Tryd.underlying48 rfl (ld48 _ (mk_size _)) (box_all HX2.out.box)) ?_
        simp only [Act.put, List.setIfInBounds_toArray, List.set_cons_zero, List.set_cons_succ]
        go_upto_region 10 with (first | (go_at_call 17; refine (mark_any m w2 (HX2.out.inn HIN.out) HWB.out HMZ.out (HT.out.below HB2.out) (HKT.out.below HB2.out)).mono ?_; rintro e w3 ⟨rfl, hb3⟩; have HB3 := hide (HB2.out.trans (hb3.mono HB2.out.size)); have HI3 := hide (HI2.out.step hb3); clear hb3 HI2 HX2) | (go_at_call 15; refine (wstr_any (lineL m) HI3.out (by have := HLL.out; have := HOL.out; omega) HB3.out.size).mono ?_; rintro e w4 ⟨rfl, hi4, hb4⟩; have HB4 := hide (HB3.out.trans hb4); have HI4 := hide hi4; clear hi4 hb4) | (go_at_call 18; refine (wbyte_any 10 HI4.out (by have := HLL.out; have := HOL.out; rw [List.length_append]; omega) HB4.out.size).mono ?_; rintro e w6 ⟨rfl, hi6, hb6⟩; have HB6 := hide (HB4.out.trans hb6); have HI6 := hide hi6; clear hi6 hb6))
        have HL4 : Hid (PLoop l n w (.int .i64 ((j : Int) + 1)) w6) := by
          refine ⟨j + 1, by omega, by go_num, HYES.out, ?_, ?_, HB6.out⟩
          · rw [outL_snoc HMJ.out]
            have h1 := HLENJ.out
            have h2 := HLL.out
            simp only [List.length_append, List.length_cons, List.length_nil]
            omega
          · rw [outL_snoc HMJ.out, ← List.append_assoc]
            exact HI6.out
        clear HB3 HI3 HB4 HI4 HI6 HB6
        go_wp2_with fail
        go_roundw
        case rel => first | exact HL4.out | exact ⟨_, _, HL4.out, rfl, rfl⟩
        case measure => simp [intOf]; omega
    · have kn : ¬ (j : Int) < (n : Int) := by omega
      obtain rfl : j = n := by omega
      clear hlt
      go_wp2_with (go_at_call 19; refine (bstr_any HI.out (by simp [outL, headT])).mono ?_; rintro e w2 ⟨rfl, hb2⟩; have HB2 := hide (HBB.out.trans hb2); clear hb2)
      first | refine bodyPost_end (results_tmp2 rfl _ _ _) rfl ?_ | refine bodyPost_ret (results_tmp2 rfl _ _ _) rfl ?_
      refine ⟨?_, HB2.out⟩
      have ht : l.take j = l := List.take_of_length_le (by have := hll.out; omega)
      have ha := HALL.out
      rw [ht] at ha
      unfold resT resN
      rw [if_pos ha, if_pos ha, ht]
      rfl
end Go.Proofs.YtenebkkfjalcaaaDoor
set_option linter.unusedVariables false
set_option linter.unusedSimpArgs false
namespace Go.Proofs.YtenebkkfjalcaaaDoor
open Go.RowKit Go.WideShapes Go.ChangeShapes Q

theorem same_map {α : Type} {l l' : List Mk} (h : SameC l l') (f : Mk → α) (hf : ∀ m Am cm At ct Ab cb, f (m.at Am cm At ct Ab cb) = f m) : l'.map f = l.map f := by
  apply List.ext_getElem
  · rw [List.length_map, List.length_map]
    exact h.1
  · intro i h1 h2
    rw [List.getElem_map, List.getElem_map]
    have hi' : i < l'.length := by simpa using h1
    have hi : i < l.length := by simpa using h2
    obtain ⟨Am, cm, At, ct, Ab, cb, e⟩ := h.2 i _ _ (List.getElem?_eq_getElem hi) (List.getElem?_eq_getElem hi')
    rw [e, hf]
theorem same_wr {l l' : List Mk} (h : SameC l l') : l'.all wrB = l.all wrB := by
  have := same_map h wrB (fun _ _ _ _ _ _ _ => rfl)
  have e : ∀ q : List Mk, q.all wrB = (q.map wrB).all id := fun q => by rw [List.all_map]; rfl
  rw [e, e, this]
theorem same_out {l l' : List Mk} (h : SameC l l') : outL l' = outL l := by
  have := same_map h (fun m => lineL m ++ [10]) (fun _ _ _ _ _ _ _ => rfl)
  unfold outL
  rw [List.flatMap_def, List.flatMap_def, this]
theorem same_T {l l' : List Mk} (h : SameC l l') : resT l' = resT l := by unfold resT; rw [same_wr h, same_out h]
theorem same_N {l l' : List Mk} (h : SameC l l') : resN l' = resN l := by unfold resN; rw [same_wr h]
theorem SameC.symm {l l' : List Mk} (h : SameC l l') : SameC l' l := by
  refine ⟨h.1.symm, fun k m' m hm' hm => ?_⟩
  obtain ⟨Am, cm, At, ct, Ab, cb, e⟩ := h.2 k m m' hm hm'
  subst e
  exact ⟨m.Am, m.cm, m.At, m.ct, m.Ab, m.cb, rfl⟩
theorem SameC.sz {l l' : List Mk} (h : SameC l l') (hz : ∀ m ∈ l, MkZ m) : ∀ m ∈ l', MkZ m := by
  intro m' hm'
  obtain ⟨k, hk, rfl⟩ := List.getElem_of_mem hm'
  have hk2 : k < l.length := by rw [← h.1]; exact hk
  obtain ⟨Am, cm, At, ct, Ab, cb, e⟩ := h.2 k _ _ (List.getElem?_eq_getElem hk2) (List.getElem?_eq_getElem hk)
  have z := hz _ (List.getElem_mem hk2)
  rw [e]
  exact ⟨z.nm, z.nt, z.nb, z.bd, z.key, z.val, z.old, z.rv⟩
theorem MsIn.more {w : World} {B B' n : Nat} {A : Option Addr} {l : List Mk} (h : MsIn w B A n l) (hB : B ≤ B') : MsIn w B' A n l := ⟨h.row.more hB, fun m hm => (h.ent m hm).more hB⟩
set_option maxRecDepth 100000 in
theorem num_any (x : Int) (w : World) : Calls Tryd.prog 10 #[.int .i64 x] w fun e w' => e = .returned (.int .i64 x) ∧ w = w' := by
  go_enter Tryd.func10, Tryd.ntmps10
  go_wp2_with fail
  go_ret
  exact ⟨rfl, rfl⟩

set_option maxRecDepth 100000 in
set_option maxHeartbeats 4000000 in
theorem law_any (A : Option Addr) (n c : Nat) (l : List Mk) (w : World) (h : MsIn w w.heap.size A n l) (hz : ∀ m ∈ l, MkZ m) (hn : n ≤ 1048576) (hT : Tab w) (hK : KT w) :
    Calls Tryd.prog 3 #[.slice A n c] w fun e w' => e = .returned (.bool true) ∧ Below w.heap.size w w' := by
  have H := hide h
  have HZ := hide hz
  have HT := hide hT
  have HKT := hide hK
  have HM := hide (marksOf_any A n c l w h hn)
  obtain ⟨T, hTT⟩ : ∃ T, T = resT l := ⟨_, rfl⟩
  obtain ⟨N, hNN⟩ : ∃ N, N = resN l := ⟨_, rfl⟩
  have HTT := hide hTT
  have HNN := hide hNN
  clear h hz hT hK hTT hNN
  go_enter Tryd.func3, Tryd.ntmps3
  go_upto_region 2 with (go_at_call 7; refine HM.out.mono ?_; rintro e w1 hcp; obtain ⟨A', c', l', rfl, hsame, hin, hb⟩ := hcp; have HSA := hide hsame; have HIN := hide hin; have HB1 := hide hb; clear hsame hin hb)
  have HP8 : Hid (Calls Tryd.prog 8 #[.slice A' n c'] w1 fun e w' => e = .returned (.tuple #[.string (S T), .int .i64 N]) ∧ Below w1.heap.size w1 w') := by
    have := pprint_any A' n c' l' w1 HIN.out (HSA.out.sz HZ.out) hn (HT.out.below HB1.out) (HKT.out.below HB1.out)
    rw [same_T HSA.out, same_N HSA.out, ← HTT.out, ← HNN.out] at this
    exact this
  go_upto_region 3 with (go_at_call 8; refine HP8.out.mono ?_; rintro e w2 ⟨rfl, hb2⟩; have HB2 := hide (HB1.out.trans (hb2.mono HB1.out.size)); have HIN2 := hide ((HIN.out.below hb2).more hb2.size); clear hb2)
  have HP9 : Hid (Calls Tryd.prog 9 #[.slice A n c] w2 fun e w' => e = .returned (.tuple #[.string (S T), .int .i64 N]) ∧ Below w2.heap.size w2 w') := by
    have := rprint_any A n c l w2 ((H.out.below HB2.out).more HB2.out.size) HZ.out hn
    rw [← HTT.out, ← HNN.out] at this
    exact this
  clear HP8 HM HB1 HIN
  go_upto_region 4 with (go_at_call 9; refine HP9.out.mono ?_; rintro e w3 ⟨rfl, hb3⟩; have HB3 := hide (HB2.out.trans (hb3.mono HB2.out.size)); have HIN3 := hide ((HIN2.out.below hb3).more hb3.size); clear hb3)
  have HS : Hid (Calls Tryd.prog 11 #[.slice A' n c', .slice A n c] w3 fun e w' => e = .returned (.bool true) ∧ Below w3.heap.size w3 w') :=
    sameMarks_true A' A n c' c l' l w3 HIN3.out ((H.out.below HB3.out).more HB3.out.size) HSA.out.symm (by omega)
  have HN10 := hide (num_any N)
  clear HP9 HIN2 HB2
  go_wp2_with (first | (go_at_call 10; refine (HN10.out _).mono ?_; rintro e w5 ⟨rfl, rfl⟩) | (go_at_call 11; refine HS.out.mono ?_; rintro e w4 ⟨rfl, hb4⟩; have HB4 := hide (HB3.out.trans (hb4.mono HB3.out.size)); clear hb4))
  all_goals go_ret
  all_goals exact ⟨rfl, HB4.out⟩
end Go.Proofs.YtenebkkfjalcaaaDoor
