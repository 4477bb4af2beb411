/-
  The law's marksOf: a copy of the marks, in memory of its own. (Printed by wip/tools/mkmof.py.) The program's PrintTrace.
-/
import Derived.Deep.WholeRow
import Derived.Test.YtcibcmfaebbhnaaGreatDoorPTRpt
import Derived.Test.YtcibcmfaebbhnaaGreatDoorPHdr
import Derived.Test.YtcibcmfaebbhnaaGreatDoorPCfgW
import Derived.Test.YtcibcmfaebbhnaaGreatDoorPTMar
import Derived.Test.YtcibcmfaebbhnaaGreatDoorPWords
set_option linter.unusedSimpArgs false
set_option linter.unusedVariables false
set_option maxRecDepth 100000
set_option maxHeartbeats 8000000

namespace Go.Proofs.YtcibcmfaebbhnaaGreatDoor.Tr
open Go.RowKit Go.WideShapes Go.ChangeShapes Q
theorem info69 : (Tryz.prog.info? 84).map (fun i => (i.zero,i.size,i.bytes)) = some (some (.agg #[.int .i64 0,.int .i64 0,.int .i64 0]),3,24):=by kernel_rfl
theorem info48 : (Tryz.prog.info? 51).map (fun i => (i.zero,i.size,i.bytes)) = some (some (.agg #[.int .i64 0,.int .i64 0,.int .i64 0,.int .i64 0,.int .i64 0,.int .i64 0,.int .i64 0,.int .i64 0,.slice none 0 0,.slice none 0 0,.int .i64 0,.int .i64 0,.int .i64 0,.int .i64 0,.slice none 0 0,.int .i64 0,.int .i64 0,.int .i64 0,.int .i64 0,.string ⟨#[]⟩,.string ⟨#[]⟩,.string ⟨#[]⟩,.int .i64 0,.string ⟨#[]⟩,.int .i64 0,.int .i64 0]),26,288):=by kernel_rfl
structure MkT (w : World) (b : Nat) (m : Mk) : Prop where
 mem : w.ownsRow b 84 3 (.slice m.Am m.nm m.cm) m.nm (sts m.ms)
 tr : w.ownsRow b 3 1 (.slice m.At m.nt m.ct) m.nt (ints m.ts)
 body : w.ownsRow b 5 1 (.slice m.Ab m.nb m.cb) m.nb (Lib.byteCells m.bd)
 hm : m.nm ≤ 10000000
 ht : m.nt ≤ 10000000
 hb : m.nb ≤ 100000000
theorem MkT.inn {w : World} {b : Nat} {m : Mk} (h : MkT w b m) : MkIn w w.heap.size m:=⟨Reads.of_own h.mem,Reads.of_own h.tr,Reads.of_own h.body,h.hm,h.ht,h.hb⟩
theorem MkT.step {w w' : World} {b : Nat} {m : Mk} (h : MkT w b m) (hb : Below w.heap.size w w') : MkT w' b m:=⟨own_step h.mem hb,own_step h.tr hb,own_step h.body hb,h.hm,h.ht,h.hb⟩
theorem MkT.base {w : World} {b b' : Nat} {m : Mk} (h : MkT w b m) (hb : b' ≤ b) : MkT w b' m:=⟨own_base h.mem hb,own_base h.tr hb,own_base h.body hb,h.hm,h.ht,h.hb⟩
theorem MkT.push {w w' : World} {b b' n : Nat} {m : Mk} {v : Value} {xs : List Value} (h : MkT w b m) (h' : w.ownsRow b' 51 26 v n xs) (hg : w.grownBy w' v.ownBlock) : MkT w' b m :=
 ⟨own_kept h.mem h' (by decide) hg,own_kept h.tr h' (by decide) hg,own_kept h.body h' (by decide) hg,h.hm,h.ht,h.hb⟩
theorem sts_one (l : List (Int × Int × Int)) : ∀ u ∈ sts l,u.oneCell' = true:=by
 intro u hu;unfold sts at hu;rw [List.mem_flatMap] at hu;obtain ⟨s,_,h⟩:=hu;simp at h
 rcases h with rfl | rfl | rfl <;> rfl
theorem bytes_one (l : List UInt8) : ∀ u ∈ Lib.byteCells l,u.oneCell' = true:=by
 intro u hu;unfold Lib.byteCells at hu;obtain ⟨b,_,rfl⟩:=List.mem_map.1 hu
 rfl
theorem cs_one (m : Mk) : ∀ u ∈ m.cs.toList,u.oneCell' = true:=by
 intro u hu;have h : m.cs.all (·.oneCell') = true:=by simp [Mk.cs,Value.oneCell']
 exact (Array.all_eq_true_iff_forall_mem.1 h) u (by simpa using hu)
theorem mkCells_snoc (l : List Mk) (m : Mk) : mkCells (l ++ [m]) = mkCells l ++ m.cs.toList:=by simp [mkCells]
section
variable {P : Program}
end
theorem run_one48 {o : Oper} {a : Act} {V : World} (x : Operand) (ho : o.op = .buildSlice 28 1 #[(0,x)]) (m : Mk) (hx : a.eval x = .agg m.cs) :
  (execOp a.eval o).run Tryz.prog V = .ok (.value (.slice (some ⟨V.heap.size,0,none⟩) 1 1)) (V.alloc (.cells m.cs 51)):=by
 unfold execOp;simp only [ho,List.map_toArray,List.map_cons,List.map_nil,hx];unfold Mk.cs;go_simp
theorem wpList_one48 {ops : Array Oper} {rest : List Oper} {o : Oper} {a : Act} {V : World} {Q : Exit → Act → World → Prop} (hgd : o.guard = none) (x : Operand) (ho : o.op = .buildSlice 28 1 #[(0,x)]) (m : Mk) (hx : a.eval x = .agg m.cs)
  (h : wpList Tryz.prog ops Q rest (a.put o.dst (.slice (some ⟨V.heap.size,0,none⟩) 1 1)) (V.alloc (.cells m.cs 51))) : wpList Tryz.prog ops Q (o :: rest) a V:=by
 refine wpList_plain hgd fun K hK => ?_
 unfold Oper.wp;rw [run_one48 x ho m hx];exact hK _ _ h
def CLoop (l : List Mk) (n : Nat) (w : World) (v i : Value) (wr : World) : Prop:=∃ (j : Nat) (l' : List Mk),j ≤ n ∧ i = .int .i64 j ∧ SameC (l.take j) l' ∧ wr.ownsRow w.heap.size 51 26 v j (mkCells l') ∧ (∀ m ∈ l',MkT wr w.heap.size m) ∧ Below w.heap.size w wr
theorem SameC.snoc {l l' : List Mk} {k : Nat} {m m' : Mk} (h : SameC (l.take k) l') (hm : l[k]? = some m) (hm' : ∃ Am cm At ct Ab cb,m' = m.at Am cm At ct Ab cb) : SameC (l.take (k + 1)) (l' ++ [m']):=by
 obtain ⟨hk,e⟩:=List.getElem?_eq_some_iff.1 hm;have hl : l'.length = k:=by have:=h.1;rw [List.length_take] at this;omega
 rw [List.take_succ_eq_append_getElem hk,e];have hlt : (l.take k).length = k:=by rw [List.length_take];omega
 refine ⟨by simp [h.1],fun i a a' ha ha' => ?_⟩
 rcases Nat.lt_or_ge i k with hi | hi
 ·rw [List.getElem?_append_left (by omega)] at ha ha'
  exact h.2 i a a' ha ha'
 ·have hi2 : i = k:=by
   have:=(List.getElem?_eq_some_iff.1 ha').1;simp at this;omega
  subst hi2;rw [List.getElem?_append_right (by omega),hlt,Nat.sub_self] at ha;rw [List.getElem?_append_right (by omega),hl,Nat.sub_self] at ha';simp at ha ha';subst ha ha';exact hm'
section
open Go.Shelf
theorem la166 : Lays.n166 Tryz.prog sren:={
 mixed:=la156.mixed,
 f166:=la156.f166,
 f240:=la156.f240,
 f276:=la156.f276,
 t0:=la156.t0,
 a0:=la156.a0,
 z0:=la156.z0,
 v0:=la156.v0,
 t3:=la156.t3,
 a3:=la156.a3,
 z3:=la156.z3,
 v3:=la156.v3,
 t4:=la156.t4,
 a4:=la156.a4,
 z4:=la156.z4,
 v4:=la156.v4,
 t9:=la156.t9,
 a9:=la156.a9,
 z9:=la156.z9,
 v9:=la156.v9,
 t20:=la156.t20,
 a20:=la156.a20,
 z20:=la156.z20,
 v20:=la156.v20,
 t37:=la156.t37,
 a37:=la156.a37,
 z37:=la156.z37,
 v37:=la156.v37,
 t70:=la156.t70,
 a70:=la156.a70,
 z70:=la156.z70,
 v70:=la156.v70,
 t72:=la156.t72,
 a72:=la156.a72,
 z72:=la156.z72,
 v72:=la156.v72,
 t75:=la156.t75,
 a75:=la156.a75,
 z75:=la156.z75,
 v75:=la156.v75,
 t164:=la156.t164,
 a164:=la156.a164,
 z164:=la156.z164,
 v164:=la156.v164 }
theorem la169 : Lays.n169 Tryz.prog sren:={
 mixed:=la156.mixed,
 f169:=la156.f169,
 t0:=la156.t0,
 a0:=la156.a0,
 z0:=la156.z0,
 v0:=la156.v0,
 t3:=la156.t3,
 a3:=la156.a3,
 z3:=la156.z3,
 v3:=la156.v3,
 t9:=la156.t9,
 a9:=la156.a9,
 z9:=la156.z9,
 v9:=la156.v9,
 t37:=la156.t37,
 a37:=la156.a37,
 z37:=la156.z37,
 v37:=la156.v37,
 t70:=la156.t70,
 a70:=la156.a70,
 z70:=la156.z70,
 v70:=la156.v70,
 t72:=la156.t72,
 a72:=la156.a72,
 z72:=la156.z72,
 v72:=la156.v72,
 t127:=la156.t127,
 a127:=la156.a127,
 z127:=la156.z127,
 v127:=la156.v127 }
end
def IsB (B b : Nat) (l : List UInt8) (w : World) : Prop:=Lib.IsBuilder 90 5 B b (Lib.byteCells l) w
theorem IsB.step {B b : Nat} {l : List UInt8} {w w' : World} (h : IsB B b l w) (hb : Below w.heap.size w w') : IsB B b l w':=by
 have key : ∀ p,Lib.BuilderAt 90 5 B b p (Lib.byteCells l) w → Lib.BuilderAt 90 5 B b p (Lib.byteCells l) w':=by
  rintro p ⟨hB,v,hk,ho,hn⟩;exact ⟨hB,v,Blk.below (t:=90) hk hb (Blk.lt (t:=90) hk),own_step ho hb,hn⟩
 exact h.elim (fun x => .inl (key _ x)) (fun x => .inr (key _ x))
theorem IsB.alloc {B b : Nat} {l : List UInt8} {w : World} (h : IsB B b l w) (o : Obj) : IsB B b l (w.alloc o):=h.step ((Below.refl _ _).alloc (Nat.le_refl _) o)
theorem IsB.new (w : World) : IsB w.heap.size w.heap.size [] (w.alloc (.cells #[.pointer none,.slice none 0 0] 90)) :=
 .inl ⟨Nat.le_refl _,.slice none 0 0,Blk.new w 90 _,World.ownsRow_nil _ _ _ _,by simp [Value.ownBlock]⟩
theorem wstr_any {B b : Nat} {l : List UInt8} {w : World} (s : List UInt8) (h : IsB B b l w) (hl : l.length + s.length ≤ 140737488355328) (hB : B ≤ w.heap.size) :
  Calls Tryz.prog 33 #[.pointer (some ⟨b,0,none⟩),.string (S s)] w fun e w' => e = .returned (.tuple #[.int .i64 s.length,.nilIface]) ∧ IsB B b (l ++ s) w' ∧ Below B w w':=by
 have hbl : (Lib.byteCells l).length = l.length:=by simp [Lib.byteCells]
 refine (Any.Builder_WriteString la166 sextra B b (Lib.byteCells l) (S s) w h (by rw [hbl,S_size];exact hl) hB).mono ?_;rintro e w' ⟨he,hb,hbe⟩;refine ⟨by rw [he,S_size],.inr ?_,hbe⟩;have e1 : Lib.byteCells l ++ Lib.strCells (S s) = Lib.byteCells (l ++ s):=by rw [str_cells];simp [Lib.byteCells]
 rw [e1] at hb;exact hb
theorem wbyte_any {B b : Nat} {l : List UInt8} {w : World} (c : UInt8) (h : IsB B b l w) (hl : l.length + 1 ≤ 140737488355328) (hB : B ≤ w.heap.size) :
  Calls Tryz.prog 36 #[.pointer (some ⟨b,0,none⟩),.int .u8 (c.toNat : Int)] w fun e w' => e = .returned .nilIface ∧ IsB B b (l ++ [c]) w' ∧ Below B w w':=by
 have hbl : (Lib.byteCells l).length = l.length:=by simp [Lib.byteCells]
 refine (Any.Builder_WriteByte la167 sextra B b (Lib.byteCells l) (c.toNat : Int) w h (by rw [hbl];exact hl) hB).mono ?_;rintro e w' ⟨he,hb,hbe⟩;refine ⟨he,.inr ?_,hbe⟩;have e1 : Lib.byteCells l ++ [.int .u8 (c.toNat : Int)] = Lib.byteCells (l ++ [c]):=by simp [Lib.byteCells]
 rw [e1] at hb;exact hb
theorem bstr_any {B b : Nat} {l : List UInt8} {w : World} (h : IsB B b l w) (h0 : l ≠ []) :
  Calls Tryz.prog 37 #[.pointer (some ⟨b,0,none⟩)] w fun e w' => e = .returned (.string (S l)) ∧ Below B w w' :=
 Any.Builder_String la169 sextra B b l w h h0
section
variable {P : Program}
theorem wpList_store_new {ops : Array Oper} {rest : List Oper} {o : Oper} {a : Act} {w : World} {Q : Exit → Act → World → Prop} (hgd : o.guard = none) (ty : TypeId) (x y : Operand) (ho : o.op = .store ty x y) (c c' : Array Value)
  (hx : a.eval x = .pointer (some ⟨w.heap.size,0,none⟩)) (hy : a.eval y = .agg c') (hi : (P.info? ty).map (·.size) = some c'.size) (hz : c.size = c'.size) (h1 : c'.all (·.oneCell') = true)
  (h : wpList P ops Q rest (a.put o.dst undef) (w.alloc (.cells c' ty))) : wpList P ops Q (o :: rest) a (w.alloc (.cells c ty)):=by
 refine wpList_plain hgd fun K hK => ?_
 unfold Oper.wp execOp;simp only [ho,hx,hy,run_storeAt_new w ty c c' hi hz h1,Sem.run_bind,Sem.run_pure,Result.andThen_ok];exact hK _ _ h
end
def PLoop (l : List Mk) (n : Nat) (w : World) (i : Value) (wr : World) : Prop:=∃ (j : Nat),j ≤ n ∧ i = .int .i64 j ∧ (l.take j).all wrB = true ∧ (outL (l.take j)).length ≤ 16 + 121000201 * j ∧ IsB w.heap.size w.heap.size (outL (l.take j)) wr ∧ Below w.heap.size w wr
theorem pprint_any (A : Option Addr) (n c : Nat) (l : List Mk) (w : World) (h : MsIn w w.heap.size A n l) (hz : ∀ m ∈ l,MkZ m) (hn : n ≤ 1048576) (hT : Tab w) (hK : KT w) :
  Calls Tryz.prog 12 #[.slice A n c] w fun e w' => e = .returned (.tuple #[.string (S (resT l)),.int .i64 (resN l)]) ∧ Below w.heap.size w w':=by
 have H:=hide h;have HZ:=hide hz;have HT:=hide hT;have HKT:=hide hK;have hll:=hide h.len;have HB0:=hide (IsB.new w);have HW0 : Hid (Below w.heap.size w (w.alloc (.cells #[.pointer none,.slice none 0 0] 90))):=(Below.refl _ _).alloc (Nat.le_refl _) _;clear h hz hT hK;go_enter Tryz.func12,Tryz.ntmps12;go_upto_region 4 with (go_at_call 33;refine (wstr_any headT HB0.out (by simp [headT]) (by simp)).mono ?_;rintro e w1 ⟨rfl,hi1,hb1⟩;have HL1 : Hid (PLoop l n w (.int .i64 0) w1):=⟨0,Nat.zero_le _,rfl,by simp,by simp [outL,headT],by simpa [outL] using hi1,HW0.out.trans hb1⟩;clear hi1 hb1)
 clear HB0 HW0;go_loopw [6,10] (fun _ i wr => PLoop l n w i wr) (fun _ i _ => n - (intOf i).toNat)
 case atStart => exact HL1.out
 case round =>
  clear HL1;unfold PLoop at hrel;obtain ⟨j,hj,rfl,hall,hlen,hisb,hb⟩:=hrel;have HALL:=hide hall;have HI:=hide hisb;have HBB:=hide hb;have HLENJ:=hide hlen;have hol : (outL (l.take j)).length ≤ 126878000000000:=by omega
  have HOL:=hide hol;clear hall hisb hb hlen hol;have hsw : w.heap.size ≤ wr.heap.size:=HBB.out.size
  by_cases hlt : j < n
  ·obtain ⟨b,off,m,rfl,hbB,hm,hin,qc⟩:=(H.out.below HBB.out).at_ hlt
   have HQ:=hide (cells_add qc);have HMJ:=hide hm;have HIN:=hide (hin.more hsw);have HMZ:=hide (HZ.out m (List.mem_of_getElem? hm));have hbW : b < wr.heap.size:=by omega
   clear hm hin qc;have k0 : (0 : Int) ≤ (j : Int):=by omega
   have kn : (j : Int) < (n : Int):=by omega
   go_upto_region 5 with fail
   refine wp_region_lit ?_;refine wpList_value rfl (.pointer (some ⟨b,off + j * 26,none⟩)) (by go_simp) ?_;refine wpList_value rfl (.agg m.cs) (ex_load 51 (.tmp 12) rfl ⟨b,off + j * 26,none⟩ rfl m.cs _ Tryz.underlying51 rfl (ld48 _ (mk_size _)) HQ.out) ?_;simp only [Act.put,aSt,aSz,aSs];refine wpList_step (fun K hK => ?_);rw [if_pos (by rfl)];go_simp;refine hK _ _ ?_;clear hK K;refine wpList_store_new rfl 51 (.tmp 6) (.tmp 13) rfl _ m.cs rfl rfl (ld48 _ (mk_size _)) rfl (by simp [Mk.cs,Value.oneCell']) ?_;simp only [Act.put,aSt,aSz,aSs];go_upto_region 6 with fail
   obtain ⟨w5,hw5⟩ : ∃ w5,w5 = World.alloc wr (.cells m.cs 51):=⟨_,rfl⟩
   have HX : Hid (BX m wr w5):=by
    show BX m wr w5;rw [hw5];exact BX.new m wr
   rw [← hw5];clear hw5;have HI5:=hide (HI.out.step HX.out.low);have HB5:=hide (HBB.out.trans (HX.out.low.mono hsw));refine wp_region_lit ?_;refine wpList_value rfl (.agg m.cs) (ex_load 51 (.tmp 6) rfl _ rfl m.cs _ Tryz.underlying51 rfl (ld48 _ (mk_size _)) (box_all HX.out.box)) ?_;simp only [Act.put,aSt,aSz,aSs]
   cases hwb : wrB m with
   | false =>
    have HRW : Hid (Calls Tryz.prog 34 #[.agg m.cs] w5 fun e w' => e = .returned (.bool false) ∧ Below w5.heap.size w5 w'):=by
     have:=writable_any m w5 (HX.out.inn HIN.out);rw [hwb] at this;exact this
    have HNO:=hide (all_no HMJ.out hwb);clear hwb;go_wp2_with (go_at_call 34;refine HRW.out.mono ?_;rintro e w2 ⟨rfl,hb2⟩;have HB2:=hide (HB5.out.trans (hb2.mono HB5.out.size));clear hb2)
    first | refine bodyPost_end (results_tmp2 rfl _ _ _) rfl ?_ | refine bodyPost_ret (results_tmp2 rfl _ _ _) rfl ?_
    refine ⟨?_,HB2.out⟩;unfold resT resN;rw [HNO.out]
    rfl
   | true =>
    have HRW : Hid (Calls Tryz.prog 34 #[.agg m.cs] w5 fun e w' => e = .returned (.bool true) ∧ Below w5.heap.size w5 w'):=by
     have:=writable_any m w5 (HX.out.inn HIN.out);rw [hwb] at this;exact this
    have HYES:=hide (all_snoc HMJ.out HALL.out hwb);have HWB:=hide hwb;have HLL:=hide (line_len2 HIN.out HWB.out HMZ.out);clear hwb;go_upto_region 8 with (go_at_call 34;refine HRW.out.mono ?_;rintro e w2 ⟨rfl,hb2⟩;have HB2:=hide (HB5.out.trans (hb2.mono HB5.out.size));have HX2:=hide (HX.out.step hb2);have HI2:=hide (HI5.out.step hb2);clear hb2)
    clear HRW HX HI5 HB5 HQ;refine wp_region_lit ?_;refine wpList_value rfl (.agg m.cs) (ex_load 51 (.tmp 6) rfl _ rfl m.cs _ Tryz.underlying51 rfl (ld48 _ (mk_size _)) (box_all HX2.out.box)) ?_;simp only [Act.put,aSt,aSz,aSs];go_upto_region 10 with (first | (go_at_call 35;refine (mark_any m w2 (HX2.out.inn HIN.out) HWB.out HMZ.out (HT.out.below HB2.out) (HKT.out.below HB2.out)).mono ?_;rintro e w3 ⟨rfl,hb3⟩;have HB3:=hide (HB2.out.trans (hb3.mono HB2.out.size));have HI3:=hide (HI2.out.step hb3);clear hb3 HI2 HX2) | (go_at_call 33;refine (wstr_any (lineL m) HI3.out (by have:=HLL.out;have:=HOL.out;omega) HB3.out.size).mono ?_;rintro e w4 ⟨rfl,hi4,hb4⟩;have HB4:=hide (HB3.out.trans hb4);have HI4:=hide hi4;clear hi4 hb4) | (go_at_call 36;refine (wbyte_any 10 HI4.out (by have:=HLL.out;have:=HOL.out;rw [List.length_append];omega) HB4.out.size).mono ?_;rintro e w6 ⟨rfl,hi6,hb6⟩;have HB6:=hide (HB4.out.trans hb6);have HI6:=hide hi6;clear hi6 hb6))
    have HL4 : Hid (PLoop l n w (.int .i64 ((j : Int) + 1)) w6):=by
     refine ⟨j + 1,by omega,by go_num,HYES.out,?_,?_,HB6.out⟩
     ·rw [outL_snoc HMJ.out]
      have h1:=HLENJ.out;have h2:=HLL.out;simp only [List.length_append,List.length_cons,List.length_nil];omega
     ·rw [outL_snoc HMJ.out,← List.append_assoc]
      exact HI6.out
    clear HB3 HI3 HB4 HI4 HI6 HB6;go_wp2_with fail;go_roundw
    case rel => first | exact HL4.out | exact ⟨_,_,HL4.out,rfl,rfl⟩
    case measure => simp [intOf];omega
  ·have kn : ¬ (j : Int) < (n : Int):=by omega
   obtain rfl : j = n:=by omega
   clear hlt;go_wp2_with (go_at_call 37;refine (bstr_any HI.out (by simp [outL,headT])).mono ?_;rintro e w2 ⟨rfl,hb2⟩;have HB2:=hide (HBB.out.trans hb2);clear hb2)
   first | refine bodyPost_end (results_tmp2 rfl _ _ _) rfl ?_ | refine bodyPost_ret (results_tmp2 rfl _ _ _) rfl ?_
   refine ⟨?_,HB2.out⟩;have ht : l.take j = l:=List.take_of_length_le (by have:=hll.out;omega);have ha:=HALL.out;rw [ht] at ha;unfold resT resN;rw [if_pos ha,if_pos ha,ht]
   rfl
end Go.Proofs.YtcibcmfaebbhnaaGreatDoor.Tr
