/-
  Marks alike: what is written of them is alike. An argument opened, of little bulk: marks. (Printed by wip/tools/mktt.py.)
-/
import Derived.Test.YtcibcmfaebbhnaaGreatDoorPTMof
import Derived.Test.YtcibcmfaebbhnaaGreatDoorPLnk
import Derived.Test.YtcibcmfaebbhnaaGreatDoorPTRpt
set_option linter.unusedSimpArgs false
set_option linter.unusedVariables false

namespace Go.Proofs.YtcibcmfaebbhnaaGreatDoor.Tr
open Go.RowKit Go.WideShapes Go.ChangeShapes Q
theorem same_map {α : Type} {l l' : List Mk} (h : SameC l l') (f : Mk → α) (hf : ∀ m Am cm At ct Ab cb,f (m.at Am cm At ct Ab cb) = f m) : l'.map f = l.map f:=by
 apply List.ext_getElem
 ·rw [List.length_map,List.length_map]
  exact h.1
 ·intro i h1 h2
  rw [List.getElem_map,List.getElem_map];have hi' : i < l'.length:=by simpa using h1
  have hi : i < l.length:=by simpa using h2
  obtain ⟨Am,cm,At,ct,Ab,cb,e⟩:=h.2 i _ _ (List.getElem?_eq_getElem hi) (List.getElem?_eq_getElem hi');rw [e,hf]
theorem same_wr {l l' : List Mk} (h : SameC l l') : l'.all wrB = l.all wrB:=by
 have:=same_map h wrB (fun _ _ _ _ _ _ _ => rfl);have e : ∀ q : List Mk,q.all wrB = (q.map wrB).all id:=fun q => by rw [List.all_map];rfl
 rw [e,e,this]
theorem same_out {l l' : List Mk} (h : SameC l l') : outL l' = outL l:=by
 have:=same_map h (fun m => lineL m ++ [10]) (fun _ _ _ _ _ _ _ => rfl);unfold outL;rw [List.flatMap_def,List.flatMap_def,this]
theorem same_T {l l' : List Mk} (h : SameC l l') : resT l' = resT l:=by unfold resT;rw [same_wr h,same_out h]
theorem same_N {l l' : List Mk} (h : SameC l l') : resN l' = resN l:=by unfold resN;rw [same_wr h]
theorem SameC.symm {l l' : List Mk} (h : SameC l l') : SameC l' l:=by
 refine ⟨h.1.symm,fun k m' m hm' hm => ?_⟩;obtain ⟨Am,cm,At,ct,Ab,cb,e⟩:=h.2 k m m' hm hm';subst e;exact ⟨m.Am,m.cm,m.At,m.ct,m.Ab,m.cb,rfl⟩
theorem SameC.sz {l l' : List Mk} (h : SameC l l') (hz : ∀ m ∈ l,MkZ m) : ∀ m ∈ l',MkZ m:=by
 intro m' hm';obtain ⟨k,hk,rfl⟩:=List.getElem_of_mem hm';have hk2 : k < l.length:=by rw [← h.1];exact hk
 obtain ⟨Am,cm,At,ct,Ab,cb,e⟩:=h.2 k _ _ (List.getElem?_eq_getElem hk2) (List.getElem?_eq_getElem hk);have z:=hz _ (List.getElem_mem hk2);rw [e];exact ⟨z.nm,z.nt,z.nb,z.bd,z.key,z.val,z.old,z.rv⟩
theorem MsIn.more {w : World} {B B' n : Nat} {A : Option Addr} {l : List Mk} (h : MsIn w B A n l) (hB : B ≤ B') : MsIn w B' A n l:=⟨h.row.more hB,fun m hm => (h.ent m hm).more hB⟩
end Go.Proofs.YtcibcmfaebbhnaaGreatDoor.Tr
namespace Go.Proofs.YtcibcmfaebbhnaaGreatDoor.Tr
open Go.ChangeShapes Go.WideShapes Go.ChangeAt Go.RowKit Go.Deep Q
section
variable {H : Type} {enc : TypeId × Value → H} {W : World}
theorem cellsT3 : Tryz.prog.cellsOf 3 = 1:=by kernel_rfl
theorem cellsT9 : Tryz.prog.cellsOf 9 = 1:=by kernel_rfl
theorem cellsT24 : Tryz.prog.cellsOf 49 = 1:=by kernel_rfl
theorem cellsT39 : Tryz.prog.cellsOf 45 = 4:=by kernel_rfl
theorem cellsT40 : Tryz.prog.cellsOf 46 = 1:=by kernel_rfl
theorem cellsT41 : Tryz.prog.cellsOf 22 = 1:=by kernel_rfl
theorem cellsT42 : Tryz.prog.cellsOf 29 = 1:=by kernel_rfl
theorem cellsT44 : Tryz.prog.cellsOf 31 = 7:=by kernel_rfl
theorem cellsT46 : Tryz.prog.cellsOf 48 = 3:=by kernel_rfl
theorem cellsT48 : Tryz.prog.cellsOf 51 = 26:=by kernel_rfl
theorem cellsT69 : Tryz.prog.cellsOf 84 = 3:=by kernel_rfl
theorem len3 {α : Type} {l : List α} (h : l.length = 3) : ∃ a b c,l = [a,b,c]:=list3 h
theorem GB.mems {v : Value} {d : DataW H} (h : GB enc W 46 [v] d) :
  ∃ (A : Option Addr) (n c : Nat) (xs : List (Int × Int × Int)),v = .slice A n c ∧ RS W W.heap.size A n xs ∧ n ≤ 1048576:=by
 rcases GB.slice Tryz.underlying46 (by rw [cellsT69];omega) h with rfl | ⟨a,len,cap,D,cs,rfl,hl,hn,hb,hi⟩
 ·exact ⟨none,0,0,[],rfl,⟨by simp [sts],fun h => absurd h (by simp)⟩,by omega⟩
 ·rw [cellsT69] at hi
  have hex : ∀ i,∃ x : Int × Int × Int,i < len → cs i = [.int .i64 x.1,.int .i64 x.2.1,.int .i64 x.2.2]:=by
   intro i
   by_cases hil : i < len
   ·obtain ⟨hc1,_,hg⟩:=hi i hil
    obtain ⟨c0,c1,c2,e⟩:=len3 hc1;rw [e] at hg;obtain ⟨_,g0⟩:=GB.fld Tryz.underlying84 hg 0 3 0 1 ⟨_,rfl,rfl,rfl⟩ cellsT3;obtain ⟨_,g1⟩:=GB.fld Tryz.underlying84 hg 1 3 1 1 ⟨_,rfl,rfl,rfl⟩ cellsT3;obtain ⟨_,g2⟩:=GB.fld Tryz.underlying84 hg 2 3 2 1 ⟨_,rfl,rfl,rfl⟩ cellsT3;simp only [List.drop_zero,List.drop_succ_cons,List.take_succ_cons,List.take_zero] at g0 g1 g2;obtain ⟨x0,rfl,_⟩:=GB.int Tryz.underlying3 g0;obtain ⟨x1,rfl,_⟩:=GB.int Tryz.underlying3 g1;obtain ⟨x2,rfl,_⟩:=GB.int Tryz.underlying3 g2;exact ⟨(x0,x1,x2),fun _ => e⟩
   ·exact ⟨(0,0,0),fun h => absurd h hil⟩
  obtain ⟨f,hf⟩:=Classical.axiomOfChoice hex;have hr:=reads_elems (W:=W) (C:=3) (a:=a) (cs:=cs) hb (fun i hi' => (hi i hi').1) (fun i hi' => (hi i hi').2.1)
  have e : sts ((List.range len).map f) = (List.range len).flatMap cs:=by
   unfold sts;rw [List.flatMap_map];exact flat_congr fun i hi' => (hf i (by simpa using hi')).symm
  refine ⟨some a,len,cap,(List.range len).map f,rfl,?_,hn⟩;show Reads _ _ _ _ _ (sts _);rw [e];exact hr
theorem list26 {α : Type} {l : List α} (h : l.length = 26) : ∃ c0 c1 c2 c3 c4 c5 c6 c7 c8 c9 c10 c11 c12 c13 c14 c15 c16 c17 c18 c19 c20 c21 c22 c23 c24 c25,l = [c0,c1,c2,c3,c4,c5,c6,c7,c8,c9,c10,c11,c12,c13,c14,c15,c16,c17,c18,c19,c20,c21,c22,c23,c24,c25]:=by
 match l,h with
 | [c0,c1,c2,c3,c4,c5,c6,c7,c8,c9,c10,c11,c12,c13,c14,c15,c16,c17,c18,c19,c20,c21,c22,c23,c24,c25],_ => exact ⟨c0,c1,c2,c3,c4,c5,c6,c7,c8,c9,c10,c11,c12,c13,c14,c15,c16,c17,c18,c19,c20,c21,c22,c23,c24,c25,rfl⟩
theorem GB.mark {cs : List Value} {d : DataW H} (hl : cs.length = 26) (h : GB enc W 51 cs d) : ∃ m : Mk,cs = m.cs.toList ∧ MkIn W W.heap.size m ∧ MkZ m:=by
 obtain ⟨c0,c1,c2,c3,c4,c5,c6,c7,c8,c9,c10,c11,c12,c13,c14,c15,c16,c17,c18,c19,c20,c21,c22,c23,c24,c25,rfl⟩:=list26 hl;obtain ⟨_,g0⟩:=GB.fld Tryz.underlying51 h 0 3 0 1 ⟨_,rfl,rfl,rfl⟩ cellsT3;obtain ⟨_,g1⟩:=GB.fld Tryz.underlying51 h 1 3 1 1 ⟨_,rfl,rfl,rfl⟩ cellsT3;obtain ⟨_,g2⟩:=GB.fld Tryz.underlying51 h 2 3 2 1 ⟨_,rfl,rfl,rfl⟩ cellsT3;obtain ⟨_,g3⟩:=GB.fld Tryz.underlying51 h 3 3 3 1 ⟨_,rfl,rfl,rfl⟩ cellsT3;obtain ⟨_,g4⟩:=GB.fld Tryz.underlying51 h 4 45 4 4 ⟨_,rfl,rfl,rfl⟩ cellsT39;obtain ⟨_,g5⟩:=GB.fld Tryz.underlying51 h 5 46 8 1 ⟨_,rfl,rfl,rfl⟩ cellsT40;obtain ⟨_,g6⟩:=GB.fld Tryz.underlying51 h 6 22 9 1 ⟨_,rfl,rfl,rfl⟩ cellsT41;obtain ⟨_,g7⟩:=GB.fld Tryz.underlying51 h 7 3 10 1 ⟨_,rfl,rfl,rfl⟩ cellsT3;obtain ⟨_,g8⟩:=GB.fld Tryz.underlying51 h 8 3 11 1 ⟨_,rfl,rfl,rfl⟩ cellsT3;obtain ⟨_,g9⟩:=GB.fld Tryz.underlying51 h 9 3 12 1 ⟨_,rfl,rfl,rfl⟩ cellsT3;obtain ⟨_,g10⟩:=GB.fld Tryz.underlying51 h 10 3 13 1 ⟨_,rfl,rfl,rfl⟩ cellsT3;obtain ⟨_,g11⟩:=GB.fld Tryz.underlying51 h 11 29 14 1 ⟨_,rfl,rfl,rfl⟩ cellsT42;obtain ⟨_,g12⟩:=GB.fld Tryz.underlying51 h 12 31 15 7 ⟨_,rfl,rfl,rfl⟩ cellsT44;obtain ⟨_,g13⟩:=GB.fld Tryz.underlying51 h 13 48 22 3 ⟨_,rfl,rfl,rfl⟩ cellsT46;obtain ⟨_,g14⟩:=GB.fld Tryz.underlying51 h 14 49 25 1 ⟨_,rfl,rfl,rfl⟩ cellsT24;simp only [List.drop_zero,List.drop_succ_cons,List.take_succ_cons,List.take_zero] at g0 g1 g2 g3 g4 g5 g6 g7 g8 g9 g10 g11 g12 g13 g14;obtain ⟨_,v0⟩:=GB.fld Tryz.underlying45 g4 0 3 0 1 ⟨_,rfl,rfl,rfl⟩ cellsT3;obtain ⟨_,v1⟩:=GB.fld Tryz.underlying45 g4 1 3 1 1 ⟨_,rfl,rfl,rfl⟩ cellsT3;obtain ⟨_,v2⟩:=GB.fld Tryz.underlying45 g4 2 3 2 1 ⟨_,rfl,rfl,rfl⟩ cellsT3;obtain ⟨_,v3⟩:=GB.fld Tryz.underlying45 g4 3 3 3 1 ⟨_,rfl,rfl,rfl⟩ cellsT3;simp only [List.drop_zero,List.drop_succ_cons,List.take_succ_cons,List.take_zero] at v0 v1 v2 v3;obtain ⟨_,q0⟩:=GB.fld Tryz.underlying31 g12 0 3 0 1 ⟨_,rfl,rfl,rfl⟩ cellsT3;obtain ⟨_,q1⟩:=GB.fld Tryz.underlying31 g12 1 3 1 1 ⟨_,rfl,rfl,rfl⟩ cellsT3;obtain ⟨_,q2⟩:=GB.fld Tryz.underlying31 g12 2 3 2 1 ⟨_,rfl,rfl,rfl⟩ cellsT3;obtain ⟨_,q3⟩:=GB.fld Tryz.underlying31 g12 3 3 3 1 ⟨_,rfl,rfl,rfl⟩ cellsT3;obtain ⟨_,q4⟩:=GB.fld Tryz.underlying31 g12 4 9 4 1 ⟨_,rfl,rfl,rfl⟩ cellsT9;obtain ⟨_,q5⟩:=GB.fld Tryz.underlying31 g12 5 9 5 1 ⟨_,rfl,rfl,rfl⟩ cellsT9;obtain ⟨_,q6⟩:=GB.fld Tryz.underlying31 g12 6 9 6 1 ⟨_,rfl,rfl,rfl⟩ cellsT9;simp only [List.drop_zero,List.drop_succ_cons,List.take_succ_cons,List.take_zero] at q0 q1 q2 q3 q4 q5 q6;obtain ⟨_,r0⟩:=GB.fld Tryz.underlying48 g13 0 3 0 1 ⟨_,rfl,rfl,rfl⟩ cellsT3;obtain ⟨_,r1⟩:=GB.fld Tryz.underlying48 g13 1 9 1 1 ⟨_,rfl,rfl,rfl⟩ cellsT9;obtain ⟨_,r2⟩:=GB.fld Tryz.underlying48 g13 2 3 2 1 ⟨_,rfl,rfl,rfl⟩ cellsT3;simp only [List.drop_zero,List.drop_succ_cons,List.take_succ_cons,List.take_zero] at r0 r1 r2;obtain ⟨aT,rfl,_⟩:=GB.int Tryz.underlying3 g0;obtain ⟨kd,rfl,_⟩:=GB.int Tryz.underlying3 g1;obtain ⟨nd,rfl,_⟩:=GB.int Tryz.underlying3 g2;obtain ⟨ic,rfl,_⟩:=GB.int Tryz.underlying3 g3;obtain ⟨ep,rfl,_⟩:=GB.int Tryz.underlying3 v0;obtain ⟨ld,rfl,_⟩:=GB.int Tryz.underlying3 v1;obtain ⟨ii,rfl,_⟩:=GB.int Tryz.underlying3 v2;obtain ⟨ci,rfl,_⟩:=GB.int Tryz.underlying3 v3;obtain ⟨Am,nm,cm,ms,rfl,hm1,hm2⟩:=GB.mems g5;obtain ⟨At,nt,ct,ts,rfl,ht1,ht2,_⟩:=GB.intL g6;obtain ⟨se,rfl,_⟩:=GB.int Tryz.underlying3 g7;obtain ⟨sq,rfl,_⟩:=GB.int Tryz.underlying3 g8;obtain ⟨po,rfl,_⟩:=GB.int Tryz.underlying3 g9;obtain ⟨n,rfl,_⟩:=GB.int Tryz.underlying3 g10;obtain ⟨Ab,nb,cb,bd,rfl,hb1,hb2,hb3⟩:=GB.bytes g11;obtain ⟨cl,rfl,_⟩:=GB.int Tryz.underlying3 q0;obtain ⟨cn,rfl,_⟩:=GB.int Tryz.underlying3 q1;obtain ⟨rq,rfl,_⟩:=GB.int Tryz.underlying3 q2;obtain ⟨op,rfl,_⟩:=GB.int Tryz.underlying3 q3;obtain ⟨key,rfl,hkey⟩:=GB.str q4;obtain ⟨val,rfl,hval⟩:=GB.str q5;obtain ⟨old,rfl,hold⟩:=GB.str q6;obtain ⟨co,rfl,_⟩:=GB.int Tryz.underlying3 r0;obtain ⟨rv,rfl,hrv⟩:=GB.str r1;obtain ⟨rn,rfl,_⟩:=GB.int Tryz.underlying3 r2;obtain ⟨er,rfl,_⟩:=GB.int Tryz.underlying49 g14;exact ⟨⟨aT,kd,nd,ic,ep,ld,ii,ci,Am,nm,cm,ms,At,nt,ct,ts,se,sq,po,n,Ab,nb,cb,bd,cl,cn,rq,op,key,val,old,co,rv,rn,er⟩,rfl,⟨hm1,ht1,hb1,by show nm ≤ _;omega,by show nt ≤ _;omega,by show nb ≤ _;omega⟩,⟨hm2,ht2,hb2,hb3,hkey,hval,hold,hrv⟩⟩
theorem GB.marks {v : Value} {d : DataW H} (h : GB enc W 28 [v] d) : ∃ (A : Option Addr) (n c : Nat) (l : List Mk),v = .slice A n c ∧ MsIn W W.heap.size A n l ∧ n ≤ 1048576 ∧ ∀ m ∈ l,MkZ m:=by
 rcases GB.slice Tryz.underlying28 (by rw [cellsT48];omega) h with rfl | ⟨a,len,cap,D,cs,rfl,hl,hn,hb,hi⟩
 ·exact ⟨none,0,0,[],rfl,⟨⟨by simp [mkCells],fun h => absurd h (by simp)⟩,fun m hm => by cases hm⟩,by omega,fun m hm => by cases hm⟩
 ·rw [cellsT48] at hi
  have hex : ∀ i,∃ m : Mk,i < len → cs i = m.cs.toList ∧ MkIn W W.heap.size m ∧ MkZ m:=by
   intro i
   by_cases hil : i < len
   ·obtain ⟨hc1,_,hg⟩:=hi i hil
    obtain ⟨m,h1,h2,h3⟩:=GB.mark hc1 hg;exact ⟨m,fun _ => ⟨h1,h2,h3⟩⟩
   ·exact ⟨⟨0,0,0,0,0,0,0,0,none,0,0,[],none,0,0,[],0,0,0,0,none,0,0,[],0,0,0,0,⟨#[]⟩,⟨#[]⟩,⟨#[]⟩,0,⟨#[]⟩,0,0⟩,fun h => absurd h hil⟩
  obtain ⟨f,hf⟩:=Classical.axiomOfChoice hex;have hr:=reads_elems (W:=W) (C:=26) (a:=a) (cs:=cs) hb (fun i hi' => (hi i hi').1) (fun i hi' => (hi i hi').2.1)
  have e : mkCells ((List.range len).map f) = (List.range len).flatMap cs:=by
   unfold mkCells;rw [List.flatMap_map];exact flat_congr fun i hi' => (hf i (by simpa using hi')).1.symm
  refine ⟨some a,len,cap,(List.range len).map f,rfl,⟨?_,fun m hm => ?_⟩,hn,fun m hm => ?_⟩
  ·rw [e]
   exact hr
  ·obtain ⟨i,hi',rfl⟩:=List.mem_map.1 hm
   exact (hf i (by simpa using hi')).2.1
  ·obtain ⟨i,hi',rfl⟩:=List.mem_map.1 hm
   exact (hf i (by simpa using hi')).2.2
end
end Go.Proofs.YtcibcmfaebbhnaaGreatDoor.Tr
