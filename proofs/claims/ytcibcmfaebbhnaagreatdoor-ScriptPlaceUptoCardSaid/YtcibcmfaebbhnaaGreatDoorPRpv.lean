/-
  SameEvent and the program's alike: do two events say the same? (Printed by wip/tools/mksfu.py.) The reference's PrintEvent. (Printed by wip/tools/mkrpv.py.)
-/
import Derived.Test.YtcibcmfaebbhnaaGreatDoorPNib
import Derived.Test.YtcibcmfaebbhnaaGreatDoorPWri
import Derived.Test.YtcibcmfaebbhnaaGreatDoorPCfgW
import Derived.Test.YtcibcmfaebbhnaaGreatDoorPWords
set_option linter.unusedSimpArgs false
set_option linter.unusedVariables false
set_option maxRecDepth 100000
set_option maxHeartbeats 4000000

namespace Go.Proofs.YtcibcmfaebbhnaaGreatDoor
open Go.RowKit Go.WideShapes Go.ChangeShapes Q
def SamP (m m' : Em) (w : World) (e : Ending) (w' : World) : Prop:=∃ r : Bool,e = .returned (.bool r) ∧ (r = true ↔ m.ev = m'.ev) ∧ Below w.heap.size w w'
theorem samP_no {m m' : Em} {w w' : World} (h : ¬ m.ev = m'.ev) (hb : Below w.heap.size w w') : SamP m m' w (.returned (.bool false)) w':=⟨false,rfl,⟨fun h => absurd h (by decide),fun h' => absurd h' h⟩,hb⟩
theorem samP_yes {m m' : Em} {w w' : World} (h : m.ev = m'.ev) (hb : Below w.heap.size w w') : SamP m m' w (.returned (.bool true)) w':=⟨true,rfl,⟨fun _ => h,fun _ => rfl⟩,hb⟩
theorem bb_eq {x y : ByteArray} (h : x.data.toList = y.data.toList) : x = y:=ByteArray.ext (Array.toList_inj.1 h)
theorem tl_eq {x y : ByteArray} (h : x.toList = y.toList) : x.data.toList = y.data.toList:=by
 rw [ByteArray.toList_eq,ByteArray.toList_eq] at h;exact h
theorem nth_all {l l' : List Int} (h : l.length = l'.length) (ha : ∀ k,k < l.length → nth l k = nth l' k) : l = l':=by
 apply List.ext_getElem h
 intro i h1 h2;have:=ha i h1;simpa [nth,h1,h2] using this
theorem same_full (m m' : Em) (w : World) (hm : EmIn w w.heap.size m) (hm' : EmIn w w.heap.size m') :
  Calls Tryz.prog 21 #[.agg m.cs,.agg m'.cs] w fun e w' => SamP m m' w e w':=by
 have HM:=hide hm;have HM':=hide hm';obtain ⟨kd,a,b,n,Ab,nb,cb,bd,cl,cn,rq,op,key,val,old,As,ns,cs,sd⟩:=m;obtain ⟨kd',a',b',n',Ab',nb',cb',bd',cl',cn',rq',op',key',val',old',As',ns',cs',sd'⟩:=m';have h1:=HM.out.sid;have h2:=HM.out.body;have h3:=HM'.out.sid;have h4:=HM'.out.body;have h5:=HM.out.hs;simp only [Em.cs] at h1 h2 h3 h4 h5 ⊢;obtain ⟨W,hW⟩ : ∃ W,W = (w.alloc (.cells #[.int .i64 kd,.int .i64 a,.int .i64 b,.int .i64 n,.slice Ab nb cb,.int .i64 cl,.int .i64 cn,.int .i64 rq,.int .i64 op,.string key,.string val,.string old,.slice As ns cs] 33)).alloc (.cells #[.int .i64 kd',.int .i64 a',.int .i64 b',.int .i64 n',.slice Ab' nb' cb',.int .i64 cl',.int .i64 cn',.int .i64 rq',.int .i64 op',.string key',.string val',.string old',.slice As' ns' cs'] 33):=⟨_,rfl⟩;have HWE:=hide hW;have HB : Hid (Below w.heap.size w W):=by rw [hW];exact ((Below.refl _ _).alloc (Nat.le_refl _) _).alloc (by simp) _
 have H1:=hide (Reads.below h1 HB.out);have H3:=hide (Reads.below h3 HB.out);have HC2:=conv_reads (c:=cb) (Reads.below h2 HB.out);have HC4:=conv_reads (c:=cb') (Reads.below h4 HB.out);have htl:=hide (RI.len h1);have htl':=hide (RI.len h3);have b1 : Blk W w.heap.size 33 #[.int .i64 kd,.int .i64 a,.int .i64 b,.int .i64 n,.slice Ab nb cb,.int .i64 cl,.int .i64 cn,.int .i64 rq,.int .i64 op,.string key,.string val,.string old,.slice As ns cs]:=by rw [hW];exact (Blk.new _ _ _).alloc _
 have b2 : Blk W (w.heap.size + 1) 33 #[.int .i64 kd',.int .i64 a',.int .i64 b',.int .i64 n',.slice Ab' nb' cb',.int .i64 cl',.int .i64 cn',.int .i64 rq',.int .i64 op',.string key',.string val',.string old',.slice As' ns' cs']:=by rw [hW];exact blk_new _ _ _ _ (by simp)
 have B1:=hide b1;have B2:=hide b2;have x0 : W.cell? ⟨w.heap.size,0,none⟩ = some (.int .i64 kd):=b1.cell 0;have y0 : W.cell? ⟨w.heap.size + 1,0,none⟩ = some (.int .i64 kd'):=b2.cell 0;have x1 : W.cell? ⟨w.heap.size,1,none⟩ = some (.int .i64 a):=b1.cell 1;have y1 : W.cell? ⟨w.heap.size + 1,1,none⟩ = some (.int .i64 a'):=b2.cell 1;have x2 : W.cell? ⟨w.heap.size,2,none⟩ = some (.int .i64 b):=b1.cell 2;have y2 : W.cell? ⟨w.heap.size + 1,2,none⟩ = some (.int .i64 b'):=b2.cell 2;have x3 : W.cell? ⟨w.heap.size,3,none⟩ = some (.int .i64 n):=b1.cell 3;have y3 : W.cell? ⟨w.heap.size + 1,3,none⟩ = some (.int .i64 n'):=b2.cell 3;have x4 : W.cell? ⟨w.heap.size,4,none⟩ = some (.slice Ab nb cb):=b1.cell 4;have y4 : W.cell? ⟨w.heap.size + 1,4,none⟩ = some (.slice Ab' nb' cb'):=b2.cell 4;have x5 : W.cell? ⟨w.heap.size,5,none⟩ = some (.int .i64 cl):=b1.cell 5;have y5 : W.cell? ⟨w.heap.size + 1,5,none⟩ = some (.int .i64 cl'):=b2.cell 5;have x6 : W.cell? ⟨w.heap.size,6,none⟩ = some (.int .i64 cn):=b1.cell 6;have y6 : W.cell? ⟨w.heap.size + 1,6,none⟩ = some (.int .i64 cn'):=b2.cell 6;have x7 : W.cell? ⟨w.heap.size,7,none⟩ = some (.int .i64 rq):=b1.cell 7;have y7 : W.cell? ⟨w.heap.size + 1,7,none⟩ = some (.int .i64 rq'):=b2.cell 7;have x8 : W.cell? ⟨w.heap.size,8,none⟩ = some (.int .i64 op):=b1.cell 8;have y8 : W.cell? ⟨w.heap.size + 1,8,none⟩ = some (.int .i64 op'):=b2.cell 8;have x9 : W.cell? ⟨w.heap.size,9,none⟩ = some (.string key):=b1.cell 9;have y9 : W.cell? ⟨w.heap.size + 1,9,none⟩ = some (.string key'):=b2.cell 9;have x10 : W.cell? ⟨w.heap.size,10,none⟩ = some (.string val):=b1.cell 10;have y10 : W.cell? ⟨w.heap.size + 1,10,none⟩ = some (.string val'):=b2.cell 10;have x11 : W.cell? ⟨w.heap.size,11,none⟩ = some (.string old):=b1.cell 11;have y11 : W.cell? ⟨w.heap.size + 1,11,none⟩ = some (.string old'):=b2.cell 11;have x12 : W.cell? ⟨w.heap.size,12,none⟩ = some (.slice As ns cs):=b1.cell 12;have y12 : W.cell? ⟨w.heap.size + 1,12,none⟩ = some (.slice As' ns' cs'):=b2.cell 12;clear h1 h2 h3 h4 hm hm' hW b1 b2;go_enter Tryz.func21,Tryz.ntmps21;go_upto_region 1 with fail
 rw [← HWE.out];clear HWE;go_upto_region 4 with fail
 rotate_left 1
 case _ =>
  have HE : Hid (kd = kd' ∧ a = a' ∧ b = b' ∧ n = n' ∧ cl = cl' ∧ cn = cn' ∧ rq = rq' ∧ op = op' ∧ key.data.toList = key'.data.toList ∧ val.data.toList = val'.data.toList ∧ old.data.toList = old'.data.toList ∧ bd = bd' ∧ ns = ns') :=
   hide ⟨by assumption,by assumption,by assumption,by assumption,by assumption,by assumption,by assumption,by assumption,tl_eq (by assumption),tl_eq (by assumption),tl_eq (by assumption),tl_eq (x:=S bd) (y:=S bd') (by assumption),by
    have h : ((ns : Int) != (ns' : Int)) = false:=by assumption
    have h2 : (ns : Int) = (ns' : Int):=by simpa using h
    omega⟩
  clear x0 x1 x2 x3 x4 x5 x6 x7 x8 x9 x10 x11 y0 y1 y2 y3 y4 y5 y6 y7 y8 y9 y10 y11 HC2 HC4;have hns : ns' = ns:=HE.out.2.2.2.2.2.2.2.2.2.2.2.2.symm;rw [hns] at y12 htl';have H3:=H3.out;rw [hns] at H3;have H3:=hide H3;clear hns;go_loopw [5] (fun i wr => ∃ k q : Nat,k ≤ ns ∧ i = .int .i64 k ∧ wr = W.drewN q ∧ ∀ j,j < k → nth sd j = nth sd' j) (fun i _ => ns - (intOf i).toNat)
  case atStart => exact ⟨0,0,Nat.zero_le _,rfl,rfl,fun j hj => absurd hj (Nat.not_lt_zero _)⟩
  case round =>
   obtain ⟨k,q,hk,rfl,rfl,hall⟩:=hrel;have hall:=hide hall
   by_cases hlt : k < ns
   ·obtain ⟨ad,rfl,_,q0⟩:=RI.at_ H1.out hlt
    obtain ⟨ad',rfl,_,r0⟩:=RI.at_ H3.out hlt;have k0 : (0 : Int) ≤ (k : Int):=by omega
    have kn : (k : Int) < (ns : Int):=by omega
    obtain ⟨x,hx⟩ : ∃ x,x = nth sd k:=⟨_,rfl⟩;obtain ⟨y,hy⟩ : ∃ y,y = nth sd' k:=⟨_,rfl⟩;rw [← hx] at q0;rw [← hy] at r0;have hx:=hide hx;have hy:=hide hy
    by_cases hxy : x = y
    ·subst hxy
     go_wp2_with fail;go_quiet (fail);go_wp2_with fail;go_roundw
     case rel => exact ⟨k + 1,_,by omega,by go_num,rfl,fun j hj => if hjk : j = k then by rw [hjk,← hx.out,← hy.out] else hall.out j (by omega)⟩
     case measure => simp [intOf];omega
    ·have hxy' : (x != y) = true:=by simp [hxy]
     go_wp2_with fail;go_quiet (fail);go_wp2_with fail;go_ret;refine samP_no ?_ (below_drewN (below_drewN HB.out _) _);simp only [Em.ev,Ev.mk.injEq];rintro ⟨_,_,_,_,_,_,_,_,_,_,_,_,e13⟩;rw [hx.out,hy.out,e13] at hxy;exact absurd rfl hxy
   ·have kn : ¬ (k : Int) < (ns : Int):=by omega
    have hk:=hide hk;have hlt:=hide hlt;go_wp2_with fail;go_ret;have e:=HE.out;have e1:=htl.out;have e2:=htl'.out;have e3:=hk.out;have e4:=hlt.out;have hsd : sd = sd':=nth_all (by omega) (fun j hj => hall.out j (by omega));obtain ⟨f1,f2,f3,f4,f5,f6,f7,f8,f9,f10,f11,f12,f13⟩:=e;exact samP_yes (by simp only [Em.ev,f1,f2,f3,f4,f5,f6,f7,f8,f9,f10,f11,f12,hsd]) (below_drewN HB.out q)
 all_goals (
  refine bodyPost_ret (results_tmp rfl _ _ _) rfl ?_;refine samP_no ?_ HB.out;simp only [Em.ev,Ev.mk.injEq];rintro ⟨e1,e2,e3,e4,e5,e6,e7,e8,e9,e10,e11,e12,e13⟩;have e9:=congrArg ByteArray.toList (bb_eq e9);have e10:=congrArg ByteArray.toList (bb_eq e10);have e11:=congrArg ByteArray.toList (bb_eq e11);have e12:=congrArg (fun l => (S l).toList) e12
  have e14 : ((ns : Int) != (ns' : Int)) = false:=by
   have l1:=htl.out;rw [e13,htl'.out] at l1;rw [l1];simp
  first | contradiction | simp_all)
theorem alike_full (m m' : Em) (w : World) (hm : EmIn w w.heap.size m) (hm' : EmIn w w.heap.size m') :
  Calls Tryz.prog 39 #[.agg m.cs,.agg m'.cs] w fun e w' => SamP m m' w e w':=by
 have HM:=hide hm;have HM':=hide hm';obtain ⟨kd,a,b,n,Ab,nb,cb,bd,cl,cn,rq,op,key,val,old,As,ns,cs,sd⟩:=m;obtain ⟨kd',a',b',n',Ab',nb',cb',bd',cl',cn',rq',op',key',val',old',As',ns',cs',sd'⟩:=m';have h1:=HM.out.sid;have h2:=HM.out.body;have h3:=HM'.out.sid;have h4:=HM'.out.body;have h5:=HM.out.hs;simp only [Em.cs] at h1 h2 h3 h4 h5 ⊢;obtain ⟨W,hW⟩ : ∃ W,W = (w.alloc (.cells #[.int .i64 kd,.int .i64 a,.int .i64 b,.int .i64 n,.slice Ab nb cb,.int .i64 cl,.int .i64 cn,.int .i64 rq,.int .i64 op,.string key,.string val,.string old,.slice As ns cs] 33)).alloc (.cells #[.int .i64 kd',.int .i64 a',.int .i64 b',.int .i64 n',.slice Ab' nb' cb',.int .i64 cl',.int .i64 cn',.int .i64 rq',.int .i64 op',.string key',.string val',.string old',.slice As' ns' cs'] 33):=⟨_,rfl⟩;have HWE:=hide hW;have HB : Hid (Below w.heap.size w W):=by rw [hW];exact ((Below.refl _ _).alloc (Nat.le_refl _) _).alloc (by simp) _
 have H1:=hide (Reads.below h1 HB.out);have H3:=hide (Reads.below h3 HB.out);have HC2:=conv_reads (c:=cb) (Reads.below h2 HB.out);have HC4:=conv_reads (c:=cb') (Reads.below h4 HB.out);have htl:=hide (RI.len h1);have htl':=hide (RI.len h3);have b1 : Blk W w.heap.size 33 #[.int .i64 kd,.int .i64 a,.int .i64 b,.int .i64 n,.slice Ab nb cb,.int .i64 cl,.int .i64 cn,.int .i64 rq,.int .i64 op,.string key,.string val,.string old,.slice As ns cs]:=by rw [hW];exact (Blk.new _ _ _).alloc _
 have b2 : Blk W (w.heap.size + 1) 33 #[.int .i64 kd',.int .i64 a',.int .i64 b',.int .i64 n',.slice Ab' nb' cb',.int .i64 cl',.int .i64 cn',.int .i64 rq',.int .i64 op',.string key',.string val',.string old',.slice As' ns' cs']:=by rw [hW];exact blk_new _ _ _ _ (by simp)
 have B1:=hide b1;have B2:=hide b2;have x0 : W.cell? ⟨w.heap.size,0,none⟩ = some (.int .i64 kd):=b1.cell 0;have y0 : W.cell? ⟨w.heap.size + 1,0,none⟩ = some (.int .i64 kd'):=b2.cell 0;have x1 : W.cell? ⟨w.heap.size,1,none⟩ = some (.int .i64 a):=b1.cell 1;have y1 : W.cell? ⟨w.heap.size + 1,1,none⟩ = some (.int .i64 a'):=b2.cell 1;have x2 : W.cell? ⟨w.heap.size,2,none⟩ = some (.int .i64 b):=b1.cell 2;have y2 : W.cell? ⟨w.heap.size + 1,2,none⟩ = some (.int .i64 b'):=b2.cell 2;have x3 : W.cell? ⟨w.heap.size,3,none⟩ = some (.int .i64 n):=b1.cell 3;have y3 : W.cell? ⟨w.heap.size + 1,3,none⟩ = some (.int .i64 n'):=b2.cell 3;have x4 : W.cell? ⟨w.heap.size,4,none⟩ = some (.slice Ab nb cb):=b1.cell 4;have y4 : W.cell? ⟨w.heap.size + 1,4,none⟩ = some (.slice Ab' nb' cb'):=b2.cell 4;have x5 : W.cell? ⟨w.heap.size,5,none⟩ = some (.int .i64 cl):=b1.cell 5;have y5 : W.cell? ⟨w.heap.size + 1,5,none⟩ = some (.int .i64 cl'):=b2.cell 5;have x6 : W.cell? ⟨w.heap.size,6,none⟩ = some (.int .i64 cn):=b1.cell 6;have y6 : W.cell? ⟨w.heap.size + 1,6,none⟩ = some (.int .i64 cn'):=b2.cell 6;have x7 : W.cell? ⟨w.heap.size,7,none⟩ = some (.int .i64 rq):=b1.cell 7;have y7 : W.cell? ⟨w.heap.size + 1,7,none⟩ = some (.int .i64 rq'):=b2.cell 7;have x8 : W.cell? ⟨w.heap.size,8,none⟩ = some (.int .i64 op):=b1.cell 8;have y8 : W.cell? ⟨w.heap.size + 1,8,none⟩ = some (.int .i64 op'):=b2.cell 8;have x9 : W.cell? ⟨w.heap.size,9,none⟩ = some (.string key):=b1.cell 9;have y9 : W.cell? ⟨w.heap.size + 1,9,none⟩ = some (.string key'):=b2.cell 9;have x10 : W.cell? ⟨w.heap.size,10,none⟩ = some (.string val):=b1.cell 10;have y10 : W.cell? ⟨w.heap.size + 1,10,none⟩ = some (.string val'):=b2.cell 10;have x11 : W.cell? ⟨w.heap.size,11,none⟩ = some (.string old):=b1.cell 11;have y11 : W.cell? ⟨w.heap.size + 1,11,none⟩ = some (.string old'):=b2.cell 11;have x12 : W.cell? ⟨w.heap.size,12,none⟩ = some (.slice As ns cs):=b1.cell 12;have y12 : W.cell? ⟨w.heap.size + 1,12,none⟩ = some (.slice As' ns' cs'):=b2.cell 12;clear h1 h2 h3 h4 hm hm' hW b1 b2;go_enter Tryz.func39,Tryz.ntmps39;go_upto_region 1 with fail
 rw [← HWE.out];clear HWE;go_upto_region 4 with fail
 rotate_left 1
 case _ =>
  have HE : Hid (kd = kd' ∧ a = a' ∧ b = b' ∧ n = n' ∧ cl = cl' ∧ cn = cn' ∧ rq = rq' ∧ op = op' ∧ key.data.toList = key'.data.toList ∧ val.data.toList = val'.data.toList ∧ old.data.toList = old'.data.toList ∧ bd = bd' ∧ ns = ns') :=
   hide ⟨by assumption,by assumption,by assumption,by assumption,by assumption,by assumption,by assumption,by assumption,tl_eq (by assumption),tl_eq (by assumption),tl_eq (by assumption),tl_eq (x:=S bd) (y:=S bd') (by assumption),by
    have h : ((ns : Int) != (ns' : Int)) = false:=by assumption
    have h2 : (ns : Int) = (ns' : Int):=by simpa using h
    omega⟩
  clear x0 x1 x2 x3 x4 x5 x6 x7 x8 x9 x10 x11 y0 y1 y2 y3 y4 y5 y6 y7 y8 y9 y10 y11 HC2 HC4;have hns : ns' = ns:=HE.out.2.2.2.2.2.2.2.2.2.2.2.2.symm;rw [hns] at y12 htl';have H3:=H3.out;rw [hns] at H3;have H3:=hide H3;clear hns;go_loopw [61] (fun i wr => ∃ k q : Nat,k ≤ ns ∧ i = .int .i64 k ∧ wr = W.drewN q ∧ ∀ j,j < k → nth sd j = nth sd' j) (fun i _ => ns - (intOf i).toNat)
  case atStart => exact ⟨0,0,Nat.zero_le _,rfl,rfl,fun j hj => absurd hj (Nat.not_lt_zero _)⟩
  case round =>
   obtain ⟨k,q,hk,rfl,rfl,hall⟩:=hrel;have hall:=hide hall
   by_cases hlt : k < ns
   ·obtain ⟨ad,rfl,_,q0⟩:=RI.at_ H1.out hlt
    obtain ⟨ad',rfl,_,r0⟩:=RI.at_ H3.out hlt;have k0 : (0 : Int) ≤ (k : Int):=by omega
    have kn : (k : Int) < (ns : Int):=by omega
    obtain ⟨x,hx⟩ : ∃ x,x = nth sd k:=⟨_,rfl⟩;obtain ⟨y,hy⟩ : ∃ y,y = nth sd' k:=⟨_,rfl⟩;rw [← hx] at q0;rw [← hy] at r0;have hx:=hide hx;have hy:=hide hy
    by_cases hxy : x = y
    ·subst hxy
     go_wp2_with fail;go_roundw
     case rel => exact ⟨k + 1,_,by omega,by go_num,rfl,fun j hj => if hjk : j = k then by rw [hjk,← hx.out,← hy.out] else hall.out j (by omega)⟩
     case measure => simp [intOf];omega
    ·have hxy' : (x != y) = true:=by simp [hxy]
     go_wp2_with fail;refine bodyPost_ret (results_tmp rfl _ _ _) rfl ?_;refine samP_no ?_ (below_drewN HB.out _);simp only [Em.ev,Ev.mk.injEq];rintro ⟨_,_,_,_,_,_,_,_,_,_,_,_,e13⟩;rw [hx.out,hy.out,e13] at hxy;exact absurd rfl hxy
   ·have kn : ¬ (k : Int) < (ns : Int):=by omega
    have hk:=hide hk;have hlt:=hide hlt;go_wp2_with fail;go_ret;have e:=HE.out;have e1:=htl.out;have e2:=htl'.out;have e3:=hk.out;have e4:=hlt.out;have hsd : sd = sd':=nth_all (by omega) (fun j hj => hall.out j (by omega));obtain ⟨f1,f2,f3,f4,f5,f6,f7,f8,f9,f10,f11,f12,f13⟩:=e;exact samP_yes (by simp only [Em.ev,f1,f2,f3,f4,f5,f6,f7,f8,f9,f10,f11,f12,hsd]) (below_drewN HB.out q)
 all_goals (
  refine bodyPost_ret (results_tmp rfl _ _ _) rfl ?_;refine samP_no ?_ HB.out;simp only [Em.ev,Ev.mk.injEq];rintro ⟨e1,e2,e3,e4,e5,e6,e7,e8,e9,e10,e11,e12,e13⟩;have e9:=congrArg ByteArray.toList (bb_eq e9);have e10:=congrArg ByteArray.toList (bb_eq e10);have e11:=congrArg ByteArray.toList (bb_eq e11);have e12:=congrArg (fun l => (S l).toList) e12
  have e14 : ((ns : Int) != (ns' : Int)) = false:=by
   have l1:=htl.out;rw [e13,htl'.out] at l1;rw [l1];simp
  first | contradiction | simp_all)
theorem line_sz {m : Em} (ho : EvOk m) (hb : m.bd.length = m.nb) (hn : m.sd.length = m.ns) : (lineT m.ev).length ≤ 30000000:=by
 have hbk:=ho.bulk;have hit : (Lib.itoa m.a).length ≤ 21:=itoa_sz ho.a
 have hq : ∀ x : ByteArray,x.size ≤ 1048576 → (quoteL x.data.toList).length ≤ 4194400:=fun x hx => by
  have:=quote_sz x.data.toList;rw [str_len] at this;omega
 unfold lineT lineW
 split
 ·rw [cat_join]
  split
  ·rename_i h4 hop
   have hop' : 1 ≤ m.op ∧ m.op ≤ 9:=hop;unfold askW;refine Nat.le_trans (cat_sz 4194400 _ _ ?_) ?_
   ·intro p hp
    have e : opL.getD (m.ev.op.toNat - 1) [] = opW m.op.toNat:=by
     obtain ⟨i,hi⟩ : ∃ i,m.op.toNat = i + 1:=⟨m.op.toNat - 1,by omega⟩;show opL.getD (m.op.toNat - 1) [] = opW m.op.toNat;rw [hi]
     rfl
    have hw : (opW m.op.toNat).length ≤ 6:=by
     have : ∀ i : Fin 10,(opW i.val).length ≤ 6:=by decide +kernel
     exact this ⟨m.op.toNat,by omega⟩
    rw [e] at hp;have h1:=hq m.key (by omega);have h2:=hq m.val (by omega);have h3:=hq m.old (by omega);simp only [List.mem_cons,List.mem_append] at hp
    rcases hp with rfl | rfl | rfl | hp | hp
    ·exact Nat.le_trans hit (by omega)
    ·omega
    ·exact h1
    ·split at hp
     ·obtain rfl : p = quoteL m.val.data.toList:=List.mem_singleton.1 hp
      exact h2
     ·simp at hp
    ·split at hp
     ·obtain rfl : p = quoteL m.old.data.toList:=List.mem_singleton.1 hp
      exact h3
     ·simp at hp
   ·have : ∀ (a b : List (List UInt8)),a.length ≤ 1 → b.length ≤ 1 → (a ++ b).length ≤ 2:=fun a b h1 h2 => by simp;omega
    have h1:=this (if m.ev.val ≠ [] ∨ m.ev.old ≠ [] then [quoteL m.ev.val] else []) (if m.ev.old ≠ [] then [quoteL m.ev.old] else []) (by split <;> simp) (by split <;> simp);simp only [List.length_cons,List.length_nil] at h1 ⊢;omega
  ·have e : (cat [100,111] (Lib.itoa m.a :: [])).length ≤ 100:=by
    simp [cat];omega
   exact Nat.le_trans e (by omega)
 ·split
  ·rw [cat_join]
   refine Nat.le_trans (cat_sz 21 _ _ ?_) ?_
   ·intro p hp
    obtain ⟨x,hx,rfl⟩:=List.mem_map.1 hp;exact itoa_sz (ho.sd x hx)
   ·have e : m.ev.sd.length = m.ns:=hn
    simp only [List.length_cons,List.length_nil,List.length_map,e];omega
  ·split
   ·rename_i f hf
    rw [cat_join];obtain ⟨j,hj⟩:=List.mem_iff_getElem?.1 (List.mem_of_find?_eq_some hf);have hs:=form_sz hj;refine Nat.le_trans (cat_sz 4194400 _ _ ?_) ?_
    ·intro p hp
     obtain ⟨c,_,rfl⟩:=List.mem_map.1 hp;exact lt_sz ho hb c
    ·rw [List.length_map]
     omega
   ·exact Nat.le_trans (Nat.le_of_eq rfl) (Nat.zero_le _)
theorem writ_sz {m : Em} (ho : EvOk m) (hb : m.bd.length = m.nb) (hn : m.sd.length = m.ns) : (writT m.ev).length ≤ 30000000:=by
 unfold writT
 split
 ·simp
 ·exact line_sz ho hb hn
def RprP (nodes : Int) (f : Ev) (w : World) (e : Ending) (w' : World) : Prop:=e = .returned (.tuple #[.string (S (printE nodes f).1),.int .i64 (printE nodes f).2]) ∧ Below w.heap.size w w'
theorem rpr_out {nodes : Int} {f : Ev} {w w' : World} {x : List UInt8} {y : Int} (h : printE nodes f = (x,y)) (hb : Below w.heap.size w w') : RprP nodes f w (.returned (.tuple #[.string (S x),.int .i64 y])) w':=by
 unfold RprP;rw [h];exact ⟨rfl,hb⟩
theorem rprint_ev (m : Em) (nodes : Int) (w : World) (h : EmIn w w.heap.size m) (ho : EvOk m) :
  Calls Tryz.prog 16 #[.agg m.cs,.int .i64 nodes] w fun e w' => RprP nodes m.ev w e w':=by
 obtain ⟨T,hT⟩ : ∃ T,T = writT m.ev:=⟨_,rfl⟩
 have HTS : Hid (T.length ≤ 30000000):=by
  show _ ≤ _;rw [hT];exact writ_sz ho h.nb_len (RI.len h.sid)
 have HWR : Hid (∀ W,Below w.heap.size w W → Calls Tryz.prog 45 #[.agg m.cs] W fun e w' => e = .returned (.string (S T)) ∧ Below W.heap.size W w'):=fun W hb => by
  rw [hT];exact written_any m W ((h.below hb).up hb.size) ho
 have HIN:=hide h;have HT:=hide hT;clear h ho hT
 by_cases hlo : nodes < 1
 ·have HR : Hid (printE nodes m.ev = ([],1)):=by
   show _ = _;unfold printE;rw [if_neg (fun h => by omega)]
  go_enter Tryz.func16,Tryz.ntmps16;go_wp2_with fail;refine bodyPost_ret (results_tmp2 rfl _ _ _) rfl ?_;exact rpr_out HR.out ((Below.refl _ _).alloc (Nat.le_refl _) _)
 by_cases hhi : 16 < nodes
 ·have HR : Hid (printE nodes m.ev = ([],1)):=by
   show _ = _;unfold printE;rw [if_neg (fun h => by omega)]
  go_enter Tryz.func16,Tryz.ntmps16;go_wp2_with fail;refine bodyPost_ret (results_tmp2 rfl _ _ _) rfl ?_;exact rpr_out HR.out ((Below.refl _ _).alloc (Nat.le_refl _) _)
 have HN : Hid (1 ≤ nodes ∧ nodes ≤ 16):=by
  show _ ∧ _;omega
 have HPE : Hid (∀ W,Calls Tryz.prog 46 #[.string (S T),.int .i64 nodes] W fun e w' => EvP (lineE nodes T) W.heap.size W e w'):=fun W => rparse_ev (S T) nodes W (by rw [S_size];exact HTS.out)
 go_enter Tryz.func16,Tryz.ntmps16;go_upto_region 1 with fail
 generalize hW1 : World.alloc w _ = W1
 have HB1 : Hid (Below w.heap.size w W1):=by
  show Below _ _ _;rw [← hW1];exact (Below.refl _ _).alloc (Nat.le_refl _) _
 have HX1 : Hid (Blk W1 w.heap.size 33 m.cs):=by
  show Blk _ _ _ _;rw [← hW1];exact Blk.new _ _ _
 clear hW1;go_upto_region 3 with fail
 refine wp_region_lit ?_;refine wpList_value rfl (.agg m.cs) (ex_load 33 (.tmp 2) rfl _ rfl m.cs _ Tryz.underlying33 rfl (ld29 _ (em_size _)) (ebox_all HX1.out)) ?_;try simp only [Act.put,aSt,aSz,aSs]
 refine wpList_step (fun K hK => ?_);rw [if_pos (by rfl)];go_simp;go_at_call 45;refine (HWR.out _ HB1.out).mono ?_;rintro e w2 ⟨rfl,hb2⟩;have HX2:=hide (HX1.out.below hb2 HX1.out.lt);have HB2:=hide (HB1.out.trans (hb2.mono HB1.out.size));refine hK _ _ ?_;clear hK K hb2;try simp only [Act.put,aSt,aSz,aSs]
 go_upto_region 4 with fail
 refine wp_region_lit ?_;refine wpList_value rfl (.string (S T)) (by go_simp) ?_;try simp only [Act.put,aSt,aSz,aSs]
 refine wpList_value rfl (.int .i64 nodes) (by go_simp) ?_;try simp only [Act.put,aSt,aSz,aSs]
 refine wpList_step (fun K hK => ?_);rw [if_pos (by rfl)];go_simp;go_at_call 46;refine (HPE.out _).mono ?_;rintro e w3 ⟨m2,rfl,hev,ht,hb3⟩;have HX3:=hide (HX2.out.below hb3 HX2.out.lt);have HB3:=hide (HB2.out.trans (hb3.mono HB2.out.size));have HM2:=hide ht;have HEV:=hide hev;refine hK _ _ ?_;clear hK K hb3 ht hev;try simp only [Act.put,aSt,aSz,aSs]
 refine wpList_step (fun K hK => ?_);rw [if_pos (by rfl)];go_simp;refine hK _ _ ?_;clear hK K;try simp only [Act.put,aSt,aSz,aSs]
 refine wpList_store_fresh rfl 33 (.tmp 7) (.tmp 18) rfl _ m2.cs rfl rfl (ld29 _ (em_size _)) rfl (ecs_all m2) ?_;try simp only [Act.put,aSt,aSz,aSs]
 obtain ⟨W4,hW4⟩ : ∃ W4,W4 = w3.alloc (.cells m2.cs 33):=⟨_,rfl⟩;have hb4 : Below w3.heap.size w3 W4:=by rw [hW4];exact (Below.refl _ _).alloc (Nat.le_refl _) _
 have HB4:=hide (HB3.out.trans (hb4.mono HB3.out.size));have HM4:=hide (HM2.out.step hb4);have HX4:=hide (HX3.out.below hb4 HX3.out.lt);have HE4 : Hid (Blk W4 w3.heap.size 33 m2.cs):=by show Blk _ _ _ _;rw [hW4];exact Blk.new _ _ _
 have HSM:=hide (same_full m2 m W4 HM4.out.inn ((HIN.out.below HB4.out).up HB4.out.size));rw [← hW4];clear hW4 hb4 HM2;go_upto_region 5 with fail
 by_cases hte : T = []
 ·have HR : Hid (printE nodes m.ev = ([],24)):=by
   show _ = _;unfold printE;rw [if_pos HN.out,if_neg (fun h => h.1 (by rw [← HT.out];exact hte))]
  have hse : S T = ⟨#[]⟩:=by rw [hte];rfl
  rw [hse];go_wp2_with fail;refine bodyPost_ret (results_tmp2 rfl _ _ _) rfl ?_;exact rpr_out HR.out HB4.out
 ·have t1 : ¬ (S T).toList = []:=by rw [ByteArray.toList_eq,S_data];exact hte
  have t2 : ((S T).toList == []) = false:=by simpa using t1
  refine wp_region_lit ?_;refine wpList_value rfl (.string (S T)) (by go_simp) ?_;try simp only [Act.put,aSt,aSz,aSs]
  refine wpList_value rfl (.bool false) (by go_simp) ?_;try simp only [Act.put,aSt,aSz,aSs]
  refine wpList_value rfl (.bool false) (by go_simp) ?_;try simp only [Act.put,aSt,aSz,aSs]
  refine wpList_step (fun K hK => one_value (by rfl) (.agg m2.cs) (ex_load 33 (.tmp 7) rfl _ rfl m2.cs _ Tryz.underlying33 rfl (ld29 _ (em_size _)) (ebox_all HE4.out)) (hK _ _ ?_));clear hK K;try simp only [Act.put,aSt,aSz,aSs]
  refine wpList_step (fun K hK => one_value (by rfl) (.agg m.cs) (ex_load 33 (.tmp 2) rfl _ rfl m.cs _ Tryz.underlying33 rfl (ld29 _ (em_size _)) (ebox_all HX4.out)) (hK _ _ ?_));clear hK K;try simp only [Act.put,aSt,aSz,aSs]
  refine wpList_step (fun K hK => ?_);rw [if_pos (by rfl)];go_simp;go_at_call 21;refine HSM.out.mono ?_;rintro e w5 ⟨r,rfl,hr,hb5⟩;have HB5:=hide (HB4.out.trans (hb5.mono HB4.out.size));have HRR:=hide hr;refine hK _ _ ?_;clear hK K hb5 hr;try simp only [Act.put,aSt,aSz,aSs]
  cases r with
  | false =>
   have HR : Hid (printE nodes m.ev = ([],24)):=by
    show _ = _;unfold printE
    rw [if_pos HN.out,if_neg (fun h => by
     rw [← HT.out] at h;exact absurd (HRR.out.2 (HEV.out.trans h.2)) (by decide))]
   go_wp2_with fail;refine bodyPost_ret (results_tmp2 rfl _ _ _) rfl ?_;exact rpr_out HR.out HB5.out
  | true =>
   have HR : Hid (printE nodes m.ev = (T,0)):=by
    show _ = _;unfold printE;rw [if_pos HN.out,← HT.out,if_pos ⟨hte,HEV.out.symm.trans (HRR.out.1 rfl)⟩]
   go_wp2_with fail;refine bodyPost_ret (results_tmp2 rfl _ _ _) rfl ?_;exact rpr_out HR.out HB5.out
end Go.Proofs.YtcibcmfaebbhnaaGreatDoor
