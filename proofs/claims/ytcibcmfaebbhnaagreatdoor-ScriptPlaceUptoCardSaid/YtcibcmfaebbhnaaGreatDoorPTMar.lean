/-
  The program's mark, for a mark that can be written. (Printed by wip/tools/mkmark.py.)
-/
import Derived.Test.YtcibcmfaebbhnaaGreatDoorPTRpt
import Derived.Test.YtcibcmfaebbhnaaGreatDoorPWords
set_option linter.unusedSimpArgs false
set_option linter.unusedVariables false
set_option maxRecDepth 100000
set_option maxHeartbeats 8000000

namespace Go.Proofs.YtcibcmfaebbhnaaGreatDoor.Tr
open Go.RowKit Go.WideShapes Go.ChangeShapes Q
def MLoop (m : Mk) (W : World) (v5 i : Value) (wr : World) : Prop:=∃ (j : Nat) (A : Option Addr) (c : Nat),j ≤ m.nm ∧ i = .int .i64 j ∧ v5 = .slice A j c ∧ Hid (wr.ownsRow W.heap.size 9 1 (.slice A j c) j (strs ((m.ms.take j).map triI))) ∧ Hid (Below W.heap.size W wr)
theorem mark_any (m : Mk) (w : World) (hm : MkIn w w.heap.size m) (hw : wrB m = true) (hz : MkZ m) (hT : Tab w) (hK : KT w) :
  Calls Tryz.prog 35 #[m.v] w fun e w' => e = .returned (.string (S (lineL m))) ∧ Below w.heap.size w w':=by
 have C:=cnts hw;have HC:=hide C;have HMI:=hide hm;have HZ:=hide hz;have HT:=hide hT;have HKT:=hide hK;have HN : Hid (∀ x ∈ m.ns,Ct x):=fun x hx => C.ct hx
 obtain ⟨k,hk⟩ : ∃ k : Nat,m.kd = k:=⟨m.kd.toNat,by have:=C.kd;omega⟩;have hk16 : k < 17:=by have:=C.kd;omega
 have hkz : (0 : Int) ≤ (k : Int):=by omega
 have hkn : (k : Int) < 17:=by omega
 have HK:=hide hk;obtain ⟨KD,hKD⟩ : ∃ KD,KD = kindOf m:=⟨_,rfl⟩;have HKD:=hide hKD
 have HKB : Hid (∀ V,BX m w V → V.cell? ⟨0,k,none⟩ = some (.string (S KD))):=fun V hV => by
  rw [(hK.below hV.low).at_ k hk16,kindV_at hk16,hKD,kindOf,hk,Int.toNat_natCast]
 have HRN : Hid (Fit m.rn):=⟨by have:=C.rn;omega,by have:=C.rn;omega⟩
 have HER : Hid (Ct m.er):=by
  obtain ⟨n,hn,hle⟩:=C.er;exact ⟨n,hn,by omega⟩
 have hlm:=hm.mem.len;have hlt:=RI.len hm.tr;have HLEN:=hide (line_len C hz hlm hlt);have HLM:=hide hlm
 have HTF : Hid (∀ x ∈ m.ts,Fit x):=fun x hx => by
  obtain ⟨j,hj,rfl⟩:=List.getElem_of_mem hx;obtain ⟨y,ey,hy⟩:=C.ts j hj;have e : m.ts[j] = (y : Int):=by rw [← ey];simp [nth,hj]
  rw [e];exact ⟨by omega,by omega⟩
 have HJL : Hid ((Lib.join (m.ms.map triI) [44]).length ≤ 74500000 ∧ (Lib.join (m.ts.map Lib.itoa) [44]).length ≤ 23100000):=by
  have r2:=join_le 70 (m.ms.map triI) [44] (triI_len C)
  have r3:=join_le 21 (m.ts.map Lib.itoa) [44] (fun l hl => by
   obtain ⟨s,hs,rfl⟩:=List.mem_map.1 hl;obtain ⟨j,hj,rfl⟩:=List.getElem_of_mem hs;obtain ⟨x,ex,hx⟩:=C.ts j hj;refine itoa_ct ⟨x,?_,hx⟩;rw [← ex];simp [nth,hj])
  have z1:=hz.nm;have z2:=hz.nt;simp only [List.length_map,List.length_cons,List.length_nil] at r2 r3;rw [hlm] at r2;rw [hlt] at r3;exact ⟨by omega,by omega⟩
 have HQL : Hid ((quoteL m.bd).length ≤ 4194306 ∧ (quoteL m.key.data.toList).length ≤ 4194306 ∧ (quoteL m.val.data.toList).length ≤ 4194306 ∧ (quoteL m.old.data.toList).length ≤ 4194306 ∧ (quoteL m.rv.data.toList).length ≤ 4194306 ∧ (sl4 m.cl m.cn m.rq m.op).length ≤ 88 ∧ (Lib.itoa m.co).length ≤ 21 ∧ (Lib.itoa m.rn).length ≤ 21 ∧ (sl4 m.ep m.ld m.ii m.ci).length ≤ 88):=by
  have z:=HZ.out;have q0:=quote_len m.bd;have q1:=quote_len m.key.data.toList;have q2:=quote_len m.val.data.toList;have q3:=quote_len m.old.data.toList;have q4:=quote_len m.rv.data.toList;rw [str_len] at q1 q2 q3 q4;have z1:=z.key;have z2:=z.val;have z3:=z.old;have z4:=z.rv;have z5:=z.bd;have z6:=z.nb;have r:=HC.out.rn;exact ⟨by omega,by omega,by omega,by omega,by omega,sl4_len (HN.out _ (by simp [Mk.ns])) (HN.out _ (by simp [Mk.ns])) (HN.out _ (by simp [Mk.ns])) (HN.out _ (by simp [Mk.ns])),itoa_ct (HN.out _ (by simp [Mk.ns])),itoa_len _ (by omega) (by omega),sl4_len (HN.out _ (by simp [Mk.ns])) (HN.out _ (by simp [Mk.ns])) (HN.out _ (by simp [Mk.ns])) (HN.out _ (by simp [Mk.ns]))⟩
 clear hm hw hz hT hK C hk hKD hlm hlt;show Calls Tryz.prog 35 #[.agg m.cs] w _;go_enter Tryz.func35,Tryz.ntmps35;go_upto_region 1 with fail
 go_cut [3] (fun s3 wx => ∃ pl,s3 = .pointer (some ⟨pl,0,none⟩) ∧ MX m w wx pl [Lib.itoa m.aT,KD,Lib.itoa m.nd,Lib.itoa m.ic])
 case first =>
  refine wp_region_L [] (BX m w) (by kernel_rfl) ?_;generalize hw9 : World.drew _ = w9
  have HS9 : Hid (BX m w w9):=by
   subst hw9;exact (BX.new m w).drew
  clear hw9;refine tk 0 10 (v:=?_) rfl HS9.out ?_ ?_
  rotate_left;· intro V hV;go_simp;try with_reducible rfl
  try simp only [Act.put,aSt,aSz,aSs]
  refine tk 1 11 (v:=?_) rfl HS9.out ?_ ?_
  rotate_left
  ·intro V hV
   have k0:=mb0 hV.box;go_simp;try with_reducible rfl
  try simp only [Act.put,aSt,aSz,aSs]
  refine tk 3 13 (v:=?_) rfl HS9.out ?_ ?_
  rotate_left;· intro V hV;go_simp;try with_reducible rfl
  try simp only [Act.put,aSt,aSz,aSs]
  refine tk 4 14 (v:=?_) rfl HS9.out ?_ ?_
  rotate_left
  ·intro V hV
   have k1:=mb1 hV.box;rw [HK.out] at k1;go_simp;try with_reducible rfl
  try simp only [Act.put,aSt,aSz,aSs]
  refine tk 5 15 (v:=?_) rfl HS9.out ?_ ?_
  rotate_left;· intro V hV;go_simp;try with_reducible rfl
  try simp only [Act.put,aSt,aSz,aSs]
  refine tk 6 16 (v:=?_) rfl HS9.out ?_ ?_
  rotate_left
  ·intro V hV
   have kk:=HKB.out V hV;go_simp;try with_reducible rfl
  try simp only [Act.put,aSt,aSz,aSs]
  refine tk 7 17 (v:=?_) rfl HS9.out ?_ ?_
  rotate_left;· intro V hV;go_simp;try with_reducible rfl
  try simp only [Act.put,aSt,aSz,aSs]
  refine tk 8 18 (v:=?_) rfl HS9.out ?_ ?_
  rotate_left
  ·intro V hV
   have k2:=mb2 hV.box;go_simp;try with_reducible rfl
  try simp only [Act.put,aSt,aSz,aSs]
  refine tk 10 20 (v:=?_) rfl HS9.out ?_ ?_
  rotate_left;· intro V hV;go_simp;try with_reducible rfl
  try simp only [Act.put,aSt,aSz,aSs]
  refine tk 11 21 (v:=?_) rfl HS9.out ?_ ?_
  rotate_left
  ·intro V hV
   have k3:=mb3 hV.box;go_simp;try with_reducible rfl
  try simp only [Act.put,aSt,aSz,aSs]
  refine wpL_two 2 14 (by kernel_rfl) rfl rfl (fun K hK => ?_) (fun K hK => ?_)
  ·
   rw [if_pos (by rfl)];go_simp;go_at_call 54;refine (itoI (Ct.fit (HN.out m.aT (by simp [Mk.ns]))) (HT.out.below HS9.out.low)).mono ?_;rintro e w101 ⟨rfl,hb⟩;have HSw101:=hide (HS9.out.step hb);clear hb;refine hK _ _ (fun _ => HSw101.out) ?_;clear hK K;try simp only [Act.put,aSt,aSz,aSs]
   refine wpL_two 9 14 (by kernel_rfl) rfl rfl (fun K hK => ?_) (fun K hK => ?_)
   ·
    rw [if_pos (by rfl)];go_simp;go_at_call 54;refine (itoI (Ct.fit (HN.out m.nd (by simp [Mk.ns]))) (HT.out.below HSw101.out.low)).mono ?_;rintro e w102 ⟨rfl,hb⟩;have HSw102:=hide (HSw101.out.step hb);clear hb;refine hK _ _ (fun _ => HSw102.out) ?_;clear hK K;try simp only [Act.put,aSt,aSz,aSs]
    refine wpL_two 12 14 (by kernel_rfl) rfl rfl (fun K hK => ?_) (fun K hK => ?_)
    ·
     rw [if_pos (by rfl)];go_simp;go_at_call 54;refine (itoI (Ct.fit (HN.out m.ic (by simp [Mk.ns]))) (HT.out.below HSw102.out.low)).mono ?_;rintro e w103 ⟨rfl,hb⟩;have HSw103:=hide (HSw102.out.step hb);clear hb;refine hK _ _ (fun _ => HSw103.out) ?_;clear hK K;try simp only [Act.put,aSt,aSz,aSs]
     refine wpL_two 13 14 (by kernel_rfl) rfl rfl (fun K hK => ?_) (fun K hK => ?_)
     ·
      rw [if_pos (by rfl)];go_simp;have hrw103:=hide HSw103.out.lt;obtain ⟨w104,hw104⟩ : ∃ wn,wn = World.alloc w103 (.cells #[.string (S (Lib.itoa m.aT)),.string (S KD),.string (S (Lib.itoa m.nd)),.string (S (Lib.itoa m.ic))] 9):=⟨_,rfl⟩;rw [← hw104];have HSw104:=hide (HSw103.out.alloc (.cells #[.string (S (Lib.itoa m.aT)),.string (S KD),.string (S (Lib.itoa m.nd)),.string (S (Lib.itoa m.ic))] 9));rw [← hw104] at HSw104;have HRw104:=hide (Blk.new w103 9 #[.string (S (Lib.itoa m.aT)),.string (S KD),.string (S (Lib.itoa m.nd)),.string (S (Lib.itoa m.ic))]);rw [← hw104] at HRw104;clear hw104;refine hK _ _ (fun _ => HSw104.out) ?_;clear hK K;try simp only [Act.put,aSt,aSz,aSs]
      refine wpL_one 14 (by kernel_rfl) rfl (fun K hK => ?_);rw [if_pos (by rfl)];go_simp;have hpw104:=hide HSw104.out.lt;obtain ⟨w105,hw105⟩ : ∃ wn,wn = World.alloc w104 (.cells #[.slice none 0 0] 101):=⟨_,rfl⟩;rw [← hw105];have HSw105:=hide (HSw104.out.alloc (.cells #[.slice none 0 0] 101));rw [← hw105] at HSw105;have HRw105:=hide (HRw104.out.alloc (.cells #[.slice none 0 0] 101));rw [← hw105] at HRw105;have HPw105:=hide (Blk.new w104 101 #[.slice none 0 0]);rw [← hw105] at HPw105;clear hw105;refine hK _ _ (fun _ => HSw105.out) ?_;clear hK K;try simp only [Act.put,aSt,aSz,aSs]
      refine wpL_one 15 (by kernel_rfl) rfl (fun K hK => ?_);rw [if_pos (by rfl)];have kp:=HPw105.out.cell 0;have fp:=HPw105.out.frozen 0;simp only [List.getElem?_toArray,List.getElem?_cons_zero] at kp;go_simp;have HX:=hide (mx_first HSw105.out HPw105.out HRw105.out hpw104.out hrw103.out);refine hK _ _ (fun _ => HX.out.bx) ?_;clear hK K kp fp;try simp only [Act.put,aSt,aSz,aSs]
      refine wpL_done (by kernel_rfl) ?_ _;go_wp2_with fail;go_meet
      case rel => exact ⟨_,rfl,HX.out⟩
     ·
      rw [if_pos (by rfl)];go_simp;have hpw103:=hide HSw103.out.lt;obtain ⟨w106,hw106⟩ : ∃ wn,wn = World.alloc w103 (.cells #[.slice none 0 0] 101):=⟨_,rfl⟩;rw [← hw106];have HSw106:=hide (HSw103.out.alloc (.cells #[.slice none 0 0] 101));rw [← hw106] at HSw106;have HPw106:=hide (Blk.new w103 101 #[.slice none 0 0]);rw [← hw106] at HPw106;clear hw106;refine hK _ _ (fun _ => HSw106.out) ?_;clear hK K;try simp only [Act.put,aSt,aSz,aSs]
      refine wpL_one 13 (by kernel_rfl) rfl (fun K hK => ?_);rw [if_pos (by rfl)];go_simp;have hrw106:=hide HSw106.out.lt;obtain ⟨w107,hw107⟩ : ∃ wn,wn = World.alloc w106 (.cells #[.string (S (Lib.itoa m.aT)),.string (S KD),.string (S (Lib.itoa m.nd)),.string (S (Lib.itoa m.ic))] 9):=⟨_,rfl⟩;rw [← hw107];have HSw107:=hide (HSw106.out.alloc (.cells #[.string (S (Lib.itoa m.aT)),.string (S KD),.string (S (Lib.itoa m.nd)),.string (S (Lib.itoa m.ic))] 9));rw [← hw107] at HSw107;have HPw107:=hide (HPw106.out.alloc (.cells #[.string (S (Lib.itoa m.aT)),.string (S KD),.string (S (Lib.itoa m.nd)),.string (S (Lib.itoa m.ic))] 9));rw [← hw107] at HPw107;have HRw107:=hide (Blk.new w106 9 #[.string (S (Lib.itoa m.aT)),.string (S KD),.string (S (Lib.itoa m.nd)),.string (S (Lib.itoa m.ic))]);rw [← hw107] at HRw107;clear hw107;refine hK _ _ (fun _ => HSw107.out) ?_;clear hK K;try simp only [Act.put,aSt,aSz,aSs]
      refine wpL_one 15 (by kernel_rfl) rfl (fun K hK => ?_);rw [if_pos (by rfl)];have kp:=HPw107.out.cell 0;have fp:=HPw107.out.frozen 0;simp only [List.getElem?_toArray,List.getElem?_cons_zero] at kp;go_simp;have HX:=hide (mx_first HSw107.out HPw107.out HRw107.out hpw103.out hrw106.out);refine hK _ _ (fun _ => HX.out.bx) ?_;clear hK K kp fp;try simp only [Act.put,aSt,aSz,aSs]
      refine wpL_done (by kernel_rfl) ?_ _;go_wp2_with fail;go_meet
      case rel => exact ⟨_,rfl,HX.out⟩
    ·
     rw [if_pos (by rfl)];go_simp;have hpw102:=hide HSw102.out.lt;obtain ⟨w108,hw108⟩ : ∃ wn,wn = World.alloc w102 (.cells #[.slice none 0 0] 101):=⟨_,rfl⟩;rw [← hw108];have HSw108:=hide (HSw102.out.alloc (.cells #[.slice none 0 0] 101));rw [← hw108] at HSw108;have HPw108:=hide (Blk.new w102 101 #[.slice none 0 0]);rw [← hw108] at HPw108;clear hw108;refine hK _ _ (fun _ => HSw108.out) ?_;clear hK K;try simp only [Act.put,aSt,aSz,aSs]
     refine wpL_one 12 (by kernel_rfl) rfl (fun K hK => ?_);rw [if_pos (by rfl)];go_simp;go_at_call 54;refine (itoI (Ct.fit (HN.out m.ic (by simp [Mk.ns]))) (HT.out.below HSw108.out.low)).mono ?_;rintro e w109 ⟨rfl,hb⟩;have HSw109:=hide (HSw108.out.step hb);have HPw109:=hide (HPw108.out.below hb HPw108.out.lt);clear hb;refine hK _ _ (fun _ => HSw109.out) ?_;clear hK K;try simp only [Act.put,aSt,aSz,aSs]
     refine wpL_one 13 (by kernel_rfl) rfl (fun K hK => ?_);rw [if_pos (by rfl)];go_simp;have hrw109:=hide HSw109.out.lt;obtain ⟨w110,hw110⟩ : ∃ wn,wn = World.alloc w109 (.cells #[.string (S (Lib.itoa m.aT)),.string (S KD),.string (S (Lib.itoa m.nd)),.string (S (Lib.itoa m.ic))] 9):=⟨_,rfl⟩;rw [← hw110];have HSw110:=hide (HSw109.out.alloc (.cells #[.string (S (Lib.itoa m.aT)),.string (S KD),.string (S (Lib.itoa m.nd)),.string (S (Lib.itoa m.ic))] 9));rw [← hw110] at HSw110;have HPw110:=hide (HPw109.out.alloc (.cells #[.string (S (Lib.itoa m.aT)),.string (S KD),.string (S (Lib.itoa m.nd)),.string (S (Lib.itoa m.ic))] 9));rw [← hw110] at HPw110;have HRw110:=hide (Blk.new w109 9 #[.string (S (Lib.itoa m.aT)),.string (S KD),.string (S (Lib.itoa m.nd)),.string (S (Lib.itoa m.ic))]);rw [← hw110] at HRw110;clear hw110;refine hK _ _ (fun _ => HSw110.out) ?_;clear hK K;try simp only [Act.put,aSt,aSz,aSs]
     refine wpL_one 15 (by kernel_rfl) rfl (fun K hK => ?_);rw [if_pos (by rfl)];have kp:=HPw110.out.cell 0;have fp:=HPw110.out.frozen 0;simp only [List.getElem?_toArray,List.getElem?_cons_zero] at kp;go_simp;have HX:=hide (mx_first HSw110.out HPw110.out HRw110.out hpw102.out hrw109.out);refine hK _ _ (fun _ => HX.out.bx) ?_;clear hK K kp fp;try simp only [Act.put,aSt,aSz,aSs]
     refine wpL_done (by kernel_rfl) ?_ _;go_wp2_with fail;go_meet
     case rel => exact ⟨_,rfl,HX.out⟩
   ·
    rw [if_pos (by rfl)];go_simp;have hpw101:=hide HSw101.out.lt;obtain ⟨w111,hw111⟩ : ∃ wn,wn = World.alloc w101 (.cells #[.slice none 0 0] 101):=⟨_,rfl⟩;rw [← hw111];have HSw111:=hide (HSw101.out.alloc (.cells #[.slice none 0 0] 101));rw [← hw111] at HSw111;have HPw111:=hide (Blk.new w101 101 #[.slice none 0 0]);rw [← hw111] at HPw111;clear hw111;refine hK _ _ (fun _ => HSw111.out) ?_;clear hK K;try simp only [Act.put,aSt,aSz,aSs]
    refine wpL_one 9 (by kernel_rfl) rfl (fun K hK => ?_);rw [if_pos (by rfl)];go_simp;go_at_call 54;refine (itoI (Ct.fit (HN.out m.nd (by simp [Mk.ns]))) (HT.out.below HSw111.out.low)).mono ?_;rintro e w112 ⟨rfl,hb⟩;have HSw112:=hide (HSw111.out.step hb);have HPw112:=hide (HPw111.out.below hb HPw111.out.lt);clear hb;refine hK _ _ (fun _ => HSw112.out) ?_;clear hK K;try simp only [Act.put,aSt,aSz,aSs]
    refine wpL_one 12 (by kernel_rfl) rfl (fun K hK => ?_);rw [if_pos (by rfl)];go_simp;go_at_call 54;refine (itoI (Ct.fit (HN.out m.ic (by simp [Mk.ns]))) (HT.out.below HSw112.out.low)).mono ?_;rintro e w113 ⟨rfl,hb⟩;have HSw113:=hide (HSw112.out.step hb);have HPw113:=hide (HPw112.out.below hb HPw112.out.lt);clear hb;refine hK _ _ (fun _ => HSw113.out) ?_;clear hK K;try simp only [Act.put,aSt,aSz,aSs]
    refine wpL_one 13 (by kernel_rfl) rfl (fun K hK => ?_);rw [if_pos (by rfl)];go_simp;have hrw113:=hide HSw113.out.lt;obtain ⟨w114,hw114⟩ : ∃ wn,wn = World.alloc w113 (.cells #[.string (S (Lib.itoa m.aT)),.string (S KD),.string (S (Lib.itoa m.nd)),.string (S (Lib.itoa m.ic))] 9):=⟨_,rfl⟩;rw [← hw114];have HSw114:=hide (HSw113.out.alloc (.cells #[.string (S (Lib.itoa m.aT)),.string (S KD),.string (S (Lib.itoa m.nd)),.string (S (Lib.itoa m.ic))] 9));rw [← hw114] at HSw114;have HPw114:=hide (HPw113.out.alloc (.cells #[.string (S (Lib.itoa m.aT)),.string (S KD),.string (S (Lib.itoa m.nd)),.string (S (Lib.itoa m.ic))] 9));rw [← hw114] at HPw114;have HRw114:=hide (Blk.new w113 9 #[.string (S (Lib.itoa m.aT)),.string (S KD),.string (S (Lib.itoa m.nd)),.string (S (Lib.itoa m.ic))]);rw [← hw114] at HRw114;clear hw114;refine hK _ _ (fun _ => HSw114.out) ?_;clear hK K;try simp only [Act.put,aSt,aSz,aSs]
    refine wpL_one 15 (by kernel_rfl) rfl (fun K hK => ?_);rw [if_pos (by rfl)];have kp:=HPw114.out.cell 0;have fp:=HPw114.out.frozen 0;simp only [List.getElem?_toArray,List.getElem?_cons_zero] at kp;go_simp;have HX:=hide (mx_first HSw114.out HPw114.out HRw114.out hpw101.out hrw113.out);refine hK _ _ (fun _ => HX.out.bx) ?_;clear hK K kp fp;try simp only [Act.put,aSt,aSz,aSs]
    refine wpL_done (by kernel_rfl) ?_ _;go_wp2_with fail;go_meet
    case rel => exact ⟨_,rfl,HX.out⟩
  ·
   rw [if_pos (by rfl)];go_simp;have hpw9:=hide HS9.out.lt;obtain ⟨w115,hw115⟩ : ∃ wn,wn = World.alloc w9 (.cells #[.slice none 0 0] 101):=⟨_,rfl⟩;rw [← hw115];have HSw115:=hide (HS9.out.alloc (.cells #[.slice none 0 0] 101));rw [← hw115] at HSw115;have HPw115:=hide (Blk.new w9 101 #[.slice none 0 0]);rw [← hw115] at HPw115;clear hw115;refine hK _ _ (fun _ => HSw115.out) ?_;clear hK K;try simp only [Act.put,aSt,aSz,aSs]
   refine wpL_one 2 (by kernel_rfl) rfl (fun K hK => ?_);rw [if_pos (by rfl)];go_simp;go_at_call 54;refine (itoI (Ct.fit (HN.out m.aT (by simp [Mk.ns]))) (HT.out.below HSw115.out.low)).mono ?_;rintro e w116 ⟨rfl,hb⟩;have HSw116:=hide (HSw115.out.step hb);have HPw116:=hide (HPw115.out.below hb HPw115.out.lt);clear hb;refine hK _ _ (fun _ => HSw116.out) ?_;clear hK K;try simp only [Act.put,aSt,aSz,aSs]
   refine wpL_one 9 (by kernel_rfl) rfl (fun K hK => ?_);rw [if_pos (by rfl)];go_simp;go_at_call 54;refine (itoI (Ct.fit (HN.out m.nd (by simp [Mk.ns]))) (HT.out.below HSw116.out.low)).mono ?_;rintro e w117 ⟨rfl,hb⟩;have HSw117:=hide (HSw116.out.step hb);have HPw117:=hide (HPw116.out.below hb HPw116.out.lt);clear hb;refine hK _ _ (fun _ => HSw117.out) ?_;clear hK K;try simp only [Act.put,aSt,aSz,aSs]
   refine wpL_one 12 (by kernel_rfl) rfl (fun K hK => ?_);rw [if_pos (by rfl)];go_simp;go_at_call 54;refine (itoI (Ct.fit (HN.out m.ic (by simp [Mk.ns]))) (HT.out.below HSw117.out.low)).mono ?_;rintro e w118 ⟨rfl,hb⟩;have HSw118:=hide (HSw117.out.step hb);have HPw118:=hide (HPw117.out.below hb HPw117.out.lt);clear hb;refine hK _ _ (fun _ => HSw118.out) ?_;clear hK K;try simp only [Act.put,aSt,aSz,aSs]
   refine wpL_one 13 (by kernel_rfl) rfl (fun K hK => ?_);rw [if_pos (by rfl)];go_simp;have hrw118:=hide HSw118.out.lt;obtain ⟨w119,hw119⟩ : ∃ wn,wn = World.alloc w118 (.cells #[.string (S (Lib.itoa m.aT)),.string (S KD),.string (S (Lib.itoa m.nd)),.string (S (Lib.itoa m.ic))] 9):=⟨_,rfl⟩;rw [← hw119];have HSw119:=hide (HSw118.out.alloc (.cells #[.string (S (Lib.itoa m.aT)),.string (S KD),.string (S (Lib.itoa m.nd)),.string (S (Lib.itoa m.ic))] 9));rw [← hw119] at HSw119;have HPw119:=hide (HPw118.out.alloc (.cells #[.string (S (Lib.itoa m.aT)),.string (S KD),.string (S (Lib.itoa m.nd)),.string (S (Lib.itoa m.ic))] 9));rw [← hw119] at HPw119;have HRw119:=hide (Blk.new w118 9 #[.string (S (Lib.itoa m.aT)),.string (S KD),.string (S (Lib.itoa m.nd)),.string (S (Lib.itoa m.ic))]);rw [← hw119] at HRw119;clear hw119;refine hK _ _ (fun _ => HSw119.out) ?_;clear hK K;try simp only [Act.put,aSt,aSz,aSs]
   refine wpL_one 15 (by kernel_rfl) rfl (fun K hK => ?_);rw [if_pos (by rfl)];have kp:=HPw119.out.cell 0;have fp:=HPw119.out.frozen 0;simp only [List.getElem?_toArray,List.getElem?_cons_zero] at kp;go_simp;have HX:=hide (mx_first HSw119.out HPw119.out HRw119.out hpw9.out hrw118.out);refine hK _ _ (fun _ => HX.out.bx) ?_;clear hK K kp fp;try simp only [Act.put,aSt,aSz,aSs]
   refine wpL_done (by kernel_rfl) ?_ _;go_wp2_with fail;go_meet
   case rel => exact ⟨_,rfl,HX.out⟩
 case rest =>
 obtain ⟨pl,rfl,hmx⟩:=hcut;have HM0:=hide hmx;have HL0 : Hid (([Lib.itoa m.aT,KD,Lib.itoa m.nd,Lib.itoa m.ic] : List (List UInt8)).length ≤ 4):=Nat.le_refl _;obtain ⟨ls0,hls⟩ : ∃ ls0,ls0 = [Lib.itoa m.aT,KD,Lib.itoa m.nd,Lib.itoa m.ic]:=⟨_,rfl⟩;rw [← hls] at HM0 HL0;have E0:=hide hls;clear hmx hls;go_upto_region 3 with fail
 refine wp_region_L [] (BX m w) (by kernel_rfl) ?_;obtain ⟨w120,hw120⟩ : ∃ wn,wn = World.drew wc:=⟨_,rfl⟩;rw [← hw120];have HMw120:=hide HM0.out.drew;rw [← hw120] at HMw120;have HSw120:=hide HMw120.out.bx;clear hw120;refine tk 0 25 (v:=?_) rfl HSw120.out ?_ ?_
 rotate_left;· intro V hV;go_simp;try with_reducible rfl
 try simp only [Act.put,aSt,aSz,aSs]
 refine tk 1 26 (v:=?_) rfl HSw120.out ?_ ?_
 rotate_left;· intro V hV;go_simp;try with_reducible rfl
 try simp only [Act.put,aSt,aSz,aSs]
 refine tk 2 27 (v:=.agg (idCs m)) rfl HSw120.out ?_ ?_
 ·intro V hV;exact ex_load 45 (.tmp 26) rfl _ rfl _ _ Tryz.underlying45 rfl sz_id (box_id hV.box)
 try simp only [Act.put,aSt,aSz,aSs]
 refine tk 3 28 (v:=?_) rfl HSw120.out ?_ ?_
 rotate_left;· intro V hV;go_simp;try with_reducible rfl
 try simp only [Act.put,aSt,aSz,aSs]
 refine tk 4 29 (v:=.bool (idB m)) rfl HSw120.out ?_ ?_
 ·intro V hV;exact ex_neq39 m _ _ rfl rfl rfl
 try simp only [Act.put,aSt,aSz,aSs]
 refine tk 5 30 (v:=?_) rfl HSw120.out ?_ ?_
 rotate_left;· intro V hV;go_simp;try with_reducible rfl
 try simp only [Act.put,aSt,aSz,aSs]
 refine tk 6 31 (v:=?_) rfl HSw120.out ?_ ?_
 rotate_left;· intro V hV;go_simp;try with_reducible rfl
 try simp only [Act.put,aSt,aSz,aSs]
 refine tk 7 32 (v:=?_) rfl HSw120.out ?_ ?_
 rotate_left
 ·intro V hV
  have k4:=mb4 hV.box;go_simp;try with_reducible rfl
 try simp only [Act.put,aSt,aSz,aSs]
 refine tk 8 33 (v:=?_) rfl HSw120.out ?_ ?_
 rotate_left;· intro V hV;go_simp;try with_reducible rfl
 try simp only [Act.put,aSt,aSz,aSs]
 refine tk 9 34 (v:=?_) rfl HSw120.out ?_ ?_
 rotate_left;· intro V hV;go_simp;try with_reducible rfl
 try simp only [Act.put,aSt,aSz,aSs]
 refine tk 10 35 (v:=?_) rfl HSw120.out ?_ ?_
 rotate_left
 ·intro V hV
  have k5:=mb5 hV.box;go_simp;try with_reducible rfl
 try simp only [Act.put,aSt,aSz,aSs]
 refine tk 11 36 (v:=?_) rfl HSw120.out ?_ ?_
 rotate_left;· intro V hV;go_simp;try with_reducible rfl
 try simp only [Act.put,aSt,aSz,aSs]
 refine tk 12 37 (v:=?_) rfl HSw120.out ?_ ?_
 rotate_left;· intro V hV;go_simp;try with_reducible rfl
 try simp only [Act.put,aSt,aSz,aSs]
 refine tk 13 38 (v:=?_) rfl HSw120.out ?_ ?_
 rotate_left
 ·intro V hV
  have k6:=mb6 hV.box;go_simp;try with_reducible rfl
 try simp only [Act.put,aSt,aSz,aSs]
 refine tk 14 39 (v:=?_) rfl HSw120.out ?_ ?_
 rotate_left;· intro V hV;go_simp;try with_reducible rfl
 try simp only [Act.put,aSt,aSz,aSs]
 refine tk 15 40 (v:=?_) rfl HSw120.out ?_ ?_
 rotate_left;· intro V hV;go_simp;try with_reducible rfl
 try simp only [Act.put,aSt,aSz,aSs]
 refine tk 16 41 (v:=?_) rfl HSw120.out ?_ ?_
 rotate_left
 ·intro V hV
  have k7:=mb7 hV.box;go_simp;try with_reducible rfl
 try simp only [Act.put,aSt,aSz,aSs]
 refine wpL_one 17 (by kernel_rfl) rfl (fun K hK => ?_);rw [if_pos (by rfl)];go_simp;obtain ⟨w121,hw121⟩ : ∃ wn,wn = World.alloc w120 (.cells #[.int .i64 m.ep,.int .i64 m.ld,.int .i64 m.ii,.int .i64 m.ci] 3):=⟨_,rfl⟩;rw [← hw121];have HMw121:=hide (HMw120.out.alloc (.cells #[.int .i64 m.ep,.int .i64 m.ld,.int .i64 m.ii,.int .i64 m.ci] 3));rw [← hw121] at HMw121;have HSw121:=hide (HSw120.out.alloc (.cells #[.int .i64 m.ep,.int .i64 m.ld,.int .i64 m.ii,.int .i64 m.ci] 3));rw [← hw121] at HSw121;have HBw121:=hide (Blk.new w120 3 #[.int .i64 m.ep,.int .i64 m.ld,.int .i64 m.ii,.int .i64 m.ci]);rw [← hw121] at HBw121;clear hw121;refine hK _ _ (fun _ => HSw121.out) ?_;clear hK K;try simp only [Act.put,aSt,aSz,aSs]
 refine wpL_one 18 (by kernel_rfl) rfl (fun K hK => ?_);rw [if_pos (by rfl)];go_simp;go_at_call 56;refine (join4 (Ct.fit (HN.out m.ep (by simp [Mk.ns]))) (Ct.fit (HN.out m.ld (by simp [Mk.ns]))) (Ct.fit (HN.out m.ii (by simp [Mk.ns]))) (Ct.fit (HN.out m.ci (by simp [Mk.ns]))) (HT.out.below HMw121.out.bx.low) w120.heap.size HBw121.out).mono ?_;rintro e w122 ⟨rfl,hb⟩;have HMw122:=hide (HMw121.out.step hb);have HSw122:=hide (HSw121.out.step hb);clear hb;refine hK _ _ (fun _ => HSw122.out) ?_;clear hK K;try simp only [Act.put,aSt,aSz,aSs]
 refine wpL_one 19 (by kernel_rfl) rfl (fun K hK => ?_);rw [if_pos (by rfl)];go_simp;go_at_call 55;refine (HMw122.out.part (idB m) [105,100] (sl4 m.ep m.ld m.ii m.ci) (by decide) (by obtain ⟨q0,q1,q2,q3,q4,q5,q6,q7,q8⟩:=HQL.out;(try simp only [cc_len,List.length_append,List.length_cons,List.length_nil]);omega) (by have:=HL0.out;omega)).mono ?_;rintro e w123 ⟨rfl,hmx,hkp⟩;have HM1:=hide hmx;have HSw123:=hide hmx.bx;clear hmx hkp;refine hK _ _ (fun _ => HSw123.out) ?_;clear hK K;try simp only [Act.put,aSt,aSz,aSs]
 obtain ⟨ls1,hls⟩ : ∃ ls1,ls1 = addP (idB m) ls0 [105,100] (sl4 m.ep m.ld m.ii m.ci):=⟨_,rfl⟩;rw [← hls] at HM1;have E1:=hide hls
 have HL1 : Hid (ls1.length ≤ 5):=by
  have h1:=addP_len (idB m) ls0 [105,100] (sl4 m.ep m.ld m.ii m.ci);have h2:=HL0.out;rw [← hls] at h1;show _ ≤ _;omega
 clear hls;refine wpL_done (by kernel_rfl) ?_ _;have c8:=mb8 HM1.out.bx.box;go_upto_region 6 with fail
 clear c8;have hw4 : w.heap.size ≤ w123.heap.size:=HM1.out.bx.low.size;obtain ⟨i9,hi9,hz9,hs9,hb9⟩:=info_parts info9;have I9:=hide hi9;clear hi9;go_loopw [5,7,48] (fun v5 _ i wr => MLoop m w123 v5 i wr) (fun _ _ i _ => m.nm - (intOf i).toNat)
 case atStart => exact ⟨0,none,0,Nat.zero_le _,rfl,rfl,World.ownsRow_nil _ _ _ _,Below.refl _ _⟩
 case round =>
 unfold MLoop at hrel;obtain ⟨j,A,c,hj,rfl,rfl,hown,hb⟩:=hrel;have hsz : w123.heap.size ≤ wr.heap.size:=hb.out.size
 by_cases hlt : j < m.nm
 ·
  obtain ⟨b,off,hAm,hbB,q0,q1,q2⟩:=RS.at_ (Reads.below (Reads.below HMI.out.mem HM1.out.bx.low) (hb.out.mono hw4)) hlt;have k0 : (0 : Int) ≤ (j : Int):=by omega
  have kn : (j : Int) < (m.nm : Int):=by omega
  have hjm : j < m.ms.length:=by have:=HLM.out;omega
  have HTK : Hid (strs ((m.ms.take (j + 1)).map triI) = strs ((m.ms.take j).map triI) ++ [.string (S (triI (pidA m.ms j,incA m.ms j,cidA m.ms j)))]):=by
   show _ = _;rw [List.take_succ_eq_append_getElem hjm,List.map_append,strs_append]
   congr 1
   have e : m.ms.getD j (0,0,0) = m.ms[j]:=by simp [hjm]
   show [Value.string (S (triI m.ms[j]))] = [Value.string (S (triI (pidA m.ms j,incA m.ms j,cidA m.ms j)))];unfold pidA incA cidA;rw [e]
  have htri:=tri_ct HC.out hjm
  have HJ3 : Hid (∀ W,Below w123.heap.size w123 W → Blk W (wr.heap.size + 1) 3 #[.int .i64 (pidA m.ms j),.int .i64 (incA m.ms j),.int .i64 (cidA m.ms j)] → Calls Tryz.prog 56 #[.slice (some ⟨wr.heap.size + 1,0,none⟩) 3 3,.string { data:=#[47] }] W fun e w' => e = .returned (.string (S (triI (pidA m.ms j,incA m.ms j,cidA m.ms j)))) ∧ Below W.heap.size W w'):=fun W hW hB =>
   join3 htri.1.fit htri.2.1.fit htri.2.2.fit (HT.out.below (HM1.out.step hW).bx.low) _ hB
  have HW2 : Hid (Below w123.heap.size w123 ((wr.alloc (.cells #[.int .i64 (pidA m.ms j),.int .i64 (incA m.ms j),.int .i64 (cidA m.ms j)] 84)).alloc (.cells #[.int .i64 (pidA m.ms j),.int .i64 (incA m.ms j),.int .i64 (cidA m.ms j)] 3))):=(hb.out.alloc hsz _).alloc (by simp;omega) _;have HO2 : Hid (((wr.alloc (.cells #[.int .i64 (pidA m.ms j),.int .i64 (incA m.ms j),.int .i64 (cidA m.ms j)] 84)).alloc (.cells #[.int .i64 (pidA m.ms j),.int .i64 (incA m.ms j),.int .i64 (cidA m.ms j)] 3)).ownsRow w123.heap.size 9 1 (.slice A j c) j (strs ((m.ms.take j).map triI))):=(hown.out.alloc _).alloc _;have hj7 : j ≤ 10000000:=by have:=HMI.out.hm;omega
  clear htri hlt;go_upto_region 9 with (first | (go_at_call 56;refine (HJ3.out _ HW2.out (blk_new _ _ _ _ (by simp))).mono ?_;rintro e w3 ⟨rfl,hb3⟩;have HO3:=hide (own_step HO2.out hb3);have HW3:=hide (HW2.out.trans (hb3.mono (by simp;omega)));clear hb3) | (at_builtin;refine wpList_push (W:=w3) (cs:=#[.string (S (triI (pidA m.ms j,incA m.ms j,cidA m.ms j)))]) ?_ (.tmp 52) (.tmp 61) 101 ?_ w123.heap.size 9 i9 (.string { data:=#[] }) 1 16 Tryz.underlying101 I9.out hz9 hs9 hb9 rfl ?_ (.slice A j c) j (strs ((m.ms.take j).map triI)) ?_ HO3.out 1 1 ?_ ?_ ?_ ?_ ?_ ?_ HW3.out.size ?_;rfl;rfl;omega;rfl;rfl;rfl;(simp [Value.oneCell']);omega;(unfold maxLen;omega);omega;intro g7 c7 w7 hown7 hgr7 hb7 _ _ _;have HO7:=hide hown7;have HB7:=hide (HW3.out.trans hb7);clear hown7 hgr7 hb7))
  clear HJ3 HW2 HO2;go_wp2_with fail;go_roundw
  case rel =>
   have hL : MLoop m w123 (.slice (some ⟨g7,0,none⟩) (j + 1) c7) (.int .i64 ((j : Int) + 1)) w7:=⟨j + 1,some ⟨g7,0,none⟩,c7,by omega,by go_num,rfl,by rw [HTK.out];exact HO7.out,HB7.out⟩
   first | exact hL | exact ⟨_,_,_,hL,rfl,rfl,rfl⟩
  case measure => simp [intOf];omega
 ·
  have kn : ¬ (j : Int) < (m.nm : Int):=by omega
  have HMl:=hide (HM1.out.step hb.out)
  have HO : Hid (wr.ownsRow w123.heap.size 9 1 (.slice A m.nm c) m.nm (strs (m.ms.map triI))):=by
   obtain rfl : j = m.nm:=by omega
   have h1:=hown.out;rw [List.take_of_length_le (by have:=HLM.out;omega)] at h1;exact h1
  obtain rfl : j = m.nm:=by omega
  have HJ : Hid (Calls Tryz.prog 57 #[.slice A m.nm c,.string { data:=#[44] }] wr fun e w' => e = .returned (.string (S (Lib.join (m.ms.map triI) [44]))) ∧ Below wr.heap.size wr w') :=
   join_own HO.out (by have:=HMI.out.hm;omega) (by have:=HJL.out.1;omega)
  clear hlt hown hb hsz hj HO;go_upto_region 11 with (first | (go_at_call 57;refine HJ.out.mono ?_;rintro e wj ⟨rfl,hbj⟩;have HMj:=hide (HMl.out.step hbj);clear hbj) | (go_at_call 55;refine (HMj.out.part _ [109,101,109,98,101,114,115] (Lib.join (m.ms.map triI) [44]) (by decide) (by have:=HJL.out.1;omega) (by have:=HL1.out;omega)).mono ?_;rintro e wk ⟨rfl,hmx,_⟩;have HM2 : Hid (MX m w wk pl (addP (decide (0 < m.nm)) ls1 [109,101,109,98,101,114,115] (Lib.join (m.ms.map triI) [44]))):=(by first | exact hmx | (simpa using hmx));clear hmx))
  clear HJ HMl HMj kn;obtain ⟨ls2,hls⟩ : ∃ ls2,ls2 = addP (decide (0 < m.nm)) ls1 [109,101,109,98,101,114,115] (Lib.join (m.ms.map triI) [44]):=⟨_,rfl⟩;rw [← hls] at HM2;have E2:=hide hls
  have HL2 : Hid (ls2.length ≤ 6):=by
   have h1:=addP_len (decide (0 < m.nm)) ls1 [109,101,109,98,101,114,115] (Lib.join (m.ms.map triI) [44]);have h2:=HL1.out;rw [← hls] at h1;show _ ≤ _;omega
  clear hls;go_upto_region 11 with fail
  refine wp_region_L [] (BX m w) (by kernel_rfl) ?_;obtain ⟨w124,hw124⟩ : ∃ wn,wn = World.drew wk:=⟨_,rfl⟩;rw [← hw124];have HMw124:=hide HM2.out.drew;rw [← hw124] at HMw124;have HSw124:=hide HMw124.out.bx;clear hw124;refine tk 0 71 (v:=?_) rfl HSw124.out ?_ ?_
  rotate_left;· intro V hV;go_simp;try with_reducible rfl
  try simp only [Act.put,aSt,aSz,aSs]
  refine tk 1 72 (v:=?_) rfl HSw124.out ?_ ?_
  rotate_left;· intro V hV;go_simp;try with_reducible rfl
  try simp only [Act.put,aSt,aSz,aSs]
  refine tk 2 73 (v:=?_) rfl HSw124.out ?_ ?_
  rotate_left
  ·intro V hV
   have k9:=mb9 hV.box;go_simp;try with_reducible rfl
  try simp only [Act.put,aSt,aSz,aSs]
  refine tk 3 74 (v:=?_) rfl HSw124.out ?_ ?_
  rotate_left;· intro V hV;go_simp;try with_reducible rfl
  try simp only [Act.put,aSt,aSz,aSs]
  refine tk 4 75 (v:=.bool (decide (0 < m.nt))) rfl HSw124.out ?_ ?_
  ·intro V hV;exact ex_gtr _ _ rfl rfl rfl
  try simp only [Act.put,aSt,aSz,aSs]
  refine tk 5 76 (v:=?_) rfl HSw124.out ?_ ?_
  rotate_left;· intro V hV;go_simp;try with_reducible rfl
  try simp only [Act.put,aSt,aSz,aSs]
  refine tk 6 77 (v:=?_) rfl HSw124.out ?_ ?_
  rotate_left
  ·intro V hV
   have k9:=mb9 hV.box;go_simp;try with_reducible rfl
  try simp only [Act.put,aSt,aSz,aSs]
  refine wpL_one 7 (by kernel_rfl) rfl (fun K hK => ?_);rw [if_pos (by rfl)];go_simp;go_at_call 56;refine (joined_any m.At w.heap.size m.nt m.ct m.ts [44] _ (Reads.below HMI.out.tr HMw124.out.bx.low) HMw124.out.bx.low.size HTF.out HMI.out.ht (by decide) (HT.out.below HMw124.out.bx.low)).mono ?_;rintro e w125 ⟨rfl,hb⟩;have HMw125:=hide (HMw124.out.step hb);have HSw125:=hide (HSw124.out.step hb);clear hb;refine hK _ _ (fun _ => HSw125.out) ?_;clear hK K;try simp only [Act.put,aSt,aSz,aSs]
  refine wpL_one 8 (by kernel_rfl) rfl (fun K hK => ?_);rw [if_pos (by rfl)];go_simp;go_at_call 55;refine (HMw125.out.part (decide (0 < m.nt)) [116,114,97,110,115] (Lib.join (m.ts.map Lib.itoa) [44]) (by decide) (by have:=HJL.out.2;omega) (by have:=HL2.out;omega)).mono ?_;rintro e w126 ⟨rfl,hmx,hkp⟩;have HM3:=hide hmx;have HSw126:=hide hmx.bx;clear hmx hkp;refine hK _ _ (fun _ => HSw126.out) ?_;clear hK K;try simp only [Act.put,aSt,aSz,aSs]
  obtain ⟨ls3,hls⟩ : ∃ ls3,ls3 = addP (decide (0 < m.nt)) ls2 [116,114,97,110,115] (Lib.join (m.ts.map Lib.itoa) [44]):=⟨_,rfl⟩;rw [← hls] at HM3;have E3:=hide hls
  have HL3 : Hid (ls3.length ≤ 7):=by
   have h1:=addP_len (decide (0 < m.nt)) ls2 [116,114,97,110,115] (Lib.join (m.ts.map Lib.itoa) [44]);have h2:=HL2.out;rw [← hls] at h1;show _ ≤ _;omega
  clear hls;refine wpL_done (by kernel_rfl) ?_ _;go_upto_region 12 with fail
  refine wp_region_L [] (BX m w) (by kernel_rfl) ?_;obtain ⟨w127,hw127⟩ : ∃ wn,wn = World.drew w126:=⟨_,rfl⟩;rw [← hw127];have HMw127:=hide HM3.out.drew;rw [← hw127] at HMw127;have HSw127:=hide HMw127.out.bx;clear hw127;refine tk 0 80 (v:=?_) rfl HSw127.out ?_ ?_
  rotate_left;· intro V hV;go_simp;try with_reducible rfl
  try simp only [Act.put,aSt,aSz,aSs]
  refine tk 1 81 (v:=?_) rfl HSw127.out ?_ ?_
  rotate_left;· intro V hV;go_simp;try with_reducible rfl
  try simp only [Act.put,aSt,aSz,aSs]
  refine tk 2 82 (v:=?_) rfl HSw127.out ?_ ?_
  rotate_left
  ·intro V hV
   have k10:=mb10 hV.box;go_simp;try with_reducible rfl
  try simp only [Act.put,aSt,aSz,aSs]
  refine tk 3 83 (v:=.bool (m.se != 0)) rfl HSw127.out ?_ ?_
  ·intro V hV;exact ex_neq _ _ rfl rfl rfl
  try simp only [Act.put,aSt,aSz,aSs]
  refine tk 4 84 (v:=?_) rfl HSw127.out ?_ ?_
  rotate_left;· intro V hV;go_simp;try with_reducible rfl
  try simp only [Act.put,aSt,aSz,aSs]
  refine tk 5 85 (v:=?_) rfl HSw127.out ?_ ?_
  rotate_left
  ·intro V hV
   have k10:=mb10 hV.box;go_simp;try with_reducible rfl
  try simp only [Act.put,aSt,aSz,aSs]
  refine wpL_one 6 (by kernel_rfl) rfl (fun K hK => ?_);rw [if_pos (by rfl)];go_simp;go_at_call 54;refine (itoI (Ct.fit (HN.out m.se (by simp [Mk.ns]))) (HT.out.below HMw127.out.bx.low)).mono ?_;rintro e w128 ⟨rfl,hb⟩;have HMw128:=hide (HMw127.out.step hb);have HSw128:=hide (HSw127.out.step hb);clear hb;refine hK _ _ (fun _ => HSw128.out) ?_;clear hK K;try simp only [Act.put,aSt,aSz,aSs]
  refine wpL_one 7 (by kernel_rfl) rfl (fun K hK => ?_);rw [if_pos (by rfl)];go_simp;go_at_call 55;refine (HMw128.out.part (m.se != 0) [115,101,110,100,101,114] (Lib.itoa m.se) (by decide) (by have:=itoa_len m.se (Ct.fit (HN.out m.se (by simp [Mk.ns]))).1 (Ct.fit (HN.out m.se (by simp [Mk.ns]))).2;omega) (by have:=HL3.out;omega)).mono ?_;rintro e w129 ⟨rfl,hmx,hkp⟩;have HM4:=hide hmx;have HSw129:=hide hmx.bx;clear hmx hkp;refine hK _ _ (fun _ => HSw129.out) ?_;clear hK K;try simp only [Act.put,aSt,aSz,aSs]
  obtain ⟨ls4,hls⟩ : ∃ ls4,ls4 = addP (m.se != 0) ls3 [115,101,110,100,101,114] (Lib.itoa m.se):=⟨_,rfl⟩;rw [← hls] at HM4;have E4:=hide hls
  have HL4 : Hid (ls4.length ≤ 8):=by
   have h1:=addP_len (m.se != 0) ls3 [115,101,110,100,101,114] (Lib.itoa m.se);have h2:=HL3.out;rw [← hls] at h1;show _ ≤ _;omega
  clear hls;refine wpL_done (by kernel_rfl) ?_ _;go_upto_region 13 with fail
  refine wp_region_L [] (BX m w) (by kernel_rfl) ?_;obtain ⟨w130,hw130⟩ : ∃ wn,wn = World.drew w129:=⟨_,rfl⟩;rw [← hw130];have HMw130:=hide HM4.out.drew;rw [← hw130] at HMw130;have HSw130:=hide HMw130.out.bx;clear hw130;refine tk 0 88 (v:=?_) rfl HSw130.out ?_ ?_
  rotate_left;· intro V hV;go_simp;try with_reducible rfl
  try simp only [Act.put,aSt,aSz,aSs]
  refine tk 1 89 (v:=?_) rfl HSw130.out ?_ ?_
  rotate_left;· intro V hV;go_simp;try with_reducible rfl
  try simp only [Act.put,aSt,aSz,aSs]
  refine tk 2 90 (v:=?_) rfl HSw130.out ?_ ?_
  rotate_left
  ·intro V hV
   have k11:=mb11 hV.box;go_simp;try with_reducible rfl
  try simp only [Act.put,aSt,aSz,aSs]
  refine tk 3 91 (v:=.bool (m.sq != 0)) rfl HSw130.out ?_ ?_
  ·intro V hV;exact ex_neq _ _ rfl rfl rfl
  try simp only [Act.put,aSt,aSz,aSs]
  refine tk 4 92 (v:=?_) rfl HSw130.out ?_ ?_
  rotate_left;· intro V hV;go_simp;try with_reducible rfl
  try simp only [Act.put,aSt,aSz,aSs]
  refine tk 5 93 (v:=?_) rfl HSw130.out ?_ ?_
  rotate_left
  ·intro V hV
   have k11:=mb11 hV.box;go_simp;try with_reducible rfl
  try simp only [Act.put,aSt,aSz,aSs]
  refine wpL_one 6 (by kernel_rfl) rfl (fun K hK => ?_);rw [if_pos (by rfl)];go_simp;go_at_call 54;refine (itoI (Ct.fit (HN.out m.sq (by simp [Mk.ns]))) (HT.out.below HMw130.out.bx.low)).mono ?_;rintro e w131 ⟨rfl,hb⟩;have HMw131:=hide (HMw130.out.step hb);have HSw131:=hide (HSw130.out.step hb);clear hb;refine hK _ _ (fun _ => HSw131.out) ?_;clear hK K;try simp only [Act.put,aSt,aSz,aSs]
  refine wpL_one 7 (by kernel_rfl) rfl (fun K hK => ?_);rw [if_pos (by rfl)];go_simp;go_at_call 55;refine (HMw131.out.part (m.sq != 0) [115,101,113] (Lib.itoa m.sq) (by decide) (by have:=itoa_len m.sq (Ct.fit (HN.out m.sq (by simp [Mk.ns]))).1 (Ct.fit (HN.out m.sq (by simp [Mk.ns]))).2;omega) (by have:=HL4.out;omega)).mono ?_;rintro e w132 ⟨rfl,hmx,hkp⟩;have HM5:=hide hmx;have HSw132:=hide hmx.bx;clear hmx hkp;refine hK _ _ (fun _ => HSw132.out) ?_;clear hK K;try simp only [Act.put,aSt,aSz,aSs]
  obtain ⟨ls5,hls⟩ : ∃ ls5,ls5 = addP (m.sq != 0) ls4 [115,101,113] (Lib.itoa m.sq):=⟨_,rfl⟩;rw [← hls] at HM5;have E5:=hide hls
  have HL5 : Hid (ls5.length ≤ 9):=by
   have h1:=addP_len (m.sq != 0) ls4 [115,101,113] (Lib.itoa m.sq);have h2:=HL4.out;rw [← hls] at h1;show _ ≤ _;omega
  clear hls;refine wpL_done (by kernel_rfl) ?_ _;go_upto_region 14 with fail
  refine wp_region_L [] (BX m w) (by kernel_rfl) ?_;obtain ⟨w133,hw133⟩ : ∃ wn,wn = World.drew w132:=⟨_,rfl⟩;rw [← hw133];have HMw133:=hide HM5.out.drew;rw [← hw133] at HMw133;have HSw133:=hide HMw133.out.bx;clear hw133;refine tk 0 96 (v:=?_) rfl HSw133.out ?_ ?_
  rotate_left;· intro V hV;go_simp;try with_reducible rfl
  try simp only [Act.put,aSt,aSz,aSs]
  refine tk 1 97 (v:=?_) rfl HSw133.out ?_ ?_
  rotate_left;· intro V hV;go_simp;try with_reducible rfl
  try simp only [Act.put,aSt,aSz,aSs]
  refine tk 2 98 (v:=?_) rfl HSw133.out ?_ ?_
  rotate_left
  ·intro V hV
   have k12:=mb12 hV.box;go_simp;try with_reducible rfl
  try simp only [Act.put,aSt,aSz,aSs]
  refine tk 3 99 (v:=.bool (m.po != 0)) rfl HSw133.out ?_ ?_
  ·intro V hV;exact ex_neq _ _ rfl rfl rfl
  try simp only [Act.put,aSt,aSz,aSs]
  refine tk 4 100 (v:=?_) rfl HSw133.out ?_ ?_
  rotate_left;· intro V hV;go_simp;try with_reducible rfl
  try simp only [Act.put,aSt,aSz,aSs]
  refine tk 5 101 (v:=?_) rfl HSw133.out ?_ ?_
  rotate_left
  ·intro V hV
   have k12:=mb12 hV.box;go_simp;try with_reducible rfl
  try simp only [Act.put,aSt,aSz,aSs]
  refine wpL_one 6 (by kernel_rfl) rfl (fun K hK => ?_);rw [if_pos (by rfl)];go_simp;go_at_call 54;refine (itoI (Ct.fit (HN.out m.po (by simp [Mk.ns]))) (HT.out.below HMw133.out.bx.low)).mono ?_;rintro e w134 ⟨rfl,hb⟩;have HMw134:=hide (HMw133.out.step hb);have HSw134:=hide (HSw133.out.step hb);clear hb;refine hK _ _ (fun _ => HSw134.out) ?_;clear hK K;try simp only [Act.put,aSt,aSz,aSs]
  refine wpL_one 7 (by kernel_rfl) rfl (fun K hK => ?_);rw [if_pos (by rfl)];go_simp;go_at_call 55;refine (HMw134.out.part (m.po != 0) [112,111,115] (Lib.itoa m.po) (by decide) (by have:=itoa_len m.po (Ct.fit (HN.out m.po (by simp [Mk.ns]))).1 (Ct.fit (HN.out m.po (by simp [Mk.ns]))).2;omega) (by have:=HL5.out;omega)).mono ?_;rintro e w135 ⟨rfl,hmx,hkp⟩;have HM6:=hide hmx;have HSw135:=hide hmx.bx;clear hmx hkp;refine hK _ _ (fun _ => HSw135.out) ?_;clear hK K;try simp only [Act.put,aSt,aSz,aSs]
  obtain ⟨ls6,hls⟩ : ∃ ls6,ls6 = addP (m.po != 0) ls5 [112,111,115] (Lib.itoa m.po):=⟨_,rfl⟩;rw [← hls] at HM6;have E6:=hide hls
  have HL6 : Hid (ls6.length ≤ 10):=by
   have h1:=addP_len (m.po != 0) ls5 [112,111,115] (Lib.itoa m.po);have h2:=HL5.out;rw [← hls] at h1;show _ ≤ _;omega
  clear hls;refine wpL_done (by kernel_rfl) ?_ _;go_upto_region 15 with fail
  refine wp_region_L [] (BX m w) (by kernel_rfl) ?_;obtain ⟨w136,hw136⟩ : ∃ wn,wn = World.drew w135:=⟨_,rfl⟩;rw [← hw136];have HMw136:=hide HM6.out.drew;rw [← hw136] at HMw136;have HSw136:=hide HMw136.out.bx;clear hw136;refine tk 0 104 (v:=?_) rfl HSw136.out ?_ ?_
  rotate_left;· intro V hV;go_simp;try with_reducible rfl
  try simp only [Act.put,aSt,aSz,aSs]
  refine tk 1 105 (v:=?_) rfl HSw136.out ?_ ?_
  rotate_left;· intro V hV;go_simp;try with_reducible rfl
  try simp only [Act.put,aSt,aSz,aSs]
  refine tk 2 106 (v:=?_) rfl HSw136.out ?_ ?_
  rotate_left
  ·intro V hV
   have k13:=mb13 hV.box;go_simp;try with_reducible rfl
  try simp only [Act.put,aSt,aSz,aSs]
  refine tk 3 107 (v:=.bool (m.n != 0)) rfl HSw136.out ?_ ?_
  ·intro V hV;exact ex_neq _ _ rfl rfl rfl
  try simp only [Act.put,aSt,aSz,aSs]
  refine tk 4 108 (v:=?_) rfl HSw136.out ?_ ?_
  rotate_left;· intro V hV;go_simp;try with_reducible rfl
  try simp only [Act.put,aSt,aSz,aSs]
  refine tk 5 109 (v:=?_) rfl HSw136.out ?_ ?_
  rotate_left
  ·intro V hV
   have k13:=mb13 hV.box;go_simp;try with_reducible rfl
  try simp only [Act.put,aSt,aSz,aSs]
  refine wpL_one 6 (by kernel_rfl) rfl (fun K hK => ?_);rw [if_pos (by rfl)];go_simp;go_at_call 54;refine (itoI (Ct.fit (HN.out m.n (by simp [Mk.ns]))) (HT.out.below HMw136.out.bx.low)).mono ?_;rintro e w137 ⟨rfl,hb⟩;have HMw137:=hide (HMw136.out.step hb);have HSw137:=hide (HSw136.out.step hb);clear hb;refine hK _ _ (fun _ => HSw137.out) ?_;clear hK K;try simp only [Act.put,aSt,aSz,aSs]
  refine wpL_one 7 (by kernel_rfl) rfl (fun K hK => ?_);rw [if_pos (by rfl)];go_simp;go_at_call 55;refine (HMw137.out.part (m.n != 0) [110] (Lib.itoa m.n) (by decide) (by have:=itoa_len m.n (Ct.fit (HN.out m.n (by simp [Mk.ns]))).1 (Ct.fit (HN.out m.n (by simp [Mk.ns]))).2;omega) (by have:=HL6.out;omega)).mono ?_;rintro e w138 ⟨rfl,hmx,hkp⟩;have HM7:=hide hmx;have HSw138:=hide hmx.bx;clear hmx hkp;refine hK _ _ (fun _ => HSw138.out) ?_;clear hK K;try simp only [Act.put,aSt,aSz,aSs]
  obtain ⟨ls7,hls⟩ : ∃ ls7,ls7 = addP (m.n != 0) ls6 [110] (Lib.itoa m.n):=⟨_,rfl⟩;rw [← hls] at HM7;have E7:=hide hls
  have HL7 : Hid (ls7.length ≤ 11):=by
   have h1:=addP_len (m.n != 0) ls6 [110] (Lib.itoa m.n);have h2:=HL6.out;rw [← hls] at h1;show _ ≤ _;omega
  clear hls;refine wpL_done (by kernel_rfl) ?_ _;go_upto_region 16 with fail
  refine wp_region_L [] (BX m w) (by kernel_rfl) ?_;obtain ⟨w139,hw139⟩ : ∃ wn,wn = World.drew w138:=⟨_,rfl⟩;rw [← hw139];have HMw139:=hide HM7.out.drew;rw [← hw139] at HMw139;have HSw139:=hide HMw139.out.bx;clear hw139;refine tk 0 112 (v:=?_) rfl HSw139.out ?_ ?_
  rotate_left;· intro V hV;go_simp;try with_reducible rfl
  try simp only [Act.put,aSt,aSz,aSs]
  refine tk 1 113 (v:=?_) rfl HSw139.out ?_ ?_
  rotate_left;· intro V hV;go_simp;try with_reducible rfl
  try simp only [Act.put,aSt,aSz,aSs]
  refine tk 2 114 (v:=?_) rfl HSw139.out ?_ ?_
  rotate_left
  ·intro V hV
   have k14:=mb14 hV.box;go_simp;try with_reducible rfl
  try simp only [Act.put,aSt,aSz,aSs]
  refine tk 3 115 (v:=?_) rfl HSw139.out ?_ ?_
  rotate_left;· intro V hV;go_simp;try with_reducible rfl
  try simp only [Act.put,aSt,aSz,aSs]
  refine tk 4 116 (v:=.bool (decide (0 < m.nb))) rfl HSw139.out ?_ ?_
  ·intro V hV;exact ex_gtr _ _ rfl rfl rfl
  try simp only [Act.put,aSt,aSz,aSs]
  refine tk 5 117 (v:=?_) rfl HSw139.out ?_ ?_
  rotate_left;· intro V hV;go_simp;try with_reducible rfl
  try simp only [Act.put,aSt,aSz,aSs]
  refine tk 6 118 (v:=?_) rfl HSw139.out ?_ ?_
  rotate_left
  ·intro V hV
   have k14:=mb14 hV.box;go_simp;try with_reducible rfl
  try simp only [Act.put,aSt,aSz,aSs]
  refine tk 7 119 (v:=.string (S m.bd)) rfl HSw139.out ?_ ?_
  ·intro V hV;exact ex_conv _ rfl rfl (hV.inn HMI.out).body
  try simp only [Act.put,aSt,aSz,aSs]
  refine wpL_one 8 (by kernel_rfl) rfl (fun K hK => ?_);rw [if_pos (by rfl)];go_simp;go_at_call 58;refine (quoteI (s:=S m.bd) (by rw [S_size];have:=HZ.out.bd;have:=HZ.out.nb;omega)).mono ?_;rintro e w140 ⟨rfl,hb⟩;have HMw140:=hide (HMw139.out.step hb);have HSw140:=hide (HSw139.out.step hb);clear hb;refine hK _ _ (fun _ => HSw140.out) ?_;clear hK K;try simp only [Act.put,aSt,aSz,aSs]
  refine wpL_one 9 (by kernel_rfl) rfl (fun K hK => ?_);rw [if_pos (by rfl)];go_simp;go_at_call 55;refine (HMw140.out.part (decide (0 < m.nb)) [98,111,100,121] (quoteL m.bd) (by decide) (by obtain ⟨q0,q1,q2,q3,q4,q5,q6,q7,q8⟩:=HQL.out;(try simp only [cc_len,List.length_append,List.length_cons,List.length_nil]);omega) (by have:=HL7.out;omega)).mono ?_;rintro e w141 ⟨rfl,hmx,hkp⟩;have HM8:=hide hmx;have HSw141:=hide hmx.bx;clear hmx hkp;refine hK _ _ (fun _ => HSw141.out) ?_;clear hK K;try simp only [Act.put,aSt,aSz,aSs]
  obtain ⟨ls8,hls⟩ : ∃ ls8,ls8 = addP (decide (0 < m.nb)) ls7 [98,111,100,121] (quoteL m.bd):=⟨_,rfl⟩;rw [← hls] at HM8;have E8:=hide hls
  have HL8 : Hid (ls8.length ≤ 12):=by
   have h1:=addP_len (decide (0 < m.nb)) ls7 [98,111,100,121] (quoteL m.bd);have h2:=HL7.out;rw [← hls] at h1;show _ ≤ _;omega
  clear hls;refine wpL_done (by kernel_rfl) ?_ _;have hx:=HM8.out.bx.box;have c15:=mb15 hx;have c16:=mb16 hx;have c17:=mb17 hx;have c18:=mb18 hx;have c19:=mb19 hx;have c20:=mb20 hx;have c21:=mb21 hx;clear hx;go_upto_region 18 with fail
  clear c15 c16 c17 c18 c19 c20 c21;refine wp_region_L [] (fun V => CY m w V w141.heap.size) (by kernel_rfl) ?_;generalize hw142 : World.drew (World.alloc w141 _) = w142
  have HMw142 : Hid (MX m w w142 pl ls8):=by
   subst hw142;exact (HM8.out.alloc _).drew
  have HSw142 : Hid (CY m w w142 w141.heap.size):=by
   subst hw142;exact ⟨((HM8.out.alloc _).drew).bx,Blk.drew (Blk.new _ _ _)⟩
  clear hw142;refine tk 0 124 (v:=?_) rfl HSw142.out ?_ ?_
  rotate_left;· intro V hV;go_simp;try with_reducible rfl
  try simp only [Act.put,aSt,aSz,aSs]
  refine tk 1 125 (v:=.agg (cmdCs m)) rfl HSw142.out ?_ ?_
  ·intro V hV;exact ex_load 31 (.tmp 8) rfl _ rfl _ _ Tryz.underlying31 rfl sz_cmd (own_cmd hV.cmd)
  try simp only [Act.put,aSt,aSz,aSs]
  refine tk 2 126 (v:=?_) rfl HSw142.out ?_ ?_
  rotate_left;· intro V hV;go_simp;try with_reducible rfl
  try simp only [Act.put,aSt,aSz,aSs]
  refine tk 3 127 (v:=.bool (cmdB m)) rfl HSw142.out ?_ ?_
  ·intro V hV;exact ex_neq44 m _ _ rfl rfl rfl
  try simp only [Act.put,aSt,aSz,aSs]
  refine tk 4 128 (v:=?_) rfl HSw142.out ?_ ?_
  rotate_left;· intro V hV;go_simp;try with_reducible rfl
  try simp only [Act.put,aSt,aSz,aSs]
  refine tk 5 129 (v:=?_) rfl HSw142.out ?_ ?_
  rotate_left
  ·intro V hV
   have k0:=cmd0_ hV.cmd;go_simp;try with_reducible rfl
  try simp only [Act.put,aSt,aSz,aSs]
  refine tk 6 130 (v:=?_) rfl HSw142.out ?_ ?_
  rotate_left;· intro V hV;go_simp;try with_reducible rfl
  try simp only [Act.put,aSt,aSz,aSs]
  refine tk 7 131 (v:=?_) rfl HSw142.out ?_ ?_
  rotate_left
  ·intro V hV
   have k1:=cmd1_ hV.cmd;go_simp;try with_reducible rfl
  try simp only [Act.put,aSt,aSz,aSs]
  refine tk 8 132 (v:=?_) rfl HSw142.out ?_ ?_
  rotate_left;· intro V hV;go_simp;try with_reducible rfl
  try simp only [Act.put,aSt,aSz,aSs]
  refine tk 9 133 (v:=?_) rfl HSw142.out ?_ ?_
  rotate_left
  ·intro V hV
   have k2:=cmd2_ hV.cmd;go_simp;try with_reducible rfl
  try simp only [Act.put,aSt,aSz,aSs]
  refine tk 10 134 (v:=?_) rfl HSw142.out ?_ ?_
  rotate_left;· intro V hV;go_simp;try with_reducible rfl
  try simp only [Act.put,aSt,aSz,aSs]
  refine tk 11 135 (v:=?_) rfl HSw142.out ?_ ?_
  rotate_left
  ·intro V hV
   have k3:=cmd3_ hV.cmd;go_simp;try with_reducible rfl
  try simp only [Act.put,aSt,aSz,aSs]
  refine tk 15 139 (v:=?_) rfl HSw142.out ?_ ?_
  rotate_left;· intro V hV;go_simp;try with_reducible rfl
  try simp only [Act.put,aSt,aSz,aSs]
  refine tk 16 140 (v:=?_) rfl HSw142.out ?_ ?_
  rotate_left
  ·intro V hV
   have k4:=cmd4_ hV.cmd;go_simp;try with_reducible rfl
  try simp only [Act.put,aSt,aSz,aSs]
  refine tk 20 144 (v:=?_) rfl HSw142.out ?_ ?_
  rotate_left;· intro V hV;go_simp;try with_reducible rfl
  try simp only [Act.put,aSt,aSz,aSs]
  refine tk 21 145 (v:=?_) rfl HSw142.out ?_ ?_
  rotate_left
  ·intro V hV
   have k5:=cmd5_ hV.cmd;go_simp;try with_reducible rfl
  try simp only [Act.put,aSt,aSz,aSs]
  refine tk 25 149 (v:=?_) rfl HSw142.out ?_ ?_
  rotate_left;· intro V hV;go_simp;try with_reducible rfl
  try simp only [Act.put,aSt,aSz,aSs]
  refine tk 26 150 (v:=?_) rfl HSw142.out ?_ ?_
  rotate_left
  ·intro V hV
   have k6:=cmd6_ hV.cmd;go_simp;try with_reducible rfl
  try simp only [Act.put,aSt,aSz,aSs]
  refine wpL_one 12 (by kernel_rfl) rfl (fun K hK => ?_);rw [if_pos (by rfl)];go_simp;obtain ⟨w143,hw143⟩ : ∃ wn,wn = World.alloc w142 (.cells #[.int .i64 m.cl,.int .i64 m.cn,.int .i64 m.rq,.int .i64 m.op] 3):=⟨_,rfl⟩;rw [← hw143];have HMw143:=hide (HMw142.out.alloc (.cells #[.int .i64 m.cl,.int .i64 m.cn,.int .i64 m.rq,.int .i64 m.op] 3));rw [← hw143] at HMw143;have HSw143:=hide (HSw142.out.alloc (.cells #[.int .i64 m.cl,.int .i64 m.cn,.int .i64 m.rq,.int .i64 m.op] 3));rw [← hw143] at HSw143;have HBw143:=hide (Blk.new w142 3 #[.int .i64 m.cl,.int .i64 m.cn,.int .i64 m.rq,.int .i64 m.op]);rw [← hw143] at HBw143;clear hw143;refine hK _ _ (fun _ => HSw143.out) ?_;clear hK K;try simp only [Act.put,aSt,aSz,aSs]
  refine wpL_one 13 (by kernel_rfl) rfl (fun K hK => ?_);rw [if_pos (by rfl)];go_simp;go_at_call 56;refine (join4 (Ct.fit (HN.out m.cl (by simp [Mk.ns]))) (Ct.fit (HN.out m.cn (by simp [Mk.ns]))) (Ct.fit (HN.out m.rq (by simp [Mk.ns]))) (Ct.fit (HN.out m.op (by simp [Mk.ns]))) (HT.out.below HMw143.out.bx.low) w142.heap.size HBw143.out).mono ?_;rintro e w144 ⟨rfl,hb⟩;have HMw144:=hide (HMw143.out.step hb);have HSw144:=hide (HSw143.out.step hb);clear hb;refine hK _ _ (fun _ => HSw144.out) ?_;clear hK K;try simp only [Act.put,aSt,aSz,aSs]
  refine tk 14 138 (v:=.string (S (cc (sl4 m.cl m.cn m.rq m.op) ([47])))) rfl HSw144.out ?_ ?_
  ·intro V hV;exact ex_cat (.tmp 137) (.const (.string { data:=#[47] })) 9 9 rfl rfl rfl (by obtain ⟨q0,q1,q2,q3,q4,q5,q6,q7,q8⟩:=HQL.out;(try simp only [cc_len,List.length_append,List.length_cons,List.length_nil]);omega)
  try simp only [Act.put,aSt,aSz,aSs]
  refine wpL_one 17 (by kernel_rfl) rfl (fun K hK => ?_);rw [if_pos (by rfl)];go_simp;go_at_call 58;refine (quoteI HZ.out.key).mono ?_;rintro e w145 ⟨rfl,hb⟩;have HMw145:=hide (HMw144.out.step hb);have HSw145:=hide (HSw144.out.step hb);clear hb;refine hK _ _ (fun _ => HSw145.out) ?_;clear hK K;try simp only [Act.put,aSt,aSz,aSs]
  refine tk 18 142 (v:=.string (S (cc (cc (sl4 m.cl m.cn m.rq m.op) ([47])) (quoteL m.key.data.toList)))) rfl HSw145.out ?_ ?_
  ·intro V hV;exact ex_cat (.tmp 138) (.tmp 141) 9 9 rfl rfl rfl (by obtain ⟨q0,q1,q2,q3,q4,q5,q6,q7,q8⟩:=HQL.out;(try simp only [cc_len,List.length_append,List.length_cons,List.length_nil]);omega)
  try simp only [Act.put,aSt,aSz,aSs]
  refine tk 19 143 (v:=.string (S (cc (cc (cc (sl4 m.cl m.cn m.rq m.op) ([47])) (quoteL m.key.data.toList)) ([47])))) rfl HSw145.out ?_ ?_
  ·intro V hV;exact ex_cat (.tmp 142) (.const (.string { data:=#[47] })) 9 9 rfl rfl rfl (by obtain ⟨q0,q1,q2,q3,q4,q5,q6,q7,q8⟩:=HQL.out;(try simp only [cc_len,List.length_append,List.length_cons,List.length_nil]);omega)
  try simp only [Act.put,aSt,aSz,aSs]
  refine wpL_one 22 (by kernel_rfl) rfl (fun K hK => ?_);rw [if_pos (by rfl)];go_simp;go_at_call 58;refine (quoteI HZ.out.val).mono ?_;rintro e w146 ⟨rfl,hb⟩;have HMw146:=hide (HMw145.out.step hb);have HSw146:=hide (HSw145.out.step hb);clear hb;refine hK _ _ (fun _ => HSw146.out) ?_;clear hK K;try simp only [Act.put,aSt,aSz,aSs]
  refine tk 23 147 (v:=.string (S (cc (cc (cc (cc (sl4 m.cl m.cn m.rq m.op) ([47])) (quoteL m.key.data.toList)) ([47])) (quoteL m.val.data.toList)))) rfl HSw146.out ?_ ?_
  ·intro V hV;exact ex_cat (.tmp 143) (.tmp 146) 9 9 rfl rfl rfl (by obtain ⟨q0,q1,q2,q3,q4,q5,q6,q7,q8⟩:=HQL.out;(try simp only [cc_len,List.length_append,List.length_cons,List.length_nil]);omega)
  try simp only [Act.put,aSt,aSz,aSs]
  refine tk 24 148 (v:=.string (S (cc (cc (cc (cc (cc (sl4 m.cl m.cn m.rq m.op) ([47])) (quoteL m.key.data.toList)) ([47])) (quoteL m.val.data.toList)) ([47])))) rfl HSw146.out ?_ ?_
  ·intro V hV;exact ex_cat (.tmp 147) (.const (.string { data:=#[47] })) 9 9 rfl rfl rfl (by obtain ⟨q0,q1,q2,q3,q4,q5,q6,q7,q8⟩:=HQL.out;(try simp only [cc_len,List.length_append,List.length_cons,List.length_nil]);omega)
  try simp only [Act.put,aSt,aSz,aSs]
  refine wpL_one 27 (by kernel_rfl) rfl (fun K hK => ?_);rw [if_pos (by rfl)];go_simp;go_at_call 58;refine (quoteI HZ.out.old).mono ?_;rintro e w147 ⟨rfl,hb⟩;have HMw147:=hide (HMw146.out.step hb);have HSw147:=hide (HSw146.out.step hb);clear hb;refine hK _ _ (fun _ => HSw147.out) ?_;clear hK K;try simp only [Act.put,aSt,aSz,aSs]
  refine tk 28 152 (v:=.string (S (cc (cc (cc (cc (cc (cc (sl4 m.cl m.cn m.rq m.op) ([47])) (quoteL m.key.data.toList)) ([47])) (quoteL m.val.data.toList)) ([47])) (quoteL m.old.data.toList)))) rfl HSw147.out ?_ ?_
  ·intro V hV;exact ex_cat (.tmp 148) (.tmp 151) 9 9 rfl rfl rfl (by obtain ⟨q0,q1,q2,q3,q4,q5,q6,q7,q8⟩:=HQL.out;(try simp only [cc_len,List.length_append,List.length_cons,List.length_nil]);omega)
  try simp only [Act.put,aSt,aSz,aSs]
  refine wpL_one 29 (by kernel_rfl) rfl (fun K hK => ?_);rw [if_pos (by rfl)];go_simp;go_at_call 55;refine (HMw147.out.part (cmdB m) [99,109,100] (cc (cc (cc (cc (cc (cc (sl4 m.cl m.cn m.rq m.op) ([47])) (quoteL m.key.data.toList)) ([47])) (quoteL m.val.data.toList)) ([47])) (quoteL m.old.data.toList)) (by decide) (by obtain ⟨q0,q1,q2,q3,q4,q5,q6,q7,q8⟩:=HQL.out;(try simp only [cc_len,List.length_append,List.length_cons,List.length_nil]);omega) (by have:=HL8.out;omega)).mono ?_;rintro e w148 ⟨rfl,hmx,hkp⟩;have HM9:=hide hmx;have HSw148:=hide (⟨hmx.bx,hkp _ _ _ HSw147.out.cmd (by decide) (by decide)⟩ : CY m w _ w141.heap.size);clear hmx hkp;refine hK _ _ (fun _ => HSw148.out) ?_;clear hK K;try simp only [Act.put,aSt,aSz,aSs]
  obtain ⟨ls9,hls⟩ : ∃ ls9,ls9 = addP (cmdB m) ls8 [99,109,100] (cc (cc (cc (cc (cc (cc (sl4 m.cl m.cn m.rq m.op) ([47])) (quoteL m.key.data.toList)) ([47])) (quoteL m.val.data.toList)) ([47])) (quoteL m.old.data.toList)):=⟨_,rfl⟩;rw [← hls] at HM9;have E9:=hide hls
  have HL9 : Hid (ls9.length ≤ 13):=by
   have h1:=addP_len (cmdB m) ls8 [99,109,100] (cc (cc (cc (cc (cc (cc (sl4 m.cl m.cn m.rq m.op) ([47])) (quoteL m.key.data.toList)) ([47])) (quoteL m.val.data.toList)) ([47])) (quoteL m.old.data.toList));have h2:=HL8.out;rw [← hls] at h1;show _ ≤ _;omega
  clear hls;refine wpL_done (by kernel_rfl) ?_ _;have hx:=HM9.out.bx.box;have c22:=mb22 hx;have c23:=mb23 hx;have c24:=mb24 hx;clear hx;go_upto_region 20 with fail
  clear c22 c23 c24;refine wp_region_L [] (fun V => RY m w V w148.heap.size) (by kernel_rfl) ?_;generalize hw149 : World.drew (World.alloc w148 _) = w149
  have HMw149 : Hid (MX m w w149 pl ls9):=by
   subst hw149;exact (HM9.out.alloc _).drew
  have HSw149 : Hid (RY m w w149 w148.heap.size):=by
   subst hw149;exact ⟨((HM9.out.alloc _).drew).bx,Blk.drew (Blk.new _ _ _)⟩
  clear hw149;refine tk 0 156 (v:=?_) rfl HSw149.out ?_ ?_
  rotate_left;· intro V hV;go_simp;try with_reducible rfl
  try simp only [Act.put,aSt,aSz,aSs]
  refine tk 1 157 (v:=.agg (resCs m)) rfl HSw149.out ?_ ?_
  ·intro V hV;exact ex_load 48 (.tmp 9) rfl _ rfl _ _ Tryz.underlying48 rfl sz_res (own_res hV.res)
  try simp only [Act.put,aSt,aSz,aSs]
  refine tk 2 158 (v:=?_) rfl HSw149.out ?_ ?_
  rotate_left;· intro V hV;go_simp;try with_reducible rfl
  try simp only [Act.put,aSt,aSz,aSs]
  refine tk 3 159 (v:=.bool (resB m)) rfl HSw149.out ?_ ?_
  ·intro V hV;exact ex_neq46 m _ _ rfl rfl rfl
  try simp only [Act.put,aSt,aSz,aSs]
  refine tk 4 160 (v:=?_) rfl HSw149.out ?_ ?_
  rotate_left;· intro V hV;go_simp;try with_reducible rfl
  try simp only [Act.put,aSt,aSz,aSs]
  refine tk 5 161 (v:=?_) rfl HSw149.out ?_ ?_
  rotate_left
  ·intro V hV
   have k0:=res0_ hV.res;go_simp;try with_reducible rfl
  try simp only [Act.put,aSt,aSz,aSs]
  refine tk 8 164 (v:=?_) rfl HSw149.out ?_ ?_
  rotate_left;· intro V hV;go_simp;try with_reducible rfl
  try simp only [Act.put,aSt,aSz,aSs]
  refine tk 9 165 (v:=?_) rfl HSw149.out ?_ ?_
  rotate_left
  ·intro V hV
   have k1:=res1_ hV.res;go_simp;try with_reducible rfl
  try simp only [Act.put,aSt,aSz,aSs]
  refine tk 13 169 (v:=?_) rfl HSw149.out ?_ ?_
  rotate_left;· intro V hV;go_simp;try with_reducible rfl
  try simp only [Act.put,aSt,aSz,aSs]
  refine tk 14 170 (v:=?_) rfl HSw149.out ?_ ?_
  rotate_left
  ·intro V hV
   have k2:=res2_ hV.res;go_simp;try with_reducible rfl
  try simp only [Act.put,aSt,aSz,aSs]
  refine wpL_one 6 (by kernel_rfl) rfl (fun K hK => ?_);rw [if_pos (by rfl)];go_simp;go_at_call 54;refine (itoI (Ct.fit (HN.out m.co (by simp [Mk.ns]))) (HT.out.below HMw149.out.bx.low)).mono ?_;rintro e w150 ⟨rfl,hb⟩;have HMw150:=hide (HMw149.out.step hb);have HSw150:=hide (HSw149.out.step hb);clear hb;refine hK _ _ (fun _ => HSw150.out) ?_;clear hK K;try simp only [Act.put,aSt,aSz,aSs]
  refine tk 7 163 (v:=.string (S (cc (Lib.itoa m.co) ([47])))) rfl HSw150.out ?_ ?_
  ·intro V hV;exact ex_cat (.tmp 162) (.const (.string { data:=#[47] })) 9 9 rfl rfl rfl (by obtain ⟨q0,q1,q2,q3,q4,q5,q6,q7,q8⟩:=HQL.out;(try simp only [cc_len,List.length_append,List.length_cons,List.length_nil]);omega)
  try simp only [Act.put,aSt,aSz,aSs]
  refine wpL_one 10 (by kernel_rfl) rfl (fun K hK => ?_);rw [if_pos (by rfl)];go_simp;go_at_call 58;refine (quoteI HZ.out.rv).mono ?_;rintro e w151 ⟨rfl,hb⟩;have HMw151:=hide (HMw150.out.step hb);have HSw151:=hide (HSw150.out.step hb);clear hb;refine hK _ _ (fun _ => HSw151.out) ?_;clear hK K;try simp only [Act.put,aSt,aSz,aSs]
  refine tk 11 167 (v:=.string (S (cc (cc (Lib.itoa m.co) ([47])) (quoteL m.rv.data.toList)))) rfl HSw151.out ?_ ?_
  ·intro V hV;exact ex_cat (.tmp 163) (.tmp 166) 9 9 rfl rfl rfl (by obtain ⟨q0,q1,q2,q3,q4,q5,q6,q7,q8⟩:=HQL.out;(try simp only [cc_len,List.length_append,List.length_cons,List.length_nil]);omega)
  try simp only [Act.put,aSt,aSz,aSs]
  refine tk 12 168 (v:=.string (S (cc (cc (cc (Lib.itoa m.co) ([47])) (quoteL m.rv.data.toList)) ([47])))) rfl HSw151.out ?_ ?_
  ·intro V hV;exact ex_cat (.tmp 167) (.const (.string { data:=#[47] })) 9 9 rfl rfl rfl (by obtain ⟨q0,q1,q2,q3,q4,q5,q6,q7,q8⟩:=HQL.out;(try simp only [cc_len,List.length_append,List.length_cons,List.length_nil]);omega)
  try simp only [Act.put,aSt,aSz,aSs]
  refine wpL_one 15 (by kernel_rfl) rfl (fun K hK => ?_);rw [if_pos (by rfl)];go_simp;go_at_call 54;refine (itoI HRN.out (HT.out.below HMw151.out.bx.low)).mono ?_;rintro e w152 ⟨rfl,hb⟩;have HMw152:=hide (HMw151.out.step hb);have HSw152:=hide (HSw151.out.step hb);clear hb;refine hK _ _ (fun _ => HSw152.out) ?_;clear hK K;try simp only [Act.put,aSt,aSz,aSs]
  refine tk 16 172 (v:=.string (S (cc (cc (cc (cc (Lib.itoa m.co) ([47])) (quoteL m.rv.data.toList)) ([47])) (Lib.itoa m.rn)))) rfl HSw152.out ?_ ?_
  ·intro V hV;exact ex_cat (.tmp 168) (.tmp 171) 9 9 rfl rfl rfl (by obtain ⟨q0,q1,q2,q3,q4,q5,q6,q7,q8⟩:=HQL.out;(try simp only [cc_len,List.length_append,List.length_cons,List.length_nil]);omega)
  try simp only [Act.put,aSt,aSz,aSs]
  refine wpL_one 17 (by kernel_rfl) rfl (fun K hK => ?_);rw [if_pos (by rfl)];go_simp;go_at_call 55;refine (HMw152.out.part (resB m) [114,101,115,117,108,116] (cc (cc (cc (cc (Lib.itoa m.co) ([47])) (quoteL m.rv.data.toList)) ([47])) (Lib.itoa m.rn)) (by decide) (by obtain ⟨q0,q1,q2,q3,q4,q5,q6,q7,q8⟩:=HQL.out;(try simp only [cc_len,List.length_append,List.length_cons,List.length_nil]);omega) (by have:=HL9.out;omega)).mono ?_;rintro e w153 ⟨rfl,hmx,hkp⟩;have HM10:=hide hmx;have HSw153:=hide (⟨hmx.bx,hkp _ _ _ HSw152.out.res (by decide) (by decide)⟩ : RY m w _ w148.heap.size);clear hmx hkp;refine hK _ _ (fun _ => HSw153.out) ?_;clear hK K;try simp only [Act.put,aSt,aSz,aSs]
  obtain ⟨ls10,hls⟩ : ∃ ls10,ls10 = addP (resB m) ls9 [114,101,115,117,108,116] (cc (cc (cc (cc (Lib.itoa m.co) ([47])) (quoteL m.rv.data.toList)) ([47])) (Lib.itoa m.rn)):=⟨_,rfl⟩;rw [← hls] at HM10;have E10:=hide hls
  have HL10 : Hid (ls10.length ≤ 14):=by
   have h1:=addP_len (resB m) ls9 [114,101,115,117,108,116] (cc (cc (cc (cc (Lib.itoa m.co) ([47])) (quoteL m.rv.data.toList)) ([47])) (Lib.itoa m.rn));have h2:=HL9.out;rw [← hls] at h1;show _ ≤ _;omega
  clear hls;refine wpL_done (by kernel_rfl) ?_ _;go_upto_region 21 with fail
  refine wp_region_L [] (BX m w) (by kernel_rfl) ?_;obtain ⟨w154,hw154⟩ : ∃ wn,wn = World.drew w153:=⟨_,rfl⟩;rw [← hw154];have HMw154:=hide HM10.out.drew;rw [← hw154] at HMw154;have HSw154:=hide HMw154.out.bx;clear hw154;refine tk 0 174 (v:=?_) rfl HSw154.out ?_ ?_
  rotate_left;· intro V hV;go_simp;try with_reducible rfl
  try simp only [Act.put,aSt,aSz,aSs]
  refine tk 1 175 (v:=?_) rfl HSw154.out ?_ ?_
  rotate_left;· intro V hV;go_simp;try with_reducible rfl
  try simp only [Act.put,aSt,aSz,aSs]
  refine tk 2 176 (v:=?_) rfl HSw154.out ?_ ?_
  rotate_left
  ·intro V hV
   have k25:=mb25 hV.box;go_simp;try with_reducible rfl
  try simp only [Act.put,aSt,aSz,aSs]
  refine tk 3 177 (v:=.bool (m.er != 0)) rfl HSw154.out ?_ ?_
  ·intro V hV;exact ex_neqE _ _ rfl rfl rfl
  try simp only [Act.put,aSt,aSz,aSs]
  refine tk 4 178 (v:=?_) rfl HSw154.out ?_ ?_
  rotate_left;· intro V hV;go_simp;try with_reducible rfl
  try simp only [Act.put,aSt,aSz,aSs]
  refine tk 5 179 (v:=?_) rfl HSw154.out ?_ ?_
  rotate_left
  ·intro V hV
   have k25:=mb25 hV.box;go_simp;try with_reducible rfl
  try simp only [Act.put,aSt,aSz,aSs]
  refine wpL_one 6 (by kernel_rfl) rfl (fun K hK => ?_);rw [if_pos (by rfl)];go_simp;go_at_call 54;refine (itoI (Ct.fit HER.out) (HT.out.below HMw154.out.bx.low)).mono ?_;rintro e w155 ⟨rfl,hb⟩;have HMw155:=hide (HMw154.out.step hb);have HSw155:=hide (HSw154.out.step hb);clear hb;refine hK _ _ (fun _ => HSw155.out) ?_;clear hK K;try simp only [Act.put,aSt,aSz,aSs]
  refine wpL_one 7 (by kernel_rfl) rfl (fun K hK => ?_);rw [if_pos (by rfl)];go_simp;go_at_call 55;refine (HMw155.out.part (m.er != 0) [101,114,114] (Lib.itoa m.er) (by decide) (by have:=itoa_len m.er (Ct.fit HER.out).1 (Ct.fit HER.out).2;omega) (by have:=HL10.out;omega)).mono ?_;rintro e w156 ⟨rfl,hmx,hkp⟩;have HM11:=hide hmx;have HSw156:=hide hmx.bx;clear hmx hkp;refine hK _ _ (fun _ => HSw156.out) ?_;clear hK K;try simp only [Act.put,aSt,aSz,aSs]
  obtain ⟨ls11,hls⟩ : ∃ ls11,ls11 = addP (m.er != 0) ls10 [101,114,114] (Lib.itoa m.er):=⟨_,rfl⟩;rw [← hls] at HM11;have E11:=hide hls
  have HL11 : Hid (ls11.length ≤ 15):=by
   have h1:=addP_len (m.er != 0) ls10 [101,114,114] (Lib.itoa m.er);have h2:=HL10.out;rw [← hls] at h1;show _ ≤ _;omega
  clear hls;refine wpL_done (by kernel_rfl) ?_ _
  have HEQ : Hid (Lib.join ls11 [32] = lineL m):=by
   have hbb : decide (0 < m.nb) = bodyB m:=by
    unfold bodyB;rw [decide_eq_decide];have:=HZ.out.bd
    constructor
    ·intro h e
     rw [e] at this;simp at this;omega
    ·intro h
     have:=List.length_pos_iff.2 h;omega
   rw [E11.out,E10.out,E9.out,E8.out,E7.out,E6.out,E5.out,E4.out,E3.out,E2.out,E1.out,E0.out,hbb,HKD.out,← parts_line]
   rfl
  have hlen:=HLEN.out;obtain ⟨A,c,hblk,hown⟩:=HM11.out.pl.ex;have kc : w156.cell? ⟨pl,0,none⟩ = some (.slice A ls11.length c):=hblk.cell 0
  have HJ : Hid (Calls Tryz.prog 57 #[.slice A ls11.length c,.string { data:=#[32] }] w156 fun e w' => e = .returned (.string (S (Lib.join ls11 [32]))) ∧ Below w156.heap.size w156 w') :=
   join_own hown (by have:=HL11.out;omega) (by rw [HEQ.out];omega)
  clear hblk hown hlen;go_wp2_with (go_at_call 57;refine HJ.out.mono ?_;rintro e wz ⟨rfl,hbz⟩;have HMz:=hide (HM11.out.step hbz);clear hbz);go_ret;refine ⟨?_,HMz.out.bx.low⟩;rw [HEQ.out]
  rfl
end Go.Proofs.YtcibcmfaebbhnaaGreatDoor.Tr
