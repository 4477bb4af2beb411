/-
  The law ScriptPlace, walked.
-/
import Derived.Test.YtcibcmfaebbhnaaGreatDoorPPlq
import Derived.Test.YtcibcmfaebbhnaaGreatDoorPTMof
import Derived.Test.YtcibcmfaebbhnaaGreatDoorPTRpt
import Derived.Test.YtcibcmfaebbhnaaGreatDoorPTGbm
import Derived.Test.YtcibcmfaebbhnaaGreatDoorPLnk
import Derived.Test.YtcibcmfaebbhnaaGreatDoorPPpr
import Derived.Test.YtcibcmfaebbhnaaGreatDoorPRpr
import Derived.Test.YtcibcmfaebbhnaaGreatDoorPWords
set_option linter.unusedSimpArgs false
set_option linter.unusedVariables false
set_option maxRecDepth 100000
set_option maxHeartbeats 4000000

namespace Go.Proofs.YtcibcmfaebbhnaaGreatDoor
open Go.RowKit Go.WideShapes Go.ChangeShapes Q Tr
def prCs (s t : Sm) (vl vm : Value) : Array Value:=s.cs ++ t.cs ++ #[vl,vm]
theorem pr_at0 (s t : Sm) (vl vm : Value) {j : Nat} {v : Value} (h : s.cs[j]? = some v) : (prCs s t vl vm)[j]? = some v:=by
 have hj:=(Array.getElem?_eq_some_iff.1 h).1;unfold prCs;rw [Array.append_assoc,Array.getElem?_append_left hj,h]
theorem pr_at9 (s t : Sm) (vl vm : Value) {j : Nat} {v : Value} (h : t.cs[j]? = some v) : (prCs s t vl vm)[9 + j]? = some v:=by
 have hj:=(Array.getElem?_eq_some_iff.1 h).1;have h9 : s.cs.size = 9:=sm_size s;unfold prCs;rw [Array.append_assoc,Array.getElem?_append_right (by omega),h9,Nat.add_sub_cancel_left,Array.getElem?_append_left hj,h]
theorem pr_box0 {W : World} {g : Nat} {s t : Sm} {vl vm : Value} (h : Blk W g 70 (prCs s t vl vm)) : ∀ j v,s.cs[j]? = some v → W.cell? ((⟨g,0,none⟩ : Addr).add j) = some v:=fun j v hv => box_all h j v (pr_at0 s t vl vm hv)
theorem pr_box9 {W : World} {g : Nat} {s t : Sm} {vl vm : Value} (h : Blk W g 70 (prCs s t vl vm)) : ∀ j v,t.cs[j]? = some v → W.cell? ((⟨g,9,none⟩ : Addr).add j) = some v:=fun j v hv => by
 have h1:=box_all h (9 + j) v (pr_at9 s t vl vm hv)
 have e : (⟨g,0,none⟩ : Addr).add (9 + j) = (⟨g,9,none⟩ : Addr).add j:=by
  unfold Addr.add
  split <;> split <;> simp_all <;> omega
 rw [← e];exact h1
theorem place_law (s t : Sm) (Al : Option Addr) (ln lc : Nat) (l : List Mk) (Ar : Option Addr) (rn rc : Nat) (r : List Mk) (w : World) (hs : SmIn w w.heap.size s) (ht : SmIn w w.heap.size t) (hsv : s.c.votes.length ≤ 1048576) (htv : t.c.votes.length ≤ 1048576) (hsn : s.ms.length ≤ 1048576) (htn : t.ms.length ≤ 1048576) (hsm : ∀ m ∈ s.ms,EvOk m) (htm : ∀ m ∈ t.ms,EvOk m) (hl : MsIn w w.heap.size Al ln l) (hr : MsIn w w.heap.size Ar rn r) (hlz : ∀ m ∈ l,MkZ m) (hrz : ∀ m ∈ r,MkZ m) (hcs : s.ms.length ≤ s.ke) (hcl : ln ≤ lc) (hln : ln ≤ 1048576) (hrn : rn ≤ 1048576) (hT : OpT w) (hTb : Tab w) (hK : KT w) :
  Calls Tryz.prog 4 #[.agg (prCs s t (.slice Al ln lc) (.slice Ar rn rc))] w fun e w' => e = .returned (.bool true) ∧ Below w.heap.size w w':=by
 have HS:=hide hs;have HT:=hide ht;have HSM:=hide hsm;have HTM:=hide htm;have HL:=hide hl;have HR:=hide hr;have HLZ:=hide hlz;have HRZ:=hide hrz;have HCS:=hide hcs;obtain ⟨i69,hi69,hz69,hs69,hb69⟩:=info_parts info69;have I69:=hide hi69;have Z69:=hide hz69;clear hi69 hz69;have HCL:=hide hcl;have HOT:=hide hT;have HTB:=hide hTb;have HKT:=hide hK;have h0w : 1 < w.heap.size:=hT.lt;obtain ⟨C0,hC0⟩ : ∃ C0,C0 = prCs s t (.slice Al ln lc) (.slice Ar rn rc):=⟨_,rfl⟩;rw [← hC0];have HC0:=hide hC0;clear hC0 hs ht hsm htm hl hr hlz hrz hT hTb hK hcs hcl;go_enter Tryz.func4,Tryz.ntmps4;go_upto_region 1 with fail
 obtain ⟨b,hb⟩ : ∃ b,b = w.heap.size:=⟨_,rfl⟩;generalize hW0 : World.alloc w _ = W0
 have HP0 : Hid (Blk W0 b 70 (prCs s t (.slice Al ln lc) (.slice Ar rn rc))):=by
  show Blk _ _ _ _;rw [← hW0,HC0.out,hb];exact Blk.new _ _ _
 have HB0 : Hid (Below b w W0):=by
  show Below _ _ _;rw [← hW0,hb];exact (Below.refl _ _).alloc (Nat.le_refl _) _
 have HB1 : Hid (W0.heap.size = b + 1):=by show _ = _;rw [← hW0,hb];simp
 have HBW:=hide hb;rw [← hb];clear hW0 hb;refine wp_region_lit ?_;refine wpList_value rfl (.pointer (some ⟨b,0,none⟩)) (by go_simp) ?_;try simp only [Act.put,aSt,aSz,aSs]
 refine wpList_value rfl (.agg s.cs) (ex_load 27 (.tmp 30) rfl _ rfl _ _ Tryz.underlying27 rfl (ld47 _ (sm_size s)) (pr_box0 HP0.out)) ?_;try simp only [Act.put,aSt,aSz,aSs]
 refine wpList_step (fun K hK => ?_);rw [if_pos (by rfl)];go_simp;refine hK _ _ ?_;clear hK K;refine wpList_store_fresh rfl 27 (.tmp 3) (.tmp 31) rfl _ s.cs rfl rfl (ld47 _ (sm_size s)) rfl (sm_all _) ?_;try simp only [Act.put,aSt,aSz,aSs]
 obtain ⟨p3,hp3⟩ : ∃ p3,p3 = W0.heap.size:=⟨_,rfl⟩;obtain ⟨W1,hW1⟩ : ∃ W1,W1 = W0.alloc (.cells s.cs 27):=⟨_,rfl⟩;have HX1 : Hid (Blk W1 p3 27 s.cs):=by show Blk _ _ _ _;rw [hW1,hp3];exact Blk.new _ _ _
 have hal1 : Below W0.heap.size W0 W1:=by rw [hW1];exact (Below.refl _ _).alloc (Nat.le_refl _) _
 have HP1:=hide (HP0.out.below hal1 HP0.out.lt);have HBL1:=hide (HB0.out.trans (hal1.mono (by have:=HB1.out;omega)));have HP3 : Hid (b < p3):=by show _ < _;rw [hp3,HB1.out];omega
 have HS1 : Hid (W1.heap.size = p3 + 1):=by show _ = _;rw [hW1,hp3];simp
 rw [← hW1];try rw [← hp3]
 clear hW1 hp3 hal1 HP0 HB0 HB1;go_upto_region 2 with fail
 refine wp_region_lit ?_;refine wpList_value rfl (.pointer (some ⟨b,9,none⟩)) (by go_simp) ?_;try simp only [Act.put,aSt,aSz,aSs]
 refine wpList_value rfl (.agg t.cs) (ex_load 27 (.tmp 32) rfl _ rfl _ _ Tryz.underlying27 rfl (ld47 _ (sm_size t)) (pr_box9 HP1.out)) ?_;try simp only [Act.put,aSt,aSz,aSs]
 refine wpList_step (fun K hK => ?_);rw [if_pos (by rfl)];go_simp;refine hK _ _ ?_;clear hK K;refine wpList_store_fresh rfl 27 (.tmp 4) (.tmp 33) rfl _ t.cs rfl rfl (ld47 _ (sm_size t)) rfl (sm_all _) ?_;try simp only [Act.put,aSt,aSz,aSs]
 obtain ⟨p4,hp4⟩ : ∃ p4,p4 = W1.heap.size:=⟨_,rfl⟩;obtain ⟨W2,hW2⟩ : ∃ W2,W2 = W1.alloc (.cells t.cs 27):=⟨_,rfl⟩;have HY2 : Hid (Blk W2 p4 27 t.cs):=by show Blk _ _ _ _;rw [hW2,hp4];exact Blk.new _ _ _
 have hal2 : Below W1.heap.size W1 W2:=by rw [hW2];exact (Below.refl _ _).alloc (Nat.le_refl _) _
 have HP2:=hide (HP1.out.below hal2 HP1.out.lt);have HX2:=hide (HX1.out.below hal2 HX1.out.lt);have HBL2:=hide (HBL1.out.trans (hal2.mono (by have h1:=HS1.out;have h2:=HP3.out;omega)));have HP4 : Hid (p4 = p3 + 1):=by show _ = _;rw [hp4,HS1.out]
 rw [← hW2];try rw [← hp4]
 clear hW2 hp4 hal2 HP1 HX1 HBL1 HS1;obtain ⟨sn,hsn_⟩ : ∃ sn,sn = s.ms.length:=⟨_,rfl⟩;obtain ⟨tn,htn_⟩ : ∃ tn,tn = t.ms.length:=⟨_,rfl⟩;have HSN:=hide hsn_;have HTN:=hide htn_;have k18 : W2.cell? ⟨b,18,none⟩ = some (.slice Al ln lc):=HP2.out.cell 18;have k19 : W2.cell? ⟨b,19,none⟩ = some (.slice Ar rn rc):=HP2.out.cell 19;have k38 : W2.cell? ⟨p3,8,none⟩ = some (.slice s.Ae sn s.ke):=by rw [hsn_];exact HX2.out.cell 8
 have k48 : W2.cell? ⟨p4,8,none⟩ = some (.slice t.Ae tn t.ke):=by rw [htn_];exact HY2.out.cell 8
 clear hsn_ htn_;go_upto_if 45 with fail
 go_cut [7,45] from 256 (fun n _ wx => (∃ k : Nat,n = .int .i64 k ∧ k ≤ sn ∧ k ≤ tn) ∧ wx = W2)
 case first =>
  by_cases hlt : tn < sn
  ·have hz : (tn : Int) < (sn : Int):=by omega
   go_wp2_with fail;go_meet
   case rel => exact ⟨⟨tn,rfl,by omega,Nat.le_refl _⟩,rfl⟩
  ·have hz : ¬ (tn : Int) < (sn : Int):=by omega
   go_wp2_with fail;go_meet
   case rel => exact ⟨⟨sn,rfl,Nat.le_refl _,by omega⟩,rfl⟩
 case rest =>
  obtain ⟨⟨n,rfl,hn1,hn2⟩,hw⟩:=hcut;obtain rfl:=hw.symm;clear hw;go_upto_if 54 with fail
  go_cut [8,54] from 256 (fun n _ wx => (∃ k : Nat,n = .int .i64 k ∧ k ≤ ln ∧ k ≤ rn) ∧ wx = W2)
  case first =>
   by_cases hlt : rn < ln
   ·have hz : (rn : Int) < (ln : Int):=by omega
    go_wp2_with fail;go_meet
    case rel => exact ⟨⟨rn,rfl,by omega,Nat.le_refl _⟩,rfl⟩
   ·have hz : ¬ (rn : Int) < (ln : Int):=by omega
    go_wp2_with fail;go_meet
    case rel => exact ⟨⟨ln,rfl,Nat.le_refl _,by omega⟩,rfl⟩
  case rest =>
   obtain ⟨⟨k,rfl,hk1,hk2⟩,hw⟩:=hcut;obtain rfl:=hw.symm;clear hw;go_upto_region 11 with fail
   clear k18 k19 k38 k48;obtain ⟨sF,hsF⟩ : ∃ sF,sF = s.front n:=⟨_,rfl⟩;have HFR : Hid (sF = s.front n):=hsF
   have HSF : Hid (∀ V : World,Below w.heap.size w V → SmIn V V.heap.size sF):=fun V hV => by
    rw [hsF];exact ((HS.out.front (by have:=HSN.out;omega)).below hV).up hV.size
   have HFL : Hid (sF.ms.length = n ∧ sF.c.votes.length ≤ 1048576 ∧ ∀ m ∈ sF.ms,EvOk m):=by
    show _ ∧ _ ∧ _;rw [hsF];exact ⟨by show (s.ms.take n).length = n;rw [List.length_take];have:=HSN.out;omega,hsv,fun m hm => HSM.out m (List.mem_of_mem_take hm)⟩
   have HSO : Hid (∀ V : World,Below w.heap.size w V → Calls Tryz.prog 22 #[.agg sF.cs] V fun e w' => ScoO sF V e w'):=fun V hV =>
    scriptOf_row sF V (HSF.out V hV) (by have:=HFL.out.2.1;omega) (by have:=HFL.out.1;have:=HSN.out;omega) (fun m hm => by have:=(HFL.out.2.2 m hm).bulk;omega)
   clear hsF
   have HBL : Hid (Below w.heap.size w W2):=by
    show Below _ _ _;rw [← HBW.out];exact HBL2.out
   go_cut [9] from 256 (fun v wx => PlA W2 sF v wx)
   case first =>
    have HS0 : Hid (Blk W2.drew p3 27 s.cs):=HX2.out
    have HG : Hid (∀ V : World,Blk V p3 27 s.cs → V.cell? ⟨p3,8,none⟩ = some (.slice s.Ae sn s.ke)):=fun V hV => by
     rw [HSN.out];exact hV.cell 8
    refine wp_region_L [] (fun V : World => Blk V p3 27 s.cs) (by kernel_rfl) ?_;obtain ⟨wd,hwd⟩ : ∃ wd,wd = W2.drew:=⟨_,rfl⟩;rw [← hwd];rw [← hwd] at HS0
    have HBD : Hid (Below W2.heap.size W2 wd):=by
     show Below _ _ _;rw [hwd];exact (Below.refl _ _).drew
    have hsd : W2.heap.size ≤ wd.heap.size:=HBD.out.size;have HLD : Hid (Below w.heap.size w wd):=HBL.out.trans (HBD.out.mono HBL.out.size);clear hwd;refine tk 0 57 (v:=?_) rfl HS0.out ?_ ?_
    rotate_left;· intro V hV;go_simp;try with_reducible rfl
    try simp only [Act.put,aSt,aSz,aSs]
    refine tk 1 58 (v:=.agg (cfC s.c s.A s.k)) rfl HS0.out ?_ ?_
    ·intro V hV;exact ex_load 24 (.tmp 57) rfl _ rfl _ _ Tryz.underlying24 rfl (ld44 _ rfl) (sm_pre hV)
    try simp only [Act.put,aSt,aSz,aSs]
    refine tk 2 59 (v:=?_) rfl HS0.out ?_ ?_
    rotate_left;· intro V hV;go_simp;try with_reducible rfl
    try simp only [Act.put,aSt,aSz,aSs]
    refine tk 3 60 (v:=?_) rfl HS0.out ?_ ?_
    rotate_left
    ·intro V hV
     have a1:=HG.out V hV;go_simp;try with_reducible rfl
    try simp only [Act.put,aSt,aSz,aSs]
    refine tk 4 61 (v:=?_) rfl HS0.out ?_ ?_
    rotate_left;· intro V hV;go_simp;try with_reducible rfl
    try simp only [Act.put,aSt,aSz,aSs]
    refine tk 5 62 (v:=.slice s.Ae n s.ke) rfl HS0.out ?_ ?_
    ·intro V hV;exact ex_front 25 (e:=33) (by kernel_rfl) Tryz.underlying25 (size29 V) (.tmp 60) (.tmp 61) rfl s.Ae sn s.ke n rfl rfl (by have:=HSN.out;have:=HCS.out;omega)
    try simp only [Act.put,aSt,aSz,aSs]
    refine tk 6 63 (v:=.agg sF.cs) rfl HS0.out ?_ ?_
    ·intro V hV
     rw [HFR.out];exact ex_build47b (.tmp 58) (.tmp 62) rfl s.c s.A s.k s.Ae s.ke (s.ms.take n) rfl (by rw [show (s.ms.take n).length = n by rw [List.length_take];have:=HSN.out;omega];rfl)
    try simp only [Act.put,aSt,aSz,aSs]
    refine wpL_two 7 8 (by kernel_rfl) rfl rfl (fun K hK => ?_) (fun K hK => ?_)
    ·skip
     rw [if_pos (by rfl)];go_simp;go_at_call 22;refine (HSO.out _ HLD.out).mono ?_;rintro e w5 ⟨sm,rfl,hsc,hso,hbd,hb5⟩

     have HS5:=hide (HS0.out.below hb5 HS0.out.lt);have HB5:=hide (HBD.out.trans (hb5.mono hsd));have HU5:=hide (SmO.base hso hsd);have HC5:=hide hsc;have hsw5 : W2.heap.size ≤ w5.heap.size:=HB5.out.size;refine hK _ _ (fun _ => HS5.out) ?_;clear hK K hso hb5 hsc hbd;try simp only [Act.put,aSt,aSz,aSs]
     refine wpL_one 8 (by kernel_rfl) rfl (fun K hK => ?_)

     rw [if_pos (by rfl)];go_simp;have hal:=((Below.refl w5.heap.size w5).alloc (Nat.le_refl _) (.cells Sm.zero.cs 27));have HZ6 : Hid (Blk (w5.alloc (.cells Sm.zero.cs 27)) w5.heap.size 27 Sm.zero.cs):=Blk.new _ _ _

     have HU6:=hide (HU5.out.step hal);have HB6:=hide (HB5.out.trans (hal.mono hsw5));have HS6:=hide (HS5.out.below hal HS5.out.lt);refine hK _ _ (fun _ => HS6.out) ?_;clear hK K hal;try simp only [Act.put,aSt,aSz,aSs]
     obtain ⟨pin,hpin⟩ : ∃ pin,pin = w5.heap.size:=⟨_,rfl⟩;obtain ⟨W6,hW6⟩ : ∃ W6,W6 = w5.alloc (.cells Sm.zero.cs 27):=⟨_,rfl⟩;rw [← hW6,← hpin] at HZ6;rw [← hW6] at HU6 HB6 HS6;show wpL _ _ _ _ _ _ _ _ _ (w5.alloc (.cells Sm.zero.cs 27));rw [← hW6];try rw [← hpin]
     have hip : W2.heap.size ≤ pin:=by omega
     clear hW6 hpin;have hne : p3 ≠ pin:=by have:=HX2.out.lt;omega
     have hW:=only_setRow W6 pin sm.cs;have HS7 : Hid (Blk (W6.setRow pin sm.cs) p3 27 s.cs):=HS6.out.only hW hne;have HU7:=hide (HU6.out.far HZ6.out (by decide) (by decide) (by decide) hW);have HB7:=hide (HB6.out.trans (hW.below HB6.out.size (fun k hk e => by have e2 : k = pin:=e;omega)));have HZ7:=hide (HZ6.out.row sm.cs);clear hW hne;refine wpL_one 9 (by kernel_rfl) rfl (fun K hK => ?_);refine one_skip (by rfl) (run_put_at 27 (.tmp 9) (.tmp 64) rfl pin 0 sm.cs rfl rfl 27 Sm.zero.cs HZ6.out (ld47 _ (sm_size _)) (Nat.le_refl 9) (sm_all sm) _ (sput _ _ rfl rfl)) (hK _ _ (fun _ => HS7.out) ?_);clear hK K;try simp only [Act.put,aSt,aSz,aSs]
     refine wpL_done (by kernel_rfl) ?_ _;go_wp2_with fail;go_meet
     case rel => exact ⟨pin,sm,rfl,hip,HZ7.out,HU7.out,HC5.out,HB7.out⟩
    ·skip
     rw [if_pos (by rfl)];go_simp;have hal:=((Below.refl wd.heap.size wd).alloc (Nat.le_refl _) (.cells Sm.zero.cs 27));have HZ6 : Hid (Blk (wd.alloc (.cells Sm.zero.cs 27)) wd.heap.size 27 Sm.zero.cs):=Blk.new _ _ _

     have HB6a:=hide (HBD.out.trans (hal.mono hsd));have HS6a:=hide (HS0.out.below hal HS0.out.lt);have HL6a:=hide (HLD.out.trans (hal.mono HLD.out.size));refine hK _ _ (fun _ => HS6a.out) ?_;clear hK K hal;try simp only [Act.put,aSt,aSz,aSs]
     obtain ⟨pin,hpin⟩ : ∃ pin,pin = wd.heap.size:=⟨_,rfl⟩;obtain ⟨W5,hW5⟩ : ∃ W5,W5 = wd.alloc (.cells Sm.zero.cs 27):=⟨_,rfl⟩;rw [← hW5,← hpin] at HZ6;rw [← hW5] at HB6a HS6a HL6a;show wpL _ _ _ _ _ _ _ _ _ (wd.alloc (.cells Sm.zero.cs 27));rw [← hW5];try rw [← hpin]
     have hip : W2.heap.size ≤ pin:=by omega
     clear hW5 hpin;refine wpL_one 7 (by kernel_rfl) rfl (fun K hK => ?_)

     rw [if_pos (by rfl)];go_simp;go_at_call 22;refine (HSO.out _ HL6a.out).mono ?_;rintro e W6 ⟨sm,rfl,hsc,hso,hbd,hb5⟩

     have HS6:=hide (HS6a.out.below hb5 HS6a.out.lt);have HB6:=hide (HB6a.out.trans (hb5.mono HB6a.out.size));have HU6:=hide (SmO.base hso HB6a.out.size);have HC5:=hide hsc;have HZ6:=hide (HZ6.out.below hb5 HZ6.out.lt);refine hK _ _ (fun _ => HS6.out) ?_;clear hK K hso hb5 hsc hbd;try simp only [Act.put,aSt,aSz,aSs]

     have hne : p3 ≠ pin:=by have:=HX2.out.lt;omega
     have hW:=only_setRow W6 pin sm.cs;have HS7 : Hid (Blk (W6.setRow pin sm.cs) p3 27 s.cs):=HS6.out.only hW hne;have HU7:=hide (HU6.out.far HZ6.out (by decide) (by decide) (by decide) hW);have HB7:=hide (HB6.out.trans (hW.below HB6.out.size (fun k hk e => by have e2 : k = pin:=e;omega)));have HZ7:=hide (HZ6.out.row sm.cs);clear hW hne;refine wpL_one 9 (by kernel_rfl) rfl (fun K hK => ?_);refine one_skip (by rfl) (run_put_at 27 (.tmp 9) (.tmp 64) rfl pin 0 sm.cs rfl rfl 27 Sm.zero.cs HZ6.out (ld47 _ (sm_size _)) (Nat.le_refl 9) (sm_all sm) _ (sput _ _ rfl rfl)) (hK _ _ (fun _ => HS7.out) ?_);clear hK K;try simp only [Act.put,aSt,aSz,aSs]
     refine wpL_done (by kernel_rfl) ?_ _;go_wp2_with fail;go_meet
     case rel => exact ⟨pin,sm,rfl,hip,HZ7.out,HU7.out,HC5.out,HB7.out⟩
   case rest =>
    unfold PlA at hcut;obtain ⟨pin,sm0,rfl,hpin,hbx,hso,hsc,hbl⟩:=hcut;obtain ⟨W3,hW3⟩ : ∃ W3,W3 = wc:=⟨_,rfl⟩;rw [← hW3] at hbx hso hbl ⊢;clear hW3;have HBX3:=hide hbx;have HSO3:=hide hso;have HSC3:=hide hsc;have HBL3:=hide (HBL.out.trans (hbl.mono HBL.out.size))
    have HPQ3 : Hid (PQ b p3 p4 C0 s t w W3):=by
     refine PQ.step ⟨?_,HX2.out,HY2.out,HBL2.out⟩ hbl;rw [HC0.out];exact HP2.out
    have HPI : Hid (W2.heap.size ≤ pin):=hpin;have hb2 : b ≤ W2.heap.size:=by have:=HP2.out.lt;omega
    have hb3 : W2.heap.size ≤ W3.heap.size:=hbl.size;have HP3 : Hid (p3 < W2.heap.size ∧ p4 < W2.heap.size ∧ b < W2.heap.size):=⟨HX2.out.lt,HY2.out.lt,HP2.out.lt⟩;have HOT3:=hide (HOT.out.below HBL3.out h0w);clear hbx hso hsc hbl hpin HX2 HY2 HP2 HBL2 HSO HSF;go_upto_region 12 with fail
    have HMI : Hid (MsIn W3 W3.heap.size Al k (l.take k)):=by
     have h1:=MsIn.front HL.out hk1;exact (h1.below HBL3.out).more HBL3.out.size
    refine wp_region_lit ?_;refine wpList_value rfl (.slice Al ln lc) (by go_simp) ?_;try simp only [Act.put,aSt,aSz,aSs]
    refine wpList_value rfl (.int .i64 (k : Int)) (by go_simp) ?_;try simp only [Act.put,aSt,aSz,aSs]
    refine wpList_value rfl (.slice Al k lc) (ex_front 28 (e:=51) (by kernel_rfl) Tryz.underlying28 (size48 W3) (.tmp 65) (.tmp 66) rfl Al ln lc k rfl rfl (by have:=HCL.out;omega)) ?_;try simp only [Act.put,aSt,aSz,aSs]
    refine wpList_step (fun K hK => ?_);rw [if_pos (by rfl)];go_simp;go_at_call 23;refine (marksOf_row Al k lc (l.take k) W3 HMI.out (by omega)).mono ?_;rintro e W4 ⟨Am,cm,ls0,rfl,hsame,hown,hent,hdi,hb4⟩
    have hlk : ls0.length = k:=by
     have:=hown.1;rw [mkCells_len] at this;omega
    have HPS4 : Hid (PS W2.heap.size pin sm0 ls0 Am cm false none none W4):=by
     rw [← hlk] at hown;exact PS.made HSO3.out HBX3.out hown hent hdi (Nat.le_refl _) hb3 hb4
    have HPQ4:=hide (HPQ3.out.step hb4);have HMZ : Hid (∀ m ∈ ls0,MkZ m):=SameC.sz hsame (fun m hm => HLZ.out m (List.mem_of_mem_take hm));have HML : Hid (ls0.length = k):=hlk;refine hK _ _ ?_;clear hK K hsame hown hent hdi hlk HMI HPQ3 HBX3;try simp only [Act.put,aSt,aSz,aSs]
    have HEV : Hid (∀ m ∈ sm0.ms,EvOk m):=copy_ok HSC3.out HFL.out.2.2 (fun m hm => by
     have h1 : SmIn W3 W3.heap.size sF:=by
      rw [HFR.out];exact ((HS.out.front (by have:=HSN.out;omega)).below HBL3.out).up HBL3.out.size
     exact h1.ent m hm) (fun m hm => (HSO3.out.ent m hm).inn)
    have HVN : Hid (sm0.c.votes.length ≤ 1048576 ∧ sm0.ms.length = n):=by
     have h1:=copy_votes HSC3.out;have h2:=HFL.out;exact ⟨by rw [h1.1];exact h2.2.1,by rw [h1.2];exact h2.1⟩
    clear HSC3 HFL HFR hb4 HSO3;obtain ⟨c0,A0,k0,Ae,ke,ms0⟩:=sm0;have HL1 : Hid (PL1 b W2.heap.size p3 p4 pin C0 s t w n k Ae ke Am cm (.int .i64 0) W4):=⟨0,⟨c0,A0,k0,Ae,ke,ms0⟩,ls0,by omega,rfl,rfl,rfl,HPS4.out,HPQ4.out,HVN.out.2,HML.out,HVN.out.1,HEV.out,HMZ.out⟩;obtain ⟨B,hB⟩ : ∃ B,B = W2.heap.size:=⟨_,rfl⟩;rw [← hB] at HL1 hb2 HPI HP3;clear HPS4 HPQ4 HVN HML HEV HMZ hB hb3 HBL3 HBL;have HFs : Hid (FromS w b n s):=⟨by rw [HBW.out];exact HS.out,hsv,by have:=HSN.out;omega,by have:=HSN.out;omega,HSM.out⟩;have HFt : Hid (FromS w b n t):=⟨by rw [HBW.out];exact HT.out,htv,by have:=HTN.out;omega,by have:=HTN.out;omega,HTM.out⟩;have hnB : n ≤ 1048576:=by have:=HSN.out;omega
    have hkB : k ≤ 1048576:=by omega
    have HKBD : Hid (k ≤ 1048576):=hkB;have HGl : Hid (FromL w b k Al ln l):=⟨by rw [HBW.out];exact HL.out,hk1,HLZ.out⟩;have HGr : Hid (FromL w b k Ar rn r):=⟨by rw [HBW.out];exact HR.out,hk2,HRZ.out⟩;clear HS HT HL HR HSM HTM HLZ HRZ hk1 hk2 hn1 hn2 hsv htv hsn htn;go_upto_region 14 with fail
    go_loopw [11] (fun i wr => PL1 b B p3 p4 pin C0 s t w n k Ae ke Am cm i wr) (fun i _ => 3 - (intOf i).toNat)
    case atStart => exact HL1.out
    case round =>
     clear HL1;unfold PL1 at hrel;obtain ⟨j,sm,ls,hj,rfl,hA,hK_,hps,hpq,hmn,hlk,hvn,hev,hmz⟩:=hrel;obtain ⟨wj,hwj⟩ : ∃ wj,wj = wr:=⟨_,rfl⟩;rw [← hwj] at hps hpq ⊢;clear hwj;obtain ⟨c0,A0,k0,Ae',ke',ms⟩:=sm;obtain rfl : Ae = Ae':=hA.symm;obtain rfl : ke = ke':=hK_.symm;have HPS:=hide hps;have HPQ:=hide hpq;have HMN : Hid (ms.length = n):=hmn;have HLK:=hide hlk;have HVN : Hid (c0.votes.length ≤ 1048576):=hvn;have HEV : Hid (∀ m ∈ ms,EvOk m):=hev;have HMZ:=hide hmz;clear hA hK_ hps hpq hmn hlk hvn hev hmz;have j0 : (0 : Int) ≤ (j : Int):=by omega
     by_cases hlt : j < 3
     ·skip
      have js : (j : Int) < 3:=by omega
      go_upto_region 16 with fail
      clear js;refine wp_region_lit ?_;refine wpList_value rfl (.agg s.cs) (ex_load 27 (.tmp 3) rfl _ rfl _ _ Tryz.underlying27 rfl (ld47 _ (sm_size s)) (box_all HPQ.out.bs)) ?_;try simp only [Act.put,aSt,aSz,aSs]
      refine wpList_step (fun K hK => ?_);rw [if_pos (by rfl)];go_simp;refine hK _ _ ?_;clear hK K;refine wpList_store_fresh rfl 27 (.tmp 12) (.tmp 73) rfl _ s.cs rfl rfl (ld47 _ (sm_size s)) rfl (sm_all _) ?_;try simp only [Act.put,aSt,aSz,aSs]
      obtain ⟨pf,hpf⟩ : ∃ pf,pf = wj.heap.size:=⟨_,rfl⟩;obtain ⟨V0,hV0⟩ : ∃ V0,V0 = wj.alloc (.cells s.cs 27):=⟨_,rfl⟩;have HF0 : Hid (Blk V0 pf 27 s.cs):=by show Blk _ _ _ _;rw [hV0,hpf];exact Blk.new _ _ _
      have hal : Below wj.heap.size wj V0:=by rw [hV0];exact (Below.refl _ _).alloc (Nat.le_refl _) _
      have HPF : Hid (pin < pf ∧ p3 < pf ∧ p4 < pf ∧ b < pf):=by
       have h1:=HPS.out.bx.lt;have h2:=HPQ.out.bs.lt;have h3:=HPQ.out.bt.lt;have h4:=HPQ.out.bp.lt;exact ⟨by omega,by omega,by omega,by omega⟩
      have HPS0:=hide (HPS.out.step hal);have HPQ0:=hide (HPQ.out.step hal);rw [← hV0];try rw [← hpf]
      clear hV0 hpf hal HPS HPQ;go_upto_if 76 with fail
      go_cut [11,13,76] from 256 (fun tu v _ wx => tu = .int .i64 j ∧ PlF b B p3 p4 pin pf C0 s t w n k ⟨c0,A0,k0,Ae,ke,ms⟩ ls Am cm v wx)
      case first =>
       by_cases hj1 : j = 1
       ·have hz : ((j : Int) == 1) = true:=by subst hj1;rfl
        go_upto_region 19 with fail
        clear hz;refine wp_region_lit ?_;refine wpList_value rfl (.agg t.cs) (ex_load 27 (.tmp 4) rfl _ rfl _ _ Tryz.underlying27 rfl (ld47 _ (sm_size t)) (box_all HPQ0.out.bt)) ?_;try simp only [Act.put,aSt,aSz,aSs]
        refine wpList_put_at rfl 27 (.tmp 12) (.tmp 77) rfl pf 0 t.cs rfl rfl 27 s.cs HF0.out (ld47 _ (sm_size t)) (Nat.le_refl 9) (sm_all t) _ (sput _ _ rfl rfl) ?_;try simp only [Act.put,aSt,aSz,aSs]
        have hW:=only_setRow V0 pf t.cs;have HF1:=hide (HF0.out.row t.cs);have HPS1:=hide (HPS0.out.box_far HF0.out (by have:=HPF.out;omega) hW);have HPQ1:=hide (HPQ0.out.only (by have:=HPF.out;omega) (by have:=HPF.out;omega) (by have:=HPF.out;omega) (by have:=HPF.out;omega) hW);go_wp2_with fail;go_meet
        case rel => exact ⟨rfl,t,Ar,rn,rc,r,rfl,HF1.out,HFt.out,HGr.out,HPS1.out,HPQ1.out⟩
       ·have hz : ((j : Int) == 1) = false:=by
         have : ¬ (j : Int) = 1:=by omega
         simpa using this
        go_wp2_with fail;go_meet
        case rel => exact ⟨rfl,s,Al,ln,lc,l,rfl,HF0.out,HFs.out,HGl.out,HPS0.out,HPQ0.out⟩
      case rest =>
       unfold PlF at hcut;obtain ⟨rfl,f,Af,fn,fc,lf,rfl,hbx,hfs,hfl,hps,hpq⟩:=hcut;obtain ⟨V1,hV1⟩ : ∃ V1,V1 = wc:=⟨_,rfl⟩;rw [← hV1] at hbx hps hpq ⊢;clear hV1 HF0 HPS0 HPQ0;have HF1:=hide hbx;have HFS:=hide hfs;have HFL:=hide hfl;have HPS1:=hide hps;have HPQ1:=hide hpq;have hbV : b ≤ V1.heap.size:=by have:=hpq.bp.lt;omega
       have hBV : B ≤ V1.heap.size:=by have:=hps.bx.lt;have:=HPI.out;omega
       have HRV : Hid (Reads V1 b 1 f.A f.c.votes.length (ints f.c.votes)):=Reads.below hfs.inn.vot hpq.lo;clear hbx hfs hfl hps hpq;obtain ⟨vn,hvn⟩ : ∃ vn,vn = c0.votes.length:=⟨_,rfl⟩;obtain ⟨fv,hfv⟩ : ∃ fv,fv = f.c.votes.length:=⟨_,rfl⟩;have HVN_:=hide hvn;have HFV_:=hide hfv;have kA : V1.cell? ⟨pin,7,none⟩ = some (.slice A0 vn k0):=by rw [hvn];exact HPS1.out.bx.cell 7
       have kB : V1.cell? ⟨pf,7,none⟩ = some (.slice f.A fv f.k):=by rw [hfv];exact HF1.out.cell 7
       clear hvn hfv
       have HOV : Hid (Calls Tryz.prog 24 #[.slice A0 vn k0,.slice f.A fv f.k] V1 fun e w' => OvP B 3 1 (.slice A0 vn k0) fv (ints f.c.votes) V1 e w'):=by
        show Calls _ _ _ _ _;rw [HVN_.out,HFV_.out];exact over_any A0 c0.votes.length k0 (ints c0.votes) f.A f.c.votes.length f.k f.c.votes B V1 (HPS1.out.vot rfl) (Reads.more HRV.out (by omega)) (by have:=HFS.out.vn;omega) hBV
       go_upto_region 22 with (go_at_call 24;refine HOV.out.mono ?_;rintro e V2 ⟨A1,c1,rfl,hown,hgr,hor⟩;have HOW:=hide hown;have HGR:=hide hgr;have HOR:=hide hor;clear hown hgr hor)
       clear kA kB HOV HRV;rw [HVN_.out,HFV_.out] at HOR;rw [HVN_.out] at HGR;rw [HFV_.out] at HOW;have hw0 : V1.ownsRow B 3 1 (.slice A0 c0.votes.length k0) c0.votes.length (ints c0.votes):=HPS1.out.vot rfl;have HF2:=hide (HF1.out.grown HGR.out (own_ne hw0 HF1.out (by decide)));have HX2:=hide (HPS1.out.bx.grown HGR.out (own_ne hw0 HPS1.out.bx (by decide)));have HPQ2:=hide (HPQ1.out.grown hw0 (by decide) (by decide) hb2 HGR.out);clear hw0;refine wp_region_lit ?_;refine wpList_value rfl (.pointer (some ⟨pf,0,none⟩)) (by go_simp) ?_;try simp only [Act.put,aSt,aSz,aSs]
       refine wpList_value rfl (.agg (cfC f.c f.A f.k)) (ex_load 24 (.tmp 86) rfl _ rfl _ _ Tryz.underlying24 rfl (ld44 _ rfl) (sm_pre HF2.out)) ?_;try simp only [Act.put,aSt,aSz,aSs]
       refine wpList_value rfl (.pointer (some ⟨pin,0,none⟩)) (by go_simp) ?_;try simp only [Act.put,aSt,aSz,aSs]
       refine wpList_put_at rfl 24 (.tmp 88) (.tmp 87) rfl pin 0 (cfC f.c f.A f.k) rfl rfl 27 _ HX2.out (ld44 _ rfl) (by show 0 + 8 ≤ 9;omega) (cf_all _ _ _) (Sm.cs ⟨f.c,f.A,f.k,Ae,ke,ms⟩) (by rfl) ?_;try simp only [Act.put,aSt,aSz,aSs]
       have hW:=only_setRow V2 pin (Sm.cs ⟨f.c,f.A,f.k,Ae,ke,ms⟩);have HX3:=hide (HX2.out.row (Sm.cs ⟨f.c,f.A,f.k,Ae,ke,ms⟩));obtain ⟨V3,hV3⟩ : ∃ V3,V3 = V2.setRow pin (Sm.cs ⟨f.c,f.A,f.k,Ae,ke,ms⟩):=⟨_,rfl⟩;rw [← hV3] at hW HX3 ⊢;have HW3:=hide hW;clear hV3 hW;have kD : V3.cell? ⟨pin,7,none⟩ = some (.slice f.A fv f.k):=by rw [HFV_.out];exact HX3.out.cell 7
       have fD:=Blk.frozen HX3.out 7;go_upto_region 24 with fail
       clear kD fD;have hW:=only_setCell0 V3 pin 7 (.slice A1 fv c1);obtain ⟨V4,hV4⟩ : ∃ V4,V4 = World.setCell V3 ⟨pin,7,none⟩ (.slice A1 fv c1):=⟨_,rfl⟩
       have HX4 : Hid (Blk V4 pin 27 (Sm.cs ⟨f.c,A1,c1,Ae,ke,ms⟩)):=by
        show Blk _ _ _ _;rw [hV4,HFV_.out];exact HX3.out.set_ 7 _
       rw [← hV4] at hW ⊢;have HW4:=hide (HW3.out.trans hW);clear hV4 hW HX3 HW3;have HPS4 : Hid (PS B pin ⟨f.c,A1,c1,Ae,ke,ms⟩ ls Am cm false none none V4):=HPS1.out.laidV (s2:=⟨f.c,A1,c1,Ae,ke,ms⟩) HOW.out HGR.out HOR.out rfl rfl rfl HW4.out HX4.out;have HPQ4:=hide (HPQ2.out.only (by have:=HPI.out;have:=HP3.out;omega) (by have:=HPI.out;have:=HP3.out;omega) (by have:=HPI.out;have:=HP3.out;omega) (by have:=HPI.out;omega) HW4.out);have HF4:=hide (HF2.out.only HW4.out (by have:=HPF.out;omega));clear HW4 HX4 HOW HGR HOR HX2 HF2 HF1 HPS1 HPQ1 HPQ2 HVN_ HVN hbV hBV;have HL2 : Hid (PL2 b B p3 p4 pin pf C0 s t w n f A1 c1 Ae ke ls Am cm (.int .i64 0) V4):=⟨0,ms,Nat.zero_le _,rfl,HPS4.out,HPQ4.out,HF4.out,HMN.out,HEV.out⟩;clear HPS4 HPQ4 HF4 HMN HEV;go_upto_region 25 with fail
       go_loopw [15] (fun i wr => PL2 b B p3 p4 pin pf C0 s t w n f A1 c1 Ae ke ls Am cm i wr) (fun i _ => n - (intOf i).toNat)
       case atStart => exact HL2.out
       case round =>
        clear HL2;unfold PL2 at hrel;obtain ⟨q,ms,hq,rfl,hps,hpq,hf,hmn,hev⟩:=hrel;obtain ⟨wi,hwi⟩ : ∃ wi,wi = wr:=⟨_,rfl⟩;rw [← hwi] at hps hpq hf ⊢;clear hwi;have HPS:=hide hps;have HPQ:=hide hpq;have HF:=hide hf;have HMN:=hide hmn;have HEV:=hide hev;clear hps hpq hf hev;have q0 : (0 : Int) ≤ (q : Int):=by omega
        by_cases hlt : q < n
        ·skip
         have qs : (q : Int) < (n : Int):=by omega
         obtain ⟨x,hx⟩ : ∃ x,ms[q]? = some x:=⟨_,List.getElem?_eq_getElem (by omega)⟩;obtain ⟨me,hme⟩ : ∃ me,f.ms[q]? = some me:=⟨_,List.getElem?_eq_getElem (by have:=HFS.out.len;omega)⟩;have HMEI : Hid (EmIn w b me):=HFS.out.inn.ent me (List.mem_of_getElem? hme);have HMEO : Hid (EvOk me):=HFS.out.ok me (List.mem_of_getElem? hme);obtain ⟨gE,curE,hAe,hgE,hbg,_,_⟩:=own_box HPS.out.row (show 0 < ms.length by omega);obtain ⟨oE,hoE⟩ : ∃ oE : Nat,oE = 0:=⟨_,rfl⟩;have HAE : Hid (Ae = some ⟨gE,oE,none⟩):=by show _ = _;rw [hoE];exact hAe
         have HOE:=hide hoE;obtain ⟨gF,oF,me',hFe,hbF,hme',_⟩:=ems_at HFS.out.inn.row rfl (show q < f.ms.length by have:=HFS.out.len;omega);have HFE:=hide hFe;obtain ⟨fl,hfl⟩ : ∃ fl,fl = f.ms.length:=⟨_,rfl⟩;have qf : (q : Int) < (fl : Int):=by have:=HFS.out.len;omega
         have HX:=hide hx;have HME:=hide hme
         have HG : Hid (∀ V : World,SE b B pin pf ⟨f.c,A1,c1,Ae,ke,ms⟩ f w V → V.cell? ⟨pin,8,none⟩ = some (.slice (some ⟨gE,oE,none⟩) n ke) ∧ V.cell? ⟨pf,8,none⟩ = some (.slice (some ⟨gF,oF,none⟩) fl f.ke) ∧ V.cell? ⟨gE,oE + q * 13 + 4,none⟩ = some (.slice x.Ab x.nb x.cb) ∧ V.cell? ⟨gF,oF + q * 13 + 4,none⟩ = some (.slice me.Ab me.nb me.cb) ∧ V.cell? ⟨gE,oE + q * 13 + 12,none⟩ = some (.slice x.As x.ns x.cs') ∧ V.cell? ⟨gF,oF + q * 13 + 12,none⟩ = some (.slice me.As me.ns me.cs') ∧ ∀ j v,me.cs[j]? = some v → V.cell? ((⟨gF,oF + q * 13,none⟩ : Addr).add j) = some v):=fun V hV => by
          have h1:=hV.cells HFS.out.inn HX.out HME.out HAE.out HFE.out;rw [hfl,← HMN.out];exact h1
         have HGE : Hid (B ≤ gE ∧ 0 < ms.length):=⟨hbg,by omega⟩
         have HPW : Hid (∀ V : World,SE b B pin pf ⟨f.c,A1,c1,Ae,ke,ms⟩ f w V → B ≤ V.heap.size ∧ b ≤ V.heap.size):=fun V hV => by
          have h1:=hV.bx.lt;have h2:=HPI.out;exact ⟨by omega,by omega⟩
         have HSI : Hid (SE b B pin pf ⟨f.c,A1,c1,Ae,ke,ms⟩ f w wi):=⟨HPS.out.bx,HF.out,HPS.out.row,HPQ.out.lo⟩;clear hx hme hfl hAe hgE hbg hoE hFe hbF hme' hlt hmn;go_upto_region 27 with fail
         refine wp_region_L [] (fun V : World => SE b B pin pf ⟨f.c,A1,c1,Ae,ke,ms⟩ f w V) (by kernel_rfl) ?_;obtain ⟨d1,hwd⟩ : ∃ wd,wd = wi.drew:=⟨_,rfl⟩;rw [← hwd];have HDd1 : Hid (Below wi.heap.size wi d1):=by show Below _ _ _;rw [hwd];exact (Below.refl _ _).drew
         have HSd1 : Hid ((fun V : World => SE b B pin pf ⟨f.c,A1,c1,Ae,ke,ms⟩ f w V) d1):=by show SE b B pin pf ⟨f.c,A1,c1,Ae,ke,ms⟩ f w d1;rw [hwd];exact HSI.out.drew
         clear hwd;have HPS1:=hide (HPS.out.step HDd1.out);have HPQ1:=hide (HPQ.out.step HDd1.out);have HXO:=hide (HPS1.out.ent q x HX.out (by simp));refine tk 0 97 (v:=?_) rfl HSd1.out ?_ ?_
         rotate_left;· intro V hV;go_simp;try with_reducible rfl
         try simp only [Act.put,aSt,aSz,aSs]
         refine tk 1 98 (v:=?_) rfl HSd1.out ?_ ?_
         rotate_left
         ·intro V hV
          have a1:=(HG.out V hV).1;go_simp;try with_reducible rfl
         try simp only [Act.put,aSt,aSz,aSs]
         refine tk 2 99 (v:=?_) rfl HSd1.out ?_ ?_
         rotate_left;· intro V hV;go_simp;try with_reducible rfl
         try simp only [Act.put,aSt,aSz,aSs]
         refine tk 3 100 (v:=?_) rfl HSd1.out ?_ ?_
         rotate_left;· intro V hV;go_simp;try with_reducible rfl
         try simp only [Act.put,aSt,aSz,aSs]
         refine tk 4 101 (v:=?_) rfl HSd1.out ?_ ?_
         rotate_left;· intro V hV;go_simp;try with_reducible rfl
         try simp only [Act.put,aSt,aSz,aSs]
         refine tk 5 102 (v:=?_) rfl HSd1.out ?_ ?_
         rotate_left
         ·intro V hV
          have a1:=(HG.out V hV).2.2.1;go_simp;try with_reducible rfl
         try simp only [Act.put,aSt,aSz,aSs]
         refine tk 6 103 (v:=?_) rfl HSd1.out ?_ ?_
         rotate_left;· intro V hV;go_simp;try with_reducible rfl
         try simp only [Act.put,aSt,aSz,aSs]
         refine tk 7 104 (v:=?_) rfl HSd1.out ?_ ?_
         rotate_left
         ·intro V hV
          have a1:=(HG.out V hV).2.1;go_simp;try with_reducible rfl
         try simp only [Act.put,aSt,aSz,aSs]
         refine tk 8 105 (v:=?_) rfl HSd1.out ?_ ?_
         rotate_left;· intro V hV;go_simp;try with_reducible rfl
         try simp only [Act.put,aSt,aSz,aSs]
         refine tk 9 106 (v:=?_) rfl HSd1.out ?_ ?_
         rotate_left;· intro V hV;go_simp;try with_reducible rfl
         try simp only [Act.put,aSt,aSz,aSs]
         refine tk 10 107 (v:=?_) rfl HSd1.out ?_ ?_
         rotate_left;· intro V hV;go_simp;try with_reducible rfl
         try simp only [Act.put,aSt,aSz,aSs]
         refine tk 11 108 (v:=?_) rfl HSd1.out ?_ ?_
         rotate_left
         ·intro V hV
          have a1:=(HG.out V hV).2.2.2.1;go_simp;try with_reducible rfl
         try simp only [Act.put,aSt,aSz,aSs]
         refine wpL_one 12 (by kernel_rfl) rfl (fun K hK => ?_);rw [if_pos (by rfl)];go_simp;go_at_call 25;refine (overBytes_any x.Ab x.nb x.cb (Lib.byteCells x.bd) me.Ab me.nb me.cb me.bd B d1 HXO.out.body (Reads.more (Reads.below HMEI.out.body HSd1.out.lo) hb2) (by have:=HMEO.out.bulk;omega) (HPW.out _ HSd1.out).1).mono ?_;rintro e V1 ⟨A2,c2,rfl,hown,hgr,hor⟩;have HO2:=hide hown;have HR2:=hide hgr;have HB2:=hide hor;have HS1 : Hid ((fun V : World => SE b B pin pf ⟨f.c,A1,c1,Ae,ke,ms⟩ f w V) V1):=HSd1.out.grown HXO.out.body (by decide) (by decide) hb2 (HPW.out _ HSd1.out).2 hgr;have HPQV1:=hide (HPQ1.out.grown HXO.out.body (by decide) (by decide) hb2 hgr);have HXS1:=hide (own_kept HXO.out.sid HXO.out.body (by decide) hgr);refine hK _ _ (fun _ => HS1.out) ?_;clear hK K hown hgr hor;try simp only [Act.put,aSt,aSz,aSs]
         refine tk 13 16 (v:=?_) rfl HS1.out ?_ ?_
         rotate_left;· intro V hV;go_simp;try with_reducible rfl
         try simp only [Act.put,aSt,aSz,aSs]
         refine wpL_done (by kernel_rfl) ?_ _;go_upto_region 28 with fail
         refine wp_region_L [] (fun V : World => SE b B pin pf ⟨f.c,A1,c1,Ae,ke,ms⟩ f w V) (by kernel_rfl) ?_;obtain ⟨d2,hwd⟩ : ∃ wd,wd = V1.drew:=⟨_,rfl⟩;rw [← hwd];have HDd2 : Hid (Below V1.heap.size V1 d2):=by show Below _ _ _;rw [hwd];exact (Below.refl _ _).drew
         have HSd2 : Hid ((fun V : World => SE b B pin pf ⟨f.c,A1,c1,Ae,ke,ms⟩ f w V) d2):=by show SE b B pin pf ⟨f.c,A1,c1,Ae,ke,ms⟩ f w d2;rw [hwd];exact HS1.out.drew
         clear hwd;have HPQ2:=hide (HPQV1.out.step HDd2.out);have HXS2:=hide (own_step HXS1.out HDd2.out);refine tk 0 110 (v:=?_) rfl HSd2.out ?_ ?_
         rotate_left;· intro V hV;go_simp;try with_reducible rfl
         try simp only [Act.put,aSt,aSz,aSs]
         refine tk 1 111 (v:=?_) rfl HSd2.out ?_ ?_
         rotate_left
         ·intro V hV
          have a1:=(HG.out V hV).1;go_simp;try with_reducible rfl
         try simp only [Act.put,aSt,aSz,aSs]
         refine tk 2 112 (v:=?_) rfl HSd2.out ?_ ?_
         rotate_left;· intro V hV;go_simp;try with_reducible rfl
         try simp only [Act.put,aSt,aSz,aSs]
         refine tk 3 113 (v:=?_) rfl HSd2.out ?_ ?_
         rotate_left;· intro V hV;go_simp;try with_reducible rfl
         try simp only [Act.put,aSt,aSz,aSs]
         refine tk 4 114 (v:=?_) rfl HSd2.out ?_ ?_
         rotate_left;· intro V hV;go_simp;try with_reducible rfl
         try simp only [Act.put,aSt,aSz,aSs]
         refine tk 5 115 (v:=?_) rfl HSd2.out ?_ ?_
         rotate_left
         ·intro V hV
          have a1:=(HG.out V hV).2.2.2.2.1;go_simp;try with_reducible rfl
         try simp only [Act.put,aSt,aSz,aSs]
         refine tk 6 116 (v:=?_) rfl HSd2.out ?_ ?_
         rotate_left;· intro V hV;go_simp;try with_reducible rfl
         try simp only [Act.put,aSt,aSz,aSs]
         refine tk 7 117 (v:=?_) rfl HSd2.out ?_ ?_
         rotate_left
         ·intro V hV
          have a1:=(HG.out V hV).2.1;go_simp;try with_reducible rfl
         try simp only [Act.put,aSt,aSz,aSs]
         refine tk 8 118 (v:=?_) rfl HSd2.out ?_ ?_
         rotate_left;· intro V hV;go_simp;try with_reducible rfl
         try simp only [Act.put,aSt,aSz,aSs]
         refine tk 9 119 (v:=?_) rfl HSd2.out ?_ ?_
         rotate_left;· intro V hV;go_simp;try with_reducible rfl
         try simp only [Act.put,aSt,aSz,aSs]
         refine tk 10 120 (v:=?_) rfl HSd2.out ?_ ?_
         rotate_left;· intro V hV;go_simp;try with_reducible rfl
         try simp only [Act.put,aSt,aSz,aSs]
         refine tk 11 121 (v:=?_) rfl HSd2.out ?_ ?_
         rotate_left
         ·intro V hV
          have a1:=(HG.out V hV).2.2.2.2.2.1;go_simp;try with_reducible rfl
         try simp only [Act.put,aSt,aSz,aSs]
         refine wpL_one 12 (by kernel_rfl) rfl (fun K hK => ?_);rw [if_pos (by rfl)];go_simp;go_at_call 24;refine (over_any x.As x.ns x.cs' (ints x.sd) me.As me.ns me.cs' me.sd B d2 HXS2.out (Reads.more (Reads.below HMEI.out.sid HSd2.out.lo) hb2) (by have:=HMEO.out.bulk;omega) (HPW.out _ HSd2.out).1).mono ?_;rintro e V2 ⟨A3,c3,rfl,hown,hgr,hor⟩;have HO3:=hide hown;have HR3:=hide hgr;have HB3:=hide hor;have HS2 : Hid ((fun V : World => SE b B pin pf ⟨f.c,A1,c1,Ae,ke,ms⟩ f w V) V2):=HSd2.out.grown HXS2.out (by decide) (by decide) hb2 (HPW.out _ HSd2.out).2 hgr;have HPQV2:=hide (HPQ2.out.grown HXS2.out (by decide) (by decide) hb2 hgr);refine hK _ _ (fun _ => HS2.out) ?_;clear hK K hown hgr hor;try simp only [Act.put,aSt,aSz,aSs]
         refine tk 13 17 (v:=?_) rfl HS2.out ?_ ?_
         rotate_left;· intro V hV;go_simp;try with_reducible rfl
         try simp only [Act.put,aSt,aSz,aSs]
         refine wpL_done (by kernel_rfl) ?_ _;go_upto_region 29 with fail
         refine wp_region_L [9] (fun V : World => SE b B pin pf ⟨f.c,A1,c1,Ae,ke,ms⟩ f w V) (by kernel_rfl) ?_;obtain ⟨d3,hwd⟩ : ∃ wd,wd = V2.drew:=⟨_,rfl⟩;rw [← hwd];have HDd3 : Hid (Below V2.heap.size V2 d3):=by show Below _ _ _;rw [hwd];exact (Below.refl _ _).drew
         have HSd3 : Hid ((fun V : World => SE b B pin pf ⟨f.c,A1,c1,Ae,ke,ms⟩ f w V) d3):=by show SE b B pin pf ⟨f.c,A1,c1,Ae,ke,ms⟩ f w d3;rw [hwd];exact HS2.out.drew
         clear hwd;have HPQ3:=hide (HPQV2.out.step HDd3.out);have HF3:=hide HSd3.out.bf;refine tk 0 123 (v:=?_) rfl HSd3.out ?_ ?_
         rotate_left;· intro V hV;go_simp;try with_reducible rfl
         try simp only [Act.put,aSt,aSz,aSs]
         refine tk 1 124 (v:=?_) rfl HSd3.out ?_ ?_
         rotate_left
         ·intro V hV
          have a1:=(HG.out V hV).1;go_simp;try with_reducible rfl
         try simp only [Act.put,aSt,aSz,aSs]
         refine tk 2 125 (v:=?_) rfl HSd3.out ?_ ?_
         rotate_left;· intro V hV;go_simp;try with_reducible rfl
         try simp only [Act.put,aSt,aSz,aSs]
         refine tk 3 126 (v:=?_) rfl HSd3.out ?_ ?_
         rotate_left;· intro V hV;go_simp;try with_reducible rfl
         try simp only [Act.put,aSt,aSz,aSs]
         refine tk 4 127 (v:=?_) rfl HSd3.out ?_ ?_
         rotate_left
         ·intro V hV
          have a1:=(HG.out V hV).2.1;go_simp;try with_reducible rfl
         try simp only [Act.put,aSt,aSz,aSs]
         refine tk 5 128 (v:=?_) rfl HSd3.out ?_ ?_
         rotate_left;· intro V hV;go_simp;try with_reducible rfl
         try simp only [Act.put,aSt,aSz,aSs]
         refine tk 6 129 (v:=?_) rfl HSd3.out ?_ ?_
         rotate_left;· intro V hV;go_simp;try with_reducible rfl
         try simp only [Act.put,aSt,aSz,aSs]
         refine tk 7 130 (v:=.agg me.cs) rfl HSd3.out ?_ ?_
         ·intro V hV;exact ex_load 33 (.tmp 129) rfl _ rfl me.cs _ Tryz.underlying33 rfl (ld29 _ (em_size _)) (HG.out V hV).2.2.2.2.2.2
         try simp only [Act.put,aSt,aSz,aSs]
         refine tk 8 131 (v:=?_) rfl HSd3.out ?_ ?_
         rotate_left;· intro V hV;go_simp;try with_reducible rfl
         try simp only [Act.put,aSt,aSz,aSs]
         obtain ⟨gE',cur,hA',hblk,_,hcz,hcap⟩:=own_box HSd3.out.row HGE.out.2
         have hgo : gE = gE' ∧ oE = 0:=by
          have h1:=HAE.out.symm.trans hA';injection h1 with h1
          injection h1 with h1 h2
          exact ⟨h1,h2⟩
         obtain ⟨rfl,hz0⟩:=hgo;clear hz0
         have hsz : oE + q * 13 + 13 ≤ cur.size:=by
          have hcz2 : cur.size = ke * 13:=hcz;rw [hcz2,HOE.out];have h1 : (q + 1) * 13 ≤ ke * 13:=Nat.mul_le_mul_right _ (by have : ms.length ≤ ke:=hcap;have:=HMN.out;omega);omega
         have HCU:=hide hblk;have HSZ:=hide hsz;refine wpL_one 9 (by kernel_rfl) rfl (fun K hK => ?_);refine one_skip (by rfl) (run_put_at 33 (.tmp 131) (.tmp 130) rfl gE (oE + q * 13) me.cs rfl rfl 33 cur hblk (ld29 _ (em_size _)) (by rw [em_size];exact hsz) (ecs_all me) _ rfl) (hK _ _ (fun h => absurd h (by decide)) ?_);clear hK K hA' hblk hcz hcap hsz;try simp only [Act.put,aSt,aSz,aSs]
         refine wpL_done (by kernel_rfl) ?_ _;obtain ⟨cu1,hcu1⟩ : ∃ cu1,cu1 = putAt cur (oE + q * 13) me.cs:=⟨_,rfl⟩;obtain ⟨V3,hV3⟩ : ∃ V3,V3 = d3.setRow gE (putAt cur (oE + q * 13) me.cs):=⟨_,rfl⟩;have HE3 : Hid (Blk V3 gE 33 cu1):=by show Blk _ _ _ _;rw [hV3,hcu1];exact HCU.out.row _
         have HW3 : Hid (Only (fun x => x = gE) d3 V3):=by show Only _ _ _;rw [hV3];exact only_setRow d3 gE _
         have HZ3 : Hid (oE + q * 13 + 13 ≤ cu1.size):=by
          show _ ≤ _;rw [hcu1];have h1:=HSZ.out;have h2:=em_size me;unfold putAt;simp;omega
         have HX3:=hide (HSd3.out.bx.only HW3.out (Blk.ne_ty HSd3.out.bx HCU.out (by decide)));have HV3:=hide hV3;rw [← hV3];clear hV3 hcu1;go_upto_region 30 with fail
         have kC : V3.cell? ⟨pin,8,none⟩ = some (.slice (some ⟨gE,oE,none⟩) n ke):=by
          have h1:=HX3.out.cell 8;rw [← HAE.out,← HMN.out];exact h1
         have kD : V3.cell? ⟨gE,oE + q * 13 + 4,none⟩ = some (cu1[oE + q * 13 + 4]'(by have:=HZ3.out;omega)):=by
          rw [HE3.out.cell (oE + q * 13 + 4)];exact Array.getElem?_eq_getElem _
         have fD:=Blk.frozen HE3.out (oE + q * 13 + 4);go_upto_region 31 with fail
         clear kC kD fD;obtain ⟨V4,hV4⟩ : ∃ V4,V4 = World.setCell V3 ⟨gE,oE + q * 13 + 4,none⟩ (.slice A2 me.nb c2):=⟨_,rfl⟩;have HE4 : Hid (Blk V4 gE 33 (cu1.setIfInBounds (oE + q * 13 + 4) (.slice A2 me.nb c2))):=by show Blk _ _ _ _;rw [hV4];exact HE3.out.set_ _ _
         have hW:=only_setCell0 V3 gE (oE + q * 13 + 4) (.slice A2 me.nb c2)
         have HX4 : Hid (Blk V4 pin 27 (Sm.cs ⟨f.c,A1,c1,Ae,ke,ms⟩)):=by
          show Blk _ _ _ _;rw [hV4];exact HX3.out.only hW (Blk.ne_ty HX3.out HE3.out (by decide))
         rw [← hV4] at hW ⊢;have HW4:=hide (HW3.out.trans hW);have HV4:=hide hV4;clear hV4 hW HX3 HW3
         have kC : V4.cell? ⟨pin,8,none⟩ = some (.slice (some ⟨gE,oE,none⟩) n ke):=by
          have h1:=HX4.out.cell 8;rw [← HAE.out,← HMN.out];exact h1
         have kD : V4.cell? ⟨gE,oE + q * 13 + 12,none⟩ = some ((cu1.setIfInBounds (oE + q * 13 + 4) (.slice A2 me.nb c2))[oE + q * 13 + 12]'(by rw [Array.size_setIfInBounds];have:=HZ3.out;omega)):=by
          rw [HE4.out.cell (oE + q * 13 + 12)];exact Array.getElem?_eq_getElem _
         have fD:=Blk.frozen HE4.out (oE + q * 13 + 12);go_upto_region 26 with fail
         clear kC kD fD;obtain ⟨V5,hV5⟩ : ∃ V5,V5 = World.setCell V4 ⟨gE,oE + q * 13 + 12,none⟩ (.slice A3 me.ns c3):=⟨_,rfl⟩;have hW:=only_setCell0 V4 gE (oE + q * 13 + 12) (.slice A3 me.ns c3);rw [← hV5] at hW ⊢;have HW5:=hide (HW4.out.trans hW);obtain ⟨m2,hm2⟩ : ∃ m2 : Em,m2 = { me with Ab:=A2,cb:=c2,As:=A3,cs':=c3 }:=⟨_,rfl⟩;have HM2:=hide hm2
         have HR5 : Hid (V5.ownsRow B 33 13 (.slice Ae ms.length ke) ms.length (emCells (ms.set q m2))):=by
          show World.ownsRow _ _ _ _ _ _ _
          have h0 : d3.ownsRow B 33 13 (.slice (some ⟨gE,0,none⟩) ms.length ke) ms.length (emCells ms):=by
           have h1:=HSd3.out.row;have h2:=HAE.out;rw [HOE.out] at h2;rw [← h2];exact h1
          have h1:=em_three me A2 c2 A3 c3 h0 rfl (show q < ms.length by have:=HMN.out;omega) HCU.out;rw [hV5,HV4.out,HV3.out,HOE.out,Nat.zero_add,HAE.out,HOE.out,hm2];exact h1
         clear hV5 hW HW4 HE4 HX4
         have HPS5 : Hid (PS B pin ⟨f.c,A1,c1,Ae,ke,ms.set q m2⟩ ls Am cm false none none V5):=by
          have ho2:=HO2.out;have ho3:=HO3.out;refine HPS1.out.laidE (m2:=m2) HX.out ?_ HR2.out ?_ HDd2.out ?_ HR3.out ?_ HDd3.out HCU.out HW5.out HR5.out ?_ ?_
          ·rw [HM2.out];exact ho2
          ·rw [HM2.out];exact HB2.out
          ·rw [HM2.out];exact ho3
          ·rw [HM2.out];exact HB3.out
          ·rw [HM2.out];show me.ns ≤ _;have:=HMEO.out.bulk;omega
          ·rw [HM2.out];show me.nb ≤ _;have:=HMEO.out.bulk;omega
         have HPQ5:=hide (HPQ3.out.only (Blk.ne_ty HCU.out HPQ3.out.bp (by decide)) (Blk.ne_ty HCU.out HPQ3.out.bs (by decide)) (Blk.ne_ty HCU.out HPQ3.out.bt (by decide)) (by have:=HGE.out.1;omega) HW5.out);have HF5:=hide (HF3.out.only HW5.out (Blk.ne_ty HF3.out HCU.out (by decide)))
         have HEV5 : Hid (∀ m ∈ ms.set q m2,EvOk m):=fun m hm => by
          rcases List.mem_or_eq_of_mem_set hm with h1 | rfl
          ·exact HEV.out m h1
          ·rw [HM2.out]
           exact HMEO.out.of rfl rfl rfl
         have HLQ : Hid (PL2 b B p3 p4 pin pf C0 s t w n f A1 c1 Ae ke ls Am cm (.int .i64 ((q : Int) + 1)) V5):=⟨q + 1,ms.set q m2,by omega,by go_num,HPS5.out,HPQ5.out,HF5.out,by rw [List.length_set];exact HMN.out,HEV5.out⟩;clear HPS5 HPQ5 HF5 HEV5 HR5 HW5 HE3 HV3 HV4;go_wp2_with fail;go_roundw
         case rel => first | exact HLQ.out | exact ⟨_,HLQ.out,rfl⟩ | exact ⟨_,_,HLQ.out,rfl,rfl⟩
         case measure => simp [intOf];omega
        ·skip
         have qs : ¬ (q : Int) < (n : Int):=by omega
         clear hlt;have HL3 : Hid (PL3 b B p3 p4 pin C0 s t w k ⟨f.c,A1,c1,Ae,ke,ms⟩ Am cm (.int .i64 0) wi):=⟨0,ls,Nat.zero_le _,rfl,HPS.out,HPQ.out,HLK.out,HMZ.out⟩;clear HPS HPQ HF HLK HMZ;go_upto_region 33 with fail
         go_loopw [18] (fun i wr => PL3 b B p3 p4 pin C0 s t w k ⟨f.c,A1,c1,Ae,ke,ms⟩ Am cm i wr) (fun i _ => k - (intOf i).toNat)
         case atStart => exact HL3.out
         case round =>
          clear HL3;unfold PL3 at hrel;obtain ⟨q,ls,hq,rfl,hps,hpq,hlk,hmz⟩:=hrel;obtain ⟨wi,hwi⟩ : ∃ wi,wi = wr:=⟨_,rfl⟩;rw [← hwi] at hps hpq ⊢;clear hwi;have HPS:=hide hps;have HPQ:=hide hpq;have HLK:=hide hlk;have HMZ:=hide hmz;clear hps hpq hmz;have q0 : (0 : Int) ≤ (q : Int):=by omega
          by_cases hlt : q < k
          ·skip
           have qs : (q : Int) < (k : Int):=by omega
           have hfk:=HFL.out.len;obtain ⟨x,hx⟩ : ∃ x,ls[q]? = some x:=⟨_,List.getElem?_eq_getElem (by omega)⟩;obtain ⟨gR,oR,me,hFe,hbF,hme,hmi,_⟩:=HFL.out.inn.at_ (show q < fn by omega);have HMEI : Hid (MkIn w b me):=hmi;have HMEZ : Hid (MkZ me):=HFL.out.z me (List.mem_of_getElem? hme);obtain ⟨gM,curM,hAm,hgM,hbg,_,_⟩:=own_box HPS.out.mrow (show 0 < ls.length by omega);obtain ⟨oM,hoM⟩ : ∃ oM : Nat,oM = 0:=⟨_,rfl⟩;have HAM : Hid (Am = some ⟨gM,oM,none⟩):=by show _ = _;rw [hoM];exact hAm
           have HOM:=hide hoM;have HAF:=hide hFe;have qf : (q : Int) < (fn : Int):=by omega
           have HX:=hide hx;have HME:=hide hme
           have HG : Hid (∀ V : World,SK b B Am cm ls w V → V.cell? ⟨gM,oM + q * 26 + 14,none⟩ = some (.slice x.Ab x.nb x.cb) ∧ V.cell? ⟨gR,oR + q * 26 + 14,none⟩ = some (.slice me.Ab me.nb me.cb) ∧ V.cell? ⟨gM,oM + q * 26 + 9,none⟩ = some (.slice x.At x.nt x.ct) ∧ V.cell? ⟨gR,oR + q * 26 + 9,none⟩ = some (.slice me.At me.nt me.ct) ∧ V.cell? ⟨gM,oM + q * 26 + 8,none⟩ = some (.slice x.Am x.nm x.cm) ∧ V.cell? ⟨gR,oR + q * 26 + 8,none⟩ = some (.slice me.Am me.nm me.cm) ∧ ∀ j v,me.cs[j]? = some v → V.cell? ((⟨gR,oR + q * 26,none⟩ : Addr).add j) = some v):=fun V hV =>
            hV.cells HFL.out.inn (by omega) HX.out HME.out HAM.out HAF.out
           have HGE : Hid (B ≤ gM ∧ 0 < ls.length):=⟨hbg,by omega⟩
           have HPW : Hid (∀ V : World,SK b B Am cm ls w V → B ≤ V.heap.size ∧ b ≤ V.heap.size):=fun V hV => by
            obtain ⟨g',_,e,h1,h2,_⟩:=own_box hV.row HGE.out.2;have:=h1.lt;exact ⟨by omega,by omega⟩
           have HSI : Hid (SK b B Am cm ls w wi):=⟨HPS.out.mrow,HPQ.out.lo⟩;clear hx hme hmi hAm hgM hbg hoM hFe hbF hlt hfk hlk;go_upto_region 35 with fail
           refine wp_region_L [] (fun V : World => SK b B Am cm ls w V) (by kernel_rfl) ?_;obtain ⟨d1,hwd⟩ : ∃ wd,wd = wi.drew:=⟨_,rfl⟩;rw [← hwd];have HDd1 : Hid (Below wi.heap.size wi d1):=by show Below _ _ _;rw [hwd];exact (Below.refl _ _).drew
           have HSd1 : Hid ((fun V : World => SK b B Am cm ls w V) d1):=by show SK b B Am cm ls w d1;rw [hwd];exact HSI.out.drew
           clear hwd;have HPS1:=hide (HPS.out.step HDd1.out);have HPQ1:=hide (HPQ.out.step HDd1.out);have HXO:=hide (HPS1.out.ment q x HX.out (by simp));refine tk 0 149 (v:=?_) rfl HSd1.out ?_ ?_
           rotate_left;· intro V hV;go_simp;try with_reducible rfl
           try simp only [Act.put,aSt,aSz,aSs]
           refine tk 1 150 (v:=?_) rfl HSd1.out ?_ ?_
           rotate_left;· intro V hV;go_simp;try with_reducible rfl
           try simp only [Act.put,aSt,aSz,aSs]
           refine tk 2 151 (v:=.pointer (some ⟨gM,oM + q * 26,none⟩)) rfl HSd1.out ?_ ?_
           ·intro V hV
            rw [HAM.out];go_simp
           try simp only [Act.put,aSt,aSz,aSs]
           refine tk 3 152 (v:=?_) rfl HSd1.out ?_ ?_
           rotate_left;· intro V hV;go_simp;try with_reducible rfl
           try simp only [Act.put,aSt,aSz,aSs]
           refine tk 4 153 (v:=?_) rfl HSd1.out ?_ ?_
           rotate_left
           ·intro V hV
            have a1:=(HG.out V hV).1;go_simp;try with_reducible rfl
           try simp only [Act.put,aSt,aSz,aSs]
           refine tk 5 154 (v:=?_) rfl HSd1.out ?_ ?_
           rotate_left;· intro V hV;go_simp;try with_reducible rfl
           try simp only [Act.put,aSt,aSz,aSs]
           refine tk 6 155 (v:=?_) rfl HSd1.out ?_ ?_
           rotate_left;· intro V hV;go_simp;try with_reducible rfl
           try simp only [Act.put,aSt,aSz,aSs]
           refine tk 7 156 (v:=.pointer (some ⟨gR,oR + q * 26,none⟩)) rfl HSd1.out ?_ ?_
           ·intro V hV
            rw [HAF.out];go_simp
           try simp only [Act.put,aSt,aSz,aSs]
           refine tk 8 157 (v:=?_) rfl HSd1.out ?_ ?_
           rotate_left;· intro V hV;go_simp;try with_reducible rfl
           try simp only [Act.put,aSt,aSz,aSs]
           refine tk 9 158 (v:=?_) rfl HSd1.out ?_ ?_
           rotate_left
           ·intro V hV
            have a1:=(HG.out V hV).2.1;go_simp;try with_reducible rfl
           try simp only [Act.put,aSt,aSz,aSs]
           refine wpL_one 10 (by kernel_rfl) rfl (fun K hK => ?_);rw [if_pos (by rfl)];go_simp;go_at_call 25;refine (overBytes_any x.Ab x.nb x.cb (Lib.byteCells x.bd) me.Ab me.nb me.cb me.bd B d1 HXO.out.body (Reads.more (Reads.below HMEI.out.body HSd1.out.lo) hb2) (by have:=HMEZ.out.nb;omega) (HPW.out _ HSd1.out).1).mono ?_;rintro e V1 ⟨A2,c2,rfl,hown,hgr,hor⟩;have HO2:=hide hown;have HR2:=hide hgr;have HB2:=hide hor;have HS1 : Hid ((fun V : World => SK b B Am cm ls w V) V1):=HSd1.out.grown HXO.out.body (by decide) hb2 (HPW.out _ HSd1.out).2 hgr;have HPQV1:=hide (HPQ1.out.grown HXO.out.body (by decide) (by decide) hb2 hgr);have HXT1:=hide (own_kept HXO.out.tr HXO.out.body (by decide) hgr);have HXM1:=hide (own_kept HXO.out.mem HXO.out.body (by decide) hgr);refine hK _ _ (fun _ => HS1.out) ?_;clear hK K hown hgr hor;try simp only [Act.put,aSt,aSz,aSs]
           refine tk 11 19 (v:=?_) rfl HS1.out ?_ ?_
           rotate_left;· intro V hV;go_simp;try with_reducible rfl
           try simp only [Act.put,aSt,aSz,aSs]
           refine wpL_done (by kernel_rfl) ?_ _;go_upto_region 36 with fail
           refine wp_region_L [] (fun V : World => SK b B Am cm ls w V) (by kernel_rfl) ?_;obtain ⟨d2,hwd⟩ : ∃ wd,wd = V1.drew:=⟨_,rfl⟩;rw [← hwd];have HDd2 : Hid (Below V1.heap.size V1 d2):=by show Below _ _ _;rw [hwd];exact (Below.refl _ _).drew
           have HSd2 : Hid ((fun V : World => SK b B Am cm ls w V) d2):=by show SK b B Am cm ls w d2;rw [hwd];exact HS1.out.drew
           clear hwd;have HPQ2:=hide (HPQV1.out.step HDd2.out);have HXT2:=hide (own_step HXT1.out HDd2.out);have HXM2:=hide (own_step HXM1.out HDd2.out);refine tk 0 160 (v:=?_) rfl HSd2.out ?_ ?_
           rotate_left;· intro V hV;go_simp;try with_reducible rfl
           try simp only [Act.put,aSt,aSz,aSs]
           refine tk 1 161 (v:=?_) rfl HSd2.out ?_ ?_
           rotate_left;· intro V hV;go_simp;try with_reducible rfl
           try simp only [Act.put,aSt,aSz,aSs]
           refine tk 2 162 (v:=.pointer (some ⟨gM,oM + q * 26,none⟩)) rfl HSd2.out ?_ ?_
           ·intro V hV
            rw [HAM.out];go_simp
           try simp only [Act.put,aSt,aSz,aSs]
           refine tk 3 163 (v:=?_) rfl HSd2.out ?_ ?_
           rotate_left;· intro V hV;go_simp;try with_reducible rfl
           try simp only [Act.put,aSt,aSz,aSs]
           refine tk 4 164 (v:=?_) rfl HSd2.out ?_ ?_
           rotate_left
           ·intro V hV
            have a1:=(HG.out V hV).2.2.1;go_simp;try with_reducible rfl
           try simp only [Act.put,aSt,aSz,aSs]
           refine tk 5 165 (v:=?_) rfl HSd2.out ?_ ?_
           rotate_left;· intro V hV;go_simp;try with_reducible rfl
           try simp only [Act.put,aSt,aSz,aSs]
           refine tk 6 166 (v:=?_) rfl HSd2.out ?_ ?_
           rotate_left;· intro V hV;go_simp;try with_reducible rfl
           try simp only [Act.put,aSt,aSz,aSs]
           refine tk 7 167 (v:=.pointer (some ⟨gR,oR + q * 26,none⟩)) rfl HSd2.out ?_ ?_
           ·intro V hV
            rw [HAF.out];go_simp
           try simp only [Act.put,aSt,aSz,aSs]
           refine tk 8 168 (v:=?_) rfl HSd2.out ?_ ?_
           rotate_left;· intro V hV;go_simp;try with_reducible rfl
           try simp only [Act.put,aSt,aSz,aSs]
           refine tk 9 169 (v:=?_) rfl HSd2.out ?_ ?_
           rotate_left
           ·intro V hV
            have a1:=(HG.out V hV).2.2.2.1;go_simp;try with_reducible rfl
           try simp only [Act.put,aSt,aSz,aSs]
           refine wpL_one 10 (by kernel_rfl) rfl (fun K hK => ?_);rw [if_pos (by rfl)];go_simp;go_at_call 24;refine (over_any x.At x.nt x.ct (ints x.ts) me.At me.nt me.ct me.ts B d2 HXT2.out (Reads.more (Reads.below HMEI.out.tr HSd2.out.lo) hb2) (by have:=HMEZ.out.nt;omega) (HPW.out _ HSd2.out).1).mono ?_;rintro e V2 ⟨A3,c3,rfl,hown,hgr,hor⟩;have HO3:=hide hown;have HR3:=hide hgr;have HB3:=hide hor;have HS2 : Hid ((fun V : World => SK b B Am cm ls w V) V2):=HSd2.out.grown HXT2.out (by decide) hb2 (HPW.out _ HSd2.out).2 hgr;have HPQV2:=hide (HPQ2.out.grown HXT2.out (by decide) (by decide) hb2 hgr);have HXMV2:=hide (own_kept HXM2.out HXT2.out (by decide) hgr);refine hK _ _ (fun _ => HS2.out) ?_;clear hK K hown hgr hor;try simp only [Act.put,aSt,aSz,aSs]
           refine tk 11 20 (v:=?_) rfl HS2.out ?_ ?_
           rotate_left;· intro V hV;go_simp;try with_reducible rfl
           try simp only [Act.put,aSt,aSz,aSs]
           refine wpL_done (by kernel_rfl) ?_ _;go_upto_region 37 with fail
           refine wp_region_L [] (fun V : World => SK b B Am cm ls w V) (by kernel_rfl) ?_;obtain ⟨d3,hwd⟩ : ∃ wd,wd = V2.drew:=⟨_,rfl⟩;rw [← hwd];have HDd3 : Hid (Below V2.heap.size V2 d3):=by show Below _ _ _;rw [hwd];exact (Below.refl _ _).drew
           have HSd3 : Hid ((fun V : World => SK b B Am cm ls w V) d3):=by show SK b B Am cm ls w d3;rw [hwd];exact HS2.out.drew
           clear hwd;have HPQ3:=hide (HPQV2.out.step HDd3.out);have HXM3:=hide (own_step HXMV2.out HDd3.out);refine tk 0 171 (v:=?_) rfl HSd3.out ?_ ?_
           rotate_left;· intro V hV;go_simp;try with_reducible rfl
           try simp only [Act.put,aSt,aSz,aSs]
           refine tk 1 172 (v:=?_) rfl HSd3.out ?_ ?_
           rotate_left;· intro V hV;go_simp;try with_reducible rfl
           try simp only [Act.put,aSt,aSz,aSs]
           refine tk 2 173 (v:=.pointer (some ⟨gM,oM + q * 26,none⟩)) rfl HSd3.out ?_ ?_
           ·intro V hV
            rw [HAM.out];go_simp
           try simp only [Act.put,aSt,aSz,aSs]
           refine tk 3 174 (v:=?_) rfl HSd3.out ?_ ?_
           rotate_left;· intro V hV;go_simp;try with_reducible rfl
           try simp only [Act.put,aSt,aSz,aSs]
           refine tk 4 175 (v:=?_) rfl HSd3.out ?_ ?_
           rotate_left
           ·intro V hV
            have a1:=(HG.out V hV).2.2.2.2.1;go_simp;try with_reducible rfl
           try simp only [Act.put,aSt,aSz,aSs]
           refine tk 5 176 (v:=.slice x.Am 0 x.cm) rfl HSd3.out ?_ ?_
           ·intro V hV;exact ex_front 46 (e:=84) (by kernel_rfl) Tryz.underlying46 (size69 V) (.tmp 175) (.const (.int .i64 0)) rfl x.Am x.nm x.cm 0 rfl rfl (Nat.zero_le _)
           try simp only [Act.put,aSt,aSz,aSs]
           refine tk 6 177 (v:=?_) rfl HSd3.out ?_ ?_
           rotate_left;· intro V hV;go_simp;try with_reducible rfl
           try simp only [Act.put,aSt,aSz,aSs]
           refine tk 7 178 (v:=?_) rfl HSd3.out ?_ ?_
           rotate_left;· intro V hV;go_simp;try with_reducible rfl
           try simp only [Act.put,aSt,aSz,aSs]
           refine tk 8 179 (v:=.pointer (some ⟨gR,oR + q * 26,none⟩)) rfl HSd3.out ?_ ?_
           ·intro V hV
            rw [HAF.out];go_simp
           try simp only [Act.put,aSt,aSz,aSs]
           refine tk 9 180 (v:=?_) rfl HSd3.out ?_ ?_
           rotate_left;· intro V hV;go_simp;try with_reducible rfl
           try simp only [Act.put,aSt,aSz,aSs]
           refine tk 10 181 (v:=?_) rfl HSd3.out ?_ ?_
           rotate_left
           ·intro V hV
            have a1:=(HG.out V hV).2.2.2.2.2.1;go_simp;try with_reducible rfl
           try simp only [Act.put,aSt,aSz,aSs]
           have hz1:=HMEZ.out.nm;refine wpL_one 11 (o:=⟨some 182,_,_,_,_,_⟩) (by kernel_rfl) rfl (fun K hK => ?_);refine step_append_any _ rfl (.tmp 176) (.tmp 181) 46 rfl B 84 i69 _ 3 24 Tryz.underlying46 I69.out Z69.out hs69 hb69 rfl (by omega) (.slice x.Am 0 x.cm) 0 [] rfl (own_front HXM3.out) b me.Am me.nm me.cm (sts me.ms) rfl (Reads.below HMEI.out.mem HSd3.out.lo) (sts_one _) (by unfold maxLen;omega) (by omega) (HPW.out _ HSd3.out).1 ?_;intro v V3 hown hgr hor;rw [Nat.zero_add,List.nil_append] at hown;obtain ⟨A4,c4,rfl⟩:=own_slice' hown;rw [own_len x.Am 0 x.nm x.cm] at hgr hor;have HO4:=hide hown;have HR4:=hide hgr;have HB4:=hide hor;have HS3 : Hid ((fun V : World => SK b B Am cm ls w V) V3):=HSd3.out.grown HXM3.out (by decide) hb2 (HPW.out _ HSd3.out).2 hgr;have HPQV3:=hide (HPQ3.out.grown HXM3.out (by decide) (by decide) hb2 hgr);refine hK _ _ (fun _ => HS3.out) ?_;clear hK K hown hgr hor hz1;try simp only [Act.put,aSt,aSz,aSs]
           refine tk 12 21 (v:=?_) rfl HS3.out ?_ ?_
           rotate_left;· intro V hV;go_simp;try with_reducible rfl
           try simp only [Act.put,aSt,aSz,aSs]
           refine wpL_done (by kernel_rfl) ?_ _;go_upto_region 38 with fail
           obtain ⟨gM',cur,hA',hblk,_,hcz,hcap⟩:=own_box HS3.out.row HGE.out.2
           have hgo : gM = gM' ∧ oM = 0:=by
            have h1:=HAM.out.symm.trans hA';injection h1 with h1
            injection h1 with h1 h2
            exact ⟨h1,h2⟩
           obtain ⟨rfl,hz0⟩:=hgo;clear hz0
           have hsz : oM + q * 26 + 26 ≤ cur.size:=by
            have hcz2 : cur.size = cm * 26:=hcz;rw [hcz2,HOM.out];have h1 : (q + 1) * 26 ≤ cm * 26:=Nat.mul_le_mul_right _ (by have:=HLK.out;omega);omega
           have HCU:=hide hblk;have HSZ:=hide hsz;refine wp_region_lit ?_;refine wpList_value rfl (.slice Am k cm) (by go_simp) ?_;try simp only [Act.put,aSt,aSz,aSs]
           refine wpList_value rfl (.int .i64 (q : Int)) (by go_simp) ?_;try simp only [Act.put,aSt,aSz,aSs]
           refine wpList_value rfl (.slice Af fn fc) (by go_simp) ?_;try simp only [Act.put,aSt,aSz,aSs]
           refine wpList_value rfl (.int .i64 (q : Int)) (by go_simp) ?_;try simp only [Act.put,aSt,aSz,aSs]
           refine wpList_value rfl (.pointer (some ⟨gR,oR + q * 26,none⟩)) (by rw [HAF.out];go_simp) ?_;try simp only [Act.put,aSt,aSz,aSs]
           refine wpList_value rfl (.agg me.cs) (ex_load 51 (.tmp 187) rfl _ rfl me.cs _ Tryz.underlying51 rfl (ld48 _ (mk_size _)) (HG.out _ HS3.out).2.2.2.2.2.2) ?_;try simp only [Act.put,aSt,aSz,aSs]
           refine wpList_value rfl (.pointer (some ⟨gM,oM + q * 26,none⟩)) (by rw [HAM.out];go_simp) ?_;try simp only [Act.put,aSt,aSz,aSs]
           refine wpList_put_at rfl 51 (.tmp 189) (.tmp 188) rfl gM (oM + q * 26) me.cs rfl rfl 51 cur hblk (ld48 _ (mk_size _)) (by rw [mk_size];exact hsz) (by simp [Mk.cs,Value.oneCell']) _ rfl ?_;try simp only [Act.put,aSt,aSz,aSs]
           obtain ⟨cu1,hcu1⟩ : ∃ cu1,cu1 = putAt cur (oM + q * 26) me.cs:=⟨_,rfl⟩;obtain ⟨V4,hV4⟩ : ∃ V4,V4 = V3.setRow gM (putAt cur (oM + q * 26) me.cs):=⟨_,rfl⟩;have HE4 : Hid (Blk V4 gM 51 cu1):=by show Blk _ _ _ _;rw [hV4,hcu1];exact HCU.out.row _
           have HW4 : Hid (Only (fun x => x = gM) V3 V4):=by show Only _ _ _;rw [hV4];exact only_setRow V3 gM _
           have HZ4 : Hid (oM + q * 26 + 26 ≤ cu1.size):=by
            show _ ≤ _;rw [hcu1];have h1:=HSZ.out;have h2:=mk_size me;unfold putAt;simp;omega
           have HV4:=hide hV4;rw [← hV4];clear hV4 hcu1 hA' hblk hcz hcap hsz;go_upto_region 39 with fail
           refine wp_region_lit ?_;refine wpList_value rfl (.slice Am k cm) (by go_simp) ?_;try simp only [Act.put,aSt,aSz,aSs]
           refine wpList_value rfl (.int .i64 (q : Int)) (by go_simp) ?_;try simp only [Act.put,aSt,aSz,aSs]
           refine wpList_value rfl (.slice A2 me.nb c2) (by go_simp) ?_;try simp only [Act.put,aSt,aSz,aSs]
           refine wpList_value rfl (.pointer (some ⟨gM,oM + q * 26,none⟩)) (by rw [HAM.out];go_simp) ?_;try simp only [Act.put,aSt,aSz,aSs]
           have kD : V4.cell? ⟨gM,oM + q * 26 + 14,none⟩ = some ((cu1)[oM + q * 26 + 14]'(by (try simp only [Array.size_setIfInBounds]);have:=HZ4.out;omega)):=by
            rw [HE4.out.cell (oM + q * 26 + 14)];exact Array.getElem?_eq_getElem _
           have fD:=Blk.frozen HE4.out (oM + q * 26 + 14);go_upto_region 40 with fail
           clear kD fD;obtain ⟨V5,hV⟩ : ∃ V,V = World.setCell V4 ⟨gM,oM + q * 26 + 14,none⟩ (.slice A2 me.nb c2):=⟨_,rfl⟩;have hW:=only_setCell0 V4 gM (oM + q * 26 + 14) (.slice A2 me.nb c2);have HE5 : Hid (Blk V5 gM 51 ((cu1).setIfInBounds (oM + q * 26 + 14) (.slice A2 me.nb c2))):=by show Blk _ _ _ _;rw [hV];exact HE4.out.set_ _ _
           rw [← hV] at hW ⊢;have HW5:=hide (HW4.out.trans hW);have HV5:=hide hV;clear hV hW;go_upto_region 40 with fail
           refine wp_region_lit ?_;refine wpList_value rfl (.slice Am k cm) (by go_simp) ?_;try simp only [Act.put,aSt,aSz,aSs]
           refine wpList_value rfl (.int .i64 (q : Int)) (by go_simp) ?_;try simp only [Act.put,aSt,aSz,aSs]
           refine wpList_value rfl (.slice A3 me.nt c3) (by go_simp) ?_;try simp only [Act.put,aSt,aSz,aSs]
           refine wpList_value rfl (.pointer (some ⟨gM,oM + q * 26,none⟩)) (by rw [HAM.out];go_simp) ?_;try simp only [Act.put,aSt,aSz,aSs]
           have kD : V5.cell? ⟨gM,oM + q * 26 + 9,none⟩ = some (((cu1).setIfInBounds (oM + q * 26 + 14) (.slice A2 me.nb c2))[oM + q * 26 + 9]'(by (try simp only [Array.size_setIfInBounds]);have:=HZ4.out;omega)):=by
            rw [HE5.out.cell (oM + q * 26 + 9)];exact Array.getElem?_eq_getElem _
           have fD:=Blk.frozen HE5.out (oM + q * 26 + 9);go_upto_region 41 with fail
           clear kD fD;obtain ⟨V6,hV⟩ : ∃ V,V = World.setCell V5 ⟨gM,oM + q * 26 + 9,none⟩ (.slice A3 me.nt c3):=⟨_,rfl⟩;have hW:=only_setCell0 V5 gM (oM + q * 26 + 9) (.slice A3 me.nt c3);have HE6 : Hid (Blk V6 gM 51 (((cu1).setIfInBounds (oM + q * 26 + 14) (.slice A2 me.nb c2)).setIfInBounds (oM + q * 26 + 9) (.slice A3 me.nt c3))):=by show Blk _ _ _ _;rw [hV];exact HE5.out.set_ _ _
           rw [← hV] at hW ⊢;have HW6:=hide (HW5.out.trans hW);have HV6:=hide hV;clear hV hW;go_upto_region 41 with fail
           refine wp_region_lit ?_;refine wpList_value rfl (.slice Am k cm) (by go_simp) ?_;try simp only [Act.put,aSt,aSz,aSs]
           refine wpList_value rfl (.int .i64 (q : Int)) (by go_simp) ?_;try simp only [Act.put,aSt,aSz,aSs]
           refine wpList_value rfl (.slice A4 me.nm c4) (by go_simp) ?_;try simp only [Act.put,aSt,aSz,aSs]
           refine wpList_value rfl (.pointer (some ⟨gM,oM + q * 26,none⟩)) (by rw [HAM.out];go_simp) ?_;try simp only [Act.put,aSt,aSz,aSs]
           have kD : V6.cell? ⟨gM,oM + q * 26 + 8,none⟩ = some ((((cu1).setIfInBounds (oM + q * 26 + 14) (.slice A2 me.nb c2)).setIfInBounds (oM + q * 26 + 9) (.slice A3 me.nt c3))[oM + q * 26 + 8]'(by (try simp only [Array.size_setIfInBounds]);have:=HZ4.out;omega)):=by
            rw [HE6.out.cell (oM + q * 26 + 8)];exact Array.getElem?_eq_getElem _
           have fD:=Blk.frozen HE6.out (oM + q * 26 + 8);go_upto_region 34 with fail
           clear kD fD;obtain ⟨V7,hV⟩ : ∃ V,V = World.setCell V6 ⟨gM,oM + q * 26 + 8,none⟩ (.slice A4 me.nm c4):=⟨_,rfl⟩;have hW:=only_setCell0 V6 gM (oM + q * 26 + 8) (.slice A4 me.nm c4);have HE7 : Hid (Blk V7 gM 51 ((((cu1).setIfInBounds (oM + q * 26 + 14) (.slice A2 me.nb c2)).setIfInBounds (oM + q * 26 + 9) (.slice A3 me.nt c3)).setIfInBounds (oM + q * 26 + 8) (.slice A4 me.nm c4))):=by show Blk _ _ _ _;rw [hV];exact HE6.out.set_ _ _
           rw [← hV] at hW ⊢;have HW7:=hide (HW6.out.trans hW);have HV7:=hide hV;clear hV hW;obtain ⟨m2,hm2⟩ : ∃ m2 : Mk,m2 = me.at A4 c4 A3 c3 A2 c2:=⟨_,rfl⟩;have HM2:=hide hm2
           have HR7 : Hid (V7.ownsRow B 51 26 (.slice Am ls.length cm) ls.length (mkCells (ls.set q m2))):=by
            show World.ownsRow _ _ _ _ _ _ _
            have h0 : V3.ownsRow B 51 26 (.slice (some ⟨gM,0,none⟩) ls.length cm) ls.length (mkCells ls):=by
             have h1:=HS3.out.row;have h2:=HAM.out;rw [HOM.out] at h2;rw [← h2];exact h1
            have h1:=mk_four me A2 c2 A3 c3 A4 c4 h0 rfl (show q < ls.length by have:=HLK.out;omega) HCU.out;rw [HV7.out,HV6.out,HV5.out,HV4.out,HOM.out,Nat.zero_add,HAM.out,HOM.out,hm2];exact h1
           have HPS7 : Hid (PS B pin ⟨f.c,A1,c1,Ae,ke,ms⟩ (ls.set q m2) Am cm false none none V7):=by
            have ho2:=HO2.out;have ho3:=HO3.out;have ho4:=HO4.out;refine HPS1.out.laidM (m2:=m2) HX.out ?_ HR2.out ?_ HDd2.out ?_ HR3.out ?_ HDd3.out ?_ HR4.out ?_ (Below.refl _ _) HCU.out HW7.out HR7.out ?_ ?_ ?_
            ·rw [HM2.out];exact ho2
            ·rw [HM2.out];exact HB2.out
            ·rw [HM2.out];exact ho3
            ·rw [HM2.out];exact HB3.out
            ·rw [HM2.out];exact ho4
            ·rw [HM2.out];exact HB4.out
            ·rw [HM2.out];show me.nm ≤ _;have:=HMEZ.out.nm;omega
            ·rw [HM2.out];show me.nt ≤ _;have:=HMEZ.out.nt;omega
            ·rw [HM2.out];show me.nb ≤ _;have:=HMEZ.out.nb;omega
           have HPQ7:=hide (HPQV3.out.only (Blk.ne_ty HCU.out HPQV3.out.bp (by decide)) (Blk.ne_ty HCU.out HPQV3.out.bs (by decide)) (Blk.ne_ty HCU.out HPQV3.out.bt (by decide)) (by have:=HGE.out.1;omega) HW7.out)
           have HMZ7 : Hid (∀ m ∈ ls.set q m2,MkZ m):=fun m hm => by
            rcases List.mem_or_eq_of_mem_set hm with h1 | rfl
            ·exact HMZ.out m h1
            ·rw [HM2.out]
             have z:=HMEZ.out;exact ⟨z.nm,z.nt,z.nb,z.bd,z.key,z.val,z.old,z.rv⟩
           have HLQ : Hid (PL3 b B p3 p4 pin C0 s t w k ⟨f.c,A1,c1,Ae,ke,ms⟩ Am cm (.int .i64 ((q : Int) + 1)) V7):=⟨q + 1,ls.set q m2,by omega,by go_num,HPS7.out,HPQ7.out,by rw [List.length_set];exact HLK.out,HMZ7.out⟩;clear HPS7 HPQ7 HMZ7 HR7 HW4 HW5 HW6 HW7 HE4 HE5 HE6 HE7 HV4 HV5 HV6 HV7;go_wp2_with fail;go_roundw
           case rel => first | exact HLQ.out | exact ⟨_,HLQ.out,rfl⟩ | exact ⟨_,_,HLQ.out,rfl,rfl⟩
           case measure => simp [intOf];omega
          ·skip
           have qs : ¬ (q : Int) < (k : Int):=by omega
           clear hlt;have HFV2 : Hid (f.c.votes.length ≤ 1048576):=HFS.out.vn;have HMS : Hid (ms.length ≤ 1048576):=by show _ ≤ _;have h1:=HFS.out.mn;have h2:=HFS.out.len;have h3:=HMN.out;omega
           have HKB : Hid (k ≤ 1048576):=HKBD.out;obtain ⟨sm,hsm⟩ : ∃ sm : Sm,sm = ⟨f.c,A1,c1,Ae,ke,ms⟩:=⟨_,rfl⟩;have HSM:=hide hsm;rw [← hsm] at HPS;have HST : Hid (∀ V V' : World,(PS B pin sm ls Am cm false none none V ∧ PQ b p3 p4 C0 s t w V) → Below V.heap.size V V' → PS B pin sm ls Am cm false none none V' ∧ PQ b p3 p4 C0 s t w V'):=fun V V' h hb => ⟨h.1.step hb,h.2.step hb⟩
           have HF0 : Hid (PS B pin sm ls Am cm false none none wi ∧ PQ b p3 p4 C0 s t w wi):=⟨HPS.out,HPQ.out⟩
           have HLO : Hid (∀ V : World,(PS B pin sm ls Am cm false none none V ∧ PQ b p3 p4 C0 s t w V) → Below w.heap.size w V):=fun V h => by
            rw [← HBW.out];exact h.2.lo
           have HEVm : Hid (∀ m ∈ sm.ms,EvOk m):=by show ∀ m ∈ sm.ms,EvOk m;rw [hsm];exact HEV.out
           have HVm : Hid (sm.c.votes.length ≤ 1048576 ∧ sm.ms.length ≤ 1048576):=by show _ ∧ _;rw [hsm];exact ⟨HFV2.out,HMS.out⟩
           clear hsm;obtain ⟨px,hpx⟩ : ∃ px,px = S (printS sm.sc).1:=⟨_,rfl⟩;obtain ⟨pn,hpn⟩ : ∃ pn,pn = (printS sm.sc).2:=⟨_,rfl⟩;obtain ⟨tx,htx⟩ : ∃ tx,tx = S (resT ls):=⟨_,rfl⟩;obtain ⟨tn_,htn⟩ : ∃ tn_,tn_ = resN ls:=⟨_,rfl⟩;obtain ⟨er,her⟩ : ∃ er,er = Cfg.err sm.c:=⟨_,rfl⟩;have HIN : Hid (∀ V : World,(PS B pin sm ls Am cm false none none V ∧ PQ b p3 p4 C0 s t w V) → SmIn V V.heap.size sm):=fun V h => h.1.script (by have:=HVm.out;omega) (by have:=HVm.out;omega)
           have HCP : Hid (∀ V : World,(PS B pin sm ls Am cm false none none V ∧ PQ b p3 p4 C0 s t w V) → Calls Tryz.prog 11 #[.agg sm.cs] V fun e w' => e = .returned (.tuple #[.string px,.int .i64 pn]) ∧ Below V.heap.size V w'):=fun V h => by
            rw [hpx,hpn];exact pprint_script sm V (HIN.out V h) (by have:=HVm.out;omega) (by have:=HVm.out;omega) HEVm.out (HOT.out.below (HLO.out V h) h0w) (HTB.out.below (HLO.out V h))
           have HCT : Hid (∀ V : World,(PS B pin sm ls Am cm false none none V ∧ PQ b p3 p4 C0 s t w V) → Calls Tryz.prog 12 #[.slice Am k cm] V fun e w' => e = .returned (.tuple #[.string tx,.int .i64 tn_]) ∧ Below V.heap.size V w'):=fun V h => by
            rw [htx,htn];have h0:=h.1.marks;rw [HLK.out] at h0;exact pprint_any Am k cm ls V h0 HMZ.out HKB.out (HTB.out.below (HLO.out V h)) (HKT.out.below (HLO.out V h))
           have HSO : Hid (∀ V : World,(PS B pin sm ls Am cm false none none V ∧ PQ b p3 p4 C0 s t w V) → Calls Tryz.prog 22 #[.agg sm.cs] V fun e w' => ∃ s' : Sm,e = .returned (.agg s'.cs) ∧ s'.sc = sm.sc ∧ SmIn w' w'.heap.size s' ∧ (∀ m ∈ s'.ms,EvOk m) ∧ Below V.heap.size V w'):=fun V h => by
            refine (scriptOf_row sm V (HIN.out V h) (by have:=HVm.out;omega) (by have:=HVm.out;omega) (fun m hm => by have:=(HEVm.out m hm).bulk;omega)).mono ?_;rintro e w' ⟨s',rfl,hsc,hso,_,hb⟩;exact ⟨s',rfl,hsc,⟨Reads.of_own hso.vot,Reads.of_own hso.row,fun m hm => (hso.ent m hm).inn,by have:=hso.hv;omega,by have:=hso.hn;omega⟩,copy_ok hsc HEVm.out (HIN.out V h).ent (fun m hm => (hso.ent m hm).inn),hb⟩
           have HRP : Hid (∀ (V : World) (s' : Sm),s'.sc = sm.sc → SmIn V V.heap.size s' → (∀ m ∈ s'.ms,EvOk m) → Calls Tryz.prog 14 #[.agg s'.cs] V fun e w' => e = .returned (.tuple #[.string px,.int .i64 pn]) ∧ Below V.heap.size V w'):=fun V s' hsc hin hok => by
            have h1:=copy_votes hsc;have h2:=rprint_script s' V hin (by rw [h1.1];have:=HVm.out;omega) (by rw [h1.2];have:=HVm.out;omega) hok;rw [hsc] at h2;rw [hpx,hpn];exact h2
           have HMO : Hid (∀ V : World,(PS B pin sm ls Am cm false none none V ∧ PQ b p3 p4 C0 s t w V) → Calls Tryz.prog 23 #[.slice Am k cm] V fun e w' => ∃ A' c' l',e = .returned (.slice A' k c') ∧ SameC ls l' ∧ MsIn w' w'.heap.size A' k l' ∧ Below V.heap.size V w'):=fun V h => by
            have h0:=h.1.marks;rw [HLK.out] at h0;refine (marksOf_row Am k cm ls V h0 HKB.out).mono ?_;rintro e w' ⟨A',c',l',rfl,hsa,hown,hent,_,hb⟩;exact ⟨A',c',l',rfl,hsa,⟨Reads.of_own hown,fun m hm => (hent m hm).inn⟩,hb⟩
           have HRT : Hid (∀ (V : World) (A' : Option Addr) (c' : Nat) (l' : List Mk),SameC ls l' → MsIn V V.heap.size A' k l' → Calls Tryz.prog 15 #[.slice A' k c'] V fun e w' => e = .returned (.tuple #[.string tx,.int .i64 tn_]) ∧ Below V.heap.size V w'):=fun V A' c' l' hsa hin => by
            have h1:=rprint_any A' k c' l' V hin (SameC.sz hsa HMZ.out) HKB.out;rw [same_T hsa,same_N hsa,← htx,← htn] at h1;exact h1
           have HCC : Hid (∀ V : World,(PS B pin sm ls Am cm false none none V ∧ PQ b p3 p4 C0 s t w V) → Calls Tryz.prog 10 #[.agg (cfC sm.c sm.A sm.k)] V fun e w' => e = .returned (.int .i64 er) ∧ Below V.heap.size V w'):=fun V h => by
            rw [her];refine (check_any sm.c.nodes sm.c.window sm.c.base sm.c.step sm.c.cap sm.c.room sm.c.floor sm.c.votes sm.A sm.c.votes.length sm.k V (HIN.out V h).vot (by have:=HVm.out;omega)).mono ?_;rintro e w' ⟨h1,rfl⟩;exact ⟨h1,(Below.refl _ _).alloc (Nat.le_refl _) _⟩
           have HRC : Hid (∀ V : World,(PS B pin sm ls Am cm false none none V ∧ PQ b p3 p4 C0 s t w V) → Calls Tryz.prog 26 #[.agg (cfC sm.c sm.A sm.k)] V fun e w' => e = .returned (.int .i64 er) ∧ Below V.heap.size V w'):=fun V h => by
            rw [her];refine (rcheck_any sm.c.nodes sm.c.window sm.c.base sm.c.step sm.c.cap sm.c.room sm.c.floor sm.c.votes sm.A sm.c.votes.length sm.k V (HIN.out V h).vot (by have:=HVm.out;omega)).mono ?_;rintro e w' ⟨h1,rfl⟩;exact ⟨h1,(Below.refl _ _).alloc (Nat.le_refl _) _⟩
           clear hpx hpn htx htn her HPS HPQ;go_upto_region 42 with fail
           clear qs;refine wp_region_lit ?_;refine wpList_value rfl (.agg sm.cs) (ex_load 27 (.tmp 9) rfl _ rfl _ _ Tryz.underlying27 rfl (ld47 _ (sm_size _)) (box_all HF0.out.1.bx)) ?_;try simp only [Act.put,aSt,aSz,aSs]
           refine wpList_step (fun K hK => ?_);rw [if_pos (by rfl)];go_simp;go_at_call 11;refine (HCP.out wi HF0.out).mono ?_;rintro e X1 ⟨rfl,hb1⟩;have HF1:=hide (HST.out wi X1 HF0.out hb1);refine hK _ _ ?_;clear hK K hb1 HF0;try simp only [Act.put,aSt,aSz,aSs]
           go_upto_region 44 with (go_at_call 12;refine (HCT.out X1 HF1.out).mono ?_;rintro e X2 ⟨rfl,hbx⟩;have HF2:=hide (HST.out X1 X2 HF1.out hbx);clear hbx)
           clear HF1;refine wp_region_lit ?_;refine wpList_value rfl (.agg sm.cs) (ex_load 27 (.tmp 9) rfl _ rfl _ _ Tryz.underlying27 rfl (ld47 _ (sm_size _)) (box_all HF2.out.1.bx)) ?_;try simp only [Act.put,aSt,aSz,aSs]
           refine wpList_step (fun K hK => ?_);rw [if_pos (by rfl)];go_simp;go_at_call 22;refine (HSO.out X2 HF2.out).mono ?_;rintro e X3 ⟨s',rfl,hsc,hin,hok,hbx⟩;have HF3:=hide (HST.out X2 X3 HF2.out hbx);have HR3:=hide (HRP.out X3 s' hsc hin hok);refine hK _ _ ?_;clear hK K hbx HF2 hsc hin hok;try simp only [Act.put,aSt,aSz,aSs]
           refine wpList_step (fun K hK => ?_);rw [if_pos (by rfl)];go_simp;go_at_call 14;refine HR3.out.mono ?_;rintro e X4 ⟨rfl,hbx⟩;have HF4:=hide (HST.out X3 X4 HF3.out hbx);refine hK _ _ ?_;clear hK K hbx HF3 HR3;try simp only [Act.put,aSt,aSz,aSs]
           go_upto_region 46 with first
            | (go_at_call 23;refine (HMO.out X4 HF4.out).mono ?_;rintro e X5 ⟨A5,c5,l5,rfl,hsa,hmi,hbx⟩;have HF5:=hide (HST.out X4 X5 HF4.out hbx);have HR5:=hide (HRT.out X5 A5 c5 l5 hsa hmi);clear hbx hsa hmi)
            | (go_at_call 15;refine HR5.out.mono ?_;rintro e X6 ⟨rfl,hbx⟩;have HF6:=hide (HST.out X5 X6 HF5.out hbx);clear hbx)
           clear HF4 HF5 HR5;refine wp_region_L [] (fun V : World => PS B pin sm ls Am cm false none none V ∧ PQ b p3 p4 C0 s t w V) (by kernel_rfl) ?_;obtain ⟨d6,hwd⟩ : ∃ wd,wd = X6.drew:=⟨_,rfl⟩;rw [← hwd];have HSd6 : Hid ((fun V : World => PS B pin sm ls Am cm false none none V ∧ PQ b p3 p4 C0 s t w V) d6):=HST.out X6 d6 HF6.out (by rw [hwd];exact (Below.refl _ _).drew);clear hwd
           have q1 : (px != px) = false:=by
            have h1 : (px.toList == px.toList) = true:=by simp
            rw [bne,beq_toListBytes,h1]
            rfl
           have q2 : (tx != tx) = false:=by
            have h1 : (tx.toList == tx.toList) = true:=by simp
            rw [bne,beq_toListBytes,h1]
            rfl
           have q4 : (pn != pn) = false:=by simp
           have q5 : (tn_ != tn_) = false:=by simp
           have q6 : (er != er) = false:=by simp
           refine tk 0 227 (v:=?_) rfl HSd6.out ?_ ?_
           rotate_left;· intro V hV;go_simp;try with_reducible rfl
           try simp only [Act.put,aSt,aSz,aSs]
           refine tk 1 228 (v:=?_) rfl HSd6.out ?_ ?_
           rotate_left;· intro V hV;go_simp;try with_reducible rfl
           try simp only [Act.put,aSt,aSz,aSs]
           refine tk 2 229 (v:=.bool false) rfl HSd6.out ?_ ?_
           ·intro V hV
            go_simp
            all_goals first | exact q1 | rfl | simp
           try simp only [Act.put,aSt,aSz,aSs]
           refine tk 3 230 (v:=?_) rfl HSd6.out ?_ ?_
           rotate_left;· intro V hV;go_simp;try with_reducible rfl
           try simp only [Act.put,aSt,aSz,aSs]
           refine tk 4 231 (v:=?_) rfl HSd6.out ?_ ?_
           rotate_left;· intro V hV;go_simp;try with_reducible rfl
           try simp only [Act.put,aSt,aSz,aSs]
           refine tk 6 233 (v:=?_) rfl HSd6.out ?_ ?_
           rotate_left;· intro V hV;go_simp;try with_reducible rfl
           try simp only [Act.put,aSt,aSz,aSs]
           refine wpL_one 5 (by kernel_rfl) rfl (fun K hK => ?_);rw [if_pos (by rfl)];go_simp;go_at_call 17;refine (numz_any _ _).mono ?_;rintro e V ⟨rfl,rfl⟩;refine hK _ _ (fun _ => HSd6.out) ?_;clear hK K;try simp only [Act.put,aSt,aSz,aSs]
           refine tk 7 234 (v:=.bool false) rfl HSd6.out ?_ ?_
           ·intro V hV
            go_simp
            all_goals first | exact q4 | rfl | simp
           try simp only [Act.put,aSt,aSz,aSs]
           refine tk 8 235 (v:=?_) rfl HSd6.out ?_ ?_
           rotate_left;· intro V hV;go_simp;try with_reducible rfl
           try simp only [Act.put,aSt,aSz,aSs]
           refine tk 9 236 (v:=?_) rfl HSd6.out ?_ ?_
           rotate_left;· intro V hV;go_simp;try with_reducible rfl
           try simp only [Act.put,aSt,aSz,aSs]
           refine tk 10 237 (v:=?_) rfl HSd6.out ?_ ?_
           rotate_left;· intro V hV;go_simp;try with_reducible rfl
           try simp only [Act.put,aSt,aSz,aSs]
           refine tk 11 238 (v:=?_) rfl HSd6.out ?_ ?_
           rotate_left;· intro V hV;go_simp;try with_reducible rfl
           try simp only [Act.put,aSt,aSz,aSs]
           refine tk 12 239 (v:=.bool false) rfl HSd6.out ?_ ?_
           ·intro V hV
            go_simp
            all_goals first | exact q2 | rfl | simp
           try simp only [Act.put,aSt,aSz,aSs]
           refine tk 13 240 (v:=?_) rfl HSd6.out ?_ ?_
           rotate_left;· intro V hV;go_simp;try with_reducible rfl
           try simp only [Act.put,aSt,aSz,aSs]
           refine tk 14 241 (v:=?_) rfl HSd6.out ?_ ?_
           rotate_left;· intro V hV;go_simp;try with_reducible rfl
           try simp only [Act.put,aSt,aSz,aSs]
           refine tk 15 242 (v:=?_) rfl HSd6.out ?_ ?_
           rotate_left;· intro V hV;go_simp;try with_reducible rfl
           try simp only [Act.put,aSt,aSz,aSs]
           refine tk 17 244 (v:=?_) rfl HSd6.out ?_ ?_
           rotate_left;· intro V hV;go_simp;try with_reducible rfl
           try simp only [Act.put,aSt,aSz,aSs]
           refine wpL_one 16 (by kernel_rfl) rfl (fun K hK => ?_);rw [if_pos (by rfl)];go_simp;go_at_call 17;refine (numz_any _ _).mono ?_;rintro e V ⟨rfl,rfl⟩;refine hK _ _ (fun _ => HSd6.out) ?_;clear hK K;try simp only [Act.put,aSt,aSz,aSs]
           refine tk 18 245 (v:=.bool false) rfl HSd6.out ?_ ?_
           ·intro V hV
            go_simp
            all_goals first | exact q5 | rfl | simp
           try simp only [Act.put,aSt,aSz,aSs]
           refine tk 19 246 (v:=?_) rfl HSd6.out ?_ ?_
           rotate_left;· intro V hV;go_simp;try with_reducible rfl
           try simp only [Act.put,aSt,aSz,aSs]
           refine tk 20 247 (v:=?_) rfl HSd6.out ?_ ?_
           rotate_left;· intro V hV;go_simp;try with_reducible rfl
           try simp only [Act.put,aSt,aSz,aSs]
           refine tk 21 248 (v:=?_) rfl HSd6.out ?_ ?_
           rotate_left;· intro V hV;go_simp;try with_reducible rfl
           try simp only [Act.put,aSt,aSz,aSs]
           refine tk 22 249 (v:=.agg (cfC sm.c sm.A sm.k)) rfl HSd6.out ?_ ?_
           ·intro V hV;exact ex_load 24 (.tmp 248) rfl _ rfl _ _ Tryz.underlying24 rfl (ld44 _ rfl) (sm_pre hV.1.bx)
           try simp only [Act.put,aSt,aSz,aSs]
           refine tk 25 252 (v:=?_) rfl HSd6.out ?_ ?_
           rotate_left;· intro V hV;go_simp;try with_reducible rfl
           try simp only [Act.put,aSt,aSz,aSs]
           refine tk 26 253 (v:=.agg (cfC sm.c sm.A sm.k)) rfl HSd6.out ?_ ?_
           ·intro V hV;exact ex_load 24 (.tmp 252) rfl _ rfl _ _ Tryz.underlying24 rfl (ld44 _ rfl) (sm_pre hV.1.bx)
           try simp only [Act.put,aSt,aSz,aSs]
           refine wpL_one 23 (by kernel_rfl) rfl (fun K hK => ?_);rw [if_pos (by rfl)];go_simp;go_at_call 10;refine (HCC.out d6 HSd6.out).mono ?_;rintro e Y1 ⟨rfl,hbx⟩;have HSy1 : Hid ((fun V : World => PS B pin sm ls Am cm false none none V ∧ PQ b p3 p4 C0 s t w V) Y1):=HST.out d6 Y1 HSd6.out hbx;refine hK _ _ (fun _ => HSy1.out) ?_;clear hK K hbx;try simp only [Act.put,aSt,aSz,aSs]
           refine wpL_one 24 (by kernel_rfl) rfl (fun K hK => ?_);rw [if_pos (by rfl)];go_simp;go_at_call 17;refine (numz_any _ _).mono ?_;rintro e V ⟨rfl,rfl⟩;refine hK _ _ (fun _ => HSy1.out) ?_;clear hK K;try simp only [Act.put,aSt,aSz,aSs]
           refine wpL_one 27 (by kernel_rfl) rfl (fun K hK => ?_);rw [if_pos (by rfl)];go_simp;go_at_call 26;refine (HRC.out Y1 HSy1.out).mono ?_;rintro e Y2 ⟨rfl,hbx⟩;have HSy2 : Hid ((fun V : World => PS B pin sm ls Am cm false none none V ∧ PQ b p3 p4 C0 s t w V) Y2):=HST.out Y1 Y2 HSy1.out hbx;refine hK _ _ (fun _ => HSy2.out) ?_;clear hK K hbx;try simp only [Act.put,aSt,aSz,aSs]
           refine tk 28 255 (v:=.bool false) rfl HSy2.out ?_ ?_
           ·intro V hV
            go_simp
            all_goals first | exact q6 | rfl | simp
           try simp only [Act.put,aSt,aSz,aSs]
           refine tk 29 256 (v:=?_) rfl HSy2.out ?_ ?_
           rotate_left;· intro V hV;go_simp;try with_reducible rfl
           try simp only [Act.put,aSt,aSz,aSs]
           refine wpL_done (by kernel_rfl) ?_ _;clear q1 q2 q4 q5 q6
           have HLJ : Hid (PL1 b B p3 p4 pin C0 s t w n k Ae ke Am cm (.int .i64 ((j : Int) + 1)) Y2):=by
            have h1:=HSy2.out.1;rw [HSM.out] at h1;exact ⟨j + 1,⟨f.c,A1,c1,Ae,ke,ms⟩,ls,by omega,by go_num,rfl,rfl,h1,HSy2.out.2,HMN.out,HLK.out,HFV2.out,HEV.out,HMZ.out⟩
           go_wp2_with fail;go_roundw
           case rel => first | exact HLJ.out | exact ⟨_,HLJ.out,rfl⟩ | exact ⟨_,_,HLJ.out,rfl,rfl⟩
           case measure => simp [intOf];omega
     ·skip
      have js : ¬ (j : Int) < 3:=by omega
      clear hlt;go_wp2_with fail;go_ret;exact ⟨rfl,by have:=HPQ.out.lo;rw [HBW.out] at this;exact this⟩
end Go.Proofs.YtcibcmfaebbhnaaGreatDoor
