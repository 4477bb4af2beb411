/-
  (*Lent).event: an event whose lists are lent. (*Lent).members: a list lent, with 64 marks behind its end. (Printed by wip/tools/mklen.py.) (*Lent).kept: all marks are there.
-/
import Derived.Test.YtcibcmfaebbhnaaGreatDoorLLtb
import Derived.Test.YtcibcmfaebbhnaaGreatDoorLPrp
import Derived.Test.YtcibcmfaebbhnaaGreatDoorLLnk
import Derived.Test.YtcibcmfaebbhnaaGreatDoorLSco
import Derived.Test.YtcibcmfaebbhnaaGreatDoorLWords
set_option linter.unusedSimpArgs false
set_option linter.unusedVariables false
set_option maxRecDepth 100000
set_option maxHeartbeats 4000000

namespace Go.Proofs.YtcibcmfaebbhnaaGreatDoor
open Go.RowKit Go.WideShapes Go.ChangeShapes Q
theorem LStep.new {b p : Nat} {w w1 w2 : World} (h : LStep b w w1) (ho : Only (fun k => k = p) w1 w2) (hp : w.heap.size ≤ p) : LStep b w w2:=Only.trans' h ho (fun k hk e => by
 have e2 : k = p:=e;omega)
theorem not4_E : ¬ LT4 33:=by unfold LT4;decide
theorem not7_E : ¬ LT7 33:=by unfold LT7 LT4;decide
def LevP (b g K : Nat) (m : Em) (w : World) (e : Ending) (w' : World) : Prop:=∃ m' : Em,e = .returned (.agg m'.cs) ∧ m'.ev = m.ev ∧ m'.ns = m.ns ∧ m'.nb = m.nb ∧ EmU w' w.heap.size m' ∧ LK w' b g K ∧ LStep b w w'
theorem lent_event (b g K : Nat) (m : Em) (w : World) (h : LK w b g K) (hb : b ≤ w.heap.size) (hm : EmIn w b m) (hsn : m.ns ≤ 10000000) (hbn : m.nb ≤ 10000000) (hK : K ≤ 9999999) :
  Calls Tryz.prog 7 #[.pointer (some ⟨g,0,none⟩),.agg m.cs] w fun e w' => LevP b g (K + 2) m w e w':=by
 have HLK:=hide h;have HIN:=hide hm;have HSN:=hide hsn;have HBN:=hide hbn;clear h hm hsn hbn;obtain ⟨C0,hC0⟩ : ∃ C0,C0 = m.cs:=⟨_,rfl⟩;rw [← hC0];have HC0:=hide hC0;clear hC0;go_enter Tryz.func7,Tryz.ntmps7;go_upto_region 1 with fail
 obtain ⟨Z,hZ0,hZs⟩ : ∃ Z : Array Value,Z = Em.zero.cs ∧ Z.size = 13:=⟨_,rfl,rfl⟩;generalize hW0 : World.alloc (World.alloc w _) _ = W0
 have HP0 : Hid (Blk W0 w.heap.size 33 C0):=by
  show Blk _ _ _ _;rw [← hW0];exact (Blk.new _ _ _).alloc _
 have HR0 : Hid (Blk W0 (w.heap.size + 1) 33 Z):=by
  show Blk _ _ _ _;rw [← hW0,hZ0];exact blk_new _ _ _ _ (by simp)
 have HW0 : Hid (Below w.heap.size w W0):=by
  show Below _ _ _;rw [← hW0];exact ((Below.refl _ _).alloc (Nat.le_refl _) _).alloc (by simp) _
 clear hW0 hZ0;have hs0 : w.heap.size ≤ W0.heap.size:=HW0.out.size;have HLK0:=hide (HLK.out.step HW0.out);have HS0 : Hid (LStep b w W0):=LStep.of_below HW0.out;have HIN0 : Hid (EmIn W0 W0.heap.size m):=(HIN.out.below (HS0.out.below hb)).up (by omega);have HBY:=hide (lent_bytes b g K m.Ab m.nb m.cb (Lib.byteCells m.bd) W0 HLK0.out (by omega) HIN0.out.body (one_bytes _) HBN.out (by omega))
 have kC : W0.cell? ⟨w.heap.size,4,none⟩ = some (.slice m.Ab m.nb m.cb):=by
  have:=HP0.out.cell 4;rw [this,HC0.out]
  rfl
 have HKD : Hid (∀ W : World,Blk W w.heap.size 33 C0 → W.cell? ⟨w.heap.size,4,none⟩ = some (.slice m.Ab m.nb m.cb)):=fun W hW => by
  rw [hW.cell 4,HC0.out]
  rfl
 go_upto_region 2 with (go_at_call 8;refine HBY.out.mono ?_;rintro e wa ⟨gA,c1,rfl,hlk,hown,hst⟩;have HLKa:=hide hlk;have HOa:=hide hown;have HSa:=hide hst;have HPa:=hide (hst.blk HP0.out not4_E);have HRa:=hide (hst.blk HR0.out not4_E);have kD:=HKD.out wa HPa.out;have fD:=Blk.frozen HPa.out 4;clear hlk hown hst)
 clear kC kD fD HBY HKD;have hWW:=only_setCell0 wa w.heap.size 4 (.slice (some ⟨gA,0,none⟩) m.nb c1);obtain ⟨W1,hW⟩ : ∃ W,W = World.setCell wa ⟨w.heap.size,4,none⟩ (.slice (some ⟨gA,0,none⟩) m.nb c1):=⟨_,rfl⟩;obtain ⟨C1,hC⟩ : ∃ C,C = C0.setIfInBounds 4 (.slice (some ⟨gA,0,none⟩) m.nb c1):=⟨_,rfl⟩
 have HP1 : Hid (Blk W1 w.heap.size 33 C1):=by
  show Blk _ _ _ _;rw [hW,hC];exact HPa.out.set_ 4 _
 have HR1 : Hid (Blk W1 (w.heap.size + 1) 33 Z):=by
  show Blk _ _ _ _;rw [hW];exact HRa.out.far (by simp) _
 rw [← hW] at hWW ⊢
 have hap : ∀ t,¬ t = 33 → Apart wa (fun k => k = w.heap.size) t:=fun t ht k hk e => by
  have e2 : k = w.heap.size:=e;subst e2;exact ⟨_,_,HPa.out,fun e3 => ht e3.symm⟩
 have HO1:=hide (own_apart HOa.out hWW (hap _ (by decide)));have HLK1:=hide (HLKa.out.one HPa.out not7_E hWW);have HS1 : Hid (LStep b w W1):=LStep.new (HS0.out.trans HSa.out) hWW (Nat.le_refl _);have HC1:=hide hC;clear hW hC hWW hap HPa HRa HOa HLKa HSa HIN0 HLK0 HP0 HR0 HS0 HW0;have hs1 : w.heap.size ≤ W1.heap.size:=HS1.out.size;have HIN1 : Hid (EmIn W1 W1.heap.size m):=(HIN.out.below (HS1.out.below hb)).up (by omega);have HIT:=hide (lent_ints b g (K + 1) m.As m.ns m.cs' (ints m.sd) W1 HLK1.out (by omega) HIN1.out.sid (one_ints _) HSN.out (by omega))
 have kC : W1.cell? ⟨w.heap.size,12,none⟩ = some (.slice m.As m.ns m.cs'):=by
  have:=HP1.out.cell 12;rw [this,HC1.out,HC0.out]
  rfl
 have HKE : Hid (∀ W : World,Blk W w.heap.size 33 C1 → W.cell? ⟨w.heap.size,12,none⟩ = some (.slice m.As m.ns m.cs')):=fun W hW => by
  rw [hW.cell 12,HC1.out,HC0.out]
  rfl
 go_upto_region 3 with (go_at_call 6;refine HIT.out.mono ?_;rintro e wa ⟨gB,c2,rfl,hlk,hown,hst⟩;have HLKa:=hide hlk;have HOa:=hide hown;have HSa:=hide hst;have HPa:=hide (hst.blk HP1.out not4_E);have HRa:=hide (hst.blk HR1.out not4_E);have kD:=HKE.out wa HPa.out;have fD:=Blk.frozen HPa.out 12;clear hlk hown hst)
 clear kC kD fD HIT HKE;have hWW:=only_setCell0 wa w.heap.size 12 (.slice (some ⟨gB,0,none⟩) m.ns c2);obtain ⟨W2,hW⟩ : ∃ W,W = World.setCell wa ⟨w.heap.size,12,none⟩ (.slice (some ⟨gB,0,none⟩) m.ns c2):=⟨_,rfl⟩;obtain ⟨m',hm'⟩ : ∃ m' : Em,m' = { m with Ab:=some ⟨gA,0,none⟩,cb:=c1,As:=some ⟨gB,0,none⟩,cs':=c2 }:=⟨_,rfl⟩
 have HP2 : Hid (Blk W2 w.heap.size 33 m'.cs):=by
  show Blk _ _ _ _;rw [hW];have h1:=HPa.out.set_ 12 (.slice (some ⟨gB,0,none⟩) m.ns c2);rw [HC1.out,HC0.out] at h1;rw [hm'];exact h1
 have HR2 : Hid (Blk W2 (w.heap.size + 1) 33 Z):=by
  show Blk _ _ _ _;rw [hW];exact HRa.out.far (by simp) _
 rw [← hW] at hWW ⊢
 have hap : ∀ t,¬ t = 33 → Apart wa (fun k => k = w.heap.size) t:=fun t ht k hk e => by
  have e2 : k = w.heap.size:=e;subst e2;exact ⟨_,_,HPa.out,fun e3 => ht e3.symm⟩
 have HO2:=hide (own_apart HOa.out hWW (hap _ (by decide)));have HO12:=hide (own_apart (HSa.out.own HO1.out not4_5) hWW (hap _ (by decide)));have HLK2:=hide (HLKa.out.one HPa.out not7_E hWW);have HS2 : Hid (LStep b w W2):=LStep.new (HS1.out.trans HSa.out) hWW (Nat.le_refl _);have HM':=hide hm'
 have HM : Hid (m'.ev = m.ev ∧ m'.ns = m.ns ∧ m'.nb = m.nb):=by
  show _ ∧ _;rw [hm'];exact ⟨rfl,rfl,rfl⟩
 clear hW hWW hap HPa HRa HOa HLKa HSa HIN1 HLK1 HP1 HR1 hm' HC1 HC0;refine wp_region_lit ?_;refine wpList_value rfl (.agg m'.cs) (ex_load 33 (.tmp 3) rfl _ rfl m'.cs _ Tryz.underlying33 rfl (ld29 _ (em_size _)) (ebox_all HP2.out)) ?_;try simp only [Act.put,aSt,aSz,aSs]
 refine wpList_put_at rfl 33 (.tmp 4) (.tmp 15) rfl (w.heap.size + 1) 0 m'.cs rfl rfl 33 Z HR2.out (ld29 _ (em_size _)) (by rw [em_size,hZs];omega) (ecs_all m') _ (eput_zero Z hZs m') ?_;try simp only [Act.put,aSt,aSz,aSs]
 go_wp2_with fail;refine bodyPost_ret (results_29 rfl _ rfl (HR2.out.row _)) rfl ?_;have hO:=only_setRow W2 (w.heap.size + 1) m'.cs
 have hA : ∀ t,¬ t = 33 → Apart W2 (fun k => k = w.heap.size + 1) t:=fun t ht k hk e => by
  have e2 : k = w.heap.size + 1:=e;subst e2;exact ⟨_,_,HR2.out,fun e3 => ht e3.symm⟩
 have k1:=own_base (own_apart HO2.out hO (hA _ (by decide))) hs1;have k0:=own_base (own_apart HO12.out hO (hA _ (by decide))) hs0;have kl:=HLK2.out.one HR2.out not7_E hO;have ks : LStep b w (W2.setRow (w.heap.size + 1) m'.cs):=LStep.new HS2.out hO (by omega);refine ⟨m',rfl,HM.out.1,HM.out.2.1,HM.out.2.2,?_,kl,ks⟩;generalize W2.setRow (w.heap.size + 1) m'.cs = X at k1 k0 ⊢;rw [HM'.out];exact ⟨k1,RB.of_own k0,by show m.ns ≤ _;have:=HSN.out;omega,by show m.nb ≤ _;have:=HBN.out;omega⟩
theorem lent_members (b g K : Nat) (A : Option Addr) (n c : Nat) (xs : List Value) (w : World) (h : LK w b g K) (hb : b ≤ w.heap.size) (hr : Reads w w.heap.size 3 A n xs) (h1 : ∀ u ∈ xs,u.oneCell' = true) (hn : n ≤ 10000000) (hK : K ≤ 10000000) :
  Calls Tryz.prog 9 #[.pointer (some ⟨g,0,none⟩),.slice A n c] w fun e w' => LnP b g (K + 1) 84 3 n xs w e w':=by
 have HLK:=hide h;have HR:=hide hr;have H1:=hide h1;obtain ⟨i3,hi3,hz3,hs3,hb3⟩:=info_parts infoM;obtain ⟨iL,hiL,hzL,hsL,hbL⟩:=info_parts infoL3;have I3:=hide hi3;have Z3:=hide hz3;have IL:=hide hiL;have ZL:=hide hzL;have hxl : xs.length = n * 3:=hr.1;have HXL:=hide hxl;clear hi3 hz3 hiL hzL h hr h1 hxl;have HNO : Hid ((w.alloc (.cells #[] 84)).ownsRow w.heap.size 84 3 (.slice (some ⟨w.heap.size,0,none⟩) 0 0) 0 []):=own_none (Blk.new w 84 #[]) (Nat.le_refl _);have HRA : Hid (Reads (w.alloc (.cells #[] 84)) w.heap.size 3 A n xs):=Reads.alloc HR.out (Nat.le_refl _) _;have hbase : w.heap.size ≤ (w.alloc (.cells #[] 84)).heap.size:=by simp
 go_enter Tryz.func9,Tryz.ntmps9;go_upto_region 1 with fail
 refine wp_region_lit ?_;refine wpList_step (fun K' hK' => ?_);rw [if_pos (by rfl)];go_simp;refine hK' _ _ ?_;clear hK' K';try simp only [Act.put,aSt,aSz,aSs]
 refine wpList_value rfl (.slice A n c) (by go_simp) ?_;try simp only [Act.put,aSt,aSz,aSs]
 refine wpList_append_any _ rfl (.tmp 7) (.tmp 8) 46 rfl w.heap.size 84 i3 _ 3 24 Tryz.underlying46 I3.out Z3.out hs3 hb3 rfl (by omega) (.slice (some ⟨w.heap.size,0,none⟩) 0 0) 0 [] rfl HNO.out w.heap.size A n c xs rfl HRA.out H1.out (by unfold maxLen;omega) (by omega) hbase ?_;intro v wa hown hgr _;rw [Nat.zero_add,List.nil_append] at hown;have hba : Below w.heap.size w wa:=((Below.refl _ _).alloc (Nat.le_refl _) _).grown hgr hbase (fun k hk => by cases hk;exact Nat.le_refl _);have HOA:=hide hown;have HBA:=hide hba;clear hown hgr hba HNO HRA;try simp only [Act.put,aSt,aSz,aSs]
 obtain ⟨A0,c0,rfl,_⟩:=own_slice HOA.out;have HL0 : Hid (LenJ w 84 3 n xs mM (.slice A0 n c0) (.int .i64 0) wa):=⟨0,A0,c0,Nat.zero_le _,rfl,rfl,by show wa.ownsRow _ _ _ _ n (xs ++ []);rw [List.append_nil];exact HOA.out,HBA.out⟩;clear HOA HBA;go_upto_region 3 with fail
 go_loopw [5,6] (fun v i wr => LenJ w 84 3 n xs mM v i wr) (fun _ i _ => 64 - (intOf i).toNat)
 case atStart => exact HL0.out
 case round =>
  clear HL0;unfold LenJ at hrel;obtain ⟨j,A1,c1,hj,rfl,rfl,hrow,hbr⟩:=hrel;have HROW:=hide hrow;have HBR:=hide hbr;clear hrow hbr;have hswr : w.heap.size ≤ wr.heap.size:=HBR.out.size;have j0 : (0 : Int) ≤ (j : Int):=by omega
  by_cases hlt : j < 64
  ·have js : (j : Int) < 64:=by omega
   have hw : IntKind.i64.wrap (-700 - (j : Int)) = -700 - (j : Int):=i64_wrap _ (by omega) (by omega);go_upto_region 5 with fail
   clear js;refine wp_region_lit ?_;refine wpList_value rfl (.slice A1 (n + j) c1) (by go_simp) ?_;try simp only [Act.put,aSt,aSz,aSs]
   refine wpList_value rfl (.int .i64 (j : Int)) (by go_simp) ?_;try simp only [Act.put,aSt,aSz,aSs]
   refine wpList_value rfl (.int .i64 (-700 - (j : Int))) (by go_simp) ?_;try simp only [Act.put,aSt,aSz,aSs]
   refine wpList_value rfl (.agg #[.int .i64 (-700 - (j : Int)),.int .i64 0,.int .i64 0]) (by go_simp) ?_;try simp only [Act.put,aSt,aSz,aSs]
   refine wpList_step (fun K' hK' => ?_);rw [if_pos (by rfl)];go_simp;refine hK' _ _ ?_;clear hK' K';try simp only [Act.put,aSt,aSz,aSs]
   refine wpList_push (W:=wr) (cs:=#[.int .i64 (-700 - (j : Int)),.int .i64 0,.int .i64 0]) rfl (.tmp 14) (.tmp 18) _ rfl w.heap.size 84 i3 _ 3 24 Tryz.underlying46 I3.out Z3.out hs3 hb3 rfl (by omega) (.slice A1 (n + j) c1) (n + j) _ rfl HROW.out 1 1 rfl rfl (by simp [Value.oneCell']) (by omega) (by unfold maxLen;omega) (by omega) hswr ?_;intro g8 c8 w8 hown8 hgr8 hb8 _ _ _
   have HL8 : Hid (LenJ w 84 3 n xs mM (.slice (some ⟨g8,0,none⟩) (n + j + 1) c8) (.int .i64 ((j : Int) + 1)) w8):=by
    refine ⟨j + 1,some ⟨g8,0,none⟩,c8,by omega,by go_num,rfl,?_,HBR.out.trans hb8⟩;rw [mM_snoc,← List.append_assoc];exact hown8
   clear hown8 hgr8 hb8;try simp only [Act.put,aSt,aSz,aSs]
   go_wp2_with fail;go_roundw
   case rel => first | exact HL8.out | exact ⟨_,HL8.out,rfl⟩ | exact ⟨_,_,HL8.out,rfl,rfl⟩
   case measure => simp [intOf];omega
  ·have js : ¬ (j : Int) < 64:=by omega
   obtain rfl : j = 64:=by omega
   obtain ⟨gA,c2,e,hge⟩:=own_at0 HROW.out (by omega);injection e with e1 e2 e3
   subst e1 e3
   have hcap : n ≤ c1:=by
    obtain ⟨A3,c3,e3,_,hc3⟩:=own_slice HROW.out;injection e3 with _ _ e3
    omega
   obtain ⟨lb,li,lm,Ab,kb,Ai,ki,Am,km,hk,hx⟩:=HLK.out;have HB6:=hide (hx.step HBR.out);have HKK:=hide hk;have hbr : b ≤ wr.heap.size:=by omega
   have hlk : lm.length ≤ 10000000:=by omega
   have HS6 : Hid (LStep b w wr):=LStep.of_below HBR.out;clear hx hlt hk e2;have k1 : wr.cell? ⟨g,2,none⟩ = some (.slice Am lm.length km):=HB6.out.box.cell 2;go_upto_region 6 with fail
   clear js;refine wp_region_lit ?_;refine wpList_value rfl (.pointer (some ⟨g,0,none⟩)) (by go_simp) ?_;try simp only [Act.put,aSt,aSz,aSs]
   refine wpList_value rfl (.pointer (some ⟨g,0,none⟩)) (by go_simp) ?_;try simp only [Act.put,aSt,aSz,aSs]
   refine wpList_value rfl (.pointer (some ⟨g,0,none⟩)) (by go_simp) ?_;try simp only [Act.put,aSt,aSz,aSs]
   refine wpList_value rfl (.pointer (some ⟨g,2,none⟩)) (by go_simp) ?_;try simp only [Act.put,aSt,aSz,aSs]
   refine wpList_value rfl (.slice Am lm.length km) (by go_simp) ?_;try simp only [Act.put,aSt,aSz,aSs]
   refine wpList_value rfl (.slice (some ⟨gA,0,none⟩) (n + 64) c1) (by go_simp) ?_;try simp only [Act.put,aSt,aSz,aSs]
   refine wpList_step (fun K' hK' => ?_);rw [if_pos (by rfl)];go_simp;refine hK' _ _ ?_;clear hK' K' k1;try simp only [Act.put,aSt,aSz,aSs]
   refine wpList_push (W:=wr) (cs:=#[.slice (some ⟨gA,0,none⟩) (n + 64) c1]) rfl (.tmp 24) (.tmp 26) _ rfl b 46 iL _ 1 24 Tryz.underlying39 IL.out ZL.out hsL hbL rfl (by omega) (.slice Am lm.length km) lm.length _ rfl HB6.out.rm 1 1 rfl rfl (by simp [Value.oneCell']) (by omega) (by unfold maxLen;omega) (by omega) hbr ?_;intro g9 c9 w9 hown9 hgr9 hb9 _ _ _;have hal:=(Below.refl wr.heap.size wr).alloc (Nat.le_refl _) (.cells #[.slice (some ⟨gA,0,none⟩) (n + 64) c1] 46);have hrA:=own_step HB6.out.rm hal;have HGR:=hide hgr9;have HX9:=hide ((HB6.out.box.alloc _).grown hgr9 (own_ne hrA (HB6.out.box.alloc _) (by decide)));have HR9:=hide hown9;have HRO9:=hide (own_kept (own_step HROW.out hal) hrA (by decide) hgr9);have HS9:=hide (HS6.out.trans (LStep.push HB6.out.rm (.inr (.inr (.inr rfl))) hgr9));clear hown9 hgr9 hb9;try simp only [Act.put,aSt,aSz,aSs]
   refine wpList_value rfl (.pointer (some ⟨g,0,none⟩)) (by go_simp) ?_;try simp only [Act.put,aSt,aSz,aSs]
   refine wpList_value rfl (.pointer (some ⟨g,2,none⟩)) (by go_simp) ?_;try simp only [Act.put,aSt,aSz,aSs]
   have kc9:=HX9.out.cell 2;have f9:=Blk.frozen HX9.out 2;refine wpList_step (fun K' hK' => ?_);rw [if_pos (by rfl)];go_simp;refine hK' _ _ ?_;clear hK' K' kc9 f9;try simp only [Act.put,aSt,aSz,aSs]
   obtain ⟨w10,hw10⟩ : ∃ w10,w10 = World.setCell w9 ⟨g,2,none⟩ (.slice (some ⟨g9,0,none⟩) (lm.length + 1) c9):=⟨_,rfl⟩;have hW:=only_setCell0 w9 g 2 (.slice (some ⟨g9,0,none⟩) (lm.length + 1) c9);rw [← hw10] at hW ⊢
   have HX10 : Hid (Blk w10 g 41 #[.slice Ab lb.length kb,.slice Ai li.length ki,.slice (some ⟨g9,0,none⟩) (lm.length + 1) c9]):=by
    show Blk _ _ _ _;rw [hw10];exact HX9.out.set_ 2 _
   have hap : ∀ t,¬ t = 41 → Apart w9 (fun k => k = g) t:=fun t ht k hk e => by
    have e2 : k = g:=e;subst e2;exact ⟨_,_,HX9.out,fun e3 => ht e3.symm⟩
   have HRO10:=hide (own_apart HRO9.out hW (hap _ (by decide)))
   have HLK10 : Hid (LK w10 b g (K + 1)):=by
    refine ⟨lb,li,lm ++ [⟨gA,n,c1⟩],Ab,kb,Ai,ki,some ⟨g9,0,none⟩,c9,?_,?_⟩
    ·have:=HKK.out
     rw [List.length_append,List.length_singleton];omega
    ·refine ⟨?_,HB6.out.low,own_apart (own_kept (own_step HB6.out.rb hal) hrA (by decide) HGR.out) hW (hap _ (by decide)),own_apart (own_kept (own_step HB6.out.ri hal) hrA (by decide) HGR.out) hW (hap _ (by decide)),by rw [List.length_append,List.map_append,List.length_singleton];exact own_apart HR9.out hW (hap _ (by decide)),fun e he => ((HB6.out.eb e he).grow hal hrA (by decide) HGR.out).only hW (hap _ (by decide)),fun e he => ((HB6.out.ei e he).grow hal hrA (by decide) HGR.out).only hW (hap _ (by decide)),mkd_app (fun e he => ((HB6.out.em e he).grow hal hrA (by decide) HGR.out).only hW (hap _ (by decide))) ⟨xs,HXL.out,own_base HRO10.out (by omega)⟩⟩
     rw [List.length_append,List.length_singleton];exact HX10.out
   have HS10 : Hid (LStep b w w10):=HS9.out.trans (LStep.box HX9.out HB6.out.low hW);have HPR : Hid (w10.ownsRow w.heap.size 84 3 (.slice (some ⟨gA,0,none⟩) n c1) n xs):=own_pre HRO10.out HXL.out;clear hW hap hw10 hal hrA;go_wp2_with fail;go_ret;exact ⟨gA,c1,rfl,HLK10.out,HPR.out,HS10.out⟩
theorem mB_len (k : Nat) : (mB k).length = k:=by induction k with | zero => rfl | succ k ih => rw [mB_snoc,List.length_append,ih];rfl
theorem mI_len (k : Nat) : (mI k).length = k:=by induction k with | zero => rfl | succ k ih => rw [mI_snoc,List.length_append,ih];rfl
theorem mM_len (k : Nat) : (mM k).length = k * 3:=by induction k with | zero => rfl | succ k ih => rw [mM_snoc,List.length_append,ih];show k * 3 + 3 = _;omega
theorem mB_at : ∀ (k j : Nat),j < k → (mB k)[j]? = some (.int .u8 (200 + (j : Int) % 7))
 | k + 1,j,h => by
  rw [mB_snoc]
  by_cases e : j < k
  ·rw [List.getElem?_append_left (by rw [mB_len];exact e)]
   exact mB_at k j e
  ·obtain rfl : j = k:=by omega
   rw [List.getElem?_append_right (by rw [mB_len];exact Nat.le_refl _),mB_len,Nat.sub_self]
   rfl
theorem mI_at : ∀ (k j : Nat),j < k → (mI k)[j]? = some (.int .i64 (-700 - (j : Int)))
 | k + 1,j,h => by
  rw [mI_snoc]
  by_cases e : j < k
  ·rw [List.getElem?_append_left (by rw [mI_len];exact e)]
   exact mI_at k j e
  ·obtain rfl : j = k:=by omega
   rw [List.getElem?_append_right (by rw [mI_len];exact Nat.le_refl _),mI_len,Nat.sub_self]
   rfl
theorem mM_at : ∀ (k j : Nat),j < k → (mM k)[j * 3]? = some (.int .i64 (-700 - (j : Int)))
 | k + 1,j,h => by
  rw [mM_snoc]
  by_cases e : j < k
  ·rw [List.getElem?_append_left (by rw [mM_len];omega)]
   exact mM_at k j e
  ·obtain rfl : j = k:=by omega
   rw [List.getElem?_append_right (by rw [mM_len];exact Nat.le_refl _),mM_len,Nat.sub_self]
   rfl
theorem row_at {w : World} {b c : Nat} {t : TypeId} {l : List LE} {A : Option Addr} {j : Nat} (h : w.ownsRow b t 1 (.slice A l.length c) l.length (l.map LE.v)) (hj : j < l.length) : ∃ gR,A = some ⟨gR,0,none⟩ ∧ w.cell? ⟨gR,j,none⟩ = some (l[j]).v:=by
 obtain ⟨gR,c2,e,_⟩:=own_at0 h (by omega);injection e with e1 _ _
 subst e1;refine ⟨gR,rfl,?_⟩;have:=World.ownsRow.cells (g:=gR) h rfl j (l[j]).v (by rw [List.getElem?_map,List.getElem?_eq_getElem hj];rfl)
 have e : (⟨gR,0,none⟩ : Addr).add j = ⟨gR,j,none⟩:=by
  unfold Addr.add
  split
  ·rename_i h0;subst h0;rfl
  ·simp
 rw [e] at this;exact this
theorem mkd_at {w : World} {b : Nat} {t : TypeId} {size : Nat} {mk : List Value} {e : LE} (h : Mkd w b t size mk e) (i : Nat) {v : Value} (hi : mk[i]? = some v) : w.cell? ⟨e.g,e.n * size + i,none⟩ = some v:=by
 obtain ⟨xs,hl,ho⟩:=h;have h1 : (xs ++ mk)[e.n * size + i]? = some v:=by rw [← hl,List.getElem?_append_right (by omega),Nat.add_sub_cancel_left];exact hi
 have:=World.ownsRow.cells (g:=e.g) ho rfl (e.n * size + i) v h1
 have ea : (⟨e.g,0,none⟩ : Addr).add (e.n * size + i) = ⟨e.g,e.n * size + i,none⟩:=by
  unfold Addr.add
  split
  ·rename_i h0;rw [h0]
  ·simp
 rw [ea] at this;exact this
theorem mkd_cap {w : World} {b : Nat} {t : TypeId} {size : Nat} {mk : List Value} {e : LE} (h : Mkd w b t size mk e) : e.n + 64 ≤ e.c ∧ e.c ≤ maxLen:=by
 obtain ⟨xs,hl,ho⟩:=h
 rcases ho.2 with ⟨h0,_⟩ | ⟨g,cap,cur,e1,_,_,hc,hm,_⟩
 ·cases h0
 ·unfold LE.v at e1
  injection e1 with _ _ e3
  subst e3;exact ⟨hc,hm⟩
theorem kept_any (b g K : Nat) (w : World) (h : LK w b g K) (hK : K ≤ 10000000) :
  Calls Tryz.prog 18 #[.pointer (some ⟨g,0,none⟩)] w fun e w' => e = .returned (.bool true) ∧ Below w.heap.size w w':=by
 obtain ⟨lb,li,lm,Ab,kb,Ai,ki,Am,km,hk,hx⟩:=h;have HX0:=hide hx;have HBB0:=hide (Below.refl w.heap.size w);clear hx;go_enter Tryz.func18,Tryz.ntmps18;go_upto_region 2 with fail
 go_loopw [3] (fun i wr => ∃ j : Nat,j ≤ lb.length ∧ i = .int .i64 j ∧ Hid (Below w.heap.size w wr)) (fun i _ => lb.length - (intOf i).toNat)
 case atStart => exact ⟨0,Nat.zero_le _,rfl,Below.refl _ _⟩
 case round =>
  obtain ⟨j,hj,rfl,HBR⟩:=hrel;have HXr:=hide (HX0.out.step HBR.out);have kk : wr.cell? ⟨g,0,none⟩ = some (.slice Ab lb.length kb):=HXr.out.box.cell 0;have j0 : (0 : Int) ≤ (j : Int):=by omega
  by_cases hlt : j < lb.length
  ·have js : (j : Int) < (lb.length : Int):=by omega
   obtain ⟨gR,hA,qr⟩:=row_at HXr.out.rb hlt;obtain ⟨e,he⟩ : ∃ e,e = lb[j]:=⟨_,rfl⟩;rw [← he] at qr;rw [hA] at kk;have HE : Hid (Mkd wr b 5 1 (mB 64) e):=HXr.out.eb e (by rw [he];exact List.getElem_mem _);have hcap:=mkd_cap HE.out;unfold maxLen at hcap;unfold LE.v at qr;have hw2 : IntKind.i64.wrap ((e.n : Int) + 64 - 64) = (e.n : Int):=by rw [i64_wrap _ (by omega) (by omega)];omega
   have n0 : (0 : Int) ≤ (e.n : Int):=by omega
   have n1 : e.n ≤ e.c:=by omega
   have n2 : e.n ≤ e.n + 64:=by omega
   have n3 : (e.n : Int) ≤ (e.n : Int) + 64:=by omega
   have n4 : e.n + 64 ≤ e.c:=by omega
   have HA:=hide hA;clear he hA;go_wp2_with fail;go_quiet (fail);obtain ⟨wq,hwq⟩ : ∃ wq,wq = wr.drewN nq:=⟨_,rfl⟩;have HBQ : Hid (Below w.heap.size w wq):=by show Below _ _ _;rw [hwq];exact below_drewN HBR.out nq
   have HEq : Hid (Mkd wq b 5 1 (mB 64) e):=by
    show Mkd _ _ _ _ _ _;rw [hwq];exact HE.out.step (below_drewN (Below.refl _ _) nq)
   rw [← hwq];clear hwq kk qr HE HXr HBR;go_upto_region 6 with fail
   go_loopw [5] (fun i wr => ∃ k : Nat,k ≤ 64 ∧ i = .int .i64 k ∧ wq = wr) (fun i _ => 64 - (intOf i).toNat)
   case atStart => exact ⟨0,Nat.zero_le _,rfl,rfl⟩
   case round =>
    obtain ⟨i,hi,rfl,rfl⟩:=hrel;have i0 : (0 : Int) ≤ (i : Int):=by omega
    by_cases hi2 : i < 64
    ·have is : (i : Int) < 64:=by omega
     have qc : wq.cell? ⟨e.g,e.n + i,none⟩ = some (.int .u8 (200 + (i : Int) % 7)):=by have:=mkd_at HEq.out (i) (mB_at 64 i hi2);rw [Nat.mul_one] at this;exact this
     have ht : (i : Int).tmod 7 = (i : Int) % 7:=Int.tmod_eq_emod_of_nonneg (by omega);have hv1 : IntKind.i64.wrap ((i : Int) % 7) = (i : Int) % 7:=i64_wrap _ (by omega) (by omega);have hv2 : IntKind.i64.wrap (200 + (i : Int) % 7) = 200 + (i : Int) % 7:=i64_wrap _ (by omega) (by omega);have hv3 : IntKind.u8.wrap (200 + (i : Int) % 7) = 200 + (i : Int) % 7:=u8_wrap _ (by omega) (by omega);clear hi2;go_wp2_with fail;go_roundw
     case rel => first | exact ⟨i + 1,by omega,by go_num,rfl⟩ | exact ⟨i + 1,by omega,by go_num,trivial⟩
     case measure => simp [intOf];omega
    ·have is : ¬ (i : Int) < 64:=by omega
     clear hi2;go_wp2_with fail;go_roundw
     case rel => first | exact ⟨j + 1,by omega,by go_num,HBQ.out⟩ | exact ⟨_,⟨j + 1,by omega,by go_num,HBQ.out⟩,rfl⟩
     case measure => simp [intOf];omega
  ·have js : ¬ (j : Int) < (lb.length : Int):=by omega
   clear hlt;go_upto_region 11 with fail
   obtain ⟨W1,hW1⟩ : ∃ W1,W1 = wr:=⟨_,rfl⟩;rw [← hW1] at HBR ⊢;have HX1:=hide (HX0.out.step HBR.out);have HBB1:=hide (HBB0.out.trans (HBR.out.mono HBB0.out.size));clear hW1 HBR js;go_loopw [6] (fun i wr => ∃ j : Nat,j ≤ li.length ∧ i = .int .i64 j ∧ Hid (Below W1.heap.size W1 wr)) (fun i _ => li.length - (intOf i).toNat)
   case atStart => exact ⟨0,Nat.zero_le _,rfl,Below.refl _ _⟩
   case round =>
    obtain ⟨j,hj,rfl,HBR⟩:=hrel;have HXr:=hide (HX1.out.step HBR.out);have kk : wr.cell? ⟨g,1,none⟩ = some (.slice Ai li.length ki):=HXr.out.box.cell 1;have j0 : (0 : Int) ≤ (j : Int):=by omega
    by_cases hlt : j < li.length
    ·have js : (j : Int) < (li.length : Int):=by omega
     obtain ⟨gR,hA,qr⟩:=row_at HXr.out.ri hlt;obtain ⟨e,he⟩ : ∃ e,e = li[j]:=⟨_,rfl⟩;rw [← he] at qr;rw [hA] at kk;have HE : Hid (Mkd wr b 3 1 (mI 64) e):=HXr.out.ei e (by rw [he];exact List.getElem_mem _);have hcap:=mkd_cap HE.out;unfold maxLen at hcap;unfold LE.v at qr;have hw2 : IntKind.i64.wrap ((e.n : Int) + 64 - 64) = (e.n : Int):=by rw [i64_wrap _ (by omega) (by omega)];omega
     have n0 : (0 : Int) ≤ (e.n : Int):=by omega
     have n1 : e.n ≤ e.c:=by omega
     have n2 : e.n ≤ e.n + 64:=by omega
     have n3 : (e.n : Int) ≤ (e.n : Int) + 64:=by omega
     have n4 : e.n + 64 ≤ e.c:=by omega
     have HA:=hide hA;clear he hA;go_wp2_with fail;go_quiet (fail);obtain ⟨wq,hwq⟩ : ∃ wq,wq = wr.drewN nq:=⟨_,rfl⟩;have HBQ : Hid (Below W1.heap.size W1 wq):=by show Below _ _ _;rw [hwq];exact below_drewN HBR.out nq
     have HEq : Hid (Mkd wq b 3 1 (mI 64) e):=by
      show Mkd _ _ _ _ _ _;rw [hwq];exact HE.out.step (below_drewN (Below.refl _ _) nq)
     rw [← hwq];clear hwq kk qr HE HXr HBR;go_upto_region 15 with fail
     go_loopw [8] (fun i wr => ∃ k : Nat,k ≤ 64 ∧ i = .int .i64 k ∧ wq = wr) (fun i _ => 64 - (intOf i).toNat)
     case atStart => exact ⟨0,Nat.zero_le _,rfl,rfl⟩
     case round =>
      obtain ⟨i,hi,rfl,rfl⟩:=hrel;have i0 : (0 : Int) ≤ (i : Int):=by omega
      by_cases hi2 : i < 64
      ·have is : (i : Int) < 64:=by omega
       have qc : wq.cell? ⟨e.g,e.n + i,none⟩ = some (.int .i64 (-700 - (i : Int))):=by have:=mkd_at HEq.out (i) (mI_at 64 i hi2);rw [Nat.mul_one] at this;exact this
       have hv1 : IntKind.i64.wrap (-700 - (i : Int)) = -700 - (i : Int):=i64_wrap _ (by omega) (by omega);clear hi2;go_wp2_with fail;go_roundw
       case rel => first | exact ⟨i + 1,by omega,by go_num,rfl⟩ | exact ⟨i + 1,by omega,by go_num,trivial⟩
       case measure => simp [intOf];omega
      ·have is : ¬ (i : Int) < 64:=by omega
       clear hi2;go_wp2_with fail;go_roundw
       case rel => first | exact ⟨j + 1,by omega,by go_num,HBQ.out⟩ | exact ⟨_,⟨j + 1,by omega,by go_num,HBQ.out⟩,rfl⟩
       case measure => simp [intOf];omega
    ·have js : ¬ (j : Int) < (li.length : Int):=by omega
     clear hlt;go_upto_region 20 with fail
     obtain ⟨W2,hW2⟩ : ∃ W2,W2 = wr:=⟨_,rfl⟩;rw [← hW2] at HBR ⊢;have HX2:=hide (HX1.out.step HBR.out);have HBB2:=hide (HBB1.out.trans (HBR.out.mono HBB1.out.size));clear hW2 HBR js;go_loopw [9] (fun i wr => ∃ j : Nat,j ≤ lm.length ∧ i = .int .i64 j ∧ Hid (Below W2.heap.size W2 wr)) (fun i _ => lm.length - (intOf i).toNat)
     case atStart => exact ⟨0,Nat.zero_le _,rfl,Below.refl _ _⟩
     case round =>
      obtain ⟨j,hj,rfl,HBR⟩:=hrel;have HXr:=hide (HX2.out.step HBR.out);have kk : wr.cell? ⟨g,2,none⟩ = some (.slice Am lm.length km):=HXr.out.box.cell 2;have j0 : (0 : Int) ≤ (j : Int):=by omega
      by_cases hlt : j < lm.length
      ·have js : (j : Int) < (lm.length : Int):=by omega
       obtain ⟨gR,hA,qr⟩:=row_at HXr.out.rm hlt;obtain ⟨e,he⟩ : ∃ e,e = lm[j]:=⟨_,rfl⟩;rw [← he] at qr;rw [hA] at kk;have HE : Hid (Mkd wr b 84 3 (mM 64) e):=HXr.out.em e (by rw [he];exact List.getElem_mem _);have hcap:=mkd_cap HE.out;unfold maxLen at hcap;unfold LE.v at qr;have hw2 : IntKind.i64.wrap ((e.n : Int) + 64 - 64) = (e.n : Int):=by rw [i64_wrap _ (by omega) (by omega)];omega
       have n0 : (0 : Int) ≤ (e.n : Int):=by omega
       have n1 : e.n ≤ e.c:=by omega
       have n2 : e.n ≤ e.n + 64:=by omega
       have n3 : (e.n : Int) ≤ (e.n : Int) + 64:=by omega
       have n4 : e.n + 64 ≤ e.c:=by omega
       have HA:=hide hA;clear he hA;go_wp2_with fail;go_quiet (fail);obtain ⟨wq,hwq⟩ : ∃ wq,wq = wr.drewN nq:=⟨_,rfl⟩;have HBQ : Hid (Below W2.heap.size W2 wq):=by show Below _ _ _;rw [hwq];exact below_drewN HBR.out nq
       have HEq : Hid (Mkd wq b 84 3 (mM 64) e):=by
        show Mkd _ _ _ _ _ _;rw [hwq];exact HE.out.step (below_drewN (Below.refl _ _) nq)
       rw [← hwq];clear hwq kk qr HE HXr HBR;go_upto_region 24 with fail
       go_loopw [11] (fun i wr => ∃ k : Nat,k ≤ 64 ∧ i = .int .i64 k ∧ wq = wr) (fun i _ => 64 - (intOf i).toNat)
       case atStart => exact ⟨0,Nat.zero_le _,rfl,rfl⟩
       case round =>
        obtain ⟨i,hi,rfl,rfl⟩:=hrel;have i0 : (0 : Int) ≤ (i : Int):=by omega
        by_cases hi2 : i < 64
        ·have is : (i : Int) < 64:=by omega
         have qc : wq.cell? ⟨e.g,e.n * 3 + i * 3,none⟩ = some (.int .i64 (-700 - (i : Int))):=by have:=mkd_at HEq.out (i * 3) (mM_at 64 i hi2);exact this
         have hv1 : IntKind.i64.wrap (-700 - (i : Int)) = -700 - (i : Int):=i64_wrap _ (by omega) (by omega);clear hi2;go_wp2_with fail;go_roundw
         case rel => first | exact ⟨i + 1,by omega,by go_num,rfl⟩ | exact ⟨i + 1,by omega,by go_num,trivial⟩
         case measure => simp [intOf];omega
        ·have is : ¬ (i : Int) < 64:=by omega
         clear hi2;go_wp2_with fail;go_roundw
         case rel => first | exact ⟨j + 1,by omega,by go_num,HBQ.out⟩ | exact ⟨_,⟨j + 1,by omega,by go_num,HBQ.out⟩,rfl⟩
         case measure => simp [intOf];omega
      ·have js : ¬ (j : Int) < (lm.length : Int):=by omega
       clear hlt;go_wp2_with fail;go_ret;exact ⟨rfl,HBB2.out.trans (HBR.out.mono HBB2.out.size)⟩
end Go.Proofs.YtcibcmfaebbhnaaGreatDoor
