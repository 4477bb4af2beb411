/-
  (*Lent).ints: a list lent, with 64 marks behind its end. (Printed by wip/tools/mklen.py.) (*Lent).bytes: a list lent, with 64 marks behind its end. (Printed by wip/tools/mklen.py.)
-/
import Derived.Test.YtcibcmfaebbhnaaGreatDoorLLnk
import Derived.Test.YtcibcmfaebbhnaaGreatDoorLSco
import Derived.Test.YtcibcmfaebbhnaaGreatDoorLWords
set_option linter.unusedSimpArgs false
set_option linter.unusedVariables false
set_option maxRecDepth 100000
set_option maxHeartbeats 4000000

namespace Go.Proofs.YtcibcmfaebbhnaaGreatDoor
open Go.RowKit Go.WideShapes Go.ChangeShapes Q
theorem lent_ints (b g K : Nat) (A : Option Addr) (n c : Nat) (xs : List Value) (w : World) (h : LK w b g K) (hb : b ≤ w.heap.size) (hr : Reads w w.heap.size 1 A n xs) (h1 : ∀ u ∈ xs,u.oneCell' = true) (hn : n ≤ 10000000) (hK : K ≤ 10000000) :
  Calls Tryz.prog 6 #[.pointer (some ⟨g,0,none⟩),.slice A n c] w fun e w' => LnP b g (K + 1) 3 1 n xs w e w':=by
 have HLK:=hide h;have HR:=hide hr;have H1:=hide h1;obtain ⟨i3,hi3,hz3,hs3,hb3⟩:=info_parts info3;obtain ⟨iL,hiL,hzL,hsL,hbL⟩:=info_parts infoL2;have I3:=hide hi3;have Z3:=hide hz3;have IL:=hide hiL;have ZL:=hide hzL;have hxl : xs.length = n * 1:=hr.1;have HXL:=hide hxl;clear hi3 hz3 hiL hzL h hr h1 hxl;have HNO : Hid ((w.alloc (.cells #[] 3)).ownsRow w.heap.size 3 1 (.slice (some ⟨w.heap.size,0,none⟩) 0 0) 0 []):=own_none (Blk.new w 3 #[]) (Nat.le_refl _);have HRA : Hid (Reads (w.alloc (.cells #[] 3)) w.heap.size 1 A n xs):=Reads.alloc HR.out (Nat.le_refl _) _;have hbase : w.heap.size ≤ (w.alloc (.cells #[] 3)).heap.size:=by simp
 go_enter Tryz.func6,Tryz.ntmps6;go_upto_region 1 with fail
 refine wp_region_lit ?_;refine wpList_step (fun K' hK' => ?_);rw [if_pos (by rfl)];go_simp;refine hK' _ _ ?_;clear hK' K';try simp only [Act.put,aSt,aSz,aSs]
 refine wpList_value rfl (.slice A n c) (by go_simp) ?_;try simp only [Act.put,aSt,aSz,aSs]
 refine wpList_append_any _ rfl (.tmp 7) (.tmp 8) 22 rfl w.heap.size 3 i3 _ 1 8 Tryz.underlying22 I3.out Z3.out hs3 hb3 rfl (by omega) (.slice (some ⟨w.heap.size,0,none⟩) 0 0) 0 [] rfl HNO.out w.heap.size A n c xs rfl HRA.out H1.out (by unfold maxLen;omega) (by omega) hbase ?_;intro v wa hown hgr _;rw [Nat.zero_add,List.nil_append] at hown;have hba : Below w.heap.size w wa:=((Below.refl _ _).alloc (Nat.le_refl _) _).grown hgr hbase (fun k hk => by cases hk;exact Nat.le_refl _);have HOA:=hide hown;have HBA:=hide hba;clear hown hgr hba HNO HRA;try simp only [Act.put,aSt,aSz,aSs]
 obtain ⟨A0,c0,rfl,_⟩:=own_slice HOA.out;have HL0 : Hid (LenJ w 3 1 n xs mI (.slice A0 n c0) (.int .i64 0) wa):=⟨0,A0,c0,Nat.zero_le _,rfl,rfl,by show wa.ownsRow _ _ _ _ n (xs ++ []);rw [List.append_nil];exact HOA.out,HBA.out⟩;clear HOA HBA;go_upto_region 3 with fail
 go_loopw [5,6] (fun v i wr => LenJ w 3 1 n xs mI v i wr) (fun _ i _ => 64 - (intOf i).toNat)
 case atStart => exact HL0.out
 case round =>
  clear HL0;unfold LenJ at hrel;obtain ⟨j,A1,c1,hj,rfl,rfl,hrow,hbr⟩:=hrel;have HROW:=hide hrow;have HBR:=hide hbr;clear hrow hbr;have hswr : w.heap.size ≤ wr.heap.size:=HBR.out.size;have j0 : (0 : Int) ≤ (j : Int):=by omega
  by_cases hlt : j < 64
  ·have js : (j : Int) < 64:=by omega
   have hw : IntKind.i64.wrap (-700 - (j : Int)) = -700 - (j : Int):=i64_wrap _ (by omega) (by omega);go_upto_region 5 with fail
   clear js;refine wp_region_lit ?_;refine wpList_value rfl (.slice A1 (n + j) c1) (by go_simp) ?_;try simp only [Act.put,aSt,aSz,aSs]
   refine wpList_value rfl (.int .i64 (j : Int)) (by go_simp) ?_;try simp only [Act.put,aSt,aSz,aSs]
   refine wpList_value rfl (.int .i64 (-700 - (j : Int))) (by go_simp) ?_;try simp only [Act.put,aSt,aSz,aSs]
   refine wpList_step (fun K' hK' => ?_);rw [if_pos (by rfl)];go_simp;refine hK' _ _ ?_;clear hK' K';try simp only [Act.put,aSt,aSz,aSs]
   refine wpList_push (W:=wr) (cs:=#[.int .i64 (-700 - (j : Int))]) rfl (.tmp 14) (.tmp 17) _ rfl w.heap.size 3 i3 _ 1 8 Tryz.underlying22 I3.out Z3.out hs3 hb3 rfl (by omega) (.slice A1 (n + j) c1) (n + j) _ rfl HROW.out 1 1 rfl rfl (by simp [Value.oneCell']) (by omega) (by unfold maxLen;omega) (by omega) hswr ?_;intro g8 c8 w8 hown8 hgr8 hb8 _ _ _
   have HL8 : Hid (LenJ w 3 1 n xs mI (.slice (some ⟨g8,0,none⟩) (n + j + 1) c8) (.int .i64 ((j : Int) + 1)) w8):=by
    refine ⟨j + 1,some ⟨g8,0,none⟩,c8,by omega,by go_num,rfl,?_,HBR.out.trans hb8⟩;rw [mI_snoc,← List.append_assoc];exact hown8
   clear hown8 hgr8 hb8;try simp only [Act.put,aSt,aSz,aSs]
   go_wp2_with fail;go_roundw
   case rel => first | exact HL8.out | exact ⟨_,HL8.out,rfl⟩ | exact ⟨_,_,HL8.out,rfl,rfl⟩
   case measure => simp [intOf];omega
  ·have js : ¬ (j : Int) < 64:=by omega
   obtain rfl : j = 64:=by omega
   obtain ⟨gA,c2,e,hge⟩:=own_at0 HROW.out (by omega);injection e with e1 e2 e3
   subst e1 e3
   have hcap : n ≤ c1:=by
    obtain ⟨A3,c3,e3,_,hc3⟩:=own_slice HROW.out;injection e3 with _ _ e3
    omega
   obtain ⟨lb,li,lm,Ab,kb,Ai,ki,Am,km,hk,hx⟩:=HLK.out;have HB6:=hide (hx.step HBR.out);have HKK:=hide hk;have hbr : b ≤ wr.heap.size:=by omega
   have hlk : li.length ≤ 10000000:=by omega
   have HS6 : Hid (LStep b w wr):=LStep.of_below HBR.out;clear hx hlt hk e2;have k1 : wr.cell? ⟨g,1,none⟩ = some (.slice Ai li.length ki):=HB6.out.box.cell 1;go_upto_region 6 with fail
   clear js;refine wp_region_lit ?_;refine wpList_value rfl (.pointer (some ⟨g,0,none⟩)) (by go_simp) ?_;try simp only [Act.put,aSt,aSz,aSs]
   refine wpList_value rfl (.pointer (some ⟨g,0,none⟩)) (by go_simp) ?_;try simp only [Act.put,aSt,aSz,aSs]
   refine wpList_value rfl (.pointer (some ⟨g,0,none⟩)) (by go_simp) ?_;try simp only [Act.put,aSt,aSz,aSs]
   refine wpList_value rfl (.pointer (some ⟨g,1,none⟩)) (by go_simp) ?_;try simp only [Act.put,aSt,aSz,aSs]
   refine wpList_value rfl (.slice Ai li.length ki) (by go_simp) ?_;try simp only [Act.put,aSt,aSz,aSs]
   refine wpList_value rfl (.slice (some ⟨gA,0,none⟩) (n + 64) c1) (by go_simp) ?_;try simp only [Act.put,aSt,aSz,aSs]
   refine wpList_step (fun K' hK' => ?_);rw [if_pos (by rfl)];go_simp;refine hK' _ _ ?_;clear hK' K' k1;try simp only [Act.put,aSt,aSz,aSs]
   refine wpList_push (W:=wr) (cs:=#[.slice (some ⟨gA,0,none⟩) (n + 64) c1]) rfl (.tmp 23) (.tmp 25) _ rfl b 22 iL _ 1 24 Tryz.underlying38 IL.out ZL.out hsL hbL rfl (by omega) (.slice Ai li.length ki) li.length _ rfl HB6.out.ri 1 1 rfl rfl (by simp [Value.oneCell']) (by omega) (by unfold maxLen;omega) (by omega) hbr ?_;intro g9 c9 w9 hown9 hgr9 hb9 _ _ _;have hal:=(Below.refl wr.heap.size wr).alloc (Nat.le_refl _) (.cells #[.slice (some ⟨gA,0,none⟩) (n + 64) c1] 22);have hrA:=own_step HB6.out.ri hal;have HGR:=hide hgr9;have HX9:=hide ((HB6.out.box.alloc _).grown hgr9 (own_ne hrA (HB6.out.box.alloc _) (by decide)));have HR9:=hide hown9;have HRO9:=hide (own_kept (own_step HROW.out hal) hrA (by decide) hgr9);have HS9:=hide (HS6.out.trans (LStep.push HB6.out.ri (.inr (.inr (.inl rfl))) hgr9));clear hown9 hgr9 hb9;try simp only [Act.put,aSt,aSz,aSs]
   refine wpList_value rfl (.pointer (some ⟨g,0,none⟩)) (by go_simp) ?_;try simp only [Act.put,aSt,aSz,aSs]
   refine wpList_value rfl (.pointer (some ⟨g,1,none⟩)) (by go_simp) ?_;try simp only [Act.put,aSt,aSz,aSs]
   have kc9:=HX9.out.cell 1;have f9:=Blk.frozen HX9.out 1;refine wpList_step (fun K' hK' => ?_);rw [if_pos (by rfl)];go_simp;refine hK' _ _ ?_;clear hK' K' kc9 f9;try simp only [Act.put,aSt,aSz,aSs]
   obtain ⟨w10,hw10⟩ : ∃ w10,w10 = World.setCell w9 ⟨g,1,none⟩ (.slice (some ⟨g9,0,none⟩) (li.length + 1) c9):=⟨_,rfl⟩;have hW:=only_setCell0 w9 g 1 (.slice (some ⟨g9,0,none⟩) (li.length + 1) c9);rw [← hw10] at hW ⊢
   have HX10 : Hid (Blk w10 g 41 #[.slice Ab lb.length kb,.slice (some ⟨g9,0,none⟩) (li.length + 1) c9,.slice Am lm.length km]):=by
    show Blk _ _ _ _;rw [hw10];exact HX9.out.set_ 1 _
   have hap : ∀ t,¬ t = 41 → Apart w9 (fun k => k = g) t:=fun t ht k hk e => by
    have e2 : k = g:=e;subst e2;exact ⟨_,_,HX9.out,fun e3 => ht e3.symm⟩
   have HRO10:=hide (own_apart HRO9.out hW (hap _ (by decide)))
   have HLK10 : Hid (LK w10 b g (K + 1)):=by
    refine ⟨lb,li ++ [⟨gA,n,c1⟩],lm,Ab,kb,some ⟨g9,0,none⟩,c9,Am,km,?_,?_⟩
    ·have:=HKK.out
     rw [List.length_append,List.length_singleton];omega
    ·refine ⟨?_,HB6.out.low,own_apart (own_kept (own_step HB6.out.rb hal) hrA (by decide) HGR.out) hW (hap _ (by decide)),by rw [List.length_append,List.map_append,List.length_singleton];exact own_apart HR9.out hW (hap _ (by decide)),own_apart (own_kept (own_step HB6.out.rm hal) hrA (by decide) HGR.out) hW (hap _ (by decide)),fun e he => ((HB6.out.eb e he).grow hal hrA (by decide) HGR.out).only hW (hap _ (by decide)),mkd_app (fun e he => ((HB6.out.ei e he).grow hal hrA (by decide) HGR.out).only hW (hap _ (by decide))) ⟨xs,HXL.out,own_base HRO10.out (by omega)⟩,fun e he => ((HB6.out.em e he).grow hal hrA (by decide) HGR.out).only hW (hap _ (by decide))⟩
     rw [List.length_append,List.length_singleton];exact HX10.out
   have HS10 : Hid (LStep b w w10):=HS9.out.trans (LStep.box HX9.out HB6.out.low hW);have HPR : Hid (w10.ownsRow w.heap.size 3 1 (.slice (some ⟨gA,0,none⟩) n c1) n xs):=own_pre HRO10.out HXL.out;clear hW hap hw10 hal hrA;go_wp2_with fail;go_ret;exact ⟨gA,c1,rfl,HLK10.out,HPR.out,HS10.out⟩
theorem lent_bytes (b g K : Nat) (A : Option Addr) (n c : Nat) (xs : List Value) (w : World) (h : LK w b g K) (hb : b ≤ w.heap.size) (hr : Reads w w.heap.size 1 A n xs) (h1 : ∀ u ∈ xs,u.oneCell' = true) (hn : n ≤ 10000000) (hK : K ≤ 10000000) :
  Calls Tryz.prog 8 #[.pointer (some ⟨g,0,none⟩),.slice A n c] w fun e w' => LnP b g (K + 1) 5 1 n xs w e w':=by
 have HLK:=hide h;have HR:=hide hr;have H1:=hide h1;obtain ⟨i3,hi3,hz3,hs3,hb3⟩:=info_parts info5;obtain ⟨iL,hiL,hzL,hsL,hbL⟩:=info_parts infoL1;have I3:=hide hi3;have Z3:=hide hz3;have IL:=hide hiL;have ZL:=hide hzL;have hxl : xs.length = n * 1:=hr.1;have HXL:=hide hxl;clear hi3 hz3 hiL hzL h hr h1 hxl;have HNO : Hid ((w.alloc (.cells #[] 5)).ownsRow w.heap.size 5 1 (.slice (some ⟨w.heap.size,0,none⟩) 0 0) 0 []):=own_none (Blk.new w 5 #[]) (Nat.le_refl _);have HRA : Hid (Reads (w.alloc (.cells #[] 5)) w.heap.size 1 A n xs):=Reads.alloc HR.out (Nat.le_refl _) _;have hbase : w.heap.size ≤ (w.alloc (.cells #[] 5)).heap.size:=by simp
 go_enter Tryz.func8,Tryz.ntmps8;go_upto_region 1 with fail
 refine wp_region_lit ?_;refine wpList_step (fun K' hK' => ?_);rw [if_pos (by rfl)];go_simp;refine hK' _ _ ?_;clear hK' K';try simp only [Act.put,aSt,aSz,aSs]
 refine wpList_value rfl (.slice A n c) (by go_simp) ?_;try simp only [Act.put,aSt,aSz,aSs]
 refine wpList_append_any _ rfl (.tmp 7) (.tmp 8) 29 rfl w.heap.size 5 i3 _ 1 1 Tryz.underlying29 I3.out Z3.out hs3 hb3 rfl (by omega) (.slice (some ⟨w.heap.size,0,none⟩) 0 0) 0 [] rfl HNO.out w.heap.size A n c xs rfl HRA.out H1.out (by unfold maxLen;omega) (by omega) hbase ?_;intro v wa hown hgr _;rw [Nat.zero_add,List.nil_append] at hown;have hba : Below w.heap.size w wa:=((Below.refl _ _).alloc (Nat.le_refl _) _).grown hgr hbase (fun k hk => by cases hk;exact Nat.le_refl _);have HOA:=hide hown;have HBA:=hide hba;clear hown hgr hba HNO HRA;try simp only [Act.put,aSt,aSz,aSs]
 obtain ⟨A0,c0,rfl,_⟩:=own_slice HOA.out;have HL0 : Hid (LenJ w 5 1 n xs mB (.slice A0 n c0) (.int .i64 0) wa):=⟨0,A0,c0,Nat.zero_le _,rfl,rfl,by show wa.ownsRow _ _ _ _ n (xs ++ []);rw [List.append_nil];exact HOA.out,HBA.out⟩;clear HOA HBA;go_upto_region 3 with fail
 go_loopw [5,6] (fun v i wr => LenJ w 5 1 n xs mB v i wr) (fun _ i _ => 64 - (intOf i).toNat)
 case atStart => exact HL0.out
 case round =>
  clear HL0;unfold LenJ at hrel;obtain ⟨j,A1,c1,hj,rfl,rfl,hrow,hbr⟩:=hrel;have HROW:=hide hrow;have HBR:=hide hbr;clear hrow hbr;have hswr : w.heap.size ≤ wr.heap.size:=HBR.out.size;have j0 : (0 : Int) ≤ (j : Int):=by omega
  by_cases hlt : j < 64
  ·have js : (j : Int) < 64:=by omega
   have ht : (j : Int).tmod 7 = (j : Int) % 7:=Int.tmod_eq_emod_of_nonneg (by omega);have hw : IntKind.i64.wrap (200 + (j : Int) % 7) = 200 + (j : Int) % 7:=i64_wrap _ (by omega) (by omega);have hw2 : IntKind.i64.wrap ((j : Int) % 7) = (j : Int) % 7:=i64_wrap _ (by omega) (by omega);have hu : IntKind.u8.wrap (200 + (j : Int) % 7) = 200 + (j : Int) % 7:=u8_wrap _ (by omega) (by omega);go_upto_region 5 with fail
   clear js;refine wp_region_lit ?_;refine wpList_value rfl (.slice A1 (n + j) c1) (by go_simp) ?_;try simp only [Act.put,aSt,aSz,aSs]
   refine wpList_value rfl (.int .i64 (j : Int)) (by go_simp) ?_;try simp only [Act.put,aSt,aSz,aSs]
   refine wpList_value rfl (.int .i64 ((j : Int) % 7)) (by go_simp) ?_;try simp only [Act.put,aSt,aSz,aSs]
   refine wpList_value rfl (.int .i64 (200 + (j : Int) % 7)) (by go_simp) ?_;try simp only [Act.put,aSt,aSz,aSs]
   refine wpList_value rfl (.int .u8 (200 + (j : Int) % 7)) (by go_simp) ?_;try simp only [Act.put,aSt,aSz,aSs]
   refine wpList_step (fun K' hK' => ?_);rw [if_pos (by rfl)];go_simp;refine hK' _ _ ?_;clear hK' K';try simp only [Act.put,aSt,aSz,aSs]
   refine wpList_push (W:=wr) (cs:=#[.int .u8 (200 + (j : Int) % 7)]) rfl (.tmp 14) (.tmp 19) _ rfl w.heap.size 5 i3 _ 1 1 Tryz.underlying29 I3.out Z3.out hs3 hb3 rfl (by omega) (.slice A1 (n + j) c1) (n + j) _ rfl HROW.out 1 1 rfl rfl (by simp [Value.oneCell']) (by omega) (by unfold maxLen;omega) (by omega) hswr ?_;intro g8 c8 w8 hown8 hgr8 hb8 _ _ _
   have HL8 : Hid (LenJ w 5 1 n xs mB (.slice (some ⟨g8,0,none⟩) (n + j + 1) c8) (.int .i64 ((j : Int) + 1)) w8):=by
    refine ⟨j + 1,some ⟨g8,0,none⟩,c8,by omega,by go_num,rfl,?_,HBR.out.trans hb8⟩;rw [mB_snoc,← List.append_assoc];exact hown8
   clear hown8 hgr8 hb8;try simp only [Act.put,aSt,aSz,aSs]
   go_wp2_with fail;go_roundw
   case rel => first | exact HL8.out | exact ⟨_,HL8.out,rfl⟩ | exact ⟨_,_,HL8.out,rfl,rfl⟩
   case measure => simp [intOf];omega
  ·have js : ¬ (j : Int) < 64:=by omega
   obtain rfl : j = 64:=by omega
   obtain ⟨gA,c2,e,hge⟩:=own_at0 HROW.out (by omega);injection e with e1 e2 e3
   subst e1 e3
   have hcap : n ≤ c1:=by
    obtain ⟨A3,c3,e3,_,hc3⟩:=own_slice HROW.out;injection e3 with _ _ e3
    omega
   obtain ⟨lb,li,lm,Ab,kb,Ai,ki,Am,km,hk,hx⟩:=HLK.out;have HB6:=hide (hx.step HBR.out);have HKK:=hide hk;have hbr : b ≤ wr.heap.size:=by omega
   have hlk : lb.length ≤ 10000000:=by omega
   have HS6 : Hid (LStep b w wr):=LStep.of_below HBR.out;clear hx hlt hk e2;have k1 : wr.cell? ⟨g,0,none⟩ = some (.slice Ab lb.length kb):=HB6.out.box.cell 0;go_upto_region 6 with fail
   clear js;refine wp_region_lit ?_;refine wpList_value rfl (.pointer (some ⟨g,0,none⟩)) (by go_simp) ?_;try simp only [Act.put,aSt,aSz,aSs]
   refine wpList_value rfl (.pointer (some ⟨g,0,none⟩)) (by go_simp) ?_;try simp only [Act.put,aSt,aSz,aSs]
   refine wpList_value rfl (.pointer (some ⟨g,0,none⟩)) (by go_simp) ?_;try simp only [Act.put,aSt,aSz,aSs]
   refine wpList_value rfl (.pointer (some ⟨g,0,none⟩)) (by go_simp) ?_;try simp only [Act.put,aSt,aSz,aSs]
   refine wpList_value rfl (.slice Ab lb.length kb) (by go_simp) ?_;try simp only [Act.put,aSt,aSz,aSs]
   refine wpList_value rfl (.slice (some ⟨gA,0,none⟩) (n + 64) c1) (by go_simp) ?_;try simp only [Act.put,aSt,aSz,aSs]
   refine wpList_step (fun K' hK' => ?_);rw [if_pos (by rfl)];go_simp;refine hK' _ _ ?_;clear hK' K' k1;try simp only [Act.put,aSt,aSz,aSs]
   refine wpList_push (W:=wr) (cs:=#[.slice (some ⟨gA,0,none⟩) (n + 64) c1]) rfl (.tmp 25) (.tmp 27) _ rfl b 29 iL _ 1 24 Tryz.underlying37 IL.out ZL.out hsL hbL rfl (by omega) (.slice Ab lb.length kb) lb.length _ rfl HB6.out.rb 1 1 rfl rfl (by simp [Value.oneCell']) (by omega) (by unfold maxLen;omega) (by omega) hbr ?_;intro g9 c9 w9 hown9 hgr9 hb9 _ _ _;have hal:=(Below.refl wr.heap.size wr).alloc (Nat.le_refl _) (.cells #[.slice (some ⟨gA,0,none⟩) (n + 64) c1] 29);have hrA:=own_step HB6.out.rb hal;have HGR:=hide hgr9;have HX9:=hide ((HB6.out.box.alloc _).grown hgr9 (own_ne hrA (HB6.out.box.alloc _) (by decide)));have HR9:=hide hown9;have HRO9:=hide (own_kept (own_step HROW.out hal) hrA (by decide) hgr9);have HS9:=hide (HS6.out.trans (LStep.push HB6.out.rb (.inr (.inl rfl)) hgr9));clear hown9 hgr9 hb9;try simp only [Act.put,aSt,aSz,aSs]
   refine wpList_value rfl (.pointer (some ⟨g,0,none⟩)) (by go_simp) ?_;try simp only [Act.put,aSt,aSz,aSs]
   refine wpList_value rfl (.pointer (some ⟨g,0,none⟩)) (by go_simp) ?_;try simp only [Act.put,aSt,aSz,aSs]
   have kc9:=HX9.out.cell 0;have f9:=Blk.frozen HX9.out 0;refine wpList_step (fun K' hK' => ?_);rw [if_pos (by rfl)];go_simp;refine hK' _ _ ?_;clear hK' K' kc9 f9;try simp only [Act.put,aSt,aSz,aSs]
   obtain ⟨w10,hw10⟩ : ∃ w10,w10 = World.setCell w9 ⟨g,0,none⟩ (.slice (some ⟨g9,0,none⟩) (lb.length + 1) c9):=⟨_,rfl⟩;have hW:=only_setCell0 w9 g 0 (.slice (some ⟨g9,0,none⟩) (lb.length + 1) c9);rw [← hw10] at hW ⊢
   have HX10 : Hid (Blk w10 g 41 #[.slice (some ⟨g9,0,none⟩) (lb.length + 1) c9,.slice Ai li.length ki,.slice Am lm.length km]):=by
    show Blk _ _ _ _;rw [hw10];exact HX9.out.set_ 0 _
   have hap : ∀ t,¬ t = 41 → Apart w9 (fun k => k = g) t:=fun t ht k hk e => by
    have e2 : k = g:=e;subst e2;exact ⟨_,_,HX9.out,fun e3 => ht e3.symm⟩
   have HRO10:=hide (own_apart HRO9.out hW (hap _ (by decide)))
   have HLK10 : Hid (LK w10 b g (K + 1)):=by
    refine ⟨lb ++ [⟨gA,n,c1⟩],li,lm,some ⟨g9,0,none⟩,c9,Ai,ki,Am,km,?_,?_⟩
    ·have:=HKK.out
     rw [List.length_append,List.length_singleton];omega
    ·refine ⟨?_,HB6.out.low,by rw [List.length_append,List.map_append,List.length_singleton];exact own_apart HR9.out hW (hap _ (by decide)),own_apart (own_kept (own_step HB6.out.ri hal) hrA (by decide) HGR.out) hW (hap _ (by decide)),own_apart (own_kept (own_step HB6.out.rm hal) hrA (by decide) HGR.out) hW (hap _ (by decide)),mkd_app (fun e he => ((HB6.out.eb e he).grow hal hrA (by decide) HGR.out).only hW (hap _ (by decide))) ⟨xs,HXL.out,own_base HRO10.out (by omega)⟩,fun e he => ((HB6.out.ei e he).grow hal hrA (by decide) HGR.out).only hW (hap _ (by decide)),fun e he => ((HB6.out.em e he).grow hal hrA (by decide) HGR.out).only hW (hap _ (by decide))⟩
     rw [List.length_append,List.length_singleton];exact HX10.out
   have HS10 : Hid (LStep b w w10):=HS9.out.trans (LStep.box HX9.out HB6.out.low hW);have HPR : Hid (w10.ownsRow w.heap.size 5 1 (.slice (some ⟨gA,0,none⟩) n c1) n xs):=own_pre HRO10.out HXL.out;clear hW hap hw10 hal hrA;go_wp2_with fail;go_ret;exact ⟨gA,c1,rfl,HLK10.out,HPR.out,HS10.out⟩
end Go.Proofs.YtcibcmfaebbhnaaGreatDoor
