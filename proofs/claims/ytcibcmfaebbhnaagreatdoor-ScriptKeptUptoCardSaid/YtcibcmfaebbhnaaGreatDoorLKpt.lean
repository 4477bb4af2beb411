/-
  The law ScriptKept, walked.
-/
import Derived.Test.YtcibcmfaebbhnaaGreatDoorLKpm
import Derived.Test.YtcibcmfaebbhnaaGreatDoorLTBox
import Derived.Test.YtcibcmfaebbhnaaGreatDoorLTGbm
import Derived.Test.YtcibcmfaebbhnaaGreatDoorLTMof
import Derived.Test.YtcibcmfaebbhnaaGreatDoorLTRpt
import Derived.Test.YtcibcmfaebbhnaaGreatDoorLPpr
import Derived.Test.YtcibcmfaebbhnaaGreatDoorLRpr
import Derived.Test.YtcibcmfaebbhnaaGreatDoorLLnk
import Derived.Test.YtcibcmfaebbhnaaGreatDoorLWords
set_option linter.unusedSimpArgs false
set_option linter.unusedVariables false
set_option maxRecDepth 100000
set_option maxHeartbeats 4000000

namespace Go.Proofs.YtcibcmfaebbhnaaGreatDoor
open Go.RowKit Go.WideShapes Go.ChangeShapes Q Tr
def KJ1 (s : Sm) (tc : Array Value) (b p3 p5 g pin : Nat) (Cin : Array Value) (gV cV : Nat) (w : World) (v i : Value) (wr : World) : Prop:=∃ (j : Nat) (ms : List Em) (A : Option Addr) (c : Nat),j ≤ s.ms.length ∧ i = .int .i64 j ∧ v = .slice A ms.length c ∧ ms.length = j ∧ ms.map Em.ev = (s.ms.take j).map Em.ev ∧ (∀ m ∈ ms,EvOk m) ∧ EvR b ms A c wr ∧ KC s tc b p3 p5 g pin Cin gV cV (1 + 2 * j) w wr
theorem kept_law (s : Sm) (Al : Option Addr) (ln lc : Nat) (l : List Mk) (tm : Em) (nodes : Int) (w : World) (h : SmIn w w.heap.size s) (hv : s.c.votes.length ≤ 1048576) (hn : s.ms.length ≤ 1048576) (hm : ∀ m ∈ s.ms,EvOk m) (hl : MsIn w w.heap.size Al ln l) (hlz : ∀ m ∈ l,MkZ m) (hln : ln ≤ 1048576) (ht : EmIn w w.heap.size tm) (hto : EvOk tm) (hT : OpT w) (hTb : Tab w) (hK : KT w) :
  Calls Tryz.prog 3 #[.agg s.cs,.slice Al ln lc,.agg (tm.th nodes)] w fun e w' => e = .returned (.bool true) ∧ Below w.heap.size w w':=by
 have HIN:=hide h;have HM:=hide hm;have HTM:=hide ht;have HTO:=hide hto;have HOT:=hide hT;have HTB:=hide hTb;have HKT:=hide hK;have HLZ:=hide hlz;have HLI:=hide hl;have hll : l.length = ln:=hl.len;have h0w : 1 < w.heap.size:=hT.lt;obtain ⟨C0,hC0⟩ : ∃ C0,C0 = s.cs:=⟨_,rfl⟩;obtain ⟨T0,hT0⟩ : ∃ T0,T0 = tm.th nodes:=⟨_,rfl⟩;obtain ⟨i29,hi29,hz29,hs29,hb29⟩:=info_parts info29;obtain ⟨i48,hi48,hz48,hs48,hb48⟩:=info_parts info48;have I48:=hide hi48;have Z48:=hide hz48;have I29:=hide hi29;have Z29:=hide hz29;rw [← hC0,← hT0];have HC0:=hide hC0;have HT0:=hide hT0;clear hC0 hT0 h hm ht hto hi29 hz29 hi48 hz48 hT hTb hK hl hlz;go_enter Tryz.func3,Tryz.ntmps3;go_upto_region 2 with fail
 generalize hW0 : World.alloc (World.alloc (World.alloc w _) _) _ = W0;obtain ⟨b,hb⟩ : ∃ b,b = w.heap.size:=⟨_,rfl⟩;obtain ⟨g,hg⟩ : ∃ g,g = w.heap.size + 1 + 1:=⟨_,rfl⟩;obtain ⟨p5,hp5⟩ : ∃ p5,p5 = w.heap.size + 1:=⟨_,rfl⟩
 have HP0 : Hid (Blk W0 b 27 s.cs):=by
  show Blk _ _ _ _;rw [← hW0,HC0.out,hb];exact ((Blk.new _ _ _).alloc _).alloc _
 have HT1 : Hid (Blk W0 p5 35 T0):=by
  show Blk _ _ _ _;rw [← hW0,hp5];exact (blk_new _ _ _ _ (by simp)).alloc _
 have HG0 : Hid (Blk W0 g 41 #[.slice none 0 0,.slice none 0 0,.slice none 0 0]):=by
  show Blk _ _ _ _;rw [← hW0,hg];exact blk_new _ _ _ _ (by simp)
 have HB0 : Hid (Below b w W0):=by
  show Below _ _ _;rw [← hW0,hb];exact (((Below.refl _ _).alloc (Nat.le_refl _) _).alloc (by simp) _).alloc (by simp;omega) _
 have hgb : b ≤ g:=by omega
 have hpb : b ≤ p5:=by omega
 have HK0 : Hid (LK W0 b g 0):=⟨[],[],[],none,0,none,0,none,0,Nat.le_refl _,HG0.out,hgb,World.ownsRow_nil _ _ _ _,World.ownsRow_nil _ _ _ _,World.ownsRow_nil _ _ _ _,fun e he => (by cases he),fun e he => (by cases he),fun e he => (by cases he)⟩;have HINb : Hid (SmIn w b s):=by show SmIn _ _ _;rw [hb];exact HIN.out
 have HTMb : Hid (EmIn w b tm):=by show EmIn _ _ _;rw [hb];exact HTM.out
 have HLb : Hid (MsIn w b Al ln l):=by show MsIn _ _ _ _ _;rw [hb];exact HLI.out
 have hbw : b ≤ W0.heap.size:=by have:=HP0.out.lt;omega
 rw [← hg,← hp5,← hb];have HBW:=hide hb;clear hW0 hg hp5 HG0 HIN HTM HLI hb;refine wp_region_lit ?_;refine wpList_value rfl (.pointer (some ⟨b,0,none⟩)) (by go_simp) ?_;try simp only [Act.put,aSt,aSz,aSs]
 refine wpList_value rfl (.agg (cfC s.c s.A s.k)) (ex_load 24 (.tmp 31) rfl _ rfl _ _ Tryz.underlying24 rfl (ld44 _ rfl) (sm_pre HP0.out)) ?_;try simp only [Act.put,aSt,aSz,aSs]
 refine wpList_value rfl (.agg (Sm.cs ⟨s.c,s.A,s.k,none,0,[]⟩)) (ex_build47 (.tmp 32) rfl s.c s.A s.k rfl) ?_;try simp only [Act.put,aSt,aSz,aSs]
 refine wpList_step (fun K hK => ?_);rw [if_pos (by rfl)];go_simp;refine hK _ _ ?_;clear hK K;refine wpList_store_fresh rfl 27 (.tmp 8) (.tmp 33) rfl _ (Sm.cs ⟨s.c,s.A,s.k,none,0,[]⟩) rfl rfl (ld47 _ rfl) rfl (sm_all _) ?_;try simp only [Act.put,aSt,aSz,aSs]
 obtain ⟨W1,hW1⟩ : ∃ W1,W1 = World.alloc W0 (.cells (Sm.cs ⟨s.c,s.A,s.k,none,0,[]⟩) 27):=⟨_,rfl⟩;obtain ⟨pin,hpin⟩ : ∃ pin,pin = W0.heap.size:=⟨_,rfl⟩;have hal : Below W0.heap.size W0 W1:=by rw [hW1];exact (Below.refl _ _).alloc (Nat.le_refl _) _
 have HI1 : Hid (Blk W1 pin 27 (Sm.cs ⟨s.c,s.A,s.k,none,0,[]⟩)):=by show Blk _ _ _ _;rw [hW1,hpin];exact Blk.new _ _ _
 have HP1:=hide (HP0.out.below hal HP0.out.lt);have HT2:=hide (HT1.out.below hal HT1.out.lt);have HK1:=hide (HK0.out.step hal);have HB1:=hide (HB0.out.trans (hal.mono hbw));have hib : b ≤ pin:=by omega
 have hipne : Hid (¬ pin = b):=by show ¬ _;have:=HP0.out.lt;omega
 rw [← hW1];try rw [← hpin]
 clear hW1 hpin hal HP0 HT1 HK0 HB0 hbw;have hbw1 : b ≤ W1.heap.size:=by have:=HP1.out.lt;omega
 have HIT:=hide (lent_ints b g 0 s.A s.c.votes.length s.k (ints s.c.votes) W1 HK1.out hbw1 ((Reads.below HINb.out.vot HB1.out).more hbw1) (one_ints _) (by omega) (by omega));obtain ⟨vn,hvn⟩ : ∃ vn,vn = s.c.votes.length:=⟨_,rfl⟩;have k7 : W1.cell? ⟨b,7,none⟩ = some (.slice s.A vn s.k):=by rw [hvn];exact HP1.out.cell 7
 rw [← hvn] at HIT;have HVN:=hide hvn;clear hvn;have HKD : Hid (∀ W : World,Blk W pin 27 (Sm.cs ⟨s.c,s.A,s.k,none,0,[]⟩) → W.cell? ⟨pin,7,none⟩ = some (.slice s.A s.c.votes.length s.k)):=fun W h => h.cell 7
 go_upto_region 4 with (go_at_call 6;refine HIT.out.mono ?_;rintro e wa ⟨gV,cV,rfl,hlk,hown,hst⟩;have HLKa:=hide hlk;have HOa:=hide hown;have HSa:=hide hst;have HIa:=hide (hst.blk HI1.out not4_S);have kD:=HKD.out wa HIa.out;have fD:=Blk.frozen HIa.out 7;clear hlk hown hst)
 clear k7 kD fD HIT HKD;have hWW:=only_setCell0 wa pin 7 (.slice (some ⟨gV,0,none⟩) vn cV);obtain ⟨W2,hW2⟩ : ∃ W2,W2 = World.setCell wa ⟨pin,7,none⟩ (.slice (some ⟨gV,0,none⟩) vn cV):=⟨_,rfl⟩
 have HI2 : Hid (Blk W2 pin 27 (Sm.cs ⟨s.c,some ⟨gV,0,none⟩,cV,none,0,[]⟩)):=by
  show Blk _ _ _ _;rw [hW2,HVN.out];exact HIa.out.set_ 7 _
 rw [← hW2] at hWW ⊢
 have hap : ∀ t,¬ t = 27 → Apart wa (fun k => k = pin) t:=fun t ht k hk e => by
  have e2 : k = pin:=e;subst e2;exact ⟨_,_,HIa.out,fun e3 => ht e3.symm⟩
 have HC2 : Hid (KC s T0 b b p5 g pin (Sm.cs ⟨s.c,some ⟨gV,0,none⟩,cV,none,0,[]⟩) gV cV 1 w W2):=by
  have hS1:=HSa.out;refine ⟨(hS1.blk HP1.out not4_S).only hWW (fun e => hipne.out e.symm),(hS1.blk HT2.out not4_T).apart hWW (hap _ (by decide)),HI2.out,HLKa.out.one HIa.out not7_S hWW,?_,?_⟩
  ·have h1:=own_base (own_apart HOa.out hWW (hap _ (by decide))) hbw1
   rw [HVN.out] at h1;exact h1
  ·have h1:=HB1.out.trans (hS1.below hbw1)
   exact h1.trans (hWW.below (by have:=hS1.size;omega) (fun k hk e => by have e2 : k = pin:=e;omega))
 clear hWW hW2 hap HIa HOa HSa HLKa HB1 HK1 HT2 HP1 HI1 HI2 hbw1;obtain ⟨n,hnn⟩ : ∃ n,n = s.ms.length:=⟨_,rfl⟩;have HN:=hide hnn;rw [← hnn] at hn;clear hnn;obtain ⟨Cin,hCin⟩ : ∃ Cin,Cin = Sm.cs ⟨s.c,some ⟨gV,0,none⟩,cV,none,0,[]⟩:=⟨_,rfl⟩;rw [← hCin] at HC2;have HCIN:=hide hCin;clear hCin;have HL2 : Hid (KJ1 s T0 b b p5 g pin Cin gV cV w (.slice none 0 0) (.int .i64 0) W2):=⟨0,[],none,0,Nat.zero_le _,rfl,rfl,rfl,rfl,fun m hm => (by cases hm),⟨World.ownsRow_nil _ _ _ _,fun m hm => (by cases hm)⟩,HC2.out⟩;clear HC2;go_upto_region 6 with fail
 go_loopw [9,10] (fun v i wr => KJ1 s T0 b b p5 g pin Cin gV cV w v i wr) (fun _ i _ => n - (intOf i).toNat)
 case atStart => exact HL2.out
 case round =>
  clear HL2;unfold KJ1 at hrel;obtain ⟨j,ms,A9,c9,hj,rfl,rfl,hml,hme,hmo,hev,hkc⟩:=hrel;rw [← HN.out] at hj;have HME:=hide hme;have HMO:=hide hmo;have HEV:=hide hev;have HKC:=hide hkc;have HML:=hide hml;clear hme hmo hev hkc hml;have j0 : (0 : Int) ≤ (j : Int):=by omega
  have k8 : wr.cell? ⟨b,8,none⟩ = some (.slice s.Ae n s.ke):=by rw [HN.out];exact HKC.out.bs.cell 8
  have hbr : b ≤ wr.heap.size:=by have:=HKC.out.bs.lt;omega
  by_cases hlt : j < n
  ·have js : (j : Int) < (n : Int):=by omega
   obtain ⟨bb,off,m,hAe,hbB,hm,qc⟩:=ems_at (w:=wr) (B:=b) (Reads.below HINb.out.row HKC.out.lo) rfl (show j < s.ms.length by rw [← HN.out];exact hlt);have HQ:=hide qc;have HMM:=hide hm;have hmok:=HM.out m (List.mem_of_getElem? hm);have HMK:=hide hmok;have HIM : Hid (EmIn wr b m):=(HINb.out.ent m (List.mem_of_getElem? hm)).below HKC.out.lo;have hbk:=hmok.bulk;have HLE:=hide (lent_event b g (1 + 2 * j) m wr HKC.out.lk hbr HIM.out (by omega) (by omega) (by omega));rw [hAe] at k8;clear hm qc hAe hmok hbk;go_upto_region 8 with fail
   clear js;refine wp_region_lit ?_;refine wpList_value rfl (.slice A9 ms.length c9) (by go_simp) ?_;try simp only [Act.put,aSt,aSz,aSs]
   refine wpList_value rfl (.pointer (some ⟨g,0,none⟩)) (by go_simp) ?_;try simp only [Act.put,aSt,aSz,aSs]
   refine wpList_value rfl (.pointer (some ⟨b,8,none⟩)) (by go_simp) ?_;try simp only [Act.put,aSt,aSz,aSs]
   refine wpList_value rfl (.slice (some ⟨bb,off,none⟩) n s.ke) (by go_simp) ?_;try simp only [Act.put,aSt,aSz,aSs]
   refine wpList_value rfl (.int .i64 (j : Int)) (by go_simp) ?_;try simp only [Act.put,aSt,aSz,aSs]
   refine wpList_value rfl (.pointer (some ⟨bb,off + j * 13,none⟩)) (by go_simp) ?_;try simp only [Act.put,aSt,aSz,aSs]
   refine wpList_value rfl (.agg m.cs) (ex_load 33 (.tmp 53) rfl _ rfl m.cs _ Tryz.underlying33 rfl (ld29 _ (em_size _)) HQ.out) ?_;try simp only [Act.put,aSt,aSz,aSs]
   refine wpList_step (fun K hK => ?_);rw [if_pos (by rfl)];go_simp;go_at_call 7;refine HLE.out.mono ?_;rintro e w5 ⟨m',rfl,hmev,hmns,hmnb,hmu,hlk,hst⟩;have HEV5:=hide (HEV.out.lstep hst);have HKC5:=hide (HKC.out.lstep hst hbr hlk);have HMU5:=hide (hmu.base hbr);have HMV:=hide hmev;have HMO5 : Hid (EvOk m'):=HMK.out.of hmev hmns hmnb;have hbr5 : b ≤ w5.heap.size:=by have:=HKC5.out.bs.lt;omega
   refine hK _ _ ?_;clear hK K hmev hmns hmnb hmu hlk hst HLE HIM HEV HKC HQ HMK k8;try simp only [Act.put,aSt,aSz,aSs]
   refine wpList_one29 rfl (.tmp 55) rfl m' rfl ?_;try simp only [Act.put,aSt,aSz,aSs]
   refine wpList_push (W:=w5) (cs:=m'.cs) rfl (.tmp 48) (.tmp 56) _ rfl b 33 i29 _ 13 160 Tryz.underlying25 I29.out Z29.out hs29 hb29 rfl (by omega) (.slice A9 ms.length c9) ms.length _ rfl HEV5.out.row 1 1 rfl rfl (ecs_one m') (by omega) (by unfold maxLen;have:=HML.out;omega) (by have:=HML.out;omega) hbr5 ?_;intro g8 c8 w8 hown8 hgr8 hb8 _ _ _;have hal:=(Below.refl w5.heap.size w5).alloc (Nat.le_refl _) (.cells m'.cs 33);have hrA:=own_step HEV5.out.row hal
   have HL8 : Hid (KJ1 s T0 b b p5 g pin Cin gV cV w (.slice (some ⟨g8,0,none⟩) (ms.length + 1) c8) (.int .i64 ((j : Int) + 1)) w8):=by
    refine ⟨j + 1,ms ++ [m'],some ⟨g8,0,none⟩,c8,by rw [← HN.out];omega,by go_num,by rw [List.length_append];rfl,by rw [List.length_append,HML.out];rfl,?_,?_,⟨?_,?_⟩,?_⟩
    ·rw [List.map_append,HME.out,List.take_add_one,HMM.out,List.map_append]
     show _ ++ [m'.ev] = _ ++ [m.ev];rw [HMV.out]
    ·intro x hx
     rcases List.mem_append.1 hx with hx | hx
     ·exact HMO.out x hx
     ·obtain rfl:=List.mem_singleton.1 hx
      exact HMO5.out
    ·rw [List.length_append,emCells_snoc]
     exact hown8
    ·intro x hx
     rcases List.mem_append.1 hx with hx | hx
     ·exact ((HEV5.out.ent x hx).step hal).push hrA (by decide) (by decide) hgr8
     ·obtain rfl:=List.mem_singleton.1 hx
      exact (HMU5.out.step hal).push hrA (by decide) (by decide) hgr8
    ·have h1:=HKC5.out.push hal hrA hgr8 hbr5 not7_E (by decide) (by decide)
     rw [show 1 + 2 * (j + 1) = 1 + 2 * j + 2 by omega];exact h1
   clear hown8 hgr8 hb8 hal hrA;try simp only [Act.put,aSt,aSz,aSs]
   go_wp2_with fail;go_roundw
   case rel => exact HL8.out
   case measure => simp [intOf];omega
  ·have js : ¬ (j : Int) < (n : Int):=by omega
   have hjn : j = n:=by omega
   subst hjn;have HEF : Hid (ms.map Em.ev = s.ms.map Em.ev):=by show _ = _;rw [HME.out,HN.out,List.take_length]
   have HL5 : Hid (KJ2 s T0 b b p5 g pin Cin gV cV w ms A9 c9 (1 + 2 * j) l (.slice none 0 0) (.int .i64 0) wr):=⟨0,[],none,0,Nat.zero_le _,rfl,rfl,rfl,⟨rfl,fun k m m' h1 h2 => by simp at h2⟩,⟨World.ownsRow_nil _ _ _ _,fun m hm => (by cases hm)⟩,HEV.out,HKC.out⟩;clear HME HEV HKC;go_upto_region 11 with fail
   clear js k8 hbr;obtain ⟨wx,hwx⟩ : ∃ wx,wx = wr:=⟨_,rfl⟩;clear hwx;obtain ⟨n,hn2⟩ : ∃ n,n = j:=⟨_,rfl⟩;have HNJ:=hide hn2;clear hn2;go_loopw [11,12] (fun v i wr => KJ2 s T0 b b p5 g pin Cin gV cV w ms A9 c9 (1 + 2 * j) l v i wr) (fun _ i _ => ln - (intOf i).toNat)
   case atStart => exact HL5.out
   case round =>
    clear HL5;unfold KJ2 at hrel;obtain ⟨q,ls,A8,c8,hq,rfl,rfl,hlq,hsame,hmr,hev,hkc⟩:=hrel;rw [hll] at hq;have HSA:=hide hsame;have HMR:=hide hmr;have HEV:=hide hev;have HKC:=hide hkc;have HLQ:=hide hlq;clear hsame hmr hev hkc hlq;have q0 : (0 : Int) ≤ (q : Int):=by omega
    have hbr : b ≤ wr.heap.size:=by have:=HKC.out.bs.lt;omega
    by_cases hlt : q < ln
    ·have js : (q : Int) < (ln : Int):=by omega
     obtain ⟨bb,off,m,hAl,hbB,hm,hin,qc⟩:=(HLb.out.below HKC.out.lo).at_ hlt;have HQ:=hide (cells_add qc);have HMM:=hide hm;have HINw:=hide (HLb.out.ent m (List.mem_of_getElem? hm));have hmz:=HLZ.out m (List.mem_of_getElem? hm);have hz1:=hmz.nm;have hz2:=hmz.nt;have hz3:=hmz.nb;have HAL:=hide hAl;rw [hAl];clear hm hin qc hmz hAl;go_upto_region 13 with fail
     clear js;refine wp_region_lit ?_;refine wpList_value rfl (.slice (some ⟨bb,off,none⟩) ln lc) (by go_simp) ?_;try simp only [Act.put,aSt,aSz,aSs]
     refine wpList_value rfl (.int .i64 (q : Int)) (by go_simp) ?_;try simp only [Act.put,aSt,aSz,aSs]
     refine wpList_value rfl (.pointer (some ⟨bb,off + q * 26,none⟩)) (by go_simp) ?_;try simp only [Act.put,aSt,aSz,aSs]
     refine wpList_value rfl (.agg m.cs) (ex_load 51 (.tmp 66) rfl ⟨bb,off + q * 26,none⟩ rfl m.cs _ Tryz.underlying51 rfl (ld48 _ (mk_size _)) HQ.out) ?_;try simp only [Act.put,aSt,aSz,aSs]
     refine wpList_step (fun K hK => ?_);rw [if_pos (by rfl)];go_simp;refine hK _ _ ?_;clear hK K;refine wpList_store_fresh rfl 51 (.tmp 13) (.tmp 67) rfl _ m.cs rfl rfl (ld48 _ (mk_size _)) rfl (by simp [Mk.cs,Value.oneCell']) ?_;try simp only [Act.put,aSt,aSz,aSs]
     obtain ⟨V0,hV0⟩ : ∃ V0,V0 = World.alloc wr (.cells m.cs 51):=⟨_,rfl⟩;obtain ⟨pm,hpm⟩ : ∃ pm,pm = wr.heap.size:=⟨_,rfl⟩;have hal : Below wr.heap.size wr V0:=by rw [hV0];exact (Below.refl _ _).alloc (Nat.le_refl _) _
     obtain ⟨C1,hC1⟩ : ∃ C1,C1 = m.cs:=⟨_,rfl⟩;have HP0 : Hid (Blk V0 pm 51 C1):=by show Blk _ _ _ _;rw [hV0,hpm,hC1];exact Blk.new _ _ _
     have HC1:=hide hC1;have HRB : Hid (∀ x,(Value.slice A8 ls.length c8).ownBlock = some x → x < pm):=fun x hx => by rw [hpm];exact (HMR.out.row.lt x hx).2
     have HMR0:=hide (HMR.out.step hal);have HEV0:=hide (HEV.out.step hal);have HKC0:=hide (HKC.out.step hal hbr);have hpb2 : b ≤ pm:=by omega
     have hbr0 : b ≤ V0.heap.size:=by have:=hal.size;omega
     rw [← hV0];try rw [← hpm]
     clear hV0 hpm hal HMR HEV HKC HQ hC1 hbr;have HLN0:=hide (lent_bytes b g (1 + 2 * j + 3 * q) m.Ab m.nb m.cb (Lib.byteCells m.bd) V0 HKC0.out.lk hbr0 (Reads.more (Reads.below HINw.out.body HKC0.out.lo) hbr0) (one_bytes _) (by omega) (by omega))
     have HKD0 : Hid (∀ W : World,Blk W pm 51 C1 → W.cell? ⟨pm,14,none⟩ = some (.slice m.Ab m.nb m.cb)):=fun W hW => by
      rw [hW.cell 14,HC1.out]
      rfl
     have kC:=HKD0.out V0 HP0.out;go_upto_region 15 with (go_at_call 8;refine HLN0.out.mono ?_;rintro e wa ⟨gA,c1,rfl,hlk,hown,hst⟩;have HLKa:=hide hlk;have HOa:=hide hown;have HSa:=hide hst;have HPa:=hide (hst.blk HP0.out not4_K);have kD:=HKD0.out wa HPa.out;have fD:=Blk.frozen HPa.out 14;clear hlk hown hst)
     clear kC kD fD HLN0 HKD0;have hWW:=only_setCell0 wa pm 14 (.slice (some ⟨gA,0,none⟩) m.nb c1);obtain ⟨V1,hV1⟩ : ∃ V,V = World.setCell wa ⟨pm,14,none⟩ (.slice (some ⟨gA,0,none⟩) m.nb c1):=⟨_,rfl⟩;obtain ⟨C2,hC2⟩ : ∃ C,C = C1.setIfInBounds 14 (.slice (some ⟨gA,0,none⟩) m.nb c1):=⟨_,rfl⟩
     have HP1 : Hid (Blk V1 pm 51 C2):=by
      show Blk _ _ _ _;rw [hV1,hC2];exact HPa.out.set_ 14 _
     rw [← hV1] at hWW ⊢;have HC2:=hide hC2
     have hap : ∀ t,¬ t = 51 → Apart wa (fun k => k = pm) t:=fun t ht k hk e => by
      have e2 : k = pm:=e;subst e2;exact ⟨_,_,HPa.out,fun e3 => ht e3.symm⟩
     have hbra : b ≤ wa.heap.size:=by have:=HSa.out.size;omega
     have HKCa:=HKC0.out.lstep HSa.out hbr0 HLKa.out;have HKC1:=hide (HKCa.one HPa.out not7_K (by decide) (by decide) hpb2 hbra hWW);have HMR1:=hide ((HMR0.out.lstep HSa.out).boxed HPa.out HRB.out hWW);have HEV1:=hide ((HEV0.out.lstep HSa.out).one HPa.out (by decide) (by decide) (by decide) hWW);have HR1:=hide (own_base (own_apart HOa.out hWW (hap _ (by decide))) hbr0);have hbr1 : b ≤ V1.heap.size:=by have:=hWW.size;omega
     clear hWW hV1 hC2 hap HPa HOa HSa HLKa HKCa hbra HP0 HKC0 HMR0 HEV0;have HLN1:=hide (lent_ints b g (1 + 2 * j + 3 * q + 1) m.At m.nt m.ct (ints m.ts) V1 HKC1.out.lk hbr1 (Reads.more (Reads.below HINw.out.tr HKC1.out.lo) hbr1) (one_ints _) (by omega) (by omega))
     have HKD1 : Hid (∀ W : World,Blk W pm 51 C2 → W.cell? ⟨pm,9,none⟩ = some (.slice m.At m.nt m.ct)):=fun W hW => by
      rw [hW.cell 9,HC2.out,HC1.out]
      rfl
     have kC:=HKD1.out V1 HP1.out;go_upto_region 16 with (go_at_call 6;refine HLN1.out.mono ?_;rintro e wa ⟨gB,c2,rfl,hlk,hown,hst⟩;have HLKa:=hide hlk;have HOa:=hide hown;have HSa:=hide hst;have HPa:=hide (hst.blk HP1.out not4_K);have kD:=HKD1.out wa HPa.out;have fD:=Blk.frozen HPa.out 9;clear hlk hown hst)
     clear kC kD fD HLN1 HKD1;have hWW:=only_setCell0 wa pm 9 (.slice (some ⟨gB,0,none⟩) m.nt c2);obtain ⟨V2,hV2⟩ : ∃ V,V = World.setCell wa ⟨pm,9,none⟩ (.slice (some ⟨gB,0,none⟩) m.nt c2):=⟨_,rfl⟩;obtain ⟨C3,hC3⟩ : ∃ C,C = C2.setIfInBounds 9 (.slice (some ⟨gB,0,none⟩) m.nt c2):=⟨_,rfl⟩
     have HP2 : Hid (Blk V2 pm 51 C3):=by
      show Blk _ _ _ _;rw [hV2,hC3];exact HPa.out.set_ 9 _
     rw [← hV2] at hWW ⊢;have HC3:=hide hC3
     have hap : ∀ t,¬ t = 51 → Apart wa (fun k => k = pm) t:=fun t ht k hk e => by
      have e2 : k = pm:=e;subst e2;exact ⟨_,_,HPa.out,fun e3 => ht e3.symm⟩
     have hbra : b ≤ wa.heap.size:=by have:=HSa.out.size;omega
     have HKCa:=HKC1.out.lstep HSa.out hbr1 HLKa.out;have HKC2:=hide (HKCa.one HPa.out not7_K (by decide) (by decide) hpb2 hbra hWW);have HMR2:=hide ((HMR1.out.lstep HSa.out).boxed HPa.out HRB.out hWW);have HEV2:=hide ((HEV1.out.lstep HSa.out).one HPa.out (by decide) (by decide) (by decide) hWW);have HR2:=hide (own_base (own_apart HOa.out hWW (hap _ (by decide))) hbr1);have HR1x:=hide (own_apart (HSa.out.own HR1.out not4_5) hWW (hap _ (by decide)));have hbr2 : b ≤ V2.heap.size:=by have:=hWW.size;omega
     clear hWW hV2 hC3 hap HPa HOa HSa HLKa HKCa hbra HP1 HKC1 HMR1 HEV1;have HLN2:=hide (lent_members b g (1 + 2 * j + 3 * q + 1 + 1) m.Am m.nm m.cm (sts m.ms) V2 HKC2.out.lk hbr2 (Reads.more (Reads.below HINw.out.mem HKC2.out.lo) hbr2) (sts_one _) (by omega) (by omega))
     have HKD2 : Hid (∀ W : World,Blk W pm 51 C3 → W.cell? ⟨pm,8,none⟩ = some (.slice m.Am m.nm m.cm)):=fun W hW => by
      rw [hW.cell 8,HC3.out,HC2.out,HC1.out]
      rfl
     have kC:=HKD2.out V2 HP2.out;go_upto_region 17 with (go_at_call 9;refine HLN2.out.mono ?_;rintro e wa ⟨gC,c3,rfl,hlk,hown,hst⟩;have HLKa:=hide hlk;have HOa:=hide hown;have HSa:=hide hst;have HPa:=hide (hst.blk HP2.out not4_K);have kD:=HKD2.out wa HPa.out;have fD:=Blk.frozen HPa.out 8;clear hlk hown hst)
     clear kC kD fD HLN2 HKD2;have hWW:=only_setCell0 wa pm 8 (.slice (some ⟨gC,0,none⟩) m.nm c3);obtain ⟨V3,hV3⟩ : ∃ V,V = World.setCell wa ⟨pm,8,none⟩ (.slice (some ⟨gC,0,none⟩) m.nm c3):=⟨_,rfl⟩;obtain ⟨C4,hC4⟩ : ∃ C,C = C3.setIfInBounds 8 (.slice (some ⟨gC,0,none⟩) m.nm c3):=⟨_,rfl⟩
     have HP3 : Hid (Blk V3 pm 51 C4):=by
      show Blk _ _ _ _;rw [hV3,hC4];exact HPa.out.set_ 8 _
     rw [← hV3] at hWW ⊢;have HC4:=hide hC4
     have hap : ∀ t,¬ t = 51 → Apart wa (fun k => k = pm) t:=fun t ht k hk e => by
      have e2 : k = pm:=e;subst e2;exact ⟨_,_,HPa.out,fun e3 => ht e3.symm⟩
     have hbra : b ≤ wa.heap.size:=by have:=HSa.out.size;omega
     have HKCa:=HKC2.out.lstep HSa.out hbr2 HLKa.out;have HKC3:=hide (HKCa.one HPa.out not7_K (by decide) (by decide) hpb2 hbra hWW);have HMR3:=hide ((HMR2.out.lstep HSa.out).boxed HPa.out HRB.out hWW);have HEV3:=hide ((HEV2.out.lstep HSa.out).one HPa.out (by decide) (by decide) (by decide) hWW);have HR3:=hide (own_base (own_apart HOa.out hWW (hap _ (by decide))) hbr2);have HR1xx:=hide (own_apart (HSa.out.own HR1x.out not4_5) hWW (hap _ (by decide)));have HR2x:=hide (own_apart (HSa.out.own HR2.out not4_3) hWW (hap _ (by decide)));have hbr3 : b ≤ V3.heap.size:=by have:=hWW.size;omega
     clear hWW hV3 hC4 hap HPa HOa HSa HLKa HKCa hbra HP2 HKC2 HMR2 HEV2;obtain ⟨m',hm'⟩ : ∃ m' : Mk,m' = m.at (some ⟨gC,0,none⟩) c3 (some ⟨gB,0,none⟩) c2 (some ⟨gA,0,none⟩) c1:=⟨_,rfl⟩
     have HPF : Hid (Blk V3 pm 51 m'.cs):=by
      show Blk _ _ _ _;have h1:=HP3.out;rw [HC4.out,HC3.out,HC2.out,HC1.out] at h1;rw [hm'];exact h1
     have HM':=hide hm'
     have HMT : Hid (MkT V3 b m'):=by
      show MkT _ _ _;rw [hm'];exact ⟨HR3.out,HR2x.out,HR1xx.out,HINw.out.hm,HINw.out.ht,HINw.out.hb⟩
     clear hm' HP3 HC1 HC2 HC3 HC4;go_upto_region 17 with fail
     refine wp_region_lit ?_;refine wpList_value rfl (.slice A8 ls.length c8) (by go_simp) ?_;try simp only [Act.put,aSt,aSz,aSs]
     refine wpList_value rfl (.agg m'.cs) (ex_load 51 (.tmp 13) rfl _ rfl m'.cs _ Tryz.underlying51 rfl (ld48 _ (mk_size _)) (box_all HPF.out)) ?_;try simp only [Act.put,aSt,aSz,aSs]
     refine wpList_one48 rfl (.tmp 84) rfl m' rfl ?_;try simp only [Act.put,aSt,aSz,aSs]
     refine wpList_push (W:=V3) (cs:=m'.cs) rfl (.tmp 83) (.tmp 85) _ rfl b 51 i48 _ 26 288 Tryz.underlying28 I48.out Z48.out hs48 hb48 rfl (by omega) (.slice A8 ls.length c8) ls.length _ rfl HMR3.out.row 1 1 rfl rfl (cs_one m') (by omega) (by unfold maxLen;have:=HLQ.out;omega) (by have:=HLQ.out;omega) hbr3 ?_;intro g8 d8 w8 hown8 hgr8 hb8 _ _ _;have hal:=(Below.refl V3.heap.size V3).alloc (Nat.le_refl _) (.cells m'.cs 51);have hrA:=own_step HMR3.out.row hal
     have HL8 : Hid (KJ2 s T0 b b p5 g pin Cin gV cV w ms A9 c9 (1 + 2 * j) l (.slice (some ⟨g8,0,none⟩) (ls.length + 1) d8) (.int .i64 ((q : Int) + 1)) w8):=by
      refine ⟨q + 1,ls ++ [m'],some ⟨g8,0,none⟩,d8,by omega,by go_num,by rw [List.length_append];rfl,by rw [List.length_append,HLQ.out];rfl,HSA.out.snoc HMM.out ⟨_,_,_,_,_,_,HM'.out⟩,⟨?_,?_⟩,HEV3.out.grow hal hrA (by decide) (by decide) (by decide) hgr8,?_⟩
      ·rw [List.length_append,mkCells_snoc]
       exact hown8
      ·intro x hx
       rcases List.mem_append.1 hx with hx | hx
       ·exact ((HMR3.out.ent x hx).step hal).push hrA hgr8
       ·obtain rfl:=List.mem_singleton.1 hx
        exact (HMT.out.step hal).push hrA hgr8
      ·have h1:=HKC3.out.push hal hrA hgr8 hbr3 not7_K (by decide) (by decide)
       rw [show 1 + 2 * j + 3 * (q + 1) = 1 + 2 * j + 3 * q + 1 + 1 + 1 by omega];exact h1
     clear hown8 hgr8 hb8 hal hrA;try simp only [Act.put,aSt,aSz,aSs]
     go_wp2_with fail;go_roundw
     case rel => first | exact HL8.out | exact ⟨_,HL8.out,rfl⟩ | exact ⟨_,_,HL8.out,rfl,rfl⟩
     case measure => simp [intOf];omega
    ·have js : ¬ (q : Int) < (ln : Int):=by omega
     have hqn : q = ln:=by omega
     subst hqn
     have HSL : Hid (SameC l ls):=by
      have:=HSA.out;rw [List.take_of_length_le (by omega)] at this;exact this
     have hlsq : ls.length = q:=HLQ.out;have hmsj : ms.length = j:=HML.out;obtain ⟨KK,hKK⟩ : ∃ KK,KK = 1 + 2 * j + 3 * q:=⟨_,rfl⟩;have hKb : KK ≤ 9000000:=by omega
     have HL6 : Hid (KJ3 s T0 b b p5 g pin Cin gV cV KK w ms ls (.slice A9 ms.length c9) (.slice A8 ls.length c8) (.int .i64 0) wr):=by
      refine ⟨0,A9,c9,A8,c8,Nat.zero_le _,rfl,rfl,rfl,?_,?_,by rw [hKK];exact HKC.out⟩
      ·rw [show ms ++ evs 0 = ms from List.append_nil ms]
       exact HEV.out
      ·rw [show ls ++ mks 0 = ls from List.append_nil ls]
       exact HMR.out
     have HMS:=hide hmsj;have HLS:=hide hlsq;clear HSA HMR HEV HKC hKK;go_upto_region 19 with fail
     clear js;obtain ⟨wy,hwy⟩ : ∃ wy,wy = wr:=⟨_,rfl⟩;clear hwy;go_loopw [9,11,14] (fun v v2 i wr => KJ3 s T0 b b p5 g pin Cin gV cV KK w ms ls v v2 i wr) (fun _ _ i _ => 64 - (intOf i).toNat)
     case atStart =>
      have h6:=HL6.out;rw [HMS.out,HLS.out] at h6;exact h6
     case round =>
      clear HL6;unfold KJ3 at hrel;obtain ⟨k,E9,d9,E8,d8,hk,rfl,rfl,rfl,hev,hmr,hkc⟩:=hrel;have HMR:=hide hmr;have HEV:=hide hev;have HKC:=hide hkc;clear hmr hev hkc;have k0 : (0 : Int) ≤ (k : Int):=by omega
      have hbr : b ≤ wr.heap.size:=by have:=HKC.out.bs.lt;omega
      have hle : (ms ++ evs k).length = ms.length + k:=by rw [List.length_append,evs_len]
      have hll2 : (ls ++ mks k).length = ls.length + k:=by rw [List.length_append,mks_len]
      have HRE : Hid (wr.ownsRow b 33 13 (.slice E9 (ms.length + k) d9) (ms.length + k) (emCells (ms ++ evs k))):=by
       have:=HEV.out.row;rw [hle] at this;exact this
      have HRM : Hid (wr.ownsRow b 51 26 (.slice E8 (ls.length + k) d8) (ls.length + k) (mkCells (ls ++ mks k))):=by
       have:=HMR.out.row;rw [hll2] at this;exact this
      have HLE2:=hide hle;have HLL2:=hide hll2;clear hle hll2
      by_cases hlt : k < 64
      ·have js : (k : Int) < 64:=by omega
       have hw : IntKind.i64.wrap (-700 - (k : Int)) = -700 - (k : Int):=i64_wrap _ (by omega) (by omega);go_upto_region 21 with fail
       clear js;refine wp_region_lit ?_;refine wpList_value rfl (.slice E9 (ms.length + k) d9) (by go_simp) ?_;try simp only [Act.put,aSt,aSz,aSs]
       refine wpList_value rfl (.int .i64 (k : Int)) (by go_simp) ?_;try simp only [Act.put,aSt,aSz,aSs]
       refine wpList_value rfl (.int .i64 (-700 - (k : Int))) (by go_simp) ?_;try simp only [Act.put,aSt,aSz,aSs]
       refine wpList_value rfl (.agg (evMk k).cs) (by go_simp;rfl) ?_;try simp only [Act.put,aSt,aSz,aSs]
       refine wpList_one29 rfl (.tmp 94) rfl (evMk k) rfl ?_;try simp only [Act.put,aSt,aSz,aSs]
       refine wpList_push (W:=wr) (cs:=(evMk k).cs) rfl (.tmp 91) (.tmp 95) _ rfl b 33 i29 _ 13 160 Tryz.underlying25 I29.out Z29.out hs29 hb29 rfl (by omega) (.slice E9 (ms.length + k) d9) (ms.length + k) _ rfl HRE.out 1 1 rfl rfl (ecs_one _) (by omega) (by unfold maxLen;have:=HMS.out;omega) (by have:=HMS.out;omega) hbr ?_;intro g7 d7 w7 hown7 hgr7 hb7 _ _ _;have hal:=(Below.refl wr.heap.size wr).alloc (Nat.le_refl _) (.cells (evMk k).cs 33);have hrA:=own_step HRE.out hal
       have HE7 : Hid (EvR b (ms ++ evs (k + 1)) (some ⟨g7,0,none⟩) d7 w7):=by
        refine ⟨?_,fun x hx => ?_⟩
        ·rw [evs_snoc,← List.append_assoc,List.length_append,HLE2.out,emCells_snoc]
         exact hown7
        ·rw [evs_snoc,← List.append_assoc] at hx
         rcases List.mem_append.1 hx with hx | hx
         ·exact ((HEV.out.ent x hx).step hal).push hrA (by decide) (by decide) hgr7
         ·obtain rfl:=List.mem_singleton.1 hx
          exact evMk_u _ _ _
       have HM7:=hide (HMR.out.grow hal hrA (by decide) (by decide) (by decide) (by decide) hgr7);have HRM7:=hide (own_kept (own_step HRM.out hal) hrA (by decide) hgr7);have HK7:=hide (HKC.out.push hal hrA hgr7 hbr not7_E (by decide) (by decide));have hbr7 : b ≤ w7.heap.size:=by have:=HK7.out.bs.lt;omega
       clear hown7 hgr7 hb7 hal hrA HEV HMR HKC HRE HRM;try simp only [Act.put,aSt,aSz,aSs]
       go_upto_region 22 with fail
       refine wp_region_lit ?_;refine wpList_value rfl (.slice E8 (ls.length + k) d8) (by go_simp) ?_;try simp only [Act.put,aSt,aSz,aSs]
       refine wpList_value rfl (.int .i64 (k : Int)) (by go_simp) ?_;try simp only [Act.put,aSt,aSz,aSs]
       refine wpList_value rfl (.int .i64 (-700 - (k : Int))) (by go_simp) ?_;try simp only [Act.put,aSt,aSz,aSs]
       refine wpList_value rfl (.agg (mkMk k).cs) (by go_simp;rfl) ?_;try simp only [Act.put,aSt,aSz,aSs]
       refine wpList_one48 rfl (.tmp 100) rfl (mkMk k) rfl ?_;try simp only [Act.put,aSt,aSz,aSs]
       refine wpList_push (W:=w7) (cs:=(mkMk k).cs) rfl (.tmp 97) (.tmp 101) _ rfl b 51 i48 _ 26 288 Tryz.underlying28 I48.out Z48.out hs48 hb48 rfl (by omega) (.slice E8 (ls.length + k) d8) (ls.length + k) _ rfl HRM7.out 1 1 rfl rfl (cs_one _) (by omega) (by unfold maxLen;have:=HLS.out;omega) (by have:=HLS.out;omega) hbr7 ?_;intro g8 e8 w8 hown8 hgr8 hb8 _ _ _;have hal:=(Below.refl w7.heap.size w7).alloc (Nat.le_refl _) (.cells (mkMk k).cs 51);have hrA:=own_step HRM7.out hal
       have HL8 : Hid (KJ3 s T0 b b p5 g pin Cin gV cV KK w ms ls (.slice (some ⟨g7,0,none⟩) (ms.length + k + 1) d7) (.slice (some ⟨g8,0,none⟩) (ls.length + k + 1) e8) (.int .i64 ((k : Int) + 1)) w8):=by
        refine ⟨k + 1,some ⟨g7,0,none⟩,d7,some ⟨g8,0,none⟩,e8,by omega,by go_num,rfl,rfl,HE7.out.grow hal hrA (by decide) (by decide) (by decide) hgr8,⟨?_,fun x hx => ?_⟩,HK7.out.push hal hrA hgr8 hbr7 not7_K (by decide) (by decide)⟩
        ·rw [mks_snoc,← List.append_assoc,List.length_append,HLL2.out,mkCells_snoc]
         exact hown8
        ·rw [mks_snoc,← List.append_assoc] at hx
         rcases List.mem_append.1 hx with hx | hx
         ·exact ((HM7.out.ent x hx).step hal).push hrA hgr8
         ·obtain rfl:=List.mem_singleton.1 hx
          exact mkMk_t _ _ _
       clear hown8 hgr8 hb8 hal hrA;try simp only [Act.put,aSt,aSz,aSs]
       go_wp2_with fail;go_roundw
       case rel => first | exact HL8.out | exact ⟨_,HL8.out,rfl⟩ | exact ⟨_,_,HL8.out,rfl,rfl⟩ | exact ⟨_,_,_,HL8.out,rfl,rfl,rfl⟩
       case measure => simp [intOf];omega
      ·have js : ¬ (k : Int) < 64:=by omega
       obtain rfl : k = 64:=by omega
       obtain ⟨gE,d1,e1,hgE⟩:=own_at0 HRE.out (by omega);injection e1 with e1 _ e1'
       subst e1 e1';obtain ⟨gM,d2,e2,hgM⟩:=own_at0 HRM.out (by omega);injection e2 with e2 _ e2'
       subst e2 e2'
       have hcapE : ms.length + 64 ≤ d9:=by
        obtain ⟨A3,c3,e3,_,hc3⟩:=own_slice HRE.out;injection e3 with _ _ e3
        omega
       have hcapM : ls.length + 64 ≤ d8:=by
        obtain ⟨A3,c3,e3,_,hc3⟩:=own_slice HRM.out;injection e3 with _ _ e3
        omega
       have cE1 : j ≤ d9:=by have:=HMS.out;omega
       have cM1 : q ≤ d8:=by have:=HLS.out;omega
       have k8 : wr.cell? ⟨b,8,none⟩ = some (.slice s.Ae j s.ke):=by rw [HN.out];exact HKC.out.bs.cell 8
       have kD : wr.cell? ⟨pin,8,none⟩ = some (.slice none 0 0):=by
        rw [HKC.out.bi.cell 8,HCIN.out]
        rfl
       have fD:=Blk.frozen HKC.out.bi 8;clear HRE HRM hlt;go_upto_region 24 with fail
       clear k8 kD fD js;have hWW:=only_setCell0 wr pin 8 (.slice (some ⟨gE,0,none⟩) j d9);obtain ⟨X1,hX1⟩ : ∃ X,X = World.setCell wr ⟨pin,8,none⟩ (.slice (some ⟨gE,0,none⟩) j d9):=⟨_,rfl⟩
       have HI3 : Hid (Blk X1 pin 27 (Sm.cs ⟨s.c,some ⟨gV,0,none⟩,cV,some ⟨gE,0,none⟩,d9,ms⟩)):=by
        show Blk _ _ _ _;rw [hX1];have h1:=HKC.out.bi.set_ 8 (.slice (some ⟨gE,0,none⟩) j d9);rw [HCIN.out,← HMS.out] at h1;rw [← HMS.out];exact h1
       rw [← hX1] at hWW ⊢;have HKX1:=hide (HKC.out.inn HI3.out (fun e => hipne.out e.symm) hib hbr hWW);have HEX1:=hide (HEV.out.one HKC.out.bi (by decide) (by decide) (by decide) hWW);have HMX1:=hide (HMR.out.one HKC.out.bi (by decide) (by decide) (by decide) (by decide) hWW);have hbx1 : b ≤ X1.heap.size:=by have:=hWW.size;omega
       clear hWW hX1 HI3 HKC HEV HMR hbr;have HLV:=hide (lent_event b g KK tm X1 HKX1.out.lk hbx1 (HTMb.out.below HKX1.out.lo) (by have:=HTO.out.bulk;omega) (by have:=HTO.out.bulk;omega) (by omega))
       have HTHc : Hid (∀ W : World,Blk W p5 35 T0 → ∀ j v,tm.cs[j]? = some v → W.cell? ((⟨p5,0,none⟩ : Addr).add j) = some v):=fun W hW => by
        rw [HT0.out] at hW;exact th_in hW
       refine wp_region_lit ?_;refine wpList_value rfl (.pointer (some ⟨g,0,none⟩)) (by go_simp) ?_;try simp only [Act.put,aSt,aSz,aSs]
       refine wpList_value rfl (.pointer (some ⟨p5,0,none⟩)) (by go_simp) ?_;try simp only [Act.put,aSt,aSz,aSs]
       refine wpList_value rfl (.agg tm.cs) (ex_load 33 (.tmp 110) rfl _ rfl tm.cs _ Tryz.underlying33 rfl (ld29 _ (em_size _)) (HTHc.out X1 HKX1.out.bt)) ?_;try simp only [Act.put,aSt,aSz,aSs]
       refine wpList_step (fun K hK => ?_);rw [if_pos (by rfl)];go_simp;go_at_call 7;refine HLV.out.mono ?_;rintro e X2 ⟨tm',rfl,htev,htns,htnb,htu,hlk,hst⟩;have HTE:=hide htev;have HTO2 : Hid (EvOk tm'):=HTO.out.of htev htns htnb;have HTU2:=hide (htu.base hbx1);have HKX2:=hide (HKX1.out.lstep hst hbx1 hlk);have HEX2:=hide (HEX1.out.lstep hst);have HMX2:=hide (HMX1.out.lstep hst);have hbx2 : b ≤ X2.heap.size:=by have:=hst.size;omega
       refine hK _ _ ?_;clear hK K htev htns htnb htu hlk hst HLV HKX1 HEX1 HMX1;try simp only [Act.put,aSt,aSz,aSs]
       refine wpList_step (fun K hK => ?_);rw [if_pos (by rfl)];go_simp;refine hK _ _ ?_;clear hK K;refine wpList_store_fresh rfl 33 (.tmp 15) (.tmp 112) rfl _ tm'.cs rfl rfl (ld29 _ (em_size _)) rfl (ecs_all _) ?_;try simp only [Act.put,aSt,aSz,aSs]
       obtain ⟨X3,hX3⟩ : ∃ X3,X3 = World.alloc X2 (.cells tm'.cs 33):=⟨_,rfl⟩;obtain ⟨pt,hpt⟩ : ∃ pt,pt = X2.heap.size:=⟨_,rfl⟩;have hal : Below X2.heap.size X2 X3:=by rw [hX3];exact (Below.refl _ _).alloc (Nat.le_refl _) _
       have HF3 : Hid (KF s T0 b b p5 g pin gV cV (KK + 2) ms gE d9 ls gM d8 pt tm' w X3):=⟨HKX2.out.step hal hbx2,HEX2.out.step hal,HMX2.out.step hal,by rw [hX3,hpt];exact Blk.new _ _ _,HTU2.out.step hal⟩;rw [← hX3];try rw [← hpt]
       clear hX3 hpt hal HKX2 HEX2 HMX2 HTU2;have hb3:=HF3.out.up (Nat.le_refl _);have hmsn : ms.length ≤ 1048576:=by have:=HMS.out;omega
       have HSC : Hid (∀ W,KF s T0 b b p5 g pin gV cV (KK + 2) ms gE d9 ls gM d8 pt tm' w W → SmIn W W.heap.size ⟨s.c,some ⟨gV,0,none⟩,cV,some ⟨gE,0,none⟩,d9,ms⟩):=fun W h => h.script hv hmsn
       have HSE : Hid ((⟨s.c,some ⟨gV,0,none⟩,cV,some ⟨gE,0,none⟩,d9,ms⟩ : Sm).sc = s.sc):=by
        show Sc.mk _ _ = Sc.mk _ _;rw [HEF.out]
       obtain ⟨px,hpx⟩ : ∃ px,px = S (printS s.sc).1:=⟨_,rfl⟩;obtain ⟨pn,hpn⟩ : ∃ pn,pn = (printS s.sc).2:=⟨_,rfl⟩;obtain ⟨tx,htx⟩ : ∃ tx,tx = S (resT l):=⟨_,rfl⟩;obtain ⟨tn_,htn⟩ : ∃ tn_,tn_ = resN l:=⟨_,rfl⟩;obtain ⟨ex,hex⟩ : ∃ ex,ex = S (printE nodes tm.ev).1:=⟨_,rfl⟩;obtain ⟨en,hen⟩ : ∃ en,en = (printE nodes tm.ev).2:=⟨_,rfl⟩
       have HPS : Hid (∀ W,KF s T0 b b p5 g pin gV cV (KK + 2) ms gE d9 ls gM d8 pt tm' w W → Calls Tryz.prog 11 #[.agg (Sm.cs ⟨s.c,some ⟨gV,0,none⟩,cV,some ⟨gE,0,none⟩,d9,ms⟩)] W fun e w' => e = .returned (.tuple #[.string px,.int .i64 pn]) ∧ Below W.heap.size W w'):=fun W h => by
        have h1:=pprint_script ⟨s.c,some ⟨gV,0,none⟩,cV,some ⟨gE,0,none⟩,d9,ms⟩ W (HSC.out W h) (by show s.c.votes.length ≤ _;omega) (by show ms.length ≤ _;omega) HMO.out (HOT.out.below (by have:=h.kc.lo;rw [HBW.out] at this;exact this) h0w) (HTB.out.below (by have:=h.kc.lo;rw [HBW.out] at this;exact this));rw [hpx,hpn,← HSE.out];exact h1
       have HPT : Hid (∀ W,KF s T0 b b p5 g pin gV cV (KK + 2) ms gE d9 ls gM d8 pt tm' w W → Calls Tryz.prog 12 #[.slice (some ⟨gM,0,none⟩) q d8] W fun e w' => e = .returned (.tuple #[.string tx,.int .i64 tn_]) ∧ Below W.heap.size W w'):=fun W h => by
        have h0:=h.marks;rw [HLS.out] at h0;have h1:=pprint_any (some ⟨gM,0,none⟩) q d8 ls W h0 (HSL.out.sz HLZ.out) (by omega) (HTB.out.below (by have:=h.kc.lo;rw [HBW.out] at this;exact this)) (HKT.out.below (by have:=h.kc.lo;rw [HBW.out] at this;exact this));rw [same_T HSL.out,same_N HSL.out,← htx,← htn] at h1;exact h1
       have HPE : Hid (∀ W,KF s T0 b b p5 g pin gV cV (KK + 2) ms gE d9 ls gM d8 pt tm' w W → Calls Tryz.prog 13 #[.agg tm'.cs,.int .i64 nodes] W fun e w' => e = .returned (.tuple #[.string ex,.int .i64 en]) ∧ Below W.heap.size W w'):=fun W h => by
        have h1:=pprint_ev tm' nodes W h.tu.inn HTO2.out (HOT.out.below (by have:=h.kc.lo;rw [HBW.out] at this;exact this) h0w) (HTB.out.below (by have:=h.kc.lo;rw [HBW.out] at this;exact this));unfold RprP at h1;rw [HTE.out,← hex,← hen] at h1;exact h1
       have HRS : Hid (∀ W,KF s T0 b b p5 g pin gV cV (KK + 2) ms gE d9 ls gM d8 pt tm' w W → Calls Tryz.prog 14 #[.agg s.cs] W fun e w' => e = .returned (.tuple #[.string px,.int .i64 pn]) ∧ Below W.heap.size W w'):=fun W h => by
        rw [hpx,hpn];exact rprint_script s W ((HINb.out.below h.kc.lo).up (h.up (Nat.le_refl _))) (by omega) (by have h1:=HN.out;have h2:=HMS.out;omega) HM.out
       have HRT : Hid (∀ W,KF s T0 b b p5 g pin gV cV (KK + 2) ms gE d9 ls gM d8 pt tm' w W → Calls Tryz.prog 15 #[.slice Al q lc] W fun e w' => e = .returned (.tuple #[.string tx,.int .i64 tn_]) ∧ Below W.heap.size W w'):=fun W h => by
        have h1:=rprint_any Al q lc l W ((HLb.out.below h.kc.lo).more (h.up (Nat.le_refl _))) HLZ.out (by omega);rw [← htx,← htn] at h1;exact h1
       have HRE : Hid (∀ W,KF s T0 b b p5 g pin gV cV (KK + 2) ms gE d9 ls gM d8 pt tm' w W → Calls Tryz.prog 16 #[.agg tm.cs,.int .i64 nodes] W fun e w' => e = .returned (.tuple #[.string ex,.int .i64 en]) ∧ Below W.heap.size W w'):=fun W h => by
        rw [hex,hen];exact rprint_ev tm nodes W ((HTMb.out.below h.kc.lo).up (h.up (Nat.le_refl _))) HTO.out
       have HCC : Hid (∀ W,KF s T0 b b p5 g pin gV cV (KK + 2) ms gE d9 ls gM d8 pt tm' w W → Calls Tryz.prog 10 #[.agg (cfC s.c (some ⟨gV,0,none⟩) cV)] W fun e w' => (∃ x : Int,e = .returned (.int .i64 x)) ∧ Below W.heap.size W w'):=fun W h => by
        refine (check_any s.c.nodes s.c.window s.c.base s.c.step s.c.cap s.c.room s.c.floor s.c.votes (some ⟨gV,0,none⟩) s.c.votes.length cV W (HSC.out W h).vot (by omega)).mono ?_;rintro e w' ⟨h1,rfl⟩;exact ⟨⟨_,h1⟩,(Below.refl _ _).alloc (Nat.le_refl _) _⟩
       have HST : Hid (∀ W W',KF s T0 b b p5 g pin gV cV (KK + 2) ms gE d9 ls gM d8 pt tm' w W → Below W.heap.size W W' → KF s T0 b b p5 g pin gV cV (KK + 2) ms gE d9 ls gM d8 pt tm' w W'):=fun W W' h hb => h.step hb (h.up (Nat.le_refl _))
       have HND : Hid (∀ W,KF s T0 b b p5 g pin gV cV (KK + 2) ms gE d9 ls gM d8 pt tm' w W → W.cell? ⟨p5,13,none⟩ = some (.int .i64 nodes)):=fun W h => by
        have h1:=h.kc.bt;rw [HT0.out] at h1;exact th_node h1
       clear hpx hpn htx htn hex hen;obtain ⟨sc,hsc⟩ : ∃ sc : Sm,sc = ⟨s.c,some ⟨gV,0,none⟩,cV,some ⟨gE,0,none⟩,d9,ms⟩:=⟨_,rfl⟩;rw [← hsc] at HPS;have HSCE:=hide hsc;have HBI : Hid (∀ W,KF s T0 b b p5 g pin gV cV (KK + 2) ms gE d9 ls gM d8 pt tm' w W → Blk W pin 27 sc.cs):=fun W h => by rw [hsc];exact h.kc.bi
       have HBC : Hid (∀ W,KF s T0 b b p5 g pin gV cV (KK + 2) ms gE d9 ls gM d8 pt tm' w W → ∀ j v,(cfC s.c (some ⟨gV,0,none⟩) cV)[j]? = some v → W.cell? ((⟨pin,0,none⟩ : Addr).add j) = some v):=fun W h => sm_pre h.kc.bi
       clear hsc;go_upto_region 25 with fail
       refine wp_region_lit ?_;refine wpList_value rfl (.pointer (some ⟨pin,0,none⟩)) (by go_simp) ?_;try simp only [Act.put,aSt,aSz,aSs]
       refine wpList_value rfl (.agg (cfC s.c (some ⟨gV,0,none⟩) cV)) (ex_load 24 (.tmp 113) rfl _ rfl _ _ Tryz.underlying24 rfl (ld44 _ rfl) (HBC.out X3 HF3.out)) ?_;try simp only [Act.put,aSt,aSz,aSs]
       refine wpList_step (fun K hK => ?_);rw [if_pos (by rfl)];go_simp;go_at_call 10;refine (HCC.out X3 HF3.out).mono ?_;rintro e X4 ⟨⟨x,rfl⟩,hb4⟩;have HF4:=hide (HST.out X3 X4 HF3.out hb4);refine hK _ _ ?_;clear hK K hb4 HF3;try simp only [Act.put,aSt,aSz,aSs]
       go_upto_region 26 with fail
       refine wp_region_lit ?_;refine wpList_value rfl (.agg sc.cs) (ex_load 27 (.tmp 8) rfl _ rfl _ _ Tryz.underlying27 rfl (ld47 _ (sm_size _)) (box_all (HBI.out X4 HF4.out))) ?_;try simp only [Act.put,aSt,aSz,aSs]
       refine wpList_step (fun K hK => ?_);rw [if_pos (by rfl)];go_simp;go_at_call 11;refine (HPS.out X4 HF4.out).mono ?_;rintro e X5 ⟨rfl,hb5⟩;have HF5:=hide (HST.out X4 X5 HF4.out hb5);refine hK _ _ ?_;clear hK K hb5 HF4;try simp only [Act.put,aSt,aSz,aSs]
       have cM2 : q ≤ ls.length + 64:=by have:=HLS.out;omega
       go_upto_region 28 with (go_at_call 12;refine (HPT.out X5 HF5.out).mono ?_;rintro e X6 ⟨rfl,hb6⟩;have HF6:=hide (HST.out X5 X6 HF5.out hb6);clear hb6)
       clear HF5;have kn:=HND.out X6 HF6.out;refine wp_region_lit ?_;refine wpList_value rfl (.agg tm'.cs) (ex_load 33 (.tmp 15) rfl _ rfl tm'.cs _ Tryz.underlying33 rfl (ld29 _ (em_size _)) (ebox_all HF6.out.th)) ?_;try simp only [Act.put,aSt,aSz,aSs]
       refine wpList_value rfl (.pointer (some ⟨p5,13,none⟩)) (by go_simp) ?_;try simp only [Act.put,aSt,aSz,aSs]
       refine wpList_value rfl (.int .i64 nodes) (by go_simp) ?_;try simp only [Act.put,aSt,aSz,aSs]
       refine wpList_step (fun K hK => ?_);rw [if_pos (by rfl)];go_simp;go_at_call 13;refine (HPE.out X6 HF6.out).mono ?_;rintro e X7 ⟨rfl,hb7⟩;have HF7:=hide (HST.out X6 X7 HF6.out hb7);refine hK _ _ ?_;clear hK K hb7 HF6 kn;try simp only [Act.put,aSt,aSz,aSs]
       go_upto_region 29 with fail
       refine wp_region_lit ?_;refine wpList_value rfl (.agg s.cs) (ex_load 27 (.tmp 3) rfl _ rfl _ _ Tryz.underlying27 rfl (ld47 _ (sm_size _)) (box_all HF7.out.kc.bs)) ?_;try simp only [Act.put,aSt,aSz,aSs]
       refine wpList_step (fun K hK => ?_);rw [if_pos (by rfl)];go_simp;go_at_call 14;refine (HRS.out X7 HF7.out).mono ?_;rintro e X8 ⟨rfl,hb8⟩;have HF8:=hide (HST.out X7 X8 HF7.out hb8);refine hK _ _ ?_;clear hK K hb8 HF7;try simp only [Act.put,aSt,aSz,aSs]
       go_upto_region 31 with (go_at_call 15;refine (HRT.out X8 HF8.out).mono ?_;rintro e X9 ⟨rfl,hb9⟩;have HF9:=hide (HST.out X8 X9 HF8.out hb9);clear hb9)
       clear HF8;have kn:=HND.out X9 HF9.out;refine wp_region_lit ?_;refine wpList_value rfl (.pointer (some ⟨p5,0,none⟩)) (by go_simp) ?_;try simp only [Act.put,aSt,aSz,aSs]
       refine wpList_value rfl (.agg tm.cs) (ex_load 33 (.tmp 147) rfl _ rfl tm.cs _ Tryz.underlying33 rfl (ld29 _ (em_size _)) (HTHc.out X9 HF9.out.kc.bt)) ?_;try simp only [Act.put,aSt,aSz,aSs]
       refine wpList_value rfl (.pointer (some ⟨p5,13,none⟩)) (by go_simp) ?_;try simp only [Act.put,aSt,aSz,aSs]
       refine wpList_value rfl (.int .i64 nodes) (by go_simp) ?_;try simp only [Act.put,aSt,aSz,aSs]
       refine wpList_step (fun K hK => ?_);rw [if_pos (by rfl)];go_simp;go_at_call 16;refine (HRE.out X9 HF9.out).mono ?_;rintro e Y0 ⟨rfl,hb10⟩;have HFY:=hide (HST.out X9 Y0 HF9.out hb10);refine hK _ _ ?_;clear hK K hb10 HF9 kn;try simp only [Act.put,aSt,aSz,aSs]
       have q1 : (px != px) = false:=by
        have h1 : (px.toList == px.toList) = true:=by simp
        rw [bne,beq_toListBytes,h1]
        rfl
       have q2 : (tx != tx) = false:=by
        have h1 : (tx.toList == tx.toList) = true:=by simp
        rw [bne,beq_toListBytes,h1]
        rfl
       have q3 : (ex != ex) = false:=by
        have h1 : (ex.toList == ex.toList) = true:=by simp
        rw [bne,beq_toListBytes,h1]
        rfl
       have q4 : (pn != pn) = false:=by simp
       have q5 : (tn_ != tn_) = false:=by simp
       have q6 : (en != en) = false:=by simp
       have k8 : Y0.cell? ⟨b,8,none⟩ = some (.slice s.Ae j s.ke):=by rw [HN.out];exact HFY.out.kc.bs.cell 8
       go_upto_region 35 with (go_at_call 17;refine (numz_any _ _).mono ?_;rintro e w5 ⟨rfl,rfl⟩)
       clear q1 q2 q3 q4 q5 q6;go_loopw [28] (fun i wr => ∃ x : Nat,x ≤ 64 ∧ i = .int .i64 x ∧ Y0 = wr) (fun i _ => 64 - (intOf i).toNat)
       case atStart => exact ⟨0,Nat.zero_le _,rfl,rfl⟩
       case round =>
        obtain ⟨x,hx,rfl,rfl⟩:=hrel;have x0 : (0 : Int) ≤ (x : Int):=by omega
        by_cases hlt : x < 64
        ·have xs : (x : Int) < 64:=by omega
         have qe:=HFY.out.evm hlt;have qm:=HFY.out.mkm hlt;rw [HMS.out] at qe;rw [HLS.out] at qm;have w1 : IntKind.i64.wrap (-700 - (x : Int)) = -700 - (x : Int):=i64_wrap _ (by omega) (by omega);have w2 : IntKind.i64.wrap ((j : Int) + (x : Int)) = (j : Int) + (x : Int):=i64_wrap _ (by omega) (by omega);have w3 : IntKind.i64.wrap ((q : Int) + (x : Int)) = (q : Int) + (x : Int):=i64_wrap _ (by omega) (by omega);have t1 : ((j : Int) + (x : Int)).toNat = j + x:=by omega
         have t2 : ((q : Int) + (x : Int)).toNat = q + x:=by omega
         have b1 : (0 : Int) ≤ (j : Int) + (x : Int):=by omega
         have b2 : (0 : Int) ≤ (q : Int) + (x : Int):=by omega
         have b3 : (j : Int) + (x : Int) < (ms.length : Int) + 64:=by have:=HMS.out;omega
         have b4 : (q : Int) + (x : Int) < (ls.length : Int) + 64:=by have:=HLS.out;omega
         clear hlt;go_wp2_with fail;go_roundw
         case rel => first | exact ⟨x + 1,by omega,by go_num,rfl⟩ | exact ⟨x + 1,by omega,by go_num,trivial⟩
         case measure => simp [intOf];omega
        ·have xs : ¬ (x : Int) < 64:=by omega
         have HKP : Hid (∀ W,KF s T0 b b p5 g pin gV cV (KK + 2) ms gE d9 ls gM d8 pt tm' w W → Calls Tryz.prog 18 #[.pointer (some ⟨g,0,none⟩)] W fun e w' => e = .returned (.bool true) ∧ Below W.heap.size W w'):=fun W h => kept_any b g (KK + 2) W h.kc.lk (by omega)
         have HSS : Hid (∀ W,KF s T0 b b p5 g pin gV cV (KK + 2) ms gE d9 ls gM d8 pt tm' w W → Calls Tryz.prog 19 #[.agg sc.cs,.agg s.cs] W fun e w' => e = .returned (.bool true) ∧ Below W.heap.size W w'):=fun W h => by
          rw [HSCE.out];exact same_scripts W (HSC.out W h) ((HINb.out.below h.kc.lo).up (h.up (Nat.le_refl _))) HSE.out
         have HSM : Hid (∀ W,KF s T0 b b p5 g pin gV cV (KK + 2) ms gE d9 ls gM d8 pt tm' w W → Calls Tryz.prog 20 #[.slice (some ⟨gM,0,none⟩) q d8,.slice Al q lc] W fun e w' => e = .returned (.bool true) ∧ Below W.heap.size W w'):=fun W h => by
          have h0:=h.marks;rw [HLS.out] at h0;exact sameMarks_true (some ⟨gM,0,none⟩) Al q d8 lc ls l W h0 ((HLb.out.below h.kc.lo).more (h.up (Nat.le_refl _))) HSL.out.symm (by omega)
         have HSV : Hid (∀ W,KF s T0 b b p5 g pin gV cV (KK + 2) ms gE d9 ls gM d8 pt tm' w W → Calls Tryz.prog 21 #[.agg tm'.cs,.agg tm.cs] W fun e w' => e = .returned (.bool true) ∧ Below W.heap.size W w'):=fun W h => same_true W h.tu.inn ((HTMb.out.below h.kc.lo).up (h.up (Nat.le_refl _))) HTE.out
         have HZ0:=HFY;clear k8 hlt
         go_wp2_with first
          | (refine wpList_gvalue (by rfl) (.agg sc.cs) (ex_load 27 (.tmp 8) rfl _ rfl _ _ Tryz.underlying27 rfl (ld47 _ (sm_size _)) (box_all (HBI.out _ HZ1.out))) ?_)
          | (refine wpList_gvalue (by rfl) (.agg s.cs) (ex_load 27 (.tmp 3) rfl _ rfl _ _ Tryz.underlying27 rfl (ld47 _ (sm_size _)) (box_all HZ1.out.kc.bs)) ?_)
          | (refine wpList_gvalue (by rfl) (.agg tm'.cs) (ex_load 33 (.tmp 15) rfl _ rfl tm'.cs _ Tryz.underlying33 rfl (ld29 _ (em_size _)) (ebox_all HZ3.out.th)) ?_)
          | (refine wpList_gvalue (by rfl) (.agg tm.cs) (ex_load 33 (.tmp 231) rfl _ rfl tm.cs _ Tryz.underlying33 rfl (ld29 _ (em_size _)) (HTHc.out _ HZ3.out.kc.bt)) ?_)
          | (go_at_call 18;refine (HKP.out _ HFY.out).mono ?_;rintro e Z1 ⟨rfl,hz⟩;have HZ1:=hide (HST.out _ Z1 HFY.out hz);clear hz)
          | (go_at_call 19;refine (HSS.out _ HZ1.out).mono ?_;rintro e Z2 ⟨rfl,hz⟩;have HZ2:=hide (HST.out _ Z2 HZ1.out hz);clear hz)
          | (go_at_call 20;refine (HSM.out _ HZ2.out).mono ?_;rintro e Z3 ⟨rfl,hz⟩;have HZ3:=hide (HST.out _ Z3 HZ2.out hz);clear hz)
          | (go_at_call 21;refine (HSV.out _ HZ3.out).mono ?_;rintro e Z4 ⟨rfl,hz⟩;have HZ4:=hide (HST.out _ Z4 HZ3.out hz);clear hz)
         go_ret;exact ⟨rfl,by have:=HZ4.out.kc.lo;rw [HBW.out] at this;exact this⟩
end Go.Proofs.YtcibcmfaebbhnaaGreatDoor
