/-
  The law's scriptOf: a script of its own. (Printed by wip/tools/mksco.py.)
-/
import Derived.Test.YtcibcmfaebbhnaaGreatDoorLPrp
import Derived.Test.YtcibcmfaebbhnaaGreatDoorLWsg
import Derived.Test.YtcibcmfaebbhnaaGreatDoorLWords
set_option linter.unusedSimpArgs false
set_option linter.unusedVariables false
set_option maxRecDepth 100000
set_option maxHeartbeats 4000000

namespace Go.Proofs.YtcibcmfaebbhnaaGreatDoor
open Go.RowKit Go.WideShapes Go.ChangeShapes Q
structure SmV (w : World) (b : Nat) (s : Sm) : Prop where
 vot : w.ownsRow b 3 1 (.slice s.A s.c.votes.length s.k) s.c.votes.length (ints s.c.votes)
 row : w.ownsRow b 33 13 (.slice s.Ae s.ms.length s.ke) s.ms.length (emCells s.ms)
 ent : ∀ m ∈ s.ms,EmU w b m
 hv : s.c.votes.length ≤ 10000000
 hn : s.ms.length ≤ 10000000
theorem SmV.inn {w : World} {b : Nat} {s : Sm} (h : SmV w b s) : SmIn w w.heap.size s:=⟨Reads.of_own h.vot,Reads.of_own h.row,fun m hm => (h.ent m hm).inn,by have:=h.hv;omega,by have:=h.hn;omega⟩
theorem SmV.step {w w' : World} {b : Nat} {s : Sm} (h : SmV w b s) (hb : Below w.heap.size w w') : SmV w' b s:=⟨own_step h.vot hb,own_step h.row hb,fun m hm => (h.ent m hm).step hb,h.hv,h.hn⟩
theorem SmV.far {w w' : World} {b g : Nat} {t : TypeId} {cs : Array Value} {s : Sm} (h : SmV w b s) (hg : Blk w g t cs) (h2 : t ≠ 3) (h3 : t ≠ 5) (h4 : t ≠ 33) (ho : Only (fun q => q = g) w w') : SmV w' b s :=
 ⟨own_apart h.vot ho (fun k hk hq => by subst hq;exact ⟨t,cs,hg,h2⟩),own_apart h.row ho (fun k hk hq => by subst hq;exact ⟨t,cs,hg,h4⟩),fun m hm => (h.ent m hm).far hg h2 h3 ho,h.hv,h.hn⟩
theorem sm_pre {W : World} {g : Nat} {s : Sm} (h : Blk W g 27 s.cs) : ∀ j v,(cfC s.c s.A s.k)[j]? = some v → W.cell? ((⟨g,0,none⟩ : Addr).add j) = some v:=by
 intro j v hv;have hj : j < 8:=by have:=(Array.getElem?_eq_some_iff.1 hv).1;rw [cf_size] at this;exact this
 refine box_all h j v ?_
 match j,hj with
 | 0,_ => exact hv
 | 1,_ => exact hv
 | 2,_ => exact hv
 | 3,_ => exact hv
 | 4,_ => exact hv
 | 5,_ => exact hv
 | 6,_ => exact hv
 | 7,_ => exact hv
def ScoP (s : Sm) (w : World) (e : Ending) (w' : World) : Prop:=∃ s' : Sm,e = .returned (.agg s'.cs) ∧ s'.sc = s.sc ∧ SmV w' w.heap.size s' ∧ (∀ m ∈ s'.ms,m.ns ≤ 10000000 ∧ m.nb ≤ 10000000) ∧ Below w.heap.size w w'
def ScJ (s : Sm) (W4 : World) (g : Nat) (A : Option Addr) (k : Nat) (i : Value) (wr : World) : Prop:=∃ (j : Nat) (ms' : List Em) (Ae : Option Addr) (ke : Nat),j ≤ s.ms.length ∧ i = .int .i64 j ∧ ms'.length = j ∧ ms'.map Em.ev = (s.ms.take j).map Em.ev ∧ (∀ m ∈ ms',m.ns ≤ 10000000 ∧ m.nb ≤ 10000000) ∧
 Blk wr g 27 (Sm.cs ⟨s.c,A,k,Ae,ke,ms'⟩) ∧ wr.ownsRow W4.heap.size 33 13 (.slice Ae ms'.length ke) ms'.length (emCells ms') ∧ (∀ m ∈ ms',EmU wr W4.heap.size m) ∧ Below g W4 wr ∧ wr.ownsRow (g + 1) 3 1 (.slice A s.c.votes.length k) s.c.votes.length (ints s.c.votes)
theorem results_47c {w : World} {g : Nat} {cs : Array Value} {fn : Func} {p : Tmp} (h : fn.results = #[.cell p 27]) (tmps : Array Value) (hp : tmps.getD p undef = .pointer (some ⟨g,0,none⟩)) (hb : Blk w g 27 cs) (hc : cs.size = 9) : (results fn tmps).run Tryz.prog w = .ok (.agg cs) w:=by
 have h0 : (results fn tmps).run Tryz.prog w = ((asAddr (tmps.getD p undef)).run Tryz.prog w).andThen fun a w₁ => (loadVar 27 a).run Tryz.prog w₁:=by
  simp only [results,h];simp [Sem.run_bind,Result.andThen]
 rw [h0,hp];have h1:=run_load47 hb hc;simp [Result.andThen,asAddr,h1]
theorem scriptOf_any (s : Sm) (w : World) (h : SmIn w w.heap.size s) (hv : s.c.votes.length ≤ 10000000) (hn : s.ms.length ≤ 10000000) (hm : ∀ m ∈ s.ms,m.ns ≤ 10000000 ∧ m.nb ≤ 10000000) :
  Calls Tryz.prog 22 #[.agg s.cs] w fun e w' => ScoP s w e w':=by
 have HIN:=hide h;have HM:=hide hm;obtain ⟨i3,hi3,hz3,hs3,hb3⟩:=info_parts info3;obtain ⟨i29,hi29,hz29,hs29,hb29⟩:=info_parts info29;have I3:=hide hi3;have Z3:=hide hz3;have I29:=hide hi29;have Z29:=hide hz29;clear hi3 hz3 hi29 hz29 h hm;obtain ⟨C0,hC0⟩ : ∃ C0,C0 = s.cs:=⟨_,rfl⟩;rw [← hC0];have HC0:=hide hC0;clear hC0;obtain ⟨vn,hvn⟩ : ∃ vn,vn = s.c.votes.length:=⟨_,rfl⟩;obtain ⟨n,hnn⟩ : ∃ n,n = s.ms.length:=⟨_,rfl⟩;rw [← hvn] at hv;rw [← hnn] at hn;have HVN:=hide hvn;have HN:=hide hnn;clear hvn hnn;go_enter Tryz.func22,Tryz.ntmps22;go_upto_region 1 with fail
 obtain ⟨Z,hZ0,hZs⟩ : ∃ Z : Array Value,Z = Sm.zero.cs ∧ Z.size = 9:=⟨_,rfl,rfl⟩;generalize hW0 : World.alloc (World.alloc w _) _ = W0
 have HP0 : Hid (Blk W0 w.heap.size 27 s.cs):=by
  show Blk _ _ _ _;rw [← hW0,HC0.out];exact (Blk.new _ _ _).alloc _
 have HR0 : Hid (Blk W0 (w.heap.size + 1) 27 Z):=by
  show Blk _ _ _ _;rw [← hW0,hZ0];exact blk_new _ _ _ _ (by simp)
 have hb0 : Below w.heap.size w W0:=by
  rw [← hW0];exact ((Below.refl _ _).alloc (Nat.le_refl _) _).alloc (by simp) _
 have HW0:=hide hb0;have hs0 : w.heap.size + 1 < W0.heap.size:=HR0.out.lt;clear hW0 hZ0 hb0;refine wp_region_lit ?_;refine wpList_value rfl (.pointer (some ⟨w.heap.size,0,none⟩)) (by go_simp) ?_;try simp only [Act.put,aSt,aSz,aSs]
 refine wpList_value rfl (.agg (cfC s.c s.A s.k)) (ex_load 24 (.tmp 5) rfl _ rfl _ _ Tryz.underlying24 rfl (ld44 _ rfl) (sm_pre HP0.out)) ?_;try simp only [Act.put,aSt,aSz,aSs]
 refine wpList_value rfl (.agg (Sm.cs ⟨s.c,s.A,s.k,none,0,[]⟩)) (ex_build47 (.tmp 6) rfl s.c s.A s.k rfl) ?_;try simp only [Act.put,aSt,aSz,aSs]
 refine wpList_step (fun K hK => ?_);rw [if_pos (by rfl)];go_simp;refine hK _ _ ?_;clear hK K;refine wpList_store_fresh rfl 27 (.tmp 3) (.tmp 7) rfl _ (Sm.cs ⟨s.c,s.A,s.k,none,0,[]⟩) rfl rfl (ld47 _ rfl) rfl (sm_all _) ?_;try simp only [Act.put,aSt,aSz,aSs]
 obtain ⟨W1,hW1⟩ : ∃ W1,W1 = World.alloc W0 (.cells (Sm.cs ⟨s.c,s.A,s.k,none,0,[]⟩) 27):=⟨_,rfl⟩;obtain ⟨g,hg⟩ : ∃ g,g = W0.heap.size:=⟨_,rfl⟩;have hal : Below W0.heap.size W0 W1:=by rw [hW1];exact (Below.refl _ _).alloc (Nat.le_refl _) _
 have HX1 : Hid (Blk W1 g 27 (Sm.cs ⟨s.c,s.A,s.k,none,0,[]⟩)):=by show Blk _ _ _ _;rw [hW1,hg];exact Blk.new _ _ _
 have HP1:=hide (HP0.out.below hal HP0.out.lt);have HR1:=hide (HR0.out.below hal HR0.out.lt);have HW1:=hide (HW0.out.trans (hal.mono HW0.out.size));have hgl : w.heap.size + 1 < g:=by rw [hg];exact hs0
 have hg1 : W1.heap.size = g + 1:=by rw [hW1,hg];simp
 have HG1:=hide hg1;rw [← hW1];try rw [← hg]
 clear hW1 hg hal HP0 HR0 HW0 hs0 hg1
 have kC : (W1.alloc (.cells #[] 3)).cell? ⟨w.heap.size,7,none⟩ = some (.slice s.A vn s.k):=by
  rw [HVN.out];exact (HP1.out.alloc (.cells #[] 3)).cell 7
 have HNO : Hid ((W1.alloc (.cells #[] 3)).ownsRow (g + 1) 3 1 (.slice (some ⟨W1.heap.size,0,none⟩) 0 0) 0 []):=own_none (Blk.new W1 3 #[]) (by have:=HG1.out;omega)
 have HD : Hid (Reads (W1.alloc (.cells #[] 3)) w.heap.size 1 s.A vn (ints s.c.votes)):=by
  show Reads _ _ _ _ _ _;rw [HVN.out];exact (Reads.below HIN.out.vot HW1.out).alloc (by have:=HW1.out.size;omega) _
 have HWa : Hid (Below w.heap.size w (W1.alloc (.cells #[] 3))):=HW1.out.alloc HW1.out.size _;have hbase : g + 1 ≤ (W1.alloc (.cells #[] 3)).heap.size:=by have:=HG1.out;simp;omega
 go_upto_region 3 with (at_builtin;refine wpList_append_any _ rfl (.tmp 8) (.tmp 11) 22 rfl (g + 1) 3 i3 _ 1 8 Tryz.underlying22 I3.out Z3.out hs3 hb3 rfl (by omega) (.slice (some ⟨W1.heap.size,0,none⟩) 0 0) 0 [] rfl HNO.out w.heap.size s.A vn s.k (ints s.c.votes) rfl HD.out (one_ints _) (by unfold maxLen;omega) (by omega) hbase ?_;intro v wa hown hgr _;rw [Nat.zero_add,List.nil_append] at hown;obtain ⟨A1,c1,rfl⟩:=own_slice' hown;have HXa:=hide ((HX1.out.alloc _).grown hgr (by intro e;have h1 : g = W1.heap.size:=Option.some.inj e;have h2:=HX1.out.lt;omega));have HPa:=hide ((HP1.out.alloc _).grown hgr (by intro e;have h1 : w.heap.size = W1.heap.size:=Option.some.inj e;have h2:=HP1.out.lt;omega));have HRa:=hide ((HR1.out.alloc _).grown hgr (by intro e;have h1 : w.heap.size + 1 = W1.heap.size:=Option.some.inj e;have h2:=HR1.out.lt;omega));have HOa:=hide hown;have HWb:=hide (HWa.out.grown hgr HWa.out.size (fun q hq => by have h1 : W1.heap.size = q:=Option.some.inj hq;have h2:=HW1.out.size;omega));have kD : wa.cell? ⟨g,7,none⟩ = some (.slice s.A s.c.votes.length s.k):=HXa.out.cell 7;have fD:=Blk.frozen HXa.out 7;clear hown hgr)
 clear kC kD fD;obtain ⟨W4,hW4⟩ : ∃ W4,W4 = World.setCell wa ⟨g,7,none⟩ (.slice A1 vn c1):=⟨_,rfl⟩;have hW:=only_setCell0 wa g 7 (.slice A1 vn c1);rw [← hW4] at hW ⊢
 have HX4 : Hid (Blk W4 g 27 (Sm.cs ⟨s.c,A1,c1,none,0,[]⟩)):=by
  show Blk _ _ _ _;rw [hW4];have h1:=HXa.out.set_ 7 (.slice A1 vn c1);rw [HVN.out] at h1 ⊢;exact h1
 have HP4:=hide (HPa.out.only hW (by omega));have HR4:=hide (HRa.out.only hW (by omega))
 have HV4 : Hid (W4.ownsRow (g + 1) 3 1 (.slice A1 s.c.votes.length c1) s.c.votes.length (ints s.c.votes)):=by
  have h1:=own_apart HOa.out hW (fun k hk hq => by subst hq;exact ⟨_,_,HXa.out,by decide⟩);show World.ownsRow _ _ _ _ _ _ _;rw [← HVN.out];exact h1
 have HB4:=hide (HWb.out.trans (hW.below HWb.out.size (fun k hk e => by have e2 : k = g:=e;omega)));clear hW hW4 HXa HPa HRa HOa HWb HX1 HP1 HR1 HW1 HNO HD HWa hbase HG1;have hs4 : w.heap.size ≤ W4.heap.size:=HB4.out.size;have hg4 : g < W4.heap.size:=HX4.out.lt;have HL4 : Hid (ScJ s W4 g A1 c1 (.int .i64 0) W4):=⟨0,[],none,0,Nat.zero_le _,rfl,rfl,by simp,(fun m hm => by cases hm),HX4.out,World.ownsRow_nil _ _ _ _,(fun m hm => by cases hm),Below.refl _ _,HV4.out⟩;go_upto_region 4 with fail
 go_loopw [4] (fun i wr => ScJ s W4 g A1 c1 i wr) (fun i _ => n - (intOf i).toNat)
 case atStart => exact HL4.out
 case round =>
  clear HL4;unfold ScJ at hrel;obtain ⟨j,ms',Ae,ke,hj,rfl,hml,hme,hmb,hbx,hrow,hent,hbr,hvo⟩:=hrel;rw [← HN.out] at hj;have HBX:=hide hbx;have HROW:=hide hrow;have HENT:=hide hent;have HBR:=hide hbr;have HVO:=hide hvo;have HME:=hide hme;have HMB:=hide hmb;have HML:=hide hml;have hmlb : ms'.length ≤ 10000000:=by omega
  clear hbx hrow hent hbr hvo hme hmb hml;have hswr : W4.heap.size ≤ wr.heap.size:=HBR.out.size;have HPR:=hide (HP4.out.below HBR.out (by omega));have HRR:=hide (HR4.out.below HBR.out (by omega));have HBW:=hide (HB4.out.trans (HBR.out.mono (by omega)));have j0 : (0 : Int) ≤ (j : Int):=by omega
  have k8 : wr.cell? ⟨w.heap.size,8,none⟩ = some (.slice s.Ae n s.ke):=by rw [HN.out];exact HPR.out.cell 8
  by_cases hlt : j < n
  ·have js : (j : Int) < (n : Int):=by omega
   obtain ⟨b,off,m,hAe,hbB,hm,qc⟩:=ems_at (w:=wr) (B:=w.heap.size) (Reads.below HIN.out.row HBW.out) rfl (show j < s.ms.length by rw [← HN.out];exact hlt);have HAE:=hide hAe;have HLB:=hide hbB;have hmm:=HM.out m (List.mem_of_getElem? hm)
   have HTK : Hid ((s.ms.take (j + 1)).map Em.ev = ms'.map Em.ev ++ [m.ev]):=by
    show _ = _;rw [List.take_add_one,hm,List.map_append,HME.out]
    rfl
   have HIM:=hide (((HIN.out.ent m (List.mem_of_getElem? hm)).below HBW.out).more HBW.out.size);have HQ:=hide qc;rw [hAe] at k8;clear hm qc hAe;go_upto_region 6 with fail
   obtain ⟨wd,hwd⟩ : ∃ wd,wd = wr.drew:=⟨_,rfl⟩;have HS0 : Hid ((fun V : World => Blk V g 27 (Sm.cs ⟨s.c,A1,c1,Ae,ke,ms'⟩) ∧ V.cell? ⟨w.heap.size,8,none⟩ = some (.slice (some ⟨b,off,none⟩) n s.ke) ∧ ∀ j' v,m.cs[j']? = some v → V.cell? ((⟨b,off + j * 13,none⟩ : Addr).add j') = some v) wd):=by show _ ∧ _;rw [hwd];exact ⟨HBX.out.drew,k8,HQ.out⟩
   have hbd : Below wr.heap.size wr wd:=by rw [hwd];exact (Below.refl _ _).drew
   have HIM2 : Hid (EmIn wd wd.heap.size m):=by show EmIn _ _ _;rw [hwd];exact HIM.out.drew
   refine wp_region_L [11] (fun V : World => Blk V g 27 (Sm.cs ⟨s.c,A1,c1,Ae,ke,ms'⟩) ∧ V.cell? ⟨w.heap.size,8,none⟩ = some (.slice (some ⟨b,off,none⟩) n s.ke) ∧ ∀ j' v,m.cs[j']? = some v → V.cell? ((⟨b,off + j * 13,none⟩ : Addr).add j') = some v) (by kernel_rfl) ?_;rw [← hwd];clear hwd;refine tk 0 22 (v:=?_) rfl HS0.out ?_ ?_
   rotate_left;· intro V hV;go_simp;try with_reducible rfl
   try simp only [Act.put,aSt,aSz,aSs]
   refine tk 1 23 (v:=?_) rfl HS0.out ?_ ?_
   rotate_left
   ·intro V hV
    have a1 : V.cell? ⟨g,8,none⟩ = some (.slice Ae ms'.length ke):=hV.1.cell 8;go_simp;try with_reducible rfl
   try simp only [Act.put,aSt,aSz,aSs]
   refine tk 2 24 (v:=?_) rfl HS0.out ?_ ?_
   rotate_left;· intro V hV;go_simp;try with_reducible rfl
   try simp only [Act.put,aSt,aSz,aSs]
   refine tk 3 25 (v:=?_) rfl HS0.out ?_ ?_
   rotate_left
   ·intro V hV
    have a2:=hV.2.1;go_simp;try with_reducible rfl
   try simp only [Act.put,aSt,aSz,aSs]
   refine tk 4 26 (v:=?_) rfl HS0.out ?_ ?_
   rotate_left;· intro V hV;go_simp;try with_reducible rfl
   try simp only [Act.put,aSt,aSz,aSs]
   refine tk 5 27 (v:=?_) rfl HS0.out ?_ ?_
   rotate_left;· intro V hV;go_simp;try with_reducible rfl
   try simp only [Act.put,aSt,aSz,aSs]
   refine tk 6 28 (v:=.agg m.cs) rfl HS0.out ?_ ?_
   ·intro V hV;exact ex_load 33 (.tmp 27) rfl _ rfl m.cs _ Tryz.underlying33 rfl (ld29 _ (em_size _)) hV.2.2
   try simp only [Act.put,aSt,aSz,aSs]
   have hsd : W4.heap.size ≤ wd.heap.size:=Nat.le_trans hswr hbd.size;refine wpL_one 7 (by kernel_rfl) rfl (fun K hK => ?_);rw [if_pos (by rfl)];go_simp;go_at_call 48;refine (eventOf_own m wd HIM2.out hmm.1 hmm.2).mono ?_;rintro e w7 ⟨m2,rfl,hev,hns,hnb,hu,hb7⟩;have HEV:=hide hev;have HMB2 : Hid (m2.ns ≤ 10000000 ∧ m2.nb ≤ 10000000):=⟨by rw [hns];exact hmm.1,by rw [hnb];exact hmm.2⟩;have hb7w : Below wr.heap.size wr w7:=hbd.trans (hb7.mono hbd.size);have HBX7:=hide (HBX.out.below hb7w HBX.out.lt);have HROW7:=hide (own_step HROW.out hb7w);have HVO7:=hide (own_step HVO.out hb7w)
   have HE7 : Hid (∀ x ∈ ms' ++ [m2],EmU w7 W4.heap.size x):=fun x hx => by
    rcases List.mem_append.1 hx with hx | hx
    ·exact (HENT.out x hx).step hb7w
    ·obtain rfl : x = m2:=by simpa using hx
     exact hu.base hsd
   have HBR7:=hide (HBR.out.trans (hb7w.mono (by omega)));have HS7 : Hid ((fun V : World => Blk V g 27 (Sm.cs ⟨s.c,A1,c1,Ae,ke,ms'⟩) ∧ V.cell? ⟨w.heap.size,8,none⟩ = some (.slice (some ⟨b,off,none⟩) n s.ke) ∧ ∀ j' v,m.cs[j']? = some v → V.cell? ((⟨b,off + j * 13,none⟩ : Addr).add j') = some v) w7):=⟨HBX7.out,(hb7.cell (p:=⟨w.heap.size,8,none⟩) (by have:=HPR.out.lt;have:=hbd.size;show w.heap.size < _;omega)).trans HS0.out.2.1,fun j' v hv => (hb7.cell (by rw [block_of_add];have:=HLB.out;have:=hbd.size;show b < _;omega)).trans (HS0.out.2.2 j' v hv)⟩;have hs7 : W4.heap.size ≤ w7.heap.size:=HBR7.out.size;refine hK _ _ (fun _ => HS7.out) ?_;clear hK K hev hns hnb hu hb7 hb7w;try simp only [Act.put,aSt,aSz,aSs]
   refine wpL_one 8 (by kernel_rfl) rfl (fun K hK => ?_);rw [if_pos (by rfl)];unfold Oper.wp;rw [run_one29 (.tmp 29) rfl m2 rfl];have hal:=(Below.refl w7.heap.size w7).alloc (Nat.le_refl _) (.cells m2.cs 33);have HS8' : Hid ((fun V : World => Blk V g 27 (Sm.cs ⟨s.c,A1,c1,Ae,ke,ms'⟩) ∧ V.cell? ⟨w.heap.size,8,none⟩ = some (.slice (some ⟨b,off,none⟩) n s.ke) ∧ ∀ j' v,m.cs[j']? = some v → V.cell? ((⟨b,off + j * 13,none⟩ : Addr).add j') = some v) (w7.alloc (.cells m2.cs 33))):=⟨HBX7.out.alloc _,(hal.cell (p:=⟨w.heap.size,8,none⟩) (by show w.heap.size < _;omega)).trans HS7.out.2.1,fun j' v hv => (hal.cell (by rw [block_of_add];have:=HLB.out;have:=hs7;show b < _;omega)).trans (HS7.out.2.2 j' v hv)⟩;refine hK _ _ (fun _ => HS8'.out) ?_;clear hK K hal;try simp only [Act.put,aSt,aSz,aSs]
   refine wpL_one 9 (by kernel_rfl) rfl (fun K hK => ?_);refine step_push (w7.alloc (.cells m2.cs 33)) rfl (.tmp 23) (.tmp 30) 25 rfl W4.heap.size 33 i29 _ 13 160 Tryz.underlying25 I29.out Z29.out hs29 hb29 rfl (by omega) (.slice Ae ms'.length ke) ms'.length (emCells ms') rfl (own_step HROW7.out ((Below.refl w7.heap.size w7).alloc (Nat.le_refl _) _)) w7.heap.size 1 1 m2.cs rfl (Blk.new _ _ _) rfl (ecs_one m2) (by omega) (by unfold maxLen;omega) (by omega) (by simp;omega) ?_;intro g8 c8 w8 hown8 hgr8 _ _;have hal:=(Below.refl w7.heap.size w7).alloc (Nat.le_refl _) (.cells m2.cs 33);have hrowA:=own_step HROW7.out hal;have HB8 : Hid (Blk w8 g 27 (Sm.cs ⟨s.c,A1,c1,Ae,ke,ms'⟩)):=(HBX7.out.alloc _).grown hgr8 (own_ne hrowA (HBX7.out.alloc _) (by decide));have HO8:=hide hown8;have HE8 : Hid (∀ x ∈ ms' ++ [m2],EmU w8 W4.heap.size x):=fun x hx => ((HE7.out x hx).step hal).push hrowA (by decide) (by decide) hgr8
   have HVO8:=hide (own_kept (own_step HVO7.out hal) hrowA (by decide) hgr8);have HL8 : Hid (Below g W4 w8):=((HBR7.out.trans (hal.mono (by omega))).grown hgr8 (by simp;omega) (fun q hq => by have:=(hrowA.lt q hq).1;omega));have HS8 : Hid ((fun V : World => Blk V g 27 (Sm.cs ⟨s.c,A1,c1,Ae,ke,ms'⟩) ∧ V.cell? ⟨w.heap.size,8,none⟩ = some (.slice (some ⟨b,off,none⟩) n s.ke) ∧ ∀ j' v,m.cs[j']? = some v → V.cell? ((⟨b,off + j * 13,none⟩ : Addr).add j') = some v) w8):=⟨HB8.out,(HL8.out.cell (p:=⟨w.heap.size,8,none⟩) (by show w.heap.size < g;omega)).trans ((HBR.out.cell (p:=⟨w.heap.size,8,none⟩) (by show w.heap.size < g;omega)).symm.trans k8),fun j' v hv => (HL8.out.cell (by rw [block_of_add];have:=HLB.out;show b < g;omega)).trans ((HBR.out.cell (by rw [block_of_add];have:=HLB.out;show b < g;omega)).symm.trans (HQ.out j' v hv))⟩;refine hK _ _ (fun _ => HS8.out) ?_;clear hK K hown8 hgr8 hal hrowA;try simp only [Act.put,aSt,aSz,aSs]
   refine tk 10 32 (v:=?_) rfl HS8.out ?_ ?_
   rotate_left;· intro V hV;go_simp;try with_reducible rfl
   try simp only [Act.put,aSt,aSz,aSs]
   have c9:=HB8.out.cell 8;have f9:=Blk.frozen HB8.out 8;refine wpL_one 11 (by kernel_rfl) rfl (fun K hK => ?_);rw [if_pos (by rfl)];go_simp;refine hK _ _ (fun h => by cases h) ?_;clear hK K c9 f9;try simp only [Act.put,aSt,aSz,aSs]
   refine wpL_done (by kernel_rfl) ?_ _;obtain ⟨W9,hW9⟩ : ∃ W9,W9 = World.setCell w8 ⟨g,8,none⟩ (.slice (some ⟨g8,0,none⟩) (ms'.length + 1) c8):=⟨_,rfl⟩;rw [← hW9];have hWW : Only (fun q => q = g) w8 W9:=by rw [hW9];exact only_setCell0 w8 g 8 _
   have hn1 : (ms' ++ [m2]).length = ms'.length + 1:=by simp
   have HL9 : Hid (ScJ s W4 g A1 c1 (.int .i64 ((j : Int) + 1)) W9):=by
    refine ⟨j + 1,ms' ++ [m2],some ⟨g8,0,none⟩,c8,by rw [← HN.out];omega,by go_num,by rw [hn1,HML.out],?_,?_,?_,?_,?_,?_,?_⟩
    ·rw [List.map_append,HTK.out,← HEV.out]
     rfl
    ·intro x hx
     rcases List.mem_append.1 hx with hx | hx
     ·exact HMB.out x hx
     ·obtain rfl : x = m2:=by simpa using hx
      exact HMB2.out
    ·have:=HB8.out.set_ 8 (.slice (some ⟨g8,0,none⟩) (ms'.length + 1) c8)
     rw [← hW9] at this;rw [← hn1] at this;exact this
    ·rw [emCells_snoc,hn1]
     exact own_apart HO8.out hWW (fun k hk hq => by subst hq;exact ⟨_,_,HB8.out,by decide⟩)
    ·intro x hx
     exact (HE8.out x hx).far HB8.out (by decide) (by decide) hWW
    ·exact HL8.out.trans (hWW.below (by have:=HL8.out.size;omega) (fun k hk e => by have e2 : k = g:=e;omega))
    ·exact own_apart HVO8.out hWW (fun k hk hq => by subst hq;exact ⟨_,_,HB8.out,by decide⟩)
   clear hWW hW9;go_wp2_with fail;go_roundw
   case rel => first | exact HL9.out | exact ⟨_,HL9.out,rfl⟩
   case measure => simp [intOf];omega
  ·have js : ¬ (j : Int) < (n : Int):=by omega
   have hjn : j = n:=by omega
   have HF : Hid (ms'.map Em.ev = s.ms.map Em.ev):=by show _ = _;rw [HME.out,hjn,HN.out,List.take_length]
   go_upto_region 7 with fail
   refine wp_region_lit ?_;refine wpList_value rfl (.agg (Sm.cs ⟨s.c,A1,c1,Ae,ke,ms'⟩)) (ex_load 27 (.tmp 3) rfl _ rfl _ _ Tryz.underlying27 rfl (ld47 _ rfl) (box_all HBX.out)) ?_;simp only [Act.put,aSt,aSz,aSs];go_wp2_with (refine wpList_put_at rfl 27 (.tmp 2) (.tmp 33) rfl (w.heap.size + 1) 0 (Sm.cs ⟨s.c,A1,c1,Ae,ke,ms'⟩) rfl rfl 27 Z HRR.out (ld47 _ rfl) (by rw [sm_size,hZs];omega) (sm_all _) _ (sput Z _ hZs rfl) ?_);refine bodyPost_ret (results_47c rfl _ rfl (HRR.out.row _) rfl) rfl ?_;have hWW:=only_setRow wr (w.heap.size + 1) (Sm.cs ⟨s.c,A1,c1,Ae,ke,ms'⟩);refine ⟨⟨s.c,A1,c1,Ae,ke,ms'⟩,rfl,?_,SmV.far ⟨own_base HVO.out (by omega),own_base HROW.out hs4,fun m hm => (HENT.out m hm).base hs4,by show s.c.votes.length ≤ _;rw [← HVN.out];omega,hmlb⟩ HRR.out (by decide) (by decide) (by decide) hWW,HMB.out,HBW.out.trans (hWW.below HBW.out.size (fun k hk e => by have e2 : k = w.heap.size + 1:=e;omega))⟩;show Sc.mk _ _ = Sc.mk _ _;rw [HF.out]
end Go.Proofs.YtcibcmfaebbhnaaGreatDoor
