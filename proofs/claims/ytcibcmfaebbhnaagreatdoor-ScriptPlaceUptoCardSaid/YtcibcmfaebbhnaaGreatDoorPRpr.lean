/-
  The reference's Print. (Printed by wip/tools/mkrpr.py.)
-/
import Derived.Test.YtcibcmfaebbhnaaGreatDoorPPrp
import Derived.Test.YtcibcmfaebbhnaaGreatDoorPSco
import Derived.Test.YtcibcmfaebbhnaaGreatDoorPWords
set_option linter.unusedSimpArgs false
set_option linter.unusedVariables false
set_option maxRecDepth 100000
set_option maxHeartbeats 2000000

namespace Go.Proofs.YtcibcmfaebbhnaaGreatDoor
open Go.RowKit Go.WideShapes Go.ChangeShapes Q
def NmJ2 (c : Cfg) (W : World) (v i : Value) (wr : World) : Prop:=∃ (q r : Nat) (out : List UInt8),q ≤ 7 ∧ r = 2 * q ∧ i = .int .i64 (r : Int) ∧ out = quo1 ++ (List.range q).flatMap (pairT c) ∧ out.length ≤ 10 + 40 * q ∧ BO wr W.heap.size v out ∧ Below W.heap.size W wr
def VoJ2 (c : Cfg) (W : World) (v i : Value) (wr : World) : Prop:=∃ (j : Nat) (out : List UInt8),j ≤ c.votes.length ∧ i = .int .i64 j ∧ out = quo1 ++ (List.range 7).flatMap (pairT c) ++ vots ++ votT (c.votes.take j) ∧ out.length ≤ 300 + 21 * j ∧ BO wr W.heap.size v out ∧ Below W.heap.size W wr
def EvJ2 (s : Sc) (W : World) (v i : Value) (wr : World) : Prop:=∃ (j : Nat) (t : List UInt8),j ≤ s.es.length ∧ i = .int .i64 j ∧ linesT s.c.nodes s.es = (linesT s.c.nodes (s.es.drop j)).map (t ++ ·) ∧ t.length ≤ 30000001 * j ∧ BO wr W.heap.size v (headTx s.c ++ t) ∧ Below W.heap.size W wr
theorem dec_len19' {n : Nat} (h : n ≤ 4611686018427387904) : (Lib.decDigits n).length ≤ 19:=dec_len19 (n:=n) (by omega)
theorem step_append_str {P : Program} {ops : Array Oper} {o : Oper} {a : Act} {w : World} {K : Act → World → Prop} {Q : Exit → Act → World → Prop} {E : Prop} (hw : Region.wanted o (yielded ops a.tmps) = true) (sl x : Operand) (t u : TypeId)
  (ho : o.op = .call { callee:=.builtin .append,args:=#[sl,x],argTypes:=#[t,u] })
  (base : Nat) (e : TypeId) (i : TypeInfo) (ht : P.underlying t = some (.slice e)) (hu : P.underlying u = some .string) (hi : P.info? e = some i) (hz : i.zero = some (.int .u8 0))
  (hsize : i.size = 1) (hby : i.bytes = 1)
  (v : Value) (n : Nat) (xs : List Value) (hs : a.eval sl = v) (hown : w.ownsRow base e 1 v n xs) (s : ByteArray) (hx : a.eval x = .string s)
  (h63 : n + s.size ≤ maxLen) (hbytes : n + s.size ≤ 140737488355328) (hbase : base ≤ w.heap.size)
  (h : ∀ v' w',w'.ownsRow base e 1 v' (n + s.size) (xs ++ Lib.strCells s) → w.grownBy w' v.ownBlock → K (a.put o.dst v') w') :
  if Region.wanted o (yielded ops a.tmps) = true then Oper.wp P o a w K Q else E:=by
 rw [if_pos hw];obtain ⟨v',w',hr,h2,h3,h4⟩:=Lib.run_append_own_string (P:=P) w base t u o.type e i ht hu hi hz hsize hby v n xs hown s h63 hbytes hbase;unfold Oper.wp execOp;simp only [ho,resolve,invoke,builtin,Sem.run_bind,Sem.run_pure,Result.andThen_ok,List.map_toArray,List.map_cons,List.map_nil,hs,hx,hr];exact h v' w' h2 h3
theorem rprint_script (s : Sm) (w : World) (h : SmIn w w.heap.size s) (hv : s.c.votes.length ≤ 10000000) (hn : s.ms.length ≤ 10000000) (hm : ∀ m ∈ s.ms,EvOk m) :
  Calls Tryz.prog 14 #[.agg s.cs] w fun e w' => PrtP s.sc w e w':=by
 have HIN:=hide h;have HM:=hide hm;obtain ⟨i5,hi5,hz5,hs5,hb5⟩:=info_parts info5;have I5:=hide hi5;clear hi5 h hm;obtain ⟨T,hT⟩ : ∃ T,T = printS s.sc:=⟨_,rfl⟩;have HT:=hide hT;obtain ⟨C0,hC0⟩ : ∃ C0,C0 = s.cs:=⟨_,rfl⟩;rw [← hC0];have HC0:=hide hC0;clear hC0 hT;obtain ⟨n,hnn⟩ : ∃ n,n = s.ms.length:=⟨_,rfl⟩;have HN:=hide hnn;rw [← hnn] at hn;clear hnn;go_enter Tryz.func14,Tryz.ntmps14;go_upto_region 1 with fail
 generalize hW0 : World.alloc w _ = W0
 have HP0 : Hid (Blk W0 w.heap.size 27 s.cs):=by
  show Blk _ _ _ _;rw [← hW0,HC0.out];exact Blk.new _ _ _
 have hb0 : Below w.heap.size w W0:=by rw [← hW0];exact (Below.refl _ _).alloc (Nat.le_refl _) _
 have HB0:=hide hb0;clear hW0 hb0;refine wp_region_lit ?_;refine wpList_value rfl (.pointer (some ⟨w.heap.size,0,none⟩)) (by go_simp) ?_;try simp only [Act.put,aSt,aSz,aSs]
 refine wpList_value rfl (.agg (cfC s.c s.A s.k)) (ex_load 24 (.tmp 13) rfl _ rfl _ _ Tryz.underlying24 rfl (ld44 _ rfl) (sm_pre HP0.out)) ?_;try simp only [Act.put,aSt,aSz,aSs]
 refine wpList_step (fun K hK => ?_);rw [if_pos (by rfl)];go_simp;refine hK _ _ ?_;clear hK K;refine wpList_store_fresh rfl 24 (.tmp 4) (.tmp 14) rfl _ (cfC s.c s.A s.k) rfl rfl (ld44 _ rfl) rfl (cf_all _ _ _) ?_;try simp only [Act.put,aSt,aSz,aSs]
 obtain ⟨W1,hW1⟩ : ∃ W1,W1 = World.alloc W0 (.cells (cfC s.c s.A s.k) 24):=⟨_,rfl⟩;obtain ⟨g,hg⟩ : ∃ g,g = W0.heap.size:=⟨_,rfl⟩;have hal : Below W0.heap.size W0 W1:=by rw [hW1];exact (Below.refl _ _).alloc (Nat.le_refl _) _
 have HX1 : Hid (Blk W1 g 24 (cfC s.c s.A s.k)):=by show Blk _ _ _ _;rw [hW1,hg];exact Blk.new _ _ _
 have HP1:=hide (HP0.out.below hal HP0.out.lt);have HB1:=hide (HB0.out.trans (hal.mono HB0.out.size));rw [← hW1];try rw [← hg]
 clear hW1 hg hal HP0 HB0;have hsw1 : w.heap.size ≤ W1.heap.size:=HB1.out.size
 have HCK : Hid (Calls Tryz.prog 26 #[.agg (cfC s.c s.A s.k)] W1 fun e w' => e = .returned (.int .i64 s.c.err) ∧ Below W1.heap.size W1 w'):=by
  refine (rcheck_any s.c.nodes s.c.window s.c.base s.c.step s.c.cap s.c.room s.c.floor s.c.votes s.A s.c.votes.length s.k W1 ((Reads.below HIN.out.vot HB1.out).more hsw1) (by omega)).mono ?_;rintro e w' ⟨h1,rfl⟩;exact ⟨h1,(Below.refl _ _).alloc (Nat.le_refl _) _⟩
 obtain ⟨er,her⟩ : ∃ er,er = s.c.err:=⟨_,rfl⟩;rw [← her] at HCK
 have h022 : (er = 0 ∧ s.c.Ok) ∨ er = 22:=by
  rw [her]
  by_cases ho : s.c.Ok
  ·exact .inl ⟨Cfg.err_ok ho,ho⟩
  ·exact .inr (Cfg.err_bad ho)
 have HER:=hide her;clear her;go_upto_region 2 with fail
 refine wp_region_lit ?_;refine wpList_value rfl (.agg (cfC s.c s.A s.k)) (ex_load 24 (.tmp 4) rfl _ rfl _ _ Tryz.underlying24 rfl (ld44 _ rfl) (box_all HX1.out)) ?_;try simp only [Act.put,aSt,aSz,aSs]
 refine wpList_step (fun K hK => ?_);rw [if_pos (by rfl)];go_simp;go_at_call 26;refine HCK.out.mono ?_;rintro e w2 ⟨rfl,hb2⟩;have HX2:=hide (HX1.out.below hb2 HX1.out.lt);have HP2:=hide (HP1.out.below hb2 HP1.out.lt);have HB2:=hide (HB1.out.trans (hb2.mono hsw1));refine hK _ _ ?_;clear hK K hb2 HX1 HP1 HB1 HCK hsw1;try simp only [Act.put,aSt,aSz,aSs]
 have hsw2 : w.heap.size ≤ w2.heap.size:=HB2.out.size
 rcases h022 with ⟨he,hok⟩ | he
 rotate_left
 ·have HR : Hid (printS s.sc = ([],22)):=by
   show _ = _;unfold printS;have h1 : s.sc.c.err = 22:=HER.out.symm.trans he;rw [if_neg (by rw [h1];decide),h1]
  subst he;go_wp2_with fail;refine bodyPost_ret (results_tmp2 rfl _ _ _) rfl ?_;exact prt_out HR.out HB2.out
 subst he;have HOK:=hide hok;clear hok;have k8 : w2.cell? ⟨w.heap.size,8,none⟩ = some (.slice s.Ae n s.ke):=by rw [HN.out];exact HP2.out.cell 8
 by_cases hmany : 4000 < n
 ·have HR : Hid (printS s.sc = ([],25)):=by
   show _ = _;unfold printS;have h1 : s.sc.c.err = 0:=HER.out.symm;have h2 : s.sc.es.length = n:=by show (s.ms.map Em.ev).length = n;rw [List.length_map,HN.out]
   rw [if_pos h1,if_pos (by rw [h2];exact hmany)]
  have e1 : (4000 : Int) < (n : Int):=by omega
  go_wp2_with fail;refine bodyPost_ret (results_tmp2 rfl _ _ _) rfl ?_;exact prt_out HR.out HB2.out
 have e1 : ¬ (4000 : Int) < (n : Int):=by omega
 have HTX : Hid (printS s.sc = match linesT s.c.nodes s.sc.es with
  | none => ([],24)
  | some t => if 400000 < (headTx s.c ++ t).length then ([],20) else (headTx s.c ++ t,0)):=by
  show _ = _;have h1 : s.sc.c.err = 0:=HER.out.symm;have h2 : s.sc.es.length = n:=by show (s.ms.map Em.ev).length = n;rw [List.length_map,HN.out]
  unfold printS;rw [if_pos h1,if_neg (by rw [h2];exact hmany)]
  rfl
 have k0 : w2.cell? ⟨g,0,none⟩ = some (.int .i64 s.c.nodes):=HX2.out.cell 0;have k1 : w2.cell? ⟨g,1,none⟩ = some (.int .i64 s.c.window):=HX2.out.cell 1;have k2 : w2.cell? ⟨g,2,none⟩ = some (.int .i64 s.c.base):=HX2.out.cell 2;have k3 : w2.cell? ⟨g,3,none⟩ = some (.int .i64 s.c.step):=HX2.out.cell 3;have k4 : w2.cell? ⟨g,4,none⟩ = some (.int .i64 s.c.cap):=HX2.out.cell 4;have k5 : w2.cell? ⟨g,5,none⟩ = some (.int .i64 s.c.room):=HX2.out.cell 5;have k6 : w2.cell? ⟨g,6,none⟩ = some (.int .i64 s.c.floor):=HX2.out.cell 6;go_upto_region 7 with fail
 clear k0 k1 k2 k3 k4 k5 k6 k8;generalize hW3 : World.alloc w2 _ = W3;obtain ⟨gn,hgn⟩ : ∃ gn,gn = w2.heap.size:=⟨_,rfl⟩;rw [← hgn];have hal : Below w2.heap.size w2 W3:=by rw [← hW3];exact (Below.refl _ _).alloc (Nat.le_refl _) _
 have HNC : Hid (Blk W3 gn 3 (nC s.c)):=by show Blk _ _ _ _;rw [← hW3,hgn];exact Blk.new _ _ _
 have HX3:=hide (HX2.out.below hal HX2.out.lt);have HP3:=hide (HP2.out.below hal HP2.out.lt);have HB3:=hide (HB2.out.trans (hal.mono hsw2));clear hW3 hgn hal HX2 HP2 HB2 hsw2;have hsw3 : w.heap.size ≤ W3.heap.size:=HB3.out.size;go_upto_region 8 with (go_at_call 41;refine (header_ref _).mono ?_;rintro e w4 ⟨rfl,rfl⟩)
 generalize hW4 : World.alloc W3 _ = W4;obtain ⟨gh,hgh⟩ : ∃ gh,gh = W3.heap.size:=⟨_,rfl⟩;rw [← hgh];have hal : Below W3.heap.size W3 W4:=by rw [← hW4];exact (Below.refl _ _).alloc (Nat.le_refl _) _
 have HH : Hid (Blk W4 gh 9 hdrV):=by show Blk _ _ _ _;rw [← hW4,hgh];exact Blk.new _ _ _
 have HNC4:=hide (HNC.out.below hal HNC.out.lt);have HX4:=hide (HX3.out.below hal HX3.out.lt);have HP4:=hide (HP3.out.below hal HP3.out.lt);have HB4:=hide (HB3.out.trans (hal.mono hsw3));clear hW4 hgh hal HX3 HP3 HB3 HNC hsw3;have hsw4 : w.heap.size ≤ W4.heap.size:=HB4.out.size;go_upto_region 9 with fail
 refine wp_region_lit ?_;refine wpList_value rfl (.slice none 0 0) (by go_simp) ?_;try simp only [Act.put,aSt,aSz,aSs]
 refine Lib.wpList_append_own_string _ rfl (.tmp 38) (.const (.string ⟨#[113,117,111,114,97,116,101,32,49,10]⟩)) 29 9 rfl W4.heap.size 5 i5 Tryz.underlying29 Tryz.underlying9 I5.out hz5 hs5 hb5 (.slice none 0 0) 0 [] rfl (World.ownsRow_nil _ _ _ _) (S quo1) rfl (by rw [S_size];decide) (by rw [S_size];decide) (Nat.le_refl _) ?_;intro v4 w4 hown4 hgr4 _;have HL4 : Hid (NmJ2 s.c W4 v4 (.int .i64 0) w4):=⟨0,0,quo1,Nat.zero_le _,rfl,rfl,by simp,by decide,(BO.app (out:=[]) hown4),(Below.refl _ _).grown hgr4 (Nat.le_refl _) (fun k hk => by cases hk)⟩;clear hown4 hgr4;try simp only [Act.put,aSt,aSz,aSs]
 go_upto_region 11 with fail
 go_loopw [7,8] (fun v i wr => NmJ2 s.c W4 v i wr) (fun _ i _ => 14 - (intOf i).toNat)
 case atStart => exact HL4.out
 case round =>
  clear HL4;unfold NmJ2 at hrel;obtain ⟨q,r,out,hq,hrq,rfl,hout,hol,hbo,hbr⟩:=hrel;have HRQ:=hide hrq;have hr14 : r ≤ 14:=by omega
  have HOUT:=hide hout;have HBO:=hide hbo;have HBR:=hide hbr;clear hout hbo hbr;have hswr : W4.heap.size ≤ wr.heap.size:=HBR.out.size;have q0 : (0 : Int) ≤ (r : Int):=by omega
  by_cases hlt : q < 7
  ·have js : (r : Int) < 14:=by omega
   have js2 : (r : Int) + 1 < 14:=by omega
   have hw1 : IntKind.i64.wrap ((r : Int) + 1) = (r : Int) + 1:=i64_wrap _ (by omega) (by omega);have hw2 : IntKind.i64.wrap ((r : Int) + 2) = (r : Int) + 2:=i64_wrap _ (by omega) (by omega);have ht1 : ((r : Int) + 1).toNat = r + 1:=by omega
   have q1 : (0 : Int) ≤ (r : Int) + 1:=by omega
   obtain ⟨nm,hnm⟩ : ∃ nm,nm = cfNames.getD q []:=⟨_,rfl⟩;have hnl : nm.length ≤ 6:=by rw [hnm];exact names_len q
   obtain ⟨x,hx⟩ : ∃ x : Nat,x = (nth (cvals s.c) q).toNat:=⟨_,rfl⟩;have hcv:=cvals_ok HOK.out q hlt;have hxv : nth (cvals s.c) q = (x : Int):=by omega
   have hxb : x ≤ 4611686018427387904:=by omega
   have HG : Hid (∀ V : World,Blk V gh 9 hdrV → Blk V gn 3 (nC s.c) → V.cell? ⟨gh,r,none⟩ = some (.string (S nm)) ∧ V.cell? ⟨gn,r + 1,none⟩ = some (.int .i64 (x : Int))):=fun V h1 h2 => by
    refine ⟨?_,?_⟩
    ·rw [h1.cell,hnm,hrq]
     exact hdrV_at q _ (names_get hlt)
    ·rw [h2.cell,← hxv,hrq]
     exact nC_at s.c q hlt
   have HPT : Hid (pairT s.c q = (if q = 0 then [] else [32]) ++ (nm ++ ([32] ++ Lib.decDigits x))):=by show _ = _;rw [hnm,hx];rfl
   have hdl:=dec_len19' hxb;have HDG : Hid (∀ W,Calls Tryz.prog 42 #[.int .i64 (x : Int)] W fun e w' => e = .returned (.string (S (Lib.decDigits x))) ∧ Below W.heap.size W w'):=fun W => dig_any x W (by omega)
   obtain ⟨D,hD⟩ : ∃ D,D = Lib.decDigits x:=⟨_,rfl⟩;rw [← hD] at HDG HPT hdl;have HGH:=hide (HH.out.below HBR.out HH.out.lt);have HGN:=hide (HNC4.out.below HBR.out HNC4.out.lt);clear hnm hx hcv hxv hD hrq;obtain ⟨A7,c7,rfl,_⟩:=own_slice HBO.out
   by_cases hq0 : q = 0
   ·have e2 : ¬ (0 : Int) < (r : Int):=by have:=HRQ.out;omega
    have HQ0:=hide hq0;clear hq0;go_upto_region 15 with fail
    clear e2;have HS0 : Hid ((fun V : World => Blk V gh 9 hdrV ∧ Blk V gn 3 (nC s.c)) wr.drew):=⟨HGH.out.drew,HGN.out.drew⟩;have HBD0 : Hid (BO wr.drew W4.heap.size (.slice A7 out.length c7) out):=HBO.out;have HBRD0 : Hid (Below W4.heap.size W4 wr.drew):=HBR.out.drew;refine wp_region_L [] (fun V : World => Blk V gh 9 hdrV ∧ Blk V gn 3 (nC s.c)) (by kernel_rfl) ?_;obtain ⟨wd,hwd⟩ : ∃ wd,wd = wr.drew:=⟨_,rfl⟩;rw [← hwd] at HS0 HBD0 HBRD0 ⊢;clear hwd;refine tk 0 51 (v:=.slice A7 out.length c7) rfl HS0.out ?_ ?_
    ·intro V hV;go_simp
    try simp only [Act.put,aSt,aSz,aSs]
    refine tk 1 52 (v:=?_) rfl HS0.out ?_ ?_
    rotate_left;· intro V hV;go_simp;try with_reducible rfl
    try simp only [Act.put,aSt,aSz,aSs]
    refine tk 2 53 (v:=?_) rfl HS0.out ?_ ?_
    rotate_left;· intro V hV;go_simp;try with_reducible rfl
    try simp only [Act.put,aSt,aSz,aSs]
    refine tk 3 54 (v:=?_) rfl HS0.out ?_ ?_
    rotate_left;· intro V hV;go_simp;try with_reducible rfl
    try simp only [Act.put,aSt,aSz,aSs]
    refine tk 4 55 (v:=?_) rfl HS0.out ?_ ?_
    rotate_left
    ·intro V hV
     obtain ⟨a1,a2⟩:=HG.out V hV.1 hV.2;go_simp;try with_reducible rfl
    try simp only [Act.put,aSt,aSz,aSs]
    refine tk 5 56 (v:=.string (S (cc nm [32]))) rfl HS0.out ?_ ?_
    ·intro V hV;exact ex_cat (.tmp 55) (.const (.string ⟨#[32]⟩)) 9 9 rfl rfl rfl (by simp only [List.length_singleton];omega)
    try simp only [Act.put,aSt,aSz,aSs]
    refine tk 6 57 (v:=?_) rfl HS0.out ?_ ?_
    rotate_left;· intro V hV;go_simp;try with_reducible rfl
    try simp only [Act.put,aSt,aSz,aSs]
    refine tk 7 58 (v:=?_) rfl HS0.out ?_ ?_
    rotate_left;· intro V hV;go_simp;try with_reducible rfl
    try simp only [Act.put,aSt,aSz,aSs]
    refine tk 8 59 (v:=?_) rfl HS0.out ?_ ?_
    rotate_left;· intro V hV;go_simp;try with_reducible rfl
    try simp only [Act.put,aSt,aSz,aSs]
    refine tk 9 60 (v:=?_) rfl HS0.out ?_ ?_
    rotate_left;· intro V hV;go_simp;try with_reducible rfl
    try simp only [Act.put,aSt,aSz,aSs]
    refine tk 10 61 (v:=?_) rfl HS0.out ?_ ?_
    rotate_left
    ·intro V hV
     obtain ⟨a1,a2⟩:=HG.out V hV.1 hV.2;go_simp;try with_reducible rfl
    try simp only [Act.put,aSt,aSz,aSs]
    refine wpL_one 11 (by kernel_rfl) rfl (fun K hK => ?_);rw [if_pos (by rfl)];go_simp;go_at_call 42;refine (HDG.out _).mono ?_;rintro e w5 ⟨rfl,hb5⟩;have HBO5 : Hid (BO w5 W4.heap.size (.slice A7 out.length c7) out):=own_step HBD0.out hb5;have HBR5:=hide (HBRD0.out.trans (hb5.mono HBRD0.out.size));have HS5 : Hid ((fun V : World => Blk V gh 9 hdrV ∧ Blk V gn 3 (nC s.c)) w5):=⟨HS0.out.1.below hb5 HS0.out.1.lt,HS0.out.2.below hb5 HS0.out.2.lt⟩;have hsw5 : W4.heap.size ≤ w5.heap.size:=HBR5.out.size;refine hK _ _ (fun _ => HS5.out) ?_;clear hK K hb5 HBD0 HBRD0 HS0;try simp only [Act.put,aSt,aSz,aSs]
    refine tk 12 63 (v:=.string (S (cc (cc nm [32]) D))) rfl HS5.out ?_ ?_
    ·intro V hV;exact ex_cat (.tmp 56) (.tmp 62) 9 9 rfl rfl rfl (by rw [cc_len];simp only [List.length_singleton];omega)
    try simp only [Act.put,aSt,aSz,aSs]
    have hcl : (cc (cc nm [32]) D).length ≤ 30:=by rw [cc_len,cc_len];simp only [List.length_singleton];omega
    refine wpL_one 13 (by kernel_rfl) rfl (fun K hK => ?_);refine step_append_str (by rfl) (.tmp 51) (.tmp 63) 29 9 rfl W4.heap.size 5 i5 Tryz.underlying29 Tryz.underlying9 I5.out hz5 hs5 hb5 (.slice A7 out.length c7) out.length (Lib.byteCells out) rfl HBO5.out (S (cc (cc nm [32]) D)) rfl (by rw [S_size];unfold maxLen;omega) (by rw [S_size];omega) hsw5 ?_;intro v6 w6 hown6 hgr6;have HS6 : Hid ((fun V : World => Blk V gh 9 hdrV ∧ Blk V gn 3 (nC s.c)) w6):=⟨HS5.out.1.grown hgr6 (own_ne HBO5.out HS5.out.1 (by decide)),HS5.out.2.grown hgr6 (own_ne HBO5.out HS5.out.2 (by decide))⟩
    have HL6 : Hid (NmJ2 s.c W4 v6 (.int .i64 ((r : Int) + 2)) w6):=by
     refine ⟨q + 1,r + 2,out ++ cc (cc nm [32]) D,by omega,by have:=HRQ.out;omega,by go_num,?_,by rw [List.length_append];omega,BO.app hown6,HBR5.out.grown hgr6 hsw5 (fun k hk => (HBO5.out.lt k hk).1)⟩;have hq0:=HQ0.out;have hp:=HPT.out;rw [List.range_succ,List.flatMap_append,HOUT.out];simp only [List.flatMap_cons,List.flatMap_nil,List.append_nil];rw [hp];simp [cc,hq0]
    refine hK _ _ (fun _ => HS6.out) ?_;clear hK K hown6 hgr6;try simp only [Act.put,aSt,aSz,aSs]
    refine tk 14 7 (v:=?_) rfl HS6.out ?_ ?_
    rotate_left;· intro V hV;go_simp;try with_reducible rfl
    try simp only [Act.put,aSt,aSz,aSs]
    refine wpL_done (by kernel_rfl) ?_ _;go_wp2_with fail;go_roundw
    case rel => first | exact HL6.out | exact ⟨_,HL6.out,rfl⟩ | exact ⟨_,_,HL6.out,rfl,rfl⟩
    case measure => simp [intOf];omega
   ·have e2 : (0 : Int) < (r : Int):=by have:=HRQ.out;omega
    have HQ0:=hide hq0;clear hq0;have hol2 : out.length ≤ 10 + 40 * 7:=by omega
    go_upto_region 15 with (at_builtin;refine wpList_push (W:=wr) (cs:=#[.int .u8 32]) rfl (.tmp 48) (.tmp 49) _ rfl W4.heap.size 5 i5 _ 1 1 Tryz.underlying29 I5.out hz5 hs5 hb5 rfl (by omega) (.slice A7 out.length c7) out.length _ rfl HBO.out 1 1 rfl rfl (by simp [Value.oneCell']) (by omega) (by unfold maxLen;omega) (by omega) hswr ?_;intro g8 c8 w8 hown8 hgr8 hb8 _ _ _;have HGR8:=hide hgr8;have HOW8:=hide hown8;have HBB8:=hide hb8;clear hown8 hgr8 hb8)
    have hrA:=own_step HBO.out ((Below.refl wr.heap.size wr).alloc (Nat.le_refl _) (.cells #[.int .u8 32] 5));have HBR8:=hide (HBR.out.trans HBB8.out);have HGH8:=hide ((HGH.out.alloc _).grown HGR8.out (own_ne hrA (HGH.out.alloc _) (by decide)));have HGN8:=hide ((HGN.out.alloc _).grown HGR8.out (own_ne hrA (HGN.out.alloc _) (by decide)));have HO8 : Hid (w8.ownsRow W4.heap.size 5 1 (.slice (some ⟨g8,0,none⟩) (out.length + 1) c8) (out.length + 1) (Lib.byteCells out ++ [.int .u8 (((32 : UInt8).toNat : Nat) : Int)])):=HOW8.out;clear e2 HGH HGN hrA HGR8 HOW8 HBB8;have HGH:=HGH8;have HGN:=HGN8;obtain ⟨O2,hO2⟩ : ∃ O2,O2 = out ++ [32]:=⟨_,rfl⟩;have HO2 : Hid (O2 = quo1 ++ (List.range q).flatMap (pairT s.c) ++ [32]):=by show _ = _;rw [hO2,HOUT.out]
    have hO2l : O2.length = out.length + 1:=by rw [hO2];simp
    have HBO8 : Hid (BO w8 W4.heap.size (.slice (some ⟨g8,0,none⟩) O2.length c8) O2):=by show BO _ _ _ _;rw [hO2];have:=BO.one HO8.out;rw [List.length_append];exact this
    rw [← hO2l];have hO2b : O2.length ≤ 11 + 40 * q:=by omega
    clear hO2 HO8 HGH8 HGN8 hO2l;have HS0 : Hid ((fun V : World => Blk V gh 9 hdrV ∧ Blk V gn 3 (nC s.c)) w8.drew):=⟨HGH.out.drew,HGN.out.drew⟩;have HBD0 : Hid (BO w8.drew W4.heap.size (.slice (some ⟨g8,0,none⟩) O2.length c8) O2):=HBO8.out;have HBRD0 : Hid (Below W4.heap.size W4 w8.drew):=HBR8.out.drew;refine wp_region_L [] (fun V : World => Blk V gh 9 hdrV ∧ Blk V gn 3 (nC s.c)) (by kernel_rfl) ?_;obtain ⟨wd,hwd⟩ : ∃ wd,wd = w8.drew:=⟨_,rfl⟩;rw [← hwd] at HS0 HBD0 HBRD0 ⊢;clear hwd;refine tk 0 51 (v:=.slice (some ⟨g8,0,none⟩) O2.length c8) rfl HS0.out ?_ ?_
    ·intro V hV;go_simp
    try simp only [Act.put,aSt,aSz,aSs]
    refine tk 1 52 (v:=?_) rfl HS0.out ?_ ?_
    rotate_left;· intro V hV;go_simp;try with_reducible rfl
    try simp only [Act.put,aSt,aSz,aSs]
    refine tk 2 53 (v:=?_) rfl HS0.out ?_ ?_
    rotate_left;· intro V hV;go_simp;try with_reducible rfl
    try simp only [Act.put,aSt,aSz,aSs]
    refine tk 3 54 (v:=?_) rfl HS0.out ?_ ?_
    rotate_left;· intro V hV;go_simp;try with_reducible rfl
    try simp only [Act.put,aSt,aSz,aSs]
    refine tk 4 55 (v:=?_) rfl HS0.out ?_ ?_
    rotate_left
    ·intro V hV
     obtain ⟨a1,a2⟩:=HG.out V hV.1 hV.2;go_simp;try with_reducible rfl
    try simp only [Act.put,aSt,aSz,aSs]
    refine tk 5 56 (v:=.string (S (cc nm [32]))) rfl HS0.out ?_ ?_
    ·intro V hV;exact ex_cat (.tmp 55) (.const (.string ⟨#[32]⟩)) 9 9 rfl rfl rfl (by simp only [List.length_singleton];omega)
    try simp only [Act.put,aSt,aSz,aSs]
    refine tk 6 57 (v:=?_) rfl HS0.out ?_ ?_
    rotate_left;· intro V hV;go_simp;try with_reducible rfl
    try simp only [Act.put,aSt,aSz,aSs]
    refine tk 7 58 (v:=?_) rfl HS0.out ?_ ?_
    rotate_left;· intro V hV;go_simp;try with_reducible rfl
    try simp only [Act.put,aSt,aSz,aSs]
    refine tk 8 59 (v:=?_) rfl HS0.out ?_ ?_
    rotate_left;· intro V hV;go_simp;try with_reducible rfl
    try simp only [Act.put,aSt,aSz,aSs]
    refine tk 9 60 (v:=?_) rfl HS0.out ?_ ?_
    rotate_left;· intro V hV;go_simp;try with_reducible rfl
    try simp only [Act.put,aSt,aSz,aSs]
    refine tk 10 61 (v:=?_) rfl HS0.out ?_ ?_
    rotate_left
    ·intro V hV
     obtain ⟨a1,a2⟩:=HG.out V hV.1 hV.2;go_simp;try with_reducible rfl
    try simp only [Act.put,aSt,aSz,aSs]
    refine wpL_one 11 (by kernel_rfl) rfl (fun K hK => ?_);rw [if_pos (by rfl)];go_simp;go_at_call 42;refine (HDG.out _).mono ?_;rintro e w5 ⟨rfl,hb5⟩;have HBO5 : Hid (BO w5 W4.heap.size (.slice (some ⟨g8,0,none⟩) O2.length c8) O2):=own_step HBD0.out hb5;have HBR5:=hide (HBRD0.out.trans (hb5.mono HBRD0.out.size));have HS5 : Hid ((fun V : World => Blk V gh 9 hdrV ∧ Blk V gn 3 (nC s.c)) w5):=⟨HS0.out.1.below hb5 HS0.out.1.lt,HS0.out.2.below hb5 HS0.out.2.lt⟩;have hsw5 : W4.heap.size ≤ w5.heap.size:=HBR5.out.size;refine hK _ _ (fun _ => HS5.out) ?_;clear hK K hb5 HBD0 HBRD0 HS0;try simp only [Act.put,aSt,aSz,aSs]
    refine tk 12 63 (v:=.string (S (cc (cc nm [32]) D))) rfl HS5.out ?_ ?_
    ·intro V hV;exact ex_cat (.tmp 56) (.tmp 62) 9 9 rfl rfl rfl (by rw [cc_len];simp only [List.length_singleton];omega)
    try simp only [Act.put,aSt,aSz,aSs]
    have hcl : (cc (cc nm [32]) D).length ≤ 30:=by rw [cc_len,cc_len];simp only [List.length_singleton];omega
    refine wpL_one 13 (by kernel_rfl) rfl (fun K hK => ?_);refine step_append_str (by rfl) (.tmp 51) (.tmp 63) 29 9 rfl W4.heap.size 5 i5 Tryz.underlying29 Tryz.underlying9 I5.out hz5 hs5 hb5 (.slice (some ⟨g8,0,none⟩) O2.length c8) O2.length (Lib.byteCells O2) rfl HBO5.out (S (cc (cc nm [32]) D)) rfl (by rw [S_size];unfold maxLen;omega) (by rw [S_size];omega) hsw5 ?_;intro v6 w6 hown6 hgr6;have HS6 : Hid ((fun V : World => Blk V gh 9 hdrV ∧ Blk V gn 3 (nC s.c)) w6):=⟨HS5.out.1.grown hgr6 (own_ne HBO5.out HS5.out.1 (by decide)),HS5.out.2.grown hgr6 (own_ne HBO5.out HS5.out.2 (by decide))⟩
    have HL6 : Hid (NmJ2 s.c W4 v6 (.int .i64 ((r : Int) + 2)) w6):=by
     refine ⟨q + 1,r + 2,O2 ++ cc (cc nm [32]) D,by omega,by have:=HRQ.out;omega,by go_num,?_,by rw [List.length_append];omega,BO.app hown6,HBR5.out.grown hgr6 hsw5 (fun k hk => (HBO5.out.lt k hk).1)⟩;have hq0:=HQ0.out;have hp:=HPT.out;rw [List.range_succ,List.flatMap_append,HO2.out];simp only [List.flatMap_cons,List.flatMap_nil,List.append_nil];rw [hp];simp [cc,hq0]
    refine hK _ _ (fun _ => HS6.out) ?_;clear hK K hown6 hgr6;try simp only [Act.put,aSt,aSz,aSs]
    refine tk 14 7 (v:=?_) rfl HS6.out ?_ ?_
    rotate_left;· intro V hV;go_simp;try with_reducible rfl
    try simp only [Act.put,aSt,aSz,aSs]
    refine wpL_done (by kernel_rfl) ?_ _;go_wp2_with fail;go_roundw
    case rel => first | exact HL6.out | exact ⟨_,HL6.out,rfl⟩ | exact ⟨_,_,HL6.out,rfl,rfl⟩
    case measure => simp [intOf];omega
  ·have js : ¬ (r : Int) < 14:=by have:=HRQ.out;omega
   have hq7 : q = 7:=by omega
   have HO7 : Hid (out = quo1 ++ (List.range 7).flatMap (pairT s.c)):=by show _ = _;rw [HOUT.out,hq7]
   obtain ⟨A7,c7,rfl,_⟩:=own_slice HBO.out;clear hq7 hlt hrq HOUT;go_upto_region 16 with fail
   clear js;refine wp_region_lit ?_;refine wpList_value rfl (.slice A7 out.length c7) (by go_simp) ?_;try simp only [Act.put,aSt,aSz,aSs]
   refine Lib.wpList_append_own_string _ rfl (.tmp 65) (.const (.string ⟨#[10,118,111,116,101,115]⟩)) 29 9 rfl W4.heap.size 5 i5 Tryz.underlying29 Tryz.underlying9 I5.out hz5 hs5 hb5 (.slice A7 out.length c7) out.length (Lib.byteCells out) rfl HBO.out (S vots) rfl (by rw [S_size];show _ + 6 ≤ _;unfold maxLen;omega) (by rw [S_size];show _ + 6 ≤ _;omega) hswr ?_;intro v6 w6 hown6 hgr6 _;have HL6 : Hid (VoJ2 s.c W4 v6 (.int .i64 0) w6):=⟨0,out ++ vots,Nat.zero_le _,rfl,by rw [HO7.out];simp [votT],by rw [List.length_append];show _ + 6 ≤ _;omega,BO.app hown6,HBR.out.grown hgr6 hswr (fun k hk => (HBO.out.lt k hk).1)⟩;clear hown6 hgr6 HBO HBR HO7;try simp only [Act.put,aSt,aSz,aSs]
   obtain ⟨vn,hvn⟩ : ∃ vn,vn = s.c.votes.length:=⟨_,rfl⟩;have HVN:=hide hvn;have hvb : vn ≤ 16:=by have h1:=HOK.out.len;have h2:=HOK.out.nodes;omega
   clear hvn;obtain ⟨wx,hwx⟩ : ∃ wx,wx = wr:=⟨_,rfl⟩;clear hwx;go_upto_region 18 with fail
   go_loopw [7,9] (fun v i wr => VoJ2 s.c W4 v i wr) (fun _ i _ => vn - (intOf i).toNat)
   case atStart => exact HL6.out
   case round =>
    clear HL6;unfold VoJ2 at hrel;obtain ⟨j,out,hj,rfl,hout,hol,hbo,hbr⟩:=hrel;rw [← HVN.out] at hj;have HOUT:=hide hout;have HBO:=hide hbo;have HBR:=hide hbr;clear hout hbo hbr;obtain ⟨A7,c7,rfl,_⟩:=own_slice HBO.out;have hswr : W4.heap.size ≤ wr.heap.size:=HBR.out.size;have HXR:=hide (HX4.out.below HBR.out HX4.out.lt);have HBW:=hide (HB4.out.trans (HBR.out.mono hsw4));have k7 : wr.cell? ⟨g,7,none⟩ = some (.slice s.A vn s.k):=by rw [HVN.out];exact HXR.out.cell 7
    have j0 : (0 : Int) ≤ (j : Int):=by omega
    by_cases hlt : j < vn
    ·have js : (j : Int) < (vn : Int):=by omega
     have hri : RI wr w.heap.size s.A vn s.c.votes:=by have:=Reads.below HIN.out.vot HBW.out;rw [← HVN.out] at this;exact this
     obtain ⟨ad,hA,_,cv⟩:=hri.at_ hlt;rw [hA] at k7;have hf:=HOK.out.fine j (by rw [← HVN.out];exact hlt);obtain ⟨x,hx⟩ : ∃ x : Nat,x = (nth s.c.votes j).toNat:=⟨_,rfl⟩;have hxv : nth s.c.votes j = (x : Int):=by omega
     have hxb : x ≤ 9:=by omega
     rw [hxv] at cv;have HDG : Hid (∀ W,Calls Tryz.prog 42 #[.int .i64 (x : Int)] W fun e w' => e = .returned (.string (S (Lib.decDigits x))) ∧ Below W.heap.size W w'):=fun W => dig_any x W (by omega)
     have hdl:=dec_len19' (n:=x) (by omega)
     have HTK : Hid (votT (s.c.votes.take (j + 1)) = votT (s.c.votes.take j) ++ ([32] ++ Lib.decDigits x)):=by
      show _ = _
      have h1 : s.c.votes[j]? = some (nth s.c.votes j):=by
       unfold nth;rw [List.getElem?_eq_getElem (by rw [← HVN.out];exact hlt),List.getD_eq_getElem?_getD,List.getElem?_eq_getElem (by rw [← HVN.out];exact hlt)]
       rfl
      unfold votT;rw [List.take_add_one,h1,List.flatMap_append,hx];simp
     obtain ⟨D,hD⟩ : ∃ D,D = Lib.decDigits x:=⟨_,rfl⟩;rw [← hD] at HDG HTK hdl;clear hA hri hf hx hxv hD;go_upto_region 20 with fail
     refine wp_region_lit ?_;refine wpList_value rfl (.slice A7 out.length c7) (by go_simp) ?_;try simp only [Act.put,aSt,aSz,aSs]
     refine wpList_value rfl (.pointer (some ⟨g,7,none⟩)) (by go_simp) ?_;try simp only [Act.put,aSt,aSz,aSs]
     refine wpList_value rfl (.slice (some ad) vn s.k) (by go_simp) ?_;try simp only [Act.put,aSt,aSz,aSs]
     refine wpList_value rfl (.int .i64 (j : Int)) (by go_simp) ?_;try simp only [Act.put,aSt,aSz,aSs]
     refine wpList_value rfl (.pointer (some (ad.add j))) (by go_simp) ?_;try simp only [Act.put,aSt,aSz,aSs]
     refine wpList_value rfl (.int .i64 (x : Int)) (by go_simp) ?_;try simp only [Act.put,aSt,aSz,aSs]
     refine wpList_step (fun K hK => ?_);rw [if_pos (by rfl)];go_simp;go_at_call 42;refine (HDG.out _).mono ?_;rintro e w5 ⟨rfl,hb5⟩;have HBO5 : Hid (BO w5 W4.heap.size (.slice A7 out.length c7) out):=own_step HBO.out hb5;have HBR5:=hide (HBR.out.trans (hb5.mono hswr));have hsw5 : W4.heap.size ≤ w5.heap.size:=HBR5.out.size;refine hK _ _ ?_;clear hK K hb5 k7 cv;try simp only [Act.put,aSt,aSz,aSs]
     refine wpList_value rfl (.string (S (cc [32] D))) (ex_cat (.const (.string ⟨#[32]⟩)) (.tmp 80) 9 9 rfl rfl rfl (by simp only [List.length_singleton];omega)) ?_;try simp only [Act.put,aSt,aSz,aSs]
     have hcl : (cc [32] D).length ≤ 20:=by rw [cc_len];simp only [List.length_singleton];omega
     refine Lib.wpList_append_own_string _ rfl (.tmp 74) (.tmp 81) 29 9 rfl W4.heap.size 5 i5 Tryz.underlying29 Tryz.underlying9 I5.out hz5 hs5 hb5 (.slice A7 out.length c7) out.length (Lib.byteCells out) rfl HBO5.out (S (cc [32] D)) rfl (by rw [S_size];unfold maxLen;omega) (by rw [S_size];omega) hsw5 ?_;intro v6 w6 hown6 hgr6 _
     have HL7 : Hid (VoJ2 s.c W4 v6 (.int .i64 ((j : Int) + 1)) w6):=by
      refine ⟨j + 1,out ++ cc [32] D,by rw [← HVN.out];omega,by go_num,?_,by rw [List.length_append];omega,BO.app hown6,HBR5.out.grown hgr6 hsw5 (fun k hk => (HBO5.out.lt k hk).1)⟩;rw [HTK.out,HOUT.out];simp [cc]
     clear hown6 hgr6;try simp only [Act.put,aSt,aSz,aSs]
     go_wp2_with fail;go_roundw
     case rel => first | exact HL7.out | exact ⟨_,HL7.out,rfl⟩ | exact ⟨_,_,HL7.out,rfl,rfl⟩
     case measure => simp [intOf];omega
    ·have js : ¬ (j : Int) < (vn : Int):=by omega
     have hjv : j = vn:=by omega
     have HH3 : Hid (out ++ [10] = headTx s.c):=by
      show _ = _;rw [HOUT.out,hjv,HVN.out,List.take_length]
      rfl
     have hol2 : out.length ≤ 1000:=by omega
     clear hlt hjv HOUT;go_upto_region 22 with (at_builtin;refine wpList_push (W:=wr) (cs:=#[.int .u8 10]) rfl (.tmp 83) (.tmp 84) _ rfl W4.heap.size 5 i5 _ 1 1 Tryz.underlying29 I5.out hz5 hs5 hb5 rfl (by omega) (.slice A7 out.length c7) out.length _ rfl HBO.out 1 1 rfl rfl (by simp [Value.oneCell']) (by omega) (by unfold maxLen;omega) (by omega) hswr ?_;intro g8 c8 w8 hown8 hgr8 hb8 _ _ _;have HOW8:=hide hown8;have HBB8:=hide hb8;clear hown8 hgr8 hb8)
     clear k7;have HO8 : Hid (w8.ownsRow W4.heap.size 5 1 (.slice (some ⟨g8,0,none⟩) (out.length + 1) c8) (out.length + 1) (Lib.byteCells out ++ [.int .u8 (((10 : UInt8).toNat : Nat) : Int)])):=HOW8.out;have HBR8:=hide (HBR.out.trans HBB8.out);have HBO8 : Hid (BO w8 W4.heap.size (.slice (some ⟨g8,0,none⟩) (out.length + 1) c8) (headTx s.c)):=by show BO _ _ _ _;rw [← HH3.out];exact BO.one HO8.out
     have hhl : (headTx s.c).length = out.length + 1:=by rw [← HH3.out];simp
     have hhb : (headTx s.c).length ≤ 1001:=by omega
     obtain ⟨HT0,hHT0⟩ : ∃ HT0,HT0 = headTx s.c:=⟨_,rfl⟩;have HHT:=hide hHT0;rw [← hHT0] at hhb hhl HBO8;rw [← hhl] at HBO8 ⊢;obtain ⟨es,hes⟩ : ∃ es,es = s.ms.map Em.ev:=⟨_,rfl⟩;have hel : es.length = n:=by rw [hes,List.length_map,HN.out]
     have HES:=hide hes;have HEL:=hide hel;have HL8 : Hid (EvJ2 s.sc W4 (.slice (some ⟨g8,0,none⟩) HT0.length c8) (.int .i64 0) w8):=⟨0,[],Nat.zero_le _,rfl,by simp,by simp,by rw [List.append_nil];show BO _ _ _ (headTx s.c);rw [← HHT.out];exact HBO8.out,HBR8.out⟩;clear HO8 HOW8 HBB8 HBO HBR HXR HBW HH3 hhl hHT0 hes hel js hol hol2;obtain ⟨wx,hwx⟩ : ∃ wx,wx = wr:=⟨_,rfl⟩;clear hwx;go_upto_region 23 with fail
     go_loopw [7,10] (fun v i wr => EvJ2 s.sc W4 v i wr) (fun _ i _ => n - (intOf i).toNat)
     case atStart => exact HL8.out
     case round =>
      clear HL8;unfold EvJ2 at hrel;obtain ⟨j,t,hj,rfl,hln,htl,hbo,hbr⟩:=hrel;have hse : s.sc.es.length = n:=by rw [← HEL.out,HES.out];rfl
      have hj2 : j ≤ n:=by omega
      have HSE:=hide hse;obtain ⟨O,hO⟩ : ∃ O,O = HT0 ++ t:=⟨_,rfl⟩;have hbo2:=hbo;rw [show headTx s.sc.c = HT0 from HHT.out.symm,← hO] at hbo2;have hOl : O.length ≤ 1001 + 30000001 * j:=by rw [hO,List.length_append];omega
      have HOE:=hide hO;have HLN:=hide hln;have HBO:=hide hbo2;have HBR:=hide hbr;clear hln hbo hbo2 hbr hO hj hse;obtain ⟨A7,c7,rfl,_⟩:=own_slice HBO.out;have hswr : W4.heap.size ≤ wr.heap.size:=HBR.out.size;have HXR:=hide (HX4.out.below HBR.out HX4.out.lt);have HPR:=hide (HP4.out.below HBR.out HP4.out.lt);have HBW:=hide (HB4.out.trans (HBR.out.mono hsw4));have hwr : w.heap.size ≤ wr.heap.size:=HBW.out.size;have k8 : wr.cell? ⟨w.heap.size,8,none⟩ = some (.slice s.Ae n s.ke):=by rw [HN.out];exact HPR.out.cell 8
      have j0 : (0 : Int) ≤ (j : Int):=by omega
      by_cases hlt : j < n
      ·have js : (j : Int) < (n : Int):=by omega
       obtain ⟨b,off,m,hAe,hbB,hm,qc⟩:=ems_at (w:=wr) (B:=w.heap.size) (Reads.below HIN.out.row HBW.out) rfl (show j < s.ms.length by rw [← HN.out];exact hlt);have HQ:=hide qc;have HMO:=hide (HM.out m (List.mem_of_getElem? hm));have HIM:=hide (((HIN.out.ent m (List.mem_of_getElem? hm)).below HBW.out).more hwr)
       have HDR : Hid (s.sc.es.drop j = m.ev :: s.sc.es.drop (j + 1)):=by
        show (s.ms.map Em.ev).drop j = m.ev :: (s.ms.map Em.ev).drop (j + 1);obtain ⟨h1,h2⟩:=List.getElem?_eq_some_iff.1 hm;rw [List.drop_eq_getElem_cons (by rw [List.length_map];exact h1),List.getElem_map,h2]
       have hpz : (printE s.c.nodes m.ev).1.length ≤ 30000000:=print_sz s.c.nodes HMO.out (HIM.out.nb_len) (RI.len HIM.out.sid);have hpe:=printE_err s.c.nodes m.ev HOK.out.nodes;obtain ⟨px,hpx⟩ : ∃ px,px = (printE s.c.nodes m.ev).1:=⟨_,rfl⟩;obtain ⟨pn,hpn⟩ : ∃ pn,pn = (printE s.c.nodes m.ev).2:=⟨_,rfl⟩
       have HPE : Hid (∀ W,EmIn W W.heap.size m → Calls Tryz.prog 16 #[.agg m.cs,.int .i64 s.c.nodes] W fun e w' => e = .returned (.tuple #[.string (S px),.int .i64 pn]) ∧ Below W.heap.size W w'):=fun W h => by
        rw [hpx,hpn];exact rprint_ev m s.c.nodes W h HMO.out
       have HPP : Hid (px = (printE s.c.nodes m.ev).1 ∧ pn = (printE s.c.nodes m.ev).2):=⟨hpx,hpn⟩;rw [← hpx] at hpz;rw [← hpn] at hpe;rw [hAe] at k8;clear hpx hpn hAe hm qc;have kn0 : wr.cell? ⟨g,0,none⟩ = some (.int .i64 s.c.nodes):=HXR.out.cell 0;go_upto_region 25 with fail
       obtain ⟨wd,hwd⟩ : ∃ wd,wd = wr.drew:=⟨_,rfl⟩;have HS0 : Hid ((fun V : World => V.cell? ⟨w.heap.size,8,none⟩ = some (.slice (some ⟨b,off,none⟩) n s.ke) ∧ V.cell? ⟨g,0,none⟩ = some (.int .i64 s.c.nodes) ∧ ∀ j' v,m.cs[j']? = some v → V.cell? ((⟨b,off + j * 13,none⟩ : Addr).add j') = some v) wd):=by show _ ∧ _;rw [hwd];exact ⟨k8,kn0,HQ.out⟩
       have hbd : Below wr.heap.size wr wd:=by rw [hwd];exact (Below.refl _ _).drew
       have HIM2 : Hid (EmIn wd wd.heap.size m):=by show EmIn _ _ _;rw [hwd];exact HIM.out.drew
       have HBOD : Hid (BO wd W4.heap.size (.slice A7 O.length c7) O):=by show BO _ _ _ _;rw [hwd];exact HBO.out
       refine wp_region_L [] (fun V : World => V.cell? ⟨w.heap.size,8,none⟩ = some (.slice (some ⟨b,off,none⟩) n s.ke) ∧ V.cell? ⟨g,0,none⟩ = some (.int .i64 s.c.nodes) ∧ ∀ j' v,m.cs[j']? = some v → V.cell? ((⟨b,off + j * 13,none⟩ : Addr).add j') = some v) (by kernel_rfl) ?_;rw [← hwd];clear hwd;refine tk 0 94 (v:=?_) rfl HS0.out ?_ ?_
       rotate_left;· intro V hV;go_simp;try with_reducible rfl
       try simp only [Act.put,aSt,aSz,aSs]
       refine tk 1 95 (v:=?_) rfl HS0.out ?_ ?_
       rotate_left
       ·intro V hV
        have a1:=hV.1;go_simp;try with_reducible rfl
       try simp only [Act.put,aSt,aSz,aSs]
       refine tk 2 96 (v:=?_) rfl HS0.out ?_ ?_
       rotate_left;· intro V hV;go_simp;try with_reducible rfl
       try simp only [Act.put,aSt,aSz,aSs]
       refine tk 3 97 (v:=?_) rfl HS0.out ?_ ?_
       rotate_left;· intro V hV;go_simp;try with_reducible rfl
       try simp only [Act.put,aSt,aSz,aSs]
       refine tk 4 98 (v:=.agg m.cs) rfl HS0.out ?_ ?_
       ·intro V hV;exact ex_load 33 (.tmp 97) rfl _ rfl m.cs _ Tryz.underlying33 rfl (ld29 _ (em_size _)) hV.2.2
       try simp only [Act.put,aSt,aSz,aSs]
       refine tk 5 99 (v:=?_) rfl HS0.out ?_ ?_
       rotate_left;· intro V hV;go_simp;try with_reducible rfl
       try simp only [Act.put,aSt,aSz,aSs]
       refine tk 6 100 (v:=?_) rfl HS0.out ?_ ?_
       rotate_left
       ·intro V hV
        have a2:=hV.2.1;go_simp;try with_reducible rfl
       try simp only [Act.put,aSt,aSz,aSs]
       refine wpL_one 7 (by kernel_rfl) rfl (fun K hK => ?_);rw [if_pos (by rfl)];go_simp;go_at_call 16;refine (HPE.out wd HIM2.out).mono ?_;rintro e w6 ⟨rfl,hb6⟩;have hb6w : Below wr.heap.size wr w6:=hbd.trans (hb6.mono hbd.size);have HBO6 : Hid (BO w6 W4.heap.size (.slice A7 O.length c7) O):=own_step HBOD.out hb6;have HBR6:=hide (HBR.out.trans (hb6w.mono hswr));have HBW6:=hide (HBW.out.trans (hb6w.mono hwr));have hsw6 : W4.heap.size ≤ w6.heap.size:=HBR6.out.size;have HS6 : Hid ((fun V : World => V.cell? ⟨w.heap.size,8,none⟩ = some (.slice (some ⟨b,off,none⟩) n s.ke) ∧ V.cell? ⟨g,0,none⟩ = some (.int .i64 s.c.nodes) ∧ ∀ j' v,m.cs[j']? = some v → V.cell? ((⟨b,off + j * 13,none⟩ : Addr).add j') = some v) w6):=⟨(hb6w.cell (p:=⟨w.heap.size,8,none⟩) HPR.out.lt).trans k8,(hb6w.cell (p:=⟨g,0,none⟩) HXR.out.lt).trans kn0,fun j' v hv => (hb6w.cell (by rw [block_of_add];show b < _;omega)).trans (HQ.out j' v hv)⟩;refine hK _ _ (fun _ => HS6.out) ?_;clear hK K hb6 hb6w;try simp only [Act.put,aSt,aSz,aSs]
       refine tk 8 93 (v:=?_) rfl HS6.out ?_ ?_
       rotate_left;· intro V hV;go_simp;try with_reducible rfl
       try simp only [Act.put,aSt,aSz,aSs]
       refine tk 9 102 (v:=?_) rfl HS6.out ?_ ?_
       rotate_left;· intro V hV;go_simp;try with_reducible rfl
       try simp only [Act.put,aSt,aSz,aSs]
       refine tk 10 103 (v:=?_) rfl HS6.out ?_ ?_
       rotate_left;· intro V hV;go_simp;try with_reducible rfl
       try simp only [Act.put,aSt,aSz,aSs]
       refine tk 11 11 (v:=?_) rfl HS6.out ?_ ?_
       rotate_left;· intro V hV;go_simp;try with_reducible rfl
       try simp only [Act.put,aSt,aSz,aSs]
       refine tk 12 12 (v:=?_) rfl HS6.out ?_ ?_
       rotate_left;· intro V hV;go_simp;try with_reducible rfl
       try simp only [Act.put,aSt,aSz,aSs]
       refine wpL_done (by kernel_rfl) ?_ _;clear k8 kn0
       rcases hpe with hz | hz
       ·subst hz
        have HSN : Hid (linesT s.c.nodes s.sc.es = (linesT s.c.nodes (s.sc.es.drop (j + 1))).map ((t ++ (px ++ [10])) ++ ·)):=by
         show _ = _;have h1:=HLN.out;rw [HDR.out] at h1;rw [HPP.out.1];exact h1.trans (linesT_step HPP.out.2.symm)
        go_upto_region 28 with fail
        refine wp_region_lit ?_;refine wpList_value rfl (.slice A7 O.length c7) (by go_simp) ?_;try simp only [Act.put,aSt,aSz,aSs]
        refine wpList_value rfl (.string (S px)) (by go_simp) ?_;try simp only [Act.put,aSt,aSz,aSs]
        refine wpList_value rfl (.string (S (cc px [10]))) (ex_cat (.tmp 107) (.const (.string ⟨#[10]⟩)) 9 9 rfl rfl rfl (by simp only [List.length_singleton];omega)) ?_;try simp only [Act.put,aSt,aSz,aSs]
        have hcl : (cc px [10]).length = px.length + 1:=by rw [cc_len];rfl
        refine Lib.wpList_append_own_string _ rfl (.tmp 106) (.tmp 108) 29 9 rfl W4.heap.size 5 i5 Tryz.underlying29 Tryz.underlying9 I5.out hz5 hs5 hb5 (.slice A7 O.length c7) O.length (Lib.byteCells O) rfl HBO6.out (S (cc px [10])) rfl (by rw [S_size];unfold maxLen;omega) (by rw [S_size];omega) hsw6 ?_;intro v7 w7 hown7 hgr7 _
        have HL9 : Hid (EvJ2 s.sc W4 v7 (.int .i64 ((j : Int) + 1)) w7):=by
         refine ⟨j + 1,t ++ (px ++ [10]),?_,by go_num,HSN.out,?_,?_,HBR6.out.grown hgr7 hsw6 (fun k hk => (HBO6.out.lt k hk).1)⟩
         ·have h1:=HSE.out
          omega
         ·rw [List.length_append,List.length_append,List.length_singleton]
          omega
         ·have h1:=BO.app hown7
          rw [HOE.out,HHT.out,List.append_assoc] at h1;exact h1
        clear hown7 hgr7;try simp only [Act.put,aSt,aSz,aSs]
        go_wp2_with fail;go_roundw
        case rel => first | exact HL9.out | exact ⟨_,HL9.out,rfl⟩ | exact ⟨_,_,HL9.out,rfl,rfl⟩
        case measure => simp [intOf];omega
       ·have HR : Hid (printS s.sc = ([],24)):=by
         show _ = _;have h1:=HLN.out;rw [HDR.out,linesT_no (by rw [show (printE s.sc.c.nodes m.ev).2 = pn from HPP.out.2.symm,hz];decide)] at h1;have h2 : linesT s.c.nodes s.sc.es = none:=h1;rw [HTX.out,h2]
        subst hz;go_wp2_with fail;refine bodyPost_ret (results_tmp2 rfl _ _ _) rfl ?_;exact prt_out HR.out HBW6.out
      ·have js : ¬ (j : Int) < (n : Int):=by omega
       have HLF : Hid (linesT s.c.nodes s.sc.es = some t):=by
        show _ = _;have h1:=HLN.out;have h2:=HSE.out;rw [List.drop_eq_nil_of_le (show s.sc.es.length ≤ j by omega)] at h1;exact h1.trans (by simp [linesT])
       by_cases h4 : 400000 < O.length
       ·have HR : Hid (printS s.sc = ([],20)):=by
         show _ = _;rw [HTX.out,HLF.out];have h1 : (headTx s.c ++ t) = O:=by rw [HOE.out,HHT.out]
         simp only [h1,if_pos h4]
        have e4 : (400000 : Int) < (O.length : Int):=by omega
        clear h4;go_wp2_with fail;refine bodyPost_ret (results_tmp2 rfl _ _ _) rfl ?_;exact prt_out HR.out HBW.out
       ·have HR : Hid (printS s.sc = (O,0)):=by
         show _ = _;rw [HTX.out,HLF.out];have h1 : (headTx s.c ++ t) = O:=by rw [HOE.out,HHT.out]
         simp only [h1,if_neg h4]
        have e4 : ¬ (400000 : Int) < (O.length : Int):=by omega
        have hcv:=conv_reads (c:=c7) (Reads.of_own HBO.out);clear h4;go_wp2_with fail;refine bodyPost_ret (results_tmp2 rfl _ _ _) rfl ?_;exact prt_out HR.out HBW.out
end Go.Proofs.YtcibcmfaebbhnaaGreatDoor
