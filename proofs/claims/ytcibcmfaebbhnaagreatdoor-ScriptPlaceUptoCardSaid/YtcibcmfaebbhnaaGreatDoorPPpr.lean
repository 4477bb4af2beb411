/-
  The program's Print. (Printed by wip/tools/mkppr.py.)
-/
import Derived.Lib.SlBytesConst
import Derived.Test.YtcibcmfaebbhnaaGreatDoorPRpr
import Derived.Test.YtcibcmfaebbhnaaGreatDoorPApi
import Derived.Test.YtcibcmfaebbhnaaGreatDoorPWords
set_option linter.unusedSimpArgs false
set_option linter.unusedVariables false
set_option maxRecDepth 100000
set_option maxHeartbeats 2000000

namespace Go.Proofs.YtcibcmfaebbhnaaGreatDoor
open Go.RowKit Go.WideShapes Go.ChangeShapes Q
def namP (q : Nat) : List UInt8:=(if q = 0 then [] else [32]) ++ (cfNames.getD q [] ++ [32])
def namV : Array Value:=#[.string (S (namP 0)),.string (S (namP 1)),.string (S (namP 2)),.string (S (namP 3)),.string (S (namP 4)),.string (S (namP 5)),.string (S (namP 6))]
theorem namV_at (q : Nat) (h : q < 7) : namV[q]? = some (.string (S (namP q))):=by
 match q,h with
 | 0,_ => rfl
 | 1,_ => rfl
 | 2,_ => rfl
 | 3,_ => rfl
 | 4,_ => rfl
 | 5,_ => rfl
 | 6,_ => rfl
def n7 (c : Cfg) : Array Value:=#[.int .i64 c.nodes,.int .i64 c.window,.int .i64 c.base,.int .i64 c.step,.int .i64 c.cap,.int .i64 c.room,.int .i64 c.floor]
theorem n7_at (c : Cfg) (q : Nat) (h : q < 7) : (n7 c)[q]? = some (.int .i64 (nth (cvals c) q)):=by
 match q,h with
 | 0,_ => rfl
 | 1,_ => rfl
 | 2,_ => rfl
 | 3,_ => rfl
 | 4,_ => rfl
 | 5,_ => rfl
 | 6,_ => rfl
theorem pairT_eq (c : Cfg) (q : Nat) : pairT c q = namP q ++ Lib.decDigits (nth (cvals c) q).toNat:=by
 unfold pairT namP;simp
def NmJ3 (c : Cfg) (W : World) (gb : Nat) (v i : Value) (wr : World) : Prop:=∃ (q : Nat) (out : List UInt8) (A : Option Addr) (k : Nat),q ≤ 7 ∧ v = .slice A out.length k ∧ i = .int .i64 (q : Int) ∧ out = quo1 ++ (List.range q).flatMap (pairT c) ∧ out.length ≤ 10 + 40 * q ∧ ((q = 0 ∧ Value.slice A out.length k = .slice (some ⟨gb,0,none⟩) out.length out.length) ∨ (0 < q ∧ BO wr W.heap.size (.slice A out.length k) out)) ∧ Below W.heap.size W wr
theorem wpList_convc {ops : Array Oper} {rest : List Oper} {o : Oper} {a : Act} {w : World} {Q : Exit → Act → World → Prop} (hgd : o.guard = none) (x : Operand) (ho : o.op = .convert 29 29 x) (C : Array Value) (n c : Nat) (hx : a.eval x = .slice (some ⟨w.heap.size,0,none⟩) n c)
  (h : wpList Tryz.prog ops Q rest (a.put o.dst (.slice (some ⟨w.heap.size,0,none⟩) n c)) (w.alloc (.cells C 5 (C.size,C.size + 1)))) : wpList Tryz.prog ops Q (o :: rest) a (w.alloc (.cells C 5)):=by
 refine wpList_plain hgd fun K hK => ?_
 unfold Oper.wp execOp;simp only [ho,hx,Lib.run_convert_bytes_const w 29 5 C n c Tryz.underlying29 Tryz.underlying5,Sem.run_bind,Sem.run_pure,Result.andThen_ok];exact hK _ _ h
theorem namP_len (q : Nat) (h : q < 7) : (namP q).length ≤ 8 ∧ namP q ≠ []:=by
 match q,h with
 | 0,_ => decide
 | 1,_ => decide
 | 2,_ => decide
 | 3,_ => decide
 | 4,_ => decide
 | 5,_ => decide
 | 6,_ => decide
def BX (w : World) (b gb : Nat) (v : Value) (out : List UInt8) : Prop :=
 (v = .slice (some ⟨gb,0,none⟩) out.length out.length ∧ ∀ j x,(Lib.byteCells out)[j]? = some x → w.cell? ((⟨gb,0,none⟩ : Addr).add j) = some x) ∨ BO w b v out
theorem BX.step {w w' : World} {b gb : Nat} {v : Value} {out : List UInt8} (h : BX w b gb v out) (hg : gb < w.heap.size) (hb : Below w.heap.size w w') : BX w' b gb v out:=by
 rcases h with ⟨h1,h2⟩ | h
 ·exact .inl ⟨h1,fun j x hj => (hb.cell (by rw [block_of_add];exact hg)).trans (h2 j x hj)⟩
 ·exact .inr (own_step h hb)
theorem wpList_bx {ops : Array Oper} {rest : List Oper} {o : Oper} {a : Act} {w : World} {Q : Exit → Act → World → Prop} (hgd : o.guard = none) (sl x : Operand)
  (ho : o.op = .call { callee:=.builtin .append,args:=#[sl,x],argTypes:=#[29,9] }) {b gb : Nat} {v : Value} {out t : List UInt8} (hs : a.eval sl = v) (hbx : BX w b gb v out) (ht : t ≠ []) (hx : a.eval x = .string (S t))
  (hl : out.length + t.length ≤ 140737488355328) (hb : b ≤ w.heap.size)
  (h : ∀ v' w',BO w' b v' (out ++ t) → Below b w w' → wpList Tryz.prog ops Q rest (a.put o.dst v') w') : wpList Tryz.prog ops Q (o :: rest) a w:=by
 obtain ⟨i5,hi5,hz5,hs5,hb5⟩:=info_parts info5;have hl63 : out.length + t.length ≤ maxLen:=by unfold maxLen;omega
 rcases hbx with ⟨rfl,hc⟩ | hbo
 ·refine wpList_plain hgd fun K hK => ?_
  have htl : 0 < t.length:=List.length_pos_iff.2 ht;have hr:=Lib.run_append_grow_string (P:=Tryz.prog) w 29 9 o.type 5 i5 (.int .u8 0) Tryz.underlying29 Tryz.underlying9 hi5 hz5 ⟨gb,0,none⟩ out.length out.length (Lib.byteCells out) (by rw [hs5,Lib.byteCells_length,Nat.mul_one]) hc (S t) (by rw [S_size];omega) (by rw [S_size];omega) (by rw [hb5,S_size];exact growslice_fits (by omega) (by omega));unfold Oper.wp execOp;simp only [ho,resolve,invoke,builtin,Sem.run_bind,Sem.run_pure,Result.andThen_ok,List.map_toArray,List.map_cons,List.map_nil,hs,hx,hr];refine hK _ _ (h _ _ ?_ ?_)
  ·refine BO.app ?_
   have hge:=grownCap_ge w (out.length + (S t).size) out.length 5;have hcm : grownCap w (out.length + (S t).size) out.length 5 ≤ maxLen:=grownCap_le_maxLen w (out.length + (S t).size) out.length 5 (by rw [S_size];exact hl63);have hlen : (Lib.byteCells out ++ Lib.strCells (S t)).length = (out.length + (S t).size) * 1:=by rw [List.length_append,Lib.byteCells_length,Lib.strCells_length,Nat.mul_one]
   refine ⟨hlen,.inr ⟨w.heap.size,_,_,rfl,hb,heap_alloc_new w.drew _,hge,hcm,?_,?_⟩⟩
   ·have hz1 : (Value.int IntKind.u8 0).cells.size = 1:=rfl
    simp only [Array.size_append,List.size_toArray,size_zeroCells,hz1,Lib.byteCells_length,Lib.strCells_length];omega
   ·simp only [Array.toList_append,List.append_assoc]
    rw [← List.append_assoc,← hlen];exact List.take_left
  ·exact (Below.refl _ _).drew.alloc hb _
 ·refine Lib.wpList_append_own_string _ hgd sl x 29 9 ho b 5 i5 Tryz.underlying29 Tryz.underlying9 hi5 hz5 hs5 hb5 v out.length (Lib.byteCells out) hs hbo (S t) hx (by rw [S_size];exact hl63) (by rw [S_size];exact hl) hb ?_
  intro v' w' hown hgr _;exact h v' w' (BO.app hown) ((Below.refl _ _).grown hgr hb (fun k hk => (hbo.lt k hk).1))
theorem pprint_script (s : Sm) (w : World) (h : SmIn w w.heap.size s) (hv : s.c.votes.length ≤ 10000000) (hn : s.ms.length ≤ 10000000) (hm : ∀ m ∈ s.ms,EvOk m) (hT : OpT w) (hTb : Tab w) :
  Calls Tryz.prog 11 #[.agg s.cs] w fun e w' => PrtP s.sc w e w':=by
 have HIN:=hide h;have HOT:=hide hT;have HTB:=hide hTb;have h0w : 1 < w.heap.size:=hT.lt;have HM:=hide hm;obtain ⟨i5,hi5,hz5,hs5,hb5⟩:=info_parts info5;have I5:=hide hi5;clear hi5 h hm hT hTb;obtain ⟨C0,hC0⟩ : ∃ C0,C0 = s.cs:=⟨_,rfl⟩;rw [← hC0];have HC0:=hide hC0;clear hC0;obtain ⟨n,hnn⟩ : ∃ n,n = s.ms.length:=⟨_,rfl⟩;have HN:=hide hnn;rw [← hnn] at hn;clear hnn;go_enter Tryz.func11,Tryz.ntmps11;go_upto_region 1 with fail
 generalize hW0 : World.alloc w _ = W0
 have HP0 : Hid (Blk W0 w.heap.size 27 s.cs):=by
  show Blk _ _ _ _;rw [← hW0,HC0.out];exact Blk.new _ _ _
 have hb0 : Below w.heap.size w W0:=by rw [← hW0];exact (Below.refl _ _).alloc (Nat.le_refl _) _
 have HB0:=hide hb0;clear hW0 hb0;refine wp_region_lit ?_;refine wpList_value rfl (.pointer (some ⟨w.heap.size,0,none⟩)) (by go_simp) ?_;try simp only [Act.put,aSt,aSz,aSs]
 refine wpList_value rfl (.agg (cfC s.c s.A s.k)) (ex_load 24 (.tmp 16) rfl _ rfl _ _ Tryz.underlying24 rfl (ld44 _ rfl) (sm_pre HP0.out)) ?_;try simp only [Act.put,aSt,aSz,aSs]
 refine wpList_step (fun K hK => ?_);rw [if_pos (by rfl)];go_simp;refine hK _ _ ?_;clear hK K;refine wpList_store_fresh rfl 24 (.tmp 4) (.tmp 17) rfl _ (cfC s.c s.A s.k) rfl rfl (ld44 _ rfl) rfl (cf_all _ _ _) ?_;try simp only [Act.put,aSt,aSz,aSs]
 obtain ⟨W1,hW1⟩ : ∃ W1,W1 = World.alloc W0 (.cells (cfC s.c s.A s.k) 24):=⟨_,rfl⟩;obtain ⟨g,hg⟩ : ∃ g,g = W0.heap.size:=⟨_,rfl⟩;have hal : Below W0.heap.size W0 W1:=by rw [hW1];exact (Below.refl _ _).alloc (Nat.le_refl _) _
 have HX1 : Hid (Blk W1 g 24 (cfC s.c s.A s.k)):=by show Blk _ _ _ _;rw [hW1,hg];exact Blk.new _ _ _
 have HP1:=hide (HP0.out.below hal HP0.out.lt);have HB1:=hide (HB0.out.trans (hal.mono HB0.out.size));rw [← hW1];try rw [← hg]
 clear hW1 hg hal HP0 HB0;have hsw1 : w.heap.size ≤ W1.heap.size:=HB1.out.size
 have HCK : Hid (Calls Tryz.prog 10 #[.agg (cfC s.c s.A s.k)] W1 fun e w' => e = .returned (.int .i64 s.c.err) ∧ Below W1.heap.size W1 w'):=by
  refine (check_any s.c.nodes s.c.window s.c.base s.c.step s.c.cap s.c.room s.c.floor s.c.votes s.A s.c.votes.length s.k W1 ((Reads.below HIN.out.vot HB1.out).more hsw1) (by omega)).mono ?_;rintro e w' ⟨h1,rfl⟩;exact ⟨h1,(Below.refl _ _).alloc (Nat.le_refl _) _⟩
 obtain ⟨er,her⟩ : ∃ er,er = s.c.err:=⟨_,rfl⟩;rw [← her] at HCK
 have h022 : (er = 0 ∧ s.c.Ok) ∨ er = 22:=by
  rw [her]
  by_cases ho : s.c.Ok
  ·exact .inl ⟨Cfg.err_ok ho,ho⟩
  ·exact .inr (Cfg.err_bad ho)
 have HER:=hide her;clear her;go_upto_region 2 with fail
 refine wp_region_lit ?_;refine wpList_value rfl (.agg (cfC s.c s.A s.k)) (ex_load 24 (.tmp 4) rfl _ rfl _ _ Tryz.underlying24 rfl (ld44 _ rfl) (box_all HX1.out)) ?_;try simp only [Act.put,aSt,aSz,aSs]
 refine wpList_step (fun K hK => ?_);rw [if_pos (by rfl)];go_simp;go_at_call 10;refine HCK.out.mono ?_;rintro e w2 ⟨rfl,hb2⟩;have HX2:=hide (HX1.out.below hb2 HX1.out.lt);have HP2:=hide (HP1.out.below hb2 HP1.out.lt);have HB2:=hide (HB1.out.trans (hb2.mono hsw1));refine hK _ _ ?_;clear hK K hb2 HX1 HP1 HB1 HCK hsw1;try simp only [Act.put,aSt,aSz,aSs]
 have hsw2 : w.heap.size ≤ w2.heap.size:=HB2.out.size
 rcases h022 with ⟨he,hok⟩ | he
 rotate_left
 ·have HR : Hid (printS s.sc = ([],22)):=by
   show _ = _;unfold printS;have h1 : s.sc.c.err = 22:=HER.out.symm.trans he;rw [if_neg (by rw [h1];decide),h1]
  subst he;go_wp2_with fail;refine bodyPost_ret (results_tmp2 rfl _ _ _) rfl ?_;exact prt_out HR.out HB2.out
 subst he;have HOK:=hide hok;clear hok;have k8 : w2.cell? ⟨w.heap.size,8,none⟩ = some (.slice s.Ae n s.ke):=by rw [HN.out];exact HP2.out.cell 8
 by_cases hmany : 4000 < n
 ·have HR : Hid (printS s.sc = ([],25)):=by
   show _ = _;unfold printS;have h1 : s.sc.c.err = 0:=HER.out.symm;have h2 : s.sc.es.length = n:=by show (s.ms.map Em.ev).length = n;rw [List.length_map,HN.out]
   rw [if_pos h1,if_pos (by rw [h2];exact hmany)]
  have e1 : (4000 : Int) < (n : Int):=by omega
  go_wp2_with fail;refine bodyPost_ret (results_tmp2 rfl _ _ _) rfl ?_;exact prt_out HR.out HB2.out
 have e1 : ¬ (4000 : Int) < (n : Int):=by omega
 have HTX : Hid (printS s.sc = match linesT s.c.nodes s.sc.es with
  | none => ([],24)
  | some t => if 400000 < (headTx s.c ++ t).length then ([],20) else (headTx s.c ++ t,0)):=by
  show _ = _;have h1 : s.sc.c.err = 0:=HER.out.symm;have h2 : s.sc.es.length = n:=by show (s.ms.map Em.ev).length = n;rw [List.length_map,HN.out]
  unfold printS;rw [if_pos h1,if_neg (by rw [h2];exact hmany)]
  rfl
 go_upto_region 7 with fail
 refine wp_region_lit ?_;refine wpList_step (fun K hK => ?_);rw [if_pos (by rfl)];go_simp;refine hK _ _ ?_;clear hK K;try simp only [Act.put,aSt,aSz,aSs]
 refine wpList_convc rfl (.tmp 27) rfl _ 10 10 rfl ?_;try simp only [Act.put,aSt,aSz,aSs]
 generalize hW3 : World.alloc w2 _ = W3;obtain ⟨gb,hgb⟩ : ∃ gb,gb = w2.heap.size:=⟨_,rfl⟩;rw [← hgb]
 have HC10 : Hid (∀ j v,(Lib.byteCells quo1)[j]? = some v → W3.cell? ((⟨gb,0,none⟩ : Addr).add j) = some v):=by
  intro j v hv
  have e : (⟨gb,0,none⟩ : Addr).add j = ⟨gb,j,none⟩:=by
   unfold Addr.add
   split
   ·rename_i h0;subst h0;rfl
   ·simp
  rw [e,← hW3,hgb,cell_of_any (heap_alloc_new w2 _)];show (Lib.byteCells quo1).toArray[j]? = some v;rw [List.getElem?_toArray];exact hv
 have hgb3 : gb < W3.heap.size:=by rw [hgb,← hW3];simp
 have hal : Below w2.heap.size w2 W3:=by rw [← hW3];exact (Below.refl _ _).alloc (Nat.le_refl _) _
 have HX3:=hide (HX2.out.below hal HX2.out.lt);have HP3:=hide (HP2.out.below hal HP2.out.lt);have HB3:=hide (HB2.out.trans (hal.mono hsw2));have k0 : W3.cell? ⟨g,0,none⟩ = some (.int .i64 s.c.nodes):=HX3.out.cell 0;have k1 : W3.cell? ⟨g,1,none⟩ = some (.int .i64 s.c.window):=HX3.out.cell 1;have k2 : W3.cell? ⟨g,2,none⟩ = some (.int .i64 s.c.base):=HX3.out.cell 2;have k3 : W3.cell? ⟨g,3,none⟩ = some (.int .i64 s.c.step):=HX3.out.cell 3;have k4 : W3.cell? ⟨g,4,none⟩ = some (.int .i64 s.c.cap):=HX3.out.cell 4;have k5 : W3.cell? ⟨g,5,none⟩ = some (.int .i64 s.c.room):=HX3.out.cell 5;have k6 : W3.cell? ⟨g,6,none⟩ = some (.int .i64 s.c.floor):=HX3.out.cell 6;clear hW3 hal k8 hgb;go_upto_region 9 with fail
 clear k0 k1 k2 k3 k4 k5 k6;generalize hW4 : World.alloc W3 _ = W4;obtain ⟨gn,hgn⟩ : ∃ gn,gn = W3.heap.size:=⟨_,rfl⟩;rw [← hgn];have hal : Below W3.heap.size W3 W4:=by rw [← hW4];exact (Below.refl _ _).alloc (Nat.le_refl _) _
 have HN7 : Hid (Blk W4 gn 3 (n7 s.c)):=by show Blk _ _ _ _;rw [← hW4,hgn];exact Blk.new _ _ _
 have HX4:=hide (HX3.out.below hal HX3.out.lt);have HP4:=hide (HP3.out.below hal HP3.out.lt);have HB4:=hide (HB3.out.trans (hal.mono HB3.out.size));have HC4 : Hid (∀ j v,(Lib.byteCells quo1)[j]? = some v → W4.cell? ((⟨gb,0,none⟩ : Addr).add j) = some v):=fun j v hv => (hal.cell (by rw [block_of_add];exact hgb3)).trans (HC10.out j v hv)
 have hgb4 : gb < W4.heap.size:=Nat.lt_of_lt_of_le hgb3 hal.size;clear hW4 hgn hal HX3 HP3 HB3 HC10 hgb3;have hsw4 : w.heap.size ≤ W4.heap.size:=HB4.out.size;have HTB4 : Hid (Lib.TabBelow Tryz.prog W4.heap.size W4 "internal/strconv.uint64pow10" .u64 Lib.pow10Tab) := Lib.tabBelow_of_tabIs (HTB.out.below HB4.out);have HL4 : Hid (NmJ3 s.c W4 gb (.slice (some ⟨gb,0,none⟩) 10 10) (.int .i64 0) W4):=⟨0,quo1,some ⟨gb,0,none⟩,10,Nat.zero_le _,rfl,rfl,by simp,by decide,.inl ⟨rfl,rfl⟩,Below.refl _ _⟩;go_loopw [6,45] (fun v i wr => NmJ3 s.c W4 gb v i wr) (fun _ i _ => 7 - (intOf i).toNat)
 case atStart => exact HL4.out
 case round =>
  clear HL4;unfold NmJ3 at hrel;obtain ⟨q,out,A7,c7,hq,rfl,rfl,hout,hol,hbo,hbr⟩:=hrel;have HOUT:=hide hout;have HBO:=hide hbo;have HBR:=hide hbr;clear hout hbo hbr;have hswr : W4.heap.size ≤ wr.heap.size:=HBR.out.size;have q0 : (0 : Int) ≤ (q : Int):=by omega
  have HGN:=hide (HN7.out.below HBR.out HN7.out.lt);have HBW:=hide (HB4.out.trans (HBR.out.mono hsw4))
  by_cases hlt : q < 7
  ·have js : (q : Int) < 7:=by omega
   obtain ⟨x,hx⟩ : ∃ x : Nat,x = (nth (cvals s.c) q).toNat:=⟨_,rfl⟩;have hcv:=cvals_ok HOK.out q hlt;have hxv : nth (cvals s.c) q = (x : Int):=by omega
   have hxb : x ≤ 4611686018427387904:=by omega
   have kn : wr.cell? ⟨gn,q,none⟩ = some (.int .i64 (x : Int)):=by rw [HGN.out.cell,← hxv];exact n7_at s.c q hlt
   have HPT : Hid (pairT s.c q = namP q ++ Lib.decDigits x):=by show _ = _;rw [pairT_eq,hx]
   have HNV : Hid (namV[q]? = some (.string (S (namP q)))):=namV_at q hlt;have hnl:=namP_len q hlt;obtain ⟨np,hnp⟩ : ∃ np,np = namP q:=⟨_,rfl⟩;rw [← hnp] at HPT HNV hnl;have hdl:=dec_len19' hxb
   have HBX : Hid (BX wr W4.heap.size gb (.slice A7 out.length c7) out):=by
    rcases HBO.out with ⟨h0,hv⟩ | ⟨_,hb⟩
    ·have e : out = quo1:=by rw [HOUT.out,h0];rfl
     refine .inl ⟨by rw [hv],fun j y hj => ?_⟩;rw [e] at hj;exact (HBR.out.cell (by rw [block_of_add];exact hgb4)).trans (HC4.out j y hj)
    ·exact .inr hb
   obtain ⟨D,hD⟩ : ∃ D,D = Lib.decDigits x:=⟨_,rfl⟩;rw [← hD] at HPT hdl;have HDG:=hide hD;have HX:=hide hx;have HNP:=hide hnp;clear hnp hx hcv hxv hD;obtain ⟨wx,hwx⟩ : ∃ wx,wx = wr:=⟨_,rfl⟩;clear hwx;go_upto_region 12 with fail
   generalize hWm : World.alloc wr _ = wm;obtain ⟨gm,hgm⟩ : ∃ gm,gm = wr.heap.size:=⟨_,rfl⟩;rw [← hgm];have hal : Below wr.heap.size wr wm:=by rw [← hWm];exact (Below.refl _ _).alloc (Nat.le_refl _) _
   have kq : wm.cell? ⟨gm,q,none⟩ = some (.string (S np)):=by
    rw [← hWm,hgm,cell_of_any (heap_alloc_new wr _)];exact HNV.out
   have hgw : gb < wr.heap.size:=by omega
   have HBXm : Hid (BX wm W4.heap.size gb (.slice A7 out.length c7) out):=HBX.out.step hgw hal;have HBRm:=hide (HBR.out.trans (hal.mono hswr));have hswm : W4.heap.size ≤ wm.heap.size:=HBRm.out.size;clear hWm hal kn hgm;refine wp_region_lit ?_;refine wpList_value rfl (.slice A7 out.length c7) (by go_simp) ?_;try simp only [Act.put,aSt,aSz,aSs]
   refine wpList_value rfl (.int .i64 (q : Int)) (by go_simp) ?_;try simp only [Act.put,aSt,aSz,aSs]
   refine wpList_value rfl (.pointer (some ⟨gm,q,none⟩)) (by go_simp) ?_;try simp only [Act.put,aSt,aSz,aSs]
   refine wpList_value rfl (.string (S np)) (by go_simp) ?_;try simp only [Act.put,aSt,aSz,aSs]
   refine wpList_bx rfl (.tmp 51) (.tmp 54) rfl rfl HBXm.out hnl.2 rfl (by omega) hswm ?_;intro v5 w5 hbo5 hb5;have HBO5:=hide hbo5;have HBR5:=hide (HBRm.out.trans hb5);have hsw5 : W4.heap.size ≤ w5.heap.size:=HBR5.out.size;clear hbo5 hb5 HBXm kq;try simp only [Act.put,aSt,aSz,aSs]
   refine wpList_value rfl (.int .i64 (x : Int)) (by go_simp) ?_;try simp only [Act.put,aSt,aSz,aSs]
   refine wpList_step (fun K hK => ?_);rw [if_pos (by rfl)];go_simp;go_at_call 32;refine (appint_any W4.heap.size (out ++ np).length (x : Int) (by omega) (by omega) v5 (Lib.byteCells (out ++ np)) w5 HBO5.out hsw5 (by rw [List.length_append];omega) (HTB4.out.on HBR5.out)).mono ?_;rintro e w6 ⟨v6,rfl,hown6,hb6,_⟩
   have h1 : BO w6 W4.heap.size v6 ((out ++ np) ++ D):=by
    rw [itoa_nat,← HDG.out] at hown6;show World.ownsRow _ _ _ _ _ _ _;rw [show ((out ++ np) ++ D).length = (out ++ np).length + D.length from List.length_append,Lib.byteCells_append];exact hown6
   clear hown6;obtain ⟨A9,c9,rfl,_⟩:=own_slice h1
   have HL6 : Hid (NmJ3 s.c W4 gb (.slice A9 ((out ++ np) ++ D).length c9) (.int .i64 ((q : Int) + 1)) w6):=by
    refine ⟨q + 1,(out ++ np) ++ D,A9,c9,by omega,rfl,by go_num,?_,by rw [List.length_append,List.length_append];omega,.inr ⟨by omega,h1⟩,HBR5.out.trans hb6⟩;rw [List.range_succ,List.flatMap_append,HOUT.out];simp only [List.flatMap_cons,List.flatMap_nil,List.append_nil];rw [HPT.out];simp
   refine hK _ _ ?_;clear hK K h1 hb6;try simp only [Act.put,aSt,aSz,aSs]
   go_wp2_with fail;go_roundw
   case rel => first | exact HL6.out | exact ⟨_,HL6.out,rfl⟩ | exact ⟨_,_,HL6.out,rfl,rfl⟩
   case measure => simp [intOf];omega
  ·have js : ¬ (q : Int) < 7:=by omega
   have hq7 : q = 7:=by omega
   have HO7 : Hid (out = quo1 ++ (List.range 7).flatMap (pairT s.c)):=by show _ = _;rw [HOUT.out,hq7]
   have HBOq : Hid (BO wr W4.heap.size (.slice A7 out.length c7) out):=by
    rcases HBO.out with ⟨h0,_⟩ | ⟨_,hb⟩
    ·omega
    ·exact hb
   clear hq7 hlt HOUT HBO;go_upto_region 14 with fail
   clear js;refine wp_region_lit ?_;refine wpList_value rfl (.slice A7 out.length c7) (by go_simp) ?_;try simp only [Act.put,aSt,aSz,aSs]
   refine Lib.wpList_append_own_string _ rfl (.tmp 59) (.const (.string ⟨#[10,118,111,116,101,115]⟩)) 29 9 rfl W4.heap.size 5 i5 Tryz.underlying29 Tryz.underlying9 I5.out hz5 hs5 hb5 (.slice A7 out.length c7) out.length (Lib.byteCells out) rfl HBOq.out (S vots) rfl (by rw [S_size];show _ + 6 ≤ _;unfold maxLen;omega) (by rw [S_size];show _ + 6 ≤ _;omega) hswr ?_;intro v6 w6 hown6 hgr6 _;have hb6 : Below W4.heap.size W4 w6:=HBR.out.grown hgr6 hswr (fun k hk => (HBOq.out.lt k hk).1);have HL6 : Hid (VoJ2 s.c W4 v6 (.int .i64 0) w6):=⟨0,out ++ vots,Nat.zero_le _,rfl,by rw [HO7.out];simp [votT],by rw [List.length_append];show _ + 6 ≤ _;omega,BO.app hown6,hb6⟩;have HX6:=hide (HX4.out.below hb6 HX4.out.lt);clear hown6 hgr6 HBOq HBR HO7 hb6 HGN HBW;try simp only [Act.put,aSt,aSz,aSs]
   obtain ⟨vn,hvn⟩ : ∃ vn,vn = s.c.votes.length:=⟨_,rfl⟩;have HVN:=hide hvn;have hvb : vn ≤ 16:=by have h1:=HOK.out.len;have h2:=HOK.out.nodes;omega
   obtain ⟨As,hAs⟩ : ∃ As,As = s.A:=⟨_,rfl⟩;have HAS:=hide hAs;have k7 : w6.cell? ⟨g,7,none⟩ = some (.slice As vn s.k):=by rw [hvn,hAs];exact HX6.out.cell 7
   clear hvn hAs;obtain ⟨wx,hwx⟩ : ∃ wx,wx = wr:=⟨_,rfl⟩;clear hwx;go_upto_region 16 with fail
   clear k7;go_loopw [6,64] (fun v i wr => VoJ2 s.c W4 v i wr) (fun _ i _ => vn - (intOf i).toNat)
   case atStart => exact HL6.out
   case round =>
    clear HL6 HX6;unfold VoJ2 at hrel;obtain ⟨j,out,hj,rfl,hout,hol,hbo,hbr⟩:=hrel;rw [← HVN.out] at hj;have HOUT:=hide hout;have HBO:=hide hbo;have HBR:=hide hbr;clear hout hbo hbr;obtain ⟨A7,c7,rfl,_⟩:=own_slice HBO.out;have hswr : W4.heap.size ≤ wr.heap.size:=HBR.out.size;have HBW:=hide (HB4.out.trans (HBR.out.mono hsw4));have j0 : (0 : Int) ≤ (j : Int):=by omega
    by_cases hlt : j < vn
    ·have js : (j : Int) < (vn : Int):=by omega
     have hri : RI wr w.heap.size As vn s.c.votes:=by have:=Reads.below HIN.out.vot HBW.out;rw [← HVN.out,← HAS.out] at this;exact this
     obtain ⟨ad,hA,_,cv⟩:=hri.at_ hlt;subst hA;have hf:=HOK.out.fine j (by rw [← HVN.out];exact hlt);obtain ⟨x,hx⟩ : ∃ x : Nat,x = (nth s.c.votes j).toNat:=⟨_,rfl⟩;have hxv : nth s.c.votes j = (x : Int):=by omega
     have hxb : x ≤ 9:=by omega
     rw [hxv] at cv;have hdl:=dec_len19' (n:=x) (by omega)
     have HTK : Hid (votT (s.c.votes.take (j + 1)) = votT (s.c.votes.take j) ++ ([32] ++ Lib.decDigits x)):=by
      show _ = _
      have h1 : s.c.votes[j]? = some (nth s.c.votes j):=by
       unfold nth;rw [List.getElem?_eq_getElem (by rw [← HVN.out];exact hlt),List.getD_eq_getElem?_getD,List.getElem?_eq_getElem (by rw [← HVN.out];exact hlt)]
       rfl
      unfold votT;rw [List.take_add_one,h1,List.flatMap_append,hx];simp
     obtain ⟨D,hD⟩ : ∃ D,D = Lib.decDigits x:=⟨_,rfl⟩;rw [← hD] at HTK hdl;have HDG:=hide hD;clear hri hf hx hxv hD;go_upto_region 18 with fail
     clear cv js;refine wp_region_lit ?_;refine wpList_value rfl (.slice A7 out.length c7) (by go_simp) ?_;try simp only [Act.put,aSt,aSz,aSs]
     refine wpList_step (fun K hK => ?_);rw [if_pos (by rfl)];go_simp;refine hK _ _ ?_;clear hK K;try simp only [Act.put,aSt,aSz,aSs]
     refine wpList_push (W:=wr) (cs:=#[.int .u8 32]) rfl (.tmp 68) (.tmp 69) _ rfl W4.heap.size 5 i5 _ 1 1 Tryz.underlying29 I5.out hz5 hs5 hb5 rfl (by omega) (.slice A7 out.length c7) out.length _ rfl HBO.out 1 1 rfl rfl (by simp [Value.oneCell']) (by omega) (by unfold maxLen;omega) (by omega) hswr ?_;intro g8 c8 w8 hown8 hgr8 hb8 _ _ _;have HO8 : Hid (w8.ownsRow W4.heap.size 5 1 (.slice (some ⟨g8,0,none⟩) (out.length + 1) c8) (out.length + 1) (Lib.byteCells out ++ [.int .u8 (((32 : UInt8).toNat : Nat) : Int)])):=hown8;have HBO8 : Hid (BO w8 W4.heap.size (.slice (some ⟨g8,0,none⟩) (out.length + 1) c8) (out ++ ([32] : List UInt8))):=BO.one HO8.out;have HBR8:=hide (HBR.out.trans hb8);have hsw8 : W4.heap.size ≤ w8.heap.size:=HBR8.out.size;clear hown8 hgr8 hb8 HO8;try simp only [Act.put,aSt,aSz,aSs]
     refine wpList_value rfl (.int .i64 (x : Int)) (by go_simp) ?_;try simp only [Act.put,aSt,aSz,aSs]
     refine wpList_step (fun K hK => ?_);rw [if_pos (by rfl)];go_simp;go_at_call 32;refine (appint_any W4.heap.size (out ++ ([32] : List UInt8)).length (x : Int) (by omega) (by omega) (.slice (some ⟨g8,0,none⟩) (out.length + 1) c8) (Lib.byteCells (out ++ ([32] : List UInt8))) w8 HBO8.out hsw8 (by rw [List.length_append,List.length_singleton];omega) (HTB4.out.on HBR8.out)).mono ?_;rintro e w9 ⟨v9,rfl,hown9,hb9,_⟩
     have HL7 : Hid (VoJ2 s.c W4 v9 (.int .i64 ((j : Int) + 1)) w9):=by
      have h1 : BO w9 W4.heap.size v9 ((out ++ ([32] : List UInt8)) ++ D):=by
       rw [itoa_nat,← HDG.out] at hown9;show World.ownsRow _ _ _ _ _ _ _;rw [show ((out ++ ([32] : List UInt8)) ++ D).length = (out ++ ([32] : List UInt8)).length + D.length from List.length_append,Lib.byteCells_append];exact hown9
      refine ⟨j + 1,(out ++ ([32] : List UInt8)) ++ D,by rw [← HVN.out];omega,by go_num,?_,by rw [List.length_append,List.length_append,List.length_singleton];omega,h1,HBR8.out.trans hb9⟩;rw [HTK.out,HOUT.out];simp
     refine hK _ _ ?_;clear hK K hown9 hb9;try simp only [Act.put,aSt,aSz,aSs]
     go_wp2_with fail;go_roundw
     case rel => first | exact HL7.out | exact ⟨_,HL7.out,rfl⟩ | exact ⟨_,_,HL7.out,rfl,rfl⟩
     case measure => simp [intOf];omega
    ·have js : ¬ (j : Int) < (vn : Int):=by omega
     have hjv : j = vn:=by omega
     have HH3 : Hid (out ++ [10] = headTx s.c):=by
      show _ = _;rw [HOUT.out,hjv,HVN.out,List.take_length]
      rfl
     have hol2 : out.length ≤ 1000:=by omega
     clear hlt hjv HOUT;go_upto_region 21 with (at_builtin;refine wpList_push (W:=wr) (cs:=#[.int .u8 10]) rfl (.tmp 74) (.tmp 75) _ rfl W4.heap.size 5 i5 _ 1 1 Tryz.underlying29 I5.out hz5 hs5 hb5 rfl (by omega) (.slice A7 out.length c7) out.length _ rfl HBO.out 1 1 rfl rfl (by simp [Value.oneCell']) (by omega) (by unfold maxLen;omega) (by omega) hswr ?_;intro g8 c8 w8 hown8 hgr8 hb8 _ _ _;have HOW8:=hide hown8;have HBB8:=hide hb8;clear hown8 hgr8 hb8)
     have HO8 : Hid (w8.ownsRow W4.heap.size 5 1 (.slice (some ⟨g8,0,none⟩) (out.length + 1) c8) (out.length + 1) (Lib.byteCells out ++ [.int .u8 (((10 : UInt8).toNat : Nat) : Int)])):=HOW8.out;have HBR8:=hide (HBR.out.trans HBB8.out);have HBO8 : Hid (BO w8 W4.heap.size (.slice (some ⟨g8,0,none⟩) (out.length + 1) c8) (headTx s.c)):=by show BO _ _ _ _;rw [← HH3.out];exact BO.one HO8.out
     have hhl : (headTx s.c).length = out.length + 1:=by rw [← HH3.out];simp
     have hhb : (headTx s.c).length ≤ 1001:=by omega
     obtain ⟨HT0,hHT0⟩ : ∃ HT0,HT0 = headTx s.c:=⟨_,rfl⟩;have HHT:=hide hHT0;rw [← hHT0] at hhb hhl HBO8;rw [← hhl] at HBO8 ⊢;obtain ⟨es,hes⟩ : ∃ es,es = s.ms.map Em.ev:=⟨_,rfl⟩;have hel : es.length = n:=by rw [hes,List.length_map,HN.out]
     have HES:=hide hes;have HEL:=hide hel;have HL8 : Hid (EvJ2 s.sc W4 (.slice (some ⟨g8,0,none⟩) HT0.length c8) (.int .i64 0) w8):=⟨0,[],Nat.zero_le _,rfl,by simp,by simp,by rw [List.append_nil];show BO _ _ _ (headTx s.c);rw [← HHT.out];exact HBO8.out,HBR8.out⟩;have HP8:=hide (HP4.out.below HBR8.out HP4.out.lt);obtain ⟨Ae,hAe0⟩ : ∃ Ae,Ae = s.Ae:=⟨_,rfl⟩;have HAE:=hide hAe0;have k8 : w8.cell? ⟨w.heap.size,8,none⟩ = some (.slice Ae n s.ke):=by rw [HN.out,hAe0];exact HP8.out.cell 8
     clear HO8 HOW8 HBB8 HBO HBR HBW HH3 hhl hHT0 hes hel js hol hol2 hAe0;obtain ⟨wx,hwx⟩ : ∃ wx,wx = wr:=⟨_,rfl⟩;clear hwx;go_upto_region 22 with fail
     clear k8 HP8;go_loopw [6,80] (fun v i wr => EvJ2 s.sc W4 v i wr) (fun _ i _ => n - (intOf i).toNat)
     case atStart => exact HL8.out
     case round =>
      clear HL8;unfold EvJ2 at hrel;obtain ⟨j,t,hj,rfl,hln,htl,hbo,hbr⟩:=hrel;have hse : s.sc.es.length = n:=by rw [← HEL.out,HES.out];rfl
      have hj2 : j ≤ n:=by omega
      have HSE:=hide hse;obtain ⟨O,hO⟩ : ∃ O,O = HT0 ++ t:=⟨_,rfl⟩;have hbo2:=hbo;rw [show headTx s.sc.c = HT0 from HHT.out.symm,← hO] at hbo2;have hOl : O.length ≤ 1001 + 30000001 * j:=by rw [hO,List.length_append];omega
      have HOE:=hide hO;have HLN:=hide hln;have HBO:=hide hbo2;have HBR:=hide hbr;clear hln hbo hbo2 hbr hO hj hse;obtain ⟨A7,c7,rfl,_⟩:=own_slice HBO.out;have hswr : W4.heap.size ≤ wr.heap.size:=HBR.out.size;have HXR:=hide (HX4.out.below HBR.out HX4.out.lt);have HBW:=hide (HB4.out.trans (HBR.out.mono hsw4));have hwr : w.heap.size ≤ wr.heap.size:=HBW.out.size;have j0 : (0 : Int) ≤ (j : Int):=by omega
      by_cases hlt : j < n
      ·have js : (j : Int) < (n : Int):=by omega
       obtain ⟨b,off,m,hAe,hbB,hm,qc⟩:=ems_at (w:=wr) (B:=w.heap.size) (Reads.below HIN.out.row HBW.out) rfl (show j < s.ms.length by rw [← HN.out];exact hlt);have HQ:=hide qc;have HMO:=hide (HM.out m (List.mem_of_getElem? hm));have HIM:=hide (((HIN.out.ent m (List.mem_of_getElem? hm)).below HBW.out).more hwr)
       have HDR : Hid (s.sc.es.drop j = m.ev :: s.sc.es.drop (j + 1)):=by
        show (s.ms.map Em.ev).drop j = m.ev :: (s.ms.map Em.ev).drop (j + 1);obtain ⟨h1,h2⟩:=List.getElem?_eq_some_iff.1 hm;rw [List.drop_eq_getElem_cons (by rw [List.length_map];exact h1),List.getElem_map,h2]
       have hpz : (printE s.c.nodes m.ev).1.length ≤ 30000000:=print_sz s.c.nodes HMO.out (HIM.out.nb_len) (RI.len HIM.out.sid);have hpe:=printE_err s.c.nodes m.ev HOK.out.nodes;obtain ⟨px,hpx⟩ : ∃ px,px = (printE s.c.nodes m.ev).1:=⟨_,rfl⟩;obtain ⟨pn,hpn⟩ : ∃ pn,pn = (printE s.c.nodes m.ev).2:=⟨_,rfl⟩
       have HPE : Hid (∀ W,Below w.heap.size w W → EmIn W W.heap.size m → Calls Tryz.prog 13 #[.agg m.cs,.int .i64 s.c.nodes] W fun e w' => e = .returned (.tuple #[.string (S px),.int .i64 pn]) ∧ Below W.heap.size W w'):=fun W hb h => by
        rw [hpx,hpn];exact pprint_ev m s.c.nodes W h HMO.out (HOT.out.below hb h0w) (HTB.out.below hb)
       have HPP : Hid (px = (printE s.c.nodes m.ev).1 ∧ pn = (printE s.c.nodes m.ev).2):=⟨hpx,hpn⟩;rw [← hpx] at hpz;rw [← hpn] at hpe;rw [← HAE.out] at hAe;subst hAe;clear hpx hpn hm qc;go_upto_region 23 with fail
       clear js;refine wp_region_lit ?_;refine wpList_value rfl (.pointer (some ⟨b,off + j * 13,none⟩)) (by go_simp) ?_;try simp only [Act.put,aSt,aSz,aSs]
       refine wpList_value rfl (.agg m.cs) (ex_load 33 (.tmp 82) rfl _ rfl m.cs _ Tryz.underlying33 rfl (ld29 _ (em_size _)) HQ.out) ?_;try simp only [Act.put,aSt,aSz,aSs]
       refine wpList_step (fun K hK => ?_);rw [if_pos (by rfl)];go_simp;refine hK _ _ ?_;clear hK K;refine wpList_store_fresh rfl 33 (.tmp 13) (.tmp 83) rfl _ m.cs rfl rfl (ld29 _ (em_size _)) rfl (ecs_all _) ?_;try simp only [Act.put,aSt,aSz,aSs]
       obtain ⟨w5,hw5⟩ : ∃ w5,w5 = World.alloc wr (.cells m.cs 33):=⟨_,rfl⟩;obtain ⟨ge,hge⟩ : ∃ ge,ge = wr.heap.size:=⟨_,rfl⟩;have hal : Below wr.heap.size wr w5:=by rw [hw5];exact (Below.refl _ _).alloc (Nat.le_refl _) _
       have HE5 : Hid (Blk w5 ge 33 m.cs):=by show Blk _ _ _ _;rw [hw5,hge];exact Blk.new _ _ _
       have HIM5 : Hid (EmIn w5 w5.heap.size m):=(HIM.out.below hal).more hal.size;have HX5:=hide (HXR.out.below hal HXR.out.lt);have HBO5 : Hid (BO w5 W4.heap.size (.slice A7 O.length c7) O):=own_step HBO.out hal;have HBR5:=hide (HBR.out.trans (hal.mono hswr));have HBW5:=hide (HBW.out.trans (hal.mono hwr));have hsw5 : W4.heap.size ≤ w5.heap.size:=HBR5.out.size;have hww5 : w.heap.size ≤ w5.heap.size:=HBW5.out.size;rw [← hw5];try rw [← hge]
       clear hw5 hge hal HXR HBO HBR HBW HIM HQ;have kn0 : w5.cell? ⟨g,0,none⟩ = some (.int .i64 s.c.nodes):=HX5.out.cell 0;go_upto_region 24 with fail
       refine wp_region_lit ?_;refine wpList_value rfl (.agg m.cs) (ex_load 33 (.tmp 13) rfl _ rfl m.cs _ Tryz.underlying33 rfl (ld29 _ (em_size _)) (ebox_all HE5.out)) ?_;try simp only [Act.put,aSt,aSz,aSs]
       refine wpList_value rfl (.pointer (some ⟨g,0,none⟩)) (by go_simp) ?_;try simp only [Act.put,aSt,aSz,aSs]
       refine wpList_value rfl (.int .i64 s.c.nodes) (by go_simp) ?_;try simp only [Act.put,aSt,aSz,aSs]
       refine wpList_step (fun K hK => ?_);rw [if_pos (by rfl)];go_simp;go_at_call 13;refine (HPE.out w5 HBW5.out HIM5.out).mono ?_;rintro e w6 ⟨rfl,hb6⟩;have HBO6 : Hid (BO w6 W4.heap.size (.slice A7 O.length c7) O):=own_step HBO5.out hb6;have HBR6:=hide (HBR5.out.trans (hb6.mono hsw5));have HBW6:=hide (HBW5.out.trans (hb6.mono hww5));have hsw6 : W4.heap.size ≤ w6.heap.size:=HBR6.out.size;refine hK _ _ ?_;clear hK K hb6 kn0 HE5 HIM5 HX5 HBO5 HBR5 HBW5 HPE hsw5 hww5;try simp only [Act.put,aSt,aSz,aSs]
       rcases hpe with hz | hz
       ·subst hz
        have HSN : Hid (linesT s.c.nodes s.sc.es = (linesT s.c.nodes (s.sc.es.drop (j + 1))).map ((t ++ (px ++ [10])) ++ ·)):=by
         show _ = _;have h1:=HLN.out;rw [HDR.out] at h1;rw [HPP.out.1];exact h1.trans (linesT_step HPP.out.2.symm)
        obtain ⟨wx,hwx⟩ : ∃ wx,wx = wr:=⟨_,rfl⟩;clear hwx;go_upto_region 27 with fail
        refine wp_region_lit ?_;refine wpList_value rfl (.slice A7 O.length c7) (by go_simp) ?_;try simp only [Act.put,aSt,aSz,aSs]
        refine wpList_value rfl (.string (S px)) (by go_simp) ?_;try simp only [Act.put,aSt,aSz,aSs]
        refine Lib.wpList_append_own_string _ rfl (.tmp 94) (.tmp 95) 29 9 rfl W4.heap.size 5 i5 Tryz.underlying29 Tryz.underlying9 I5.out hz5 hs5 hb5 (.slice A7 O.length c7) O.length (Lib.byteCells O) rfl HBO6.out (S px) rfl (by rw [S_size];unfold maxLen;omega) (by rw [S_size];omega) hsw6 ?_;intro v7 w7 hown7 hgr7 _;have HBO7 : Hid (BO w7 W4.heap.size v7 (O ++ px)):=BO.app hown7;have HBR7:=hide (HBR6.out.grown hgr7 hsw6 (fun k hk => (HBO6.out.lt k hk).1));have hsw7 : W4.heap.size ≤ w7.heap.size:=HBR7.out.size;clear hown7 hgr7;obtain ⟨A8,c8,rfl,_⟩:=own_slice HBO7.out;have hopl : (O ++ px).length = O.length + px.length:=List.length_append;try simp only [Act.put,aSt,aSz,aSs]
        refine wpList_step (fun K hK => ?_);rw [if_pos (by rfl)];go_simp;refine hK _ _ ?_;clear hK K;try simp only [Act.put,aSt,aSz,aSs]
        refine wpList_push (W:=w7) (cs:=#[.int .u8 10]) rfl (.tmp 96) (.tmp 97) _ rfl W4.heap.size 5 i5 _ 1 1 Tryz.underlying29 I5.out hz5 hs5 hb5 rfl (by omega) (.slice A8 (O ++ px).length c8) (O ++ px).length _ (by first | rfl | (simp only [hopl];rfl)) HBO7.out 1 1 rfl rfl (by simp [Value.oneCell']) (by omega) (by unfold maxLen;omega) (by omega) hsw7 ?_;intro g9 c9 w9 hown9 hgr9 hb9 _ _ _;have HO9 : Hid (w9.ownsRow W4.heap.size 5 1 (.slice (some ⟨g9,0,none⟩) ((O ++ px).length + 1) c9) ((O ++ px).length + 1) (Lib.byteCells (O ++ px) ++ [.int .u8 (((10 : UInt8).toNat : Nat) : Int)])):=hown9
        have HL9 : Hid (EvJ2 s.sc W4 (.slice (some ⟨g9,0,none⟩) ((O ++ px).length + 1) c9) (.int .i64 ((j : Int) + 1)) w9):=by
         refine ⟨j + 1,t ++ (px ++ [10]),?_,by go_num,HSN.out,?_,?_,HBR7.out.trans hb9⟩
         ·have h1:=HSE.out
          omega
         ·rw [List.length_append,List.length_append,List.length_singleton]
          omega
         ·have e : (O ++ px) ++ [10] = headTx s.sc.c ++ (t ++ (px ++ [10])):=by rw [HOE.out,show headTx s.sc.c = HT0 from HHT.out.symm];simp
          rw [← e];exact BO.one HO9.out
        clear hown9 hgr9 hb9 HO9;try simp only [Act.put,aSt,aSz,aSs]
        go_wp2_with fail;go_roundw
        case rel => first | exact HL9.out | exact ⟨_,HL9.out,rfl⟩ | exact ⟨_,_,HL9.out,rfl,rfl⟩
        case measure => simp [intOf];omega
       ·have HR : Hid (printS s.sc = ([],24)):=by
         show _ = _;have h1:=HLN.out;rw [HDR.out,linesT_no (by rw [show (printE s.sc.c.nodes m.ev).2 = pn from HPP.out.2.symm,hz];decide)] at h1;have h2 : linesT s.c.nodes s.sc.es = none:=h1;rw [HTX.out,h2]
        subst hz;go_wp2_with fail;refine bodyPost_ret (results_tmp2 rfl _ _ _) rfl ?_;exact prt_out HR.out HBW6.out
      ·have js : ¬ (j : Int) < (n : Int):=by omega
       have HLF : Hid (linesT s.c.nodes s.sc.es = some t):=by
        show _ = _;have h1:=HLN.out;have h2:=HSE.out;rw [List.drop_eq_nil_of_le (show s.sc.es.length ≤ j by omega)] at h1;exact h1.trans (by simp [linesT])
       by_cases h4 : 400000 < O.length
       ·have HR : Hid (printS s.sc = ([],20)):=by
         show _ = _;rw [HTX.out,HLF.out];have h1 : (headTx s.c ++ t) = O:=by rw [HOE.out,HHT.out]
         simp only [h1,if_pos h4]
        have e4 : (400000 : Int) < (O.length : Int):=by omega
        clear h4;go_wp2_with fail;refine bodyPost_ret (results_tmp2 rfl _ _ _) rfl ?_;exact prt_out HR.out HBW.out
       ·have HR : Hid (printS s.sc = (O,0)):=by
         show _ = _;rw [HTX.out,HLF.out];have h1 : (headTx s.c ++ t) = O:=by rw [HOE.out,HHT.out]
         simp only [h1,if_neg h4]
        have e4 : ¬ (400000 : Int) < (O.length : Int):=by omega
        have hcv:=conv_reads (c:=c7) (Reads.of_own HBO.out);clear h4;go_wp2_with fail;refine bodyPost_ret (results_tmp2 rfl _ _ _) rfl ?_;exact prt_out HR.out HBW.out
end Go.Proofs.YtcibcmfaebbhnaaGreatDoor
