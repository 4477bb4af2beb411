/-
  A script in memory; what a text says as a script, plainly. The reference's SameEvent: two events that say the same. The reference's SameScript: two scripts that say the same. Plain: how an event is written, by the program and by the document. The reference's Signed at every int; its part: one thing of an event written. (Printed by wip/tools/mkwsg.py.)
-/
import Derived.Test.YtcibcmfaebbhnaaGreatDoorLCfgW
import Derived.Test.YtcibcmfaebbhnaaGreatDoorLEpf
import Derived.Test.YtcibcmfaebbhnaaGreatDoorLPpe
import Derived.Test.YtcibcmfaebbhnaaGreatDoorLNib
import Derived.StillTailTactics
import Derived.Test.YtcibcmfaebbhnaaGreatDoorLHdr
import Derived.Test.YtcibcmfaebbhnaaGreatDoorLRead
import Derived.Test.YtcibcmfaebbhnaaGreatDoorLWev
set_option linter.unusedSimpArgs false
set_option linter.unusedVariables false
set_option maxRecDepth 100000
set_option maxHeartbeats 4000000

namespace Go.Proofs.YtcibcmfaebbhnaaGreatDoor
open Go.RowKit Go.WideShapes Go.ChangeShapes Q
structure Sc where
 c : Cfg
 es : List Ev
def Sc.zero : Sc:=⟨Cfg.zero,[]⟩
structure Sm where
 c : Cfg
 A : Option Addr
 k : Nat
 Ae : Option Addr
 ke : Nat
 ms : List Em
def emCells (l : List Em) : List Value:=l.flatMap (·.cs.toList)
theorem emCells_snoc (l : List Em) (m : Em) : emCells (l ++ [m]) = emCells l ++ m.cs.toList:=by simp [emCells]
theorem emCells_len : ∀ (l : List Em),(emCells l).length = l.length * 13
 | [] => rfl
 | m :: l => by
  have:=emCells_len l;simp only [emCells,List.flatMap_cons,List.length_append,List.length_cons] at this ⊢;rw [this,Array.length_toList,em_size];omega
def Sm.cs (s : Sm) : Array Value:=#[.int .i64 s.c.nodes,.int .i64 s.c.window,.int .i64 s.c.base,.int .i64 s.c.step,.int .i64 s.c.cap,.int .i64 s.c.room,.int .i64 s.c.floor,.slice s.A s.c.votes.length s.k,.slice s.Ae s.ms.length s.ke]
def Sm.sc (s : Sm) : Sc:=⟨s.c,s.ms.map Em.ev⟩
def Sm.zero : Sm:=⟨Cfg.zero,none,0,none,0,[]⟩
theorem sm_size (s : Sm) : s.cs.size = 9:=rfl
theorem sm_all (s : Sm) : s.cs.all (·.oneCell') = true:=by simp [Sm.cs,Value.oneCell']
structure SmU (w : World) (b : Nat) (s : Sm) : Prop where
 cfg : CfU w b s.c s.A s.k
 row : w.ownsRow b 33 13 (.slice s.Ae s.ms.length s.ke) s.ms.length (emCells s.ms)
 ent : ∀ m ∈ s.ms,EmU w b m
 hn : s.ms.length ≤ 4000
structure SmIn (w : World) (B : Nat) (s : Sm) : Prop where
 vot : RI w B s.A s.c.votes.length s.c.votes
 row : Reads w B 13 s.Ae s.ms.length (emCells s.ms)
 ent : ∀ m ∈ s.ms,EmIn w B m
 hv : s.c.votes.length ≤ 17592186044416
 hn : s.ms.length ≤ 17592186044416
section
variable {w w' : World} {b b' B g : Nat} {t : TypeId} {cs : Array Value} {s : Sm}
theorem SmU.inn (h : SmU w b s) : SmIn w w.heap.size s:=⟨h.cfg.reads,Reads.of_own h.row,fun m hm => (h.ent m hm).inn,by have:=h.cfg.hv;omega,by have:=h.hn;omega⟩
theorem SmIn.below (h : SmIn w B s) (hb : Below B w w') : SmIn w' B s:=⟨Reads.below h.vot hb,Reads.below h.row hb,fun m hm => (h.ent m hm).below hb,h.hv,h.hn⟩
theorem SmU.step (h : SmU w b s) (hb : Below w.heap.size w w') : SmU w' b s:=⟨h.cfg.step hb,own_step h.row hb,fun m hm => (h.ent m hm).step hb,h.hn⟩
theorem SmU.base (h : SmU w b s) (hb : b' ≤ b) : SmU w b' s:=⟨h.cfg.base hb,own_base h.row hb,fun m hm => (h.ent m hm).base hb,h.hn⟩
theorem SmU.zero (w : World) (b : Nat) : SmU w b Sm.zero:=⟨CfU.zero w b 0,World.ownsRow_nil _ _ _ _,fun m hm => (by cases hm),Nat.zero_le _⟩
theorem SmU.far (h : SmU w b s) (hg : Blk w g t cs) (h2 : t ≠ 3) (h3 : t ≠ 5) (h4 : t ≠ 33) (ho : Only (fun q => q = g) w w') : SmU w' b s:=by
 refine ⟨h.cfg.far hg h2 ho,own_apart h.row ho ?_,fun m hm => (h.ent m hm).far hg h2 h3 ho,h.hn⟩;intro k hk hq;subst hq;exact ⟨t,cs,hg,h4⟩
end
theorem ld47 (cs : Array Value) (h : cs.size = 9) : (Tryz.prog.info? 27).map (·.size) = some cs.size:=by rw [h];kernel_rfl
theorem sput (Z cs : Array Value) (h : Z.size = 9) (hc : cs.size = 9) : putAt Z 0 cs = cs:=by
 unfold putAt;have h1 : Z.toList.drop (0 + cs.size) = []:=List.drop_eq_nil_of_le (by rw [hc,Array.length_toList,h];omega);rw [h1];simp
theorem run_load47 {w : World} {g : Nat} {cs : Array Value} (h : Blk w g 27 cs) (hc : cs.size = 9) : (loadVar 27 ⟨g,0,none⟩).run Tryz.prog w = .ok (.agg cs) w:=run_load_at w ⟨g,0,none⟩ 27 cs _ Tryz.underlying27 rfl (ld47 _ hc) (box_all h)
theorem run_one29 {o : Oper} {a : Act} {V : World} (x : Operand) (ho : o.op = .buildSlice 25 1 #[(0,x)]) (m : Em) (hx : a.eval x = .agg m.cs) :
  (execOp a.eval o).run Tryz.prog V = .ok (.value (.slice (some ⟨V.heap.size,0,none⟩) 1 1)) (V.alloc (.cells m.cs 33)):=by
 unfold execOp;simp only [ho,List.map_toArray,List.map_cons,List.map_nil,hx];unfold Em.cs;go_simp
theorem wpList_one29 {ops : Array Oper} {rest : List Oper} {o : Oper} {a : Act} {V : World} {Q : Exit → Act → World → Prop} (hgd : o.guard = none) (x : Operand) (ho : o.op = .buildSlice 25 1 #[(0,x)]) (m : Em) (hx : a.eval x = .agg m.cs)
  (h : wpList Tryz.prog ops Q rest (a.put o.dst (.slice (some ⟨V.heap.size,0,none⟩) 1 1)) (V.alloc (.cells m.cs 33))) : wpList Tryz.prog ops Q (o :: rest) a V:=by
 refine wpList_plain hgd fun K hK => ?_
 unfold Oper.wp;rw [run_one29 x ho m hx];exact hK _ _ h
theorem ex_build47 {o : Oper} {a : Act} {V : World} (x : Operand) (ho : o.op = .build 27 #[(0,x)]) (c : Cfg) (A : Option Addr) (k : Nat) (hx : a.eval x = .agg (cfC c A k)) :
  (execOp a.eval o).run Tryz.prog V = .ok (.value (.agg (Sm.cs ⟨c,A,k,none,0,[]⟩))) V:=by
 unfold execOp;simp only [ho,List.map_toArray,List.map_cons,List.map_nil,hx];unfold cfC;go_simp
 rfl
theorem em_same {m m' : Em} (h : m.ev = m'.ev) (h1 : m.sd.length = m.ns) (h2 : m.bd.length = m.nb) (h3 : m'.sd.length = m'.ns) (h4 : m'.bd.length = m'.nb) : m' = { m with Ab:=m'.Ab,cb:=m'.cb,As:=m'.As,cs':=m'.cs' }:=by
 obtain ⟨kd,a,b,n,Ab,nb,cb,bd,cl,cn,rq,op,key,val,old,As,ns,cs,sd⟩:=m;obtain ⟨kd',a',b',n',Ab',nb',cb',bd',cl',cn',rq',op',key',val',old',As',ns',cs',sd'⟩:=m';simp only [Em.ev,Ev.mk.injEq] at h;obtain ⟨rfl,rfl,rfl,rfl,rfl,rfl,rfl,rfl,hk,hv,ho,rfl,rfl⟩:=h;simp only at h1 h2 h3 h4;have e1 : key = key':=ByteArray.ext (Array.toList_inj.1 hk);have e2 : val = val':=ByteArray.ext (Array.toList_inj.1 hv);have e3 : old = old':=ByteArray.ext (Array.toList_inj.1 ho);subst e1 e2 e3;have e4 : ns' = ns:=by omega
 have e5 : nb' = nb:=by omega
 subst e4 e5
 rfl
theorem same_at (m : Em) (Ab' : Option Addr) (cb' : Nat) (As' : Option Addr) (cs2 : Nat) (w : World) (hm : EmIn w w.heap.size m) (hm' : EmIn w w.heap.size { m with Ab:=Ab',cb:=cb',As:=As',cs':=cs2 }) :
  Calls Tryz.prog 21 #[.agg m.cs,.agg ({ m with Ab:=Ab',cb:=cb',As:=As',cs':=cs2 } : Em).cs] w fun e w' => e = .returned (.bool true) ∧ Below w.heap.size w w':=by
 have HM:=hide hm;have HM':=hide hm';obtain ⟨kd,a,b,n,Ab,nb,cb,bd,cl,cn,rq,op,key,val,old,As,ns,cs1,sd⟩:=m;have h1:=HM.out.sid;have h2:=HM.out.body;have h3:=HM'.out.sid;have h4:=HM'.out.body;have h5:=HM.out.hs;simp only [Em.cs] at h1 h2 h3 h4 h5 ⊢;obtain ⟨W,hW⟩ : ∃ W,W = (w.alloc (.cells #[.int .i64 kd,.int .i64 a,.int .i64 b,.int .i64 n,.slice Ab nb cb,.int .i64 cl,.int .i64 cn,.int .i64 rq,.int .i64 op,.string key,.string val,.string old,.slice As ns cs1] 33)).alloc (.cells #[.int .i64 kd,.int .i64 a,.int .i64 b,.int .i64 n,.slice Ab' nb cb',.int .i64 cl,.int .i64 cn,.int .i64 rq,.int .i64 op,.string key,.string val,.string old,.slice As' ns cs2] 33):=⟨_,rfl⟩;have HWE:=hide hW;have HB : Hid (Below w.heap.size w W):=by rw [hW];exact ((Below.refl _ _).alloc (Nat.le_refl _) _).alloc (by simp) _
 have H1:=hide (Reads.below h1 HB.out);have H3:=hide (Reads.below h3 HB.out);have HC2:=conv_reads (c:=cb) (Reads.below h2 HB.out);have HC4:=conv_reads (c:=cb') (Reads.below h4 HB.out);have htl:=hide (RI.len h1)
 have c12 : W.cell? ⟨w.heap.size,12,none⟩ = some (.slice As ns cs1):=by
  rw [hW];exact ((Blk.new _ _ _).alloc _).cell 12
 have d12 : W.cell? ⟨w.heap.size + 1,12,none⟩ = some (.slice As' ns cs2):=by
  rw [hW];exact (blk_new _ _ _ _ (by simp)).cell 12
 rw [hW] at HC2 HC4;clear h1 h2 h3 h4 hm hm' hW;go_enter Tryz.func21,Tryz.ntmps21;go_upto_region 4 with fail
 rw [← HWE.out];clear HC2 HC4;go_loopw [5] (fun i wr => ∃ k q : Nat,k ≤ ns ∧ i = .int .i64 k ∧ wr = W.drewN q) (fun i _ => ns - (intOf i).toNat)
 case atStart => exact ⟨0,0,Nat.zero_le _,rfl,rfl⟩
 case round =>
  obtain ⟨k,q,hk,rfl,rfl⟩:=hrel
  by_cases hlt : k < ns
  ·obtain ⟨ad,rfl,_,q0⟩:=RI.at_ H1.out hlt
   obtain ⟨ad',rfl,_,r0⟩:=RI.at_ H3.out hlt;have k0 : (0 : Int) ≤ (k : Int):=by omega
   have kn : (k : Int) < (ns : Int):=by omega
   obtain ⟨x,hx⟩ : ∃ x,x = nth sd k:=⟨_,rfl⟩;rw [← hx] at q0 r0;clear hx;go_wp2_with fail;go_quiet (fail);go_wp2_with fail;go_roundw
   case rel => exact ⟨k + 1,_,by omega,by go_num,rfl⟩
   case measure => simp [intOf];omega
  ·have kn : ¬ (k : Int) < (ns : Int):=by omega
   clear hlt;go_wp2_with fail;go_ret;exact ⟨rfl,below_drewN HB.out q⟩
theorem same_true {m m' : Em} (w : World) (hm : EmIn w w.heap.size m) (hm' : EmIn w w.heap.size m') (h : m.ev = m'.ev) :
  Calls Tryz.prog 21 #[.agg m.cs,.agg m'.cs] w fun e w' => e = .returned (.bool true) ∧ Below w.heap.size w w':=by
 have e:=em_same h (RI.len hm.sid) (by have:=Reads.len_ hm.body;simpa [Lib.byteCells] using this) (RI.len hm'.sid) (by have:=Reads.len_ hm'.body;simpa [Lib.byteCells] using this);have hm2:=hm';rw [e] at hm2 ⊢;exact same_at m m'.Ab m'.cb m'.As m'.cs' w hm hm2
theorem emCells_at : ∀ (l : List Em) (k : Nat) (i : Nat) (m : Em),l[k]? = some m → i < 13 → (emCells l)[k * 13 + i]? = m.cs[i]?
 | [],k,i,m,h,hi => by simp at h
 | a :: l,0,i,m,h,hi => by
  have ha : a.cs.toList.length = 13:=by rw [Array.length_toList,em_size]
  obtain rfl : a = m:=by simpa using h
  rw [show 0 * 13 + i = i by omega];show (a.cs.toList ++ emCells l)[i]? = _;rw [List.getElem?_append_left (by omega),Array.getElem?_toList]
 | a :: l,k + 1,i,m,h,hi => by
  have ha : a.cs.toList.length = 13:=by rw [Array.length_toList,em_size]
  show (a.cs.toList ++ emCells l)[(k + 1) * 13 + i]? = _;rw [List.getElem?_append_right (by omega),ha,show (k + 1) * 13 + i - 13 = k * 13 + i by omega];exact emCells_at l k i m (by simpa using h) hi
theorem ems_at {w : World} {B n k : Nat} {A : Option Addr} {l : List Em} (h : Reads w B 13 A n (emCells l)) (hn : l.length = n) (hk : k < n) :
  ∃ b off m,A = some ⟨b,off,none⟩ ∧ b < B ∧ l[k]? = some m ∧ ∀ j v,m.cs[j]? = some v → w.cell? ((⟨b,off + k * 13,none⟩ : Addr).add j) = some v:=by
 obtain ⟨ad,e,hb,hc⟩:=h.2 (by omega);have hm : l[k]? = some (l[k]'(by omega)):=List.getElem?_eq_getElem _;obtain ⟨b,off,spot⟩:=ad;have hm0 : l[0]? = some (l[0]'(by omega)):=List.getElem?_eq_getElem _;have h0:=emCells_at l 0 0 _ hm0 (by omega)
 have hs : spot = none:=by
  have hz : (emCells l)[0]? = some ((l[0]'(by omega)).cs[0]'(by rw [em_size];omega)):=by rw [Nat.zero_mul] at h0;rw [h0];rfl
  have:=World.cell?_spot (hc _ _ hz);simpa [Addr.add] using this
 subst hs;refine ⟨b,off,_,e,hb,hm,fun j v hv => ?_⟩;have hj : j < 13:=by have:=(Array.getElem?_eq_some_iff.1 hv).1;rw [em_size] at this;exact this
 have h1:=emCells_at l k j _ hm hj;have h3:=hc _ _ (h1.trans hv);rw [← h3]
 congr 1
 unfold Addr.add
 split
 ·rename_i hz;subst hz;split
  ·rename_i h0;simp [h0]
  ·simp
 ·split
  ·omega
  ·simp;omega
theorem EmIn.more {w : World} {B B' : Nat} {m : Em} (h : EmIn w B m) (hB : B ≤ B') : EmIn w B' m:=⟨Reads.more h.sid hB,Reads.more h.body hB,h.hs,h.hb⟩
theorem EmIn.drew {w : World} {B : Nat} {m : Em} (h : EmIn w B m) : EmIn w.drew B m:=⟨Reads.drew h.sid,Reads.drew h.body,h.hs,h.hb⟩
theorem same_at9 (nd wn bs st cp rm fl : Int) (vs : List Int) (A A' Ae Ae' : Option Addr) (k k' ke ke' : Nat) (ms ms' : List Em) (w : World) (h : SmIn w w.heap.size ⟨⟨nd,wn,bs,st,cp,rm,fl,vs⟩,A,k,Ae,ke,ms⟩) (h' : SmIn w w.heap.size ⟨⟨nd,wn,bs,st,cp,rm,fl,vs⟩,A',k',Ae',ke',ms'⟩) (he : ms.map Em.ev = ms'.map Em.ev) :
  Calls Tryz.prog 19 #[.agg (Sm.cs ⟨⟨nd,wn,bs,st,cp,rm,fl,vs⟩,A,k,Ae,ke,ms⟩),.agg (Sm.cs ⟨⟨nd,wn,bs,st,cp,rm,fl,vs⟩,A',k',Ae',ke',ms'⟩)] w fun e w' => e = .returned (.bool true) ∧ Below w.heap.size w w':=by
 have H:=hide h;have H':=hide h';have HE:=hide he;have hml : ms'.length = ms.length:=by have:=congrArg List.length he;simpa using this.symm
 obtain ⟨n,hn⟩ : ∃ n,n = ms.length:=⟨_,rfl⟩;obtain ⟨vn,hvn⟩ : ∃ vn,vn = vs.length:=⟨_,rfl⟩;have HN : Hid (ms.length = n ∧ ms'.length = n ∧ vs.length = vn):=⟨hn.symm,by omega,hvn.symm⟩;have hvb : vn ≤ 17592186044416:=by rw [hvn];exact h.hv
 have hnb : n ≤ 17592186044416:=by rw [hn];exact h.hn
 simp only [Sm.cs];rw [hml,← hn,← hvn];clear h h' he hml hn hvn;go_enter Tryz.func19,Tryz.ntmps19;go_upto_region 3 with fail
 generalize hW : World.alloc (World.alloc (World.alloc (World.alloc w _) _) _) _ = W
 have hb : Below w.heap.size w W:=by
  rw [← hW];exact ((((Below.refl _ _).alloc (Nat.le_refl _) _).alloc (by simp) _).alloc (by simp;omega) _).alloc (by simp;omega) _
 have HB:=hide hb
 have HX2 : Hid (Blk W w.heap.size 27 #[.int .i64 nd,.int .i64 wn,.int .i64 bs,.int .i64 st,.int .i64 cp,.int .i64 rm,.int .i64 fl,.slice A vn k,.slice Ae n ke]):=by
  show Blk _ _ _ _;rw [← hW];exact (((Blk.new _ _ _).alloc _).alloc _).alloc _
 have HX3 : Hid (Blk W (w.heap.size + 1) 27 #[.int .i64 nd,.int .i64 wn,.int .i64 bs,.int .i64 st,.int .i64 cp,.int .i64 rm,.int .i64 fl,.slice A' vn k',.slice Ae' n ke']):=by
  show Blk _ _ _ _;rw [← hW];exact ((Blk.new' _ _ _ _ (by simp)).alloc _).alloc _
 have HX5 : Hid (Blk W (w.heap.size + 2) 24 #[.int .i64 nd,.int .i64 wn,.int .i64 bs,.int .i64 st,.int .i64 cp,.int .i64 rm,.int .i64 fl,.slice A vn k]):=by
  show Blk _ _ _ _;rw [← hW];exact (Blk.new' _ _ _ _ (by simp)).alloc _
 have HX6 : Hid (Blk W (w.heap.size + 3) 24 #[.int .i64 nd,.int .i64 wn,.int .i64 bs,.int .i64 st,.int .i64 cp,.int .i64 rm,.int .i64 fl,.slice A' vn k']):=by
  show Blk _ _ _ _;rw [← hW];exact Blk.new' _ _ _ _ (by simp)
 clear hW hb;have k0 : W.cell? ⟨w.heap.size + 2,0,none⟩ = some (.int .i64 nd):=HX5.out.cell 0;have k1 : W.cell? ⟨w.heap.size + 2,1,none⟩ = some (.int .i64 wn):=HX5.out.cell 1;have k2 : W.cell? ⟨w.heap.size + 2,2,none⟩ = some (.int .i64 bs):=HX5.out.cell 2;have k3 : W.cell? ⟨w.heap.size + 2,3,none⟩ = some (.int .i64 st):=HX5.out.cell 3;have k4 : W.cell? ⟨w.heap.size + 2,4,none⟩ = some (.int .i64 cp):=HX5.out.cell 4;have k5 : W.cell? ⟨w.heap.size + 2,5,none⟩ = some (.int .i64 rm):=HX5.out.cell 5;have k6 : W.cell? ⟨w.heap.size + 2,6,none⟩ = some (.int .i64 fl):=HX5.out.cell 6;have k7 : W.cell? ⟨w.heap.size + 2,7,none⟩ = some (.slice A vn k):=HX5.out.cell 7;have l0 : W.cell? ⟨w.heap.size + 3,0,none⟩ = some (.int .i64 nd):=HX6.out.cell 0;have l1 : W.cell? ⟨w.heap.size + 3,1,none⟩ = some (.int .i64 wn):=HX6.out.cell 1;have l2 : W.cell? ⟨w.heap.size + 3,2,none⟩ = some (.int .i64 bs):=HX6.out.cell 2;have l3 : W.cell? ⟨w.heap.size + 3,3,none⟩ = some (.int .i64 st):=HX6.out.cell 3;have l4 : W.cell? ⟨w.heap.size + 3,4,none⟩ = some (.int .i64 cp):=HX6.out.cell 4;have l5 : W.cell? ⟨w.heap.size + 3,5,none⟩ = some (.int .i64 rm):=HX6.out.cell 5;have l6 : W.cell? ⟨w.heap.size + 3,6,none⟩ = some (.int .i64 fl):=HX6.out.cell 6;have l7 : W.cell? ⟨w.heap.size + 3,7,none⟩ = some (.slice A' vn k'):=HX6.out.cell 7;have m8 : W.cell? ⟨w.heap.size,8,none⟩ = some (.slice Ae n ke):=HX2.out.cell 8;have m9 : W.cell? ⟨w.heap.size + 1,8,none⟩ = some (.slice Ae' n ke'):=HX3.out.cell 8;go_upto_region 8 with fail
 clear k0 k1 k2 k3 k4 k5 k6 k7 l0 l1 l2 l3 l4 l5 l6 l7 m8 m9;go_loopw [7] (fun i wr => ∃ j q : Nat,j ≤ vn ∧ i = .int .i64 j ∧ wr = W.drewN q) (fun i _ => vn - (intOf i).toNat)
 case atStart => exact ⟨0,0,Nat.zero_le _,rfl,rfl⟩
 case round =>
  obtain ⟨j,q,hj,rfl,rfl⟩:=hrel;have j0 : (0 : Int) ≤ (j : Int):=by omega
  have k7 : (W.drewN q).cell? ⟨w.heap.size + 2,7,none⟩ = some (.slice A vn k):=HX5.out.cell 7;have l7 : (W.drewN q).cell? ⟨w.heap.size + 3,7,none⟩ = some (.slice A' vn k'):=HX6.out.cell 7
  by_cases hlt : j < vn
  ·have js : (j : Int) < (vn : Int):=by omega
   have hv : vs.length = vn:=HN.out.2.2;have r1 : RI W w.heap.size A vn vs:=by have:=Reads.below H.out.vot HB.out;rw [← hv];exact this
   have r2 : RI W w.heap.size A' vn vs:=by have:=Reads.below H'.out.vot HB.out;rw [← hv];exact this
   obtain ⟨ad,rfl,_,c1⟩:=r1.at_ hlt;obtain ⟨ad',rfl,_,c2⟩:=r2.at_ hlt;obtain ⟨x,hx⟩ : ∃ x,x = nth vs j:=⟨_,rfl⟩;rw [← hx] at c1 c2;clear r1 r2 hv hx;have k7 : W.cell? ⟨w.heap.size + 2,7,none⟩ = some (.slice (some ad) vn k):=k7;have l7 : W.cell? ⟨w.heap.size + 3,7,none⟩ = some (.slice (some ad') vn k'):=l7;go_wp2_with fail;go_quiet (fail);go_wp2_with fail;go_roundw
   case rel => exact ⟨j + 1,_,by omega,by go_num,rfl⟩
   case measure => simp [intOf];omega
  ·have js : ¬ (j : Int) < (vn : Int):=by omega
   clear hlt;go_upto_region 13 with fail
   obtain ⟨W2,hW2⟩ : ∃ W2,W2 = W.drewN q:=⟨_,rfl⟩;have hb2 : Below w.heap.size w W2:=by rw [hW2];exact below_drewN HB.out q
   have HB2:=hide hb2;have HY2 : Hid (Blk W2 w.heap.size 27 #[.int .i64 nd,.int .i64 wn,.int .i64 bs,.int .i64 st,.int .i64 cp,.int .i64 rm,.int .i64 fl,.slice A vn k,.slice Ae n ke]):=by show Blk _ _ _ _;rw [hW2];exact HX2.out
   have HY3 : Hid (Blk W2 (w.heap.size + 1) 27 #[.int .i64 nd,.int .i64 wn,.int .i64 bs,.int .i64 st,.int .i64 cp,.int .i64 rm,.int .i64 fl,.slice A' vn k',.slice Ae' n ke']):=by show Blk _ _ _ _;rw [hW2];exact HX3.out
   rw [← hW2];clear hW2 hb2 k7 l7 js HX2 HX3 HX5 HX6 HB;have hs2 : w.heap.size + 1 < W2.heap.size:=HY3.out.lt;go_loopw [8] (fun i wr => ∃ j : Nat,j ≤ n ∧ i = .int .i64 j ∧ Hid (Below W2.heap.size W2 wr)) (fun i _ => n - (intOf i).toNat)
   case atStart => exact ⟨0,Nat.zero_le _,rfl,Below.refl _ _⟩
   case round =>
    obtain ⟨j,hj,rfl,hbr⟩:=hrel;have j0 : (0 : Int) ≤ (j : Int):=by omega
    have HBW:=hide (HB2.out.trans (hbr.out.mono HB2.out.size));have m8 : wr.cell? ⟨w.heap.size,8,none⟩ = some (.slice Ae n ke):=(hbr.out.cell (p:=⟨w.heap.size,8,none⟩) (by show w.heap.size < _;omega)).trans (HY2.out.cell 8)
    by_cases hlt : j < n
    ·have js : (j : Int) < (n : Int):=by omega
     have m9 : wr.cell? ⟨w.heap.size + 1,8,none⟩ = some (.slice Ae' n ke'):=(hbr.out.cell (p:=⟨w.heap.size + 1,8,none⟩) (by show w.heap.size + 1 < _;omega)).trans (HY3.out.cell 8);have hsr : w.heap.size ≤ wr.heap.size:=HBW.out.size;obtain ⟨b,off,m,rfl,_,hm,qc⟩:=ems_at (w:=wr) (B:=w.heap.size) (n:=n) (k:=j) (A:=Ae) (l:=ms) (by have:=Reads.below H.out.row HBW.out;rw [HN.out.1] at this;exact this) HN.out.1 hlt;obtain ⟨b',off',m',rfl,_,hm',rc⟩:=ems_at (w:=wr) (B:=w.heap.size) (n:=n) (k:=j) (A:=Ae') (l:=ms') (by have:=Reads.below H'.out.row HBW.out;rw [HN.out.2.1] at this;exact this) HN.out.2.1 hlt
     have hev : m.ev = m'.ev:=by
      have h1:=congrArg (fun l => l[j]?) HE.out;simp only [List.getElem?_map,hm,hm'] at h1;exact Option.some.inj h1
     have HSM : Hid (Calls Tryz.prog 21 #[.agg m.cs,.agg m'.cs] wr.drew fun e w' => e = .returned (.bool true) ∧ Below wr.heap.size wr.drew w') :=
      same_true wr.drew (((H.out.ent m (List.mem_of_getElem? hm)).below HBW.out).more hsr).drew (((H'.out.ent m' (List.mem_of_getElem? hm')).below HBW.out).more hsr).drew hev
     have HQ:=hide qc;have HR:=hide rc;clear hm hm' hev qc rc;go_upto_region 15 with fail
     refine wp_region_still_tail 10 (by kernel_rfl) (by kernel_rfl) ?_;simp only [List.take_succ_cons,List.take_zero,List.drop_succ_cons,List.drop_zero]
     still_step
     still_step
     still_step
     still_step
     refine still_load_at (by rfl) 33 (.tmp 104) rfl ⟨b,off + j * 13,none⟩ (by rfl) m.cs _ Tryz.underlying33 rfl (ld29 _ (em_size _)) HQ.out ?_
     still_step
     still_step
     still_step
     still_step
     refine still_load_at (by rfl) 33 (.tmp 109) rfl ⟨b',off' + j * 13,none⟩ (by rfl) m'.cs _ Tryz.underlying33 rfl (ld29 _ (em_size _)) HR.out ?_
     try refine wpStill_nil ?_
     change wpList _ _ _ _ _ wr.drew
     go_wp2_with (go_at_call 21;refine HSM.out.mono ?_;rintro e w2 ⟨rfl,hb2⟩;have HB3:=hide hb2;clear hb2);have HBN : Hid (Below W2.heap.size W2 w2):=(below_drewN hbr.out 1).trans (HB3.out.mono hbr.out.size);go_roundw
     case rel => exact ⟨j + 1,by omega,by go_num,HBN⟩
     case measure => simp [intOf];omega
    ·have js : ¬ (j : Int) < (n : Int):=by omega
     clear hlt;go_wp2_with fail;go_ret;exact ⟨rfl,HBW.out⟩
theorem same_scripts {s s' : Sm} (w : World) (h : SmIn w w.heap.size s) (h' : SmIn w w.heap.size s') (he : s.sc = s'.sc) :
  Calls Tryz.prog 19 #[.agg s.cs,.agg s'.cs] w fun e w' => e = .returned (.bool true) ∧ Below w.heap.size w w':=by
 obtain ⟨⟨nd,wn,bs,st,cp,rm,fl,vs⟩,A,k,Ae,ke,ms⟩:=s;obtain ⟨c',A',k',Ae',ke',ms'⟩:=s';injection he with h1 h2
 simp only at h1 h2;subst h1;exact same_at9 nd wn bs st cp rm fl vs A A' Ae Ae' k k' ke ke' ms ms' w h h' h2
end Go.Proofs.YtcibcmfaebbhnaaGreatDoor
namespace Go.Proofs.YtcibcmfaebbhnaaGreatDoor
open Go
def ltT (e : Ev) : Lt → List UInt8
 | .P => Lib.itoa e.a
 | .K => Lib.itoa e.a
 | .Q => Lib.itoa e.b
 | .N => Lib.itoa e.n
 | .D => Lib.itoa e.n
 | .T => quoteL e.bd
 | .X => quoteL e.bd
def askW (e : Ev) : List (List UInt8):=opL.getD (e.op.toNat - 1) [] :: quoteL e.key :: ((if e.val ≠ [] ∨ e.old ≠ [] then [quoteL e.val] else []) ++ (if e.old ≠ [] then [quoteL e.old] else []))
def lineW (e : Ev) : List (List UInt8) :=
 if e.kd = 4 then [100,111] :: Lib.itoa e.a :: (if 1 ≤ e.op ∧ e.op ≤ 9 then askW e else [])
 else if e.kd = 11 then [115,112,108,105,116] :: e.sd.map Lib.itoa
 else match formL.find? (fun f => f.2.1 == e.kd) with
  | some f => f.1 :: f.2.2.map (ltT e)
  | none => []
def lineT (e : Ev) : List UInt8:=Lib.join (lineW e) [32]
def writT (e : Ev) : List UInt8:=if e.kd = 4 ∧ ¬ (1 ≤ e.op ∧ e.op ≤ 9) then [] else lineT e
noncomputable instance : DecidableEq Ev:=fun _ _ => Classical.propDecidable _
noncomputable def printE (nodes : Int) (e : Ev) : List UInt8 × Int :=
 if 1 ≤ nodes ∧ nodes ≤ 16 then (if writT e ≠ [] ∧ lineE nodes (writT e) = e then (writT e,0) else ([],24)) else ([],1)
theorem itoa_plain (nl : Bool) (x : Int) : Lib.itoa x ≠ [] ∧ ∀ q ∈ Lib.itoa x,plnB nl q = true:=by
 have hd : ∀ n,Lib.decDigits n ≠ [] ∧ ∀ q ∈ Lib.decDigits n,plnB nl q = true:=fun n => by
  have h:=dec_facts n;refine ⟨h.1,fun q hq => ?_⟩;have h1:=h.2.1;rw [List.all_eq_true] at h1;have h2:=of_decide_eq_true (h1 q hq);have e1 : (q.toNat == 32) = false:=by rw [beq_eq_false_iff_ne];omega
  have e2 : (q.toNat == 9) = false:=by rw [beq_eq_false_iff_ne];omega
  have e3 : (q.toNat == 34) = false:=by rw [beq_eq_false_iff_ne];omega
  have e4 : (q.toNat == 10) = false:=by rw [beq_eq_false_iff_ne];omega
  unfold plnB blk;rw [e1,e2,e3,e4]
  cases nl <;> rfl
 unfold Lib.itoa
 split
 ·refine ⟨by simp,fun q hq => ?_⟩
  rcases List.mem_cons.1 hq with rfl | hq
  ·cases nl <;> decide
  ·exact (hd _).2 q hq
 ·exact hd _
theorem do_bad (nodes : Int) (x : Int) : lineE nodes ([100,111] ++ 32 :: Lib.itoa x) = Ev.zero:=by
 have h:=itoa_plain true x
 have hw : wordsG true ([100,111] ++ 32 :: Lib.itoa x) = some [([100,111],false),(Lib.itoa x,false)]:=by
  rw [wds_sep (by simp) (by intro q hq;simp only [List.mem_cons,List.mem_nil_iff,or_false] at hq;rcases hq with rfl | rfl <;> decide) (by decide),wds_last h.1 h.2]
  rfl
 unfold lineE;rw [hw]
 split
 ·show (eventE nodes.toNat [([100,111],false),(Lib.itoa x,false)]).getD Ev.zero = Ev.zero
  have : eventE nodes.toNat [([100,111],false),(Lib.itoa x,false)] = none:=by
   rfl
  rw [this]
  rfl
 ·rfl
theorem print_prog (nodes : Int) (e : Ev) : printE nodes e = if 1 ≤ nodes ∧ nodes ≤ 16 then (if lineT e ≠ [] ∧ lineE nodes (lineT e) = e then (lineT e,0) else ([],24)) else ([],1):=by
 unfold printE
 by_cases h : e.kd = 4 ∧ ¬ (1 ≤ e.op ∧ e.op ≤ 9)
 ·have h1 : writT e = []:=by unfold writT;rw [if_pos h]
  have h2 : lineT e = [100,111] ++ 32 :: Lib.itoa e.a:=by
   unfold lineT lineW;rw [if_pos h.1,if_neg h.2,Lib.join_cons];simp [Lib.joinTail]
  have h3 : ¬ (lineT e ≠ [] ∧ lineE nodes (lineT e) = e):=by
   rintro ⟨_,h4⟩;rw [h2,do_bad] at h4;have:=congrArg Ev.kd h4;rw [h.1] at this
   cases this
  rw [h1];rw [if_neg (show ¬ (([] : List UInt8) ≠ [] ∧ lineE nodes [] = e) from fun h => h.1 rfl),if_neg h3]
 ·have h1 : writT e = lineT e:=by unfold writT;rw [if_neg h]
  rw [h1]
end Go.Proofs.YtcibcmfaebbhnaaGreatDoor
namespace Go.Proofs.YtcibcmfaebbhnaaGreatDoor
open Go.RowKit Go.WideShapes Go.ChangeShapes Q
theorem itoa_min : Lib.itoa (-9223372036854775808) = [45,57,50,50,51,51,55,50,48,51,54,56,53,52,55,55,53,56,48,56]:=by decide +kernel
theorem signed_all (x : Int) (w : World) (h0 : -9223372036854775808 ≤ x) (h1 : x ≤ 9223372036854775807) :
  Calls Tryz.prog 71 #[.int .i64 x] w fun e w' => e = .returned (.string (S (Lib.itoa x))) ∧ Below w.heap.size w w':=by
 by_cases hm : x = -9223372036854775808
 ·subst hm
  rw [itoa_min];go_enter Tryz.func71,Tryz.ntmps71;go_wp2_with fail;go_ret;exact ⟨rfl,Below.refl _ _⟩
 ·exact signed_any x w h0 h1 hm
def I64 (x : Int) : Prop:=-9223372036854775808 ≤ x ∧ x ≤ 9223372036854775807
structure EvOk (m : Em) : Prop where
 a : I64 m.a
 b : I64 m.b
 n : I64 m.n
 sd : ∀ x ∈ m.sd,I64 x
 op : I64 m.op
 bulk : m.ns ≤ 1048576 ∧ m.nb ≤ 1048576 ∧ m.key.size ≤ 1048576 ∧ m.val.size ≤ 1048576 ∧ m.old.size ≤ 1048576
theorem itoa_sz {x : Int} (h : I64 x) : (Lib.itoa x).length ≤ 21:=by
 obtain ⟨h0,h1⟩:=h;unfold Lib.itoa
 split
 ·rw [List.length_cons]
  have : (Lib.decDigits x.natAbs).length ≤ 20:=dec_len 19 _ (Nat.lt_of_le_of_lt (show x.natAbs ≤ 9223372036854775808 by omega) (by decide));omega
 ·have:=dec_len 19 x.toNat (Nat.lt_of_le_of_lt (show x.toNat ≤ 9223372036854775808 by omega) (by decide))
  omega
theorem quote_sz (l : List UInt8) : (quoteL l).length ≤ 4 * l.length + 2:=by
 unfold quoteL;have:=qbs_len l;simp only [List.length_append,List.length_cons,List.length_nil];omega
theorem EmIn.nb_len {w : World} {B : Nat} {m : Em} (h : EmIn w B m) : m.bd.length = m.nb:=by
 have:=Reads.len_ h.body;simpa [Lib.byteCells] using this
theorem reads_up {w : World} {B B' s n : Nat} {A : Option Addr} {xs : List Value} (h : Reads w B s A n xs) (hB : B ≤ B') : Reads w B' s A n xs:=⟨h.1,fun hn => by
 obtain ⟨ad,e,hb,hc⟩:=h.2 hn;exact ⟨ad,e,by omega,hc⟩⟩
theorem EmIn.up {w : World} {B B' : Nat} {m : Em} (h : EmIn w B m) (hB : B ≤ B') : EmIn w B' m:=⟨reads_up h.sid hB,reads_up h.body hB,h.hs,h.hb⟩
theorem lt_sz {m : Em} (h : EvOk m) (hb : m.bd.length = m.nb) : ∀ c,(ltT m.ev c).length ≤ 4194400
 | .P => by have:=itoa_sz h.a;show (Lib.itoa m.a).length ≤ _;omega
 | .K => by have:=itoa_sz h.a;show (Lib.itoa m.a).length ≤ _;omega
 | .Q => by have:=itoa_sz h.b;show (Lib.itoa m.b).length ≤ _;omega
 | .N => by have:=itoa_sz h.n;show (Lib.itoa m.n).length ≤ _;omega
 | .D => by have:=itoa_sz h.n;show (Lib.itoa m.n).length ≤ _;omega
 | .T => by have:=quote_sz m.bd;have:=h.bulk;show (quoteL m.bd).length ≤ _;omega
 | .X => by have:=quote_sz m.bd;have:=h.bulk;show (quoteL m.bd).length ≤ _;omega
theorem part_P (m : Em) (w : World) (h : EmIn w w.heap.size m) (ho : EvOk m) : Calls Tryz.prog 74 #[.agg m.cs,.int .u8 112] w fun e w' => e = .returned (.string (S (Lib.itoa m.a))) ∧ Below w.heap.size w w':=by
 have HS : Hid (∀ W,Calls Tryz.prog 71 #[.int .i64 m.a] W fun e w' => e = .returned (.string (S (Lib.itoa m.a))) ∧ Below W.heap.size W w'):=fun W => signed_all m.a W ho.a.1 ho.a.2
 clear h ho;go_enter Tryz.func74,Tryz.ntmps74;go_upto_region 1 with fail
 generalize hW1 : World.alloc w _ = W1
 have HB1 : Hid (Below w.heap.size w W1):=by
  show Below _ _ _;rw [← hW1];exact (Below.refl _ _).alloc (Nat.le_refl _) _
 have HX1 : Hid (Blk W1 w.heap.size 33 m.cs):=by
  show Blk _ _ _ _;rw [← hW1];exact Blk.new _ _ _
 clear hW1;have k1:=eb1 HX1.out;go_wp2_with (go_at_call 71;refine (HS.out _).mono ?_;rintro e w2 ⟨rfl,hb⟩;have HB2:=hide (HB1.out.trans (hb.mono HB1.out.size));clear hb);go_ret;exact ⟨rfl,HB2.out⟩
theorem part_K (m : Em) (w : World) (h : EmIn w w.heap.size m) (ho : EvOk m) : Calls Tryz.prog 74 #[.agg m.cs,.int .u8 107] w fun e w' => e = .returned (.string (S (Lib.itoa m.a))) ∧ Below w.heap.size w w':=by
 have HS : Hid (∀ W,Calls Tryz.prog 71 #[.int .i64 m.a] W fun e w' => e = .returned (.string (S (Lib.itoa m.a))) ∧ Below W.heap.size W w'):=fun W => signed_all m.a W ho.a.1 ho.a.2
 clear h ho;go_enter Tryz.func74,Tryz.ntmps74;go_upto_region 1 with fail
 generalize hW1 : World.alloc w _ = W1
 have HB1 : Hid (Below w.heap.size w W1):=by
  show Below _ _ _;rw [← hW1];exact (Below.refl _ _).alloc (Nat.le_refl _) _
 have HX1 : Hid (Blk W1 w.heap.size 33 m.cs):=by
  show Blk _ _ _ _;rw [← hW1];exact Blk.new _ _ _
 clear hW1;have k1:=eb1 HX1.out;go_wp2_with (go_at_call 71;refine (HS.out _).mono ?_;rintro e w2 ⟨rfl,hb⟩;have HB2:=hide (HB1.out.trans (hb.mono HB1.out.size));clear hb);go_ret;exact ⟨rfl,HB2.out⟩
theorem part_Q (m : Em) (w : World) (h : EmIn w w.heap.size m) (ho : EvOk m) : Calls Tryz.prog 74 #[.agg m.cs,.int .u8 113] w fun e w' => e = .returned (.string (S (Lib.itoa m.b))) ∧ Below w.heap.size w w':=by
 have HS : Hid (∀ W,Calls Tryz.prog 71 #[.int .i64 m.b] W fun e w' => e = .returned (.string (S (Lib.itoa m.b))) ∧ Below W.heap.size W w'):=fun W => signed_all m.b W ho.b.1 ho.b.2
 clear h ho;go_enter Tryz.func74,Tryz.ntmps74;go_upto_region 1 with fail
 generalize hW1 : World.alloc w _ = W1
 have HB1 : Hid (Below w.heap.size w W1):=by
  show Below _ _ _;rw [← hW1];exact (Below.refl _ _).alloc (Nat.le_refl _) _
 have HX1 : Hid (Blk W1 w.heap.size 33 m.cs):=by
  show Blk _ _ _ _;rw [← hW1];exact Blk.new _ _ _
 clear hW1;have k1:=eb2 HX1.out;go_wp2_with (go_at_call 71;refine (HS.out _).mono ?_;rintro e w2 ⟨rfl,hb⟩;have HB2:=hide (HB1.out.trans (hb.mono HB1.out.size));clear hb);go_ret;exact ⟨rfl,HB2.out⟩
theorem part_N (m : Em) (w : World) (h : EmIn w w.heap.size m) (ho : EvOk m) : Calls Tryz.prog 74 #[.agg m.cs,.int .u8 110] w fun e w' => e = .returned (.string (S (Lib.itoa m.n))) ∧ Below w.heap.size w w':=by
 have HS : Hid (∀ W,Calls Tryz.prog 71 #[.int .i64 m.n] W fun e w' => e = .returned (.string (S (Lib.itoa m.n))) ∧ Below W.heap.size W w'):=fun W => signed_all m.n W ho.n.1 ho.n.2
 clear h ho;go_enter Tryz.func74,Tryz.ntmps74;go_upto_region 1 with fail
 generalize hW1 : World.alloc w _ = W1
 have HB1 : Hid (Below w.heap.size w W1):=by
  show Below _ _ _;rw [← hW1];exact (Below.refl _ _).alloc (Nat.le_refl _) _
 have HX1 : Hid (Blk W1 w.heap.size 33 m.cs):=by
  show Blk _ _ _ _;rw [← hW1];exact Blk.new _ _ _
 clear hW1;have k1:=eb3 HX1.out;go_wp2_with (go_at_call 71;refine (HS.out _).mono ?_;rintro e w2 ⟨rfl,hb⟩;have HB2:=hide (HB1.out.trans (hb.mono HB1.out.size));clear hb);go_ret;exact ⟨rfl,HB2.out⟩
theorem part_D (m : Em) (w : World) (h : EmIn w w.heap.size m) (ho : EvOk m) : Calls Tryz.prog 74 #[.agg m.cs,.int .u8 100] w fun e w' => e = .returned (.string (S (Lib.itoa m.n))) ∧ Below w.heap.size w w':=by
 have HS : Hid (∀ W,Calls Tryz.prog 71 #[.int .i64 m.n] W fun e w' => e = .returned (.string (S (Lib.itoa m.n))) ∧ Below W.heap.size W w'):=fun W => signed_all m.n W ho.n.1 ho.n.2
 clear h ho;go_enter Tryz.func74,Tryz.ntmps74;go_upto_region 1 with fail
 generalize hW1 : World.alloc w _ = W1
 have HB1 : Hid (Below w.heap.size w W1):=by
  show Below _ _ _;rw [← hW1];exact (Below.refl _ _).alloc (Nat.le_refl _) _
 have HX1 : Hid (Blk W1 w.heap.size 33 m.cs):=by
  show Blk _ _ _ _;rw [← hW1];exact Blk.new _ _ _
 clear hW1;have k1:=eb3 HX1.out;go_wp2_with (go_at_call 71;refine (HS.out _).mono ?_;rintro e w2 ⟨rfl,hb⟩;have HB2:=hide (HB1.out.trans (hb.mono HB1.out.size));clear hb);go_ret;exact ⟨rfl,HB2.out⟩
theorem part_T (m : Em) (w : World) (h : EmIn w w.heap.size m) (ho : EvOk m) : Calls Tryz.prog 74 #[.agg m.cs,.int .u8 116] w fun e w' => e = .returned (.string (S (quoteL m.bd))) ∧ Below w.heap.size w w':=by
 have HS : Hid (∀ W,Calls Tryz.prog 69 #[.string (S m.bd)] W fun e w' => e = .returned (.string (S (quoteL m.bd))) ∧ Below W.heap.size W w'):=fun W => by
  have:=Quote_any (S m.bd) W (by rw [S_size,h.nb_len];have:=ho.bulk;omega)
  rwa [S_data] at this
 have HD:=hide h.body;clear h ho;go_enter Tryz.func74,Tryz.ntmps74;go_upto_region 1 with fail
 generalize hW1 : World.alloc w _ = W1
 have HB1 : Hid (Below w.heap.size w W1):=by
  show Below _ _ _;rw [← hW1];exact (Below.refl _ _).alloc (Nat.le_refl _) _
 have HX1 : Hid (Blk W1 w.heap.size 33 m.cs):=by
  show Blk _ _ _ _;rw [← hW1];exact Blk.new _ _ _
 clear hW1;have k1:=eb4 HX1.out;have HC:=conv_reads (c:=m.cb) (Reads.below HD.out HB1.out);go_wp2_with (go_at_call 69;refine (HS.out _).mono ?_;rintro e w2 ⟨rfl,hb⟩;have HB2:=hide (HB1.out.trans (hb.mono HB1.out.size));clear hb);go_ret;exact ⟨rfl,HB2.out⟩
theorem part_X (m : Em) (w : World) (h : EmIn w w.heap.size m) (ho : EvOk m) : Calls Tryz.prog 74 #[.agg m.cs,.int .u8 120] w fun e w' => e = .returned (.string (S (quoteL m.bd))) ∧ Below w.heap.size w w':=by
 have HS : Hid (∀ W,Calls Tryz.prog 69 #[.string (S m.bd)] W fun e w' => e = .returned (.string (S (quoteL m.bd))) ∧ Below W.heap.size W w'):=fun W => by
  have:=Quote_any (S m.bd) W (by rw [S_size,h.nb_len];have:=ho.bulk;omega)
  rwa [S_data] at this
 have HD:=hide h.body;clear h ho;go_enter Tryz.func74,Tryz.ntmps74;go_upto_region 1 with fail
 generalize hW1 : World.alloc w _ = W1
 have HB1 : Hid (Below w.heap.size w W1):=by
  show Below _ _ _;rw [← hW1];exact (Below.refl _ _).alloc (Nat.le_refl _) _
 have HX1 : Hid (Blk W1 w.heap.size 33 m.cs):=by
  show Blk _ _ _ _;rw [← hW1];exact Blk.new _ _ _
 clear hW1;have k1:=eb4 HX1.out;have HC:=conv_reads (c:=m.cb) (Reads.below HD.out HB1.out);go_wp2_with (go_at_call 69;refine (HS.out _).mono ?_;rintro e w2 ⟨rfl,hb⟩;have HB2:=hide (HB1.out.trans (hb.mono HB1.out.size));clear hb);go_ret;exact ⟨rfl,HB2.out⟩
theorem part_any (c : Lt) (m : Em) (w : World) (h : EmIn w w.heap.size m) (ho : EvOk m) : Calls Tryz.prog 74 #[.agg m.cs,.int .u8 ((lrOf c).toNat : Int)] w fun e w' => e = .returned (.string (S (ltT m.ev c))) ∧ Below w.heap.size w w' :=
 match c with
 | .P => part_P m w h ho
 | .K => part_K m w h ho
 | .Q => part_Q m w h ho
 | .N => part_N m w h ho
 | .D => part_D m w h ho
 | .T => part_T m w h ho
 | .X => part_X m w h ho
end Go.Proofs.YtcibcmfaebbhnaaGreatDoor
