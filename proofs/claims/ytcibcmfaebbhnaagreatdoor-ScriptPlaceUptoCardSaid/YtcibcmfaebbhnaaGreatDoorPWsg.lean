/-
  A script in memory; what a text says as a script, plainly. The reference's SameScript: two scripts that say the same. Plain: how an event is written, by the program and by the document. The reference's Signed at every int; its part: one thing of an event written. (Printed by wip/tools/mkwsg.py.)
-/
import Derived.Test.YtcibcmfaebbhnaaGreatDoorPCfgW
import Derived.Test.YtcibcmfaebbhnaaGreatDoorPEpf
import Derived.Test.YtcibcmfaebbhnaaGreatDoorPPpe
import Derived.StillTailTactics
import Derived.Test.YtcibcmfaebbhnaaGreatDoorPNib
import Derived.Test.YtcibcmfaebbhnaaGreatDoorPHdr
import Derived.Test.YtcibcmfaebbhnaaGreatDoorPRead
import Derived.Test.YtcibcmfaebbhnaaGreatDoorPWev
set_option linter.unusedSimpArgs false
set_option linter.unusedVariables false
set_option maxRecDepth 100000
set_option maxHeartbeats 2000000

namespace Go.Proofs.YtcibcmfaebbhnaaGreatDoor
open Go.RowKit Go.WideShapes Go.ChangeShapes Q
structure Sc where
 c : Cfg
 es : List Ev
def Sc.zero : Sc:=⟨Cfg.zero,[]⟩
structure Sm where
 c : Cfg
 A : Option Addr
 k : Nat
 Ae : Option Addr
 ke : Nat
 ms : List Em
def emCells (l : List Em) : List Value:=l.flatMap (·.cs.toList)
theorem emCells_snoc (l : List Em) (m : Em) : emCells (l ++ [m]) = emCells l ++ m.cs.toList:=by simp [emCells]
def Sm.cs (s : Sm) : Array Value:=#[.int .i64 s.c.nodes,.int .i64 s.c.window,.int .i64 s.c.base,.int .i64 s.c.step,.int .i64 s.c.cap,.int .i64 s.c.room,.int .i64 s.c.floor,.slice s.A s.c.votes.length s.k,.slice s.Ae s.ms.length s.ke]
def Sm.sc (s : Sm) : Sc:=⟨s.c,s.ms.map Em.ev⟩
def Sm.zero : Sm:=⟨Cfg.zero,none,0,none,0,[]⟩
theorem sm_size (s : Sm) : s.cs.size = 9:=rfl
theorem sm_all (s : Sm) : s.cs.all (·.oneCell') = true:=by simp [Sm.cs,Value.oneCell']
structure SmU (w : World) (b : Nat) (s : Sm) : Prop where
 cfg : CfU w b s.c s.A s.k
 row : w.ownsRow b 33 13 (.slice s.Ae s.ms.length s.ke) s.ms.length (emCells s.ms)
 ent : ∀ m ∈ s.ms,EmU w b m
 hn : s.ms.length ≤ 4000
structure SmIn (w : World) (B : Nat) (s : Sm) : Prop where
 vot : RI w B s.A s.c.votes.length s.c.votes
 row : Reads w B 13 s.Ae s.ms.length (emCells s.ms)
 ent : ∀ m ∈ s.ms,EmIn w B m
 hv : s.c.votes.length ≤ 17592186044416
 hn : s.ms.length ≤ 17592186044416
section
variable {w w' : World} {b b' B g : Nat} {t : TypeId} {cs : Array Value} {s : Sm}
theorem SmU.inn (h : SmU w b s) : SmIn w w.heap.size s:=⟨h.cfg.reads,Reads.of_own h.row,fun m hm => (h.ent m hm).inn,by have:=h.cfg.hv;omega,by have:=h.hn;omega⟩
theorem SmIn.below (h : SmIn w B s) (hb : Below B w w') : SmIn w' B s:=⟨Reads.below h.vot hb,Reads.below h.row hb,fun m hm => (h.ent m hm).below hb,h.hv,h.hn⟩
theorem SmU.step (h : SmU w b s) (hb : Below w.heap.size w w') : SmU w' b s:=⟨h.cfg.step hb,own_step h.row hb,fun m hm => (h.ent m hm).step hb,h.hn⟩
theorem SmU.base (h : SmU w b s) (hb : b' ≤ b) : SmU w b' s:=⟨h.cfg.base hb,own_base h.row hb,fun m hm => (h.ent m hm).base hb,h.hn⟩
theorem SmU.zero (w : World) (b : Nat) : SmU w b Sm.zero:=⟨CfU.zero w b 0,World.ownsRow_nil _ _ _ _,fun m hm => (by cases hm),Nat.zero_le _⟩
theorem SmU.far (h : SmU w b s) (hg : Blk w g t cs) (h2 : t ≠ 3) (h3 : t ≠ 5) (h4 : t ≠ 33) (ho : Only (fun q => q = g) w w') : SmU w' b s:=by
 refine ⟨h.cfg.far hg h2 ho,own_apart h.row ho ?_,fun m hm => (h.ent m hm).far hg h2 h3 ho,h.hn⟩;intro k hk hq;subst hq;exact ⟨t,cs,hg,h4⟩
end
theorem ld47 (cs : Array Value) (h : cs.size = 9) : (Tryz.prog.info? 27).map (·.size) = some cs.size:=by rw [h];kernel_rfl
theorem sput (Z cs : Array Value) (h : Z.size = 9) (hc : cs.size = 9) : putAt Z 0 cs = cs:=by
 unfold putAt;have h1 : Z.toList.drop (0 + cs.size) = []:=List.drop_eq_nil_of_le (by rw [hc,Array.length_toList,h];omega);rw [h1];simp
theorem run_load47 {w : World} {g : Nat} {cs : Array Value} (h : Blk w g 27 cs) (hc : cs.size = 9) : (loadVar 27 ⟨g,0,none⟩).run Tryz.prog w = .ok (.agg cs) w:=run_load_at w ⟨g,0,none⟩ 27 cs _ Tryz.underlying27 rfl (ld47 _ hc) (box_all h)
theorem run_one29 {o : Oper} {a : Act} {V : World} (x : Operand) (ho : o.op = .buildSlice 25 1 #[(0,x)]) (m : Em) (hx : a.eval x = .agg m.cs) :
  (execOp a.eval o).run Tryz.prog V = .ok (.value (.slice (some ⟨V.heap.size,0,none⟩) 1 1)) (V.alloc (.cells m.cs 33)):=by
 unfold execOp;simp only [ho,List.map_toArray,List.map_cons,List.map_nil,hx];unfold Em.cs;go_simp
theorem ex_build47 {o : Oper} {a : Act} {V : World} (x : Operand) (ho : o.op = .build 27 #[(0,x)]) (c : Cfg) (A : Option Addr) (k : Nat) (hx : a.eval x = .agg (cfC c A k)) :
  (execOp a.eval o).run Tryz.prog V = .ok (.value (.agg (Sm.cs ⟨c,A,k,none,0,[]⟩))) V:=by
 unfold execOp;simp only [ho,List.map_toArray,List.map_cons,List.map_nil,hx];unfold cfC;go_simp
 rfl
theorem emCells_at : ∀ (l : List Em) (k : Nat) (i : Nat) (m : Em),l[k]? = some m → i < 13 → (emCells l)[k * 13 + i]? = m.cs[i]?
 | [],k,i,m,h,hi => by simp at h
 | a :: l,0,i,m,h,hi => by
  have ha : a.cs.toList.length = 13:=by rw [Array.length_toList,em_size]
  obtain rfl : a = m:=by simpa using h
  rw [show 0 * 13 + i = i by omega];show (a.cs.toList ++ emCells l)[i]? = _;rw [List.getElem?_append_left (by omega),Array.getElem?_toList]
 | a :: l,k + 1,i,m,h,hi => by
  have ha : a.cs.toList.length = 13:=by rw [Array.length_toList,em_size]
  show (a.cs.toList ++ emCells l)[(k + 1) * 13 + i]? = _;rw [List.getElem?_append_right (by omega),ha,show (k + 1) * 13 + i - 13 = k * 13 + i by omega];exact emCells_at l k i m (by simpa using h) hi
theorem ems_at {w : World} {B n k : Nat} {A : Option Addr} {l : List Em} (h : Reads w B 13 A n (emCells l)) (hn : l.length = n) (hk : k < n) :
  ∃ b off m,A = some ⟨b,off,none⟩ ∧ b < B ∧ l[k]? = some m ∧ ∀ j v,m.cs[j]? = some v → w.cell? ((⟨b,off + k * 13,none⟩ : Addr).add j) = some v:=by
 obtain ⟨ad,e,hb,hc⟩:=h.2 (by omega);have hm : l[k]? = some (l[k]'(by omega)):=List.getElem?_eq_getElem _;obtain ⟨b,off,spot⟩:=ad;have hm0 : l[0]? = some (l[0]'(by omega)):=List.getElem?_eq_getElem _;have h0:=emCells_at l 0 0 _ hm0 (by omega)
 have hs : spot = none:=by
  have hz : (emCells l)[0]? = some ((l[0]'(by omega)).cs[0]'(by rw [em_size];omega)):=by rw [Nat.zero_mul] at h0;rw [h0];rfl
  have:=World.cell?_spot (hc _ _ hz);simpa [Addr.add] using this
 subst hs;refine ⟨b,off,_,e,hb,hm,fun j v hv => ?_⟩;have hj : j < 13:=by have:=(Array.getElem?_eq_some_iff.1 hv).1;rw [em_size] at this;exact this
 have h1:=emCells_at l k j _ hm hj;have h3:=hc _ _ (h1.trans hv);rw [← h3]
 congr 1
 unfold Addr.add
 split
 ·rename_i hz;subst hz;split
  ·rename_i h0;simp [h0]
  ·simp
 ·split
  ·omega
  ·simp;omega
theorem EmIn.more {w : World} {B B' : Nat} {m : Em} (h : EmIn w B m) (hB : B ≤ B') : EmIn w B' m:=⟨Reads.more h.sid hB,Reads.more h.body hB,h.hs,h.hb⟩
theorem EmIn.drew {w : World} {B : Nat} {m : Em} (h : EmIn w B m) : EmIn w.drew B m:=⟨Reads.drew h.sid,Reads.drew h.body,h.hs,h.hb⟩
end Go.Proofs.YtcibcmfaebbhnaaGreatDoor
namespace Go.Proofs.YtcibcmfaebbhnaaGreatDoor
open Go
def ltT (e : Ev) : Lt → List UInt8
 | .P => Lib.itoa e.a
 | .K => Lib.itoa e.a
 | .Q => Lib.itoa e.b
 | .N => Lib.itoa e.n
 | .D => Lib.itoa e.n
 | .T => quoteL e.bd
 | .X => quoteL e.bd
def askW (e : Ev) : List (List UInt8):=opL.getD (e.op.toNat - 1) [] :: quoteL e.key :: ((if e.val ≠ [] ∨ e.old ≠ [] then [quoteL e.val] else []) ++ (if e.old ≠ [] then [quoteL e.old] else []))
def lineW (e : Ev) : List (List UInt8) :=
 if e.kd = 4 then [100,111] :: Lib.itoa e.a :: (if 1 ≤ e.op ∧ e.op ≤ 9 then askW e else [])
 else if e.kd = 11 then [115,112,108,105,116] :: e.sd.map Lib.itoa
 else match formL.find? (fun f => f.2.1 == e.kd) with
  | some f => f.1 :: f.2.2.map (ltT e)
  | none => []
def lineT (e : Ev) : List UInt8:=Lib.join (lineW e) [32]
def writT (e : Ev) : List UInt8:=if e.kd = 4 ∧ ¬ (1 ≤ e.op ∧ e.op ≤ 9) then [] else lineT e
noncomputable instance : DecidableEq Ev:=fun _ _ => Classical.propDecidable _
noncomputable def printE (nodes : Int) (e : Ev) : List UInt8 × Int :=
 if 1 ≤ nodes ∧ nodes ≤ 16 then (if writT e ≠ [] ∧ lineE nodes (writT e) = e then (writT e,0) else ([],24)) else ([],1)
theorem itoa_plain (nl : Bool) (x : Int) : Lib.itoa x ≠ [] ∧ ∀ q ∈ Lib.itoa x,plnB nl q = true:=by
 have hd : ∀ n,Lib.decDigits n ≠ [] ∧ ∀ q ∈ Lib.decDigits n,plnB nl q = true:=fun n => by
  have h:=dec_facts n;refine ⟨h.1,fun q hq => ?_⟩;have h1:=h.2.1;rw [List.all_eq_true] at h1;have h2:=of_decide_eq_true (h1 q hq);have e1 : (q.toNat == 32) = false:=by rw [beq_eq_false_iff_ne];omega
  have e2 : (q.toNat == 9) = false:=by rw [beq_eq_false_iff_ne];omega
  have e3 : (q.toNat == 34) = false:=by rw [beq_eq_false_iff_ne];omega
  have e4 : (q.toNat == 10) = false:=by rw [beq_eq_false_iff_ne];omega
  unfold plnB blk;rw [e1,e2,e3,e4]
  cases nl <;> rfl
 unfold Lib.itoa
 split
 ·refine ⟨by simp,fun q hq => ?_⟩
  rcases List.mem_cons.1 hq with rfl | hq
  ·cases nl <;> decide
  ·exact (hd _).2 q hq
 ·exact hd _
theorem do_bad (nodes : Int) (x : Int) : lineE nodes ([100,111] ++ 32 :: Lib.itoa x) = Ev.zero:=by
 have h:=itoa_plain true x
 have hw : wordsG true ([100,111] ++ 32 :: Lib.itoa x) = some [([100,111],false),(Lib.itoa x,false)]:=by
  rw [wds_sep (by simp) (by intro q hq;simp only [List.mem_cons,List.mem_nil_iff,or_false] at hq;rcases hq with rfl | rfl <;> decide) (by decide),wds_last h.1 h.2]
  rfl
 unfold lineE;rw [hw]
 split
 ·show (eventE nodes.toNat [([100,111],false),(Lib.itoa x,false)]).getD Ev.zero = Ev.zero
  have : eventE nodes.toNat [([100,111],false),(Lib.itoa x,false)] = none:=by
   rfl
  rw [this]
  rfl
 ·rfl
theorem print_prog (nodes : Int) (e : Ev) : printE nodes e = if 1 ≤ nodes ∧ nodes ≤ 16 then (if lineT e ≠ [] ∧ lineE nodes (lineT e) = e then (lineT e,0) else ([],24)) else ([],1):=by
 unfold printE
 by_cases h : e.kd = 4 ∧ ¬ (1 ≤ e.op ∧ e.op ≤ 9)
 ·have h1 : writT e = []:=by unfold writT;rw [if_pos h]
  have h2 : lineT e = [100,111] ++ 32 :: Lib.itoa e.a:=by
   unfold lineT lineW;rw [if_pos h.1,if_neg h.2,Lib.join_cons];simp [Lib.joinTail]
  have h3 : ¬ (lineT e ≠ [] ∧ lineE nodes (lineT e) = e):=by
   rintro ⟨_,h4⟩;rw [h2,do_bad] at h4;have:=congrArg Ev.kd h4;rw [h.1] at this
   cases this
  rw [h1];rw [if_neg (show ¬ (([] : List UInt8) ≠ [] ∧ lineE nodes [] = e) from fun h => h.1 rfl),if_neg h3]
 ·have h1 : writT e = lineT e:=by unfold writT;rw [if_neg h]
  rw [h1]
end Go.Proofs.YtcibcmfaebbhnaaGreatDoor
namespace Go.Proofs.YtcibcmfaebbhnaaGreatDoor
open Go.RowKit Go.WideShapes Go.ChangeShapes Q
theorem itoa_min : Lib.itoa (-9223372036854775808) = [45,57,50,50,51,51,55,50,48,51,54,56,53,52,55,55,53,56,48,56]:=by decide +kernel
theorem signed_all (x : Int) (w : World) (h0 : -9223372036854775808 ≤ x) (h1 : x ≤ 9223372036854775807) :
  Calls Tryz.prog 71 #[.int .i64 x] w fun e w' => e = .returned (.string (S (Lib.itoa x))) ∧ Below w.heap.size w w':=by
 by_cases hm : x = -9223372036854775808
 ·subst hm
  rw [itoa_min];go_enter Tryz.func71,Tryz.ntmps71;go_wp2_with fail;go_ret;exact ⟨rfl,Below.refl _ _⟩
 ·exact signed_any x w h0 h1 hm
def I64 (x : Int) : Prop:=-9223372036854775808 ≤ x ∧ x ≤ 9223372036854775807
structure EvOk (m : Em) : Prop where
 a : I64 m.a
 b : I64 m.b
 n : I64 m.n
 sd : ∀ x ∈ m.sd,I64 x
 op : I64 m.op
 bulk : m.ns ≤ 1048576 ∧ m.nb ≤ 1048576 ∧ m.key.size ≤ 1048576 ∧ m.val.size ≤ 1048576 ∧ m.old.size ≤ 1048576
theorem itoa_sz {x : Int} (h : I64 x) : (Lib.itoa x).length ≤ 21:=by
 obtain ⟨h0,h1⟩:=h;unfold Lib.itoa
 split
 ·rw [List.length_cons]
  have : (Lib.decDigits x.natAbs).length ≤ 20:=dec_len 19 _ (Nat.lt_of_le_of_lt (show x.natAbs ≤ 9223372036854775808 by omega) (by decide));omega
 ·have:=dec_len 19 x.toNat (Nat.lt_of_le_of_lt (show x.toNat ≤ 9223372036854775808 by omega) (by decide))
  omega
theorem quote_sz (l : List UInt8) : (quoteL l).length ≤ 4 * l.length + 2:=by
 unfold quoteL;have:=qbs_len l;simp only [List.length_append,List.length_cons,List.length_nil];omega
theorem EmIn.nb_len {w : World} {B : Nat} {m : Em} (h : EmIn w B m) : m.bd.length = m.nb:=by
 have:=Reads.len_ h.body;simpa [Lib.byteCells] using this
theorem reads_up {w : World} {B B' s n : Nat} {A : Option Addr} {xs : List Value} (h : Reads w B s A n xs) (hB : B ≤ B') : Reads w B' s A n xs:=⟨h.1,fun hn => by
 obtain ⟨ad,e,hb,hc⟩:=h.2 hn;exact ⟨ad,e,by omega,hc⟩⟩
theorem EmIn.up {w : World} {B B' : Nat} {m : Em} (h : EmIn w B m) (hB : B ≤ B') : EmIn w B' m:=⟨reads_up h.sid hB,reads_up h.body hB,h.hs,h.hb⟩
theorem lt_sz {m : Em} (h : EvOk m) (hb : m.bd.length = m.nb) : ∀ c,(ltT m.ev c).length ≤ 4194400
 | .P => by have:=itoa_sz h.a;show (Lib.itoa m.a).length ≤ _;omega
 | .K => by have:=itoa_sz h.a;show (Lib.itoa m.a).length ≤ _;omega
 | .Q => by have:=itoa_sz h.b;show (Lib.itoa m.b).length ≤ _;omega
 | .N => by have:=itoa_sz h.n;show (Lib.itoa m.n).length ≤ _;omega
 | .D => by have:=itoa_sz h.n;show (Lib.itoa m.n).length ≤ _;omega
 | .T => by have:=quote_sz m.bd;have:=h.bulk;show (quoteL m.bd).length ≤ _;omega
 | .X => by have:=quote_sz m.bd;have:=h.bulk;show (quoteL m.bd).length ≤ _;omega
theorem part_P (m : Em) (w : World) (h : EmIn w w.heap.size m) (ho : EvOk m) : Calls Tryz.prog 74 #[.agg m.cs,.int .u8 112] w fun e w' => e = .returned (.string (S (Lib.itoa m.a))) ∧ Below w.heap.size w w':=by
 have HS : Hid (∀ W,Calls Tryz.prog 71 #[.int .i64 m.a] W fun e w' => e = .returned (.string (S (Lib.itoa m.a))) ∧ Below W.heap.size W w'):=fun W => signed_all m.a W ho.a.1 ho.a.2
 clear h ho;go_enter Tryz.func74,Tryz.ntmps74;go_upto_region 1 with fail
 generalize hW1 : World.alloc w _ = W1
 have HB1 : Hid (Below w.heap.size w W1):=by
  show Below _ _ _;rw [← hW1];exact (Below.refl _ _).alloc (Nat.le_refl _) _
 have HX1 : Hid (Blk W1 w.heap.size 33 m.cs):=by
  show Blk _ _ _ _;rw [← hW1];exact Blk.new _ _ _
 clear hW1;have k1:=eb1 HX1.out;go_wp2_with (go_at_call 71;refine (HS.out _).mono ?_;rintro e w2 ⟨rfl,hb⟩;have HB2:=hide (HB1.out.trans (hb.mono HB1.out.size));clear hb);go_ret;exact ⟨rfl,HB2.out⟩
theorem part_K (m : Em) (w : World) (h : EmIn w w.heap.size m) (ho : EvOk m) : Calls Tryz.prog 74 #[.agg m.cs,.int .u8 107] w fun e w' => e = .returned (.string (S (Lib.itoa m.a))) ∧ Below w.heap.size w w':=by
 have HS : Hid (∀ W,Calls Tryz.prog 71 #[.int .i64 m.a] W fun e w' => e = .returned (.string (S (Lib.itoa m.a))) ∧ Below W.heap.size W w'):=fun W => signed_all m.a W ho.a.1 ho.a.2
 clear h ho;go_enter Tryz.func74,Tryz.ntmps74;go_upto_region 1 with fail
 generalize hW1 : World.alloc w _ = W1
 have HB1 : Hid (Below w.heap.size w W1):=by
  show Below _ _ _;rw [← hW1];exact (Below.refl _ _).alloc (Nat.le_refl _) _
 have HX1 : Hid (Blk W1 w.heap.size 33 m.cs):=by
  show Blk _ _ _ _;rw [← hW1];exact Blk.new _ _ _
 clear hW1;have k1:=eb1 HX1.out;go_wp2_with (go_at_call 71;refine (HS.out _).mono ?_;rintro e w2 ⟨rfl,hb⟩;have HB2:=hide (HB1.out.trans (hb.mono HB1.out.size));clear hb);go_ret;exact ⟨rfl,HB2.out⟩
theorem part_Q (m : Em) (w : World) (h : EmIn w w.heap.size m) (ho : EvOk m) : Calls Tryz.prog 74 #[.agg m.cs,.int .u8 113] w fun e w' => e = .returned (.string (S (Lib.itoa m.b))) ∧ Below w.heap.size w w':=by
 have HS : Hid (∀ W,Calls Tryz.prog 71 #[.int .i64 m.b] W fun e w' => e = .returned (.string (S (Lib.itoa m.b))) ∧ Below W.heap.size W w'):=fun W => signed_all m.b W ho.b.1 ho.b.2
 clear h ho;go_enter Tryz.func74,Tryz.ntmps74;go_upto_region 1 with fail
 generalize hW1 : World.alloc w _ = W1
 have HB1 : Hid (Below w.heap.size w W1):=by
  show Below _ _ _;rw [← hW1];exact (Below.refl _ _).alloc (Nat.le_refl _) _
 have HX1 : Hid (Blk W1 w.heap.size 33 m.cs):=by
  show Blk _ _ _ _;rw [← hW1];exact Blk.new _ _ _
 clear hW1;have k1:=eb2 HX1.out;go_wp2_with (go_at_call 71;refine (HS.out _).mono ?_;rintro e w2 ⟨rfl,hb⟩;have HB2:=hide (HB1.out.trans (hb.mono HB1.out.size));clear hb);go_ret;exact ⟨rfl,HB2.out⟩
theorem part_N (m : Em) (w : World) (h : EmIn w w.heap.size m) (ho : EvOk m) : Calls Tryz.prog 74 #[.agg m.cs,.int .u8 110] w fun e w' => e = .returned (.string (S (Lib.itoa m.n))) ∧ Below w.heap.size w w':=by
 have HS : Hid (∀ W,Calls Tryz.prog 71 #[.int .i64 m.n] W fun e w' => e = .returned (.string (S (Lib.itoa m.n))) ∧ Below W.heap.size W w'):=fun W => signed_all m.n W ho.n.1 ho.n.2
 clear h ho;go_enter Tryz.func74,Tryz.ntmps74;go_upto_region 1 with fail
 generalize hW1 : World.alloc w _ = W1
 have HB1 : Hid (Below w.heap.size w W1):=by
  show Below _ _ _;rw [← hW1];exact (Below.refl _ _).alloc (Nat.le_refl _) _
 have HX1 : Hid (Blk W1 w.heap.size 33 m.cs):=by
  show Blk _ _ _ _;rw [← hW1];exact Blk.new _ _ _
 clear hW1;have k1:=eb3 HX1.out;go_wp2_with (go_at_call 71;refine (HS.out _).mono ?_;rintro e w2 ⟨rfl,hb⟩;have HB2:=hide (HB1.out.trans (hb.mono HB1.out.size));clear hb);go_ret;exact ⟨rfl,HB2.out⟩
theorem part_D (m : Em) (w : World) (h : EmIn w w.heap.size m) (ho : EvOk m) : Calls Tryz.prog 74 #[.agg m.cs,.int .u8 100] w fun e w' => e = .returned (.string (S (Lib.itoa m.n))) ∧ Below w.heap.size w w':=by
 have HS : Hid (∀ W,Calls Tryz.prog 71 #[.int .i64 m.n] W fun e w' => e = .returned (.string (S (Lib.itoa m.n))) ∧ Below W.heap.size W w'):=fun W => signed_all m.n W ho.n.1 ho.n.2
 clear h ho;go_enter Tryz.func74,Tryz.ntmps74;go_upto_region 1 with fail
 generalize hW1 : World.alloc w _ = W1
 have HB1 : Hid (Below w.heap.size w W1):=by
  show Below _ _ _;rw [← hW1];exact (Below.refl _ _).alloc (Nat.le_refl _) _
 have HX1 : Hid (Blk W1 w.heap.size 33 m.cs):=by
  show Blk _ _ _ _;rw [← hW1];exact Blk.new _ _ _
 clear hW1;have k1:=eb3 HX1.out;go_wp2_with (go_at_call 71;refine (HS.out _).mono ?_;rintro e w2 ⟨rfl,hb⟩;have HB2:=hide (HB1.out.trans (hb.mono HB1.out.size));clear hb);go_ret;exact ⟨rfl,HB2.out⟩
theorem part_T (m : Em) (w : World) (h : EmIn w w.heap.size m) (ho : EvOk m) : Calls Tryz.prog 74 #[.agg m.cs,.int .u8 116] w fun e w' => e = .returned (.string (S (quoteL m.bd))) ∧ Below w.heap.size w w':=by
 have HS : Hid (∀ W,Calls Tryz.prog 69 #[.string (S m.bd)] W fun e w' => e = .returned (.string (S (quoteL m.bd))) ∧ Below W.heap.size W w'):=fun W => by
  have:=Quote_any (S m.bd) W (by rw [S_size,h.nb_len];have:=ho.bulk;omega)
  rwa [S_data] at this
 have HD:=hide h.body;clear h ho;go_enter Tryz.func74,Tryz.ntmps74;go_upto_region 1 with fail
 generalize hW1 : World.alloc w _ = W1
 have HB1 : Hid (Below w.heap.size w W1):=by
  show Below _ _ _;rw [← hW1];exact (Below.refl _ _).alloc (Nat.le_refl _) _
 have HX1 : Hid (Blk W1 w.heap.size 33 m.cs):=by
  show Blk _ _ _ _;rw [← hW1];exact Blk.new _ _ _
 clear hW1;have k1:=eb4 HX1.out;have HC:=conv_reads (c:=m.cb) (Reads.below HD.out HB1.out);go_wp2_with (go_at_call 69;refine (HS.out _).mono ?_;rintro e w2 ⟨rfl,hb⟩;have HB2:=hide (HB1.out.trans (hb.mono HB1.out.size));clear hb);go_ret;exact ⟨rfl,HB2.out⟩
theorem part_X (m : Em) (w : World) (h : EmIn w w.heap.size m) (ho : EvOk m) : Calls Tryz.prog 74 #[.agg m.cs,.int .u8 120] w fun e w' => e = .returned (.string (S (quoteL m.bd))) ∧ Below w.heap.size w w':=by
 have HS : Hid (∀ W,Calls Tryz.prog 69 #[.string (S m.bd)] W fun e w' => e = .returned (.string (S (quoteL m.bd))) ∧ Below W.heap.size W w'):=fun W => by
  have:=Quote_any (S m.bd) W (by rw [S_size,h.nb_len];have:=ho.bulk;omega)
  rwa [S_data] at this
 have HD:=hide h.body;clear h ho;go_enter Tryz.func74,Tryz.ntmps74;go_upto_region 1 with fail
 generalize hW1 : World.alloc w _ = W1
 have HB1 : Hid (Below w.heap.size w W1):=by
  show Below _ _ _;rw [← hW1];exact (Below.refl _ _).alloc (Nat.le_refl _) _
 have HX1 : Hid (Blk W1 w.heap.size 33 m.cs):=by
  show Blk _ _ _ _;rw [← hW1];exact Blk.new _ _ _
 clear hW1;have k1:=eb4 HX1.out;have HC:=conv_reads (c:=m.cb) (Reads.below HD.out HB1.out);go_wp2_with (go_at_call 69;refine (HS.out _).mono ?_;rintro e w2 ⟨rfl,hb⟩;have HB2:=hide (HB1.out.trans (hb.mono HB1.out.size));clear hb);go_ret;exact ⟨rfl,HB2.out⟩
theorem part_any (c : Lt) (m : Em) (w : World) (h : EmIn w w.heap.size m) (ho : EvOk m) : Calls Tryz.prog 74 #[.agg m.cs,.int .u8 ((lrOf c).toNat : Int)] w fun e w' => e = .returned (.string (S (ltT m.ev c))) ∧ Below w.heap.size w w' :=
 match c with
 | .P => part_P m w h ho
 | .K => part_K m w h ho
 | .Q => part_Q m w h ho
 | .N => part_N m w h ho
 | .D => part_D m w h ho
 | .T => part_T m w h ho
 | .X => part_X m w h ho
end Go.Proofs.YtcibcmfaebbhnaaGreatDoor
