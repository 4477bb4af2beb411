/-
  What the walk of the program's mark shares: what stays while parts are laid behind one another, and the contracts of what it calls. The reference's PrintTrace.
-/
import Derived.Test.YtcibcmfaebbhnaaGreatDoorPTBox
import Derived.Test.YtcibcmfaebbhnaaGreatDoorPHdr
import Derived.Lib.AppendStr
import Derived.Test.YtcibcmfaebbhnaaGreatDoorPTLin
import Derived.Test.YtcibcmfaebbhnaaGreatDoorPWords
set_option linter.unusedSimpArgs false
set_option linter.unusedVariables false
set_option maxRecDepth 100000
set_option maxHeartbeats 8000000

namespace Go.Proofs.YtcibcmfaebbhnaaGreatDoor.Tr
open Go.RowKit Go.WideShapes Go.ChangeShapes Q
theorem PL.step {w w' : World} {base pl : Nat} {ls : List (List UInt8)} (h : PL w base pl ls) (hb : Below w.heap.size w w') : PL w' base pl ls:=by
 obtain ⟨A,c,h1,h2⟩:=h.ex;exact ⟨h.lo,A,c,h1.below hb h1.lt,own_step h2 hb⟩
theorem part_keep (b : Bool) (nm v : List UInt8) (base pl : Nat) (ls : List (List UInt8)) (w : World) (h : PL w base pl ls) (hn : nm.length ≤ 1000) (hv : v.length ≤ 140000000000000) (hl : ls.length ≤ 1000) (hb : base ≤ w.heap.size) :
  Calls Tryz.prog 55 #[.bool b,.string (S nm),.string (S v),.pointer (some ⟨pl,0,none⟩)] w fun e w' => e = .returned (.tuple #[]) ∧ PL w' base pl (addP b ls nm v) ∧ Below base w w' ∧ ∀ g t cs,Blk w g t cs → t ≠ 101 → t ≠ 9 → Blk w' g t cs:=by
 have HPL:=hide h
 cases b with
 | false =>
  go_enter Tryz.func55,Tryz.ntmps55;go_wp2_with fail;refine bodyPost_end (results_none rfl _ _ _) rfl ?_;exact ⟨rfl,HPL.out,Below.refl _ _,fun _ _ _ h _ _ => h⟩
 | true =>
  obtain ⟨A,c,hblk,hown⟩:=h.ex;have hc0 : w.cell? ⟨pl,0,none⟩ = some (.slice A ls.length c):=by have:=hblk.cell 0;simpa using this
  have hf0:=hblk.frozen 0;obtain ⟨i9,hi9,hz9,hs9,hb9⟩:=info_parts info9;have I9:=hide hi9;have HO:=hide hown;have HB:=hide hblk;have hs1 : ¬ 9223372036854775807 < (S nm).size + 1:=by rw [S_size];omega
  have hs2 : ¬ 9223372036854775807 < (S nm).size + 1 + (S v).size:=by rw [S_size,S_size];omega
  have HKP : Hid (∀ w7 row,(∀ g,row = some g → (∃ cs,Blk w g 9 cs) ∨ w.heap.size ≤ g) → w.grownBy w7 row → ∀ g t cs,Blk w g t cs → t ≠ 9 → Blk w7 g t cs):=by
   intro w7 row hrow hg g t cs hB ht;refine hB.grown hg ?_;intro e
   rcases hrow g e.symm with ⟨cs',h'⟩ | h'
   ·exact Blk.ne_ hB (t':=9) h' ht rfl
   ·have:=hB.lt;omega
  clear hblk hown hi9;go_enter Tryz.func55,Tryz.ntmps55;have hlo:=h.lo;go_wp2_with (at_builtin;refine wpList_push (W:=w) (cs:=#[.string (S nm ++ { data:=#[61] } ++ S v)]) ?_ (.tmp 8) (.tmp 13) 101 ?_ base 9 i9 (.string { data:=#[] }) 1 16 Tryz.underlying101 I9.out hz9 hs9 hb9 rfl ?_ (.slice A ls.length c) ls.length (strs ls) ?_ HO.out 1 1 ?_ ?_ ?_ ?_ ?_ ?_ hb ?_;rfl;rfl;omega;rfl;rfl;rfl;(simp [Value.oneCell']);omega;(unfold maxLen;omega);omega;intro g7 c7 w7 hown7 hgr7 hb7 _ _ _;have hB7:=Blk.grown (HB.out.alloc _) hgr7 (own_ne HO.out HB.out (by decide));have HK7 : Hid (∀ g t cs,Blk w g t cs → t ≠ 9 → Blk w7 g t cs):=(fun g t cs hg ht => (hg.alloc _).grown hgr7 (own_ne HO.out hg ht));have hc7 : w7.cell? ⟨pl,0,none⟩ = some (.slice A ls.length c):=(by have:=hB7.cell 0;simpa using this);have hf7:=hB7.frozen 0;have HB7:=hide hB7;have HO7:=hide hown7;have HL7:=hide hb7;clear hB7 hown7 hgr7 hb7);refine bodyPost_end (results_none rfl _ _ _) rfl ?_;have hne:=own_ne HO7.out HB7.out (by decide);refine ⟨rfl,⟨hlo,some ⟨g7,0,none⟩,c7,?_,?_⟩,HL7.out.setCell hlo _,?_⟩
  ·have:=HB7.out.set_ 0 (.slice (some ⟨g7,0,none⟩) (ls.length + 1) c7)
   rw [show addP true ls nm v = ls ++ [nm ++ [61] ++ v] from rfl,List.length_append];exact this
  ·rw [show addP true ls nm v = ls ++ [nm ++ [61] ++ v] from rfl,strs_append,List.length_append]
   refine ownsRow_setCell_other ?_ (fun e => hne e.symm) _
   have e1 : strs [nm ++ [61] ++ v] = [.string (S nm ++ { data:=#[61] } ++ S v)]:=by
    show [Value.string (S (nm ++ [61] ++ v))] = _;rw [← S_append,← S_append]
    rfl
   rw [e1];exact HO7.out
  ·intro g t cs hg h66 h9
   refine (HK7.out g t cs hg h9).far ?_ _;exact Blk.ne_ hg (t':=101) HB.out h66
structure KT (w : World) : Prop where
 lt : 0 < w.heap.size
 at_ : ∀ k,k < 17 → w.cell? ⟨0,k,none⟩ = kindV[k]?
theorem KT.below {w w' : World} (h : KT w) (hb : Below w.heap.size w w') : KT w':=⟨Nat.lt_of_lt_of_le h.lt hb.size,fun k hk => (hb.cell (p:=⟨0,k,none⟩) h.lt).trans (h.at_ k hk)⟩
structure MX (m : Mk) (w V : World) (pl : Nat) (ls : List (List UInt8)) : Prop where
 bx : BX m w V
 pl : PL V (w.heap.size + 1) pl ls
section
variable {m : Mk} {w V V' : World} {pl : Nat} {ls : List (List UInt8)}
theorem MX.step (h : MX m w V pl ls) (hb : Below V.heap.size V V') : MX m w V' pl ls:=⟨h.bx.step hb,h.pl.step hb⟩
theorem MX.drew (h : MX m w V pl ls) : MX m w V.drew pl ls:=⟨h.bx.drew,h.pl.step (below_drewN (Below.refl _ _) 1)⟩
theorem MX.alloc (h : MX m w V pl ls) (o : Obj) : MX m w (V.alloc o) pl ls:=⟨h.bx.alloc o,h.pl.step ((Below.refl _ _).alloc (Nat.le_refl _) o)⟩
theorem MX.part (h : MX m w V pl ls) (b : Bool) (nm v : List UInt8) (hn : nm.length ≤ 1000) (hv : v.length ≤ 140000000000000) (hl : ls.length ≤ 1000) :
  Calls Tryz.prog 55 #[.bool b,.string (S nm),.string (S v),.pointer (some ⟨pl,0,none⟩)] V fun e V' => e = .returned (.tuple #[]) ∧ MX m w V' pl (addP b ls nm v) ∧ ∀ g t cs,Blk V g t cs → t ≠ 101 → t ≠ 9 → Blk V' g t cs:=by
 have hlt:=h.bx.box.lt;refine (part_keep b nm v (w.heap.size + 1) pl ls V h.pl hn hv hl hlt).mono ?_;rintro e V' ⟨he,hp,hb,hk⟩;exact ⟨he,⟨⟨h.bx.box.below hb (by omega),h.bx.low.trans (hb.mono (by omega))⟩,hp⟩,hk⟩
end
section
variable {o : Oper} {a : Act} {V : World}
theorem ex_gtr {n : Nat} (x y : Operand) (ho : o.op = .binOp .gtr 3 x y 3) (hx : a.eval x = .int .i64 (n : Int)) (hy : a.eval y = .int .i64 0) :
  (execOp a.eval o).run Tryz.prog V = .ok (.value (.bool (decide (0 < n)))) V:=by
 unfold execOp;simp only [ho,hx,hy]
 by_cases h : 0 < n
 ·have h2 : (0 : Int) < (n : Int):=by omega
  go_simp
  try simp [h,h2]
 ·have h2 : ¬ (0 : Int) < (n : Int):=by omega
  go_simp
  try simp [h,h2]
theorem ex_neq {z : Int} (x y : Operand) (ho : o.op = .binOp .neq 3 x y 3) (hx : a.eval x = .int .i64 z) (hy : a.eval y = .int .i64 0) :
  (execOp a.eval o).run Tryz.prog V = .ok (.value (.bool (z != 0))) V:=by
 unfold execOp;simp only [ho,hx,hy]
 by_cases h : z = 0
 ·go_simp
  try simp [h]
 ·go_simp
  try simp [h]
theorem ex_neqE {z : Int} (x y : Operand) (ho : o.op = .binOp .neq 49 x y 49) (hx : a.eval x = .int .i64 z) (hy : a.eval y = .int .i64 0) :
  (execOp a.eval o).run Tryz.prog V = .ok (.value (.bool (z != 0))) V:=by
 unfold execOp;simp only [ho,hx,hy]
 by_cases h : z = 0
 ·go_simp
  try simp [h]
 ·go_simp
  try simp [h]
end
theorem itoI {x : Int} (h : Fit x) {w : World} (hT : Tab w) : Calls Tryz.prog 54 #[.int .i64 x] w fun e w' => e = .returned (.string (S (Lib.itoa x))) ∧ Below w.heap.size w w':=itoa_any x w h.1 h.2 hT
theorem join4 {a b c d : Int} (h1 : Fit a) (h2 : Fit b) (h3 : Fit c) (h4 : Fit d) {w : World} (hT : Tab w) (g : Nat) (hB : Blk w g 3 #[.int .i64 a,.int .i64 b,.int .i64 c,.int .i64 d]) :
  Calls Tryz.prog 56 #[.slice (some ⟨g,0,none⟩) 4 4,.string (S [47])] w fun e w' => e = .returned (.string (S (sl4 a b c d))) ∧ Below w.heap.size w w' :=
 joined_any _ w.heap.size 4 4 [a,b,c,d] [47] w (ri_of_blk (l:=[a,b,c,d]) hB) (Nat.le_refl _) (by intro x hx;simp at hx;rcases hx with rfl | rfl | rfl | rfl <;> assumption) (by omega) (by decide) hT
theorem join3 {a b c : Int} (h1 : Fit a) (h2 : Fit b) (h3 : Fit c) {w : World} (hT : Tab w) (g : Nat) (hB : Blk w g 3 #[.int .i64 a,.int .i64 b,.int .i64 c]) :
  Calls Tryz.prog 56 #[.slice (some ⟨g,0,none⟩) 3 3,.string (S [47])] w fun e w' => e = .returned (.string (S (triI (a,b,c)))) ∧ Below w.heap.size w w' :=
 joined_any _ w.heap.size 3 3 [a,b,c] [47] w (ri_of_blk (l:=[a,b,c]) hB) (Nat.le_refl _) (by intro x hx;simp at hx;rcases hx with rfl | rfl | rfl <;> assumption) (by omega) (by decide) hT
theorem quoteI {s : ByteArray} (h : s.size ≤ 1048576) {w : World} : Calls Tryz.prog 58 #[.string s] w fun e w' => e = .returned (.string (S (quoteL s.data.toList))) ∧ Below w.heap.size w w':=quote_any s w (by omega)
theorem join_none (sep : List UInt8) (w : World) : Calls Tryz.prog 57 #[.slice none 0 0,.string (S sep)] w fun e w' => e = .returned (.string (S [])) ∧ Below w.heap.size w w':=by
 go_enter Tryz.func57,Tryz.ntmps57;go_wp2_with fail;go_ret;exact ⟨rfl,Below.refl _ _⟩
theorem join_own {A : Option Addr} {n c base : Nat} {ls : List (List UInt8)} {sep : List UInt8} {w : World} (ho : w.ownsRow base 9 1 (.slice A n c) n (strs ls)) (hn : n ≤ 140737488355328) (hlen : (Lib.join ls sep).length ≤ 140737488355328) :
  Calls Tryz.prog 57 #[.slice A n c,.string (S sep)] w fun e w' => e = .returned (.string (S (Lib.join ls sep))) ∧ Below w.heap.size w w':=by
 have hl : ls.length = n:=by have:=ho.1;simpa [strs] using this
 rcases ho.2 with ⟨h0,h1⟩ | ⟨g,cap,cur,h0,hbase,hblk,hnc,hcm,hsz,htk⟩
 ·injection h0 with e1 e2 e3
  subst e1 e2 e3;obtain rfl : ls = []:=List.length_eq_zero_iff.1 hl;exact join_none sep w
 ·injection h0 with e1 e2 e3
  subst e1 e3;subst hl;refine join_any g c ls sep w (fun j l hj => ?_) (Blk.lt hblk) hn hnc hlen;have:=World.ownsRow.cells (g:=g) ho rfl j (.string (S l)) (by unfold strs;rw [List.getElem?_map,hj];rfl)
  have e : (⟨g,0,none⟩ : Addr).add j = ⟨g,j,none⟩:=by
   unfold Addr.add
   split
   ·rename_i h0;subst h0;rfl
   ·simp
  rw [e] at this;exact this
theorem own_of_blk {w : World} {g base n : Nat} {e : TypeId} {xs : List Value} (hB : Blk w g e xs.toArray) (h : xs.length = n) (hn : n ≤ maxLen) (hb : base ≤ g) : w.ownsRow base e 1 (.slice (some ⟨g,0,none⟩) n n) n xs:=by
 refine ⟨by rw [h,Nat.mul_one],.inr ⟨g,n,xs.toArray,rfl,hb,hB,Nat.le_refl _,hn,by simpa using h,?_⟩⟩;rw [Nat.mul_one,List.take_of_length_le (by simp;omega)]
theorem BX.set {m : Mk} {w V : World} {p : Nat} (h : BX m w V) (hp : w.heap.size < p) (u : Value) : BX m w (V.setCell ⟨p,0,none⟩ u):=⟨h.box.far (by show w.heap.size ≠ p;omega) u,h.low.setCell (by show w.heap.size ≤ p;omega) u⟩
theorem mx_first {m : Mk} {w V : World} {p r : Nat} {l1 l2 l3 l4 : List UInt8} (h : BX m w V) (hp : Blk V p 101 #[.slice none 0 0]) (hr : Blk V r 9 #[.string (S l1),.string (S l2),.string (S l3),.string (S l4)]) (h1 : w.heap.size < p) (h2 : w.heap.size < r) :
  MX m w (V.setCell ⟨p,0,none⟩ (.slice (some ⟨r,0,none⟩) 4 4)) p [l1,l2,l3,l4]:=by
 have hne : r ≠ p:=Blk.ne_ hr (t':=101) hp (by decide);refine ⟨h.set h1 _,⟨h1,some ⟨r,0,none⟩,4,hp.set_ 0 _,?_⟩⟩;exact own_of_blk (n:=4) (xs:=strs [l1,l2,l3,l4]) (hr.far hne _) rfl (by unfold maxLen;omega) h2
structure CY (m : Mk) (w V : World) (q : Nat) : Prop where
 bx : BX m w V
 cmd : Blk V q 31 (cmdCs m)
structure RY (m : Mk) (w V : World) (q : Nat) : Prop where
 bx : BX m w V
 res : Blk V q 48 (resCs m)
theorem CY.step {m : Mk} {w V V' : World} {q : Nat} (h : CY m w V q) (hb : Below V.heap.size V V') : CY m w V' q:=⟨h.bx.step hb,h.cmd.below hb h.cmd.lt⟩
theorem CY.alloc {m : Mk} {w V : World} {q : Nat} (h : CY m w V q) (o : Obj) : CY m w (V.alloc o) q:=⟨h.bx.alloc o,h.cmd.alloc o⟩
theorem RY.step {m : Mk} {w V V' : World} {q : Nat} (h : RY m w V q) (hb : Below V.heap.size V V') : RY m w V' q:=⟨h.bx.step hb,h.res.below hb h.res.lt⟩
theorem line_len {m : Mk} (h : Cnts m) (hz : MkZ m) (h1 : m.ms.length = m.nm) (h2 : m.ts.length = m.nt) : (lineL m).length ≤ 121000200:=by
 have l0:=lists_len h hz h1 h2;have a1:=itoa_ct (h.ct (x:=m.aT) (by simp [Mk.ns]));have a2:=itoa_ct (h.ct (x:=m.nd) (by simp [Mk.ns]));have a3:=itoa_ct (h.ct (x:=m.ic) (by simp [Mk.ns]));have a4 : (kindOf m).length ≤ 7:=kindL_len _;have b1:=num_len [115,101,110,100,101,114] (h.ct (x:=m.se) (by simp [Mk.ns]));have b2:=num_len [115,101,113] (h.ct (x:=m.sq) (by simp [Mk.ns]));have b3:=num_len [112,111,115] (h.ct (x:=m.po) (by simp [Mk.ns]));have b4:=num_len [110] (h.ct (x:=m.n) (by simp [Mk.ns]));have b5:=num_len [101,114,114] (x:=m.er) (by obtain ⟨n,hn,hle⟩:=h.er;exact ⟨n,hn,by omega⟩);have p1:=part_len (bodyB m) [98,111,100,121] (quoteL m.bd);have p2:=part_len (cmdB m) [99,109,100] (cmdL m);have p3:=part_len (resB m) [114,101,115,117,108,116] (resL m);have q0:=quote_len m.bd;have q1:=quote_len m.key.data.toList;have q2:=quote_len m.val.data.toList;have q3:=quote_len m.old.data.toList;have q4:=quote_len m.rv.data.toList;rw [str_len] at q1 q2 q3 q4;have z1:=hz.key;have z2:=hz.val;have z3:=hz.old;have z4:=hz.rv;have z5:=hz.bd;have z6:=hz.nb;have s4:=sl4_len (h.ct (x:=m.cl) (by simp [Mk.ns])) (h.ct (x:=m.cn) (by simp [Mk.ns])) (h.ct (x:=m.rq) (by simp [Mk.ns])) (h.ct (x:=m.op) (by simp [Mk.ns]));have r1:=itoa_ct (h.ct (x:=m.co) (by simp [Mk.ns]));have r:=h.rn;have r2:=itoa_len m.rn (by omega) (by omega);unfold cmdL at p2;unfold resL at p3;unfold lineL headL numsL cmdL resL;simp only [List.length_append,List.length_cons,List.length_nil] at *;omega
theorem parts_line (m : Mk) : Lib.join (addP (m.er != 0) (addP (resB m) (addP (cmdB m) (addP (bodyB m) (addP (m.n != 0) (addP (m.po != 0) (addP (m.sq != 0) (addP (m.se != 0) (addP (decide (0 < m.nt)) (addP (decide (0 < m.nm)) (addP (idB m) [Lib.itoa m.aT,kindOf m,Lib.itoa m.nd,Lib.itoa m.ic]
  [105,100] (sl4 m.ep m.ld m.ii m.ci)) [109,101,109,98,101,114,115] (Lib.join (m.ms.map triI) [44])) [116,114,97,110,115] (Lib.join (m.ts.map Lib.itoa) [44])) [115,101,110,100,101,114] (Lib.itoa m.se)) [115,101,113] (Lib.itoa m.sq)) [112,111,115] (Lib.itoa m.po)) [110] (Lib.itoa m.n))
  [98,111,100,121] (quoteL m.bd)) [99,109,100] (cmdL m)) [114,101,115,117,108,116] (resL m)) [101,114,114] (Lib.itoa m.er)) [32] = lineL m:=by
 have h0 : ([Lib.itoa m.aT,kindOf m,Lib.itoa m.nd,Lib.itoa m.ic] : List (List UInt8)) ≠ []:=by simp
 have hh : Lib.join [Lib.itoa m.aT,kindOf m,Lib.itoa m.nd,Lib.itoa m.ic] [32] = headL m:=by
  unfold headL;rw [Lib.join_cons];simp [Lib.joinTail]
 rw [join_addP _ _ _ _ (by repeat first | exact h0 | apply addP_ne),join_addP _ _ _ _ (by repeat first | exact h0 | apply addP_ne),join_addP _ _ _ _ (by repeat first | exact h0 | apply addP_ne),join_addP _ _ _ _ (by repeat first | exact h0 | apply addP_ne),
  join_addP _ _ _ _ (by repeat first | exact h0 | apply addP_ne),join_addP _ _ _ _ (by repeat first | exact h0 | apply addP_ne),join_addP _ _ _ _ (by repeat first | exact h0 | apply addP_ne),join_addP _ _ _ _ (by repeat first | exact h0 | apply addP_ne),join_addP _ _ _ _ (by repeat first | exact h0 | apply addP_ne),
  join_addP _ _ _ _ (by repeat first | exact h0 | apply addP_ne),join_addP _ _ _ _ h0,hh]
 unfold lineL listsL numsL numL;simp only [List.append_assoc]
def headT : List UInt8:=[113,117,111,114,97,116,101,32,116,114,97,99,101,32,49,10]
def outL (l : List Mk) : List UInt8:=headT ++ l.flatMap fun m => lineL m ++ [10]
def resT (l : List Mk) : List UInt8:=if l.all wrB = true then outL l else []
def resN (l : List Mk) : Int:=if l.all wrB = true then 0 else 23
theorem outL_snoc {l : List Mk} {k : Nat} {m : Mk} (h : l[k]? = some m) : outL (l.take (k + 1)) = outL (l.take k) ++ (lineL m ++ [10]):=by
 obtain ⟨hk,e⟩:=List.getElem?_eq_some_iff.1 h;rw [outL,outL,List.take_succ_eq_append_getElem hk,List.flatMap_append,e];simp
theorem all_snoc {l : List Mk} {k : Nat} {m : Mk} (h : l[k]? = some m) (ha : (l.take k).all wrB = true) (hm : wrB m = true) : (l.take (k + 1)).all wrB = true:=by
 obtain ⟨hk,e⟩:=List.getElem?_eq_some_iff.1 h;rw [List.take_succ_eq_append_getElem hk,List.all_append,ha,e];simp [hm]
theorem all_no {l : List Mk} {k : Nat} {m : Mk} (h : l[k]? = some m) (hm : wrB m = false) : l.all wrB = false:=by
 rw [Bool.eq_false_iff];intro hh;rw [List.all_eq_true] at hh;rw [hh m (List.mem_of_getElem? h)] at hm
 cases hm
def RLoop (l : List Mk) (n : Nat) (w : World) (v i : Value) (wr : World) : Prop:=∃ (j : Nat) (out : List UInt8),j ≤ n ∧ i = .int .i64 j ∧ (l.take j).all wrB = true ∧ out = outL (l.take j) ∧ out.length ≤ 16 + 121000201 * j ∧ wr.ownsRow w.heap.size 5 1 v out.length (Lib.byteCells out) ∧ Below w.heap.size w wr
theorem line_len2 {m : Mk} {w : World} {B : Nat} (h : MkIn w B m) (hw : wrB m = true) (hz : MkZ m) : (lineL m).length ≤ 121000200:=line_len (cnts hw) hz (RS.len h.mem) (RI.len h.tr)
theorem str_cells (l : List UInt8) : Lib.strCells (S l) = Lib.byteCells l:=rfl
theorem rprint_any (A : Option Addr) (n c : Nat) (l : List Mk) (w : World) (h : MsIn w w.heap.size A n l) (hz : ∀ m ∈ l,MkZ m) (hn : n ≤ 1048576) :
  Calls Tryz.prog 15 #[.slice A n c] w fun e w' => e = .returned (.tuple #[.string (S (resT l)),.int .i64 (resN l)]) ∧ Below w.heap.size w w':=by
 have H:=hide h;have HZ:=hide hz;have hll:=hide h.len;obtain ⟨i5,hi5,hz5,hs5,hb5⟩:=info_parts info5;have I5:=hide hi5;clear hi5 h hz;go_enter Tryz.func15,Tryz.ntmps15;go_upto_region 2 with fail
 refine wp_region_lit ?_;refine wpList_value rfl (.slice none 0 0) (by go_simp) ?_;simp only [Act.put,aSt,aSz,aSs];refine Lib.wpList_append_own_string _ rfl (.tmp 7) _ 29 9 rfl w.heap.size 5 i5 Tryz.underlying29 Tryz.underlying9 I5.out hz5 hs5 hb5 _ 0 [] rfl (World.ownsRow_nil _ _ _ _) (S headT) rfl (by rw [S_size];simp [headT,maxLen]) (by rw [S_size];simp [headT]) (Nat.le_refl _) ?_;intro v1 w1 hown1 hgr1 _;have HL1 : Hid (RLoop l n w v1 (.int .i64 0) w1):=⟨0,headT,Nat.zero_le _,rfl,by simp,by simp [outL],by simp [headT],(by rw [Nat.zero_add,S_size,List.nil_append,str_cells] at hown1;exact hown1),(Below.refl _ _).grown hgr1 (Nat.le_refl _) (fun k hk => by cases hk)⟩;clear hown1 hgr1;simp only [Act.put,aSt,aSz,aSs];go_upto_region 4 with fail
 go_loopw [4,5,6] (fun v i _ wr => RLoop l n w v i wr) (fun _ i _ _ => n - (intOf i).toNat)
 case atStart => exact HL1.out
 case round =>
  clear HL1;unfold RLoop at hrel;obtain ⟨j,out,hj,rfl,hall,hout,hlen,hown,hb⟩:=hrel;have HALL:=hide hall;have HOUT:=hide hout;have HO:=hide hown;have HBB:=hide hb;have hol : out.length ≤ 126878000000000:=by omega
  have HLENJ:=hide hlen;clear hall hout hown hb hlen;have hsw : w.heap.size ≤ wr.heap.size:=HBB.out.size
  by_cases hlt : j < n
  ·obtain ⟨b,off,m,rfl,hbB,hm,hin,qc⟩:=(H.out.below HBB.out).at_ hlt
   have HQ:=hide (cells_add qc);have HMJ:=hide hm;have HIN:=hide (hin.more hsw);have HMZ:=hide (HZ.out m (List.mem_of_getElem? hm));have hbW : b < wr.heap.size:=by omega
   clear hm hin qc;have k0 : (0 : Int) ≤ (j : Int):=by omega
   have kn : (j : Int) < (n : Int):=by omega
   go_upto_region 6 with fail
   refine wp_region_lit ?_;refine wpList_value rfl (.slice (some ⟨b,off,none⟩) n c) (by go_simp) ?_;refine wpList_value rfl (.int .i64 (j : Int)) (by go_simp) ?_;refine wpList_value rfl (.pointer (some ⟨b,off + j * 26,none⟩)) (by simp only [Act.put,aSt,aSz,aSs];go_simp) ?_;refine wpList_value rfl (.agg m.cs) (ex_load 51 (.tmp 17) rfl ⟨b,off + j * 26,none⟩ rfl m.cs _ Tryz.underlying51 rfl (ld48 _ (mk_size _)) HQ.out) ?_;simp only [Act.put,aSt,aSz,aSs]
   cases hwb : wrB m with
   | false =>
    have HRW : Hid (Calls Tryz.prog 43 #[.agg m.cs] wr fun e w' => e = .returned (.bool false) ∧ Below wr.heap.size wr w'):=by
     have:=rwritable_any m wr HIN.out;rw [hwb] at this;exact this
    have HNO:=hide (all_no HMJ.out hwb);clear hwb;go_wp2_with (go_at_call 43;refine HRW.out.mono ?_;rintro e w2 ⟨rfl,hb2⟩;have HB2:=hide (HBB.out.trans (hb2.mono hsw));clear hb2)
    first | refine bodyPost_end (results_tmp2 rfl _ _ _) rfl ?_ | refine bodyPost_ret (results_tmp2 rfl _ _ _) rfl ?_
    refine ⟨?_,HB2.out⟩;unfold resT resN;rw [HNO.out]
    rfl
   | true =>
    have HRW : Hid (Calls Tryz.prog 43 #[.agg m.cs] wr fun e w' => e = .returned (.bool true) ∧ Below wr.heap.size wr w'):=by
     have:=rwritable_any m wr HIN.out;rw [hwb] at this;exact this
    have HYES:=hide (all_snoc HMJ.out HALL.out hwb);have HWB:=hide hwb;have hll2:=line_len2 HIN.out HWB.out HMZ.out;clear hwb;go_upto_region 9 with (go_at_call 43;refine HRW.out.mono ?_;rintro e w2 ⟨rfl,hb2⟩;have HB2:=hide (HBB.out.trans (hb2.mono hsw));have HBr:=hide hb2;clear hb2)
    have HIN2:=hide ((HIN.out.below HBr.out).more HBr.out.size);have HO2:=hide (own_step HO.out HBr.out);have HQ2 : Hid (∀ i v,m.cs[i]? = some v → w2.cell? ((⟨b,off + j * 26,none⟩ : Addr).add i) = some v):=fun i v hv => (HBr.out.cell (by rw [block_of_add];exact hbW)).trans (HQ.out i v hv)
    clear HRW HO HIN HQ HBr;refine wp_region_lit ?_;refine wpList_value rfl _ (by go_simp;try with_reducible rfl) ?_;refine wpList_value rfl (.slice (some ⟨b,off,none⟩) n c) (by go_simp) ?_;refine wpList_value rfl (.int .i64 (j : Int)) (by go_simp) ?_;refine wpList_value rfl (.pointer (some ⟨b,off + j * 26,none⟩)) (by simp only [Act.put,aSt,aSz,aSs];go_simp) ?_;refine wpList_value rfl (.agg m.cs) (ex_load 51 (.tmp 25) rfl ⟨b,off + j * 26,none⟩ rfl m.cs _ Tryz.underlying51 rfl (ld48 _ (mk_size _)) HQ2.out) ?_;simp only [Act.put,aSt,aSz,aSs];refine wpList_step (fun K hK => ?_);rw [if_pos (by rfl)];go_simp;go_at_call 44;refine (line_any m w2 HIN2.out HWB.out HMZ.out).mono ?_;rintro e w3 ⟨rfl,hb3⟩;have HO3:=hide (own_step HO2.out hb3);have HB3:=hide (HB2.out.trans (hb3.mono HB2.out.size));clear hb3 HO2 HQ2 HB2;refine hK _ _ ?_;clear hK K;try simp only [Act.put,aSt,aSz,aSs]
    refine wpList_value rfl (.string (S (cc (lineL m) [10]))) (ex_cat (.tmp 27) (.const (.string { data:=#[10] })) 9 9 rfl rfl rfl (by simp only [List.length_cons,List.length_nil];omega)) ?_;simp only [Act.put,aSt,aSz,aSs];have hcl : (S (cc (lineL m) [10])).size ≤ 121000201:=by rw [S_size,cc_len];simp only [List.length_cons,List.length_nil];omega
    refine Lib.wpList_append_own_string _ rfl (.tmp 22) (.tmp 28) 29 9 rfl w.heap.size 5 i5 Tryz.underlying29 Tryz.underlying9 I5.out hz5 hs5 hb5 _ out.length (Lib.byteCells out) rfl HO3.out (S (cc (lineL m) [10])) rfl (by unfold maxLen;omega) (by omega) HB3.out.size ?_;intro v4 w4 hown4 hgr4 _
    have HL4 : Hid (RLoop l n w v4 (.int .i64 ((j : Int) + 1)) w4):=by
     refine ⟨j + 1,out ++ (lineL m ++ [10]),by omega,by go_num,HYES.out,by rw [outL_snoc HMJ.out,← HOUT.out],?_,?_,HB3.out.grown hgr4 HB3.out.size (fun k hk => (HO3.out.lt k hk).1)⟩
     ·rw [S_size,cc_len] at hcl
      have : out.length ≤ 16 + 121000201 * j:=HLENJ.out;simp only [List.length_append,List.length_cons,List.length_nil] at hcl ⊢;omega
     ·rw [S_size,str_cells] at hown4
      have e1 : Lib.byteCells out ++ Lib.byteCells (cc (lineL m) [10]) = Lib.byteCells (out ++ (lineL m ++ [10])):=by simp [Lib.byteCells,cc]
      have e2 : out.length + (cc (lineL m) [10]).length = (out ++ (lineL m ++ [10])).length:=by simp [cc]
      rw [e1,e2] at hown4;exact hown4
    clear hown4 hgr4 HO3 hcl;simp only [Act.put,aSt,aSz,aSs];go_wp2_with fail;go_roundw
    case rel => first | exact HL4.out | exact ⟨_,_,_,HL4.out,rfl,rfl,rfl⟩
    case measure => simp [intOf];omega
  ·have kn : ¬ (j : Int) < (n : Int):=by omega
   obtain rfl : j = n:=by omega
   obtain ⟨A4,c4,rfl,hr4,_⟩:=own_slice HO.out;have HR4:=hide hr4;clear hlt hr4;go_wp2_with (refine wpList_value rfl (.string (S out)) (ex_conv _ rfl rfl HR4.out) ?_)
   first | refine bodyPost_end (results_tmp2 rfl _ _ _) rfl ?_ | refine bodyPost_ret (results_tmp2 rfl _ _ _) rfl ?_
   refine ⟨?_,HBB.out⟩;have ht : l.take j = l:=List.take_of_length_le (by have:=hll.out;omega);have ha:=HALL.out;have ho:=HOUT.out;rw [ht] at ha ho;unfold resT resN;rw [if_pos ha,if_pos ha,← ho]
   rfl
end Go.Proofs.YtcibcmfaebbhnaaGreatDoor.Tr
