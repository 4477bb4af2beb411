/-
  The law's eventOf: a copy of an event, its lists in memory of their own. (Printed by wip/tools/mkevo.py.) The program's PrintEvent. (Printed by wip/tools/mkppv.py.) The law ScriptWritesLine, walked: the program and the reference write the same line of every event. (Printed by wip/tools/mklwl.py.) Plain: the text of a script.
-/
import Derived.Deep.WholeRow
import Derived.Test.YtcibcmfaebbhnaaGreatDoorPNib
import Derived.Test.YtcibcmfaebbhnaaGreatDoorPBln
import Derived.Test.YtcibcmfaebbhnaaGreatDoorPRb
import Derived.Test.YtcibcmfaebbhnaaGreatDoorPPln
import Derived.Test.YtcibcmfaebbhnaaGreatDoorPPpe
import Derived.Test.YtcibcmfaebbhnaaGreatDoorPRpv
import Derived.Lib.AppendStr
import Derived.Test.YtcibcmfaebbhnaaGreatDoorPWsg
import Derived.Test.YtcibcmfaebbhnaaGreatDoorPWords
set_option linter.unusedSimpArgs false
set_option linter.unusedVariables false
set_option maxRecDepth 100000
set_option maxHeartbeats 3000000

namespace Go.Proofs.YtcibcmfaebbhnaaGreatDoor
open Go.RowKit Go.WideShapes Go.ChangeShapes Q
theorem one_bytes (l : List UInt8) : ∀ u ∈ Lib.byteCells l,u.oneCell' = true:=by
 intro u hu;unfold Lib.byteCells at hu;obtain ⟨b,_,rfl⟩:=List.mem_map.1 hu
 rfl
theorem one_ints (l : List Int) : ∀ u ∈ ints l,u.oneCell' = true:=by
 intro u hu;unfold ints at hu;obtain ⟨b,_,rfl⟩:=List.mem_map.1 hu
 rfl
theorem RB.of_own {w : World} {b : Nat} {A : Option Addr} {n c : Nat} {l : List UInt8} (h : w.ownsRow b 5 1 (.slice A n c) n (Lib.byteCells l)) : RB w b A n l:=by
 have hl : l.length = n:=by have:=h.1;simpa [Lib.byteCells] using this
 refine ⟨hl,?_⟩
 rcases h.2 with ⟨_,h0⟩ | ⟨g,cap,cur,hv,hb,hg,_⟩
 ·exact .inl h0
 ·injection hv with e1 e2 e3
  refine .inr ⟨g,cur,(0,0),e1,hb,hg,fun j hj => ?_⟩;have h1 : (Lib.byteCells l)[j]? = some (.int .u8 ((l[j]'(by omega)).toNat : Int)):=by simp [Lib.byteCells,hl,hj]
  have h2:=World.ownsRow.cells (g:=g) h (by rw [e1];rfl) j _ h1
  have e : (⟨g,0,none⟩ : Addr).add j = ⟨g,j,none⟩:=by
   unfold Addr.add
   split
   ·rename_i h0;subst h0;rfl
   ·simp
  rw [e,Blk.cell (show Blk w g 5 cur from hg)] at h2;rw [h1,h2]
theorem pprint_ev (m : Em) (nodes : Int) (w : World) (h : EmIn w w.heap.size m) (ho : EvOk m) (hT : OpT w) (hTb : Tab w) :
  Calls Tryz.prog 13 #[.agg m.cs,.int .i64 nodes] w fun e w' => RprP nodes m.ev w e w':=by
 obtain ⟨T,hTT⟩ : ∃ T,T = lineT m.ev:=⟨_,rfl⟩
 have HTS : Hid (T.length ≤ 30000000):=by
  show _ ≤ _;rw [hTT];exact line_sz ho h.nb_len (RI.len h.sid)
 have HOT:=hide hT;have H0:=hide hT.lt;have HTB:=hide hTb
 have HWR : Hid (∀ W,Below w.heap.size w W → Calls Tryz.prog 38 #[.agg m.cs] W fun e w' => e = .returned (.string (S T)) ∧ Below W.heap.size W w'):=fun W hb => by
  rw [hTT];exact line_any m W ((h.below hb).up hb.size) ho (hT.below hb hT.lt) (hTb.below hb)
 have HPR : Hid (printE nodes m.ev = if 1 ≤ nodes ∧ nodes ≤ 16 then (if T ≠ [] ∧ lineE nodes T = m.ev then (T,0) else ([],24)) else ([],1)):=by
  show _ = _;rw [print_prog,hTT]
 have HIN:=hide h;clear h ho hTT hT hTb
 by_cases hlo : nodes < 1
 ·have HR : Hid (printE nodes m.ev = ([],1)):=by
   show _ = _;rw [HPR.out,if_neg (fun h => by omega)]
  go_enter Tryz.func13,Tryz.ntmps13;go_wp2_with fail;refine bodyPost_ret (results_tmp2 rfl _ _ _) rfl ?_;exact rpr_out HR.out ((Below.refl _ _).alloc (Nat.le_refl _) _)
 by_cases hhi : 16 < nodes
 ·have HR : Hid (printE nodes m.ev = ([],1)):=by
   show _ = _;rw [HPR.out,if_neg (fun h => by omega)]
  go_enter Tryz.func13,Tryz.ntmps13;go_wp2_with fail;refine bodyPost_ret (results_tmp2 rfl _ _ _) rfl ?_;exact rpr_out HR.out ((Below.refl _ _).alloc (Nat.le_refl _) _)
 have HN : Hid (1 ≤ nodes ∧ nodes ≤ 16):=by
  show _ ∧ _;omega
 have HPE : Hid (∀ W,OpT W → Calls Tryz.prog 40 #[.string (S T),.int .i64 nodes] W fun e w' => EvP (lineE nodes T) W.heap.size W e w'):=fun W hW => pparse_ev (S T) nodes W (by rw [S_size];exact HTS.out) hW
 go_enter Tryz.func13,Tryz.ntmps13;go_upto_region 1 with fail
 generalize hW1 : World.alloc w _ = W1
 have HB1 : Hid (Below w.heap.size w W1):=by
  show Below _ _ _;rw [← hW1];exact (Below.refl _ _).alloc (Nat.le_refl _) _
 have HX1 : Hid (Blk W1 w.heap.size 33 m.cs):=by
  show Blk _ _ _ _;rw [← hW1];exact Blk.new _ _ _
 clear hW1;go_upto_region 3 with fail
 refine wp_region_lit ?_;refine wpList_value rfl (.agg m.cs) (ex_load 33 (.tmp 2) rfl _ rfl m.cs _ Tryz.underlying33 rfl (ld29 _ (em_size _)) (ebox_all HX1.out)) ?_;try simp only [Act.put,aSt,aSz,aSs]
 refine wpList_step (fun K hK => ?_);rw [if_pos (by rfl)];go_simp;go_at_call 38;refine (HWR.out _ HB1.out).mono ?_;rintro e w2 ⟨rfl,hb2⟩;have HX2:=hide (HX1.out.below hb2 HX1.out.lt);have HB2:=hide (HB1.out.trans (hb2.mono HB1.out.size));refine hK _ _ ?_;clear hK K hb2;try simp only [Act.put,aSt,aSz,aSs]
 go_upto_region 4 with fail
 have HQ:=hide HX2.out.drew;obtain ⟨W4,hW4⟩ : ∃ W4,W4 = w2.drew:=⟨_,rfl⟩;have HB4 : Hid (Below w.heap.size w W4):=by show Below _ _ _;rw [hW4];exact HB2.out.drew
 by_cases hte : T = []
 ·have HR : Hid (printE nodes m.ev = ([],24)):=by
   show _ = _;rw [HPR.out,if_pos HN.out,if_neg (fun h => h.1 hte)]
  have hse : S T = ⟨#[]⟩:=by rw [hte];rfl
  rw [hse];refine wp_region_L [] (fun V => Blk V w.heap.size 33 m.cs) (by kernel_rfl) ?_;rw [← hW4] at HQ ⊢;clear hW4;refine tk 0 15 (v:=?_) rfl HQ.out ?_ ?_
  rotate_left;· intro V hV;go_simp;try with_reducible rfl
  try simp only [Act.put,aSt,aSz,aSs]
  refine tk 1 16 (v:=?_) rfl HQ.out ?_ ?_
  rotate_left;· intro V hV;go_simp;try with_reducible rfl
  try simp only [Act.put,aSt,aSz,aSs]
  refine tk 2 17 (v:=?_) rfl HQ.out ?_ ?_
  rotate_left;· intro V hV;go_simp;try with_reducible rfl
  try simp only [Act.put,aSt,aSz,aSs]
  refine tn 3 18 rfl HQ.out ?_;try simp only [Act.put,aSt,aSz,aSs]
  refine tn 4 19 rfl HQ.out ?_;try simp only [Act.put,aSt,aSz,aSs]
  refine tn 6 21 rfl HQ.out ?_;try simp only [Act.put,aSt,aSz,aSs]
  refine wpL_one 5 (by kernel_rfl) rfl (fun K hK => ?_);rw [if_neg (fun h => by cases (show false = true from h))];refine hK _ _ (fun _ => HQ.out) ?_;clear hK K;try simp only [Act.put,aSt,aSz,aSs]
  refine wpL_one 7 (by kernel_rfl) rfl (fun K hK => ?_);rw [if_neg (fun h => by cases (show false = true from h))];refine hK _ _ (fun _ => HQ.out) ?_;clear hK K;try simp only [Act.put,aSt,aSz,aSs]
  refine tn 8 23 rfl HQ.out ?_;try simp only [Act.put,aSt,aSz,aSs]
  refine tk 9 24 (v:=?_) rfl HQ.out ?_ ?_
  rotate_left;· intro V hV;go_simp;try with_reducible rfl
  try simp only [Act.put,aSt,aSz,aSs]
  refine wpL_done (by kernel_rfl) ?_ _;go_wp2_with fail;refine bodyPost_ret (results_tmp2 rfl _ _ _) rfl ?_;exact rpr_out HR.out HB4.out
 ·have t1 : ¬ (S T).toList = []:=by rw [ByteArray.toList_eq,S_data];exact hte
  have t2 : ((S T).toList == []) = false:=by simpa using t1
  refine wp_region_L [] (fun V => Blk V w.heap.size 33 m.cs) (by kernel_rfl) ?_;rw [← hW4] at HQ ⊢;clear hW4;refine tk 0 15 (v:=?_) rfl HQ.out ?_ ?_
  rotate_left;· intro V hV;go_simp;try with_reducible rfl
  try simp only [Act.put,aSt,aSz,aSs]
  refine tk 1 16 (v:=?_) rfl HQ.out ?_ ?_
  rotate_left;· intro V hV;go_simp;try with_reducible rfl
  try simp only [Act.put,aSt,aSz,aSs]
  refine tk 2 17 (v:=?_) rfl HQ.out ?_ ?_
  rotate_left;· intro V hV;go_simp;try with_reducible rfl
  try simp only [Act.put,aSt,aSz,aSs]
  refine tk 3 18 (v:=?_) rfl HQ.out ?_ ?_
  rotate_left;· intro V hV;go_simp;try with_reducible rfl
  try simp only [Act.put,aSt,aSz,aSs]
  refine tk 4 19 (v:=?_) rfl HQ.out ?_ ?_
  rotate_left;· intro V hV;go_simp;try with_reducible rfl
  try simp only [Act.put,aSt,aSz,aSs]
  refine tk 6 21 (v:=.agg m.cs) rfl HQ.out ?_ ?_
  ·intro V hV;exact ex_load 33 (.tmp 2) rfl _ rfl m.cs _ Tryz.underlying33 rfl (ld29 _ (em_size _)) (ebox_all hV)
  try simp only [Act.put,aSt,aSz,aSs]
  refine wpL_one 5 (by kernel_rfl) rfl (fun K hK => ?_);rw [if_pos (by rfl)];go_simp;go_at_call 40;refine (HPE.out _ (HOT.out.below HB4.out H0.out)).mono ?_;rintro e w5 ⟨m2,rfl,hev,ht,hb5⟩;have HQ5:=hide (HQ.out.below hb5 HQ.out.lt);have HB5:=hide (HB4.out.trans (hb5.mono HB4.out.size));have HEV:=hide hev;have HSM:=hide (alike_full m2 m w5 ht.inn ((HIN.out.below HB5.out).up HB5.out.size));refine hK _ _ (fun _ => HQ5.out) ?_;clear hK K hb5 ht hev;try simp only [Act.put,aSt,aSz,aSs]
  refine wpL_one 7 (by kernel_rfl) rfl (fun K hK => ?_);rw [if_pos (by rfl)];go_simp;go_at_call 39;refine HSM.out.mono ?_;rintro e w6 ⟨r,rfl,hr,hb6⟩;have HQ6:=hide (HQ5.out.below hb6 HQ5.out.lt);have HB6:=hide (HB5.out.trans (hb6.mono HB5.out.size));have HRR:=hide hr;refine hK _ _ (fun _ => HQ6.out) ?_;clear hK K hb6 hr;try simp only [Act.put,aSt,aSz,aSs]
  refine tk 8 23 (v:=?_) rfl HQ6.out ?_ ?_
  rotate_left;· intro V hV;go_simp;try with_reducible rfl
  try simp only [Act.put,aSt,aSz,aSs]
  refine tk 9 24 (v:=?_) rfl HQ6.out ?_ ?_
  rotate_left;· intro V hV;go_simp;try with_reducible rfl
  try simp only [Act.put,aSt,aSz,aSs]
  refine wpL_done (by kernel_rfl) ?_ _
  cases r with
  | false =>
   have HR : Hid (printE nodes m.ev = ([],24)):=by
    show _ = _;rw [HPR.out,if_pos HN.out,if_neg (fun h => absurd (HRR.out.2 (HEV.out.trans h.2)) (by decide))]
   go_wp2_with fail;refine bodyPost_ret (results_tmp2 rfl _ _ _) rfl ?_;exact rpr_out HR.out HB6.out
  | true =>
   have HR : Hid (printE nodes m.ev = (T,0)):=by
    show _ = _;rw [HPR.out,if_pos HN.out,if_pos ⟨hte,HEV.out.symm.trans (HRR.out.1 rfl)⟩]
   go_wp2_with fail;refine bodyPost_ret (results_tmp2 rfl _ _ _) rfl ?_;exact rpr_out HR.out HB6.out
def Em.th (m : Em) (nodes : Int) : Array Value:=m.cs.push (.int .i64 nodes)
theorem EvOk.of {m m1 : Em} (h : EvOk m) (e : m1.ev = m.ev) (e1 : m1.ns = m.ns) (e2 : m1.nb = m.nb) : EvOk m1:=by
 have ha : m1.a = m.a:=congrArg Ev.a e;have hb : m1.b = m.b:=congrArg Ev.b e;have hn : m1.n = m.n:=congrArg Ev.n e;have hs : m1.sd = m.sd:=congrArg Ev.sd e;have ho : m1.op = m.op:=congrArg Ev.op e;have hk : m1.key.size = m.key.size:=by have:=congrArg (fun e => (Ev.key e).length) e;simpa [Em.ev,str_len] using this
 have hv : m1.val.size = m.val.size:=by have:=congrArg (fun e => (Ev.val e).length) e;simpa [Em.ev,str_len] using this
 have hl : m1.old.size = m.old.size:=by have:=congrArg (fun e => (Ev.old e).length) e;simpa [Em.ev,str_len] using this
 exact ⟨by rw [ha];exact h.a,by rw [hb];exact h.b,by rw [hn];exact h.n,by rw [hs];exact h.sd,by rw [ho];exact h.op,by rw [e1,e2,hk,hv,hl];exact h.bulk⟩
theorem print_sz {m : Em} (nodes : Int) (ho : EvOk m) (hb : m.bd.length = m.nb) (hn : m.sd.length = m.ns) : (printE nodes m.ev).1.length ≤ 30000000:=by
 unfold printE
 split
 ·split
  ·exact writ_sz ho hb hn
  ·simp
 ·simp
def cvals (c : Cfg) : List Int:=[c.nodes,c.window,c.base,c.step,c.cap,c.room,c.floor]
def pairT (c : Cfg) (q : Nat) : List UInt8:=(if q = 0 then [] else [32]) ++ (cfNames.getD q [] ++ ([32] ++ Lib.decDigits (nth (cvals c) q).toNat))
def quo1 : List UInt8:=[113,117,111,114,97,116,101,32,49,10]
def vots : List UInt8:=[10,118,111,116,101,115]
def votT (l : List Int) : List UInt8:=l.flatMap fun v => [32] ++ Lib.decDigits v.toNat
def headTx (c : Cfg) : List UInt8:=quo1 ++ (List.range 7).flatMap (pairT c) ++ vots ++ votT c.votes ++ [10]
noncomputable def linesT (nodes : Int) : List Ev → Option (List UInt8)
 | [] => some []
 | e :: es => if (printE nodes e).2 = 0 then (linesT nodes es).map ((printE nodes e).1 ++ [10] ++ ·) else none
noncomputable def printS (s : Sc) : List UInt8 × Int :=
 if s.c.err = 0 then if 4000 < s.es.length then ([],25) else match linesT s.c.nodes s.es with
  | none => ([],24)
  | some t => if 400000 < (headTx s.c ++ t).length then ([],20) else (headTx s.c ++ t,0)
 else ([],s.c.err)
def PrtP (s : Sc) (w : World) (e : Ending) (w' : World) : Prop:=e = .returned (.tuple #[.string (S (printS s).1),.int .i64 (printS s).2]) ∧ Below w.heap.size w w'
theorem prt_out {s : Sc} {w w' : World} {x : List UInt8} {y : Int} (h : printS s = (x,y)) (hb : Below w.heap.size w w') : PrtP s w (.returned (.tuple #[.string (S x),.int .i64 y])) w':=by
 unfold PrtP;rw [h];exact ⟨rfl,hb⟩
theorem str_cells (l : List UInt8) : Lib.strCells (S l) = Lib.byteCells l:=by
 unfold Lib.strCells Lib.byteCells;simp [S_data]
def BO (w : World) (b : Nat) (v : Value) (out : List UInt8) : Prop:=w.ownsRow b 5 1 v out.length (Lib.byteCells out)
theorem BO.app {w : World} {b : Nat} {v : Value} {out t : List UInt8} (h : w.ownsRow b 5 1 v (out.length + (S t).size) (Lib.byteCells out ++ Lib.strCells (S t))) : BO w b v (out ++ t):=by
 rw [S_size,str_cells] at h;have e1 : Lib.byteCells out ++ Lib.byteCells t = Lib.byteCells (out ++ t):=by simp [Lib.byteCells]
 have e2 : out.length + t.length = (out ++ t).length:=by simp
 rw [e1,e2] at h;exact h
theorem BO.one {w : World} {b : Nat} {v : Value} {out : List UInt8} {c : UInt8} (h : w.ownsRow b 5 1 v (out.length + 1) (Lib.byteCells out ++ [.int .u8 (c.toNat : Int)])) : BO w b v (out ++ [c]):=by
 show World.ownsRow _ _ _ _ _ _ _;rw [List.length_append,Lib.byteCells_append];exact h
theorem linesT_step {nodes : Int} {pre : List UInt8} {e : Ev} {r : List Ev} (h : (printE nodes e).2 = 0) : (linesT nodes (e :: r)).map (pre ++ ·) = (linesT nodes r).map ((pre ++ ((printE nodes e).1 ++ [10])) ++ ·):=by
 rw [linesT,if_pos h,Option.map_map]
 congr 1
 funext l
 simp
theorem linesT_no {nodes : Int} {e : Ev} {r : List Ev} (h : ¬ (printE nodes e).2 = 0) : linesT nodes (e :: r) = none:=by
 rw [linesT,if_neg h]
theorem printE_err (nodes : Int) (e : Ev) (hn : 1 ≤ nodes ∧ nodes ≤ 16) : (printE nodes e).2 = 0 ∨ (printE nodes e).2 = 24:=by
 unfold printE;rw [if_pos hn]
 split
 ·exact .inl rfl
 ·exact .inr rfl
def nC (c : Cfg) : Array Value:=#[.int .i64 0,.int .i64 c.nodes,.int .i64 0,.int .i64 c.window,.int .i64 0,.int .i64 c.base,.int .i64 0,.int .i64 c.step,.int .i64 0,.int .i64 c.cap,.int .i64 0,.int .i64 c.room,.int .i64 0,.int .i64 c.floor]
theorem nC_at (c : Cfg) (q : Nat) (h : q < 7) : (nC c)[2 * q + 1]? = some (.int .i64 (nth (cvals c) q)):=by
 match q,h with
 | 0,_ => rfl
 | 1,_ => rfl
 | 2,_ => rfl
 | 3,_ => rfl
 | 4,_ => rfl
 | 5,_ => rfl
 | 6,_ => rfl
theorem names_get {q : Nat} (h : q < 7) : cfNames[q]? = some (cfNames.getD q []):=by
 match q,h with
 | 0,_ => rfl
 | 1,_ => rfl
 | 2,_ => rfl
 | 3,_ => rfl
 | 4,_ => rfl
 | 5,_ => rfl
 | 6,_ => rfl
theorem cvals_ok {c : Cfg} (h : c.Ok) (q : Nat) (hq : q < 7) : 0 ≤ nth (cvals c) q ∧ nth (cvals c) q ≤ 4611686018427387904:=by
 have h1:=h.nodes;have h2:=h.window;have h3:=h.cap;have h4:=h.base;have h5:=h.step;have h6:=h.room;have h7:=h.floor
 match q,hq with
 | 0,_ => show 0 ≤ c.nodes ∧ c.nodes ≤ _;omega
 | 1,_ => show 0 ≤ c.window ∧ c.window ≤ _;omega
 | 2,_ => show 0 ≤ c.base ∧ c.base ≤ _;omega
 | 3,_ => show 0 ≤ c.step ∧ c.step ≤ _;omega
 | 4,_ => show 0 ≤ c.cap ∧ c.cap ≤ _;omega
 | 5,_ => show 0 ≤ c.room ∧ c.room ≤ _;omega
 | 6,_ => show 0 ≤ c.floor ∧ c.floor ≤ _;omega
theorem names_len (q : Nat) : (cfNames.getD q []).length ≤ 6:=by
 match q with
 | 0 => decide
 | 1 => decide
 | 2 => decide
 | 3 => decide
 | 4 => decide
 | 5 => decide
 | 6 => decide
 | q + 7 => simp [cfNames]
end Go.Proofs.YtcibcmfaebbhnaaGreatDoor
