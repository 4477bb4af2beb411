/-
  The program's command: an operation and its texts. (Printed by wip/tools/mkpcm.py.)
-/
import Derived.Test.YtcibcmfaebbhnaaGreatDoorPPnm
import Derived.Test.YtcibcmfaebbhnaaGreatDoorPWdo
import Derived.Test.YtcibcmfaebbhnaaGreatDoorPWords
set_option linter.unusedSimpArgs false
set_option linter.unusedVariables false
set_option maxRecDepth 100000
set_option maxHeartbeats 3000000

namespace Go.Proofs.YtcibcmfaebbhnaaGreatDoor
open Go.RowKit Go.WideShapes Go.ChangeShapes Q
structure OpT (w : World) : Prop where
 lt : 1 < w.heap.size
 at_ : ∀ k,k < 10 → w.cell? ⟨1,k,none⟩ = opV[k]?
theorem OpT.below {w w' : World} {B : Nat} (h : OpT w) (hb : Below B w w') (hB : 1 < B) : OpT w':=⟨Nat.lt_of_lt_of_le h.lt hb.size,fun k hk => (hb.cell (p:=⟨1,k,none⟩) hB).trans (h.at_ k hk)⟩
theorem ld124 : (Tryz.prog.info? 157).map (·.size) = some opV.size:=by kernel_rfl
theorem run_index124 (cs : Array Value) (j : Nat) (X : ByteArray) (h : cs[j]? = some (.string X)) (hj : j < 10) (W : World) : (Instr.index 157 (.agg cs) (.int .i64 (j : Int))).run Tryz.prog W = .ok (.string X) W:=by
 have h3 : (j : Int) < 10:=by omega
 have h4 : ∀ w,(isAgg 9).run Tryz.prog w = .ok false w:=run_isAgg_plain Tryz.underlying9 rfl;simp [Instr.index,run_underlying Tryz.underlying157,asIntOf,h3,part,go_sem,h4,h,Sem.run_bind,Result.andThen];omega
def setT (k : Nat) (e : Ev) (t : List UInt8) : Ev:=match k with
 | 0 => { e with key:=t }
 | 1 => { e with val:=t }
 | _ => { e with old:=t }
def setM (k : Nat) (m : Em) (t : ByteArray) : Em:=match k with
 | 0 => { m with key:=t }
 | 1 => { m with val:=t }
 | _ => { m with old:=t }
theorem setM_ev (k : Nat) (m : Em) (t : List UInt8) : (setM k m (S t)).ev = setT k m.ev t:=by
 match k with
 | 0 => rfl
 | 1 => rfl
 | _ + 2 => rfl
def txR : Nat → Nat → List Wd → Ev → Option (List Wd × Ev)
 | 0,_,ws,e => some (ws,e)
 | n + 1,k,ws,e => if ws = [] then some (ws,e) else match txtP 16 ws with
  | none => none
  | some (t,r) => txR n (k + 1) r (setT k e t)
theorem txR_all {ws : List Wd} {e : Ev} (h : ws ≠ []) : txtsP e ws = txR 3 0 ws e:=by
 rw [txR,if_neg h];unfold txtsP
 cases h1 : txtP 16 ws with
 | none => rfl
 | some p =>
  obtain ⟨k,r1⟩:=p;simp only;rw [txR]
  by_cases h2 : r1 = []
  ·rw [if_pos h2,if_pos h2,h2]
   rfl
  ·rw [if_neg h2,if_neg h2]
   cases h3 : txtP 16 r1 with
   | none => rfl
   | some p =>
    obtain ⟨v,r2⟩:=p;simp only;rw [txR]
    by_cases h4 : r2 = []
    ·rw [if_pos h4,if_pos h4,h4]
     rfl
    ·rw [if_neg h4,if_neg h4]
     cases h5 : txtP 16 r2 with
     | none => rfl
     | some p =>
      obtain ⟨o,r3⟩:=p
      rfl
def CmP (ws : List Wd) (b r : Nat) (nodes : Int) (m : Em) (w : World) (e : Ending) (w' : World) : Prop:=∃ (A : Option Addr) (c : Nat) (ok : Bool) (ws' : List Wd) (m' : Em),e = .returned (.bool ok) ∧ Rd w' b r A c nodes ws' m' ∧ Only (fun q => q = r) w w' ∧
 (ok = true → cmdP m.ev ws = some (ws',m'.ev) ∧ ∃ l,ws = l ++ ws') ∧ (ok = false → cmdP m.ev ws = none)
def CLoop (w : World) (b r : Nat) (A : Option Addr) (c : Nat) (nodes : Int) (ws : List Wd) (m : Em) (s : List UInt8) (i : Value) (wr : World) : Prop:=∃ j : Nat,j ≤ 10 ∧ i = .int .i64 j ∧ Rd wr b r A c nodes ws { m with op:=opTo s j } ∧ Only (fun q => q = r) w wr
def ptrV (r : Nat) : Array Value:=#[.pointer (some ⟨r,11,none⟩),.pointer (some ⟨r,12,none⟩),.pointer (some ⟨r,13,none⟩)]
def TSt (w : World) (b r q : Nat) (nodes : Int) (T : Option (List Wd × Ev)) (W0 : List Wd) (k : Nat) (wr : World) : Prop:=∃ (A : Option Addr) (c : Nat) (ws : List Wd) (m : Em),Rd wr b r A c nodes ws m ∧ Only (fun x => x = r) w wr ∧ Blk wr q 175 (ptrV r) ∧ T = txR (3 - k) k ws m.ev ∧ ∃ l,W0 = l ++ ws
def TLoop (w : World) (b r q : Nat) (nodes : Int) (T : Option (List Wd × Ev)) (W0 : List Wd) (i : Value) (wr : World) : Prop :=
 (i = .int .i64 0 ∧ TSt w b r q nodes T W0 0 wr) ∨ (i = .int .i64 1 ∧ TSt w b r q nodes T W0 1 wr) ∨ (i = .int .i64 2 ∧ TSt w b r q nodes T W0 2 wr) ∨ (i = .int .i64 3 ∧ TSt w b r q nodes T W0 3 wr)
theorem command_any (ws : List Wd) (b r : Nat) (A : Option Addr) (c : Nat) (nodes : Int) (m : Em) (w : World) (h : Rd w b r A c nodes ws m) (hT : OpT w) (h0 : 1 < b) (hop : m.op = 0) (hl : ws.length ≤ 90000000) (hz : ∀ d ∈ ws,d.1.length ≤ 100000000) :
  Calls Tryz.prog 88 #[.pointer (some ⟨r,0,none⟩)] w fun e w' => CmP ws b r nodes m w e w':=by
 have HPL:=hide (plain_any ws b r A c nodes m w h hl);have HZ:=hide hz;have HLN:=hide hl;have HT:=hide hT;have HOP:=hide hop;have hr0 : 0 < r:=by have:=h.hr;omega
 have HR0:=hide h;clear h hz hT hop hl;go_enter Tryz.func88,Tryz.ntmps88;go_upto_region 2 with (go_at_call 63;refine HPL.out.mono ?_;rintro e w2 ⟨A2,c2,t,ok,ws',rfl,hr2,ho2,h1,h2⟩;have HR2:=hide hr2;have HO2:=hide ho2;have H1:=hide h1;have H2:=hide h2;clear hr2 ho2 h1 h2)
 cases ok with
 | false =>
  have HN : Hid (cmdP m.ev ws = none):=by
   show _ = _;obtain ⟨_,_,h⟩:=H2.out rfl
   cases ws with
   | nil => rfl
   | cons d l =>
    have:=h d l rfl;simp only [cmdP];rw [if_neg (by rw [this];rintro ⟨h,_⟩;cases h)]
  go_wp2_with fail;go_ret;exact ⟨A2,c2,false,ws',m,rfl,HR2.out,HO2.out,(fun h => by cases h),fun _ => HN.out⟩
 | true =>
  have HWS : Hid (ws = (t,false) :: ws'):=H1.out rfl
  have HCM : Hid (cmdP m.ev ws = if 0 < opNo t then txtsP { m.ev with op:=(opNo t : Nat) } ws' else none):=by
   show _ = _;rw [HWS.out];simp only [cmdP]
   by_cases h : 0 < opNo t
   ·rw [if_pos h,if_pos ⟨trivial,h⟩]
   ·rw [if_neg h,if_neg (fun h' => h h'.2)]
  obtain ⟨X,hX⟩ : ∃ X,X = S t:=⟨_,rfl⟩;have hXl : X.toList = t:=by rw [hX,ByteArray.toList_eq,S_data]
  rw [← hX]
  by_cases ht : t = []
  ·have hXn : X.toList = []:=hXl.trans ht
   have hXe : X.toList.isEmpty = true:=by rw [hXn];rfl
   have hXe2 : X = ⟨#[]⟩:=by rw [hX,ht];rfl
   have HN : Hid (cmdP m.ev ws = none):=by
    show _ = _;rw [HCM.out,ht]
    rfl
   clear hXl ht hX;subst hXe2;go_wp2_with fail;go_ret;exact ⟨A2,c2,false,ws',m,rfl,HR2.out,HO2.out,(fun h => by cases h),fun _ => HN.out⟩
  have hXn : ¬ X.toList = []:=by rw [hXl];exact ht
  have hXe : X.toList.isEmpty = false:=by
   cases hq : X.toList with
   | nil => exact absurd hq hXn
   | cons a l => rfl
  have hT2 : OpT w2:=HT.out.below (HR0.out.low HO2.out) h0
  have HOV : Hid (∀ j v,opV[j]? = some v → w2.cell? ((⟨1,0,none⟩ : Addr).add j) = some v):=by
   intro j v hv;have hj : j < 10:=(Array.getElem?_eq_some_iff.1 hv).1
   have e2 : (⟨1,0,none⟩ : Addr).add j = ⟨1,j,none⟩:=by
    unfold Addr.add
    split
    ·rename_i h0;subst h0;rfl
    ·simp
   rw [e2,hT2.at_ j hj,hv]
  have HXL:=hide hXl;have HTN:=hide ht;clear hT2 hXl ht hX;go_upto_region 4 with fail
  refine wp_region_lit ?_;refine wpList_value rfl (.agg opV) (ex_load 157 (.global 1) rfl ⟨1,0,none⟩ rfl opV _ Tryz.underlying157 rfl ld124 HOV.out) ?_;try simp only [Act.put,aSt,aSz,aSs]
  obtain ⟨OV,hOV⟩ : ∃ OV,OV = opV:=⟨_,rfl⟩;rw [← hOV];have HOE:=hide hOV
  have HL0 : Hid (CLoop w b r A2 c2 nodes ws' m t (.int .i64 0) w2):=by
   refine ⟨0,by omega,rfl,?_,HO2.out⟩
   have : ({ m with op:=((opTo t 0 : Nat) : Int) } : Em) = m:=by
    show ({ m with op:=0 } : Em) = m;rw [← HOP.out]
   rw [this];exact HR2.out
  clear hXn hXe HOV hOV;go_upto_region 5 with fail
  go_loopw [21] (fun i wr => CLoop w b r A2 c2 nodes ws' m t i wr) (fun i _ => 10 - (intOf i).toNat)
  case atStart => exact HL0.out
  case round =>
   clear HL0;unfold CLoop at hrel;obtain ⟨j,hj,rfl,hrd,hon⟩:=hrel;have HR:=hide hrd;have HON:=hide hon;clear hrd hon;have j0 : (0 : Int) ≤ (j : Int):=by omega
   by_cases hlt : j < 10
   ·have js : (j : Int) < 10:=by omega
    obtain ⟨Y,hY⟩ : ∃ Y,Y = S (opW j):=⟨_,rfl⟩;have hri:=run_index124 OV j Y (by rw [HOE.out,hY];exact opV_at j hlt) hlt;have c9:=HR.out.co;have f9:=Blk.frozen HR.out.box 10
    by_cases heq : t = opW j
    ·have hj1 : 1 ≤ j:=by
      rcases Nat.eq_zero_or_pos j with h | h
      ·exfalso
       subst h;exact HTN.out heq
      ·exact h
     have hYX : Y = X:=by
      apply ByteArray.ext
      apply Array.toList_inj.1
      have h1:=HXL.out;rw [ByteArray.toList_eq] at h1;rw [h1,hY,S_data,heq]
     have HTO : Hid (opTo t (j + 1) = j):=by
      show _ = _;rw [opTo,if_pos ⟨hj1,heq⟩]
     subst hYX;have e1 : (Y.toList == Y.toList) = true:=by simp
     have e2 : (Y == Y) = true:=by rw [beq_toListBytes];exact e1
     have HL8 : Hid (CLoop w b r A2 c2 nodes ws' m t (.int .i64 ((j : Int) + 1)) (wr.setCell ⟨r,10,none⟩ (.int .i64 (j : Int)))):=by
      refine ⟨j + 1,by omega,by go_num,?_,HON.out.trans (only_setCell0 _ _ _ _)⟩;rw [HTO.out];exact HR.out.set 10 _ (rset_o _ _ _ _ _ _) (emu_with HR.out.t rfl rfl rfl rfl rfl rfl rfl)
     clear hY heq;go_wp2_with fail;go_roundw
     case rel => first | exact HL8.out | exact ⟨_,HL8.out,rfl⟩
     case measure => simp [intOf];omega
    ·have hne : ¬ Y.toList = X.toList:=by
      rw [HXL.out,hY,ByteArray.toList_eq,S_data];exact fun e => heq e.symm
     have e1 : (Y.toList == X.toList) = false:=by rw [beq_eq_false_iff_ne];exact hne
     have e2 : (Y == X) = false:=by rw [beq_toListBytes];exact e1
     have hne2 : ¬ Y = X:=fun e => hne (by rw [e])
     have HTO : Hid (opTo t (j + 1) = opTo t j):=by
      show _ = _;rw [opTo,if_neg (fun h => heq h.2)]
     have HL8 : Hid (CLoop w b r A2 c2 nodes ws' m t (.int .i64 ((j : Int) + 1)) wr):=by
      refine ⟨j + 1,by omega,by go_num,?_,HON.out⟩;rw [HTO.out];exact HR.out
     clear hY heq;go_wp2_with fail;go_roundw
     case rel => first | exact HL8.out | exact ⟨_,HL8.out,rfl⟩
     case measure => simp [intOf];omega
   ·have js : ¬ (j : Int) < 10:=by omega
    obtain ⟨op,hopn⟩ : ∃ op,op = opNo t:=⟨_,rfl⟩;obtain ⟨m1,hm1⟩ : ∃ m1 : Em,m1 = { m with op:=(op : Int) }:=⟨_,rfl⟩;have hj10 : j = 10:=by omega
    have HR1 : Hid (Rd wr b r A2 c2 nodes ws' m1):=by
     have:=HR.out;rw [hj10,opTo_all,← hopn,← hm1] at this;exact this
    have hm1o : m1.op = (op : Int):=by rw [hm1]
    have HCM2 : Hid (cmdP m.ev ws = if 0 < op then txtsP m1.ev ws' else none):=by
     show _ = _;rw [HCM.out,hm1,hopn]
     rfl
    have c9 : wr.cell? ⟨r,10,none⟩ = some (.int .i64 (op : Int)):=by rw [← hm1o];exact HR1.out.co
    have c8:=HR1.out.c0;have c7 : True:=trivial;subst hj10;clear hlt hopn hm1 hm1o HR
    by_cases hop0 : op = 0
    ·have g1 : ((op : Int) == 0) = true:=by rw [hop0];rfl
     have HN : Hid (cmdP m.ev ws = none):=by
      show _ = _;rw [HCM2.out,if_neg (by omega)]
     subst hop0;go_wp2_with fail;go_ret;exact ⟨A2,c2,false,ws',m1,rfl,HR1.out,HON.out,(fun h => by cases h),fun _ => HN.out⟩
    have g1 : ((op : Int) == 0) = false:=by rw [beq_eq_false_iff_ne];omega
    by_cases hw0 : ws' = []
    ·have HN : Hid (cmdP m.ev ws = none):=by
      show _ = _;rw [HCM2.out,if_pos (by omega),hw0]
      rfl
     have g2 : ((ws'.length : Int) == 0) = true:=by rw [hw0];rfl
     have g3 : ws'.length = 0:=by rw [hw0];rfl
     clear hw0;go_wp2_with fail;go_ret;exact ⟨A2,c2,false,ws',m1,rfl,HR1.out,HON.out,(fun h => by cases h),fun _ => HN.out⟩
    have HCM3 : Hid (cmdP m.ev ws = txR 3 0 ws' m1.ev):=by
     show _ = _;rw [HCM2.out,if_pos (by omega),txR_all hw0]
    have g3 : ¬ ws'.length = 0:=fun e => hw0 (List.length_eq_zero_iff.1 e)
    have g2 : ((ws'.length : Int) == 0) = false:=by rw [beq_eq_false_iff_ne];omega
    have HWA : Hid (∃ l,ws = l ++ ws'):=⟨[(t,false)],by rw [HWS.out];rfl⟩;obtain ⟨T,hTT⟩ : ∃ T,T = cmdP m.ev ws:=⟨_,rfl⟩;have HTT:=hide hTT;have HCM4 : Hid (T = txR 3 0 ws' m1.ev):=HTT.out.trans HCM3.out;clear hop0 hw0 hTT;go_upto_region 12 with fail
    have HU : Hid (True):=trivial;refine wp_region_L [] (fun _ => True) (by kernel_rfl) ?_;clear c7 c8 c9 g1 g2 g3;refine tk 0 50 (v:=?_) rfl HU.out ?_ ?_
    rotate_left;· intro V hV;go_simp;try with_reducible rfl
    try simp only [Act.put,aSt,aSz,aSs]
    refine tk 1 51 (v:=?_) rfl HU.out ?_ ?_
    rotate_left;· intro V hV;go_simp;try with_reducible rfl
    try simp only [Act.put,aSt,aSz,aSs]
    refine tk 2 52 (v:=?_) rfl HU.out ?_ ?_
    rotate_left;· intro V hV;go_simp;try with_reducible rfl
    try simp only [Act.put,aSt,aSz,aSs]
    refine tk 3 53 (v:=?_) rfl HU.out ?_ ?_
    rotate_left;· intro V hV;go_simp;try with_reducible rfl
    try simp only [Act.put,aSt,aSz,aSs]
    refine tk 4 54 (v:=?_) rfl HU.out ?_ ?_
    rotate_left;· intro V hV;go_simp;try with_reducible rfl
    try simp only [Act.put,aSt,aSz,aSs]
    refine tk 5 55 (v:=?_) rfl HU.out ?_ ?_
    rotate_left;· intro V hV;go_simp;try with_reducible rfl
    try simp only [Act.put,aSt,aSz,aSs]
    refine tk 6 56 (v:=?_) rfl HU.out ?_ ?_
    rotate_left;· intro V hV;go_simp;try with_reducible rfl
    try simp only [Act.put,aSt,aSz,aSs]
    refine tk 7 57 (v:=?_) rfl HU.out ?_ ?_
    rotate_left;· intro V hV;go_simp;try with_reducible rfl
    try simp only [Act.put,aSt,aSz,aSs]
    refine tk 8 58 (v:=?_) rfl HU.out ?_ ?_
    rotate_left;· intro V hV;go_simp;try with_reducible rfl
    try simp only [Act.put,aSt,aSz,aSs]
    refine tk 9 59 (v:=?_) rfl HU.out ?_ ?_
    rotate_left;· intro V hV;go_simp;try with_reducible rfl
    try simp only [Act.put,aSt,aSz,aSs]
    refine tk 10 60 (v:=?_) rfl HU.out ?_ ?_
    rotate_left;· intro V hV;go_simp;try with_reducible rfl
    try simp only [Act.put,aSt,aSz,aSs]
    refine tk 11 61 (v:=?_) rfl HU.out ?_ ?_
    rotate_left;· intro V hV;go_simp;try with_reducible rfl
    try simp only [Act.put,aSt,aSz,aSs]
    refine tk 12 62 (v:=?_) rfl HU.out ?_ ?_
    rotate_left;· intro V hV;go_simp;try with_reducible rfl
    try simp only [Act.put,aSt,aSz,aSs]
    refine tk 13 63 (v:=?_) rfl HU.out ?_ ?_
    rotate_left;· intro V hV;go_simp;try with_reducible rfl
    try simp only [Act.put,aSt,aSz,aSs]
    refine tk 14 64 (v:=?_) rfl HU.out ?_ ?_
    rotate_left;· intro V hV;go_simp;try with_reducible rfl
    try simp only [Act.put,aSt,aSz,aSs]
    refine tk 17 67 (v:=?_) rfl HU.out ?_ ?_
    rotate_left;· intro V hV;go_simp;try with_reducible rfl
    try simp only [Act.put,aSt,aSz,aSs]
    refine wpL_one 15 (by kernel_rfl) rfl (fun K hK => ?_);rw [if_pos (by rfl)];go_simp;refine hK _ _ (fun _ => trivial) ?_;clear hK K;try simp only [Act.put,aSt,aSz,aSs]
    refine tk 16 66 (v:=?_) rfl HU.out ?_ ?_
    rotate_left;· intro V hV;go_simp;try with_reducible rfl
    try simp only [Act.put,aSt,aSz,aSs]
    refine wpL_done (by kernel_rfl) ?_ _;generalize hW5 : World.drew (World.alloc wr _) = W5;have HR5 : Hid (Rd W5 b r A2 c2 nodes ws' m1):=by show Rd _ _ _ _ _ _ _ _;rw [← hW5];exact HR1.out.step ((Below.refl _ _).alloc (Nat.le_refl _) _).drew
    have HO5 : Hid (Only (fun q => q = r) w W5):=by show Only _ _ _;rw [← hW5];exact (HON.out.alloc _).drew
    have HB5 : Hid (Blk W5 wr.heap.size 175 (ptrV r)):=by show Blk _ _ _ _;rw [← hW5];exact (Blk.new _ _ _).drew
    have HL5 : Hid (TLoop w b r wr.heap.size nodes T ws (.int .i64 0) W5):=.inl ⟨rfl,A2,c2,ws',m1,HR5.out,HO5.out,HB5.out,HCM4.out,HWA.out⟩;obtain ⟨q,hq⟩ : ∃ q,q = wr.heap.size:=⟨_,rfl⟩;rw [← hq] at HL5 ⊢;clear hW5 HR5 HO5 HB5 hq HCM HCM2 HCM3 HCM4;go_upto_region 13 with fail
    go_loopw [67] (fun i wr => TLoop w b r q nodes T ws i wr) (fun i _ => 3 - (intOf i).toNat)
    case atStart => exact HL5.out
    case round =>
     clear HL5;unfold TLoop at hrel
     rcases hrel with ⟨rfl,A3,c3,ws3,m3,hr3,ho3,hb3,ht3,hl3⟩ | ⟨rfl,A3,c3,ws3,m3,hr3,ho3,hb3,ht3,hl3⟩ | ⟨rfl,A3,c3,ws3,m3,hr3,ho3,hb3,ht3,hl3⟩ | ⟨rfl,A3,c3,ws3,m3,hr3,ho3,hb3,ht3,hl3⟩
     ·have HR3:=hide hr3
      have HO3:=hide ho3;have HB3:=hide hb3;have HT3:=hide ht3;have HL3:=hide hl3;clear hr3 ho3 hb3 ht3 hl3;have cp : wr.cell? ⟨q,0,none⟩ = some (.pointer (some ⟨r,11,none⟩)):=HB3.out.cell 0;have cw:=HR3.out.c0
      by_cases hw3 : ws3 = []
      ·have HTE : Hid (T = some (ws3,m3.ev)):=by
        show _ = _;rw [HT3.out,show 3 - 0 = 2 + 1 from rfl,txR,if_pos hw3]
       have g2 : ((ws3.length : Int) == 0) = true:=by rw [hw3];rfl
       have g3 : ws3.length = 0:=by rw [hw3];rfl
       clear hw3;go_wp2_with fail;go_ret;exact ⟨A3,c3,true,ws3,m3,rfl,HR3.out,HO3.out,(fun _ => ⟨HTT.out.symm.trans HTE.out,HL3.out⟩),fun h => by cases h⟩
      ·have HTE : Hid (T = match txtP 16 ws3 with | none => none | some (t,r) => txR 2 1 r (setT 0 m3.ev t)):=by
        show _ = _;rw [HT3.out,show 3 - 0 = 2 + 1 from rfl,txR,if_neg hw3]
       have g3 : ¬ ws3.length = 0:=fun e => hw3 (List.length_eq_zero_iff.1 e)
       have g2 : ((ws3.length : Int) == 0) = false:=by rw [beq_eq_false_iff_ne];omega
       have HSZ : Hid (ws3.length ≤ 90000000 ∧ ∀ d ∈ ws3,d.1.length ≤ 100000000):=by
        obtain ⟨l,hl⟩:=HL3.out;have h1:=HLN.out;refine ⟨by rw [hl,List.length_append] at h1;omega,fun d hd => HZ.out d (by rw [hl];exact List.mem_append_right _ hd)⟩
       have HTX:=hide (text_any 16 ws3 b r A3 c3 nodes m3 wr HR3.out HSZ.out.1 HSZ.out.2 (by omega));clear hw3;go_upto_region 17 with (go_at_call 87;refine HTX.out.mono ?_;rintro e w6 ⟨A6,c6,t6,ok6,ws6,rfl,hr6,ho6,h1,h2⟩;have HR6:=hide hr6;have HO6:=hide (HO3.out.trans ho6);have HB6 : Hid (Blk w6 q 175 (ptrV r)):=HB3.out.only ho6 (fun e => by have h1:=HB3.out;rw [e] at h1;exact Blk.ne_ h1 HR3.out.box (by decide) rfl);have H6:=hide h1;have H7:=hide h2;have c9:=HR6.out.cy;have f9:=Blk.frozen HR6.out.box 11;clear hr6 ho6 h1 h2)
       obtain ⟨W7,hW7⟩ : ∃ W7,W7 = w6.setCell ⟨r,11,none⟩ (.string (S t6)):=⟨_,rfl⟩
       have HR7 : Hid (Rd W7 b r A6 c6 nodes ws6 (setM 0 m3 (S t6))):=by
        show Rd _ _ _ _ _ _ _ _;rw [hW7];exact HR6.out.set 11 _ (rset_y _ _ _ _ _ _) (emu_with HR6.out.t rfl rfl rfl rfl rfl rfl rfl)
       have HO7 : Hid (Only (fun q => q = r) w W7):=by
        show Only _ _ _;rw [hW7];exact HO6.out.trans (only_setCell0 _ _ _ _)
       have HB7 : Hid (Blk W7 q 175 (ptrV r)):=by
        show Blk _ _ _ _;rw [hW7];exact HB6.out.far (fun e => by have e : q = r:=e;have h1:=HB6.out;rw [e] at h1;exact Blk.ne_ h1 HR6.out.box (by decide) rfl) _
       rw [← hW7];clear hW7 c9 f9 HTX
       cases ok6 with
       | false =>
        have HN : Hid (cmdP m.ev ws = none):=by
         show _ = _;rw [← HTT.out,HTE.out,(H7.out rfl).2.2]
        go_wp2_with fail;go_ret;exact ⟨A6,c6,false,ws6,_,rfl,HR7.out,HO7.out,(fun h => by cases h),fun _ => HN.out⟩
       | true =>
        have HL8 : Hid (TLoop w b r q nodes T ws (.int .i64 1) W7):=by
         refine .inr (.inl ⟨rfl,A6,c6,ws6,_,HR7.out,HO7.out,HB7.out,?_,?_⟩)
         ·rw [HTE.out,H6.out rfl,setM_ev]
         ·obtain ⟨l,hl⟩:=HL3.out
          obtain ⟨⟨d,hd⟩,_⟩:=txtP_tail (H6.out rfl);exact ⟨l ++ [d],by rw [hl,hd];simp⟩
        go_wp2_with fail;go_roundw
        case rel => first | exact HL8.out | exact ⟨_,HL8.out,rfl⟩
        case measure => simp [intOf]
     ·have HR3:=hide hr3
      have HO3:=hide ho3;have HB3:=hide hb3;have HT3:=hide ht3;have HL3:=hide hl3;clear hr3 ho3 hb3 ht3 hl3;have cp : wr.cell? ⟨q,1,none⟩ = some (.pointer (some ⟨r,12,none⟩)):=HB3.out.cell 1;have cw:=HR3.out.c0
      by_cases hw3 : ws3 = []
      ·have HTE : Hid (T = some (ws3,m3.ev)):=by
        show _ = _;rw [HT3.out,show 3 - 1 = 1 + 1 from rfl,txR,if_pos hw3]
       have g2 : ((ws3.length : Int) == 0) = true:=by rw [hw3];rfl
       have g3 : ws3.length = 0:=by rw [hw3];rfl
       clear hw3;go_wp2_with fail;go_ret;exact ⟨A3,c3,true,ws3,m3,rfl,HR3.out,HO3.out,(fun _ => ⟨HTT.out.symm.trans HTE.out,HL3.out⟩),fun h => by cases h⟩
      ·have HTE : Hid (T = match txtP 16 ws3 with | none => none | some (t,r) => txR 1 2 r (setT 1 m3.ev t)):=by
        show _ = _;rw [HT3.out,show 3 - 1 = 1 + 1 from rfl,txR,if_neg hw3]
       have g3 : ¬ ws3.length = 0:=fun e => hw3 (List.length_eq_zero_iff.1 e)
       have g2 : ((ws3.length : Int) == 0) = false:=by rw [beq_eq_false_iff_ne];omega
       have HSZ : Hid (ws3.length ≤ 90000000 ∧ ∀ d ∈ ws3,d.1.length ≤ 100000000):=by
        obtain ⟨l,hl⟩:=HL3.out;have h1:=HLN.out;refine ⟨by rw [hl,List.length_append] at h1;omega,fun d hd => HZ.out d (by rw [hl];exact List.mem_append_right _ hd)⟩
       have HTX:=hide (text_any 16 ws3 b r A3 c3 nodes m3 wr HR3.out HSZ.out.1 HSZ.out.2 (by omega));clear hw3;go_upto_region 17 with (go_at_call 87;refine HTX.out.mono ?_;rintro e w6 ⟨A6,c6,t6,ok6,ws6,rfl,hr6,ho6,h1,h2⟩;have HR6:=hide hr6;have HO6:=hide (HO3.out.trans ho6);have HB6 : Hid (Blk w6 q 175 (ptrV r)):=HB3.out.only ho6 (fun e => by have h1:=HB3.out;rw [e] at h1;exact Blk.ne_ h1 HR3.out.box (by decide) rfl);have H6:=hide h1;have H7:=hide h2;have c9:=HR6.out.cv;have f9:=Blk.frozen HR6.out.box 12;clear hr6 ho6 h1 h2)
       obtain ⟨W7,hW7⟩ : ∃ W7,W7 = w6.setCell ⟨r,12,none⟩ (.string (S t6)):=⟨_,rfl⟩
       have HR7 : Hid (Rd W7 b r A6 c6 nodes ws6 (setM 1 m3 (S t6))):=by
        show Rd _ _ _ _ _ _ _ _;rw [hW7];exact HR6.out.set 12 _ (rset_v _ _ _ _ _ _) (emu_with HR6.out.t rfl rfl rfl rfl rfl rfl rfl)
       have HO7 : Hid (Only (fun q => q = r) w W7):=by
        show Only _ _ _;rw [hW7];exact HO6.out.trans (only_setCell0 _ _ _ _)
       have HB7 : Hid (Blk W7 q 175 (ptrV r)):=by
        show Blk _ _ _ _;rw [hW7];exact HB6.out.far (fun e => by have e : q = r:=e;have h1:=HB6.out;rw [e] at h1;exact Blk.ne_ h1 HR6.out.box (by decide) rfl) _
       rw [← hW7];clear hW7 c9 f9 HTX
       cases ok6 with
       | false =>
        have HN : Hid (cmdP m.ev ws = none):=by
         show _ = _;rw [← HTT.out,HTE.out,(H7.out rfl).2.2]
        go_wp2_with fail;go_ret;exact ⟨A6,c6,false,ws6,_,rfl,HR7.out,HO7.out,(fun h => by cases h),fun _ => HN.out⟩
       | true =>
        have HL8 : Hid (TLoop w b r q nodes T ws (.int .i64 2) W7):=by
         refine .inr (.inr (.inl ⟨rfl,A6,c6,ws6,_,HR7.out,HO7.out,HB7.out,?_,?_⟩))
         ·rw [HTE.out,H6.out rfl,setM_ev]
         ·obtain ⟨l,hl⟩:=HL3.out
          obtain ⟨⟨d,hd⟩,_⟩:=txtP_tail (H6.out rfl);exact ⟨l ++ [d],by rw [hl,hd];simp⟩
        go_wp2_with fail;go_roundw
        case rel => first | exact HL8.out | exact ⟨_,HL8.out,rfl⟩
        case measure => simp [intOf]
     ·have HR3:=hide hr3
      have HO3:=hide ho3;have HB3:=hide hb3;have HT3:=hide ht3;have HL3:=hide hl3;clear hr3 ho3 hb3 ht3 hl3;have cp : wr.cell? ⟨q,2,none⟩ = some (.pointer (some ⟨r,13,none⟩)):=HB3.out.cell 2;have cw:=HR3.out.c0
      by_cases hw3 : ws3 = []
      ·have HTE : Hid (T = some (ws3,m3.ev)):=by
        show _ = _;rw [HT3.out,show 3 - 2 = 0 + 1 from rfl,txR,if_pos hw3]
       have g2 : ((ws3.length : Int) == 0) = true:=by rw [hw3];rfl
       have g3 : ws3.length = 0:=by rw [hw3];rfl
       clear hw3;go_wp2_with fail;go_ret;exact ⟨A3,c3,true,ws3,m3,rfl,HR3.out,HO3.out,(fun _ => ⟨HTT.out.symm.trans HTE.out,HL3.out⟩),fun h => by cases h⟩
      ·have HTE : Hid (T = match txtP 16 ws3 with | none => none | some (t,r) => txR 0 3 r (setT 2 m3.ev t)):=by
        show _ = _;rw [HT3.out,show 3 - 2 = 0 + 1 from rfl,txR,if_neg hw3]
       have g3 : ¬ ws3.length = 0:=fun e => hw3 (List.length_eq_zero_iff.1 e)
       have g2 : ((ws3.length : Int) == 0) = false:=by rw [beq_eq_false_iff_ne];omega
       have HSZ : Hid (ws3.length ≤ 90000000 ∧ ∀ d ∈ ws3,d.1.length ≤ 100000000):=by
        obtain ⟨l,hl⟩:=HL3.out;have h1:=HLN.out;refine ⟨by rw [hl,List.length_append] at h1;omega,fun d hd => HZ.out d (by rw [hl];exact List.mem_append_right _ hd)⟩
       have HTX:=hide (text_any 16 ws3 b r A3 c3 nodes m3 wr HR3.out HSZ.out.1 HSZ.out.2 (by omega));clear hw3;go_upto_region 17 with (go_at_call 87;refine HTX.out.mono ?_;rintro e w6 ⟨A6,c6,t6,ok6,ws6,rfl,hr6,ho6,h1,h2⟩;have HR6:=hide hr6;have HO6:=hide (HO3.out.trans ho6);have HB6 : Hid (Blk w6 q 175 (ptrV r)):=HB3.out.only ho6 (fun e => by have h1:=HB3.out;rw [e] at h1;exact Blk.ne_ h1 HR3.out.box (by decide) rfl);have H6:=hide h1;have H7:=hide h2;have c9:=HR6.out.cz;have f9:=Blk.frozen HR6.out.box 13;clear hr6 ho6 h1 h2)
       obtain ⟨W7,hW7⟩ : ∃ W7,W7 = w6.setCell ⟨r,13,none⟩ (.string (S t6)):=⟨_,rfl⟩
       have HR7 : Hid (Rd W7 b r A6 c6 nodes ws6 (setM 2 m3 (S t6))):=by
        show Rd _ _ _ _ _ _ _ _;rw [hW7];exact HR6.out.set 13 _ (rset_z _ _ _ _ _ _) (emu_with HR6.out.t rfl rfl rfl rfl rfl rfl rfl)
       have HO7 : Hid (Only (fun q => q = r) w W7):=by
        show Only _ _ _;rw [hW7];exact HO6.out.trans (only_setCell0 _ _ _ _)
       have HB7 : Hid (Blk W7 q 175 (ptrV r)):=by
        show Blk _ _ _ _;rw [hW7];exact HB6.out.far (fun e => by have e : q = r:=e;have h1:=HB6.out;rw [e] at h1;exact Blk.ne_ h1 HR6.out.box (by decide) rfl) _
       rw [← hW7];clear hW7 c9 f9 HTX
       cases ok6 with
       | false =>
        have HN : Hid (cmdP m.ev ws = none):=by
         show _ = _;rw [← HTT.out,HTE.out,(H7.out rfl).2.2]
        go_wp2_with fail;go_ret;exact ⟨A6,c6,false,ws6,_,rfl,HR7.out,HO7.out,(fun h => by cases h),fun _ => HN.out⟩
       | true =>
        have HL8 : Hid (TLoop w b r q nodes T ws (.int .i64 3) W7):=by
         refine .inr (.inr (.inr (⟨rfl,A6,c6,ws6,_,HR7.out,HO7.out,HB7.out,?_,?_⟩)))
         ·rw [HTE.out,H6.out rfl,setM_ev]
         ·obtain ⟨l,hl⟩:=HL3.out
          obtain ⟨⟨d,hd⟩,_⟩:=txtP_tail (H6.out rfl);exact ⟨l ++ [d],by rw [hl,hd];simp⟩
        go_wp2_with fail;go_roundw
        case rel => first | exact HL8.out | exact ⟨_,HL8.out,rfl⟩
        case measure => simp [intOf]
     ·have HR3:=hide hr3
      have HO3:=hide ho3;have HB3:=hide hb3;have HT3:=hide ht3;have HL3:=hide hl3;clear hr3 ho3 hb3 ht3 hl3;have HTE : Hid (T = some (ws3,m3.ev)):=HT3.out;go_wp2_with fail;go_ret;exact ⟨A3,c3,true,ws3,m3,rfl,HR3.out,HO3.out,(fun _ => ⟨HTT.out.symm.trans HTE.out,HL3.out⟩),fun h => by cases h⟩
end Go.Proofs.YtcibcmfaebbhnaaGreatDoor
