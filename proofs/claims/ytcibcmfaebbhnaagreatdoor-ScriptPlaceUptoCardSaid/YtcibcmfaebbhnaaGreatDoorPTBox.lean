/-
  The reference's lists. Plain facts on a mark's line: its parts, joined by blanks or put one behind the other. A list of marks in memory; the reference's SameMarks. (Printed by wip/tools/mkmarks.py.) The reference's SameMarks: a list of marks and one with the same content. A region that draws its order, walked one operation at a time; operations on texts and on whole structs as run equations. (Printed by wip/tools/mkrun.py.) A mark in a block of its own: its cells one by one; what a mark's walk keeps; the contracts that its line asks. (Printed by wip/tools/mkbox.py.)
-/
import Derived.Test.YtcibcmfaebbhnaaGreatDoorPTLs3
import Derived.Test.YtcibcmfaebbhnaaGreatDoorPTLs5
import Derived.Test.YtcibcmfaebbhnaaGreatDoorPTPrt
import Derived.Test.YtcibcmfaebbhnaaGreatDoorPTLs1
import Derived.StillTailTactics
import Derived.Test.YtcibcmfaebbhnaaGreatDoorPHdr
import Derived.StillTail
import Derived.Test.YtcibcmfaebbhnaaGreatDoorPRb
set_option linter.unusedSimpArgs false
set_option linter.unusedVariables false

namespace Go.Proofs.YtcibcmfaebbhnaaGreatDoor.Tr
open Go.RowKit Go.WideShapes Go.ChangeShapes Q
theorem lists_any (m : Mk) (w : World) (hm : MkIn w w.heap.size m) (hw : wrB m = true) :
  Calls Tryz.prog 67 #[m.v] w fun e w' => e = .returned (.string (S (idL m.ep m.ld m.ii m.ci ++ memL m.ms m.nm ++ traL m.ts m.nt))) ∧ Below w.heap.size w w':=by
 by_cases h1 : m.ep = 0
 ·by_cases h2 : m.ld = 0
  ·by_cases h3 : m.ii = 0
   ·by_cases h4 : m.ci = 0
    ·exact lists_c5 m w hm hw ⟨h1,h2,h3,h4⟩
    ·exact lists_c4 m w hm hw ⟨h1,h2,h3,h4⟩
   ·exact lists_c3 m w hm hw ⟨h1,h2,h3⟩
  ·exact lists_c2 m w hm hw ⟨h1,h2⟩
 ·exact lists_c1 m w hm hw h1
def partL (b : Bool) (nm v : List UInt8) : List UInt8:=if b = true then [32] ++ nm ++ [61] ++ v else []
theorem join_snoc (x sep : List UInt8) : ∀ (ls : List (List UInt8)),ls ≠ [] → Lib.join (ls ++ [x]) sep = Lib.join ls sep ++ sep ++ x
 | [],h => absurd rfl h
 | a :: r,_ => by
  rw [List.cons_append,Lib.join_cons,Lib.join_cons];simp [Lib.joinTail,List.flatten_append]
theorem join_addP (b : Bool) (ls : List (List UInt8)) (nm v : List UInt8) (h : ls ≠ []) : Lib.join (addP b ls nm v) [32] = Lib.join ls [32] ++ partL b nm v:=by
 cases b with
 | false => simp [addP,partL]
 | true => rw [show addP true ls nm v = ls ++ [nm ++ [61] ++ v] from rfl,join_snoc _ _ _ h];simp [partL]
theorem addP_ne (b : Bool) (ls : List (List UInt8)) (nm v : List UInt8) (h : ls ≠ []) : addP b ls nm v ≠ []:=by
 cases b with
 | false => exact h
 | true => simp [addP]
theorem addP_len (b : Bool) (ls : List (List UInt8)) (nm v : List UInt8) : (addP b ls nm v).length ≤ ls.length + 1:=by
 cases b <;> simp [addP]
theorem plain_part (nm : List UInt8) (n : Nat) : plainL nm n = partL (decide (n ≠ 0)) nm (Lib.decDigits n):=by
 unfold plainL partL
 by_cases h : n = 0 <;> simp [h]
theorem itoa_slash (xs : List Nat) : Lib.join (xs.map fun x : Nat => Lib.itoa (x : Int)) [47] = slashL xs:=by
 unfold slashL;rw [List.map_congr_left fun x _ => itoa_nat x]
def triI (s : Int × Int × Int) : List UInt8:=Lib.join [Lib.itoa s.1,Lib.itoa s.2.1,Lib.itoa s.2.2] [47]
def bodyB (m : Mk) : Bool:=decide (m.bd ≠ [])
def idB (m : Mk) : Bool:=!(m.ep == 0 && (m.ld == 0 && (m.ii == 0 && m.ci == 0)))
def cmdB (m : Mk) : Bool:=!(m.cl == 0 && (m.cn == 0 && (m.rq == 0 && (m.op == 0 && (m.key == ⟨#[]⟩ && (m.val == ⟨#[]⟩ && m.old == ⟨#[]⟩))))))
def resB (m : Mk) : Bool:=!(m.co == 0 && (m.rv == ⟨#[]⟩ && m.rn == 0))
def sl4 (a b c d : Int) : List UInt8:=Lib.join [Lib.itoa a,Lib.itoa b,Lib.itoa c,Lib.itoa d] [47]
def cmdL (m : Mk) : List UInt8:=sl4 m.cl m.cn m.rq m.op ++ [47] ++ quoteL m.key.data.toList ++ [47] ++ quoteL m.val.data.toList ++ [47] ++ quoteL m.old.data.toList
def resL (m : Mk) : List UInt8:=Lib.itoa m.co ++ [47] ++ quoteL m.rv.data.toList ++ [47] ++ Lib.itoa m.rn
def kindOf (m : Mk) : List UInt8:=kindL.getD m.kd.toNat []
def headL (m : Mk) : List UInt8:=Lib.itoa m.aT ++ [32] ++ kindOf m ++ [32] ++ Lib.itoa m.nd ++ [32] ++ Lib.itoa m.ic
def listsL (m : Mk) : List UInt8:=partL (idB m) [105,100] (sl4 m.ep m.ld m.ii m.ci) ++ partL (decide (0 < m.nm)) [109,101,109,98,101,114,115] (Lib.join (m.ms.map triI) [44]) ++ partL (decide (0 < m.nt)) [116,114,97,110,115] (Lib.join (m.ts.map Lib.itoa) [44])
def numL (nm : List UInt8) (x : Int) : List UInt8:=partL (x != 0) nm (Lib.itoa x)
def numsL (m : Mk) : List UInt8:=numL [115,101,110,100,101,114] m.se ++ numL [115,101,113] m.sq ++ numL [112,111,115] m.po ++ numL [110] m.n
def lineL (m : Mk) : List UInt8:=headL m ++ listsL m ++ numsL m ++ partL (bodyB m) [98,111,100,121] (quoteL m.bd) ++ partL (cmdB m) [99,109,100] (cmdL m) ++ partL (resB m) [114,101,115,117,108,116] (resL m) ++ numL [101,114,114] m.er
theorem num_plain (nm : List UInt8) (n : Nat) : plainL nm n = numL nm (n : Int):=by
 rw [plain_part,numL,itoa_nat]
 congr 1
 by_cases h : n = 0 <;> simp [h]
theorem sl4_nat (a b c d : Nat) : sl4 (a : Int) b c d = slashL [a,b,c,d]:=by rw [← itoa_slash];rfl
theorem id_part (a b c d : Nat) : idL a b c d = partL (!((a : Int) == 0 && ((b : Int) == 0 && ((c : Int) == 0 && (d : Int) == 0)))) [105,100] (sl4 (a : Int) b c d):=by
 rw [sl4_nat];unfold idL partL
 by_cases h : (a : Int) = 0 ∧ (b : Int) = 0 ∧ (c : Int) = 0 ∧ (d : Int) = 0
 ·rw [if_pos h]
  obtain ⟨h1,h2,h3,h4⟩:=h;simp [h1,h2,h3,h4]
 ·rw [if_neg h,if_pos]
  ·simp
  ·rw [Bool.not_eq_true',Bool.eq_false_iff]
   intro h';simp only [Bool.and_eq_true,beq_iff_eq] at h';exact h ⟨h'.1,h'.2.1,h'.2.2.1,h'.2.2.2⟩
theorem tri_nat {l : List (Int × Int × Int)} {k x y z : Nat} (hk : k < l.length) (ex : pidA l k = x) (ey : incA l k = y) (ez : cidA l k = z) : triI l[k] = triL l k:=by
 have e : l.getD k (0,0,0) = l[k]:=by simp [hk]
 unfold triL;rw [ex,ey,ez,← itoa_slash];unfold pidA at ex;unfold incA at ey;unfold cidA at ez;rw [e] at ex ey ez;unfold triI;rw [ex,ey,ez]
 rfl
theorem mem_part (l : List (Int × Int × Int)) (h : ∀ k,k < l.length → ∃ x y z : Nat,pidA l k = x ∧ incA l k = y ∧ cidA l k = z) : ∀ k,k ≤ l.length → memL l k = partL (decide (0 < k)) [109,101,109,98,101,114,115] (Lib.join ((l.take k).map triI) [44])
 | 0,_ => by simp [memL,partL]
 | k + 1,hk => by
  have ih:=mem_part l h k (by omega);obtain ⟨x,y,z,ex,ey,ez⟩:=h k (by omega);rw [memL,ih,← tri_nat (by omega) ex ey ez,List.take_succ_eq_append_getElem (by omega),List.map_append]
  by_cases h0 : k = 0
  ·subst h0
   simp [partL,Lib.join_one]
  ·rw [if_neg h0]
   have hne : (l.take k).map triI ≠ []:=by
    intro e;have:=congrArg List.length e;rw [List.length_map,List.length_take,List.length_nil] at this;omega
   rw [show [l[k]].map triI = [triI l[k]] from rfl,join_snoc _ _ _ hne];simp [partL,show 0 < k by omega]
theorem tra_part (l : List Int) (h : ∀ k,k < l.length → ∃ x : Nat,nth l k = x) : ∀ k,k ≤ l.length → traL l k = partL (decide (0 < k)) [116,114,97,110,115] (Lib.join ((l.take k).map Lib.itoa) [44])
 | 0,_ => by simp [traL,partL]
 | k + 1,hk => by
  have ih:=tra_part l h k (by omega);obtain ⟨x,ex⟩:=h k (by omega);have e : l[k] = (x : Int):=by rw [← ex];simp [nth,show k < l.length by omega]
  rw [traL,ih,ex,List.take_succ_eq_append_getElem (by omega),List.map_append,e,Int.toNat_natCast,← itoa_nat]
  by_cases h0 : k = 0
  ·subst h0
   simp [partL,Lib.join_one]
  ·rw [if_neg h0]
   have hne : (l.take k).map Lib.itoa ≠ []:=by
    intro e;have:=congrArg List.length e;rw [List.length_map,List.length_take,List.length_nil] at this;omega
   rw [show [(x : Int)].map Lib.itoa = [Lib.itoa x] from rfl,join_snoc _ _ _ hne];simp [partL,show 0 < k by omega]
structure Cnts (m : Mk) : Prop where
 ns : ∀ x ∈ m.ns,∃ n : Nat,x = n ∧ n ≤ 4611686018427387904
 ms : ∀ k,k < m.ms.length → ∃ x y z : Nat,pidA m.ms k = x ∧ incA m.ms k = y ∧ cidA m.ms k = z ∧ x ≤ 4611686018427387904 ∧ y ≤ 4611686018427387904 ∧ z ≤ 4611686018427387904
 ts : ∀ k,k < m.ts.length → ∃ x : Nat,nth m.ts k = x ∧ x ≤ 4611686018427387904
 kd : 1 ≤ m.kd ∧ m.kd ≤ 16
 rn : -4611686018427387904 ≤ m.rn ∧ m.rn ≤ 4611686018427387904
 er : ∃ n : Nat,m.er = n ∧ n ≤ 999
theorem cnts {m : Mk} (hw : wrB m = true) : Cnts m:=by
 unfold wrB at hw;rw [Bool.and_eq_true,Bool.and_eq_true,Bool.and_eq_true] at hw;obtain ⟨⟨⟨h0,hcm⟩,hcn⟩,hct⟩:=hw;have h0:=of_decide_eq_true h0;unfold cntB at hcm hcn hct;rw [List.all_eq_true] at hcm hcn hct;refine ⟨fun x hx => okC_nat (hcn x hx),fun k hk => ?_,fun k hk => okC_nat (hct _ (by simp [nth,hk])),⟨h0.1,h0.2.1⟩,⟨h0.2.2.1,h0.2.2.2.1⟩,⟨m.er.toNat,by omega,by omega⟩⟩;unfold flat at hcm
 have hmem : ∀ u ∈ [pidA m.ms k,incA m.ms k,cidA m.ms k],okC u = true:=fun u hu => hcm u (by
  rw [List.mem_flatMap];exact ⟨m.ms[k],List.getElem_mem hk,by simpa [pidA,incA,cidA,hk] using hu⟩)
 obtain ⟨x,ex,hx⟩:=okC_nat (hmem (pidA m.ms k) (by simp));obtain ⟨y,ey,hy⟩:=okC_nat (hmem (incA m.ms k) (by simp));obtain ⟨z,ez,hz⟩:=okC_nat (hmem (cidA m.ms k) (by simp));exact ⟨x,y,z,ex,ey,ez,hx,hy,hz⟩
theorem lists_part {m : Mk} (hw : Cnts m) (h1 : m.ms.length = m.nm) (h2 : m.ts.length = m.nt) : idL m.ep m.ld m.ii m.ci ++ memL m.ms m.nm ++ traL m.ts m.nt = listsL m:=by
 obtain ⟨a,ea,_⟩:=hw.ns m.ep (by simp [Mk.ns]);obtain ⟨b,eb,_⟩:=hw.ns m.ld (by simp [Mk.ns]);obtain ⟨c,ec,_⟩:=hw.ns m.ii (by simp [Mk.ns]);obtain ⟨d,ed,_⟩:=hw.ns m.ci (by simp [Mk.ns]);have hm:=mem_part m.ms (fun k hk => by obtain ⟨x,y,z,ex,ey,ez,_⟩:=hw.ms k hk;exact ⟨x,y,z,ex,ey,ez⟩) m.nm (by omega);have ht:=tra_part m.ts (fun k hk => by obtain ⟨x,ex,_⟩:=hw.ts k hk;exact ⟨x,ex⟩) m.nt (by omega);rw [List.take_of_length_le (by omega)] at hm ht;rw [hm,ht];unfold listsL idB;rw [ea,eb,ec,ed,id_part]
structure MkZ (m : Mk) : Prop where
 nm : m.nm ≤ 1048576
 nt : m.nt ≤ 1048576
 nb : m.nb ≤ 1048576
 bd : m.bd.length = m.nb
 key : m.key.size ≤ 1048576
 val : m.val.size ≤ 1048576
 old : m.old.size ≤ 1048576
 rv : m.rv.size ≤ 1048576
def mkCells (l : List Mk) : List Value:=l.flatMap fun m => m.cs.toList
theorem mk_size (m : Mk) : m.cs.size = 26:=rfl
theorem mkCells_len (l : List Mk) : (mkCells l).length = l.length * 26:=by
 induction l with
 | nil => rfl
 | cons a l ih =>
  have : mkCells (a :: l) = a.cs.toList ++ mkCells l:=rfl;rw [this,List.length_append,ih,List.length_cons];have : a.cs.toList.length = 26:=rfl;omega
theorem mkCells_at : ∀ (l : List Mk) (k i : Nat) (m : Mk),l[k]? = some m → i < 26 → (mkCells l)[k * 26 + i]? = m.cs[i]?
 | [],k,i,m,h,_ => by simp at h
 | a :: l,0,i,m,h,hi => by
  simp at h;subst h;have : mkCells (a :: l) = a.cs.toList ++ mkCells l:=rfl;rw [this,Nat.zero_mul,Nat.zero_add,List.getElem?_append_left (by have : a.cs.toList.length = 26:=rfl;omega),Array.getElem?_toList]
 | a :: l,k + 1,i,m,h,hi => by
  have ih:=mkCells_at l k i m (by simpa using h) hi;have e : mkCells (a :: l) = a.cs.toList ++ mkCells l:=rfl;have hl : a.cs.toList.length = 26:=rfl;rw [e,List.getElem?_append_right (by omega),hl,show (k + 1) * 26 + i - 26 = k * 26 + i by omega];exact ih
structure MsIn (w : World) (B : Nat) (A : Option Addr) (n : Nat) (l : List Mk) : Prop where
 row : Reads w B 26 A n (mkCells l)
 ent : ∀ m ∈ l,MkIn w B m
theorem MsIn.len {w : World} {B n : Nat} {A : Option Addr} {l : List Mk} (h : MsIn w B A n l) : l.length = n:=by
 have:=h.row.1;rw [mkCells_len] at this;omega
theorem MsIn.at_ {w : World} {B n k : Nat} {A : Option Addr} {l : List Mk} (h : MsIn w B A n l) (hk : k < n) :
  ∃ b off m,A = some ⟨b,off,none⟩ ∧ b < B ∧ l[k]? = some m ∧ MkIn w B m ∧ ∀ i,i < 26 → w.cell? ⟨b,off + k * 26 + i,none⟩ = m.cs[i]?:=by
 obtain ⟨ad,e,hb,hc⟩:=h.row.2 (by omega);have hl:=h.len;have hm : l[k]? = some (l[k]'(by omega)):=List.getElem?_eq_getElem _;obtain ⟨b,off,spot⟩:=ad;have hm0 : l[0]? = some (l[0]'(by omega)):=List.getElem?_eq_getElem _;have h0:=mkCells_at l 0 0 _ hm0 (by omega)
 have hs : spot = none:=by
  have hz : (mkCells l)[0]? = some ((l[0]'(by omega)).cs[0]'(by rw [mk_size];omega)):=by rw [Nat.zero_mul] at h0;rw [h0];rfl
  have:=World.cell?_spot (hc _ _ hz);simpa [Addr.add] using this
 subst hs;refine ⟨b,off,_,e,hb,hm,h.ent _ (List.mem_of_getElem? hm),fun i hi => ?_⟩;have h1:=mkCells_at l k i _ hm hi;have h2 : (l[k]'(by omega)).cs[i]? = some ((l[k]'(by omega)).cs[i]'(by rw [mk_size];exact hi)):=Array.getElem?_eq_getElem _;have h3:=hc _ _ (h1.trans h2);rw [h2,← h3]
 congr 1
 unfold Addr.add
 split
 ·rename_i h0;simp <;> omega
 ·simp <;> omega
section
variable {P : Program}
end
theorem ld48 (cs : Array Value) (h : cs.size = 26) : (Tryz.prog.info? 51).map (·.size) = some cs.size:=by rw [h];kernel_rfl
theorem cells_add {W : World} {b off : Nat} {m : Mk} (h : ∀ i,i < 26 → W.cell? ⟨b,off + i,none⟩ = m.cs[i]?) : ∀ j v,m.cs[j]? = some v → W.cell? ((⟨b,off,none⟩ : Addr).add j) = some v:=fun j v hv => by
 have hj : j < 26:=by have:=(Array.getElem?_eq_some_iff.1 hv).1;rw [mk_size] at this;exact this
 rw [← hv,← h j hj]
 congr 1
 unfold Addr.add
 split
 ·rename_i h0;simp [h0]
 ·rfl
def SameC (l l' : List Mk) : Prop:=l'.length = l.length ∧ ∀ (k : Nat) m m',l[k]? = some m → l'[k]? = some m' → ∃ Am cm At ct Ab cb,m' = m.at Am cm At ct Ab cb
theorem MsIn.below {w w' : World} {B n : Nat} {A : Option Addr} {l : List Mk} (h : MsIn w B A n l) (hb : Below B w w') : MsIn w' B A n l:=⟨h.row.below hb,fun m hm => (h.ent m hm).below hb⟩
theorem MkIn.drew {w : World} {B : Nat} {m : Mk} (h : MkIn w B m) : MkIn w.drew B m:=⟨Reads.drew h.mem,Reads.drew h.tr,Reads.drew h.body,h.hm,h.ht,h.hb⟩
section
variable {P : Program} {ops : Array Oper} {Q : Exit → Act → World → Prop} {md : Region.Mode} {S : World → Prop} {sk : List Nat}
end
section
variable {P : Program} {o : Oper} {a : Act} {V : World}
end
def idCs (m : Mk) : Array Value:=#[.int .i64 m.ep,.int .i64 m.ld,.int .i64 m.ii,.int .i64 m.ci]
def cmdCs (m : Mk) : Array Value:=#[.int .i64 m.cl,.int .i64 m.cn,.int .i64 m.rq,.int .i64 m.op,.string m.key,.string m.val,.string m.old]
def resCs (m : Mk) : Array Value:=#[.int .i64 m.co,.string m.rv,.int .i64 m.rn]
section
variable {o : Oper} {a : Act} {V : World}
theorem ex_neq39 (m : Mk) (x y : Operand) (ho : o.op = .binOp .neq 45 x y 45) (hx : a.eval x = .agg (idCs m)) (hy : a.eval y = .agg #[.int .i64 0,.int .i64 0,.int .i64 0,.int .i64 0]) :
  (execOp a.eval o).run Tryz.prog V = .ok (.value (.bool (idB m))) V:=by
 unfold execOp idB;simp only [ho,hx,hy,idCs]
 by_cases h1 : m.ep = 0 <;> by_cases h2 : m.ld = 0 <;> by_cases h3 : m.ii = 0 <;> by_cases h4 : m.ci = 0 <;> (go_simp;try simp [*])
theorem ex_neq44 (m : Mk) (x y : Operand) (ho : o.op = .binOp .neq 31 x y 31) (hx : a.eval x = .agg (cmdCs m)) (hy : a.eval y = .agg #[.int .i64 0,.int .i64 0,.int .i64 0,.int .i64 0,.string ⟨#[]⟩,.string ⟨#[]⟩,.string ⟨#[]⟩]) :
  (execOp a.eval o).run Tryz.prog V = .ok (.value (.bool (cmdB m))) V:=by
 unfold execOp cmdB;simp only [ho,hx,hy,cmdCs,← bytes_beq]
 by_cases h1 : m.cl = 0
 ·by_cases h2 : m.cn = 0
  ·by_cases h3 : m.rq = 0
   ·by_cases h4 : m.op = 0
    ·by_cases h5 : m.key.toList = []
     ·by_cases h6 : m.val.toList = []
      ·by_cases h7 : m.old.toList = [] <;> (go_simp;try simp [*])
      ·(go_simp;try simp [*])
     ·(go_simp;try simp [*])
    ·(go_simp;try simp [*])
   ·(go_simp;try simp [*])
  ·(go_simp;try simp [*])
 ·(go_simp;try simp [*])
theorem ex_neq46 (m : Mk) (x y : Operand) (ho : o.op = .binOp .neq 48 x y 48) (hx : a.eval x = .agg (resCs m)) (hy : a.eval y = .agg #[.int .i64 0,.string ⟨#[]⟩,.int .i64 0]) :
  (execOp a.eval o).run Tryz.prog V = .ok (.value (.bool (resB m))) V:=by
 unfold execOp resB;simp only [ho,hx,hy,resCs,← bytes_beq]
 by_cases h1 : m.co = 0
 ·by_cases h5 : m.rv.toList = []
  ·by_cases h2 : m.rn = 0 <;> (go_simp;try simp [*])
  ·(go_simp;try simp [*])
 ·(go_simp;try simp [*])
end
section
variable {V : World} {b : Nat} {m : Mk}
theorem mb0 (h : Blk V b 51 m.cs) : V.cell? ⟨b,0,none⟩ = some (.int .i64 m.aT):=h.cell 0
theorem mb1 (h : Blk V b 51 m.cs) : V.cell? ⟨b,1,none⟩ = some (.int .i64 m.kd):=h.cell 1
theorem mb2 (h : Blk V b 51 m.cs) : V.cell? ⟨b,2,none⟩ = some (.int .i64 m.nd):=h.cell 2
theorem mb3 (h : Blk V b 51 m.cs) : V.cell? ⟨b,3,none⟩ = some (.int .i64 m.ic):=h.cell 3
theorem mb4 (h : Blk V b 51 m.cs) : V.cell? ⟨b,4,none⟩ = some (.int .i64 m.ep):=h.cell 4
theorem mb5 (h : Blk V b 51 m.cs) : V.cell? ⟨b,5,none⟩ = some (.int .i64 m.ld):=h.cell 5
theorem mb6 (h : Blk V b 51 m.cs) : V.cell? ⟨b,6,none⟩ = some (.int .i64 m.ii):=h.cell 6
theorem mb7 (h : Blk V b 51 m.cs) : V.cell? ⟨b,7,none⟩ = some (.int .i64 m.ci):=h.cell 7
theorem mb8 (h : Blk V b 51 m.cs) : V.cell? ⟨b,8,none⟩ = some (.slice m.Am m.nm m.cm):=h.cell 8
theorem mb9 (h : Blk V b 51 m.cs) : V.cell? ⟨b,9,none⟩ = some (.slice m.At m.nt m.ct):=h.cell 9
theorem mb10 (h : Blk V b 51 m.cs) : V.cell? ⟨b,10,none⟩ = some (.int .i64 m.se):=h.cell 10
theorem mb11 (h : Blk V b 51 m.cs) : V.cell? ⟨b,11,none⟩ = some (.int .i64 m.sq):=h.cell 11
theorem mb12 (h : Blk V b 51 m.cs) : V.cell? ⟨b,12,none⟩ = some (.int .i64 m.po):=h.cell 12
theorem mb13 (h : Blk V b 51 m.cs) : V.cell? ⟨b,13,none⟩ = some (.int .i64 m.n):=h.cell 13
theorem mb14 (h : Blk V b 51 m.cs) : V.cell? ⟨b,14,none⟩ = some (.slice m.Ab m.nb m.cb):=h.cell 14
theorem mb15 (h : Blk V b 51 m.cs) : V.cell? ⟨b,15,none⟩ = some (.int .i64 m.cl):=h.cell 15
theorem mb16 (h : Blk V b 51 m.cs) : V.cell? ⟨b,16,none⟩ = some (.int .i64 m.cn):=h.cell 16
theorem mb17 (h : Blk V b 51 m.cs) : V.cell? ⟨b,17,none⟩ = some (.int .i64 m.rq):=h.cell 17
theorem mb18 (h : Blk V b 51 m.cs) : V.cell? ⟨b,18,none⟩ = some (.int .i64 m.op):=h.cell 18
theorem mb19 (h : Blk V b 51 m.cs) : V.cell? ⟨b,19,none⟩ = some (.string m.key):=h.cell 19
theorem mb20 (h : Blk V b 51 m.cs) : V.cell? ⟨b,20,none⟩ = some (.string m.val):=h.cell 20
theorem mb21 (h : Blk V b 51 m.cs) : V.cell? ⟨b,21,none⟩ = some (.string m.old):=h.cell 21
theorem mb22 (h : Blk V b 51 m.cs) : V.cell? ⟨b,22,none⟩ = some (.int .i64 m.co):=h.cell 22
theorem mb23 (h : Blk V b 51 m.cs) : V.cell? ⟨b,23,none⟩ = some (.string m.rv):=h.cell 23
theorem mb24 (h : Blk V b 51 m.cs) : V.cell? ⟨b,24,none⟩ = some (.int .i64 m.rn):=h.cell 24
theorem mb25 (h : Blk V b 51 m.cs) : V.cell? ⟨b,25,none⟩ = some (.int .i64 m.er):=h.cell 25
theorem box_id (h : Blk V b 51 m.cs) : ∀ j v,(idCs m)[j]? = some v → V.cell? ((⟨b,4,none⟩ : Addr).add j) = some v:=by
 intro j v hv;have hj : j < 4:=(Array.getElem?_eq_some_iff.1 hv).1
 have hc : ∀ i,(⟨b,4,none⟩ : Addr).add i = ⟨b,4 + i,none⟩:=fun i => by
  unfold Addr.add
  split
  ·rename_i h0;subst h0;rfl
  ·rfl
 rw [hc,h.cell,← hv];have : j = 0 ∨ j = 1 ∨ j = 2 ∨ j = 3:=by omega
 rcases this with rfl | rfl | rfl | rfl <;> rfl
theorem sz_id : (Tryz.prog.info? 45).map (·.size) = some (idCs m).size:=by
 show (Tryz.prog.info? 45).map (·.size) = some 4
 kernel_rfl
theorem box_cmd (h : Blk V b 51 m.cs) : ∀ j v,(cmdCs m)[j]? = some v → V.cell? ((⟨b,15,none⟩ : Addr).add j) = some v:=by
 intro j v hv;have hj : j < 7:=(Array.getElem?_eq_some_iff.1 hv).1
 have hc : ∀ i,(⟨b,15,none⟩ : Addr).add i = ⟨b,15 + i,none⟩:=fun i => by
  unfold Addr.add
  split
  ·rename_i h0;subst h0;rfl
  ·rfl
 rw [hc,h.cell,← hv];have : j = 0 ∨ j = 1 ∨ j = 2 ∨ j = 3 ∨ j = 4 ∨ j = 5 ∨ j = 6:=by omega
 rcases this with rfl | rfl | rfl | rfl | rfl | rfl | rfl <;> rfl
theorem own_cmd (h : Blk V b 31 (cmdCs m)) : ∀ j v,(cmdCs m)[j]? = some v → V.cell? ((⟨b,0,none⟩ : Addr).add j) = some v:=by
 intro j v hv
 have hc : (⟨b,0,none⟩ : Addr).add j = ⟨b,j,none⟩:=by
  unfold Addr.add
  split
  ·rename_i h0;subst h0;rfl
  ·simp
 rw [hc,h.cell,← hv]
theorem sz_cmd : (Tryz.prog.info? 31).map (·.size) = some (cmdCs m).size:=by
 show (Tryz.prog.info? 31).map (·.size) = some 7
 kernel_rfl
theorem cmd0_ (h : Blk V b 31 (cmdCs m)) : V.cell? ⟨b,0,none⟩ = some (.int .i64 m.cl):=h.cell 0
theorem cmd1_ (h : Blk V b 31 (cmdCs m)) : V.cell? ⟨b,1,none⟩ = some (.int .i64 m.cn):=h.cell 1
theorem cmd2_ (h : Blk V b 31 (cmdCs m)) : V.cell? ⟨b,2,none⟩ = some (.int .i64 m.rq):=h.cell 2
theorem cmd3_ (h : Blk V b 31 (cmdCs m)) : V.cell? ⟨b,3,none⟩ = some (.int .i64 m.op):=h.cell 3
theorem cmd4_ (h : Blk V b 31 (cmdCs m)) : V.cell? ⟨b,4,none⟩ = some (.string m.key):=h.cell 4
theorem cmd5_ (h : Blk V b 31 (cmdCs m)) : V.cell? ⟨b,5,none⟩ = some (.string m.val):=h.cell 5
theorem cmd6_ (h : Blk V b 31 (cmdCs m)) : V.cell? ⟨b,6,none⟩ = some (.string m.old):=h.cell 6
theorem box_res (h : Blk V b 51 m.cs) : ∀ j v,(resCs m)[j]? = some v → V.cell? ((⟨b,22,none⟩ : Addr).add j) = some v:=by
 intro j v hv;have hj : j < 3:=(Array.getElem?_eq_some_iff.1 hv).1
 have hc : ∀ i,(⟨b,22,none⟩ : Addr).add i = ⟨b,22 + i,none⟩:=fun i => by
  unfold Addr.add
  split
  ·rename_i h0;subst h0;rfl
  ·rfl
 rw [hc,h.cell,← hv];have : j = 0 ∨ j = 1 ∨ j = 2:=by omega
 rcases this with rfl | rfl | rfl <;> rfl
theorem own_res (h : Blk V b 48 (resCs m)) : ∀ j v,(resCs m)[j]? = some v → V.cell? ((⟨b,0,none⟩ : Addr).add j) = some v:=by
 intro j v hv
 have hc : (⟨b,0,none⟩ : Addr).add j = ⟨b,j,none⟩:=by
  unfold Addr.add
  split
  ·rename_i h0;subst h0;rfl
  ·simp
 rw [hc,h.cell,← hv]
theorem sz_res : (Tryz.prog.info? 48).map (·.size) = some (resCs m).size:=by
 show (Tryz.prog.info? 48).map (·.size) = some 3
 kernel_rfl
theorem res0_ (h : Blk V b 48 (resCs m)) : V.cell? ⟨b,0,none⟩ = some (.int .i64 m.co):=h.cell 0
theorem res1_ (h : Blk V b 48 (resCs m)) : V.cell? ⟨b,1,none⟩ = some (.string m.rv):=h.cell 1
theorem res2_ (h : Blk V b 48 (resCs m)) : V.cell? ⟨b,2,none⟩ = some (.int .i64 m.rn):=h.cell 2
theorem blk_cells {t : TypeId} {cs : Array Value} (h : Blk V b t cs) : ∀ j v,cs[j]? = some v → V.cell? ((⟨b,0,none⟩ : Addr).add j) = some v:=by
 intro j v hv
 have hc : (⟨b,0,none⟩ : Addr).add j = ⟨b,j,none⟩:=by
  unfold Addr.add
  split
  ·rename_i h0;subst h0;rfl
  ·simp
 rw [hc,h.cell,← hv]
theorem box_all (h : Blk V b 51 m.cs) : ∀ j v,m.cs[j]? = some v → V.cell? ((⟨b,0,none⟩ : Addr).add j) = some v:=by
 intro j v hv
 have hc : (⟨b,0,none⟩ : Addr).add j = ⟨b,j,none⟩:=by
  unfold Addr.add
  split
  ·rename_i h0;subst h0;rfl
  ·simp
 rw [hc,h.cell,← hv]
end
structure BX (m : Mk) (w V : World) : Prop where
 box : Blk V w.heap.size 51 m.cs
 low : Below w.heap.size w V
theorem BX.step {m : Mk} {w V V' : World} (h : BX m w V) (hb : Below V.heap.size V V') : BX m w V':=⟨h.box.below hb h.box.lt,h.low.trans (hb.mono h.low.size)⟩
theorem BX.drew {m : Mk} {w V : World} (h : BX m w V) : BX m w V.drew:=⟨h.box.drew,h.low.drew⟩
theorem BX.alloc {m : Mk} {w V : World} (h : BX m w V) (o : Obj) : BX m w (V.alloc o):=⟨h.box.alloc o,h.low.alloc h.low.size o⟩
theorem BX.new (m : Mk) (w : World) : BX m w (w.alloc (.cells m.cs 51)):=⟨Blk.new _ _ _,(Below.refl _ _).alloc (Nat.le_refl _) _⟩
theorem BX.lt {m : Mk} {w V : World} (h : BX m w V) : w.heap.size < V.heap.size:=h.box.lt
theorem BX.inn {m : Mk} {w V : World} (h : BX m w V) (hm : MkIn w w.heap.size m) : MkIn V V.heap.size m:=(hm.below h.low).more (Nat.le_of_lt h.box.lt)
def Ct (x : Int) : Prop:=∃ n : Nat,x = n ∧ n ≤ 4611686018427387904
theorem Ct.fit {x : Int} (h : Ct x) : Fit x:=by obtain ⟨n,rfl,h⟩:=h;exact ⟨by omega,by omega⟩
theorem digI {x : Int} (h : Ct x) (w : World) : Calls Tryz.prog 42 #[.int .i64 x] w fun e w' => e = .returned (.string (S (Lib.itoa x))) ∧ Below w.heap.size w w':=by
 obtain ⟨n,rfl,h⟩:=h;rw [itoa_nat];exact dig_any n w (by omega)
theorem plainI (nm : List UInt8) {x : Int} (h : Ct x) (w : World) (hn : nm.length ≤ 1000) : Calls Tryz.prog 68 #[.string (S nm),.int .i64 x] w fun e w' => e = .returned (.string (S (numL nm x))) ∧ Below w.heap.size w w':=by
 obtain ⟨n,rfl,h⟩:=h;rw [← num_plain];exact plain_any nm n w (by omega) hn
theorem slashI {a b c d : Int} (h1 : Ct a) (h2 : Ct b) (h3 : Ct c) (h4 : Ct d) (w : World) (g : Nat) (hB : Blk w g 3 #[.int .i64 a,.int .i64 b,.int .i64 c,.int .i64 d]) :
  Calls Tryz.prog 70 #[.slice (some ⟨g,0,none⟩) 4 4] w fun e w' => e = .returned (.string (S (sl4 a b c d))) ∧ Below w.heap.size w w':=by
 obtain ⟨a1,rfl,_⟩:=h1;obtain ⟨a2,rfl,_⟩:=h2;obtain ⟨a3,rfl,_⟩:=h3;obtain ⟨a4,rfl,_⟩:=h4;rw [sl4_nat];exact slashed_any _ w.heap.size 4 4 [a1,a2,a3,a4] w (ri_of_blk (l:=[(a1 : Int),a2,a3,a4]) hB) (Nat.le_refl _) (by intro x hx;simp at hx;rcases hx with rfl | rfl | rfl | rfl <;> omega) (by omega)
theorem signI {x : Int} (h0 : -4611686018427387904 ≤ x) (h1 : x ≤ 4611686018427387904) (w : World) : Calls Tryz.prog 71 #[.int .i64 x] w fun e w' => e = .returned (.string (S (Lib.itoa x))) ∧ Below w.heap.size w w':=signed_any x w (by omega) (by omega) (by omega)
theorem QuoteS {s : ByteArray} (h : s.size ≤ 1048576) (w : World) : Calls Tryz.prog 69 #[.string s] w fun e w' => e = .returned (.string (S (quoteL s.data.toList))) ∧ Below w.heap.size w w':=Quote_any s w (by omega)
theorem listsI {m : Mk} {w : World} (hm : MkIn w w.heap.size m) (hw : wrB m = true) : Calls Tryz.prog 67 #[.agg m.cs] w fun e w' => e = .returned (.string (S (listsL m))) ∧ Below w.heap.size w w':=by
 have h:=lists_any m w hm hw;rw [lists_part (cnts hw) hm.mem.len (RI.len hm.tr)] at h;exact h
theorem itoa_ct {x : Int} (h : Ct x) : (Lib.itoa x).length ≤ 21:=itoa_len x h.fit.1 h.fit.2
theorem part_len (b : Bool) (nm v : List UInt8) : (partL b nm v).length ≤ nm.length + v.length + 2:=by
 unfold partL
 split <;> simp <;> omega
theorem num_len (nm : List UInt8) {x : Int} (h : Ct x) : (numL nm x).length ≤ nm.length + 23:=by
 have h1:=part_len (x != 0) nm (Lib.itoa x);have h2:=itoa_ct h;unfold numL;omega
theorem quote_len (l : List UInt8) : (quoteL l).length ≤ 4 * l.length + 2:=by
 have:=qbs_len l;unfold quoteL;simp only [List.length_append,List.length_cons,List.length_nil];omega
theorem sl4_len {a b c d : Int} (h1 : Ct a) (h2 : Ct b) (h3 : Ct c) (h4 : Ct d) : (sl4 a b c d).length ≤ 88:=by
 have:=join_le 21 [Lib.itoa a,Lib.itoa b,Lib.itoa c,Lib.itoa d] [47] (fun l hl => by
  simp at hl
  rcases hl with rfl | rfl | rfl | rfl
  ·exact itoa_ct h1
  ·exact itoa_ct h2
  ·exact itoa_ct h3
  ·exact itoa_ct h4)
 simpa [sl4] using this
theorem Cnts.ct {m : Mk} (h : Cnts m) {x : Int} (hx : x ∈ m.ns) : Ct x:=h.ns x hx
theorem tri_ct {m : Mk} (h : Cnts m) {k : Nat} (hk : k < m.ms.length) : Ct (pidA m.ms k) ∧ Ct (incA m.ms k) ∧ Ct (cidA m.ms k):=by
 obtain ⟨x,y,z,ex,ey,ez,hx,hy,hz⟩:=h.ms k hk;exact ⟨⟨x,ex,hx⟩,⟨y,ey,hy⟩,⟨z,ez,hz⟩⟩
theorem triI_len {m : Mk} (h : Cnts m) : ∀ l ∈ m.ms.map triI,l.length ≤ 70:=by
 intro l hl;obtain ⟨s,hs,rfl⟩:=List.mem_map.1 hl;obtain ⟨k,hk,rfl⟩:=List.getElem_of_mem hs;obtain ⟨h1,h2,h3⟩:=tri_ct h hk;have e : m.ms.getD k (0,0,0) = m.ms[k]:=by simp [hk]
 unfold pidA at h1;unfold incA at h2;unfold cidA at h3;rw [e] at h1 h2 h3
 have:=join_le 21 [Lib.itoa m.ms[k].1,Lib.itoa m.ms[k].2.1,Lib.itoa m.ms[k].2.2] [47] (fun l hl => by
  simp at hl
  rcases hl with rfl | rfl | rfl
  ·exact itoa_ct h1
  ·exact itoa_ct h2
  ·exact itoa_ct h3)
 have e2 : triI m.ms[k] = Lib.join [Lib.itoa m.ms[k].1,Lib.itoa m.ms[k].2.1,Lib.itoa m.ms[k].2.2] [47]:=rfl;rw [e2];simp at this;omega
theorem lists_len {m : Mk} (h : Cnts m) (hz : MkZ m) (h1 : m.ms.length = m.nm) (h2 : m.ts.length = m.nt) : (listsL m).length ≤ 98000000:=by
 have q1:=part_len (idB m) [105,100] (sl4 m.ep m.ld m.ii m.ci);have q2:=part_len (decide (0 < m.nm)) [109,101,109,98,101,114,115] (Lib.join (m.ms.map triI) [44]);have q3:=part_len (decide (0 < m.nt)) [116,114,97,110,115] (Lib.join (m.ts.map Lib.itoa) [44]);have r1:=sl4_len (a:=m.ep) (b:=m.ld) (c:=m.ii) (d:=m.ci) (h.ct (by simp [Mk.ns])) (h.ct (by simp [Mk.ns])) (h.ct (by simp [Mk.ns])) (h.ct (by simp [Mk.ns]));have r2:=join_le 70 (m.ms.map triI) [44] (triI_len h)
 have r3:=join_le 21 (m.ts.map Lib.itoa) [44] (fun l hl => by
  obtain ⟨s,hs,rfl⟩:=List.mem_map.1 hl;obtain ⟨k,hk,rfl⟩:=List.getElem_of_mem hs;obtain ⟨x,ex,hx⟩:=h.ts k hk;refine itoa_ct ⟨x,?_,hx⟩;rw [← ex];simp [nth,hk])
 have z1:=hz.nm;have z2:=hz.nt;simp only [List.length_map,List.length_cons,List.length_nil] at q1 q2 q3 r2 r3;rw [h1] at r2;rw [h2] at r3;unfold listsL;simp only [List.length_append];omega
end Go.Proofs.YtcibcmfaebbhnaaGreatDoor.Tr
