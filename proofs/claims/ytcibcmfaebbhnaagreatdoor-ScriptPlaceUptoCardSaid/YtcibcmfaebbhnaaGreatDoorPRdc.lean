/-
  The k-th number of a list, closed to simp. A slice of ints that reads as a list; small facts on endings and bits. The row's frame, for every law of this seat: the arguments opened, the last step ('true; each argument reads as it did'). Arguments opened, whatever their depth: a slice's elements, a struct's fields, with their places and weights. Texts of bytes: a text as a list, joined texts, bytes in memory turned into a text. The reference's Digits, Signed, plain. Counts read: which texts are counts, and that what was written as a count is read as it.
-/
import Derived.Test.YtcibcmfaebbhnaaGreatDoorPWords
import Derived.Test.YtcibcmfaebbhnaaGreatDoorRows
import Derived.ProofKit
import Derived.OpenShut
import Derived.SizedLaws
import Derived.Carry
import Derived.Lib.SmallJoins
import Derived.Deep.Slices
import Derived.Deep.Fields
import Derived.Lib.ItoaNum
import Derived.Lib.UnsafeStr
import Derived.Laws.IdiomStrings
import Derived.Deep.RegionLaw
import Derived.Lib.ParseIntBCases
set_option linter.unusedSimpArgs false
set_option linter.unusedVariables false
set_option maxRecDepth 100000
set_option maxHeartbeats 1000000

namespace Go.Proofs.YtcibcmfaebbhnaaGreatDoor.Q
def nth (vs : List Int) (k : Nat) : Int:=vs.getD k 0
end Go.Proofs.YtcibcmfaebbhnaaGreatDoor.Q
namespace Go.Proofs.YtcibcmfaebbhnaaGreatDoor
open Go.RowKit Go.WideShapes Go.ChangeShapes Q
def ints (vs : List Int) : List Value:=vs.map (Value.int .i64)
def RI (w : World) (B : Nat) (A : Option Addr) (n : Nat) (vs : List Int) : Prop:=Reads w B 1 A n (ints vs)
theorem RI.len {w : World} {B n : Nat} {A : Option Addr} {vs : List Int} (h : RI w B A n vs) : vs.length = n:=by
 have:=Reads.len_ h;simpa [ints] using this
theorem RI.at_ {w : World} {B n k : Nat} {A : Option Addr} {vs : List Int} (h : RI w B A n vs) (hk : k < n) : ∃ ad,A = some ad ∧ ad.block < B ∧ w.cell? (ad.add k) = some (.int .i64 (nth vs k)):=by
 obtain ⟨ad,u,hA,hb,hx,hc⟩:=Reads.at_ h hk;refine ⟨ad,hA,hb,hc.trans ?_⟩;have hl:=h.len;rw [← hx];simp only [ints,List.getElem?_map,nth,List.getD];rw [List.getElem?_eq_getElem (by omega)]
 rfl
theorem ret_int {k : IntKind} {a b : Int} (h : a = b) : Ending.returned (.int k a) = .returned (.int k b):=by rw [h]
theorem ret_bool {a b : Bool} (h : a = b) : Ending.returned (.bool a) = .returned (.bool b):=by rw [h]
end Go.Proofs.YtcibcmfaebbhnaaGreatDoor
namespace Go.Proofs.YtcibcmfaebbhnaaGreatDoor
open Go.ChangeShapes Go.WideShapes Go.ChangeAt Go.RowKit Go.Deep Q
theorem Tryz.own : ownKnob Tryz.prog.godebug = none:=by kernel_rfl
theorem Tryz.laidOut : laidOutB Tryz.prog = true:=by kernel_rfl
section
variable {H : Type} {enc : TypeId × Value → H} {P : Program}
theorem TrodAll_stays (hl : laidOutB P = true) {W W' : World} {sp' : Nat → Bool} : ∀ {ts : List TypeId} {vs : List Value} {ds : List (DataW H)} {ps : List MemPlace},(∀ t ∈ ts,P.readableRec t = true ∧ t < P.types.size) →
  DataW.TrodAll enc P W 0 (fun _ => true) true ts vs ds ps → (∀ x ∈ ps,W.sameAt W' x) → (∀ x ∈ ps,sp' x.block = true) → DataW.TrodAll enc P W' 0 sp' true ts vs ds ps
 | [],[],[],ps,_,h,_,_ => h
 | t :: ts,v :: vs,d :: ds,ps,hr,h,hs,hp => by
  obtain ⟨p,q,h1,h2,rfl⟩:=h;refine ⟨p,q,?_,?_,rfl⟩
  ·exact WideElems.Trod_stays hl (hr t (by simp)).1 (hr t (by simp)).2 h1 (fun x hx => hs x (by simp [hx])) (fun x hx => hp x (by simp [hx]))
  ·exact TrodAll_stays hl (fun t' ht' => hr t' (by simp [ht'])) h2 (fun x hx => hs x (by simp [hx])) (fun x hx => hp x (by simp [hx]))
 | [],[],_ :: _,_,_,h,_,_ => h.elim
 | [],_ :: _,_,_,_,h,_,_ => h.elim
 | _ :: _,[],_,_,_,h,_,_ => h.elim
 | _ :: _,_ :: _,[],_,_,h,_,_ => h.elim
theorem post_law {f : Func} {s : ChangeSpec} {W W' : World} {args : Array Value} {ds gs : List (DataW H)} {before : List MemPlace} {tb : TypeId}
  (hW : DataW.Whole enc P f.params.toList s.vars false W args.toList ds gs before) (hvars : s.vars = [])
  (hres : (s.fn H (ds ++ gs)).results = [.lit (.bool true)]) (hargs : (s.fn H (ds ++ gs)).args = ds) (hv : (s.fn H (ds ++ gs)).vars = [])
  (hl : laidOutB P = true) (hr : ∀ t ∈ f.params.toList,P.readableRec t = true ∧ t < P.types.size)
  (hrt : f.resultTypes = #[tb]) (htb : P.underlying tb = some .bool) (hb : Below W.heap.size W W') : s.post enc P f false true false false W args (.bool true) W':=by
 obtain ⟨p,q,hA,hV,hbef,hfz,hnd⟩:=id hW;rw [hvars] at hV;obtain ⟨rfl,rfl⟩:=trodVars_none hV;have hlt : ∀ x ∈ before,x.block < W.heap.size:=fun x hx => hW.lt x hx
 have hsub : ∀ x ∈ p,x ∈ before:=fun x hx => by rw [hbef];simp [hx]
 refine post_of_below (pa:=p) (pv:=[]) hW ?_ ?_ ?_ hbef hb ?_
 ·intro b sp hd
  rw [hres,hrt];exact trodAll_mk1 (shut_bool htb true)
 ·intro sp hsp
  rw [hargs];exact TrodAll_stays hl hr hA (fun x hx => hb.same (hlt x (hsub x hx))) (fun x hx => hsp x (hsub x hx))
 ·intro sp hsp
  rw [hvars,hv]
  rfl
 ·intro j t r hj hrr
  rw [hrt] at hj hrr
  match j,hj with
  | 0,hj =>
   simp at hj;subst hj;have : r = .bool true:=by simpa [Value.resultList] using hrr.symm
   subst this;exact okWide_bool_mk htb true
theorem open_cell_int {W : World} {base : Nat} {spare : Nat → Bool} {held : Bool} {t : TypeId} {n : Nat} {c : Value} {y : DataW H × List MemPlace} (ht : P.underlying t = some (.int .i64)) (h : DataW.trod enc P W base spare held n t [c] = some y) :
  ∃ x : Int,c = .int .i64 x ∧ -9223372036854775808 ≤ x ∧ x ≤ 9223372036854775807:=by
 obtain ⟨a,e0,rfl,wa⟩:=DataW.trod_int ht h;simp [Lit.wf,IntKind.min,IntKind.max,IntKind.signed,IntKind.bits] at wa;simp at e0;exact ⟨a,e0,by omega,by omega⟩
theorem agg_weights {t : TypeId} {fs : Array Field} {ys : List (DataW H × List MemPlace)} (hs : P.underlying t = some (.struct fs)) (h : ∀ x ∈ DataW.weights P t (.agg (ys.map (·.1))),x ≤ reachBytes)
  {j : Nat} {f : Field} {y : DataW H × List MemPlace} (hj : fs[j]? = some f) (hy : ys[j]? = some y) : ∀ x ∈ DataW.weights P f.type y.1,x ≤ reachBytes:=by
 intro x hx
 apply h
 simp only [DataW.weights,hs];exact DataW.weights_mem_each (j:=j) (t:=f.type) (d:=y.1) (by simp [hj]) (by simp [hy]) x hx
end
theorem list3 {α : Type} {l : List α} (h : l.length = 3) : ∃ a b c,l = [a,b,c]:=by
 match l,h with
 | [a,b,c],_ => exact ⟨a,b,c,rfl⟩
section
variable {H : Type} {enc : TypeId × Value → H} {P : Program} {W : World}
def Got (enc : TypeId × Value → H) (P : Program) (W : World) (t : TypeId) (cs : List Value) (d : DataW H) : Prop :=
 ∃ (fuel : Nat) (p : List MemPlace),DataW.trod enc P W 0 (fun _ => true) true fuel t cs = some (d,p) ∧ (∀ x ∈ p,x.block < W.heap.size) ∧ (∀ x ∈ DataW.weights P t d,x ≤ reachBytes)
theorem weightsAll_mem {e : TypeId} {x : Nat} : ∀ {l : List (DataW H)} {d : DataW H},d ∈ l → x ∈ DataW.weights P e d → x ∈ DataW.weightsAll P e l
 | [],d,h,_ => by cases h
 | a :: l,d,h,hx => by
  simp only [DataW.weightsAll,List.mem_append]
  rcases List.mem_cons.1 h with rfl | h
  ·exact .inl hx
  ·exact .inr (weightsAll_mem h hx)
theorem Got.slice {t e : TypeId} {v : Value} {d : DataW H} (ht : P.underlying t = some (.slice e)) (hC : 0 < P.cellsOf e) (h : Got enc P W t [v] d) :
  v = .slice none 0 0 ∨
  ∃ (a : Addr) (len cap : Nat) (D : Nat → DataW H) (cs : Nat → List Value),v = .slice (some a) len cap ∧ len ≤ cap ∧ cap ≤ maxLen ∧ cap * P.bytesOf e ≤ 140737488351232 ∧ (0 < len → a.block < W.heap.size) ∧
   ∀ i,i < len → (cs i).length = P.cellsOf e ∧ (∀ j,j < P.cellsOf e → W.cell? (a.add (i * P.cellsOf e + j)) = (cs i)[j]?) ∧ Got enc P W e (cs i) (D i):=by
 obtain ⟨fuel,p,h,hlt,hwt⟩:=h
 rcases open_slice ht h with ⟨hcs,_⟩ | ⟨a,len,cap,m,n,D,Pl,hcs,_,hl,hm,hmm,hx,hi⟩
 ·left;simpa using hcs
 ·right
  simp only [if_true] at hmm;subst hmm;simp only [Prod.mk.injEq] at hx;obtain ⟨rfl,rfl⟩:=hx
  have hcap : m * P.bytesOf e ≤ 140737488351232:=by
   have:=hwt (m * P.bytesOf e) (by
    simp only [DataW.weights,ht,List.length_map,List.length_range,List.mem_cons]
    left;congr 1;omega)
   simpa [reachBytes] using this
  have hex : ∀ i,∃ cs',i < len → cs'.length = P.cellsOf e ∧ (∀ j,j < P.cellsOf e → W.cell? (a.add (i * P.cellsOf e + j)) = cs'[j]?) ∧ Got enc P W e cs' (D i):=by
   intro i
   by_cases hil : i < len
   ·obtain ⟨cs',hc,ht'⟩:=hi i (by omega)
    obtain ⟨_,hcl,hat⟩:=World.cells?_some hc;refine ⟨cs',fun _ => ⟨hcl,fun j hj => by rw [← Go.Deep.add_add];exact hat j hj,n,Pl i,ht',fun x hx => hlt x ?_,fun x hx => hwt x ?_⟩⟩
    ·exact List.mem_append_right _ (List.mem_flatMap.2 ⟨i,List.mem_range.2 (by omega),hx⟩)
    ·simp only [DataW.weights,ht,List.mem_cons,List.mem_append]
     right;left
     exact weightsAll_mem (List.mem_map.2 ⟨i,List.mem_range.2 hil,rfl⟩) hx
   ·exact ⟨[],fun h => absurd h hil⟩
  obtain ⟨cs,hcs'⟩:=Classical.axiomOfChoice hex;refine ⟨a,len,m,D,cs,by simpa using hcs,hl,hm,hcap,fun hn => ?_,hcs'⟩;have hb:=hlt (.cell a.block (a.off + 0)) (List.mem_append_left _ (MemPlace.mem_row.2 ⟨0,Nat.mul_pos (by omega) hC,rfl⟩));exact hb
theorem Got.field {t : TypeId} {fs : Array Field} {cs : List Value} {d : DataW H} (ht : P.underlying t = some (.struct fs)) (h : Got enc P W t cs d) (i : Nat) (f : Field) (hf : fs[i]? = some f) :
  ∃ d',Got enc P W f.type ((cs.drop f.offset).take (P.cellsOf f.type)) d':=by
 obtain ⟨fuel,p,h,hlt,hwt⟩:=h;obtain ⟨xs,n,_,hx,_,hxl,hg⟩:=DataW.trod_struct ht h;simp only [Prod.mk.injEq] at hx;obtain ⟨rfl,rfl⟩:=hx;have hil : i < fs.size:=(Array.getElem?_eq_some_iff.1 hf).1;have hy : xs[i]? = some (xs[i]'(by omega)):=List.getElem?_eq_getElem (by omega);refine ⟨(xs[i]'(by omega)).1,n,(xs[i]'(by omega)).2,(hg i f hf).trans hy,fun x hx => hlt x ?_,fun x hx => ?_⟩
 ·exact List.mem_flatMap.2 ⟨_,List.getElem_mem _,hx⟩
 ·exact agg_weights ht hwt hf hy x hx
theorem Got.fld {t : TypeId} {fs : Array Field} {cs : List Value} {d : DataW H} (ht : P.underlying t = some (.struct fs)) (h : Got enc P W t cs d) (i : Nat) (ty : TypeId) (off k : Nat) (hf : ∃ f,fs[i]? = some f ∧ f.type = ty ∧ f.offset = off) (hk : P.cellsOf ty = k) :
  ∃ d',Got enc P W ty ((cs.drop off).take k) d':=by
 obtain ⟨f,hf,rfl,rfl⟩:=hf;subst hk;exact h.field ht i f hf
theorem flat_congr {α β : Type} {f g : α → List β} {l : List α} (h : ∀ a ∈ l,f a = g a) : l.flatMap f = l.flatMap g:=by
 rw [List.flatMap_def,List.flatMap_def,List.map_congr_left h]
theorem Got.int {t : TypeId} {v : Value} {d : DataW H} (ht : P.underlying t = some (.int .i64)) (h : Got enc P W t [v] d) : ∃ x : Int,v = .int .i64 x ∧ -9223372036854775808 ≤ x ∧ x ≤ 9223372036854775807:=by
 obtain ⟨fuel,p,h,_,_⟩:=h;exact open_cell_int ht h
theorem flat_len {C : Nat} {cs : Nat → List Value} : ∀ {n : Nat},(∀ i,i < n → (cs i).length = C) → ((List.range n).flatMap cs).length = n * C
 | 0,_ => by simp
 | n + 1,h => by
  rw [List.range_succ,List.flatMap_append,List.length_append,flat_len (n:=n) fun i hi => h i (by omega)];simp only [List.flatMap_cons,List.flatMap_nil,List.append_nil];rw [h n (by omega),Nat.add_mul,Nat.one_mul]
theorem flat_at {C : Nat} {cs : Nat → List Value} : ∀ {n : Nat},(∀ i,i < n → (cs i).length = C) → ∀ {k : Nat} {u : Value},((List.range n).flatMap cs)[k]? = some u → ∃ i j,i < n ∧ j < C ∧ k = i * C + j ∧ (cs i)[j]? = some u
 | 0,_,k,u,h => by simp at h
 | n + 1,hl,k,u,h => by
  have hl' : ∀ i,i < n → (cs i).length = C:=fun i hi => hl i (by omega)
  rw [List.range_succ,List.flatMap_append] at h
  by_cases hk : k < n * C
  ·rw [List.getElem?_append_left (by rw [flat_len hl'];exact hk)] at h
   obtain ⟨i,j,hi,hj,e,hc⟩:=flat_at hl' h;exact ⟨i,j,by omega,hj,e,hc⟩
  ·rw [List.getElem?_append_right (by rw [flat_len hl'];omega),flat_len hl'] at h
   simp only [List.flatMap_cons,List.flatMap_nil,List.append_nil] at h;have hj : k - n * C < (cs n).length:=(List.getElem?_eq_some_iff.1 h).1;rw [hl n (by omega)] at hj;exact ⟨n,k - n * C,by omega,hj,by omega,h⟩
theorem reads_elems {B C len : Nat} {a : Addr} {cs : Nat → List Value} (hb : 0 < len → a.block < B) (hl : ∀ i,i < len → (cs i).length = C) (hc : ∀ i,i < len → ∀ j,j < C → W.cell? (a.add (i * C + j)) = (cs i)[j]?) :
  Reads W B C (some a) len ((List.range len).flatMap cs):=by
 refine ⟨flat_len hl,fun hn => ⟨a,rfl,hb hn,fun k u hu => ?_⟩⟩;obtain ⟨i,j,hi,hj,rfl,he⟩:=flat_at hl hu;rw [hc i hi j hj];exact he
end
end Go.Proofs.YtcibcmfaebbhnaaGreatDoor
namespace Go.Proofs.YtcibcmfaebbhnaaGreatDoor
open Go.RowKit Go.WideShapes Go.ChangeShapes Q
def S (l : List UInt8) : ByteArray:=⟨l.toArray⟩
theorem S_append (a b : List UInt8) : S a ++ S b = S (a ++ b):=by
 apply ByteArray.ext
 simp [S]
theorem S_data (l : List UInt8) : (S l).data.toList = l:=rfl
theorem S_self (s : ByteArray) : S s.data.toList = s:=rfl
theorem S_size (l : List UInt8) : (S l).size = l.length:=by simp [S,ByteArray.size]
section
variable {P : Program} {w : World}
theorem run_conv_bytes (o : Operand) (src dst e : TypeId) (hs : P.underlying src = some (.slice e)) (he : P.underlying e = some (.int .u8)) (hd : P.underlying dst = some .string)
  (ad : Addr) (n cap : Nat) (l : List UInt8) (hn : n = l.length) (hc : ∀ j (hj : j < l.length),w.cell? (ad.add j) = some (.int .u8 (l[j].toNat : Int))) :
  (convert src dst (.slice (some ad) n cap)).run P w = .ok (.string (S l)) w:=by
 subst hn;exact run_convert_bytes_back w src dst e ad cap l hs he hd hc
theorem wp_conv_bytes {o : Oper} {a : Act} {K : Act → World → Prop} {Q : Exit → Act → World → Prop} (x : Operand) (src dst e : TypeId) (ho : o.op = .convert src dst x)
  (hs : P.underlying src = some (.slice e)) (he : P.underlying e = some (.int .u8)) (hd : P.underlying dst = some .string)
  (ad : Addr) (n cap : Nat) (l : List UInt8) (hx : a.eval x = .slice (some ad) n cap) (hn : n = l.length) (hc : ∀ j (hj : j < l.length),w.cell? (ad.add j) = some (.int .u8 (l[j].toNat : Int)))
  (h : K (a.put o.dst (.string (S l))) w) : o.wp P a w K Q:=by
 unfold Oper.wp execOp;simp only [ho,hx,Sem.run_bind,Sem.run_pure,run_conv_bytes (P:=P) (w:=w) x src dst e hs he hd ad n cap l hn hc,Result.andThen_ok];exact h
theorem wpList_conv_bytes {ops : Array Oper} {rest : List Oper} {o : Oper} {a : Act} {Q : Exit → Act → World → Prop} (hgd : o.guard = none) (x : Operand) (src dst e : TypeId) (ho : o.op = .convert src dst x)
  (hs : P.underlying src = some (.slice e)) (he : P.underlying e = some (.int .u8)) (hd : P.underlying dst = some .string)
  (ad : Addr) (n cap : Nat) (l : List UInt8) (hx : a.eval x = .slice (some ad) n cap) (hn : n = l.length) (hc : ∀ j (hj : j < l.length),w.cell? (ad.add j) = some (.int .u8 (l[j].toNat : Int)))
  (h : wpList P ops Q rest (a.put o.dst (.string (S l))) w) : wpList P ops Q (o :: rest) a w:=by
 refine wpList_plain hgd fun K hK => ?_
 exact wp_conv_bytes x src dst e ho hs he hd ad n cap l hx hn hc (hK _ _ h)
end
theorem step_in {P : Program} {ops : Array Oper} {o : Oper} {a : Act} {w : World} {K : Act → World → Prop} {Q : Exit → Act → World → Prop} {E : Prop} (hgd : o.guard = none) (h : Oper.wp P o a w K Q) :
  if Region.wanted o (yielded ops a.tmps) = true then Oper.wp P o a w K Q else E:=by
 have hw : Region.wanted o (yielded ops a.tmps) = true:=by simp [Region.wanted,hgd]
 rw [if_pos hw];exact h
theorem one_cell {w : World} {g : Nat} {b : UInt8} (h : Blk w g 5 #[.int .u8 (b.toNat : Int)]) : ∀ j (hj : j < [b].length),w.cell? ((⟨g,0,none⟩ : Addr).add j) = some (.int .u8 (([b] : List UInt8)[j].toNat : Int)):=by
 intro j hj;have hj0 : j = 0:=by simpa using hj
 subst hj0;have:=h.cell 0;simpa [Addr.add] using this
theorem dec_lt {n : Nat} (h : n < 10) : Lib.decDigits n = [UInt8.ofNat (48 + n)]:=Lib.decDigits_one h
theorem dec_ge {n : Nat} (h : ¬ n < 10) : Lib.decDigits n = Lib.decDigits (n / 10) ++ [UInt8.ofNat (48 + n % 10)]:=by rw [Lib.decDigits,dif_neg h]
theorem byte_of {n : Nat} (h : n < 256) : ((UInt8.ofNat n).toNat : Int) = (n : Int):=by
 show (((BitVec.ofNat 8 n).toNat : Nat) : Int) = _;rw [BitVec.toNat_ofNat];omega
theorem i64_wrap (x : Int) (h0 : -9223372036854775808 ≤ x) (h1 : x ≤ 9223372036854775807) : IntKind.i64.wrap x = x:=by rw [IntKind.wrap_i64];omega
theorem u8_wrap (x : Int) (h0 : 0 ≤ x) (h1 : x ≤ 255) : IntKind.u8.wrap x = x:=by
 simp [IntKind.wrap,IntKind.bits,IntKind.signed];omega
theorem dec_len : ∀ (k n : Nat),n < 10 ^ (k + 1) → (Lib.decDigits n).length ≤ k + 1
 | 0,n,h => by rw [dec_lt (by omega)];simp
 | k + 1,n,h => by
  by_cases h1 : n < 10
  ·rw [dec_lt h1];simp
  ·have:=dec_len k (n / 10) (by rw [Nat.pow_succ] at h;omega)
   rw [dec_ge h1,List.length_append];simp;omega
theorem dec_len19 {n : Nat} (h : n < 9223372036854775808) : (Lib.decDigits n).length ≤ 19:=dec_len 18 n (Nat.lt_of_lt_of_le h (by decide))
theorem conv_new {b : UInt8} {x : Int} (hx : x = (b.toNat : Int)) (W : World) : (convert 29 9 (.slice (some ⟨W.heap.size,0,none⟩) 1 1)).run Tryz.prog (W.alloc (.cells #[.int .u8 x] 5)) = .ok (.string (S [b])) (W.alloc (.cells #[.int .u8 x] 5)) :=
 run_conv_bytes (.tmp 0) 29 9 5 Tryz.underlying29 Tryz.underlying5 Tryz.underlying9 _ 1 1 [b] rfl (one_cell (by rw [← hx];exact Blk.new _ _ _))
theorem conv_late {b : UInt8} {x : Int} (hx : x = (b.toNat : Int)) {W wq : World} (hb : Below (W.alloc (.cells #[.int .u8 x] 5)).drew.heap.size (W.alloc (.cells #[.int .u8 x] 5)).drew wq) : (convert 29 9 (.slice (some ⟨W.heap.size,0,none⟩) 1 1)).run Tryz.prog wq = .ok (.string (S [b])) wq :=
 run_conv_bytes (.tmp 0) 29 9 5 Tryz.underlying29 Tryz.underlying5 Tryz.underlying9 _ 1 1 [b] rfl (one_cell (by rw [← hx];exact (Blk.drew (Blk.new W _ _)).below hb (by simp)))
theorem dig_any : ∀ (n : Nat) (w : World),n < 9223372036854775808 →
  Calls Tryz.prog 42 #[.int .i64 n] w fun e w' => e = .returned (.string (S (Lib.decDigits n))) ∧ Below w.heap.size w w':=by
 intro n
 induction n using Nat.strongRecOn with
 | _ n ih =>
 intro w hn
 by_cases h : n < 10
 ·have h1 : (n : Int) < 10:=by omega
  have hd:=dec_lt h;have hb:=byte_of (n:=48 + n) (by omega);have HD:=hide hd;have hcast : (48 : Int) + (n : Int) = ((48 + n : Nat) : Int):=by omega
  obtain ⟨b,hbe⟩ : ∃ b,b = UInt8.ofNat (48 + n):=⟨_,rfl⟩;rw [← hbe] at hb;have HB:=hide hb;have HBE:=hide hbe
  have B1 : Blk (w.alloc (.cells #[.int .u8 (48 + (n : Int))] 5)) w.heap.size 5 #[.int .u8 (b.toNat : Int)]:=by
   rw [hb,← hcast];exact Blk.new _ _ _
  have HC1:=hide (one_cell B1);clear hd hb hbe hcast B1;go_enter Tryz.func42,Tryz.ntmps42;go_wp2_with (refine wpList_conv_bytes rfl (.tmp 8) 29 9 5 rfl Tryz.underlying29 Tryz.underlying5 Tryz.underlying9 ⟨w.heap.size,0,none⟩ 1 1 [b] rfl rfl HC1.out ?_);go_ret;refine ⟨by rw [HD.out,← HBE.out];rfl,?_⟩;exact (Below.refl _ _).alloc (Nat.le_refl _) _
 ·have h1 : ¬ (n : Int) < 10:=by omega
  have h2 : (10 : Int) ≤ (n : Int):=by omega
  have hd:=dec_ge h;have HD:=hide hd;obtain ⟨q,hq⟩ : ∃ q,q = n / 10:=⟨_,rfl⟩;obtain ⟨r,hr⟩ : ∃ r,r = n % 10:=⟨_,rfl⟩;have hqi : (n : Int) / 10 = (q : Int):=by omega
  have hri : (n : Int) % 10 = (r : Int):=by omega
  have hqt : (n : Int).tdiv 10 = (q : Int):=by rw [Int.tdiv_eq_ediv_of_nonneg (by omega)];exact hqi
  have hrt : (n : Int).tmod 10 = (r : Int):=by rw [Int.tmod_eq_emod_of_nonneg (by omega)];exact hri
  have hr10 : r < 10:=by omega
  have hr10i : (r : Int) < 10:=by omega
  have hr0i : (0 : Int) ≤ (r : Int):=by omega
  have hb:=byte_of (n:=48 + r) (by omega);obtain ⟨b,hbe⟩ : ∃ b,b = UInt8.ofNat (48 + r):=⟨_,rfl⟩;rw [← hbe] at hb;rw [← hq,← hr,← hbe] at HD;have hbx : (48 : Int) + (r : Int) = (b.toNat : Int):=by omega
  have HCV : ∀ W : World,(convert 29 9 (.slice (some ⟨W.heap.size,0,none⟩) 1 1)).run Tryz.prog (W.alloc (.cells #[.int .u8 (48 + (r : Int))] 5)) = .ok (.string (S [b])) (W.alloc (.cells #[.int .u8 (48 + (r : Int))] 5)):=conv_new hbx;have HCV2 : ∀ W : World,(convert 29 9 (.slice (some ⟨W.heap.size,0,none⟩) 1 1)).run Tryz.prog (W.alloc (.cells #[.int .u8 (48 + (r : Int))] 5)).drew = .ok (.string (S [b])) (W.alloc (.cells #[.int .u8 (48 + (r : Int))] 5)).drew:=fun W => conv_late hbx (Below.refl _ _)
  have HBX:=hide hbx
  have hsz : ¬ 9223372036854775807 < (S (Lib.decDigits q)).size + (S [b]).size:=by
   have:=dec_len19 (n:=q) (by omega);rw [S_size,S_size];simp;omega
  have HIH : Hid (∀ W,Calls Tryz.prog 42 #[.int .i64 q] W fun e w' => e = .returned (.string (S (Lib.decDigits q))) ∧ Below W.heap.size W w'):=fun W => ih q (by omega) W (by omega)
  clear ih hd hq hr hb hbe hbx;have w1 : IntKind.i64.wrap (q : Int) = q:=i64_wrap _ (by omega) (by omega);have w2 : IntKind.i64.wrap (48 + (r : Int)) = 48 + r:=i64_wrap _ (by omega) (by omega);have w3 : IntKind.u8.wrap (48 + (r : Int)) = 48 + r:=u8_wrap _ (by omega) (by omega);go_enter Tryz.func42,Tryz.ntmps42;go_upto_region 3 with fail
  go_region_law (refine step_in (by rfl) ?_;go_simp;go_at_call 42;refine (HIH.out _).mono ?_;rintro e wq ⟨rfl,hbq⟩;try (have hcv3 : (convert 29 9 (.slice (some ⟨w.heap.size,0,none⟩) 1 1)).run Tryz.prog wq = .ok (.string (S [b])) wq:=conv_late HBX.out hbq))
  all_goals
   go_wp2_with fail;go_ret;refine ⟨?_,?_⟩
   ·rw [HD.out,← S_append]
    rfl
   ·first
    | exact ((Below.refl w.heap.size w).drew.trans hbq).alloc (by have:=hbq.size;simp at this;omega) _
    | exact ((Below.refl w.heap.size w).alloc (Nat.le_refl _) _).drew.trans (hbq.mono (by simp))
theorem dig_bound {n : Nat} (h : n < 9223372036854775808) (c : List UInt8) (hc : c.length ≤ 1000) : ¬ 9223372036854775807 < (S c).size + (S (Lib.decDigits n)).size:=by
 have:=dec_len19 h;rw [S_size,S_size];omega
theorem itoa_nat (n : Nat) : Lib.itoa (n : Int) = Lib.decDigits n:=by unfold Lib.itoa;rw [if_neg (by omega)];simp
theorem itoa_neg' {n : Nat} (h : 0 < n) : Lib.itoa (-(n : Int)) = 45 :: Lib.decDigits n:=by unfold Lib.itoa;rw [if_pos (by omega)];simp
theorem signed_any (x : Int) (w : World) (h0 : -9223372036854775808 ≤ x) (h1 : x ≤ 9223372036854775807) (hmin : x ≠ -9223372036854775808) :
  Calls Tryz.prog 71 #[.int .i64 x] w fun e w' => e = .returned (.string (S (Lib.itoa x))) ∧ Below w.heap.size w w':=by
 by_cases h : 0 ≤ x
 ·obtain ⟨n,rfl⟩:=Int.eq_ofNat_of_zero_le h
  have HD:=hide (dig_any n w (by omega));rw [itoa_nat];go_enter Tryz.func71,Tryz.ntmps71;go_wp2_with (go_at_call 42;refine HD.out.mono ?_;rintro e w' ⟨rfl,hb⟩);go_ret;exact ⟨rfl,hb⟩
 ·obtain ⟨n,hn⟩:=Int.eq_ofNat_of_zero_le (show 0 ≤ -x by omega)
  obtain rfl : x = -(n : Int):=by omega
  have HD:=hide (dig_any n w (by omega));have hi:=itoa_neg' (n:=n) (by omega);have HI:=hide hi;have hne : ((-(n : Int)) == -9223372036854775808) = false:=by rw [beq_eq_false_iff_ne];exact hmin
  have hsz:=dig_bound (n:=n) (by omega) [45] (by simp);have hneg : ¬ (0 : Int) ≤ -(n : Int):=by omega
  have HW : Hid (wrap64 (n : Int) = n):=by
   show _ = _;unfold wrap64;omega
  clear hi hmin;go_enter Tryz.func71,Tryz.ntmps71;go_wp2_with (go_at_call 42;rw [HW.out];refine HD.out.mono ?_;rintro e w' ⟨rfl,hb⟩);go_ret;refine ⟨?_,hb⟩;rw [HI.out,show (45 :: Lib.decDigits n) = [45] ++ Lib.decDigits n from rfl,← S_append]
  rfl
def isD (c : UInt8) : Bool:=decide (48 ≤ c.toNat ∧ c.toNat ≤ 57)
def valD (a : Nat) (l : List UInt8) : Nat:=l.foldl (fun a c => 10 * a + (c.toNat - 48)) a
theorem valD_snoc (a : Nat) (l : List UInt8) (c : UInt8) : valD a (l ++ [c]) = 10 * valD a l + (c.toNat - 48):=by simp [valD]
theorem valD_ge : ∀ (l : List UInt8) (a : Nat),a ≤ valD a l
 | [],a => Nat.le_refl _
 | c :: l,a => by
  have:=valD_ge l (10 * a + (c.toNat - 48));show a ≤ valD (10 * a + (c.toNat - 48)) l;omega
theorem valD_app (a : Nat) (l r : List UInt8) : valD a (l ++ r) = valD (valD a l) r:=by simp [valD]
def cnt (l : List UInt8) : Option Nat :=
 if l = [] ∨ 19 < l.length ∨ (1 < l.length ∧ l.head? = some 48) then none else if l.all isD = true then (if valD 0 l ≤ 4611686018427387904 then some (valD 0 l) else none) else none
def cntZ (l : List UInt8) : Int:=match cnt l with | some n => (n : Int) | none => -1
theorem cnt_le {l : List UInt8} {n : Nat} (h : cnt l = some n) : n ≤ 4611686018427387904:=by
 unfold cnt at h
 split at h
 ·cases h
 ·split at h
  ·split at h
   ·injection h with h;omega
   ·cases h
  ·cases h
theorem parse_ok : ∀ (l : List UInt8) (a k : Nat),(∀ c ∈ l,isD c = true) → a < 10 ^ k → k + l.length ≤ 19 → Lib.parseUintM (2 ^ 64 - 1) a l = .ok (valD a l)
 | [],a,k,_,_,_ => rfl
 | c :: l,a,k,hd,ha,hk => by
  have hc : isD c = true:=hd c (by simp);unfold isD at hc;have hc:=of_decide_eq_true hc;rw [List.length_cons] at hk;have h18 : 10 ^ k ≤ 10 ^ 18:=Nat.pow_le_pow_right (by omega) (by omega);have e18 : (10 : Nat) ^ 18 = 1000000000000000000:=by decide
  rw [Lib.parseUintM,if_pos hc,if_neg (by omega),if_neg (by omega)];rw [parse_ok l (a * 10 + (c.toNat - 48)) (k + 1) (fun x hx => hd x (by simp [hx])) (by rw [Nat.pow_succ];omega) (by omega)];rw [Nat.mul_comm a 10]
  rfl
theorem parse_cnt {l : List UInt8} (h0 : l ≠ []) (h19 : l.length ≤ 19) (hd : l.all isD = true) : Lib.parseUintB 64 l = .ok (valD 0 l):=by
 unfold Lib.parseUintB;rw [if_neg h0];exact parse_ok l 0 0 (fun c hc => by rw [List.all_eq_true] at hd;exact hd c hc) (by decide) (by omega)
theorem dig_byte {d : Nat} (h : d < 10) : isD (UInt8.ofNat (48 + d)) = true ∧ (UInt8.ofNat (48 + d)).toNat - 48 = d ∧ (UInt8.ofNat (48 + d) = 48 → d = 0):=by
 have : ∀ d : Fin 10,isD (UInt8.ofNat (48 + d.val)) = true ∧ (UInt8.ofNat (48 + d.val)).toNat - 48 = d.val ∧ (UInt8.ofNat (48 + d.val) = 48 → d.val = 0):=by decide +kernel
 exact this ⟨d,h⟩
theorem dec_facts : ∀ (n : Nat),Lib.decDigits n ≠ [] ∧ (Lib.decDigits n).all isD = true ∧ valD 0 (Lib.decDigits n) = n ∧ (0 < n → (Lib.decDigits n).head? ≠ some 48):=by
 intro n
 induction n using Nat.strongRecOn with
 | ind n ih =>
  by_cases h : n < 10
  ·obtain ⟨h1,h2,h3⟩:=dig_byte h
   rw [dec_lt h];refine ⟨List.cons_ne_nil _ _,by rw [List.all_cons,h1];rfl,?_,fun h0 e => ?_⟩
   ·show 10 * 0 + ((UInt8.ofNat (48 + n)).toNat - 48) = n
    omega
   ·have:=h3 (Option.some.inj e)
    omega
  ·obtain ⟨i1,i2,i3,i4⟩:=ih (n / 10) (by omega)
   obtain ⟨h1,h2,h3⟩:=dig_byte (show n % 10 < 10 by omega);rw [dec_ge h];refine ⟨by simp,by rw [List.all_append,i2,List.all_cons,h1];rfl,by rw [valD_snoc,i3,h2];omega,fun _ => ?_⟩;have i4':=i4 (by omega)
   cases hq : Lib.decDigits (n / 10) with
   | nil => exact absurd hq i1
   | cons x r => rw [hq] at i4';exact i4'
end Go.Proofs.YtcibcmfaebbhnaaGreatDoor
