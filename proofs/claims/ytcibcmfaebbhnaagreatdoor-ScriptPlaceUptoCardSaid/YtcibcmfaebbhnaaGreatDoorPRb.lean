/-
  A region that draws its order, walked one operation at a time; operations on texts and on whole structs as run equations. (Printed by wip/tools/mkrun.py.) Footprints: outside a set of blocks, and beside what is new, the world is as it was. Bytes in a block of their own; a struct stored into a block; a text turned into bytes.
-/
import Derived.StillTail
import Derived.Test.YtcibcmfaebbhnaaGreatDoorPHdr
import Derived.Test.YtcibcmfaebbhnaaGreatDoorPRdc
import Derived.Laws.CopyRow
import Derived.Laws.CopyOwn
import Derived.Laws.ResultCell
import Derived.Laws.IdiomStrings
set_option linter.unusedSimpArgs false
set_option linter.unusedVariables false

namespace Go.Proofs.YtcibcmfaebbhnaaGreatDoor
open Go.RowKit Go.WideShapes Go.ChangeShapes Q
section
variable {P : Program} {ops : Array Oper} {Q : Exit → Act → World → Prop} {md : Region.Mode} {S : World → Prop} {sk : List Nat}
def wpL (P : Program) (md : Region.Mode) (ops : Array Oper) (Q : Exit → Act → World → Prop) (S : World → Prop) (sk : List Nat) : Nat → Array Bool → Act → World → Prop
 | 0,listed,a,w => Region.ready md ops listed = [] ∧ Q .normal a w
 | fuel + 1,listed,a,w =>
  (Region.ready md ops listed = [] → Q .normal a w) ∧
  ∀ i ∈ Region.ready md ops listed,wpOp P ops Q i (fun a' w' => (sk.contains i = false → S w') ∧ wpL P md ops Q S sk fuel (listed.setIfInBounds i true) a' w') a w
theorem wpL_any : ∀ (fuel : Nat) (listed : Array Bool) (a : Act) (w : World),wpL P md ops Q S sk fuel listed a w → wpAny P md ops Q fuel listed a w
 | 0,_,_,_,h => h
 | fuel + 1,_,_,_,h => ⟨h.1,fun i hi => wpOp_mono (fun a' w' h' => wpL_any fuel _ a' w' h'.2) (h.2 i hi)⟩
def Waits (md : Region.Mode) (ops : Array Oper) (sk : List Nat) (listed : Array Bool) (i : Nat) : Prop:=∀ m ∈ sk,listed.getD m true = true ∨ Region.waitsFor md ops m i = true
theorem Waits.of {listed : Array Bool} {i : Nat} (h : sk.all (fun m => listed.getD m true || Region.waitsFor md ops m i) = true) : Waits md ops sk listed i:=fun m hm => by
 have:=List.all_eq_true.1 h m hm;simpa using this
theorem Waits.not {listed : Array Bool} {i j : Nat} (h : Waits md ops sk listed i) (hr : i ∈ Region.ready md ops listed) (hj : j ∈ Region.ready md ops listed) : sk.contains j = false:=by
 cases hc : sk.contains j with
 | false => rfl
 | true =>
  obtain ⟨hju,oj,hoj,hall⟩:=mem_ready.1 hj
  rcases h j (by simpa using hc) with h1 | h1
  ·rw [hju] at h1;cases h1
  ·obtain ⟨om,hom,e,he,hb,hon⟩:=Region.waitsFor_spec h1
   obtain rfl : oj = om:=Option.some.inj (hoj.symm.trans hom);have h2:=hall e he hb;rw [hon,getD_both (mem_ready.1 hr).1] at h2
   cases h2
theorem Waits.set {listed : Array Bool} {i j : Nat} (h : Waits md ops sk listed i) : Waits md ops sk (listed.setIfInBounds j true) i:=fun m hm => by
 rcases h m hm with h1 | h1
 ·refine .inl ?_
  by_cases e : j = m
  ·subst e
   rcases Nat.lt_or_ge j listed.size with h' | h'
   ·simp [h']
   ·simp [h']
  ·rw [getD_set_ne true e];exact h1
 ·exact .inr h1
theorem wpL_first {i : Nat} {oi : Oper} {v : Value} (hi : ops[i]? = some oi) (hsel : ∀ (j : Nat) (o : Oper) cs b,ops[j]? = some o → o.op ≠ .select cs b)
  (hQ : ∀ c a w,Q (.panic c) (a.put oi.dst v) w → Q (.panic c) a w) {T : World → Prop} {b : Bool} (hT : (b = true ∧ T = S) ∨ (b = false ∧ sk.contains i = true ∧ ∀ w,T w)) :
  ∀ (fuel : Nat) (listed : Array Bool) (a : Act) (w : World),(b = true → Waits md ops sk listed i) →
   (∀ j oj,ops[j]? = some oj → j ≠ i → listed.getD j true = false → (∀ e ∈ oj.after,Region.binds md e = true → e.on ≠ i) → oi.apart ops oj = true) →
   i ∈ Region.ready md ops listed → YieldsIf P ops T oi v a → T w →
   wpL P md ops Q S sk fuel (listed.setIfInBounds i true) (a.put oi.dst v) w → wpL P md ops Q S sk (fuel + 1) listed a w:=by
 have here : ∀ w,T w → sk.contains i = false → S w:=fun w hw hc => by
  rcases hT with ⟨_,h⟩ | ⟨_,h,_⟩
  ·rw [← h];exact hw
  ·rw [h] at hc;cases hc
 intro fuel
 induction fuel with
 | zero =>
  intro listed a w hwait _ hr hy hS H;refine ⟨fun h => (by rw [h] at hr;cases hr),fun j hj => ?_⟩
  by_cases hji : j = i
  ·subst hji;exact hy.wpOp hi hS ⟨here w hS,H⟩
  ·have:=ready_mono hj hji
   rw [H.1] at this
   cases this
 | succ fuel ih =>
  intro listed a w hwait hfree hr hy hS H;refine ⟨fun h => (by rw [h] at hr;cases hr),fun j hj => ?_⟩
  by_cases hji : j = i
  ·subst hji;exact hy.wpOp hi hS ⟨here w hS,H⟩
  ·have h1:=H.2 j (ready_mono hj hji)
   obtain ⟨hjun,oj,hoj,hall⟩:=mem_ready.1 hj
   have hnot : ∀ e ∈ oj.after,Region.binds md e = true → e.on ≠ i:=fun e he hb heq => by
    have h1:=hall e he hb;rw [heq,getD_both (mem_ready.1 hr).1] at h1
    cases h1
   have h2:=wpOp_putIf hoj (hfree j oj hoj hji hjun hnot) (fun cs b => hsel i oi cs b hi) (fun cs b => hsel j oj cs b hoj) hQ hy h1
   have hfree' : ∀ k ok,ops[k]? = some ok → k ≠ i → (listed.setIfInBounds j true).getD k true = false →
     (∀ e ∈ ok.after,Region.binds md e = true → e.on ≠ i) → oi.apart ops ok = true:=fun k ok hk hki hun hno => by
    refine hfree k ok hk hki ?_ hno
    by_cases hjk : j = k
    ·subst hjk;exact hjun
    ·rw [getD_set_ne true hjk] at hun;exact hun
   have hT' : ∀ w',(sk.contains j = false → S w') → T w':=fun w' hw' => by
    rcases hT with ⟨hb,h⟩ | ⟨_,_,h⟩
    ·rw [h];exact hw' ((hwait hb).not hr hj)
    ·exact h w'
   refine wpOp_mono (fun a' w' h3 => ⟨h3.2.1,ih (listed.setIfInBounds j true) a' w' (fun e => (hwait e).set) hfree' (ready_mono hr (Ne.symm hji)) h3.1 (hT' w' h3.2.1) ?_⟩) h2;rw [Array.setIfInBounds_comm _ _ hji];exact h3.2.2
theorem wpL_take (i : Nat) {oi : Oper} {v : Value} {fuel : Nat} {listed : Array Bool} {a : Act} {w : World} (hi : ops[i]? = some oi)
  (hs : Region.noSelect ops = true) (hf : Region.free md ops listed i = true) (hr : (Region.ready md ops listed).contains i = true) (hwait : sk.all (fun m => listed.getD m true || Region.waitsFor md ops m i) = true)
  (hQ : ∀ c a w,Q (.panic c) (a.put oi.dst v) w → Q (.panic c) a w) (hy : YieldsIf P ops S oi v a) (hS : S w)
  (h : wpL P md ops Q S sk fuel (listed.setIfInBounds i true) (a.put oi.dst v) w) : wpL P md ops Q S sk (fuel + 1) listed a w :=
 wpL_first hi (Region.noSelect_spec hs) hQ (T:=S) (b:=true) (.inl ⟨rfl,rfl⟩) fuel listed a w (fun _ => Waits.of hwait) (Region.free_spec hi hf) (by simpa using hr) hy hS h
theorem tk (i s : Nat) {o2 : _} {o3 : _} {o4 : _} {o5 : _} {o6 : _} {v : Value} {fuel : Nat} {listed : Array Bool} {a : Act} {w : World} (hi : ops[i]? = some (⟨some s,o2,o3,o4,o5,o6⟩ : Oper)) (hS : S w)
  (hy : ∀ w,S w → (execOp a.eval (⟨some s,o2,o3,o4,o5,o6⟩ : Oper)).run P w = .ok (.value v) w)
  (h : wpL P md ops Q S sk fuel (listed.setIfInBounds i true) (a.put (some s) v) w)
  (hs : Region.noSelect ops = true:=by kernel_rfl) (hf : Region.free md ops listed i = true:=by kernel_rfl) (hr : (Region.ready md ops listed).contains i = true:=by kernel_rfl) (hwait : sk.all (fun m => listed.getD m true || Region.waitsFor md ops m i) = true:=by kernel_rfl)
  (hQ : ∀ c a w,Q (.panic c) (a.put (some s) v) w → Q (.panic c) a w:=by exact fun _ _ _ h => h) (hw : Region.wanted (⟨some s,o2,o3,o4,o5,o6⟩ : Oper) (yielded ops a.tmps) = true:=by rfl) : wpL P md ops Q S sk (fuel + 1) listed a w :=
 wpL_take i hi hs hf hr hwait hQ (.inl ⟨hw,hy⟩) hS h
theorem tn (i s : Nat) {o2 : _} {o3 : _} {o4 : _} {o5 : _} {o6 : _} {fuel : Nat} {listed : Array Bool} {a : Act} {w : World} (hi : ops[i]? = some (⟨some s,o2,o3,o4,o5,o6⟩ : Oper)) (hS : S w)
  (h : wpL P md ops Q S sk fuel (listed.setIfInBounds i true) (a.put (some s) undef) w)
  (hs : Region.noSelect ops = true:=by kernel_rfl) (hf : Region.free md ops listed i = true:=by kernel_rfl) (hr : (Region.ready md ops listed).contains i = true:=by kernel_rfl) (hwait : sk.all (fun m => listed.getD m true || Region.waitsFor md ops m i) = true:=by kernel_rfl)
  (hQ : ∀ c a w,Q (.panic c) (a.put (some s) undef) w → Q (.panic c) a w:=by exact fun _ _ _ h => h) (hw : Region.wanted (⟨some s,o2,o3,o4,o5,o6⟩ : Oper) (yielded ops a.tmps) = false:=by rfl) : wpL P md ops Q S sk (fuel + 1) listed a w :=
 wpL_take i hi hs hf hr hwait hQ (.inr ⟨hw,rfl⟩) hS h
theorem wpL_one (i : Nat) {o : Oper} {fuel : Nat} {listed : Array Bool} {a : Act} {w : World} (hr : Region.ready md ops listed = [i]) (ho : ops[i]? = some o)
  (h : ∀ K' : Act → World → Prop,(∀ a w,(sk.contains i = false → S w) → wpL P md ops Q S sk fuel (listed.setIfInBounds i true) a w → K' a w) → if Region.wanted o (yielded ops a.tmps) = true then Oper.wp P o a w K' Q else K' (a.put o.dst undef) w) :
  wpL P md ops Q S sk (fuel + 1) listed a w:=by
 refine ⟨fun h0 => (by rw [h0] at hr;cases hr),fun j hj => ?_⟩;rw [hr] at hj;obtain rfl : j = i:=by simpa using hj
 exact wpOp_step ho fun K' hK => h K' fun a w hS hW => hK a w ⟨hS,hW⟩
theorem wpL_done {listed : Array Bool} {a : Act} {w : World} (hr : Region.ready md ops listed = []) (h : Q .normal a w) : ∀ fuel,wpL P md ops Q S sk fuel listed a w
 | 0 => ⟨hr,h⟩
 | _ + 1 => ⟨fun _ => h,by rw [hr];simp⟩
theorem wp_region_L (sk : List Nat) (S : World → Prop) {id : Nat} {a : Act} {w : World} (hm : P.follows .mixedOrders = true)
  (h : wpL P .any ops Q S sk ops.size (Array.replicate ops.size false) a w.drew) : (Code.region id ops true).wp P Q a w :=
 wp_region_any hm (wpL_any _ _ _ _ h)
end
theorem wpL_two {P : Program} {ops : Array Oper} {Q : Exit → Act → World → Prop} {md : Region.Mode} {S : World → Prop} {sk : List Nat} (i j : Nat) {oi oj : Oper} {fuel : Nat} {listed : Array Bool} {a : Act} {w : World} (hr : Region.ready md ops listed = [i,j]) (hi : ops[i]? = some oi) (hj : ops[j]? = some oj)
  (h1 : ∀ K' : Act → World → Prop,(∀ a w,(sk.contains i = false → S w) → wpL P md ops Q S sk fuel (listed.setIfInBounds i true) a w → K' a w) → if Region.wanted oi (yielded ops a.tmps) = true then Oper.wp P oi a w K' Q else K' (a.put oi.dst undef) w)
  (h2 : ∀ K' : Act → World → Prop,(∀ a w,(sk.contains j = false → S w) → wpL P md ops Q S sk fuel (listed.setIfInBounds j true) a w → K' a w) → if Region.wanted oj (yielded ops a.tmps) = true then Oper.wp P oj a w K' Q else K' (a.put oj.dst undef) w) :
  wpL P md ops Q S sk (fuel + 1) listed a w:=by
 refine ⟨fun h0 => (by rw [h0] at hr;cases hr),fun k hk => ?_⟩;rw [hr] at hk;have hk' : k = i ∨ k = j:=by simpa using hk
 rcases hk' with rfl | rfl
 ·exact wpOp_step hi fun K' hK => h1 K' fun a w hS hW => hK a w ⟨hS,hW⟩
 ·exact wpOp_step hj fun K' hK => h2 K' fun a w hS hW => hK a w ⟨hS,hW⟩
def cc (a b : List UInt8) : List UInt8:=a ++ b
theorem cc_len (a b : List UInt8) : (cc a b).length = a.length + b.length:=List.length_append
section
variable {P : Program} {o : Oper} {a : Act} {V : World}
theorem ex_cat {X Y : List UInt8} (x y : Operand) (t e : TypeId) (ho : o.op = .binOp .add t x y e) (hx : a.eval x = .string (S X)) (hy : a.eval y = .string (S Y)) (hl : X.length + Y.length ≤ 9223372036854775807) :
  (execOp a.eval o).run P V = .ok (.value (.string (S (cc X Y)))) V:=by
 have h : ¬ 9223372036854775807 < (S X).size + (S Y).size:=size_lim hl;unfold execOp;simp only [ho,hx,hy];simp [go_sem,h,S_append,cc]
theorem ex_load (ty : TypeId) (x : Operand) (ho : o.op = .load ty x) (ad : Addr) (hx : a.eval x = .pointer (some ad)) (cs : Array Value) (d : TypeDesc)
  (hu : P.underlying ty = some d) (hd : (match d with | .struct _ | .array _ _ => true | _ => false) = true) (hi : (P.info? ty).map (·.size) = some cs.size) (hc : ∀ j v,cs[j]? = some v → V.cell? (ad.add j) = some v) :
  (execOp a.eval o).run P V = .ok (.value (.agg cs)) V:=by
 unfold execOp;simp only [ho,hx,Instr.loadAt,Instr.sureAddr,Sem.run_bind,Sem.run_pure,Result.andThen_ok,run_load_at V ad ty cs d hu hd hi hc]
theorem ex_conv {B n c : Nat} {A : Option Addr} {l : List UInt8} (x : Operand) (ho : o.op = .convert 29 9 x) (hx : a.eval x = .slice A n c) (h : Reads V B 1 A n (Lib.byteCells l)) :
  (execOp a.eval o).run Tryz.prog V = .ok (.value (.string (S l))) V:=by
 unfold execOp;simp only [ho,hx,Sem.run_bind,Sem.run_pure,conv_reads h,Result.andThen_ok]
theorem wpList_value {ops : Array Oper} {rest : List Oper} {Q : Exit → Act → World → Prop} (hgd : o.guard = none) (v : Value) (he : (execOp a.eval o).run P V = .ok (.value v) V)
  (h : wpList P ops Q rest (a.put o.dst v) V) : wpList P ops Q (o :: rest) a V:=by
 refine wpList_plain hgd fun K hK => ?_
 unfold Oper.wp;rw [he];exact hK _ _ h
end
theorem bytes_beq (s : ByteArray) : (s.toList == (⟨#[]⟩ : ByteArray).toList) = (s == ⟨#[]⟩):=by
 first | exact (beq_toListBytes _ _).symm | exact beq_toListBytes _ _ | simp [beq_toListBytes]
structure Only (F : Nat → Prop) (w w' : World) : Prop where
 os : w'.os = w.os
 tape : w'.tape = w.tape
 output : w'.output = w.output
 size : w.heap.size ≤ w'.heap.size
 block : ∀ k,k < w.heap.size → ¬ F k → w'.heap[k]? = w.heap[k]?
section
variable {F G : Nat → Prop} {w w1 w' : World}
theorem Only.refl (F : Nat → Prop) (w : World) : Only F w w:=⟨rfl,rfl,rfl,Nat.le_refl _,fun _ _ _ => rfl⟩
theorem Only.mono (h : Only F w w') (hG : ∀ k,k < w.heap.size → F k → G k) : Only G w w' :=
 ⟨h.os,h.tape,h.output,h.size,fun k hk hn => h.block k hk fun hf => hn (hG k hk hf)⟩
theorem Only.trans' (h : Only F w w1) (h' : Only G w1 w') (hG : ∀ k,k < w.heap.size → G k → F k) : Only F w w' :=
 ⟨h'.os.trans h.os,h'.tape.trans h.tape,h'.output.trans h.output,Nat.le_trans h.size h'.size,
  fun k hk hn => (h'.block k (Nat.lt_of_lt_of_le hk h.size) fun hg => hn (hG k hk hg)).trans (h.block k hk hn)⟩
theorem Only.trans (h : Only F w w1) (h' : Only F w1 w') : Only F w w':=h.trans' h' fun _ _ h => h
theorem Only.of_below {B : Nat} (h : Below B w w') (hB : w.heap.size ≤ B) : Only F w w':=⟨h.os,h.tape,h.output,h.size,fun k hk _ => h.block k (by omega)⟩
theorem Only.of_grown {row : Option Nat} (h : w.grownBy w' row) (hr : ∀ g,row = some g → g < w.heap.size → F g) : Only F w w' :=
 ⟨h.os,h.tape,h.output,h.size,fun k hk hn => h.block k hk fun e => hn (hr k e.symm hk)⟩
theorem Only.alloc (h : Only F w w1) (o : Obj) : Only F w (w1.alloc o) :=
 ⟨h.os,h.tape,h.output,Nat.le_trans h.size (by simp),fun k hk hn => (Below.heap_alloc w1 o k (Nat.lt_of_lt_of_le hk h.size)).trans (h.block k hk hn)⟩
theorem Only.setCell (h : Only F w w1) {p : Addr} (hp : p.block < w.heap.size → F p.block) (u : Value) : Only F w (w1.setCell p u) :=
 ⟨h.os,h.tape,h.output,by simpa [World.setCell] using h.size,fun k hk hn => (Below.heap_setCell w1 p u k (by
  rintro rfl;exact hn (hp hk))).trans (h.block k hk hn)⟩
theorem Only.drew (h : Only F w w1) : Only F w w1.drew:=⟨h.os,h.tape,h.output,h.size,h.block⟩
theorem Only.drewN (h : Only F w w1) (n : Nat) : Only F w (w1.drewN n):=⟨h.os,h.tape,h.output,h.size,h.block⟩
theorem Only.below {B : Nat} (h : Only F w w') (hB : B ≤ w.heap.size) (hF : ∀ k,k < B → ¬ F k) : Below B w w' :=
 ⟨h.os,h.tape,h.output,h.size,fun k hk => h.block k (by omega) (hF k hk)⟩
theorem Only.cell (h : Only F w w') {p : Addr} {v : Value} (hc : w.cell? p = some v) (hp : ¬ F p.block) : w'.cell? p = some v :=
 (World.cell?_of_block (h.block p.block (World.block_lt_of_cell? w p hc) hp)).trans hc
theorem Blk.only {g : Nat} {t : TypeId} {cs : Array Value} (hb : Blk w g t cs) (h : Only F w w') (hg : ¬ F g) : Blk w' g t cs:=(h.block g hb.lt hg).trans hb
theorem own_only {base : Nat} {e : TypeId} {size n : Nat} {v : Value} {xs : List Value} (ho : w.ownsRow base e size v n xs) (h : Only F w w') (hg : ∀ g,v.ownBlock = some g → ¬ F g) : w'.ownsRow base e size v n xs:=by
 refine ⟨ho.1,?_⟩
 rcases ho.2 with hn | ⟨g,cap,cur,rfl,hb,hgg,rest⟩
 ·exact .inl hn
 ·refine .inr ⟨g,cap,cur,rfl,hb,?_,rest⟩
  rw [h.block g (Array.getElem?_eq_some_iff.1 hgg).1 (hg g rfl)];exact hgg
def Apart (w : World) (F : Nat → Prop) (e : TypeId) : Prop:=∀ k,k < w.heap.size → F k → ∃ t cs,Blk w k t cs ∧ t ≠ e
theorem own_apart {base : Nat} {e : TypeId} {size n : Nat} {v : Value} {xs : List Value} (ho : w.ownsRow base e size v n xs) (h : Only F w w') (hF : Apart w F e) : w'.ownsRow base e size v n xs:=by
 refine own_only ho h fun g hg hf => ?_
 rcases ho.2 with ⟨rfl,_⟩ | ⟨g',cap,cur,rfl,hb,hgg,rest⟩
 ·simp [Value.ownBlock] at hg
 ·obtain rfl : g' = g:=by simpa [Value.ownBlock] using hg
  obtain ⟨t,cs,hb',hne⟩:=hF g' (Array.getElem?_eq_some_iff.1 hgg).1 hf;exact Blk.ne_ hb' (show Blk w g' e cur from hgg) hne rfl
theorem Blk.apart {g : Nat} {t : TypeId} {cs : Array Value} (hb : Blk w g t cs) (h : Only F w w') (hF : Apart w F t) : Blk w' g t cs :=
 hb.only h fun hf => by
  obtain ⟨t',cs',hb',hne⟩:=hF g hb.lt hf;exact Blk.ne_ hb' hb hne rfl
theorem own_base {base base' : Nat} {e : TypeId} {size n : Nat} {v : Value} {xs : List Value} (ho : w.ownsRow base e size v n xs) (hb : base' ≤ base) : w.ownsRow base' e size v n xs:=by
 refine ⟨ho.1,?_⟩
 rcases ho.2 with hn | ⟨g,cap,cur,rfl,hg,rest⟩
 ·exact .inl hn
 ·exact .inr ⟨g,cap,cur,rfl,by omega,rest⟩
theorem own_none {base g : Nat} {e : TypeId} {size : Nat} (h : Blk w g e #[]) (hb : base ≤ g) : w.ownsRow base e size (.slice (some ⟨g,0,none⟩) 0 0) 0 [] :=
 ⟨by simp,.inr ⟨g,0,#[],rfl,hb,h,Nat.le_refl _,Nat.zero_le _,by simp,by simp⟩⟩
end
theorem Blk.new' (w : World) (t : TypeId) (cs : Array Value) (n : Nat) (hn : n = w.heap.size) : Blk (w.alloc (.cells cs t)) n t cs:=by subst hn;exact Blk.new w t cs
section
variable {w w' : World} {g b : Nat} {t : TypeId} {cs cs' : Array Value} 
theorem Blk.row (h : Blk w g t cs) (cells : Array Value) : Blk (w.setRow g cells) g t cells:=setRow_heap w g cs cells t (0,0) h
theorem Blk.row_far {k : Nat} (h : Blk w k t cs) (hne : k ≠ g) (cells : Array Value) : Blk (w.setRow g cells) k t cs:=(setRow_other w g k cells hne).trans h
theorem Only.setRow {F : Nat → Prop} {w1 : World} (h : Only F w w1) (hF : g < w.heap.size → F g) (cells : Array Value) : Only F w (w1.setRow g cells) :=
 ⟨h.os,h.tape,h.output,by simpa using h.size,fun k hk hn => (setRow_other w1 g k cells (by
  rintro rfl;exact hn (hF hk))).trans (h.block k hk hn)⟩
end
def RB (w : World) (b : Nat) (A : Option Addr) (n : Nat) (l : List UInt8) : Prop :=
 l.length = n ∧ (n = 0 ∨ ∃ g cs fr,A = some ⟨g,0,none⟩ ∧ b ≤ g ∧ w.heap[g]? = some (.cells cs 5 fr) ∧ ∀ j,j < n → cs[j]? = (Lib.byteCells l)[j]?)
section
variable {w w' : World} {b n : Nat} {A : Option Addr} {l : List UInt8}
theorem cell_of_any {w : World} {g j : Nat} {cs : Array Value} {t : TypeId} {fr : Nat × Nat} (h : w.heap[g]? = some (.cells cs t fr)) : w.cell? ⟨g,j,none⟩ = cs[j]?:=by simp [World.cell?,h]
theorem RB.reads (h : RB w b A n l) : Reads w w.heap.size 1 A n (Lib.byteCells l):=by
 have hl : (Lib.byteCells l).length = l.length:=by simp [Lib.byteCells]
 refine ⟨by rw [hl,h.1];omega,fun hn => ?_⟩
 rcases h.2 with h0 | ⟨g,cs,fr,e,hb,hg,hc⟩
 ·omega
 ·refine ⟨_,e,(Array.getElem?_eq_some_iff.1 hg).1,fun j u hu => ?_⟩
  have hj : j < n:=by have:=(List.getElem?_eq_some_iff.1 hu).1;rw [hl,h.1] at this;exact this
  have e2 : (⟨g,0,none⟩ : Addr).add j = ⟨g,j,none⟩:=by
   unfold Addr.add
   split
   ·rename_i h0;subst h0;rfl
   ·simp
  rw [e2,cell_of_any hg,hc j hj,hu]
theorem RB.step (h : RB w b A n l) (hb : Below w.heap.size w w') : RB w' b A n l:=by
 refine ⟨h.1,?_⟩
 rcases h.2 with h0 | ⟨g,cs,fr,e,hbg,hg,hc⟩
 ·exact .inl h0
 ·exact .inr ⟨g,cs,fr,e,hbg,(hb.block g (Array.getElem?_eq_some_iff.1 hg).1).trans hg,hc⟩
theorem RB.only {F : Nat → Prop} (h : RB w b A n l) (ho : Only F w w') (hF : ∀ g cs fr,w.heap[g]? = some (.cells cs 5 fr) → ¬ F g) : RB w' b A n l:=by
 refine ⟨h.1,?_⟩
 rcases h.2 with h0 | ⟨g,cs,fr,e,hbg,hg,hc⟩
 ·exact .inl h0
 ·exact .inr ⟨g,cs,fr,e,hbg,(ho.block g (Array.getElem?_eq_some_iff.1 hg).1 (hF g cs fr hg)).trans hg,hc⟩
theorem RB.grown {b' n' s' : Nat} {e' : TypeId} {v : Value} {xs : List Value} (h : RB w b A n l) (h' : w.ownsRow b' e' s' v n' xs) (hne : e' ≠ 5) (hg : w.grownBy w' v.ownBlock) : RB w' b A n l:=by
 refine h.only (Only.of_grown (F:=fun k => v.ownBlock = some k) hg (fun g hg _ => hg)) ?_;intro g cs fr hh hv
 rcases h'.2 with ⟨rfl,_⟩ | ⟨g',cap,cur,rfl,_,hk,_⟩
 ·simp [Value.ownBlock] at hv
 ·obtain rfl : g' = g:=by simpa [Value.ownBlock] using hv
  rw [hh] at hk;injection hk with hk
  injection hk with _ ht
  exact hne ht.symm
theorem RB.nil (w : World) (b : Nat) (A : Option Addr) : RB w b A 0 []:=⟨rfl,.inl rfl⟩
theorem RB.base {b' : Nat} (h : RB w b A n l) (hb : b' ≤ b) : RB w b' A n l:=by
 refine ⟨h.1,?_⟩
 rcases h.2 with h0 | ⟨g,cs,fr,e,hbg,hg,hc⟩
 ·exact .inl h0
 ·exact .inr ⟨g,cs,fr,e,by omega,hg,hc⟩
theorem RB.made (w : World) (s : ByteArray) (hb : b ≤ w.heap.size) (c : Nat) (fr : Nat × Nat) : RB (w.drew.alloc (.cells (bytesRow s c) 5 fr)) b (some ⟨w.heap.size,0,none⟩) s.size s.data.toList:=by
 refine ⟨str_len s,.inr ⟨w.heap.size,bytesRow s c,fr,rfl,hb,?_,?_⟩⟩
 ·exact heap_alloc_new w.drew _
 ·intro j hj
  have hj2 : j < s.data.size:=hj;unfold bytesRow Lib.byteCells;rw [Array.getElem?_append_left (by simpa using hj2),Array.getElem?_map,List.getElem?_map,Array.getElem?_toList]
end
def putAt (old : Array Value) (off : Nat) (cells : Array Value) : Array Value:=(old.toList.take off ++ cells.toList ++ old.toList.drop (off + cells.size)).toArray
section
variable {P : Program}
theorem wpList_put_at {ops : Array Oper} {rest : List Oper} {o : Oper} {a : Act} {w : World} {Q : Exit → Act → World → Prop} (hgd : o.guard = none) (ty : TypeId) (x y : Operand) (ho : o.op = .store ty x y)
  (g off : Nat) (cells : Array Value) (hx : a.eval x = .pointer (some ⟨g,off,none⟩)) (hy : a.eval y = .agg cells)
  (t : TypeId) (old : Array Value) (hg : Blk w g t old) (hi : (P.info? ty).map (·.size) = some cells.size)
  (hold : off + cells.size ≤ old.size) (h1 : cells.all (·.oneCell') = true)
  (new : Array Value) (hn : putAt old off cells = new)
  (h : wpList P ops Q rest (a.put o.dst undef) (w.setRow g new)) : wpList P ops Q (o :: rest) a w:=by
 subst hn;refine wpList_plain hgd fun K hK => ?_
 have hst:=run_storeCells_at P g off t cells.toList 0 old w hg (by simpa using hold) (fun v hv => (Array.all_eq_true_iff_forall_mem.1 h1) v (by simpa using hv))
 have hv : (storeVar ty ⟨g,off,none⟩ (.agg cells)).run P w = .ok () (w.setRow g (putAt old off cells)):=by
  cases hq : P.info? ty with
  | none => simp [hq] at hi
  | some i =>
   have hs : cells.size = i.size:=by simp [hq] at hi;omega
   simp only [Nat.add_zero,Array.length_toList] at hst;simp [storeVar,sizeOf,typeInfo,hq,Value.cells,hs];rw [hs] at hst;simpa [putAt,hs] using hst
 unfold Oper.wp execOp;simp only [ho,hx,hy,Instr.storeAt,Instr.sureAddr,Sem.run_bind,Sem.run_pure,Result.andThen_ok,hv];exact hK _ _ h
theorem run_put_at {o : Oper} {a : Act} {w : World} (ty : TypeId) (x y : Operand) (ho : o.op = .store ty x y)
  (g off : Nat) (cells : Array Value) (hx : a.eval x = .pointer (some ⟨g,off,none⟩)) (hy : a.eval y = .agg cells)
  (t : TypeId) (old : Array Value) (hg : Blk w g t old) (hi : (P.info? ty).map (·.size) = some cells.size)
  (hold : off + cells.size ≤ old.size) (h1 : cells.all (·.oneCell') = true)
  (new : Array Value) (hn : putAt old off cells = new) : (execOp a.eval o).run P w = .ok .skip (w.setRow g new):=by
 subst hn;have hst:=run_storeCells_at P g off t cells.toList 0 old w hg (by simpa using hold) (fun v hv => (Array.all_eq_true_iff_forall_mem.1 h1) v (by simpa using hv))
 have hv : (storeVar ty ⟨g,off,none⟩ (.agg cells)).run P w = .ok () (w.setRow g (putAt old off cells)):=by
  cases hq : P.info? ty with
  | none => simp [hq] at hi
  | some i =>
   have hs : cells.size = i.size:=by simp [hq] at hi;omega
   simp only [Nat.add_zero,Array.length_toList] at hst;simp [storeVar,sizeOf,typeInfo,hq,Value.cells,hs];rw [hs] at hst;simpa [putAt,hs] using hst
 unfold execOp;simp only [ho,hx,hy,Instr.storeAt,Instr.sureAddr,Sem.run_bind,Sem.run_pure,Result.andThen_ok,hv]
theorem one_skip {ops : Array Oper} {o : Oper} {a : Act} {V V' : World} {K : Act → World → Prop} {Q : Exit → Act → World → Prop} {E : Prop} (hw : Region.wanted o (yielded ops a.tmps) = true) (he : (execOp a.eval o).run P V = .ok .skip V') (h : K (a.put o.dst undef) V') :
  if Region.wanted o (yielded ops a.tmps) = true then Oper.wp P o a V K Q else E:=by
 rw [if_pos hw];unfold Oper.wp;rw [he];exact h
theorem one_value {ops : Array Oper} {o : Oper} {a : Act} {V V' : World} {K : Act → World → Prop} {Q : Exit → Act → World → Prop} {E : Prop} (hw : Region.wanted o (yielded ops a.tmps) = true) (v : Value) (he : (execOp a.eval o).run P V = .ok (.value v) V') (h : K (a.put o.dst v) V') :
  if Region.wanted o (yielded ops a.tmps) = true then Oper.wp P o a V K Q else E:=by
 rw [if_pos hw];unfold Oper.wp;rw [he];exact h
end
theorem only_setRow (W : World) (g : Nat) (C : Array Value) : Only (fun q => q = g) W (W.setRow g C):=(Only.refl (fun q => q = g) W).setRow (fun _ => rfl) C
theorem only_setCell0 (W : World) (g i : Nat) (v : Value) : Only (fun q => q = g) W (W.setCell ⟨g,i,none⟩ v):=(Only.refl (fun q => q = g) W).setCell (fun _ => rfl) v
theorem conv_made {b : Nat} (w : World) (l : List UInt8) (hb : b ≤ w.heap.size) : ∃ c W,(convert 9 29 (.string (S l))).run Tryz.prog w = .ok (.slice (some ⟨w.heap.size,0,none⟩) l.length c) W ∧ RB W b (some ⟨w.heap.size,0,none⟩) l.length l ∧ Below w.heap.size w W:=by
 have h:=run_bytes_of_string (P:=Tryz.prog) w 9 29 5 (S l) Tryz.underlying9 Tryz.underlying29 Tryz.underlying5;rw [S_size] at h;refine ⟨_,_,h,?_,?_⟩
 ·have:=RB.made (b:=b) w (S l) hb (grownCap w l.length 0 5) ((bytesRow (S l) (grownCap w l.length 0 5)).size,(bytesRow (S l) (grownCap w l.length 0 5)).size + 1)
  rw [S_size,S_data] at this;exact this
 ·exact ((Below.refl _ _).drew).alloc (Nat.le_refl _) _
section
end
end Go.Proofs.YtcibcmfaebbhnaaGreatDoor
