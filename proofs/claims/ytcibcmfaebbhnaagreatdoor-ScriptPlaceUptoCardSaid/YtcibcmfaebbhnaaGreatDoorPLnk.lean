/-
  Lists that are lent with marks behind their ends, and the book of them, in memory. A copied script's events may be written where the script's may. A guarded operation with its value; the law's num. An argument opened, of little bulk: slices, structs, texts; an event. (Printed by wip/tools/mkgbe.py.) An argument opened, of little bulk: a script.
-/
import Derived.Test.YtcibcmfaebbhnaaGreatDoorPRb
import Derived.Test.YtcibcmfaebbhnaaGreatDoorPHdr
import Derived.Test.YtcibcmfaebbhnaaGreatDoorPBln
import Derived.Test.YtcibcmfaebbhnaaGreatDoorPSco
import Derived.Test.YtcibcmfaebbhnaaGreatDoorPPrp
import Derived.Test.YtcibcmfaebbhnaaGreatDoorRows
import Derived.Test.YtcibcmfaebbhnaaGreatDoorPRdc
import Derived.Test.YtcibcmfaebbhnaaGreatDoorPWsg
set_option linter.unusedSimpArgs false
set_option linter.unusedVariables false
set_option maxRecDepth 100000

namespace Go.Proofs.YtcibcmfaebbhnaaGreatDoor
open Go.RowKit Go.WideShapes Go.ChangeShapes Q
structure LE where
 g : Nat
 n : Nat
 c : Nat
def LE.v (e : LE) : Value:=.slice (some ⟨e.g,0,none⟩) (e.n + 64) e.c
def mI (k : Nat) : List Value:=(List.range k).flatMap fun (i : Nat) => [.int .i64 (-700 - (i : Int))]
def mB (k : Nat) : List Value:=(List.range k).flatMap fun (i : Nat) => [.int .u8 (200 + (i : Int) % 7)]
def mM (k : Nat) : List Value:=(List.range k).flatMap fun (i : Nat) => [.int .i64 (-700 - (i : Int)),.int .i64 0,.int .i64 0]
def Mkd (w : World) (b : Nat) (t : TypeId) (size : Nat) (mk : List Value) (e : LE) : Prop:=∃ xs : List Value,xs.length = e.n * size ∧ w.ownsRow b t size e.v (e.n + 64) (xs ++ mk)
def LT4 (t : TypeId) : Prop:=t = 41 ∨ t = 29 ∨ t = 22 ∨ t = 46
def LT7 (t : TypeId) : Prop:=LT4 t ∨ t = 5 ∨ t = 3 ∨ t = 84
structure LKx (w : World) (b g : Nat) (lb li lm : List LE) (Ab : Option Addr) (kb : Nat) (Ai : Option Addr) (ki : Nat) (Am : Option Addr) (km : Nat) : Prop where
 box : Blk w g 41 #[.slice Ab lb.length kb,.slice Ai li.length ki,.slice Am lm.length km]
 low : b ≤ g
 rb : w.ownsRow b 29 1 (.slice Ab lb.length kb) lb.length (lb.map LE.v)
 ri : w.ownsRow b 22 1 (.slice Ai li.length ki) li.length (li.map LE.v)
 rm : w.ownsRow b 46 1 (.slice Am lm.length km) lm.length (lm.map LE.v)
 eb : ∀ e ∈ lb,Mkd w b 5 1 (mB 64) e
 ei : ∀ e ∈ li,Mkd w b 3 1 (mI 64) e
 em : ∀ e ∈ lm,Mkd w b 84 3 (mM 64) e
def LK (w : World) (b g K : Nat) : Prop:=∃ (lb li lm : List LE) (Ab : Option Addr) (kb : Nat) (Ai : Option Addr) (ki : Nat) (Am : Option Addr) (km : Nat),lb.length + li.length + lm.length ≤ K ∧ LKx w b g lb li lm Ab kb Ai ki Am km
def LF (b : Nat) (w : World) (k : Nat) : Prop:=b ≤ k ∧ ∃ t cs,Blk w k t cs ∧ LT4 t
def LStep (b : Nat) (w w' : World) : Prop:=Only (LF b w) w w'
section
variable {w w' w1 : World} {b g K : Nat}
theorem LStep.refl (b : Nat) (w : World) : LStep b w w:=Only.refl _ _
theorem LStep.trans (h : LStep b w w1) (h' : LStep b w1 w') : LStep b w w':=by
 refine Only.trans' h h' fun k hk hf => ?_
 obtain ⟨h1,t,cs,hb,ht⟩:=hf
 by_cases hn : LF b w k
 ·exact hn
 ·have h2:=h.block k hk hn
  exact ⟨h1,t,cs,h2.symm.trans hb,ht⟩
theorem LStep.of_below (h : Below w.heap.size w w') : LStep b w w':=Only.of_below h (Nat.le_refl _)
theorem LStep.below (h : LStep b w w') (hb : b ≤ w.heap.size) : Below b w w':=Only.below h hb (fun k hk hf => by have:=hf.1;omega)
theorem LStep.own {base : Nat} {e : TypeId} {size n : Nat} {v : Value} {xs : List Value} (h : LStep b w w') (ho : w.ownsRow base e size v n xs) (he : ¬ LT4 e) : w'.ownsRow base e size v n xs :=
 own_apart ho h (fun k hk hf => by
  obtain ⟨_,t,cs,hb,ht⟩:=hf;exact ⟨t,cs,hb,fun e' => he (e' ▸ ht)⟩)
theorem LStep.blk {t : TypeId} {cs : Array Value} {k : Nat} (h : LStep b w w') (hb : Blk w k t cs) (ht : ¬ LT4 t) : Blk w' k t cs :=
 hb.apart h (fun k hk hf => by
  obtain ⟨_,t',cs',hb',ht'⟩:=hf;exact ⟨t',cs',hb',fun e' => ht (e' ▸ ht')⟩)
theorem LStep.size (h : LStep b w w') : w.heap.size ≤ w'.heap.size:=Only.size h
theorem Mkd.only {t : TypeId} {size : Nat} {mk : List Value} {e : LE} {F : Nat → Prop} (h : Mkd w b t size mk e) (ho : Only F w w') (hF : Apart w F t) : Mkd w' b t size mk e:=by
 obtain ⟨xs,h1,h2⟩:=h;exact ⟨xs,h1,own_apart h2 ho hF⟩
theorem Mkd.step {t : TypeId} {size : Nat} {mk : List Value} {e : LE} (h : Mkd w b t size mk e) (hb : Below w.heap.size w w') : Mkd w' b t size mk e:=by
 obtain ⟨xs,h1,h2⟩:=h;exact ⟨xs,h1,own_step h2 hb⟩
variable {lb li lm : List LE} {Ab Ai Am : Option Addr} {kb ki km : Nat}
theorem LKx.step (h : LKx w b g lb li lm Ab kb Ai ki Am km) (hb : Below w.heap.size w w') : LKx w' b g lb li lm Ab kb Ai ki Am km :=
 ⟨h.box.below hb h.box.lt,h.low,own_step h.rb hb,own_step h.ri hb,own_step h.rm hb,fun e he => (h.eb e he).step hb,fun e he => (h.ei e he).step hb,fun e he => (h.em e he).step hb⟩
theorem LKx.far {F : Nat → Prop} (h : LKx w b g lb li lm Ab kb Ai ki Am km) (ho : Only F w w') (hF : ∀ t,LT7 t → Apart w F t) : LKx w' b g lb li lm Ab kb Ai ki Am km :=
 ⟨h.box.apart ho (hF _ (.inl (.inl rfl))),h.low,own_apart h.rb ho (hF _ (.inl (.inr (.inl rfl)))),own_apart h.ri ho (hF _ (.inl (.inr (.inr (.inl rfl))))),own_apart h.rm ho (hF _ (.inl (.inr (.inr (.inr rfl))))),
  fun e he => (h.eb e he).only ho (hF _ (.inr (.inl rfl))),fun e he => (h.ei e he).only ho (hF _ (.inr (.inr (.inl rfl)))),fun e he => (h.em e he).only ho (hF _ (.inr (.inr (.inr rfl))))⟩
theorem LK.step (h : LK w b g K) (hb : Below w.heap.size w w') : LK w' b g K:=by
 obtain ⟨lb,li,lm,Ab,kb,Ai,ki,Am,km,hk,h⟩:=h;exact ⟨lb,li,lm,Ab,kb,Ai,ki,Am,km,hk,h.step hb⟩
theorem LK.far {F : Nat → Prop} (h : LK w b g K) (ho : Only F w w') (hF : ∀ t,LT7 t → Apart w F t) : LK w' b g K:=by
 obtain ⟨lb,li,lm,Ab,kb,Ai,ki,Am,km,hk,h⟩:=h;exact ⟨lb,li,lm,Ab,kb,Ai,ki,Am,km,hk,h.far ho hF⟩
theorem LK.one {t : TypeId} {cs : Array Value} {k : Nat} (h : LK w b g K) (hb : Blk w k t cs) (ht : ¬ LT7 t) (ho : Only (fun q => q = k) w w') : LK w' b g K :=
 h.far ho (fun t' ht' q hq e => by
  have e2 : q = k:=e;subst e2;exact ⟨t,cs,hb,fun e3 => ht (e3 ▸ ht')⟩)
end
theorem Mkd.grow {w w1 w' : World} {b b' : Nat} {t t' : TypeId} {size s' n' : Nat} {mk : List Value} {e : LE} {v' : Value} {xs' : List Value} (h : Mkd w b t size mk e) (hal : Below w.heap.size w w1) (h' : w1.ownsRow b' t' s' v' n' xs') (hne : t ≠ t') (hg : w1.grownBy w' v'.ownBlock) : Mkd w' b t size mk e:=by
 obtain ⟨xs,h1,h2⟩:=h;exact ⟨xs,h1,own_kept (own_step h2 hal) h' hne hg⟩
theorem LStep.push {w w' : World} {b n s : Nat} {t : TypeId} {v : Value} {xs : List Value} {o : Obj} (hrow : w.ownsRow b t s v n xs) (ht : LT4 t) (hgr : (w.alloc o).grownBy w' v.ownBlock) : LStep b w w':=by
 have h1 : Only (LF b w) w (w.alloc o):=(Only.refl _ w).alloc o;refine h1.trans (Only.of_grown hgr fun g hg _ => ?_)
 rcases hrow.2 with ⟨rfl,_⟩ | ⟨g',cap,cur,rfl,hb,hgg,_⟩
 ·simp [Value.ownBlock] at hg
 ·obtain rfl : g' = g:=by simpa [Value.ownBlock] using hg
  exact ⟨hb,t,cur,hgg,ht⟩
theorem LStep.box {w w' : World} {b g : Nat} {cs : Array Value} (hb : Blk w g 41 cs) (hg : b ≤ g) (ho : Only (fun k => k = g) w w') : LStep b w w' :=
 Only.mono ho (fun k _ e => by
  have e2 : k = g:=e;subst e2;exact ⟨hg,_,cs,hb,.inl rfl⟩)
theorem SmIn.up {w : World} {B B' : Nat} {s : Sm} (h : SmIn w B s) (hB : B ≤ B') : SmIn w B' s:=⟨reads_up h.vot hB,reads_up h.row hB,fun m hm => (h.ent m hm).up hB,h.hv,h.hn⟩
theorem copy_ok {w w' : World} {B b : Nat} {s s' : Sm} (he : s'.sc = s.sc) (hm : ∀ m ∈ s.ms,EvOk m) (hi : ∀ m ∈ s.ms,EmIn w B m) (hi' : ∀ m ∈ s'.ms,EmIn w' b m) : ∀ m ∈ s'.ms,EvOk m:=by
 intro m' hm';have h1 : s'.ms.map Em.ev = s.ms.map Em.ev:=congrArg Sc.es he;have h2 : m'.ev ∈ s.ms.map Em.ev:=by rw [← h1];exact List.mem_map_of_mem hm'
 obtain ⟨m,hms,hev⟩:=List.mem_map.1 h2;have a:=hi m hms;have a':=hi' m' hm';refine (hm m hms).of hev.symm ?_ ?_
 ·rw [← RI.len a'.sid,← RI.len a.sid,show m'.sd = m.sd from congrArg Ev.sd hev.symm]
 ·rw [← a'.nb_len,← a.nb_len,show m'.bd = m.bd from congrArg Ev.bd hev.symm]
theorem copy_votes {s s' : Sm} (he : s'.sc = s.sc) : s'.c = s.c ∧ s'.ms.length = s.ms.length:=by
 have h1 : s'.ms.map Em.ev = s.ms.map Em.ev:=congrArg Sc.es he;have h2:=congrArg List.length h1;rw [List.length_map,List.length_map] at h2;exact ⟨congrArg Sc.c he,h2⟩
theorem numz_any (x : Int) (w : World) : Calls Tryz.prog 17 #[.int .i64 x] w fun e w' => e = .returned (.int .i64 x) ∧ w = w':=by
 go_enter Tryz.func17,Tryz.ntmps17;go_wp2;go_ret;exact ⟨rfl,rfl⟩
end Go.Proofs.YtcibcmfaebbhnaaGreatDoor
namespace Go.Proofs.YtcibcmfaebbhnaaGreatDoor
open Go.ChangeShapes Go.WideShapes Go.ChangeAt Go.RowKit Go.Deep Q
section
variable {H : Type} {enc : TypeId × Value → H} {W : World}
theorem bulk_part {d : DataW H} {l : List (DataW H)} (h : d ∈ l) : Rows.uptoBulk d ≤ Rows.uptoBulkAll l:=by
 induction l with
 | nil => cases h
 | cons x r ih =>
  simp only [Rows.uptoBulkAll]
  cases List.mem_cons.1 h with
  | inl e => subst e;omega
  | inr e => have:=ih e;omega
theorem bulk_one (d : DataW H) : 1 ≤ Rows.uptoBulk d:=by
 cases d with
 | lit l => cases l <;> simp [Rows.uptoBulk]
 | nil => simp [Rows.uptoBulk]
 | ptr d => simp [Rows.uptoBulk]
 | slice elems spare => simp [Rows.uptoBulk]
 | agg parts => simp [Rows.uptoBulk]
 | iface t d => simp [Rows.uptoBulk]
 | map entries => simp [Rows.uptoBulk]
 | held h => simp [Rows.uptoBulk]
theorem bulk_len (l : List (DataW H)) : l.length ≤ Rows.uptoBulkAll l:=by
 induction l with
 | nil => simp [Rows.uptoBulkAll]
 | cons x r ih => have:=bulk_one x;simp only [Rows.uptoBulkAll,List.length_cons];omega
theorem bulk_slice (e s : List (DataW H)) : Rows.uptoBulk (.slice e s) = Rows.uptoBulkAll e + Rows.uptoBulkAll s + 1:=by simp [Rows.uptoBulk]
theorem bulk_agg (e : List (DataW H)) : Rows.uptoBulk (.agg e) = Rows.uptoBulkAll e + 1:=by simp [Rows.uptoBulk]
theorem bulk_str (b : List UInt8) : Rows.uptoBulk (DataW.lit (H:=H) (.string b)) = b.length + 1:=by simp [Rows.uptoBulk]
def GB (enc : TypeId × Value → H) (W : World) (t : TypeId) (cs : List Value) (d : DataW H) : Prop :=
 ∃ (fuel : Nat) (p : List MemPlace),DataW.trod enc Tryz.prog W 0 (fun _ => true) true fuel t cs = some (d,p) ∧ (∀ x ∈ p,x.block < W.heap.size) ∧ Rows.uptoBulk d ≤ 1048576
theorem GB.slice {t e : TypeId} {v : Value} {d : DataW H} (ht : Tryz.prog.underlying t = some (.slice e)) (hC : 0 < Tryz.prog.cellsOf e) (h : GB enc W t [v] d) :
  v = .slice none 0 0 ∨
  ∃ (a : Addr) (len cap : Nat) (D : Nat → DataW H) (cs : Nat → List Value),v = .slice (some a) len cap ∧ len ≤ cap ∧ len ≤ 1048576 ∧ (0 < len → a.block < W.heap.size) ∧
   ∀ i,i < len → (cs i).length = Tryz.prog.cellsOf e ∧ (∀ j,j < Tryz.prog.cellsOf e → W.cell? (a.add (i * Tryz.prog.cellsOf e + j)) = (cs i)[j]?) ∧ GB enc W e (cs i) (D i):=by
 obtain ⟨fuel,p,h,hlt,hwt⟩:=h
 rcases open_slice ht h with ⟨hcs,_⟩ | ⟨a,len,cap,m,n,D,Pl,hcs,_,hl,hm,hmm,hx,hi⟩
 ·left;simpa using hcs
 ·right
  simp only [if_true] at hmm;subst hmm;simp only [Prod.mk.injEq] at hx;obtain ⟨rfl,rfl⟩:=hx;rw [bulk_slice] at hwt;have hlen:=bulk_len ((List.range len).map D);rw [List.length_map,List.length_range] at hlen
  have hex : ∀ i,∃ cs',i < len → cs'.length = Tryz.prog.cellsOf e ∧ (∀ j,j < Tryz.prog.cellsOf e → W.cell? (a.add (i * Tryz.prog.cellsOf e + j)) = cs'[j]?) ∧ GB enc W e cs' (D i):=by
   intro i
   by_cases hil : i < len
   ·obtain ⟨cs',hc,ht'⟩:=hi i (by omega)
    obtain ⟨_,hcl,hat⟩:=World.cells?_some hc;have hb : Rows.uptoBulk (D i) ≤ Rows.uptoBulkAll ((List.range len).map D):=bulk_part (List.mem_map.2 ⟨i,List.mem_range.2 hil,rfl⟩);refine ⟨cs',fun _ => ⟨hcl,fun j hj => by rw [← Go.Deep.add_add];exact hat j hj,n,Pl i,ht',fun x hx => hlt x ?_,by omega⟩⟩;exact List.mem_append_right _ (List.mem_flatMap.2 ⟨i,List.mem_range.2 (by omega),hx⟩)
   ·exact ⟨[],fun h => absurd h hil⟩
  obtain ⟨cs,hcs'⟩:=Classical.axiomOfChoice hex;refine ⟨a,len,m,D,cs,by simpa using hcs,hl,by omega,fun hn => ?_,hcs'⟩;have hb:=hlt (.cell a.block (a.off + 0)) (List.mem_append_left _ (MemPlace.mem_row.2 ⟨0,Nat.mul_pos (by omega) hC,rfl⟩));exact hb
theorem GB.fld {t : TypeId} {fs : Array Field} {cs : List Value} {d : DataW H} (ht : Tryz.prog.underlying t = some (.struct fs)) (h : GB enc W t cs d) (i : Nat) (ty : TypeId) (off k : Nat) (hf : ∃ f,fs[i]? = some f ∧ f.type = ty ∧ f.offset = off) (hk : Tryz.prog.cellsOf ty = k) :
  ∃ d',GB enc W ty ((cs.drop off).take k) d':=by
 obtain ⟨f,hf,rfl,rfl⟩:=hf;subst hk;obtain ⟨fuel,p,h,hlt,hwt⟩:=h;obtain ⟨xs,n,_,hx,_,hxl,hg⟩:=DataW.trod_struct ht h;simp only [Prod.mk.injEq] at hx;obtain ⟨rfl,rfl⟩:=hx;have hil : i < fs.size:=(Array.getElem?_eq_some_iff.1 hf).1;have hy : xs[i]? = some (xs[i]'(by omega)):=List.getElem?_eq_getElem (by omega);rw [bulk_agg] at hwt;have hb : Rows.uptoBulk (xs[i]'(by omega)).1 ≤ Rows.uptoBulkAll (xs.map (·.1)):=bulk_part (List.mem_map.2 ⟨_,List.getElem_mem _,rfl⟩);refine ⟨(xs[i]'(by omega)).1,n,(xs[i]'(by omega)).2,(hg i f hf).trans hy,fun x hx => hlt x ?_,by omega⟩;exact List.mem_flatMap.2 ⟨_,List.getElem_mem _,hx⟩
theorem GB.int {t : TypeId} {v : Value} {d : DataW H} (ht : Tryz.prog.underlying t = some (.int .i64)) (h : GB enc W t [v] d) : ∃ x : Int,v = .int .i64 x ∧ -9223372036854775808 ≤ x ∧ x ≤ 9223372036854775807:=by
 obtain ⟨fuel,p,h,_,_⟩:=h;exact open_cell_int ht h
theorem GB.str {v : Value} {d : DataW H} (h : GB enc W 9 [v] d) : ∃ s : ByteArray,v = .string s ∧ s.size ≤ 1048576:=by
 obtain ⟨fuel,p,h,_,hb⟩:=h;obtain ⟨s,e0,hx,_⟩:=DataW.trod_string Tryz.underlying9 h;simp only [Prod.mk.injEq] at hx;obtain ⟨rfl,rfl⟩:=hx;rw [bulk_str,str_len] at hb;exact ⟨s,by simpa using e0,by omega⟩
theorem cellsInt : Tryz.prog.cellsOf 3 = 1:=by kernel_rfl
theorem cellsU8 : Tryz.prog.cellsOf 5 = 1:=by kernel_rfl
theorem cellsStr : Tryz.prog.cellsOf 9 = 1:=by kernel_rfl
theorem cellsBs : Tryz.prog.cellsOf 29 = 1:=by kernel_rfl
theorem cellsIs : Tryz.prog.cellsOf 22 = 1:=by kernel_rfl
theorem cellsCm : Tryz.prog.cellsOf 31 = 7:=by kernel_rfl
theorem cellsEv : Tryz.prog.cellsOf 33 = 13:=by kernel_rfl
theorem list1 {α : Type} {l : List α} (h : l.length = 1) : ∃ a,l = [a]:=by
 match l,h with
 | [a],_ => exact ⟨a,rfl⟩
theorem flat_one {α β : Type} (g : α → β) (l : List α) : (l.flatMap fun i => [g i]) = l.map g:=by
 induction l with
 | nil => rfl
 | cons a r ih => simp only [List.flatMap_cons,List.map_cons,ih];rfl
theorem GB.byte {v : Value} {d : DataW H} (h : GB enc W 5 [v] d) : ∃ x : UInt8,v = .int .u8 (x.toNat : Int):=by
 obtain ⟨fuel,p,h,_,_⟩:=h;obtain ⟨a,e0,_,wa⟩:=DataW.trod_int Tryz.underlying5 h;simp [Lit.wf,IntKind.min,IntKind.max,IntKind.signed,IntKind.bits] at wa;simp at e0;refine ⟨UInt8.ofNat a.toNat,?_⟩;rw [e0,byte_of (by omega)]
 congr 1
 omega
theorem GB.bytes {v : Value} {d : DataW H} (h : GB enc W 29 [v] d) :
  ∃ (A : Option Addr) (n c : Nat) (bs : List UInt8),v = .slice A n c ∧ Reads W W.heap.size 1 A n (Lib.byteCells bs) ∧ n ≤ 1048576 ∧ bs.length = n:=by
 rcases GB.slice Tryz.underlying29 (by rw [cellsU8];omega) h with rfl | ⟨a,len,cap,D,cs,rfl,hl,hn,hb,hi⟩
 ·exact ⟨none,0,0,[],rfl,⟨by simp [Lib.byteCells],fun h => absurd h (by simp)⟩,by omega,rfl⟩
 ·rw [cellsU8] at hi
  have hex : ∀ i,∃ x : UInt8,i < len → cs i = [.int .u8 (x.toNat : Int)]:=by
   intro i
   by_cases hil : i < len
   ·obtain ⟨hc1,_,hg⟩:=hi i hil
    obtain ⟨c0,e⟩:=list1 hc1;rw [e] at hg;obtain ⟨x,rfl⟩:=GB.byte hg;exact ⟨x,fun _ => e⟩
   ·exact ⟨0,fun h => absurd h hil⟩
  obtain ⟨f,hf⟩:=Classical.axiomOfChoice hex;have hr:=reads_elems (W:=W) (C:=1) (a:=a) (cs:=cs) hb (fun i hi' => (hi i hi').1) (fun i hi' => (hi i hi').2.1)
  have e : Lib.byteCells ((List.range len).map f) = (List.range len).flatMap cs:=by
   unfold Lib.byteCells;rw [List.map_map];have : (List.range len).flatMap cs = (List.range len).flatMap fun i => [Value.int .u8 ((f i).toNat : Int)]:=flat_congr fun i hi' => hf i (by simpa using hi')
   rw [this,flat_one]
   rfl
  refine ⟨some a,len,cap,(List.range len).map f,rfl,?_,hn,by simp⟩;rw [e];exact hr
theorem GB.intL {v : Value} {d : DataW H} (h : GB enc W 22 [v] d) :
  ∃ (A : Option Addr) (n c : Nat) (xs : List Int),v = .slice A n c ∧ RI W W.heap.size A n xs ∧ n ≤ 1048576 ∧ ∀ x ∈ xs,I64 x:=by
 rcases GB.slice Tryz.underlying22 (by rw [cellsInt];omega) h with rfl | ⟨a,len,cap,D,cs,rfl,hl,hn,hb,hi⟩
 ·exact ⟨none,0,0,[],rfl,⟨by simp [ints],fun h => absurd h (by simp)⟩,by omega,fun x hx => by cases hx⟩
 ·rw [cellsInt] at hi
  have hex : ∀ i,∃ x : Int,i < len → cs i = [.int .i64 x] ∧ I64 x:=by
   intro i
   by_cases hil : i < len
   ·obtain ⟨hc1,_,hg⟩:=hi i hil
    obtain ⟨c0,e⟩:=list1 hc1;rw [e] at hg;obtain ⟨x,rfl,hx⟩:=GB.int Tryz.underlying3 hg;exact ⟨x,fun _ => ⟨e,hx⟩⟩
   ·exact ⟨0,fun h => absurd h hil⟩
  obtain ⟨f,hf⟩:=Classical.axiomOfChoice hex;have hr:=reads_elems (W:=W) (C:=1) (a:=a) (cs:=cs) hb (fun i hi' => (hi i hi').1) (fun i hi' => (hi i hi').2.1)
  have e : ints ((List.range len).map f) = (List.range len).flatMap cs:=by
   unfold ints;rw [List.map_map];have : (List.range len).flatMap cs = (List.range len).flatMap fun i => [Value.int .i64 (f i)]:=flat_congr fun i hi' => (hf i (by simpa using hi')).1
   rw [this,flat_one]
   rfl
  refine ⟨some a,len,cap,(List.range len).map f,rfl,?_,hn,fun x hx => by
   obtain ⟨i,hi',rfl⟩:=List.mem_map.1 hx;exact (hf i (by simpa using hi')).2⟩
  show Reads _ _ _ _ _ (ints _);rw [e];exact hr
theorem list13 {α : Type} {l : List α} (h : l.length = 13) : ∃ c0 c1 c2 c3 c4 c5 c6 c7 c8 c9 c10 c11 c12,l = [c0,c1,c2,c3,c4,c5,c6,c7,c8,c9,c10,c11,c12]:=by
 match l,h with
 | [c0,c1,c2,c3,c4,c5,c6,c7,c8,c9,c10,c11,c12],_ => exact ⟨c0,c1,c2,c3,c4,c5,c6,c7,c8,c9,c10,c11,c12,rfl⟩
theorem GB.event {cs : List Value} {d : DataW H} (hl : cs.length = 13) (h : GB enc W 33 cs d) : ∃ m : Em,cs = m.cs.toList ∧ EmIn W W.heap.size m ∧ EvOk m:=by
 obtain ⟨c0,c1,c2,c3,c4,c5,c6,c7,c8,c9,c10,c11,c12,rfl⟩:=list13 hl;obtain ⟨_,g0⟩:=GB.fld Tryz.underlying33 h 0 3 0 1 ⟨_,rfl,rfl,rfl⟩ cellsInt;obtain ⟨_,g1⟩:=GB.fld Tryz.underlying33 h 1 3 1 1 ⟨_,rfl,rfl,rfl⟩ cellsInt;obtain ⟨_,g2⟩:=GB.fld Tryz.underlying33 h 2 3 2 1 ⟨_,rfl,rfl,rfl⟩ cellsInt;obtain ⟨_,g3⟩:=GB.fld Tryz.underlying33 h 3 3 3 1 ⟨_,rfl,rfl,rfl⟩ cellsInt;obtain ⟨_,g4⟩:=GB.fld Tryz.underlying33 h 4 29 4 1 ⟨_,rfl,rfl,rfl⟩ cellsBs;obtain ⟨_,g5⟩:=GB.fld Tryz.underlying33 h 5 31 5 7 ⟨_,rfl,rfl,rfl⟩ cellsCm;obtain ⟨_,g6⟩:=GB.fld Tryz.underlying33 h 6 22 12 1 ⟨_,rfl,rfl,rfl⟩ cellsIs;simp only [List.drop_zero,List.drop_succ_cons,List.take_succ_cons,List.take_zero] at g0 g1 g2 g3 g4 g5 g6;obtain ⟨_,q0⟩:=GB.fld Tryz.underlying31 g5 0 3 0 1 ⟨_,rfl,rfl,rfl⟩ cellsInt;obtain ⟨_,q1⟩:=GB.fld Tryz.underlying31 g5 1 3 1 1 ⟨_,rfl,rfl,rfl⟩ cellsInt;obtain ⟨_,q2⟩:=GB.fld Tryz.underlying31 g5 2 3 2 1 ⟨_,rfl,rfl,rfl⟩ cellsInt;obtain ⟨_,q3⟩:=GB.fld Tryz.underlying31 g5 3 3 3 1 ⟨_,rfl,rfl,rfl⟩ cellsInt;obtain ⟨_,q4⟩:=GB.fld Tryz.underlying31 g5 4 9 4 1 ⟨_,rfl,rfl,rfl⟩ cellsStr;obtain ⟨_,q5⟩:=GB.fld Tryz.underlying31 g5 5 9 5 1 ⟨_,rfl,rfl,rfl⟩ cellsStr;obtain ⟨_,q6⟩:=GB.fld Tryz.underlying31 g5 6 9 6 1 ⟨_,rfl,rfl,rfl⟩ cellsStr;simp only [List.drop_zero,List.drop_succ_cons,List.take_succ_cons,List.take_zero] at q0 q1 q2 q3 q4 q5 q6;obtain ⟨kd,rfl,hkd⟩:=GB.int Tryz.underlying3 g0;obtain ⟨a,rfl,ha⟩:=GB.int Tryz.underlying3 g1;obtain ⟨b,rfl,hb⟩:=GB.int Tryz.underlying3 g2;obtain ⟨n,rfl,hn⟩:=GB.int Tryz.underlying3 g3;obtain ⟨Ab,nb,cb,bd,rfl,hb1,hb2,hb3⟩:=GB.bytes g4;obtain ⟨cl,rfl,hcl⟩:=GB.int Tryz.underlying3 q0;obtain ⟨cn,rfl,hcn⟩:=GB.int Tryz.underlying3 q1;obtain ⟨rq,rfl,hrq⟩:=GB.int Tryz.underlying3 q2;obtain ⟨op,rfl,hop⟩:=GB.int Tryz.underlying3 q3;obtain ⟨key,rfl,hkey⟩:=GB.str q4;obtain ⟨val,rfl,hval⟩:=GB.str q5;obtain ⟨old,rfl,hold⟩:=GB.str q6;obtain ⟨As,ns,cs',sd,rfl,hs1,hs2,hs3⟩:=GB.intL g6;exact ⟨⟨kd,a,b,n,Ab,nb,cb,bd,cl,cn,rq,op,key,val,old,As,ns,cs',sd⟩,rfl,⟨hs1,hb1,by show ns ≤ _;omega,by show nb ≤ _;omega⟩,⟨ha,hb,hn,hs3,hop,⟨hs2,hb2,hkey,hval,hold⟩⟩⟩
theorem GB.thing {cs : List Value} {d : DataW H} (hl : cs.length = 14) (h : GB enc W 35 cs d) : ∃ (m : Em) (nodes : Int),cs = (m.th nodes).toList ∧ EmIn W W.heap.size m ∧ EvOk m:=by
 obtain ⟨_,g0⟩:=GB.fld Tryz.underlying35 h 0 33 0 13 ⟨_,rfl,rfl,rfl⟩ cellsEv;obtain ⟨_,g1⟩:=GB.fld Tryz.underlying35 h 1 3 13 1 ⟨_,rfl,rfl,rfl⟩ cellsInt;obtain ⟨x,hx⟩:=list1 (l:=(cs.drop 13).take 1) (by simp;omega);rw [hx] at g1;obtain ⟨k,rfl,_⟩:=GB.int Tryz.underlying3 g1;obtain ⟨m,hm,h1,h2⟩:=GB.event (cs:=(cs.drop 0).take 13) (by simp;omega) g0;refine ⟨m,k,?_,h1,h2⟩
 have e1 : cs = cs.take 13 ++ (cs.drop 13).take 1:=by
  rw [List.take_of_length_le (l:=cs.drop 13) (by simp;omega),List.take_append_drop]
 rw [List.drop_zero] at hm;rw [e1,hm,hx];unfold Em.th;rw [Array.toList_push]
end
section
variable {H : Type} {enc : TypeId × Value → H} {W : World}
theorem cellsCf : Tryz.prog.cellsOf 24 = 8:=by kernel_rfl
theorem cellsEs : Tryz.prog.cellsOf 25 = 1:=by kernel_rfl
theorem cellsSc : Tryz.prog.cellsOf 27 = 9:=by kernel_rfl
theorem list9 {α : Type} {l : List α} (h : l.length = 9) : ∃ c0 c1 c2 c3 c4 c5 c6 c7 c8,l = [c0,c1,c2,c3,c4,c5,c6,c7,c8]:=by
 match l,h with
 | [c0,c1,c2,c3,c4,c5,c6,c7,c8],_ => exact ⟨c0,c1,c2,c3,c4,c5,c6,c7,c8,rfl⟩
theorem GB.events {v : Value} {d : DataW H} (h : GB enc W 25 [v] d) :
  ∃ (A : Option Addr) (n c : Nat) (ms : List Em),v = .slice A n c ∧ Reads W W.heap.size 13 A n (emCells ms) ∧ n ≤ 1048576 ∧ ms.length = n ∧ ∀ m ∈ ms,EmIn W W.heap.size m ∧ EvOk m:=by
 rcases GB.slice Tryz.underlying25 (by rw [cellsEv];omega) h with rfl | ⟨a,len,cap,D,cs,rfl,hl,hn,hb,hi⟩
 ·exact ⟨none,0,0,[],rfl,⟨by simp [emCells],fun h => absurd h (by simp)⟩,by omega,rfl,fun m hm => by cases hm⟩
 ·rw [cellsEv] at hi
  have hex : ∀ i,∃ m : Em,i < len → cs i = m.cs.toList ∧ EmIn W W.heap.size m ∧ EvOk m:=by
   intro i
   by_cases hil : i < len
   ·obtain ⟨hc1,_,hg⟩:=hi i hil
    obtain ⟨m,h1,h2,h3⟩:=GB.event hc1 hg;exact ⟨m,fun _ => ⟨h1,h2,h3⟩⟩
   ·exact ⟨Em.zero,fun h => absurd h hil⟩
  obtain ⟨f,hf⟩:=Classical.axiomOfChoice hex;have hr:=reads_elems (W:=W) (C:=13) (a:=a) (cs:=cs) hb (fun i hi' => (hi i hi').1) (fun i hi' => (hi i hi').2.1)
  have e : emCells ((List.range len).map f) = (List.range len).flatMap cs:=by
   unfold emCells;rw [List.flatMap_map];exact (flat_congr fun i hi' => (hf i (by simpa using hi')).1).symm
  refine ⟨some a,len,cap,(List.range len).map f,rfl,?_,hn,by simp,fun m hm => by
   obtain ⟨i,hi',rfl⟩:=List.mem_map.1 hm;exact (hf i (by simpa using hi')).2⟩
  rw [e];exact hr
theorem GB.script {cs : List Value} {d : DataW H} (hl : cs.length = 9) (h : GB enc W 27 cs d) :
  ∃ s : Sm,cs = s.cs.toList ∧ SmIn W W.heap.size s ∧ s.c.votes.length ≤ 1048576 ∧ s.ms.length ≤ 1048576 ∧ ∀ m ∈ s.ms,EvOk m:=by
 obtain ⟨c0,c1,c2,c3,c4,c5,c6,c7,c8,rfl⟩:=list9 hl;obtain ⟨_,q⟩:=GB.fld Tryz.underlying27 h 0 24 0 8 ⟨_,rfl,rfl,rfl⟩ cellsCf;obtain ⟨_,g8⟩:=GB.fld Tryz.underlying27 h 1 25 8 1 ⟨_,rfl,rfl,rfl⟩ cellsEs;simp only [List.drop_zero,List.drop_succ_cons,List.take_succ_cons,List.take_zero] at q g8;obtain ⟨_,q0⟩:=GB.fld Tryz.underlying24 q 0 3 0 1 ⟨_,rfl,rfl,rfl⟩ cellsInt;obtain ⟨_,q1⟩:=GB.fld Tryz.underlying24 q 1 3 1 1 ⟨_,rfl,rfl,rfl⟩ cellsInt;obtain ⟨_,q2⟩:=GB.fld Tryz.underlying24 q 2 3 2 1 ⟨_,rfl,rfl,rfl⟩ cellsInt;obtain ⟨_,q3⟩:=GB.fld Tryz.underlying24 q 3 3 3 1 ⟨_,rfl,rfl,rfl⟩ cellsInt;obtain ⟨_,q4⟩:=GB.fld Tryz.underlying24 q 4 3 4 1 ⟨_,rfl,rfl,rfl⟩ cellsInt;obtain ⟨_,q5⟩:=GB.fld Tryz.underlying24 q 5 3 5 1 ⟨_,rfl,rfl,rfl⟩ cellsInt;obtain ⟨_,q6⟩:=GB.fld Tryz.underlying24 q 6 3 6 1 ⟨_,rfl,rfl,rfl⟩ cellsInt;obtain ⟨_,q7⟩:=GB.fld Tryz.underlying24 q 7 22 7 1 ⟨_,rfl,rfl,rfl⟩ cellsIs;simp only [List.drop_zero,List.drop_succ_cons,List.take_succ_cons,List.take_zero] at q0 q1 q2 q3 q4 q5 q6 q7;obtain ⟨n0,rfl,_⟩:=GB.int Tryz.underlying3 q0;obtain ⟨n1,rfl,_⟩:=GB.int Tryz.underlying3 q1;obtain ⟨n2,rfl,_⟩:=GB.int Tryz.underlying3 q2;obtain ⟨n3,rfl,_⟩:=GB.int Tryz.underlying3 q3;obtain ⟨n4,rfl,_⟩:=GB.int Tryz.underlying3 q4;obtain ⟨n5,rfl,_⟩:=GB.int Tryz.underlying3 q5;obtain ⟨n6,rfl,_⟩:=GB.int Tryz.underlying3 q6;obtain ⟨A,n,k,vs,rfl,hr,hn,hi⟩:=GB.intL q7;obtain ⟨Ae,ne,ke,ms,rfl,hre,hne,hml,hms⟩:=GB.events g8;have hvl : vs.length = n:=RI.len hr;subst hml;subst hvl;exact ⟨⟨⟨n0,n1,n2,n3,n4,n5,n6,vs⟩,A,k,Ae,ke,ms⟩,rfl,⟨hr,hre,fun m hm => (hms m hm).1,by show vs.length ≤ _;omega,by show ms.length ≤ _;omega⟩,hn,hne,fun m hm => (hms m hm).2⟩
end
end Go.Proofs.YtcibcmfaebbhnaaGreatDoor
