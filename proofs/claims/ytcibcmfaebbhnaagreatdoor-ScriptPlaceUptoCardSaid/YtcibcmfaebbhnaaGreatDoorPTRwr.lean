/-
  Contracts of counted (program) and counts (reference): are all of them counts? A mark in memory. Writable, program and reference: a mark whose first numbers are none. (Printed by wip/tools/mkwr.py.) The program's writable. The reference's Writable. (Printed by wip/tools/mkrwr.py.)
-/
import Derived.Test.YtcibcmfaebbhnaaGreatDoorPTPrt
import Derived.Test.YtcibcmfaebbhnaaGreatDoorPHdr
import Derived.Test.YtcibcmfaebbhnaaGreatDoorPBln
set_option linter.unusedSimpArgs false
set_option linter.unusedVariables false
set_option maxRecDepth 100000
set_option maxHeartbeats 4000000

namespace Go.Proofs.YtcibcmfaebbhnaaGreatDoor.Tr
open Go.RowKit Go.WideShapes Go.ChangeShapes Q
def okC (x : Int) : Bool:=decide (0 ≤ x ∧ x ≤ 4611686018427387904)
def cntB (xs : List Int) : Bool:=xs.all okC
theorem cntB_no {xs : List Int} {k : Nat} (hk : k < xs.length) (h : okC (nth xs k) = false) : cntB xs = false:=by
 unfold cntB;rw [List.all_eq_false];refine ⟨xs[k],List.getElem_mem hk,?_⟩;have : nth xs k = xs[k]:=by simp [nth,hk]
 rw [this] at h;simp [h]
theorem cntB_yes {xs : List Int} (h : ∀ k,k < xs.length → okC (nth xs k) = true) : cntB xs = true:=by
 unfold cntB;rw [List.all_eq_true];intro x hx;obtain ⟨k,hk,rfl⟩:=List.getElem_of_mem hx;have:=h k hk;simpa [nth,hk] using this
theorem counted_any (A : Option Addr) (B n c : Nat) (xs : List Int) (w : World) (h : RI w B A n xs) (hn : n ≤ 17592186044416) :
  Calls Tryz.prog 53 #[.slice A n c] w fun e w' => e = .returned (.bool (cntB xs)) ∧ w = w':=by
 have HL:=hide h.len;have HR:=hide h;clear h;go_enter Tryz.func53,Tryz.ntmps53;go_upto_region 2 with fail
 go_loop [4,7] (fun _ i => ∃ k : Nat,k ≤ n ∧ i = .int .i64 k ∧ Hid (∀ j,j < k → okC (nth xs j) = true)) (fun _ i => n - (intOf i).toNat)
 case atStart => exact ⟨0,Nat.zero_le _,rfl,fun j hj => absurd hj (by omega)⟩
 case round =>
  obtain ⟨k,hk,rfl,hok⟩:=hrel
  by_cases hlt : k < n
  ·obtain ⟨ad,rfl,hab,hc⟩:=RI.at_ HR.out hlt
   obtain ⟨x,hx⟩ : ∃ x,x = nth xs k:=⟨_,rfl⟩;rw [← hx] at hc;have HX:=hide hx;have k0 : (0 : Int) ≤ (k : Int):=by omega
   have kn : (k : Int) < (n : Int):=by omega
   have hkl : k < xs.length:=by have:=HL.out;omega
   clear hx
   by_cases h1 : x < 0
   ·have d1 : decide (x < 0) = true:=decide_eq_true h1
    have HF : Hid (cntB xs = false):=cntB_no hkl (by rw [← HX.out];exact decide_eq_false (by omega));go_wp2_with fail;go_ret;exact ⟨by rw [HF.out];rfl,rfl⟩
   ·have d1 : decide (x < 0) = false:=decide_eq_false h1
    by_cases h2 : 4611686018427387904 < x
    ·have d2 : decide (4611686018427387904 < x) = true:=decide_eq_true h2
     have HF : Hid (cntB xs = false):=cntB_no hkl (by rw [← HX.out];exact decide_eq_false (by omega));go_wp2_with fail;go_ret;exact ⟨by rw [HF.out];rfl,rfl⟩
    ·have d2 : decide (4611686018427387904 < x) = false:=decide_eq_false h2
     have HOK : Hid (∀ j,j < k + 1 → okC (nth xs j) = true):=fun j hj => by
      by_cases e : j = k
      ·subst e
       rw [← HX.out];exact decide_eq_true (by omega)
      ·exact hok.out j (by omega)
     go_wp2_with fail;go_round
     case rel => exact ⟨k + 1,by omega,by go_num,HOK⟩
     case measure => simp [intOf];omega
  ·have hkn : k = n:=by omega
   have kn : ¬ (k : Int) < (n : Int):=by omega
   have HF : Hid (cntB xs = true):=cntB_yes fun j hj => hok.out j (by have:=HL.out;omega)
   clear hlt;go_wp2_with fail;go_ret;exact ⟨by rw [HF.out];rfl,rfl⟩
theorem counts_any (A : Option Addr) (B n c : Nat) (xs : List Int) (w : World) (h : RI w B A n xs) (hn : n ≤ 17592186044416) :
  Calls Tryz.prog 65 #[.slice A n c] w fun e w' => e = .returned (.bool (cntB xs)) ∧ w = w':=by
 have HL:=hide h.len;have HR:=hide h;clear h;go_enter Tryz.func65,Tryz.ntmps65;go_upto_region 2 with fail
 go_loop [3] (fun i => ∃ k : Nat,k ≤ n ∧ i = .int .i64 k ∧ Hid (∀ j,j < k → okC (nth xs j) = true)) (fun i => n - (intOf i).toNat)
 case atStart => exact ⟨0,Nat.zero_le _,rfl,fun j hj => absurd hj (by omega)⟩
 case round =>
  obtain ⟨k,hk,rfl,hok⟩:=hrel
  by_cases hlt : k < n
  ·obtain ⟨ad,rfl,hab,hc⟩:=RI.at_ HR.out hlt
   obtain ⟨x,hx⟩ : ∃ x,x = nth xs k:=⟨_,rfl⟩;rw [← hx] at hc;have HX:=hide hx;have k0 : (0 : Int) ≤ (k : Int):=by omega
   have kn : (k : Int) < (n : Int):=by omega
   have hkl : k < xs.length:=by have:=HL.out;omega
   clear hx
   by_cases h1 : x < 0
   ·have d1 : decide (x < 0) = true:=decide_eq_true h1
    have HF : Hid (cntB xs = false):=cntB_no hkl (by rw [← HX.out];exact decide_eq_false (by omega));go_wp2_with fail;go_ret;exact ⟨by rw [HF.out];rfl,rfl⟩
   ·have d1 : decide (x < 0) = false:=decide_eq_false h1
    by_cases h2 : 4611686018427387904 < x
    ·have d2 : decide (4611686018427387904 < x) = true:=decide_eq_true h2
     have HF : Hid (cntB xs = false):=cntB_no hkl (by rw [← HX.out];exact decide_eq_false (by omega));go_wp2_with fail;go_ret;exact ⟨by rw [HF.out];rfl,rfl⟩
    ·have d2 : decide (4611686018427387904 < x) = false:=decide_eq_false h2
     have HOK : Hid (∀ j,j < k + 1 → okC (nth xs j) = true):=fun j hj => by
      by_cases e : j = k
      ·subst e
       rw [← HX.out];exact decide_eq_true (by omega)
      ·exact hok.out j (by omega)
     go_wp2_with fail;go_round
     case rel => exact ⟨k + 1,by omega,by go_num,HOK⟩
     case measure => simp [intOf];omega
  ·have hkn : k = n:=by omega
   have kn : ¬ (k : Int) < (n : Int):=by omega
   have HF : Hid (cntB xs = true):=cntB_yes fun j hj => hok.out j (by have:=HL.out;omega)
   clear hlt;go_wp2_with fail;go_ret;exact ⟨by rw [HF.out];rfl,rfl⟩
def pidA (l : List (Int × Int × Int)) (k : Nat) : Int:=(l.getD k (0,0,0)).1
def incA (l : List (Int × Int × Int)) (k : Nat) : Int:=(l.getD k (0,0,0)).2.1
def cidA (l : List (Int × Int × Int)) (k : Nat) : Int:=(l.getD k (0,0,0)).2.2
def sts (l : List (Int × Int × Int)) : List Value:=l.flatMap fun s => [.int .i64 s.1,.int .i64 s.2.1,.int .i64 s.2.2]
def RS (w : World) (B : Nat) (A : Option Addr) (n : Nat) (l : List (Int × Int × Int)) : Prop:=Reads w B 3 A n (sts l)
theorem sts_len (l : List (Int × Int × Int)) : (sts l).length = l.length * 3:=by
 induction l with
 | nil => rfl
 | cons a l ih => simp [sts] at ih ⊢;omega
theorem sts_at : ∀ (l : List (Int × Int × Int)) (k : Nat),k < l.length → (sts l)[k * 3]? = some (.int .i64 (pidA l k)) ∧ (sts l)[k * 3 + 1]? = some (.int .i64 (incA l k)) ∧ (sts l)[k * 3 + 2]? = some (.int .i64 (cidA l k))
 | [],k,h => absurd h (by simp)
 | a :: l,0,h => by simp [sts,pidA,incA,cidA]
 | a :: l,k + 1,h => by
  have ih:=sts_at l k (by simpa using h);have e : sts (a :: l) = [.int .i64 a.1,.int .i64 a.2.1,.int .i64 a.2.2] ++ sts l:=rfl
  have f : ∀ j,(sts (a :: l))[(k + 1) * 3 + j]? = (sts l)[k * 3 + j]?:=fun j => by
   rw [e,List.getElem?_append_right (by simp;omega)]
   congr 1
   simp;omega
  have f0:=f 0;simp only [Nat.add_zero] at f0;rw [f0,f 1,f 2];exact ih
theorem RS.len {w : World} {B n : Nat} {A : Option Addr} {l : List (Int × Int × Int)} (h : RS w B A n l) : l.length = n:=by
 have:=h.1;rw [sts_len] at this;omega
theorem RS.at_ {w : World} {B n k : Nat} {A : Option Addr} {l : List (Int × Int × Int)} (h : RS w B A n l) (hk : k < n) :
  ∃ b off,A = some ⟨b,off,none⟩ ∧ b < B ∧ w.cell? ⟨b,off + k * 3,none⟩ = some (.int .i64 (pidA l k)) ∧ w.cell? ⟨b,off + k * 3 + 1,none⟩ = some (.int .i64 (incA l k)) ∧ w.cell? ⟨b,off + k * 3 + 2,none⟩ = some (.int .i64 (cidA l k)):=by
 obtain ⟨ad,e,hb,hc⟩:=h.2 (by omega);have hl:=h.len;obtain ⟨h0,h1,h2⟩:=sts_at l k (by omega);have c0:=hc _ _ h0;have c1:=hc _ _ h1;have c2:=hc _ _ h2;obtain ⟨b,off,spot⟩:=ad
 have hs : spot = none:=by
  have:=World.cell?_spot (hc 0 _ (sts_at l 0 (by omega)).1);simpa [Addr.add] using this
 subst hs
 have ea : ∀ m,(⟨b,off,none⟩ : Addr).add m = ⟨b,off + m,none⟩:=fun m => by
  unfold Addr.add
  split
  ·rename_i h0;subst h0;rfl
  ·rfl
 rw [ea] at c0 c1 c2;exact ⟨b,off,e,hb,c0,c1,c2⟩
def flat (l : List (Int × Int × Int)) : List Int:=l.flatMap fun s => [s.1,s.2.1,s.2.2]
structure Mk where
 (aT kd nd ic ep ld ii ci : Int)
 Am : Option Addr
 (nm cm : Nat)
 ms : List (Int × Int × Int)
 At : Option Addr
 (nt ct : Nat)
 ts : List Int
 (se sq po n : Int)
 Ab : Option Addr
 (nb cb : Nat)
 bd : List UInt8
 (cl cn rq op : Int)
 (key val old : ByteArray)
 co : Int
 rv : ByteArray
 (rn er : Int)
def Mk.cs (m : Mk) : Array Value:=#[.int .i64 m.aT,.int .i64 m.kd,.int .i64 m.nd,.int .i64 m.ic,.int .i64 m.ep,.int .i64 m.ld,.int .i64 m.ii,.int .i64 m.ci,.slice m.Am m.nm m.cm,.slice m.At m.nt m.ct,
 .int .i64 m.se,.int .i64 m.sq,.int .i64 m.po,.int .i64 m.n,.slice m.Ab m.nb m.cb,.int .i64 m.cl,.int .i64 m.cn,.int .i64 m.rq,.int .i64 m.op,.string m.key,.string m.val,.string m.old,
 .int .i64 m.co,.string m.rv,.int .i64 m.rn,.int .i64 m.er]
def Mk.v (m : Mk) : Value:=.agg m.cs
def Mk.ns (m : Mk) : List Int:=[m.aT,m.nd,m.ic,m.ep,m.ld,m.ii,m.ci,m.se,m.sq,m.po,m.n,m.cl,m.cn,m.rq,m.op,m.co]
structure MkIn (w : World) (B : Nat) (m : Mk) : Prop where
 mem : RS w B m.Am m.nm m.ms
 tr : RI w B m.At m.nt m.ts
 body : Reads w B 1 m.Ab m.nb (Lib.byteCells m.bd)
 hm : m.nm ≤ 10000000
 ht : m.nt ≤ 10000000
 hb : m.nb ≤ 100000000
theorem MkIn.below {w w' : World} {B : Nat} {m : Mk} (h : MkIn w B m) (hb : Below B w w') : MkIn w' B m:=⟨h.mem.below hb,Reads.below h.tr hb,h.body.below hb,h.hm,h.ht,h.hb⟩
theorem MkIn.more {w : World} {B B' : Nat} {m : Mk} (h : MkIn w B m) (hB : B ≤ B') : MkIn w B' m:=⟨h.mem.more hB,Reads.more h.tr hB,h.body.more hB,h.hm,h.ht,h.hb⟩
def wrB (m : Mk) : Bool:=decide (1 ≤ m.kd ∧ m.kd ≤ 16 ∧ -4611686018427387904 ≤ m.rn ∧ m.rn ≤ 4611686018427387904 ∧ 0 ≤ m.er ∧ m.er ≤ 999) && cntB (flat m.ms) && cntB m.ns && cntB m.ts
theorem wr_first (m : Mk) (w : World) (h : ¬ (1 ≤ m.kd ∧ m.kd ≤ 16 ∧ -4611686018427387904 ≤ m.rn ∧ m.rn ≤ 4611686018427387904 ∧ 0 ≤ m.er ∧ m.er ≤ 999)) :
  Calls Tryz.prog 34 #[m.v] w fun e w' => e = .returned (.bool (wrB m)) ∧ Below w.heap.size w w':=by
 have HF : Hid (wrB m = false):=by
  show _ = _;unfold wrB;rw [decide_eq_false h]
  rfl
 have HH:=hide h;obtain ⟨aT,kd,nd,ic,ep,ld,ii,ci,Am,nm,cm,ms,At,nt,ct,ts,se,sq,po,n,Ab,nb,cb,bd,cl,cn,rq,op,key,val,old,co,rv,rn,er⟩:=m;simp only [Mk.v,Mk.cs] at HH ⊢;clear h
 by_cases d0 : kd < 1
 ·have e0 : decide (kd < 1) = true:=decide_eq_true d0
  go_enter Tryz.func34,Tryz.ntmps34;go_wp2_with fail;go_ret;exact ⟨by rw [HF.out];rfl,(Below.refl _ _).alloc (Nat.le_refl _) _⟩
 have e0 : decide (kd < 1) = false:=decide_eq_false d0
 by_cases d1 : 17 ≤ kd
 ·have e1 : decide (17 ≤ kd) = true:=decide_eq_true d1
  go_enter Tryz.func34,Tryz.ntmps34;go_wp2_with fail;go_ret;exact ⟨by rw [HF.out];rfl,(Below.refl _ _).alloc (Nat.le_refl _) _⟩
 have e1 : decide (17 ≤ kd) = false:=decide_eq_false d1
 by_cases d2 : rn < -4611686018427387904
 ·have e2 : decide (rn < -4611686018427387904) = true:=decide_eq_true d2
  go_enter Tryz.func34,Tryz.ntmps34;go_wp2_with fail;go_ret;exact ⟨by rw [HF.out];rfl,(Below.refl _ _).alloc (Nat.le_refl _) _⟩
 have e2 : decide (rn < -4611686018427387904) = false:=decide_eq_false d2
 by_cases d3 : 4611686018427387904 < rn
 ·have e3 : decide (4611686018427387904 < rn) = true:=decide_eq_true d3
  go_enter Tryz.func34,Tryz.ntmps34;go_wp2_with fail;go_ret;exact ⟨by rw [HF.out];rfl,(Below.refl _ _).alloc (Nat.le_refl _) _⟩
 have e3 : decide (4611686018427387904 < rn) = false:=decide_eq_false d3
 by_cases d4 : er < 0
 ·have e4 : decide (er < 0) = true:=decide_eq_true d4
  go_enter Tryz.func34,Tryz.ntmps34;go_wp2_with fail;go_ret;exact ⟨by rw [HF.out];rfl,(Below.refl _ _).alloc (Nat.le_refl _) _⟩
 have e4 : decide (er < 0) = false:=decide_eq_false d4
 by_cases d5 : 999 < er
 ·have e5 : decide (999 < er) = true:=decide_eq_true d5
  go_enter Tryz.func34,Tryz.ntmps34;go_wp2_with fail;go_ret;exact ⟨by rw [HF.out];rfl,(Below.refl _ _).alloc (Nat.le_refl _) _⟩
 have e5 : decide (999 < er) = false:=decide_eq_false d5;exact absurd (show 1 ≤ kd ∧ kd ≤ 16 ∧ -4611686018427387904 ≤ rn ∧ rn ≤ 4611686018427387904 ∧ 0 ≤ er ∧ er ≤ 999 by omega) HH.out
theorem rwr_first (m : Mk) (w : World) (h : ¬ (1 ≤ m.kd ∧ m.kd ≤ 16 ∧ -4611686018427387904 ≤ m.rn ∧ m.rn ≤ 4611686018427387904 ∧ 0 ≤ m.er ∧ m.er ≤ 999)) :
  Calls Tryz.prog 43 #[m.v] w fun e w' => e = .returned (.bool (wrB m)) ∧ Below w.heap.size w w':=by
 have HF : Hid (wrB m = false):=by
  show _ = _;unfold wrB;rw [decide_eq_false h]
  rfl
 have HH:=hide h;obtain ⟨aT,kd,nd,ic,ep,ld,ii,ci,Am,nm,cm,ms,At,nt,ct,ts,se,sq,po,n,Ab,nb,cb,bd,cl,cn,rq,op,key,val,old,co,rv,rn,er⟩:=m;simp only [Mk.v,Mk.cs] at HH ⊢;clear h
 by_cases d0 : kd < 1
 ·have e0 : decide (kd < 1) = true:=decide_eq_true d0
  go_enter Tryz.func43,Tryz.ntmps43;go_wp2_with fail;go_ret;exact ⟨by rw [HF.out];rfl,(Below.refl _ _).alloc (Nat.le_refl _) _⟩
 have e0 : decide (kd < 1) = false:=decide_eq_false d0
 by_cases d1 : 16 < kd
 ·have e1 : decide (16 < kd) = true:=decide_eq_true d1
  go_enter Tryz.func43,Tryz.ntmps43;go_wp2_with fail;go_ret;exact ⟨by rw [HF.out];rfl,(Below.refl _ _).alloc (Nat.le_refl _) _⟩
 have e1 : decide (16 < kd) = false:=decide_eq_false d1
 by_cases d2 : rn < -4611686018427387904
 ·have e2 : decide (rn < -4611686018427387904) = true:=decide_eq_true d2
  go_enter Tryz.func43,Tryz.ntmps43;go_wp2_with fail;go_ret;exact ⟨by rw [HF.out];rfl,(Below.refl _ _).alloc (Nat.le_refl _) _⟩
 have e2 : decide (rn < -4611686018427387904) = false:=decide_eq_false d2
 by_cases d3 : 4611686018427387904 < rn
 ·have e3 : decide (4611686018427387904 < rn) = true:=decide_eq_true d3
  go_enter Tryz.func43,Tryz.ntmps43;go_wp2_with fail;go_ret;exact ⟨by rw [HF.out];rfl,(Below.refl _ _).alloc (Nat.le_refl _) _⟩
 have e3 : decide (4611686018427387904 < rn) = false:=decide_eq_false d3
 by_cases d4 : er < 0
 ·have e4 : decide (er < 0) = true:=decide_eq_true d4
  go_enter Tryz.func43,Tryz.ntmps43;go_wp2_with fail;go_ret;exact ⟨by rw [HF.out];rfl,(Below.refl _ _).alloc (Nat.le_refl _) _⟩
 have e4 : decide (er < 0) = false:=decide_eq_false d4
 by_cases d5 : 999 < er
 ·have e5 : decide (999 < er) = true:=decide_eq_true d5
  go_enter Tryz.func43,Tryz.ntmps43;go_wp2_with fail;go_ret;exact ⟨by rw [HF.out];rfl,(Below.refl _ _).alloc (Nat.le_refl _) _⟩
 have e5 : decide (999 < er) = false:=decide_eq_false d5;exact absurd (show 1 ≤ kd ∧ kd ≤ 16 ∧ -4611686018427387904 ≤ rn ∧ rn ≤ 4611686018427387904 ∧ 0 ≤ er ∧ er ≤ 999 by omega) HH.out
theorem flatm_at {l : List (Int × Int × Int)} {k : Nat} (hk : k < l.length) (h : cntB [pidA l k,incA l k,cidA l k] = false) : cntB (flat l) = false:=by
 unfold cntB flat at *;rw [List.all_eq_false] at h ⊢;obtain ⟨x,hx,h⟩:=h;refine ⟨x,?_,h⟩;rw [List.mem_flatMap];refine ⟨l[k],List.getElem_mem hk,?_⟩;simpa [pidA,incA,cidA,hk] using hx
theorem flatm_all {l : List (Int × Int × Int)} (h : ∀ k,k < l.length → cntB [pidA l k,incA l k,cidA l k] = true) : cntB (flat l) = true:=by
 unfold cntB flat at *;rw [List.all_eq_true];intro x hx;rw [List.mem_flatMap] at hx;obtain ⟨s,hs,hx⟩:=hx;obtain ⟨k,hk,rfl⟩:=List.getElem_of_mem hs;have:=h k hk;rw [List.all_eq_true] at this;refine this x ?_;simpa [pidA,incA,cidA,hk] using hx
theorem writable_any (m : Mk) (w : World) (hm : MkIn w w.heap.size m) :
  Calls Tryz.prog 34 #[m.v] w fun e w' => e = .returned (.bool (wrB m)) ∧ Below w.heap.size w w':=by
 by_cases h : 1 ≤ m.kd ∧ m.kd ≤ 16 ∧ -4611686018427387904 ≤ m.rn ∧ m.rn ≤ 4611686018427387904 ∧ 0 ≤ m.er ∧ m.er ≤ 999
 ·have HF : Hid (wrB m = (cntB (flat m.ms) && cntB m.ns && cntB m.ts)):=by
   show _ = _;unfold wrB;rw [decide_eq_true h]
   rfl
  have HM:=hide hm;have HB0 : Hid (Blk (w.alloc (.cells m.cs 51)) w.heap.size 51 m.cs):=Blk.new _ _ _;have HW0 : Hid (Below w.heap.size w (w.alloc (.cells m.cs 51))):=(Below.refl _ _).alloc (Nat.le_refl _) _;obtain ⟨aT,kd,nd,ic,ep,ld,ii,ci,Am,nm,cm,ms,At,nt,ct,ts,se,sq,po,n,Ab,nb,cb,bd,cl,cn,rq,op,key,val,old,co,rv,rn,er⟩:=m;simp only [Mk.v,Mk.cs,Mk.ns] at h HF HB0 HW0 ⊢;have hmm:=HM.out.mem;have hnm:=HM.out.hm;simp only at hmm hnm;have HMM:=hide hmm;have hml:=hide hmm.len;have e0 : decide (kd < 1) = false:=decide_eq_false (by omega);have e1 : decide (17 ≤ kd) = false:=decide_eq_false (by omega);have e2 : decide (rn < -4611686018427387904) = false:=decide_eq_false (by omega);have e3 : decide (4611686018427387904 < rn) = false:=decide_eq_false (by omega);have e4 : decide (er < 0) = false:=decide_eq_false (by omega);have e5 : decide (999 < er) = false:=decide_eq_false (by omega);clear h hm hmm;go_enter Tryz.func34,Tryz.ntmps34;go_upto_region 4 with fail
  go_loopw [38] (fun i wr => ∃ k : Nat,k ≤ nm ∧ i = .int .i64 k ∧ Hid (∀ j,j < k → cntB [pidA ms j,incA ms j,cidA ms j] = true) ∧ Hid (Below w.heap.size w wr) ∧ Hid (Blk wr w.heap.size 51 #[.int .i64 aT,.int .i64 kd,.int .i64 nd,.int .i64 ic,.int .i64 ep,.int .i64 ld,.int .i64 ii,.int .i64 ci,.slice Am nm cm,.slice At nt ct,.int .i64 se,.int .i64 sq,.int .i64 po,.int .i64 n,.slice Ab nb cb,.int .i64 cl,.int .i64 cn,.int .i64 rq,.int .i64 op,.string key,.string val,.string old,.int .i64 co,.string rv,.int .i64 rn,.int .i64 er])) (fun i _ => nm - (intOf i).toNat)
  case atStart => exact ⟨0,Nat.zero_le _,rfl,fun j hj => absurd hj (by omega),HW0.out,HB0.out⟩
  case round =>
   obtain ⟨k,hk,rfl,hall,hb,hblk⟩:=hrel;clear HW0 HB0;have hsb : w.heap.size ≤ wr.heap.size:=hb.out.size
   by_cases hlt : k < nm
   ·obtain ⟨b,off,rfl,hbB,q0,q1,q2⟩:=RS.at_ (Reads.below HMM.out hb.out) hlt
    have k0 : (0 : Int) ≤ (k : Int):=by omega
    have kn : (k : Int) < (nm : Int):=by omega
    obtain ⟨x,hx⟩ : ∃ x,x = pidA ms k:=⟨_,rfl⟩;obtain ⟨y,hy⟩ : ∃ y,y = incA ms k:=⟨_,rfl⟩;obtain ⟨z,hz⟩ : ∃ z,z = cidA ms k:=⟨_,rfl⟩;rw [← hx] at q0;rw [← hy] at q1;rw [← hz] at q2;have HX:=hide hx;have HY:=hide hy;have HZ:=hide hz;clear hx hy hz
    have HCN : Hid (Calls Tryz.prog 53 #[.slice (some ⟨wr.heap.size + 1,0,none⟩) 3 3] ((wr.alloc (.cells #[.int .i64 x,.int .i64 y,.int .i64 z] 84)).alloc (.cells #[.int .i64 x,.int .i64 y,.int .i64 z] 3)) fun e w' => e = .returned (.bool (cntB [x,y,z])) ∧ ((wr.alloc (.cells #[.int .i64 x,.int .i64 y,.int .i64 z] 84)).alloc (.cells #[.int .i64 x,.int .i64 y,.int .i64 z] 3)) = w'):=by
     have ho:=own_of_alloc (wr.alloc (.cells #[.int .i64 x,.int .i64 y,.int .i64 z] 84)) 3 (ints [x,y,z]) 3 rfl (by unfold maxLen;omega);rw [show (wr.alloc (.cells #[.int .i64 x,.int .i64 y,.int .i64 z] 84)).heap.size = wr.heap.size + 1 by simp] at ho;exact counted_any _ _ 3 3 [x,y,z] _ (Reads.of_own ho) (by omega)
    have HBA : Hid (Below w.heap.size w ((wr.alloc (.cells #[.int .i64 x,.int .i64 y,.int .i64 z] 84)).alloc (.cells #[.int .i64 x,.int .i64 y,.int .i64 z] 3))):=(hb.out.alloc hsb _).alloc (by simp;omega) _;have HBL : Hid (Blk ((wr.alloc (.cells #[.int .i64 x,.int .i64 y,.int .i64 z] 84)).alloc (.cells #[.int .i64 x,.int .i64 y,.int .i64 z] 3)) w.heap.size 51 _):=(hblk.out.alloc _).alloc _;have hkl : k < ms.length:=by have:=hml.out;omega
    cases hcb : cntB [x,y,z] with
    | false =>
     have HF2 : Hid (cntB (flat ms) = false):=flatm_at hkl (by rw [← HX.out,← HY.out,← HZ.out];exact hcb);rw [hcb] at HCN;clear hcb;go_wp2_with (go_at_call 53;refine HCN.out.mono ?_;rintro e w' ⟨rfl,rfl⟩);go_ret;exact ⟨by rw [HF.out,HF2.out];rfl,HBA.out⟩
    | true =>
     have HALL : Hid (∀ j,j < k + 1 → cntB [pidA ms j,incA ms j,cidA ms j] = true):=fun j hj => by
      by_cases e : j = k
      ·subst e
       rw [← HX.out,← HY.out,← HZ.out];exact hcb
      ·exact hall.out j (by omega)
     rw [hcb] at HCN;clear hcb;go_wp2_with (go_at_call 53;refine HCN.out.mono ?_;rintro e w' ⟨rfl,rfl⟩);go_roundw
     case rel => exact ⟨k + 1,by omega,by go_num,HALL,HBA,HBL⟩
     case measure => simp [intOf];omega
   ·obtain hkn : k = nm:=by omega
    have kn : ¬ (k : Int) < (nm : Int):=by omega
    have HF2 : Hid (cntB (flat ms) = true):=flatm_all fun j hj => hall.out j (by have:=hml.out;omega)
    have HC16 : Hid (Calls Tryz.prog 53 #[.slice (some ⟨wr.heap.size,0,none⟩) 16 16] (wr.alloc (.cells #[.int .i64 aT,.int .i64 nd,.int .i64 ic,.int .i64 ep,.int .i64 ld,.int .i64 ii,.int .i64 ci,.int .i64 se,.int .i64 sq,.int .i64 po,.int .i64 n,.int .i64 cl,.int .i64 cn,.int .i64 rq,.int .i64 op,.int .i64 co] 3)) fun e w' => e = .returned (.bool (cntB [aT,nd,ic,ep,ld,ii,ci,se,sq,po,n,cl,cn,rq,op,co])) ∧ (wr.alloc (.cells #[.int .i64 aT,.int .i64 nd,.int .i64 ic,.int .i64 ep,.int .i64 ld,.int .i64 ii,.int .i64 ci,.int .i64 se,.int .i64 sq,.int .i64 po,.int .i64 n,.int .i64 cl,.int .i64 cn,.int .i64 rq,.int .i64 op,.int .i64 co] 3)) = w'):=by
     have ho:=own_of_alloc wr 3 (ints [aT,nd,ic,ep,ld,ii,ci,se,sq,po,n,cl,cn,rq,op,co]) 16 rfl (by unfold maxLen;omega);exact counted_any _ _ 16 16 [aT,nd,ic,ep,ld,ii,ci,se,sq,po,n,cl,cn,rq,op,co] _ (Reads.of_own ho) (by omega)
    have HBA : Hid (Below w.heap.size w (wr.alloc (.cells #[.int .i64 aT,.int .i64 nd,.int .i64 ic,.int .i64 ep,.int .i64 ld,.int .i64 ii,.int .i64 ci,.int .i64 se,.int .i64 sq,.int .i64 po,.int .i64 n,.int .i64 cl,.int .i64 cn,.int .i64 rq,.int .i64 op,.int .i64 co] 3))):=hb.out.alloc hsb _;have htr:=HM.out.tr;have hnt:=HM.out.ht;simp only at htr hnt;have HCT : Hid (Calls Tryz.prog 53 #[.slice At nt ct] (wr.alloc (.cells #[.int .i64 aT,.int .i64 nd,.int .i64 ic,.int .i64 ep,.int .i64 ld,.int .i64 ii,.int .i64 ci,.int .i64 se,.int .i64 sq,.int .i64 po,.int .i64 n,.int .i64 cl,.int .i64 cn,.int .i64 rq,.int .i64 op,.int .i64 co] 3)) fun e w' => e = .returned (.bool (cntB ts)) ∧ (wr.alloc (.cells #[.int .i64 aT,.int .i64 nd,.int .i64 ic,.int .i64 ep,.int .i64 ld,.int .i64 ii,.int .i64 ci,.int .i64 se,.int .i64 sq,.int .i64 po,.int .i64 n,.int .i64 cl,.int .i64 cn,.int .i64 rq,.int .i64 op,.int .i64 co] 3)) = w'):=counted_any At _ nt ct ts _ (Reads.below htr HBA.out) (by omega);have c0 : wr.cell? ⟨w.heap.size,0,none⟩ = some (.int .i64 aT):=by have:=hblk.out.cell 0;simpa using this
    have c2 : wr.cell? ⟨w.heap.size,2,none⟩ = some (.int .i64 nd):=by have:=hblk.out.cell 2;simpa using this
    have c3 : wr.cell? ⟨w.heap.size,3,none⟩ = some (.int .i64 ic):=by have:=hblk.out.cell 3;simpa using this
    have c4 : wr.cell? ⟨w.heap.size,4,none⟩ = some (.int .i64 ep):=by have:=hblk.out.cell 4;simpa using this
    have c5 : wr.cell? ⟨w.heap.size,5,none⟩ = some (.int .i64 ld):=by have:=hblk.out.cell 5;simpa using this
    have c6 : wr.cell? ⟨w.heap.size,6,none⟩ = some (.int .i64 ii):=by have:=hblk.out.cell 6;simpa using this
    have c7 : wr.cell? ⟨w.heap.size,7,none⟩ = some (.int .i64 ci):=by have:=hblk.out.cell 7;simpa using this
    have c9 : wr.cell? ⟨w.heap.size,9,none⟩ = some (.slice At nt ct):=by have:=hblk.out.cell 9;simpa using this
    have c10 : wr.cell? ⟨w.heap.size,10,none⟩ = some (.int .i64 se):=by have:=hblk.out.cell 10;simpa using this
    have c11 : wr.cell? ⟨w.heap.size,11,none⟩ = some (.int .i64 sq):=by have:=hblk.out.cell 11;simpa using this
    have c12 : wr.cell? ⟨w.heap.size,12,none⟩ = some (.int .i64 po):=by have:=hblk.out.cell 12;simpa using this
    have c13 : wr.cell? ⟨w.heap.size,13,none⟩ = some (.int .i64 n):=by have:=hblk.out.cell 13;simpa using this
    have c15 : wr.cell? ⟨w.heap.size,15,none⟩ = some (.int .i64 cl):=by have:=hblk.out.cell 15;simpa using this
    have c16 : wr.cell? ⟨w.heap.size,16,none⟩ = some (.int .i64 cn):=by have:=hblk.out.cell 16;simpa using this
    have c17 : wr.cell? ⟨w.heap.size,17,none⟩ = some (.int .i64 rq):=by have:=hblk.out.cell 17;simpa using this
    have c18 : wr.cell? ⟨w.heap.size,18,none⟩ = some (.int .i64 op):=by have:=hblk.out.cell 18;simpa using this
    have c22 : wr.cell? ⟨w.heap.size,22,none⟩ = some (.int .i64 co):=by have:=hblk.out.cell 22;simpa using this
    have c9a : (wr.alloc (.cells #[.int .i64 aT,.int .i64 nd,.int .i64 ic,.int .i64 ep,.int .i64 ld,.int .i64 ii,.int .i64 ci,.int .i64 se,.int .i64 sq,.int .i64 po,.int .i64 n,.int .i64 cl,.int .i64 cn,.int .i64 rq,.int .i64 op,.int .i64 co] 3)).cell? ⟨w.heap.size,9,none⟩ = some (.slice At nt ct):=by have:=(hblk.out.alloc (.cells #[.int .i64 aT,.int .i64 nd,.int .i64 ic,.int .i64 ep,.int .i64 ld,.int .i64 ii,.int .i64 ci,.int .i64 se,.int .i64 sq,.int .i64 po,.int .i64 n,.int .i64 cl,.int .i64 cn,.int .i64 rq,.int .i64 op,.int .i64 co] 3)).cell 9;simpa using this
    clear hlt htr;obtain ⟨b1,hb1⟩ : ∃ b1,b1 = cntB [aT,nd,ic,ep,ld,ii,ci,se,sq,po,n,cl,cn,rq,op,co]:=⟨_,rfl⟩;obtain ⟨b2,hb2⟩ : ∃ b2,b2 = cntB ts:=⟨_,rfl⟩;rw [← hb1] at HC16 HF;rw [← hb2] at HCT HF;clear hb1 hb2
    cases b1 <;> cases b2
    all_goals
     go_wp2_with (first | (go_at_call 53;(with_reducible refine HC16.out.mono ?_);rintro e w' ⟨rfl,rfl⟩) | (go_at_call 53;(with_reducible refine HCT.out.mono ?_);rintro e w' ⟨rfl,rfl⟩));go_ret;exact ⟨by rw [HF.out,HF2.out];rfl,HBA.out⟩
 ·exact wr_first m w h
theorem flat_snoc {l : List (Int × Int × Int)} {k : Nat} (hk : k < l.length) : flat (l.take (k + 1)) = flat (l.take k) ++ [pidA l k,incA l k,cidA l k]:=by
 unfold flat;rw [List.take_succ_eq_append_getElem hk,List.flatMap_append];simp [pidA,incA,cidA,hk]
theorem ints_app (a b : List Int) : ints (a ++ b) = ints a ++ ints b:=by simp [ints]
theorem ints_one' (l : List Int) : ∀ u ∈ ints l,u.oneCell' = true:=by
 intro u hu;obtain ⟨x,_,rfl⟩:=List.mem_map.1 hu
 rfl
theorem cntB_app (a b : List Int) : cntB (a ++ b) = (cntB a && cntB b):=by simp [cntB]
theorem rwritable_any (m : Mk) (w : World) (hm : MkIn w w.heap.size m) :
  Calls Tryz.prog 43 #[m.v] w fun e w' => e = .returned (.bool (wrB m)) ∧ Below w.heap.size w w':=by
 by_cases h : 1 ≤ m.kd ∧ m.kd ≤ 16 ∧ -4611686018427387904 ≤ m.rn ∧ m.rn ≤ 4611686018427387904 ∧ 0 ≤ m.er ∧ m.er ≤ 999
 ·have HF : Hid (wrB m = (cntB (flat m.ms) && cntB m.ns && cntB m.ts)):=by
   show _ = _;unfold wrB;rw [decide_eq_true h]
   rfl
  have HM:=hide hm;have HB0 : Hid (Blk (w.alloc (.cells m.cs 51)) w.heap.size 51 m.cs):=Blk.new _ _ _;have HW0 : Hid (Below w.heap.size w (w.alloc (.cells m.cs 51))):=(Below.refl _ _).alloc (Nat.le_refl _) _;obtain ⟨aT,kd,nd,ic,ep,ld,ii,ci,Am,nm,cm,ms,At,nt,ct,ts,se,sq,po,n,Ab,nb,cb,bd,cl,cn,rq,op,key,val,old,co,rv,rn,er⟩:=m;simp only [Mk.v,Mk.cs,Mk.ns] at h HF HB0 HW0 ⊢;have hmm:=HM.out.mem;have hnm:=HM.out.hm;have htr:=HM.out.tr;have hnt:=HM.out.ht;simp only at hmm hnm htr hnt;have HMM:=hide hmm;have HTR:=hide htr;have hml:=hide hmm.len;have htl:=hide (RI.len htr);have e0 : decide (kd < 1) = false:=decide_eq_false (by omega);have e1 : decide (16 < kd) = false:=decide_eq_false (by omega);have e2 : decide (rn < -4611686018427387904) = false:=decide_eq_false (by omega);have e3 : decide (4611686018427387904 < rn) = false:=decide_eq_false (by omega);have e4 : decide (er < 0) = false:=decide_eq_false (by omega);have e5 : decide (999 < er) = false:=decide_eq_false (by omega);obtain ⟨i3,hi3,hz3,hs3,hb3⟩:=info_parts info3;have I3:=hide hi3
  have HO0 : Hid (((w.alloc (.cells #[.int .i64 aT,.int .i64 kd,.int .i64 nd,.int .i64 ic,.int .i64 ep,.int .i64 ld,.int .i64 ii,.int .i64 ci,.slice Am nm cm,.slice At nt ct,.int .i64 se,.int .i64 sq,.int .i64 po,.int .i64 n,.slice Ab nb cb,.int .i64 cl,.int .i64 cn,.int .i64 rq,.int .i64 op,.string key,.string val,.string old,.int .i64 co,.string rv,.int .i64 rn,.int .i64 er] 51)).alloc (.cells #[.int .i64 aT,.int .i64 nd,.int .i64 ic,.int .i64 ep,.int .i64 ld,.int .i64 ii,.int .i64 ci,.int .i64 se,.int .i64 sq,.int .i64 po,.int .i64 n,.int .i64 cl,.int .i64 cn,.int .i64 rq,.int .i64 op,.int .i64 co] 3)).ownsRow (w.heap.size + 1) 3 1 (.slice (some ⟨w.heap.size + 1,0,none⟩) 16 16) 16 (ints [aT,nd,ic,ep,ld,ii,ci,se,sq,po,n,cl,cn,rq,op,co])):=by
   have ho:=own_of_alloc (w.alloc (.cells #[.int .i64 aT,.int .i64 kd,.int .i64 nd,.int .i64 ic,.int .i64 ep,.int .i64 ld,.int .i64 ii,.int .i64 ci,.slice Am nm cm,.slice At nt ct,.int .i64 se,.int .i64 sq,.int .i64 po,.int .i64 n,.slice Ab nb cb,.int .i64 cl,.int .i64 cn,.int .i64 rq,.int .i64 op,.string key,.string val,.string old,.int .i64 co,.string rv,.int .i64 rn,.int .i64 er] 51)) 3 (ints [aT,nd,ic,ep,ld,ii,ci,se,sq,po,n,cl,cn,rq,op,co]) 16 rfl (by unfold maxLen;omega);rw [show (w.alloc (.cells #[.int .i64 aT,.int .i64 kd,.int .i64 nd,.int .i64 ic,.int .i64 ep,.int .i64 ld,.int .i64 ii,.int .i64 ci,.slice Am nm cm,.slice At nt ct,.int .i64 se,.int .i64 sq,.int .i64 po,.int .i64 n,.slice Ab nb cb,.int .i64 cl,.int .i64 cn,.int .i64 rq,.int .i64 op,.string key,.string val,.string old,.int .i64 co,.string rv,.int .i64 rn,.int .i64 er] 51)).heap.size = w.heap.size + 1 by simp] at ho;exact ho
  have HW1 : Hid (Below w.heap.size w ((w.alloc (.cells #[.int .i64 aT,.int .i64 kd,.int .i64 nd,.int .i64 ic,.int .i64 ep,.int .i64 ld,.int .i64 ii,.int .i64 ci,.slice Am nm cm,.slice At nt ct,.int .i64 se,.int .i64 sq,.int .i64 po,.int .i64 n,.slice Ab nb cb,.int .i64 cl,.int .i64 cn,.int .i64 rq,.int .i64 op,.string key,.string val,.string old,.int .i64 co,.string rv,.int .i64 rn,.int .i64 er] 51)).alloc (.cells #[.int .i64 aT,.int .i64 nd,.int .i64 ic,.int .i64 ep,.int .i64 ld,.int .i64 ii,.int .i64 ci,.int .i64 se,.int .i64 sq,.int .i64 po,.int .i64 n,.int .i64 cl,.int .i64 cn,.int .i64 rq,.int .i64 op,.int .i64 co] 3))):=HW0.out.alloc (by simp) _;have HB1 : Hid (Blk ((w.alloc (.cells #[.int .i64 aT,.int .i64 kd,.int .i64 nd,.int .i64 ic,.int .i64 ep,.int .i64 ld,.int .i64 ii,.int .i64 ci,.slice Am nm cm,.slice At nt ct,.int .i64 se,.int .i64 sq,.int .i64 po,.int .i64 n,.slice Ab nb cb,.int .i64 cl,.int .i64 cn,.int .i64 rq,.int .i64 op,.string key,.string val,.string old,.int .i64 co,.string rv,.int .i64 rn,.int .i64 er] 51)).alloc (.cells #[.int .i64 aT,.int .i64 nd,.int .i64 ic,.int .i64 ep,.int .i64 ld,.int .i64 ii,.int .i64 ci,.int .i64 se,.int .i64 sq,.int .i64 po,.int .i64 n,.int .i64 cl,.int .i64 cn,.int .i64 rq,.int .i64 op,.int .i64 co] 3)) w.heap.size 51 #[.int .i64 aT,.int .i64 kd,.int .i64 nd,.int .i64 ic,.int .i64 ep,.int .i64 ld,.int .i64 ii,.int .i64 ci,.slice Am nm cm,.slice At nt ct,.int .i64 se,.int .i64 sq,.int .i64 po,.int .i64 n,.slice Ab nb cb,.int .i64 cl,.int .i64 cn,.int .i64 rq,.int .i64 op,.string key,.string val,.string old,.int .i64 co,.string rv,.int .i64 rn,.int .i64 er]):=HB0.out.alloc _;clear h hm hmm hi3 htr HB0 HW0;go_enter Tryz.func43,Tryz.ntmps43;go_upto_region 5 with fail
  go_loopw [3,4] (fun v i wr => ∃ (k : Nat) (A : Option Addr) (c : Nat),k ≤ nm ∧ i = .int .i64 k ∧ v = .slice A (16 + 3 * k) c ∧ Hid (wr.ownsRow (w.heap.size + 1) 3 1 (.slice A (16 + 3 * k) c) (16 + 3 * k) (ints ([aT,nd,ic,ep,ld,ii,ci,se,sq,po,n,cl,cn,rq,op,co] ++ flat (ms.take k)))) ∧ Hid (Below w.heap.size w wr) ∧ Hid (Blk wr w.heap.size 51 #[.int .i64 aT,.int .i64 kd,.int .i64 nd,.int .i64 ic,.int .i64 ep,.int .i64 ld,.int .i64 ii,.int .i64 ci,.slice Am nm cm,.slice At nt ct,.int .i64 se,.int .i64 sq,.int .i64 po,.int .i64 n,.slice Ab nb cb,.int .i64 cl,.int .i64 cn,.int .i64 rq,.int .i64 op,.string key,.string val,.string old,.int .i64 co,.string rv,.int .i64 rn,.int .i64 er])) (fun _ i _ => nm - (intOf i).toNat)
  case atStart => exact ⟨0,_,_,Nat.zero_le _,rfl,rfl,HO0.out,HW1.out,HB1.out⟩
  case round =>
   obtain ⟨k,A,c,hk,rfl,rfl,hown,hb,hblk⟩:=hrel;clear HO0 HW1 HB1;have hsb : w.heap.size + 1 ≤ wr.heap.size:=hblk.out.lt;have c8 : wr.cell? ⟨w.heap.size,8,none⟩ = some (.slice Am nm cm):=by have:=hblk.out.cell 8;simpa using this
   have c9 : wr.cell? ⟨w.heap.size,9,none⟩ = some (.slice At nt ct):=by have:=hblk.out.cell 9;simpa using this
   by_cases hlt : k < nm
   ·obtain ⟨b,off,rfl,hbB,q0,q1,q2⟩:=RS.at_ (Reads.below HMM.out hb.out) hlt
    have k0 : (0 : Int) ≤ (k : Int):=by omega
    have kn : (k : Int) < (nm : Int):=by omega
    obtain ⟨x,hx⟩ : ∃ x,x = pidA ms k:=⟨_,rfl⟩;obtain ⟨y,hy⟩ : ∃ y,y = incA ms k:=⟨_,rfl⟩;obtain ⟨z,hz⟩ : ∃ z,z = cidA ms k:=⟨_,rfl⟩;have HFS:=hide (flat_snoc (l:=ms) (k:=k) (by have:=hml.out;omega));rw [← hx,← hy,← hz] at HFS;rw [← hx] at q0;rw [← hy] at q1;rw [← hz] at q2;have HBX:=hblk.out.lt;clear hx hy hz;go_upto_region 7 with fail
    go_region_held3 (fun W => W.cell? ⟨w.heap.size,8,none⟩ = some (.slice (some ⟨b,off,none⟩) nm cm) ∧ W.cell? ⟨b,off + k * 3,none⟩ = some (.int .i64 x) ∧ W.cell? ⟨b,off + k * 3 + 1,none⟩ = some (.int .i64 y) ∧ W.cell? ⟨b,off + k * 3 + 2,none⟩ = some (.int .i64 z))
     (first | exact ⟨c8,q0,q1,q2⟩ | exact ⟨(World.cell?_alloc_lt wr _ _ HBX).trans c8,(World.cell?_alloc_lt wr _ _ (by show b < _;omega)).trans q0,(World.cell?_alloc_lt wr _ _ (by show b < _;omega)).trans q1,(World.cell?_alloc_lt wr _ _ (by show b < _;omega)).trans q2⟩ | exact hS7)
     ((refine step_push _ (by rfl) (.tmp 84) (.tmp 103) _ (by rfl) (w.heap.size + 1) 3 i3 _ 1 8 Tryz.underlying22 I3.out hz3 hs3 hb3 (by rfl) (by omega) (.slice A (16 + 3 * k) c) (16 + 3 * k) (ints ([aT,nd,ic,ep,ld,ii,ci,se,sq,po,n,cl,cn,rq,op,co] ++ flat (ms.take k))) (by rfl) ?_ wr.heap.size 3 3 #[.int .i64 x,.int .i64 y,.int .i64 z] (by rfl) ?_ (by rfl) ?_ (by omega) ?_ ?_ ?_ ?_;exact hown.out.alloc _;exact Blk.new wr _ _;(intro u hu;simp at hu;rcases hu with rfl | rfl | rfl <;> rfl);(unfold maxLen;omega);omega;(simp;omega);intro g7 c7 w7 hown7 hgr7 _ _;have hL7:=(hb.out.alloc (show w.heap.size ≤ wr.heap.size by omega) (.cells #[.int .i64 x,.int .i64 y,.int .i64 z] 3)).drew.grown hgr7 (by simp;omega) (fun q hq => by have:=(hown.out.lt q hq).1;omega);have hB7:=Blk.grown (Blk.drew (hblk.out.alloc (.cells #[.int .i64 x,.int .i64 y,.int .i64 z] 3))) hgr7 (own_ne hown.out hblk.out (by decide));have HL7:=hide hL7;have HB7:=hide hB7;have HO7:=hide hown7;have hS7 : w7.cell? ⟨w.heap.size,8,none⟩ = some (.slice (some ⟨b,off,none⟩) nm cm) ∧ w7.cell? ⟨b,off + k * 3,none⟩ = some (.int .i64 x) ∧ w7.cell? ⟨b,off + k * 3 + 1,none⟩ = some (.int .i64 y) ∧ w7.cell? ⟨b,off + k * 3 + 2,none⟩ = some (.int .i64 z):=⟨by have:=hB7.cell 8;simpa using this,((hL7.cell (p:=⟨b,off + k * 3,none⟩) hbB).trans (hb.out.cell (p:=⟨b,off + k * 3,none⟩) hbB).symm).trans q0,((hL7.cell (p:=⟨b,off + k * 3 + 1,none⟩) hbB).trans (hb.out.cell (p:=⟨b,off + k * 3 + 1,none⟩) hbB).symm).trans q1,((hL7.cell (p:=⟨b,off + k * 3 + 2,none⟩) hbB).trans (hb.out.cell (p:=⟨b,off + k * 3 + 2,none⟩) hbB).symm).trans q2⟩;clear hL7 hB7 hown7))
    all_goals
     have HO8 : Hid (w7.ownsRow (w.heap.size + 1) 3 1 (.slice (some ⟨g7,0,none⟩) (16 + 3 * (k + 1)) c7) (16 + 3 * (k + 1)) (ints ([aT,nd,ic,ep,ld,ii,ci,se,sq,po,n,cl,cn,rq,op,co] ++ flat (ms.take (k + 1))))):=by
      rw [HFS.out,← List.append_assoc,ints_app,show 16 + 3 * (k + 1) = 16 + 3 * k + 3 by omega];exact HO7.out
     clear HO7;go_wp2_with fail;go_roundw
     case rel => exact ⟨k + 1,_,_,by omega,by go_num,rfl,HO8,HL7,HB7⟩
     case measure => simp [intOf];omega
   ·obtain hkn : k = nm:=by omega
    have kn : ¬ (k : Int) < (nm : Int):=by omega
    have hfl : ms.take k = ms:=List.take_of_length_le (by have:=hml.out;omega)
    have HON : Hid (wr.ownsRow (w.heap.size + 1) 3 1 (.slice A (16 + 3 * k) c) (16 + 3 * k) (ints ([aT,nd,ic,ep,ld,ii,ci,se,sq,po,n,cl,cn,rq,op,co] ++ flat ms))):=by
     have:=hown.out;rw [hfl] at this;exact this
    clear hlt hown hkn hfl
    go_wp2_with (first
     | (at_builtin;refine wpList_append_any _ rfl (.tmp 105) (.tmp 107) 22 rfl (w.heap.size + 1) 3 i3 _ 1 8 Tryz.underlying22 I3.out hz3 hs3 hb3 rfl (by omega) (.slice A (16 + 3 * k) c) (16 + 3 * k) _ rfl HON.out w.heap.size At nt ct (ints ts) rfl (Reads.below HTR.out hb.out) (ints_one' ts) (by unfold maxLen;omega) (by omega) hsb ?_;intro v7 w7 hown7 hgr7 _;obtain ⟨A7,c7,rfl,hrd7,_⟩:=own_slice hown7;have HCT : Hid (Calls Tryz.prog 65 #[.slice A7 (16 + 3 * k + nt) c7] w7 fun e w' => e = .returned (.bool (cntB ([aT,nd,ic,ep,ld,ii,ci,se,sq,po,n,cl,cn,rq,op,co] ++ flat ms ++ ts))) ∧ w7 = w'):=counts_any A7 _ _ c7 _ w7 (by have:=hrd7;rw [← ints_app] at this;exact this) (by omega);have HL7:=hide (hb.out.grown hgr7 (by omega) (fun q hq => by have:=(HON.out.lt q hq).1;omega));clear hown7 hgr7 hrd7)
     | (go_at_call 65;(with_reducible refine HCT.out.mono ?_);rintro e w' ⟨rfl,rfl⟩))
    go_ret;refine ⟨?_,HL7.out⟩;rw [HF.out];show Ending.returned (.bool (cntB ([aT,nd,ic,ep,ld,ii,ci,se,sq,po,n,cl,cn,rq,op,co] ++ flat ms ++ ts))) = _;rw [cntB_app,cntB_app,Bool.and_comm (cntB (flat ms))]
 ·exact rwr_first m w h
end Go.Proofs.YtcibcmfaebbhnaaGreatDoor.Tr
