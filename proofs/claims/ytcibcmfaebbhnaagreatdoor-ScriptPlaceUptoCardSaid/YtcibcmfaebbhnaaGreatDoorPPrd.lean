/-
  The program's reading, in memory: the words that are left, the nodes, the event so far.
-/
import Derived.Test.YtcibcmfaebbhnaaGreatDoorPBln
import Derived.Test.YtcibcmfaebbhnaaGreatDoorPEpf
set_option linter.unusedSimpArgs false
set_option linter.unusedVariables false
set_option maxRecDepth 100000
set_option maxHeartbeats 2000000

namespace Go.Proofs.YtcibcmfaebbhnaaGreatDoor
open Go.RowKit Go.WideShapes Go.ChangeShapes Q
def PWd (W : World) (A : Option Addr) (ws : List Wd) : Prop:=ws = [] ∨ ∃ g off C,A = some ⟨g,off,none⟩ ∧ Blk W g 159 C ∧ ∀ k d,ws[k]? = some d → C[off + k * 2]? = some (.string (S d.1)) ∧ C[off + k * 2 + 1]? = some (.bool d.2)
section
variable {W W' : World} {A : Option Addr} {ws : List Wd}
theorem PWd.apart {F : Nat → Prop} (h : PWd W A ws) (ho : Only F W W') (hF : Apart W F 159) : PWd W' A ws:=by
 rcases h with h | ⟨g,off,C,e,hb,hc⟩
 ·exact .inl h
 ·exact .inr ⟨g,off,C,e,hb.apart ho hF,hc⟩
theorem PWd.step (h : PWd W A ws) (hb : Below W.heap.size W W') : PWd W' A ws:=by
 rcases h with h | ⟨g,off,C,e,hg,hc⟩
 ·exact .inl h
 ·exact .inr ⟨g,off,C,e,hg.below hb hg.lt,hc⟩
theorem PWd.grown {base n s : Nat} {e : TypeId} {v : Value} {xs : List Value} (h : PWd W A ws) (h' : W.ownsRow base e s v n xs) (he : e ≠ 159) (hg : W.grownBy W' v.ownBlock) : PWd W' A ws:=by
 rcases h with h | ⟨g,off,C,e1,hb,hc⟩
 ·exact .inl h
 ·exact .inr ⟨g,off,C,e1,hb.grown hg (own_ne h' hb (fun e => he e.symm)),hc⟩
theorem PWd.tail {d : Wd} {n c : Nat} (h : PWd W A (d :: ws)) (hc : ws.length + 1 ≤ c) : ∃ g off,A = some ⟨g,off,none⟩ ∧ W.cell? ⟨g,off,none⟩ = some (.string (S d.1)) ∧ W.cell? ⟨g,off + 1,none⟩ = some (.bool d.2) ∧ PWd W (some ⟨g,off + 2,none⟩) ws ∧ (ws = [] → ∀ A',PWd W A' ws):=by
 rcases h with h | ⟨g,off,C,e,hb,hc⟩
 ·cases h
 ·refine ⟨g,off,e,?_,?_,?_,fun h A' => .inl h⟩
  ·rw [hb.cell]
   exact (hc 0 d rfl).1
  ·rw [hb.cell]
   exact (hc 0 d rfl).2
  ·refine .inr ⟨g,off + 2,C,rfl,hb,fun k d' hk => ?_⟩
   have:=hc (k + 1) d' hk;rw [show off + 2 + k * 2 = off + (k + 1) * 2 by omega];exact this
theorem PWd.of_own {base c : Nat} (h : W.ownsRow base 159 2 (.slice A ws.length c) ws.length (pwc ws)) : PWd W A ws:=by
 by_cases h0 : ws = []
 ·exact .inl h0
 ·rcases h.2 with ⟨hv,hn⟩ | ⟨g,cap,cur,hv,_,hg,_,_,hcur⟩
  ·exact absurd (List.length_eq_zero_iff.1 hn) h0
  ·injection hv with e1 e2 e3
   refine .inr ⟨g,0,cur,e1,hg,fun k d hk => ?_⟩;have h2:=two_at (f:=fun d => Value.string (S d.1)) (g:=fun d => Value.bool d.2) ws k d hk;have c0:=World.ownsRow.cells (g:=g) h (by rw [e1];rfl) (2 * k) _ h2.1;have c1:=World.ownsRow.cells (g:=g) h (by rw [e1];rfl) (2 * k + 1) _ h2.2
   have e : ∀ j,(⟨g,0,none⟩ : Addr).add j = ⟨g,j,none⟩:=fun j => by
    unfold Addr.add
    split
    ·rename_i h0;subst h0;rfl
    ·simp
   rw [e,Blk.cell (show Blk W g 159 cur from hg)] at c0 c1;rw [Nat.zero_add,show k * 2 = 2 * k by omega];exact ⟨c0,c1⟩
end
def rdC (A : Option Addr) (n c : Nat) (nodes : Int) (m : Em) : Array Value:=#[.slice A n c,.int .i64 nodes,.int .i64 m.kd,.int .i64 m.a,.int .i64 m.b,.int .i64 m.n,.slice m.Ab m.nb m.cb,.int .i64 m.cl,.int .i64 m.cn,.int .i64 m.rq,.int .i64 m.op,.string m.key,.string m.val,.string m.old,.slice m.As m.ns m.cs']
theorem rset_w (A A' : Option Addr) (n n' c c' : Nat) (nodes : Int) (m : Em) : (rdC A n c nodes m).setIfInBounds 0 (.slice A' n' c') = rdC A' n' c' nodes m:=rfl
structure Rd (W : World) (b r : Nat) (A : Option Addr) (c : Nat) (nodes : Int) (ws : List Wd) (m : Em) : Prop where
 box : Blk W r 126 (rdC A ws.length c nodes m)
 wds : PWd W A ws
 hc : ws.length ≤ c
 t : EmU W b m
 hr : b ≤ r
section
variable {W W' : World} {b r c c' : Nat} {A A' : Option Addr} {nodes : Int} {ws ws' : List Wd} {m m' : Em}
theorem Rd.bw (h : Rd W b r A c nodes ws m) : b ≤ W.heap.size:=Nat.le_of_lt (Nat.lt_of_le_of_lt h.hr h.box.lt)
theorem Rd.c0 (h : Rd W b r A c nodes ws m) : W.cell? ⟨r,0,none⟩ = some (.slice A ws.length c):=h.box.cell 0
theorem Rd.c1 (h : Rd W b r A c nodes ws m) : W.cell? ⟨r,1,none⟩ = some (.int .i64 nodes):=h.box.cell 1
theorem Rd.ck (h : Rd W b r A c nodes ws m) : W.cell? ⟨r,2,none⟩ = some (.int .i64 m.kd):=h.box.cell 2
theorem Rd.ca (h : Rd W b r A c nodes ws m) : W.cell? ⟨r,3,none⟩ = some (.int .i64 m.a):=h.box.cell 3
theorem Rd.cb (h : Rd W b r A c nodes ws m) : W.cell? ⟨r,4,none⟩ = some (.int .i64 m.b):=h.box.cell 4
theorem Rd.cn (h : Rd W b r A c nodes ws m) : W.cell? ⟨r,5,none⟩ = some (.int .i64 m.n):=h.box.cell 5
theorem Rd.cd (h : Rd W b r A c nodes ws m) : W.cell? ⟨r,6,none⟩ = some (.slice m.Ab m.nb m.cb):=h.box.cell 6
theorem Rd.co (h : Rd W b r A c nodes ws m) : W.cell? ⟨r,10,none⟩ = some (.int .i64 m.op):=h.box.cell 10
theorem Rd.cy (h : Rd W b r A c nodes ws m) : W.cell? ⟨r,11,none⟩ = some (.string m.key):=h.box.cell 11
theorem Rd.cv (h : Rd W b r A c nodes ws m) : W.cell? ⟨r,12,none⟩ = some (.string m.val):=h.box.cell 12
theorem Rd.cz (h : Rd W b r A c nodes ws m) : W.cell? ⟨r,13,none⟩ = some (.string m.old):=h.box.cell 13
theorem Rd.cs (h : Rd W b r A c nodes ws m) : W.cell? ⟨r,14,none⟩ = some (.slice m.As m.ns m.cs'):=h.box.cell 14
theorem Rd.ev (h : Rd W b r A c nodes ws m) : ∀ j v,m.cs[j]? = some v → W.cell? ((⟨r,2,none⟩ : Addr).add j) = some v:=by
 intro j v hv
 have hj : j < 13:=by
  have:=(Array.getElem?_eq_some_iff.1 hv).1;rw [em_size] at this;exact this
 have e2 : (⟨r,2,none⟩ : Addr).add j = ⟨r,2 + j,none⟩:=by
  unfold Addr.add
  split
  ·rename_i h0;subst h0;rfl
  ·rfl
 rw [e2,h.box.cell]
 match j,hj with
 | 0,_ => exact hv
 | 1,_ => exact hv
 | 2,_ => exact hv
 | 3,_ => exact hv
 | 4,_ => exact hv
 | 5,_ => exact hv
 | 6,_ => exact hv
 | 7,_ => exact hv
 | 8,_ => exact hv
 | 9,_ => exact hv
 | 10,_ => exact hv
 | 11,_ => exact hv
 | 12,_ => exact hv
theorem Rd.drew (h : Rd W b r A c nodes ws m) : Rd W.drew b r A c nodes ws m:=⟨h.box.drew,h.wds.step (below_drewN (Below.refl _ _) 1),h.hc,h.t.drew,h.hr⟩
theorem Rd.step (h : Rd W b r A c nodes ws m) (hb : Below W.heap.size W W') : Rd W' b r A c nodes ws m:=⟨h.box.below hb h.box.lt,h.wds.step hb,h.hc,h.t.step hb,h.hr⟩
theorem Rd.turn (h : Rd W b r A c nodes ws m) (ho : Only (fun q => q = r) W W') (hbox : Blk W' r 126 (rdC A' ws'.length c' nodes m')) (hw : PWd W A' ws') (hc : ws'.length ≤ c') (ht : EmU W b m') : Rd W' b r A' c' nodes ws' m':=by
 refine ⟨hbox,hw.apart ho ?_,hc,ht.far h.box (by decide) (by decide) ho,h.hr⟩;intro k hk hq;subst hq;exact ⟨_,_,h.box,by decide⟩
theorem Rd.set (h : Rd W b r A c nodes ws m) (i : Nat) (v : Value) (hc : (rdC A ws.length c nodes m).setIfInBounds i v = rdC A ws.length c nodes m') (ht : EmU W b m') : Rd (W.setCell ⟨r,i,none⟩ v) b r A c nodes ws m' :=
 h.turn (only_setCell0 _ _ _ _) (hc ▸ h.box.set_ i v) h.wds h.hc ht
theorem Rd.take {d : Wd} (h : Rd W b r A c nodes (d :: ws) m) (hw : PWd W A' ws) (hc : ws.length ≤ c') : Rd (W.setCell ⟨r,0,none⟩ (.slice A' ws.length c')) b r A' c' nodes ws m :=
 h.turn (only_setCell0 _ _ _ _) (by have:=h.box.set_ 0 (.slice A' ws.length c');rw [rset_w] at this;exact this) hw hc h.t
theorem Rd.low (h : Rd W b r A c nodes ws m) (ho : Only (fun q => q = r) W W') : Below b W W':=ho.below h.bw (fun q hq => by have:=h.hr;omega)
theorem emu_with (h : EmU W b m) (h1 : m'.As = m.As) (h2 : m'.ns = m.ns) (h3 : m'.cs' = m.cs') (h4 : m'.sd = m.sd) (h5 : m'.Ab = m.Ab) (h6 : m'.nb = m.nb) (h7 : m'.bd = m.bd) : EmU W b m' :=
 ⟨by rw [h1,h2,h3,h4];exact h.sid,by rw [h5,h6,h7];exact h.body,by rw [h2];exact h.hs,by rw [h6];exact h.hb⟩
end
theorem rset_k (A : Option Addr) (n c : Nat) (nodes : Int) (m : Em) (x : Int) : (rdC A n c nodes m).setIfInBounds 2 (.int .i64 x) = rdC A n c nodes { m with kd:=x }:=rfl
theorem rset_a (A : Option Addr) (n c : Nat) (nodes : Int) (m : Em) (x : Int) : (rdC A n c nodes m).setIfInBounds 3 (.int .i64 x) = rdC A n c nodes { m with a:=x }:=rfl
theorem rset_b (A : Option Addr) (n c : Nat) (nodes : Int) (m : Em) (x : Int) : (rdC A n c nodes m).setIfInBounds 4 (.int .i64 x) = rdC A n c nodes { m with b:=x }:=rfl
theorem rset_n (A : Option Addr) (n c : Nat) (nodes : Int) (m : Em) (x : Int) : (rdC A n c nodes m).setIfInBounds 5 (.int .i64 x) = rdC A n c nodes { m with n:=x }:=rfl
theorem rset_d (A : Option Addr) (n c : Nat) (nodes : Int) (m : Em) (B : Option Addr) (k e : Nat) (l : List UInt8) : (rdC A n c nodes m).setIfInBounds 6 (.slice B k e) = rdC A n c nodes { m with Ab:=B,nb:=k,cb:=e,bd:=l }:=rfl
theorem rset_o (A : Option Addr) (n c : Nat) (nodes : Int) (m : Em) (x : Int) : (rdC A n c nodes m).setIfInBounds 10 (.int .i64 x) = rdC A n c nodes { m with op:=x }:=rfl
theorem rset_y (A : Option Addr) (n c : Nat) (nodes : Int) (m : Em) (x : ByteArray) : (rdC A n c nodes m).setIfInBounds 11 (.string x) = rdC A n c nodes { m with key:=x }:=rfl
theorem rset_v (A : Option Addr) (n c : Nat) (nodes : Int) (m : Em) (x : ByteArray) : (rdC A n c nodes m).setIfInBounds 12 (.string x) = rdC A n c nodes { m with val:=x }:=rfl
theorem rset_z (A : Option Addr) (n c : Nat) (nodes : Int) (m : Em) (x : ByteArray) : (rdC A n c nodes m).setIfInBounds 13 (.string x) = rdC A n c nodes { m with old:=x }:=rfl
theorem rset_s (A : Option Addr) (n c : Nat) (nodes : Int) (m : Em) (B : Option Addr) (k e : Nat) (l : List Int) : (rdC A n c nodes m).setIfInBounds 14 (.slice B k e) = rdC A n c nodes { m with As:=B,ns:=k,cs':=e,sd:=l }:=rfl
def PlP (ws : List Wd) (b r : Nat) (nodes : Int) (m : Em) (w : World) (e : Ending) (w' : World) : Prop:=∃ (A : Option Addr) (c : Nat) (t : List UInt8) (ok : Bool) (ws' : List Wd),e = .returned (.tuple #[.string (S t),.bool ok]) ∧ Rd w' b r A c nodes ws' m ∧ Only (fun q => q = r) w w' ∧
 (ok = true → ws = (t,false) :: ws') ∧ (ok = false → t = [] ∧ ws' = ws ∧ ∀ d l,ws = d :: l → d.2 = true)
theorem plain_nil (b r : Nat) (A : Option Addr) (c : Nat) (nodes : Int) (m : Em) (w : World) (h : Rd w b r A c nodes [] m) :
  Calls Tryz.prog 63 #[.pointer (some ⟨r,0,none⟩)] w fun e w' => PlP [] b r nodes m w e w':=by
 have HR:=hide h;have c0:=h.c0;clear h;go_enter Tryz.func63,Tryz.ntmps63;go_wp2_with fail;refine bodyPost_ret (results_tmp2 rfl _ _ _) rfl ?_;exact ⟨A,c,[],false,[],rfl,HR.out,Only.refl _ _,(fun h => by cases h),fun _ => ⟨rfl,rfl,fun d l h => by cases h⟩⟩
theorem plain_cons (d : Wd) (ws : List Wd) (b r : Nat) (A : Option Addr) (c : Nat) (nodes : Int) (m : Em) (w : World) (h : Rd w b r A c nodes (d :: ws) m) (hl : ws.length ≤ 90000000) :
  Calls Tryz.prog 63 #[.pointer (some ⟨r,0,none⟩)] w fun e w' => PlP (d :: ws) b r nodes m w e w':=by
 have HR:=hide h;have c0:=h.c0;have f0:=Blk.frozen h.box 0;obtain ⟨g,off,rfl,k0,k1,hw,hw0⟩:=h.wds.tail (n:=0) h.hc;have HW:=hide hw;have HW0:=hide hw0;obtain ⟨n,hn⟩ : ∃ n,n = (d :: ws).length:=⟨_,rfl⟩;rw [← hn] at c0;have HN:=hide hn;have hnl : n = ws.length + 1:=by rw [hn];rfl
 have n0 : ((n : Int) == 0) = false:=by rw [beq_eq_false_iff_ne];omega
 have n1 : (0 : Int) < (n : Int):=by omega
 have n2 : (1 : Int) ≤ (n : Int):=by omega
 have hc : n ≤ c:=by rw [hn];exact h.hc
 have nc : (n : Int) ≤ (c : Int):=by omega
 have n3 : ((n : Int) - 1).toNat = ws.length:=by omega
 have hnn : n - 1 = ws.length:=by omega
 cases hq : d.2 with
 | true =>
  rw [hq] at k1;have HQ:=hide hq;clear h hw hw0 hn hq;go_enter Tryz.func63,Tryz.ntmps63;go_wp2_with fail;refine bodyPost_ret (results_tmp2 rfl _ _ _) rfl ?_;exact ⟨_,c,[],false,d :: ws,rfl,HR.out,Only.refl _ _,(fun h => by cases h),fun _ => ⟨rfl,rfl,fun d' l h => by injection h with h1 h2;subst h1;exact HQ.out⟩⟩
 | false =>
  rw [hq] at k1;have HQ:=hide hq;have HWS : Hid (c = 1 → ws = []):=fun e => List.length_eq_zero_iff.1 (by omega)
  have HTA : Hid (∀ A' c',PWd w A' ws → ws.length ≤ c' → Rd (w.setCell ⟨r,0,none⟩ (.slice A' ws.length c')) b r A' c' nodes ws m):=fun A' c' h1 h2 => HR.out.take h1 h2
  clear h hw hw0 hn hq hnl
  by_cases hc1 : c = 1
  all_goals
   have HC1:=hide hc1;go_enter Tryz.func63,Tryz.ntmps63;go_wp2_with fail;refine bodyPost_ret (results_tmp2 rfl _ _ _) rfl ?_
   first
   | exact ⟨_,_,d.1,true,ws,rfl,HTA.out _ _ (HW0.out (HWS.out HC1.out) _) (by rw [HWS.out HC1.out];simp),only_setCell0 _ _ _ _,(fun _ => by rw [← HQ.out]),fun h => by cases h⟩
   | exact ⟨_,_,d.1,true,ws,rfl,HTA.out _ _ HW.out (by omega),only_setCell0 _ _ _ _,(fun _ => by rw [← HQ.out]),fun h => by cases h⟩
theorem plain_any (ws : List Wd) (b r : Nat) (A : Option Addr) (c : Nat) (nodes : Int) (m : Em) (w : World) (h : Rd w b r A c nodes ws m) (hl : ws.length ≤ 90000000) :
  Calls Tryz.prog 63 #[.pointer (some ⟨r,0,none⟩)] w fun e w' => PlP ws b r nodes m w e w':=by
 cases ws with
 | nil => exact plain_nil b r A c nodes m w h
 | cons d ws => exact plain_cons d ws b r A c nodes m w h (by simp at hl;omega)
def TxP (most : Nat) (ws : List Wd) (b r : Nat) (nodes : Int) (m : Em) (w : World) (e : Ending) (w' : World) : Prop:=∃ (A : Option Addr) (c : Nat) (t : List UInt8) (ok : Bool) (ws' : List Wd),e = .returned (.tuple #[.string (S t),.bool ok]) ∧ Rd w' b r A c nodes ws' m ∧ Only (fun q => q = r) w w' ∧
 (ok = true → txtP most ws = some (t,ws')) ∧ (ok = false → t = [] ∧ ws' = ws ∧ txtP most ws = none)
theorem text_nil (most : Nat) (b r : Nat) (A : Option Addr) (c : Nat) (nodes : Int) (m : Em) (w : World) (h : Rd w b r A c nodes [] m) :
  Calls Tryz.prog 87 #[.pointer (some ⟨r,0,none⟩),.int .i64 (most : Int)] w fun e w' => TxP most [] b r nodes m w e w':=by
 have HR:=hide h;have c0:=h.c0;clear h;go_enter Tryz.func87,Tryz.ntmps87;go_wp2_with fail;refine bodyPost_ret (results_tmp2 rfl _ _ _) rfl ?_;exact ⟨A,c,[],false,[],rfl,HR.out,Only.refl _ _,(fun h => by cases h),fun _ => ⟨rfl,rfl,rfl⟩⟩
theorem text_cons (most : Nat) (d : Wd) (ws : List Wd) (b r : Nat) (A : Option Addr) (c : Nat) (nodes : Int) (m : Em) (w : World) (h : Rd w b r A c nodes (d :: ws) m) (hl : ws.length ≤ 90000000) (hd : d.1.length ≤ 100000000) (hm : most ≤ 100000000) :
  Calls Tryz.prog 87 #[.pointer (some ⟨r,0,none⟩),.int .i64 (most : Int)] w fun e w' => TxP most (d :: ws) b r nodes m w e w':=by
 have HR:=hide h;have c0:=h.c0;have f0:=Blk.frozen h.box 0;obtain ⟨g,off,rfl,k0,k1,hw,hw0⟩:=h.wds.tail (n:=0) h.hc;have HW:=hide hw;have HW0:=hide hw0;obtain ⟨n,hn⟩ : ∃ n,n = (d :: ws).length:=⟨_,rfl⟩;rw [← hn] at c0;have HN:=hide hn;have hnl : n = ws.length + 1:=by rw [hn];rfl
 have n0 : ((n : Int) == 0) = false:=by rw [beq_eq_false_iff_ne];omega
 have n1 : (0 : Int) < (n : Int):=by omega
 have n2 : (1 : Int) ≤ (n : Int):=by omega
 have hc : n ≤ c:=by rw [hn];exact h.hc
 have nc : (n : Int) ≤ (c : Int):=by omega
 have n3 : ((n : Int) - 1).toNat = ws.length:=by omega
 have hnn : n - 1 = ws.length:=by omega
 have hss:=S_size d.1
 cases hq : d.2 with
 | false =>
  rw [hq] at k1;have HQ:=hide hq;clear h hw hw0 hn hq;go_enter Tryz.func87,Tryz.ntmps87;go_wp2_with fail;refine bodyPost_ret (results_tmp2 rfl _ _ _) rfl ?_;exact ⟨_,c,[],false,d :: ws,rfl,HR.out,Only.refl _ _,(fun h => by cases h),fun _ => ⟨rfl,rfl,by simp only [txtP];rw [if_neg (by rw [HQ.out];rintro ⟨h,_⟩;cases h)]⟩⟩
 | true =>
  rw [hq] at k1;have HQ:=hide hq;have HWS : Hid (c = 1 → ws = []):=fun e => List.length_eq_zero_iff.1 (by omega)
  have HTA : Hid (∀ A' c',PWd w A' ws → ws.length ≤ c' → Rd (w.setCell ⟨r,0,none⟩ (.slice A' ws.length c')) b r A' c' nodes ws m):=fun A' c' h1 h2 => HR.out.take h1 h2
  clear h hw hw0 hn hq hnl
  by_cases hlen : d.1.length ≤ most
  ·have HTX : Hid (txtP most (d :: ws) = some (d.1,ws)):=by
    show _ = _;simp only [txtP];rw [if_pos ⟨HQ.out,hlen⟩]
   have q1 : ¬ (most : Int) < (d.1.length : Int):=by omega
   have q2 : ¬ most < d.1.length:=by omega
   clear hlen
   by_cases hc1 : c = 1
   all_goals
    have HC1:=hide hc1;go_enter Tryz.func87,Tryz.ntmps87;go_wp2_with fail;refine bodyPost_ret (results_tmp2 rfl _ _ _) rfl ?_
    first
    | exact ⟨_,_,d.1,true,ws,rfl,HTA.out _ _ (HW0.out (HWS.out HC1.out) _) (by rw [HWS.out HC1.out];simp),only_setCell0 _ _ _ _,(fun _ => HTX.out),fun h => by cases h⟩
    | exact ⟨_,_,d.1,true,ws,rfl,HTA.out _ _ HW.out (by omega),only_setCell0 _ _ _ _,(fun _ => HTX.out),fun h => by cases h⟩
  ·have HTX : Hid (txtP most (d :: ws) = none):=by
    show _ = _;simp only [txtP];rw [if_neg (fun h => hlen h.2)]
   have q1 : (most : Int) < (d.1.length : Int):=by omega
   have q2 : most < d.1.length:=by omega
   clear hlen;go_enter Tryz.func87,Tryz.ntmps87;go_wp2_with fail;refine bodyPost_ret (results_tmp2 rfl _ _ _) rfl ?_;exact ⟨_,c,[],false,d :: ws,rfl,HR.out,Only.refl _ _,(fun h => by cases h),fun _ => ⟨rfl,rfl,HTX.out⟩⟩
theorem text_any (most : Nat) (ws : List Wd) (b r : Nat) (A : Option Addr) (c : Nat) (nodes : Int) (m : Em) (w : World) (h : Rd w b r A c nodes ws m) (hl : ws.length ≤ 90000000) (hz : ∀ d ∈ ws,d.1.length ≤ 100000000) (hm : most ≤ 100000000) :
  Calls Tryz.prog 87 #[.pointer (some ⟨r,0,none⟩),.int .i64 (most : Int)] w fun e w' => TxP most ws b r nodes m w e w':=by
 cases ws with
 | nil => exact text_nil most b r A c nodes m w h
 | cons d ws => exact text_cons most d ws b r A c nodes m w h (by simp at hl;omega) (hz d (by simp)) hm
end Go.Proofs.YtcibcmfaebbhnaaGreatDoor
