/-
  What the law Kept keeps in memory while it lends marks' lists.
-/
import Derived.Test.YtcibcmfaebbhnaaGreatDoorLKpl
import Derived.Test.YtcibcmfaebbhnaaGreatDoorLTMof
import Derived.Test.YtcibcmfaebbhnaaGreatDoorLTGbm
set_option linter.unusedSimpArgs false
set_option linter.unusedVariables false

namespace Go.Proofs.YtcibcmfaebbhnaaGreatDoor
open Go.RowKit Go.WideShapes Go.ChangeShapes Q Tr
theorem not4_K : ¬ LT4 51:=by unfold LT4;decide
theorem not7_K : ¬ LT7 51:=by unfold LT7 LT4;decide
theorem MkT.lstep {w w' : World} {b b' : Nat} {m : Mk} (h : MkT w b m) (hs : LStep b' w w') : MkT w' b m:=⟨hs.own h.mem not4_M,hs.own h.tr not4_3,hs.own h.body not4_5,h.hm,h.ht,h.hb⟩
theorem MkT.grow {w w' : World} {b b' n s : Nat} {t : TypeId} {m : Mk} {v : Value} {xs : List Value} (h : MkT w b m) (h' : w.ownsRow b' t s v n xs) (h1 : 84 ≠ t) (h3 : 3 ≠ t) (h5 : 5 ≠ t) (hg : w.grownBy w' v.ownBlock) : MkT w' b m :=
 ⟨own_kept h.mem h' h1 hg,own_kept h.tr h' h3 hg,own_kept h.body h' h5 hg,h.hm,h.ht,h.hb⟩
structure MkR (b : Nat) (ls : List Mk) (A : Option Addr) (c : Nat) (w : World) : Prop where
 row : w.ownsRow b 51 26 (.slice A ls.length c) ls.length (mkCells ls)
 ent : ∀ m ∈ ls,MkT w b m
theorem MkR.step {w w' : World} {b c : Nat} {ls : List Mk} {A : Option Addr} (h : MkR b ls A c w) (hb : Below w.heap.size w w') : MkR b ls A c w':=⟨own_step h.row hb,fun m hm => (h.ent m hm).step hb⟩
theorem MkR.lstep {w w' : World} {b b' c : Nat} {ls : List Mk} {A : Option Addr} (h : MkR b ls A c w) (hs : LStep b' w w') : MkR b ls A c w':=⟨hs.own h.row not4_K,fun m hm => MkT.lstep (h.ent m hm) hs⟩
theorem MkR.one {w w' : World} {b c k : Nat} {ls : List Mk} {A : Option Addr} {t : TypeId} {cs : Array Value} (h : MkR b ls A c w) (hb : Blk w k t cs) (h0 : t ≠ 51) (h1 : t ≠ 84) (h3 : t ≠ 3) (h5 : t ≠ 5) (ho : Only (fun q => q = k) w w') : MkR b ls A c w':=by
 have ap : ∀ t',t ≠ t' → Apart w (fun q => q = k) t':=fun t' ht q hq e => by
  have e2 : q = k:=e;subst e2;exact ⟨t,cs,hb,ht⟩
 exact ⟨own_apart h.row ho (ap _ h0),fun m hm => ⟨own_apart (h.ent m hm).mem ho (ap _ h1),own_apart (h.ent m hm).tr ho (ap _ h3),own_apart (h.ent m hm).body ho (ap _ h5),(h.ent m hm).hm,(h.ent m hm).ht,(h.ent m hm).hb⟩⟩
theorem MkR.new {w w1 w' : World} {b c k : Nat} {ls : List Mk} {A : Option Addr} (h : MkR b ls A c w) (hb : Below w.heap.size w w1) (hk : w.heap.size ≤ k) (ho : Only (fun q => q = k) w1 w') : MkR b ls A c w' :=
 h.step (hb.trans (ho.below hb.size (fun q hq e => by have e2 : q = k:=e;omega)))
theorem EvR.one {w w' : World} {b c k : Nat} {ms : List Em} {A : Option Addr} {t : TypeId} {cs : Array Value} (h : EvR b ms A c w) (hb : Blk w k t cs) (h0 : t ≠ 33) (h3 : t ≠ 3) (h5 : t ≠ 5) (ho : Only (fun q => q = k) w w') : EvR b ms A c w' :=
 ⟨own_apart h.row ho (fun q hq e => by
  have e2 : q = k:=e;subst e2;exact ⟨t,cs,hb,h0⟩),fun m hm => (h.ent m hm).far hb h3 h5 ho⟩
theorem EvR.grow {w w1 w' : World} {b b' c n s : Nat} {ms : List Em} {A : Option Addr} {t : TypeId} {v : Value} {xs : List Value} (h : EvR b ms A c w) (hal : Below w.heap.size w w1) (h' : w1.ownsRow b' t s v n xs) (h0 : 33 ≠ t) (h3 : t ≠ 3) (h5 : t ≠ 5) (hg : w1.grownBy w' v.ownBlock) : EvR b ms A c w' :=
 ⟨own_kept (own_step h.row hal) h' h0 hg,fun m hm => ((h.ent m hm).step hal).push h' h3 h5 hg⟩
theorem MkR.grow {w w1 w' : World} {b b' c n s : Nat} {ls : List Mk} {A : Option Addr} {t : TypeId} {v : Value} {xs : List Value} (h : MkR b ls A c w) (hal : Below w.heap.size w w1) (h' : w1.ownsRow b' t s v n xs) (h0 : 51 ≠ t) (h1 : 84 ≠ t) (h3 : 3 ≠ t) (h5 : 5 ≠ t) (hg : w1.grownBy w' v.ownBlock) : MkR b ls A c w' :=
 ⟨own_kept (own_step h.row hal) h' h0 hg,fun m hm => MkT.grow ((h.ent m hm).step hal) h' h1 h3 h5 hg⟩
theorem KC.one {s : Sm} {tc Cin : Array Value} {b p3 p5 g pin gV cV K k : Nat} {w wr w' : World} {t : TypeId} {cs : Array Value} (h : KC s tc b p3 p5 g pin Cin gV cV K w wr) (hb : Blk wr k t cs) (h7 : ¬ LT7 t) (hS : t ≠ 27) (hT : t ≠ 35) (hk : b ≤ k) (hw : b ≤ wr.heap.size) (ho : Only (fun q => q = k) wr w') : KC s tc b p3 p5 g pin Cin gV cV K w w':=by
 have ap : ∀ t',t ≠ t' → Apart wr (fun q => q = k) t':=fun t' ht q hq e => by
  have e2 : q = k:=e;subst e2;exact ⟨t,cs,hb,ht⟩
 exact ⟨h.bs.apart ho (ap _ hS),h.bt.apart ho (ap _ hT),h.bi.apart ho (ap _ hS),h.lk.one hb h7 ho,own_apart h.vo ho (ap _ (fun e => h7 (.inr (.inr (.inl e))))),h.lo.trans (ho.below hw (fun q hq e => by have e2 : q = k:=e;omega))⟩
theorem MkR.boxed {w w' : World} {b c p : Nat} {ls : List Mk} {A : Option Addr} {cs : Array Value} (h : MkR b ls A c w) (hb : Blk w p 51 cs) (hA : ∀ q,(Value.slice A ls.length c).ownBlock = some q → q < p) (ho : Only (fun q => q = p) w w') : MkR b ls A c w':=by
 have ap : ∀ t',51 ≠ t' → Apart w (fun q => q = p) t':=fun t' ht q hq e => by
  have e2 : q = p:=e;subst e2;exact ⟨_,cs,hb,ht⟩
 exact ⟨own_only h.row ho (fun q hq e => by
  have e2 : q = p:=e;have:=hA q hq;omega),fun m hm => ⟨own_apart (h.ent m hm).mem ho (ap _ (by decide)),own_apart (h.ent m hm).tr ho (ap _ (by decide)),own_apart (h.ent m hm).body ho (ap _ (by decide)),(h.ent m hm).hm,(h.ent m hm).ht,(h.ent m hm).hb⟩⟩
def evMk (i : Nat) : Em:={ Em.zero with kd:=-700 - (i : Int) }
def zeroMk : Mk:=⟨0,0,0,0,0,0,0,0,none,0,0,[],none,0,0,[],0,0,0,0,none,0,0,[],0,0,0,0,⟨#[]⟩,⟨#[]⟩,⟨#[]⟩,0,⟨#[]⟩,0,0⟩
def mkMk (i : Nat) : Mk:={ zeroMk with kd:=-700 - (i : Int) }
theorem evMk_u (w : World) (b i : Nat) : EmU w b (evMk i):=⟨World.ownsRow_nil _ _ _ _,RB.nil _ _ _,Nat.zero_le _,Nat.zero_le _⟩
theorem mkMk_t (w : World) (b i : Nat) : MkT w b (mkMk i):=⟨World.ownsRow_nil _ _ _ _,World.ownsRow_nil _ _ _ _,World.ownsRow_nil _ _ _ _,Nat.zero_le _,Nat.zero_le _,Nat.zero_le _⟩
def evs (k : Nat) : List Em:=(List.range k).map evMk
def mks (k : Nat) : List Mk:=(List.range k).map mkMk
theorem evs_snoc (k : Nat) : evs (k + 1) = evs k ++ [evMk k]:=by unfold evs;rw [List.range_succ,List.map_append];rfl
theorem mks_snoc (k : Nat) : mks (k + 1) = mks k ++ [mkMk k]:=by unfold mks;rw [List.range_succ,List.map_append];rfl
theorem evs_len (k : Nat) : (evs k).length = k:=by unfold evs;rw [List.length_map,List.length_range]
theorem mks_len (k : Nat) : (mks k).length = k:=by unfold mks;rw [List.length_map,List.length_range]
theorem emCells_app (a b : List Em) : emCells (a ++ b) = emCells a ++ emCells b:=by unfold emCells;rw [List.flatMap_append]
theorem mkCells_app (a b : List Mk) : mkCells (a ++ b) = mkCells a ++ mkCells b:=by unfold mkCells;rw [List.flatMap_append]
def KJ2 (s : Sm) (tc : Array Value) (b p3 p5 g pin : Nat) (Cin : Array Value) (gV cV : Nat) (w : World) (ms : List Em) (A9 : Option Addr) (c9 K : Nat) (l : List Mk) (v i : Value) (wr : World) : Prop:=∃ (j : Nat) (ls : List Mk) (A : Option Addr) (c : Nat),j ≤ l.length ∧ i = .int .i64 j ∧ v = .slice A ls.length c ∧ ls.length = j ∧ SameC (l.take j) ls ∧ MkR b ls A c wr ∧ EvR b ms A9 c9 wr ∧ KC s tc b p3 p5 g pin Cin gV cV (K + 3 * j) w wr
def KJ3 (s : Sm) (tc : Array Value) (b p3 p5 g pin : Nat) (Cin : Array Value) (gV cV K : Nat) (w : World) (ms : List Em) (ls : List Mk) (v v2 i : Value) (wr : World) : Prop:=∃ (j : Nat) (A9 : Option Addr) (c9 : Nat) (A8 : Option Addr) (c8 : Nat),j ≤ 64 ∧ i = .int .i64 j ∧ v = .slice A9 (ms.length + j) c9 ∧ v2 = .slice A8 (ls.length + j) c8 ∧ EvR b (ms ++ evs j) A9 c9 wr ∧ MkR b (ls ++ mks j) A8 c8 wr ∧ KC s tc b p3 p5 g pin Cin gV cV K w wr
theorem KC.inn {s : Sm} {tc Cin Cin' : Array Value} {b p3 p5 g pin gV cV K : Nat} {w wr w' : World} (h : KC s tc b p3 p5 g pin Cin gV cV K w wr) (hb' : Blk w' pin 27 Cin') (hne : ¬ p3 = pin) (hk : b ≤ pin) (hw : b ≤ wr.heap.size) (ho : Only (fun q => q = pin) wr w') : KC s tc b p3 p5 g pin Cin' gV cV K w w':=by
 have ap : ∀ t',27 ≠ t' → Apart wr (fun q => q = pin) t':=fun t' ht q hq e => by
  have e2 : q = pin:=e;subst e2;exact ⟨_,_,h.bi,ht⟩
 exact ⟨h.bs.only ho hne,h.bt.apart ho (ap _ (by decide)),hb',h.lk.one h.bi not7_S ho,own_apart h.vo ho (ap _ (by decide)),h.lo.trans (ho.below hw (fun q hq e => by have e2 : q = pin:=e;omega))⟩
structure KF (s : Sm) (tc : Array Value) (b p3 p5 g pin gV cV K : Nat) (ms : List Em) (gE dE : Nat) (ls : List Mk) (gM dM : Nat) (pt : Nat) (tm' : Em) (w wr : World) : Prop where
 kc : KC s tc b p3 p5 g pin (Sm.cs ⟨s.c,some ⟨gV,0,none⟩,cV,some ⟨gE,0,none⟩,dE,ms⟩) gV cV K w wr
 ev : EvR b (ms ++ evs 64) (some ⟨gE,0,none⟩) dE wr
 mr : MkR b (ls ++ mks 64) (some ⟨gM,0,none⟩) dM wr
 th : Blk wr pt 33 tm'.cs
 tu : EmU wr b tm'
section
variable {s : Sm} {tc : Array Value} {b p3 p5 g pin gV cV K : Nat} {ms : List Em} {gE dE : Nat} {ls : List Mk} {gM dM pt : Nat} {tm' : Em} {w wr w' : World}
theorem KF.step (h : KF s tc b p3 p5 g pin gV cV K ms gE dE ls gM dM pt tm' w wr) (hb : Below wr.heap.size wr w') (hw : b ≤ wr.heap.size) : KF s tc b p3 p5 g pin gV cV K ms gE dE ls gM dM pt tm' w w' :=
 ⟨h.kc.step hb hw,h.ev.step hb,h.mr.step hb,h.th.below hb h.th.lt,h.tu.step hb⟩
theorem KF.up (h : KF s tc b p3 p5 g pin gV cV K ms gE dE ls gM dM pt tm' w wr) (hp : b ≤ p3) : b ≤ wr.heap.size:=by have:=h.kc.bs.lt;omega
theorem KF.script (h : KF s tc b p3 p5 g pin gV cV K ms gE dE ls gM dM pt tm' w wr) (hv : s.c.votes.length ≤ 1048576) (hn : ms.length ≤ 1048576) : SmIn wr wr.heap.size ⟨s.c,some ⟨gV,0,none⟩,cV,some ⟨gE,0,none⟩,dE,ms⟩:=by
 have h1:=h.ev.row;rw [List.length_append,evs_len,emCells_app] at h1;exact ⟨Reads.of_own h.kc.vo,Reads.of_own (own_pre h1 (emCells_len ms)),fun m hm => (h.ev.ent m (List.mem_append_left _ hm)).inn,by show s.c.votes.length ≤ _;omega,by show ms.length ≤ _;omega⟩
theorem KF.marks (h : KF s tc b p3 p5 g pin gV cV K ms gE dE ls gM dM pt tm' w wr) : MsIn wr wr.heap.size (some ⟨gM,0,none⟩) ls.length ls:=by
 have h1:=h.mr.row;rw [List.length_append,mks_len,mkCells_app] at h1;exact ⟨Reads.of_own (own_pre h1 (mkCells_len ls)),fun m hm => (h.mr.ent m (List.mem_append_left _ hm)).inn⟩
theorem KF.evm (h : KF s tc b p3 p5 g pin gV cV K ms gE dE ls gM dM pt tm' w wr) {i : Nat} (hi : i < 64) : wr.cell? ⟨gE,(ms.length + i) * 13,none⟩ = some (.int .i64 (-700 - (i : Int))):=by
 have h1 : (ms ++ evs 64)[ms.length + i]? = some (evMk i):=by
  rw [List.getElem?_append_right (by omega),Nat.add_sub_cancel_left];unfold evs;rw [List.getElem?_map,List.getElem?_range hi]
  rfl
 have h2:=emCells_at _ _ 0 _ h1 (by omega);have h3:=World.ownsRow.cells (g:=gE) h.ev.row rfl _ (.int .i64 (-700 - (i : Int))) (h2.trans rfl)
 have ea : (⟨gE,0,none⟩ : Addr).add ((ms.length + i) * 13 + 0) = ⟨gE,(ms.length + i) * 13,none⟩:=by
  unfold Addr.add
  split
  ·rename_i h0;rw [Nat.add_zero] at h0;rw [h0]
  ·simp
 rw [ea] at h3;exact h3
theorem KF.mkm (h : KF s tc b p3 p5 g pin gV cV K ms gE dE ls gM dM pt tm' w wr) {i : Nat} (hi : i < 64) : wr.cell? ⟨gM,(ls.length + i) * 26 + 1,none⟩ = some (.int .i64 (-700 - (i : Int))):=by
 have h1 : (ls ++ mks 64)[ls.length + i]? = some (mkMk i):=by
  rw [List.getElem?_append_right (by omega),Nat.add_sub_cancel_left];unfold mks;rw [List.getElem?_map,List.getElem?_range hi]
  rfl
 have h2:=mkCells_at _ _ 1 _ h1 (by omega);have h3:=World.ownsRow.cells (g:=gM) h.mr.row rfl _ (.int .i64 (-700 - (i : Int))) (h2.trans rfl)
 have ea : (⟨gM,0,none⟩ : Addr).add ((ls.length + i) * 26 + 1) = ⟨gM,(ls.length + i) * 26 + 1,none⟩:=by
  unfold Addr.add
  split
  ·omega
  ·simp
 rw [ea] at h3;exact h3
end
end Go.Proofs.YtcibcmfaebbhnaaGreatDoor
