/-
  What the law Kept keeps in memory while it lends a script's lists.
-/
import Derived.Test.YtcibcmfaebbhnaaGreatDoorLLtk
import Derived.Test.YtcibcmfaebbhnaaGreatDoorLLnk
set_option linter.unusedSimpArgs false
set_option linter.unusedVariables false

namespace Go.Proofs.YtcibcmfaebbhnaaGreatDoor
open Go.RowKit Go.WideShapes Go.ChangeShapes Q
theorem LK.push {w w1 w' : World} {b g K base s n : Nat} {t : TypeId} {v : Value} {xs : List Value} (h : LK w b g K) (hal : Below w.heap.size w w1) (hrow : w1.ownsRow base t s v n xs) (ht : ¬ LT7 t) (hgr : w1.grownBy w' v.ownBlock) : LK w' b g K:=by
 refine (h.step hal).far (Only.of_grown (F:=fun k => v.ownBlock = some k) hgr (fun g hg _ => hg)) (fun t' ht' k hk e => ?_)
 rcases hrow.2 with ⟨rfl,_⟩ | ⟨g',cap,cur,rfl,hb,hgg,_⟩
 ·simp [Value.ownBlock] at e
 ·obtain rfl : g' = k:=by simpa [Value.ownBlock] using e
  exact ⟨t,cur,hgg,fun e3 => ht (e3 ▸ ht')⟩
theorem EmU.lstep {w w' : World} {b b' : Nat} {m : Em} (h : EmU w b m) (hs : LStep b' w w') : EmU w' b m :=
 ⟨hs.own h.sid not4_3,RB.only h.body hs (fun g cs fr hg hf => by
  obtain ⟨_,t,cs',hb,ht⟩:=hf;have e:=hb.symm.trans hg;injection e with e
  injection e with _ e _
  exact not4_5 (e ▸ ht)),h.hs,h.hb⟩
structure EvR (b : Nat) (ms : List Em) (A : Option Addr) (c : Nat) (w : World) : Prop where
 row : w.ownsRow b 33 13 (.slice A ms.length c) ms.length (emCells ms)
 ent : ∀ m ∈ ms,EmU w b m
theorem EvR.step {w w' : World} {b c : Nat} {ms : List Em} {A : Option Addr} (h : EvR b ms A c w) (hb : Below w.heap.size w w') : EvR b ms A c w':=⟨own_step h.row hb,fun m hm => (h.ent m hm).step hb⟩
theorem EvR.lstep {w w' : World} {b b' c : Nat} {ms : List Em} {A : Option Addr} (h : EvR b ms A c w) (hs : LStep b' w w') : EvR b ms A c w':=⟨hs.own h.row not4_E,fun m hm => (h.ent m hm).lstep hs⟩
structure KC (s : Sm) (tc : Array Value) (b p3 p5 g pin : Nat) (Cin : Array Value) (gV cV K : Nat) (w wr : World) : Prop where
 bs : Blk wr p3 27 s.cs
 bt : Blk wr p5 35 tc
 bi : Blk wr pin 27 Cin
 lk : LK wr b g K
 vo : wr.ownsRow b 3 1 (.slice (some ⟨gV,0,none⟩) s.c.votes.length cV) s.c.votes.length (ints s.c.votes)
 lo : Below b w wr
theorem not4_S : ¬ LT4 27:=by unfold LT4;decide
theorem not4_T : ¬ LT4 35:=by unfold LT4;decide
theorem not7_S : ¬ LT7 27:=by unfold LT7 LT4;decide
section
variable {s : Sm} {tc Cin : Array Value} {b p3 p5 g pin gV cV K : Nat} {w wr w' : World}
theorem KC.step (h : KC s tc b p3 p5 g pin Cin gV cV K w wr) (hb : Below wr.heap.size wr w') (hw : b ≤ wr.heap.size) : KC s tc b p3 p5 g pin Cin gV cV K w w' :=
 ⟨h.bs.below hb h.bs.lt,h.bt.below hb h.bt.lt,h.bi.below hb h.bi.lt,h.lk.step hb,own_step h.vo hb,h.lo.trans (hb.mono hw)⟩
theorem KC.lstep {K' : Nat} (h : KC s tc b p3 p5 g pin Cin gV cV K w wr) (hs : LStep b wr w') (hw : b ≤ wr.heap.size) (hl : LK w' b g K') : KC s tc b p3 p5 g pin Cin gV cV K' w w' :=
 ⟨hs.blk h.bs not4_S,hs.blk h.bt not4_T,hs.blk h.bi not4_S,hl,hs.own h.vo not4_3,h.lo.trans (hs.below hw)⟩
theorem KC.push {w1 : World} {t : TypeId} {sz n : Nat} {v : Value} {xs : List Value} (h : KC s tc b p3 p5 g pin Cin gV cV K w wr) (hal : Below wr.heap.size wr w1) (hrow : w1.ownsRow b t sz v n xs) (hgr : w1.grownBy w' v.ownBlock) (hw : b ≤ wr.heap.size)
  (h7 : ¬ LT7 t) (hS : 27 ≠ t) (hT : 35 ≠ t) : KC s tc b p3 p5 g pin Cin gV cV K w w' :=
 ⟨(h.bs.below hal h.bs.lt).grown hgr (own_ne hrow (h.bs.below hal h.bs.lt) hS),(h.bt.below hal h.bt.lt).grown hgr (own_ne hrow (h.bt.below hal h.bt.lt) hT),(h.bi.below hal h.bi.lt).grown hgr (own_ne hrow (h.bi.below hal h.bi.lt) hS),
  h.lk.push hal hrow h7 hgr,own_kept (own_step h.vo hal) hrow (fun e => h7 (.inr (.inr (.inl e.symm)))) hgr,(h.lo.trans (hal.mono hw)).grown hgr (by have:=hal.size;omega) (fun k hk => (hrow.lt k hk).1)⟩
end
end Go.Proofs.YtcibcmfaebbhnaaGreatDoor
