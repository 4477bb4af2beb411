/-
  A mark behind a pointer, and the cursor that reads it; wide bounds. (Printed by wip/tools/mkwide.py.)
-/
import Derived.Test.YtenebkkfjalcaaaDoorZGd
set_option linter.unusedVariables false
set_option linter.unusedSimpArgs false
namespace Go.Proofs.YtenebkkfjalcaaaDoor.Wide
open Go.RowKit Go.WideShapes Go.ChangeShapes Q

/-- A mark whose lists are the call's own. -/
structure MkU (w : World) (b : Nat) (m : Mk) : Prop where
  mem : w.ownsRow b 69 3 (.slice m.Am m.nm m.cm) m.nm (sts m.ms)
  tr : w.ownsRow b 3 1 (.slice m.At m.nt m.ct) m.nt (ints m.ts)
  body : RB w b m.Ab m.nb m.bd
  hm : m.nm ≤ 1000000000
  ht : m.nt ≤ 1000000000
  hb : m.nb ≤ 1000000000
section
variable {w w' : World} {g b : Nat} {t : TypeId} {cs cs' : Array Value} {m : Mk}
theorem MkU.narrow (h : MkU w b m) (h1 : m.nm ≤ 10000000) (h2 : m.nt ≤ 10000000) (h3 : m.nb ≤ 100000000) : YtenebkkfjalcaaaDoor.MkU w b m := ⟨h.mem, h.tr, h.body, h1, h2, h3⟩
theorem MkU.step (h : MkU w b m) (hb : Below w.heap.size w w') : MkU w' b m := ⟨own_step h.mem hb, own_step h.tr hb, h.body.step hb, h.hm, h.ht, h.hb⟩
theorem MkU.base {b' : Nat} (h : MkU w b m) (hb : b' ≤ b) : MkU w b' m := ⟨own_base h.mem hb, own_base h.tr hb, h.body.base hb, h.hm, h.ht, h.hb⟩
theorem MkU.push {b' n : Nat} {v : Value} {xs : List Value} (h : MkU w b m) (h' : w.ownsRow b' 48 26 v n xs) (hg : w.grownBy w' v.ownBlock) : MkU w' b m :=
  ⟨own_kept h.mem h' (by decide) hg, own_kept h.tr h' (by decide) hg, h.body.grown h' (by decide) hg, h.hm, h.ht, h.hb⟩
/-- Rows of other types stay where one block is written. -/
theorem MkU.far (h : MkU w b m) (hg : Blk w g t cs) (h1 : t ≠ 69) (h2 : t ≠ 3) (h3 : t ≠ 5) (ho : Only (fun q => q = g) w w') : MkU w' b m := by
  have hap : ∀ e : TypeId, t ≠ e → Apart w (fun q => q = g) e := fun e he k hk hq => by
    subst hq
    exact ⟨t, cs, hg, he⟩
  refine ⟨own_apart h.mem ho (hap 69 h1), own_apart h.tr ho (hap 3 h2), h.body.only ho ?_, h.hm, h.ht, h.hb⟩
  rintro k c fr hk rfl
  have := hk.symm.trans hg
  injection this with this
  injection this with _ ht
  exact h3 ht.symm
theorem MkU.drew (h : MkU w b m) : MkU w.drew b m := ⟨h.mem, h.tr, h.body, h.hm, h.ht, h.hb⟩
theorem MkU.alloc (h : MkU w b m) (o : Obj) : MkU (w.alloc o) b m := h.step ((Below.refl _ _).alloc (Nat.le_refl _) o)
end
theorem MkU.zero (w : World) (b : Nat) : MkU w b Mk.zero := ⟨World.ownsRow_nil _ _ _ _, World.ownsRow_nil _ _ _ _, RB.nil _ _ _, Nat.zero_le _, Nat.zero_le _, Nat.zero_le _⟩
/-- The mark in its block, the cursor in its own. -/
structure PC (W : World) (b p c : Nat) (m : Mk) (s : ByteArray) (k : Nat) (bad : Bool) : Prop where
  box : Blk W p 48 m.cs
  cu : Cu W c s k bad
  t : MkU W b m
  hp : b ≤ p
  hc : b ≤ c
section
variable {W W' : World} {b p c k k' : Nat} {m m' : Mk} {s : ByteArray} {bad bad' : Bool}
theorem PC.ne (h : PC W b p c m s k bad) : p ≠ c := Blk.ne_ h.box (t' := 84) h.cu (by decide)
theorem PC.bw (h : PC W b p c m s k bad) : b ≤ W.heap.size := Nat.le_of_lt (Nat.lt_of_le_of_lt h.hp h.box.lt)
theorem PC.cur (h : PC W b p c m s k bad) (hcu : Cu W' c s k' bad') (ho : Only (fun q => q = c) W W') : PC W' b p c m s k' bad' :=
  ⟨h.box.only ho (fun e => h.ne e), hcu, h.t.far (t := 84) h.cu (by decide) (by decide) (by decide) ho, h.hp, h.hc⟩
theorem PC.lowc (h : PC W b p c m s k bad) (ho : Only (fun q => q = c) W W') : Below b W W' := ho.below h.bw (fun q hq => by have := h.hc; omega)
theorem PC.turn (h : PC W b p c m s k bad) (ho : Only (fun q => q = p) W W') (hbox : Blk W' p 48 m'.cs) (ht : MkU W b m') : PC W' b p c m' s k bad :=
  ⟨hbox, Blk.only (t := 84) h.cu ho (fun e => h.ne e.symm), ht.far h.box (by decide) (by decide) (by decide) ho, h.hp, h.hc⟩
theorem PC.lowp (h : PC W b p c m s k bad) (ho : Only (fun q => q = p) W W') : Below b W W' := ho.below h.bw (fun q hq => by have := h.hp; omega)
theorem PC.set (h : PC W b p c m s k bad) (i : Nat) (v : Value) (hc : m.cs.setIfInBounds i v = m'.cs) (ht : MkU W b m') : PC (W.setCell ⟨p, i, none⟩ v) b p c m' s k bad ∧ Below b W (W.setCell ⟨p, i, none⟩ v) :=
  ⟨h.turn (only_setCell0 _ _ _ _) (hc ▸ h.box.set_ i v) ht, h.lowp (only_setCell0 _ _ _ _)⟩
theorem PC.put (h : PC W b p c m s k bad) (ht : MkU W b m') : PC (W.setRow p m'.cs) b p c m' s k bad ∧ Below b W (W.setRow p m'.cs) :=
  ⟨h.turn (only_setRow _ _ _) (h.box.row _) ht, h.lowp (only_setRow _ _ _)⟩
theorem PC.step (h : PC W b p c m s k bad) (hb : Below W.heap.size W W') : PC W' b p c m s k bad :=
  ⟨h.box.below hb h.box.lt, Blk.below (t := 84) h.cu hb (Blk.lt (t := 84) h.cu), h.t.step hb, h.hp, h.hc⟩
theorem PC.drew (h : PC W b p c m s k bad) : PC W.drew b p c m s k bad := h.step (below_drewN (Below.refl _ _) 1)
/-- A member pushed, the box turned. -/
theorem PC.pushM {w7 : World} {g7 c7 : Nat} {x y z : Int} (h : PC W b p c m s k bad) (hown : w7.ownsRow b 69 3 (.slice (some ⟨g7, 0, none⟩) (m.nm + 1) c7) (m.nm + 1) (sts m.ms ++ [.int .i64 x, .int .i64 y, .int .i64 z])) (hgr : W.grownBy w7 (Value.slice m.Am m.nm m.cm).ownBlock) (hn : m.nm + 1 ≤ 1000000000) :
    PC (w7.setCell ⟨p, 8, none⟩ (.slice (some ⟨g7, 0, none⟩) (m.nm + 1) c7)) b p c { m with Am := some ⟨g7, 0, none⟩, nm := m.nm + 1, cm := c7, ms := m.ms ++ [(x, y, z)] } s k bad ∧ Below b W (w7.setCell ⟨p, 8, none⟩ (.slice (some ⟨g7, 0, none⟩) (m.nm + 1) c7)) := by
  have hbox : Blk w7 p 48 m.cs := h.box.grown hgr (own_ne h.t.mem h.box (by decide))
  have hcu : Cu w7 c s k bad := Blk.grown (t := 84) h.cu hgr (own_ne (t := 84) h.t.mem h.cu (by decide))
  have ht : MkU w7 b { m with Am := some ⟨g7, 0, none⟩, nm := m.nm + 1, cm := c7, ms := m.ms ++ [(x, y, z)] } := by
    refine ⟨?_, own_kept h.t.tr h.t.mem (by decide) hgr, h.t.body.grown h.t.mem (by decide) hgr, hn, h.t.ht, h.t.hb⟩
    rw [sts_snoc]
    exact hown
  have hW := only_setCell0 w7 p 8 (.slice (some ⟨g7, 0, none⟩) (m.nm + 1) c7)
  have hlow : Below b W w7 := (Below.refl b W).grown hgr h.bw (fun k hk => (h.t.mem.lt k hk).1)
  refine ⟨⟨?_, Blk.only (t := 84) hcu hW (fun e => h.ne e.symm), ht.far hbox (by decide) (by decide) (by decide) hW, h.hp, h.hc⟩, hlow.trans (hW.below (Nat.le_trans h.bw hlow.size) (fun q hq => by have := h.hp; omega))⟩
  have := hbox.set_ 8 (.slice (some ⟨g7, 0, none⟩) (m.nm + 1) c7)
  rw [set_mem m (some ⟨g7, 0, none⟩) (m.nm + 1) c7 (m.ms ++ [(x, y, z)])] at this
  exact this
/-- A number pushed onto the mark's numbers, the box turned. -/
theorem PC.pushT {w7 : World} {g7 c7 : Nat} {x : Int} (h : PC W b p c m s k bad) (hown : w7.ownsRow b 3 1 (.slice (some ⟨g7, 0, none⟩) (m.nt + 1) c7) (m.nt + 1) (ints m.ts ++ [.int .i64 x])) (hgr : W.grownBy w7 (Value.slice m.At m.nt m.ct).ownBlock) (hn : m.nt + 1 ≤ 1000000000) :
    PC (w7.setCell ⟨p, 9, none⟩ (.slice (some ⟨g7, 0, none⟩) (m.nt + 1) c7)) b p c { m with At := some ⟨g7, 0, none⟩, nt := m.nt + 1, ct := c7, ts := m.ts ++ [x] } s k bad ∧ Below b W (w7.setCell ⟨p, 9, none⟩ (.slice (some ⟨g7, 0, none⟩) (m.nt + 1) c7)) := by
  have hbox : Blk w7 p 48 m.cs := h.box.grown hgr (own_ne h.t.tr h.box (by decide))
  have hcu : Cu w7 c s k bad := Blk.grown (t := 84) h.cu hgr (own_ne (t := 84) h.t.tr h.cu (by decide))
  have ht : MkU w7 b { m with At := some ⟨g7, 0, none⟩, nt := m.nt + 1, ct := c7, ts := m.ts ++ [x] } := by
    refine ⟨own_kept h.t.mem h.t.tr (by decide) hgr, ?_, h.t.body.grown h.t.tr (by decide) hgr, h.t.hm, hn, h.t.hb⟩
    rw [ints_app]
    exact hown
  have hW := only_setCell0 w7 p 9 (.slice (some ⟨g7, 0, none⟩) (m.nt + 1) c7)
  have hlow : Below b W w7 := (Below.refl b W).grown hgr h.bw (fun k hk => (h.t.tr.lt k hk).1)
  refine ⟨⟨?_, Blk.only (t := 84) hcu hW (fun e => h.ne e.symm), ht.far hbox (by decide) (by decide) (by decide) hW, h.hp, h.hc⟩, hlow.trans (hW.below (Nat.le_trans h.bw hlow.size) (fun q hq => by have := h.hp; omega))⟩
  have := hbox.set_ 9 (.slice (some ⟨g7, 0, none⟩) (m.nt + 1) c7)
  rw [set_tr m (some ⟨g7, 0, none⟩) (m.nt + 1) c7 (m.ts ++ [x])] at this
  exact this
end
/-- What comes out of part. -/
def PartR (r : PM × Nat × Bool) (b p c : Nat) (s : ByteArray) (w : World) (e : Ending) (w' : World) : Prop := ∃ m' : Mk, e = .returned (.tuple #[]) ∧ m'.pm = r.1 ∧ PC w' b p c m' s r.2.1 r.2.2 ∧ Below b w w'
theorem str_st (s : ByteArray) (k b : Nat) (bad : Bool) (w : World) (h : Cu w b s k bad) (hk : k ≤ s.size) (hs : s.size ≤ 1000000000000) :
    Calls Tryd.prog 61 #[.pointer (some ⟨b, 0, none⟩)] w fun e w' => e = .returned (.string (S (strT s.data.toList k))) ∧ Cu w' b s (strK s.data.toList k) (bad || !strOk s.data.toList k) ∧ Only (fun q => q = b) w w' := str_any s k b bad w h hk hs
end Go.Proofs.YtenebkkfjalcaaaDoor.Wide
