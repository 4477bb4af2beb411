/-
  The state of QuorumLeast: seven lists of lists in ranges of their own. (Printed by wip/tools/mkleast.py.)
-/
import Derived.Test.YteckffndboiknaaAlone
set_option linter.unusedVariables false
set_option linter.unusedSimpArgs false
namespace Go.Proofs.Yteckffndboiknaa
open Go.RowKit Go.WideShapes Go.ChangeShapes Q

/-- A list of lists, all of its blocks in a range. -/
structure LX (w : World) (lo hi : Nat) (v : Value) (es : List En) : Prop where
  ll : LL w lo v es
  vb : ∀ q, v.ownBlock = some q → q < hi
  eb : ∀ e ∈ es, e.g < hi
theorem LX.of {w : World} {lo hi : Nat} {v : Value} {es : List En} (h : LL w lo v es) (hh : hi = w.heap.size) : LX w lo hi v es := by
  subst hh
  exact ⟨h, own_lt h.row, fun e he => (h.ent e he).lt.2⟩
theorem LX.below {w w' : World} {lo hi B : Nat} {v : Value} {es : List En} (h : LX w lo hi v es) (hb : Below B w w') (hB : hi ≤ B) : LX w' lo hi v es :=
  ⟨⟨own_below h.ll.row (fun k hk => Nat.lt_of_lt_of_le (h.vb k hk) hB) hb, fun e he => own_below (h.ll.ent e he) (fun k hk => by rw [en_block] at hk; have := h.eb e he; omega) hb, h.ll.nd, h.ll.sh⟩, h.vb, h.eb⟩
theorem LX.only {w w' : World} {lo hi : Nat} {v : Value} {es : List En} {F : Nat → Prop} (h : LX w lo hi v es) (ho : Only F w w') (hF : ∀ q, F q → q < lo ∨ hi ≤ q) : LX w' lo hi v es := by
  refine ⟨⟨own_only h.ll.row ho (fun q hq1 hq2 => ?_), fun e he => own_only (h.ll.ent e he) ho (fun q hq1 hq2 => ?_), h.ll.nd, h.ll.sh⟩, h.vb, h.eb⟩
  · have h1 := (h.ll.row.lt q hq1).1
    have h2 := h.vb q hq1
    have := hF q hq2
    omega
  · rw [en_block] at hq1
    have h1 := (h.ll.ent e he).lt.1
    have h2 := h.eb e he
    have := hF q hq2
    omega
theorem LX.drewN {w : World} {lo hi : Nat} {v : Value} {es : List En} (h : LX w lo hi v es) (q : Nat) : LX (w.drewN q) lo hi v es := ⟨h.ll.drewN q, h.vb, h.eb⟩
theorem minR_len (vs : List Int) : (minR vs).length ≤ 65536 := by
  by_cases h : Ok vs
  · rw [minR_ok h]
    unfold minL
    rw [List.length_map]
    exact Nat.le_trans (fromN_len vs _ _ _) (show 2 ^ vs.length ≤ 2 ^ 16 from Nat.pow_le_pow_right (by omega) h.2.1)
  · rw [minR_bad h]
    simp
theorem es_len {vs : List Int} {es : List En} (h : es.map En.l = minR vs) : es.length ≤ 65536 := by
  have := congrArg List.length h
  rw [List.length_map] at this
  have := minR_len vs
  omega
structure QS (w2 W : World) (b2 b3 b4 b5 b6 b7 b8 b9 : Nat) (A1 : Option Addr) (c1 : Nat) (e1 : List En) (A2 : Option Addr) (c2 : Nat) (e2 : List En) (A3 : Option Addr) (c3 : Nat) (e3 : List En) (A4 : Option Addr) (c4 : Nat) (e4 : List En) (A5 : Option Addr) (c5 : Nat) (e5 : List En) (A6 : Option Addr) (c6 : Nat) (e6 : List En) (A7 : Option Addr) (c7 : Nat) (e7 : List En) : Prop where
  x1 : LX W b2 b3 (.slice A1 e1.length c1) e1
  x2 : LX W b3 b4 (.slice A2 e2.length c2) e2
  x3 : LX W b4 b5 (.slice A3 e3.length c3) e3
  x4 : LX W b5 b6 (.slice A4 e4.length c4) e4
  x5 : LX W b6 b7 (.slice A5 e5.length c5) e5
  x6 : LX W b7 b8 (.slice A6 e6.length c6) e6
  x7 : LX W b8 b9 (.slice A7 e7.length c7) e7
  bel : Below b2 w2 W
  big : b9 ≤ W.heap.size
  o1 : b2 ≤ b3
  o2 : b3 ≤ b4
  o3 : b4 ≤ b5
  o4 : b5 ≤ b6
  o5 : b6 ≤ b7
  o6 : b7 ≤ b8
  o7 : b8 ≤ b9
  w2b : b2 = w2.heap.size
section
variable {w2 W W' : World} {b2 b3 b4 b5 b6 b7 b8 b9 : Nat} {A1 : Option Addr} {c1 : Nat} {e1 : List En} {A2 : Option Addr} {c2 : Nat} {e2 : List En} {A3 : Option Addr} {c3 : Nat} {e3 : List En} {A4 : Option Addr} {c4 : Nat} {e4 : List En} {A5 : Option Addr} {c5 : Nat} {e5 : List En} {A6 : Option Addr} {c6 : Nat} {e6 : List En} {A7 : Option Addr} {c7 : Nat} {e7 : List En}
theorem QS.drewN (h : QS w2 W b2 b3 b4 b5 b6 b7 b8 b9 A1 c1 e1 A2 c2 e2 A3 c3 e3 A4 c4 e4 A5 c5 e5 A6 c6 e6 A7 c7 e7) (q : Nat) : QS w2 (W.drewN q) b2 b3 b4 b5 b6 b7 b8 b9 A1 c1 e1 A2 c2 e2 A3 c3 e3 A4 c4 e4 A5 c5 e5 A6 c6 e6 A7 c7 e7 :=
  ⟨h.x1.drewN q, h.x2.drewN q, h.x3.drewN q, h.x4.drewN q, h.x5.drewN q, h.x6.drewN q, h.x7.drewN q, below_drewN h.bel q, h.big, h.o1, h.o2, h.o3, h.o4, h.o5, h.o6, h.o7, h.w2b⟩
theorem QS.below (h : QS w2 W b2 b3 b4 b5 b6 b7 b8 b9 A1 c1 e1 A2 c2 e2 A3 c3 e3 A4 c4 e4 A5 c5 e5 A6 c6 e6 A7 c7 e7) (hb : Below b9 W W') : QS w2 W' b2 b3 b4 b5 b6 b7 b8 b9 A1 c1 e1 A2 c2 e2 A3 c3 e3 A4 c4 e4 A5 c5 e5 A6 c6 e6 A7 c7 e7 :=
  ⟨h.x1.below hb (by have := h.o1; have := h.o2; have := h.o3; have := h.o4; have := h.o5; have := h.o6; have := h.o7; omega), h.x2.below hb (by have := h.o1; have := h.o2; have := h.o3; have := h.o4; have := h.o5; have := h.o6; have := h.o7; omega), h.x3.below hb (by have := h.o1; have := h.o2; have := h.o3; have := h.o4; have := h.o5; have := h.o6; have := h.o7; omega), h.x4.below hb (by have := h.o1; have := h.o2; have := h.o3; have := h.o4; have := h.o5; have := h.o6; have := h.o7; omega), h.x5.below hb (by have := h.o1; have := h.o2; have := h.o3; have := h.o4; have := h.o5; have := h.o6; have := h.o7; omega), h.x6.below hb (by have := h.o1; have := h.o2; have := h.o3; have := h.o4; have := h.o5; have := h.o6; have := h.o7; omega), h.x7.below hb (by have := h.o1; have := h.o2; have := h.o3; have := h.o4; have := h.o5; have := h.o6; have := h.o7; omega), h.bel.trans (hb.mono (by have := h.o1; have := h.o2; have := h.o3; have := h.o4; have := h.o5; have := h.o6; have := h.o7; omega)), Nat.le_trans h.big hb.size, h.o1, h.o2, h.o3, h.o4, h.o5, h.o6, h.o7, h.w2b⟩
theorem QS.grown1 (h : QS w2 W b2 b3 b4 b5 b6 b7 b8 b9 A1 c1 e1 A2 c2 e2 A3 c3 e3 A4 c4 e4 A5 c5 e5 A6 c6 e6 A7 c7 e7) (hL : LL W' b2 (.slice A1 e1.length c1) e1) (ho : Only (fun q => (Value.slice A1 e1.length c1).ownBlock = some q) W W') : QS w2 W' b2 b3 b4 b5 b6 b7 b8 b9 A1 c1 e1 A2 c2 e2 A3 c3 e3 A4 c4 e4 A5 c5 e5 A6 c6 e6 A7 c7 e7 :=
  ⟨⟨hL, h.x1.vb, h.x1.eb⟩, h.x2.only ho (fun q hq => by have h1 := (h.x1.ll.row.lt q hq).1; have h2 := h.x1.vb q hq; have := h.o1; have := h.o2; have := h.o3; have := h.o4; have := h.o5; have := h.o6; have := h.o7; omega), h.x3.only ho (fun q hq => by have h1 := (h.x1.ll.row.lt q hq).1; have h2 := h.x1.vb q hq; have := h.o1; have := h.o2; have := h.o3; have := h.o4; have := h.o5; have := h.o6; have := h.o7; omega), h.x4.only ho (fun q hq => by have h1 := (h.x1.ll.row.lt q hq).1; have h2 := h.x1.vb q hq; have := h.o1; have := h.o2; have := h.o3; have := h.o4; have := h.o5; have := h.o6; have := h.o7; omega), h.x5.only ho (fun q hq => by have h1 := (h.x1.ll.row.lt q hq).1; have h2 := h.x1.vb q hq; have := h.o1; have := h.o2; have := h.o3; have := h.o4; have := h.o5; have := h.o6; have := h.o7; omega), h.x6.only ho (fun q hq => by have h1 := (h.x1.ll.row.lt q hq).1; have h2 := h.x1.vb q hq; have := h.o1; have := h.o2; have := h.o3; have := h.o4; have := h.o5; have := h.o6; have := h.o7; omega), h.x7.only ho (fun q hq => by have h1 := (h.x1.ll.row.lt q hq).1; have h2 := h.x1.vb q hq; have := h.o1; have := h.o2; have := h.o3; have := h.o4; have := h.o5; have := h.o6; have := h.o7; omega), h.bel.trans (ho.below (by have := h.bel.size; have := h.w2b; omega) (fun q hq1 hq2 => by have h1 := (h.x1.ll.row.lt q hq2).1; have := h.o1; have := h.o2; have := h.o3; omega)), Nat.le_trans h.big ho.size, h.o1, h.o2, h.o3, h.o4, h.o5, h.o6, h.o7, h.w2b⟩
theorem QS.grown2 (h : QS w2 W b2 b3 b4 b5 b6 b7 b8 b9 A1 c1 e1 A2 c2 e2 A3 c3 e3 A4 c4 e4 A5 c5 e5 A6 c6 e6 A7 c7 e7) (hL : LL W' b3 (.slice A2 e2.length c2) e2) (ho : Only (fun q => (Value.slice A2 e2.length c2).ownBlock = some q) W W') : QS w2 W' b2 b3 b4 b5 b6 b7 b8 b9 A1 c1 e1 A2 c2 e2 A3 c3 e3 A4 c4 e4 A5 c5 e5 A6 c6 e6 A7 c7 e7 :=
  ⟨h.x1.only ho (fun q hq => by have h1 := (h.x2.ll.row.lt q hq).1; have h2 := h.x2.vb q hq; have := h.o1; have := h.o2; have := h.o3; have := h.o4; have := h.o5; have := h.o6; have := h.o7; omega), ⟨hL, h.x2.vb, h.x2.eb⟩, h.x3.only ho (fun q hq => by have h1 := (h.x2.ll.row.lt q hq).1; have h2 := h.x2.vb q hq; have := h.o1; have := h.o2; have := h.o3; have := h.o4; have := h.o5; have := h.o6; have := h.o7; omega), h.x4.only ho (fun q hq => by have h1 := (h.x2.ll.row.lt q hq).1; have h2 := h.x2.vb q hq; have := h.o1; have := h.o2; have := h.o3; have := h.o4; have := h.o5; have := h.o6; have := h.o7; omega), h.x5.only ho (fun q hq => by have h1 := (h.x2.ll.row.lt q hq).1; have h2 := h.x2.vb q hq; have := h.o1; have := h.o2; have := h.o3; have := h.o4; have := h.o5; have := h.o6; have := h.o7; omega), h.x6.only ho (fun q hq => by have h1 := (h.x2.ll.row.lt q hq).1; have h2 := h.x2.vb q hq; have := h.o1; have := h.o2; have := h.o3; have := h.o4; have := h.o5; have := h.o6; have := h.o7; omega), h.x7.only ho (fun q hq => by have h1 := (h.x2.ll.row.lt q hq).1; have h2 := h.x2.vb q hq; have := h.o1; have := h.o2; have := h.o3; have := h.o4; have := h.o5; have := h.o6; have := h.o7; omega), h.bel.trans (ho.below (by have := h.bel.size; have := h.w2b; omega) (fun q hq1 hq2 => by have h1 := (h.x2.ll.row.lt q hq2).1; have := h.o1; have := h.o2; have := h.o3; omega)), Nat.le_trans h.big ho.size, h.o1, h.o2, h.o3, h.o4, h.o5, h.o6, h.o7, h.w2b⟩
theorem QS.lists16 (h : QS w2 W b2 b3 b4 b5 b6 b7 b8 b9 A1 c1 e1 A2 c2 e2 A3 c3 e3 A4 c4 e4 A5 c5 e5 A6 c6 e6 A7 c7 e7) (hl : e1.map En.l = e6.map En.l) (hn : e1.length ≤ 65536) :
    Calls Try.prog 38 #[(.slice A1 e1.length c1), (.slice A6 e6.length c6)] W fun e w' => e = .returned (.bool true) ∧ QS w2 w' b2 b3 b4 b5 b6 b7 b8 b9 A1 c1 e1 A2 c2 e2 A3 c3 e3 A4 c4 e4 A5 c5 e5 A6 c6 e6 A7 c7 e7 := by
  obtain ⟨_, _, p1, r1, _⟩ := h.x1.ll.lr
  obtain ⟨_, _, p2, r2, _⟩ := h.x6.ll.lr
  injection p1 with p1 _ _
  injection p2 with p2 _ _
  subst p1 p2
  exact (lists_true _ _ _ _ _ _ _ r1 r2 hl (by omega)).mono fun e w' hh => ⟨hh.1, by obtain ⟨q, rfl⟩ := hh.2; exact h.drewN q⟩
theorem QS.lists36 (h : QS w2 W b2 b3 b4 b5 b6 b7 b8 b9 A1 c1 e1 A2 c2 e2 A3 c3 e3 A4 c4 e4 A5 c5 e5 A6 c6 e6 A7 c7 e7) (hl : e3.map En.l = e6.map En.l) (hn : e3.length ≤ 65536) :
    Calls Try.prog 38 #[(.slice A3 e3.length c3), (.slice A6 e6.length c6)] W fun e w' => e = .returned (.bool true) ∧ QS w2 w' b2 b3 b4 b5 b6 b7 b8 b9 A1 c1 e1 A2 c2 e2 A3 c3 e3 A4 c4 e4 A5 c5 e5 A6 c6 e6 A7 c7 e7 := by
  obtain ⟨_, _, p1, r1, _⟩ := h.x3.ll.lr
  obtain ⟨_, _, p2, r2, _⟩ := h.x6.ll.lr
  injection p1 with p1 _ _
  injection p2 with p2 _ _
  subst p1 p2
  exact (lists_true _ _ _ _ _ _ _ r1 r2 hl (by omega)).mono fun e w' hh => ⟨hh.1, by obtain ⟨q, rfl⟩ := hh.2; exact h.drewN q⟩
theorem QS.lists27 (h : QS w2 W b2 b3 b4 b5 b6 b7 b8 b9 A1 c1 e1 A2 c2 e2 A3 c3 e3 A4 c4 e4 A5 c5 e5 A6 c6 e6 A7 c7 e7) (hl : e2.map En.l = e7.map En.l) (hn : e2.length ≤ 65536) :
    Calls Try.prog 38 #[(.slice A2 e2.length c2), (.slice A7 e7.length c7)] W fun e w' => e = .returned (.bool true) ∧ QS w2 w' b2 b3 b4 b5 b6 b7 b8 b9 A1 c1 e1 A2 c2 e2 A3 c3 e3 A4 c4 e4 A5 c5 e5 A6 c6 e6 A7 c7 e7 := by
  obtain ⟨_, _, p1, r1, _⟩ := h.x2.ll.lr
  obtain ⟨_, _, p2, r2, _⟩ := h.x7.ll.lr
  injection p1 with p1 _ _
  injection p2 with p2 _ _
  subst p1 p2
  exact (lists_true _ _ _ _ _ _ _ r1 r2 hl (by omega)).mono fun e w' hh => ⟨hh.1, by obtain ⟨q, rfl⟩ := hh.2; exact h.drewN q⟩
theorem QS.lists47 (h : QS w2 W b2 b3 b4 b5 b6 b7 b8 b9 A1 c1 e1 A2 c2 e2 A3 c3 e3 A4 c4 e4 A5 c5 e5 A6 c6 e6 A7 c7 e7) (hl : e4.map En.l = e7.map En.l) (hn : e4.length ≤ 65536) :
    Calls Try.prog 38 #[(.slice A4 e4.length c4), (.slice A7 e7.length c7)] W fun e w' => e = .returned (.bool true) ∧ QS w2 w' b2 b3 b4 b5 b6 b7 b8 b9 A1 c1 e1 A2 c2 e2 A3 c3 e3 A4 c4 e4 A5 c5 e5 A6 c6 e6 A7 c7 e7 := by
  obtain ⟨_, _, p1, r1, _⟩ := h.x4.ll.lr
  obtain ⟨_, _, p2, r2, _⟩ := h.x7.ll.lr
  injection p1 with p1 _ _
  injection p2 with p2 _ _
  subst p1 p2
  exact (lists_true _ _ _ _ _ _ _ r1 r2 hl (by omega)).mono fun e w' hh => ⟨hh.1, by obtain ⟨q, rfl⟩ := hh.2; exact h.drewN q⟩
theorem QS.lists57 (h : QS w2 W b2 b3 b4 b5 b6 b7 b8 b9 A1 c1 e1 A2 c2 e2 A3 c3 e3 A4 c4 e4 A5 c5 e5 A6 c6 e6 A7 c7 e7) (hl : e5.map En.l = e7.map En.l) (hn : e5.length ≤ 65536) :
    Calls Try.prog 38 #[(.slice A5 e5.length c5), (.slice A7 e7.length c7)] W fun e w' => e = .returned (.bool true) ∧ QS w2 w' b2 b3 b4 b5 b6 b7 b8 b9 A1 c1 e1 A2 c2 e2 A3 c3 e3 A4 c4 e4 A5 c5 e5 A6 c6 e6 A7 c7 e7 := by
  obtain ⟨_, _, p1, r1, _⟩ := h.x5.ll.lr
  obtain ⟨_, _, p2, r2, _⟩ := h.x7.ll.lr
  injection p1 with p1 _ _
  injection p2 with p2 _ _
  subst p1 p2
  exact (lists_true _ _ _ _ _ _ _ r1 r2 hl (by omega)).mono fun e w' hh => ⟨hh.1, by obtain ⟨q, rfl⟩ := hh.2; exact h.drewN q⟩
theorem QS.grow16 (h : QS w2 W b2 b3 b4 b5 b6 b7 b8 b9 A1 c1 e1 A2 c2 e2 A3 c3 e3 A4 c4 e4 A5 c5 e5 A6 c6 e6 A7 c7 e7) (hl : e1.map En.l = e6.map En.l) (hn : e1.length ≤ 65536) :
    Calls Try.prog 39 #[(.slice A1 e1.length c1), (.slice A6 e6.length c6)] W fun e w' => e = .returned (.bool true) ∧ QS w2 w' b2 b3 b4 b5 b6 b7 b8 b9 A1 c1 e1 A2 c2 e2 A3 c3 e3 A4 c4 e4 A5 c5 e5 A6 c6 e6 A7 c7 e7 :=
  (grown_true b2 b7 A1 A6 c1 c6 e1 e6 W h.x1.ll h.x6.ll hl (by omega) (by have := h.big; have := h.o1; have := h.o2; have := h.o3; have := h.o4; have := h.o5; have := h.o6; have := h.o7; omega) (fun q hq1 hq2 => by have h1 := h.x1.vb q hq1; have h2 := (h.x6.ll.row.lt q hq2).1; have := h.o1; have := h.o2; have := h.o3; have := h.o4; have := h.o5; have := h.o6; have := h.o7; omega)).mono fun e w' hh => ⟨hh.1, h.grown1 hh.2.1 hh.2.2⟩
theorem QS.grow27 (h : QS w2 W b2 b3 b4 b5 b6 b7 b8 b9 A1 c1 e1 A2 c2 e2 A3 c3 e3 A4 c4 e4 A5 c5 e5 A6 c6 e6 A7 c7 e7) (hl : e2.map En.l = e7.map En.l) (hn : e2.length ≤ 65536) :
    Calls Try.prog 39 #[(.slice A2 e2.length c2), (.slice A7 e7.length c7)] W fun e w' => e = .returned (.bool true) ∧ QS w2 w' b2 b3 b4 b5 b6 b7 b8 b9 A1 c1 e1 A2 c2 e2 A3 c3 e3 A4 c4 e4 A5 c5 e5 A6 c6 e6 A7 c7 e7 :=
  (grown_true b3 b8 A2 A7 c2 c7 e2 e7 W h.x2.ll h.x7.ll hl (by omega) (by have := h.big; have := h.o1; have := h.o2; have := h.o3; have := h.o4; have := h.o5; have := h.o6; have := h.o7; omega) (fun q hq1 hq2 => by have h1 := h.x2.vb q hq1; have h2 := (h.x7.ll.row.lt q hq2).1; have := h.o1; have := h.o2; have := h.o3; have := h.o4; have := h.o5; have := h.o6; have := h.o7; omega)).mono fun e w' hh => ⟨hh.1, h.grown2 hh.2.1 hh.2.2⟩
theorem QS.kept (h : QS w2 W b2 b3 b4 b5 b6 b7 b8 b9 A1 c1 e1 A2 c2 e2 A3 c3 e3 A4 c4 e4 A5 c5 e5 A6 c6 e6 A7 c7 e7) {g cap n c : Nat} {A : Option Addr} {vs : List Int} (hf : RI w2 b2 (some ⟨g, 0, none⟩) (n + 64) (vs ++ marks 64)) (hc : n + 64 ≤ cap) (hv : RI w2 b2 A n vs) (hn : n ≤ 17592186044416) :
    Calls Try.prog 27 #[.slice (some ⟨g, 0, none⟩) (n + 64) cap, .slice A n c] W fun e w' => e = .returned (.bool true) ∧ QS w2 w' b2 b3 b4 b5 b6 b7 b8 b9 A1 c1 e1 A2 c2 e2 A3 c3 e3 A4 c4 e4 A5 c5 e5 A6 c6 e6 A7 c7 e7 :=
  (kept_true _ _ _ _ _ _ _ vs W (Reads.below hf h.bel) hc (Reads.below hv h.bel) hn).mono fun e w' hh => ⟨hh.1, by obtain ⟨q, rfl⟩ := hh.2; exact h.drewN q⟩
end
/-- One more list at the end of all. -/
structure AL (W : World) (b2 b9 : Nat) (v : Value) (es : List En) : Prop where
  ll : LL W b2 v es
  row : W.ownsRow b9 32 1 v es.length (es.map En.v)
theorem AL.add {W W' : World} {b2 b9 lo hi : Nat} {v v2 v' : Value} {es es2 : List En} (h : AL W b2 b9 v es) (x : LX W lo hi v2 es2) (h2 : b2 ≤ lo) (hl : ∀ e ∈ es, e.g < lo)
    (hown : W'.ownsRow b9 32 1 v' (es.length + es2.length) (es.map En.v ++ es2.map En.v)) (hg : W.grownBy W' v.ownBlock) (hb : b2 ≤ b9) : AL W' b2 b9 v' (es ++ es2) :=
  ⟨LL.add h.ll (x.ll.base h2) hl (fun e he => (x.ll.ent e he).lt.1) (own_base' hown hb) hg, by rw [List.length_append, List.map_append]; exact hown⟩
theorem LX.reads {w : World} {lo hi n c : Nat} {A : Option Addr} {es : List En} (h : LX w lo hi (.slice A n c) es) : Reads w w.heap.size 1 A es.length (es.map En.v) := by
  obtain ⟨A', c', p, r, _⟩ := own_slice h.ll.row
  injection p with p _ _
  subst p
  exact r
section
variable {w2 W W' : World} {b2 b3 b4 b5 b6 b7 b8 b9 : Nat} {A1 : Option Addr} {c1 : Nat} {e1 : List En} {A2 : Option Addr} {c2 : Nat} {e2 : List En} {A3 : Option Addr} {c3 : Nat} {e3 : List En} {A4 : Option Addr} {c4 : Nat} {e4 : List En} {A5 : Option Addr} {c5 : Nat} {e5 : List En} {A6 : Option Addr} {c6 : Nat} {e6 : List En} {A7 : Option Addr} {c7 : Nat} {e7 : List En}
theorem QS.all (h : QS w2 W b2 b3 b4 b5 b6 b7 b8 b9 A1 c1 e1 A2 c2 e2 A3 c3 e3 A4 c4 e4 A5 c5 e5 A6 c6 e6 A7 c7 e7) {v : Value} {es : List En} (ha : AL W b2 b9 v es) (hg : W.grownBy W' v.ownBlock) : QS w2 W' b2 b3 b4 b5 b6 b7 b8 b9 A1 c1 e1 A2 c2 e2 A3 c3 e3 A4 c4 e4 A5 c5 e5 A6 c6 e6 A7 c7 e7 :=
  h.below ((Below.refl b9 W).grown hg h.big fun q hq => (ha.row.lt q hq).1)
end
end Go.Proofs.Yteckffndboiknaa
