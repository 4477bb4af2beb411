/-
  The reference's mark: a line read loosely, and held against itself. (Printed by wip/tools/mkrmk.py.)
-/
import Derived.Test.YtenebkkfjalcaaaDoorZFld
import Derived.Test.YtenebkkfjalcaaaDoorZGd
import Derived.Test.YtenebkkfjalcaaaDoorZLin
set_option linter.unusedVariables false
set_option linter.unusedSimpArgs false
namespace Go.Proofs.YtenebkkfjalcaaaDoor
open Go.RowKit Go.WideShapes Go.ChangeShapes Q

/-- A mark's box within the reference's mark, the result's box, and the pieces of the line. -/
structure RM (w W : World) (p : Nat) (m : Mk) (A : Option Addr) (cap : Nat) (ls : List (List UInt8)) : Prop where
  out : ∃ Z : Array Value, Z.size = 26 ∧ Blk W w.heap.size 48 Z
  hp : w.heap.size < p
  box : Blk W p 48 m.cs
  t : MkU W w.heap.size m
  low : Below w.heap.size w W
  row : W.ownsRow w.heap.size 9 1 (.slice A ls.length cap) ls.length (strs ls)
section
variable {w W W' : World} {p cap : Nat} {m m' : Mk} {A : Option Addr} {ls : List (List UInt8)}
theorem RM.step (h : RM w W p m A cap ls) (hb : Below W.heap.size W W') : RM w W' p m A cap ls := by
  obtain ⟨Z, hz, hZ⟩ := h.out
  exact ⟨⟨Z, hz, hZ.below hb hZ.lt⟩, h.hp, h.box.below hb h.box.lt, h.t.step hb, h.low.trans (hb.mono h.low.size), own_step h.row hb⟩
theorem RM.drewN (h : RM w W p m A cap ls) (n : Nat) : RM w (W.drewN n) p m A cap ls := h.step (below_drewN (Below.refl _ _) n)
theorem RM.drew (h : RM w W p m A cap ls) : RM w W.drew p m A cap ls := h.step (below_drewN (Below.refl _ _) 1)
theorem RM.turn (h : RM w W p m A cap ls) (hW : Only (fun q => q = p) W W') (hbox : Blk W' p 48 m'.cs) (ht : MkU W w.heap.size m') : RM w W' p m' A cap ls := by
  obtain ⟨Z, hz, hZ⟩ := h.out
  have hp := h.hp
  refine ⟨⟨Z, hz, hZ.only hW (by omega)⟩, hp, hbox, ht.far h.box (by decide) (by decide) (by decide) hW, h.low.trans (hW.below h.low.size (fun k hk => by omega)), own_only h.row hW ?_⟩
  intro g hg e
  subst e
  exact own_blk_ne h.row h.box (by decide) hg
theorem RM.set (h : RM w W p m A cap ls) (i : Nat) (v : Value) (hc : m.cs.setIfInBounds i v = m'.cs) (ht : MkU W w.heap.size m') : RM w (W.setCell ⟨p, i, none⟩ v) p m' A cap ls :=
  h.turn (only_setCell0 _ _ _ _) (hc ▸ h.box.set_ i v) ht
/-- Behind a call that made a new mark of it. -/
theorem RM.field (h : RM w W p m A cap ls) (ht : MkU W' w.heap.size m') (hlow : Below w.heap.size W W') (hk : ∀ g t cs, Blk W g t cs → t ≠ 69 → Blk W' g t cs) : RM w (W'.setRow p m'.cs) p m' A cap ls := by
  obtain ⟨Z, hz, hZ⟩ := h.out
  have hp := h.hp
  have hW := only_setRow W' p m'.cs
  have hbox := hk _ _ _ h.box (by decide)
  have hl := h.low.trans hlow
  have hrow := own_by_keep h.row (by decide) hk
  refine ⟨⟨Z, hz, (hk _ _ _ hZ (by decide)).only hW (by omega)⟩, hp, hbox.row _, ht.far hbox (by decide) (by decide) (by decide) hW, hl.trans (hW.below hl.size (fun k hk => by omega)), own_only hrow hW ?_⟩
  intro g hg e
  subst e
  exact own_blk_ne hrow hbox (by decide) hg
theorem RM.at (h : RM w W p m A cap ls) {k : Nat} (hk : k < ls.length) : ∃ g, A = some ⟨g, 0, none⟩ ∧ W.cell? ⟨g, k, none⟩ = some (.string (S (ls.getD k []))) := by
  obtain ⟨g, q, e, hp, hc⟩ := row_text h.row hk
  refine ⟨g, e, ?_⟩
  rw [hc]
  obtain ⟨h1, h2⟩ := List.getElem?_eq_some_iff.1 hp
  simp [h1, h2]
theorem RM.new (hZ : ∃ Z : Array Value, Z.size = 26 ∧ Blk W w.heap.size 48 Z) (hl : Below w.heap.size w W) (hr : W.ownsRow w.heap.size 9 1 (.slice A ls.length cap) ls.length (strs ls)) (m : Mk) (hm : ∀ V, MkU V w.heap.size m) (C : Array Value) : RM w ((W.alloc (.cells C 48)).setRow W.heap.size m.cs) W.heap.size m A cap ls := by
  obtain ⟨Z, hz, hZ⟩ := hZ
  have hlt := hZ.lt
  have hW := only_setRow (W.alloc (.cells C 48)) W.heap.size m.cs
  have hb : Below W.heap.size W (W.alloc (.cells C 48)) := (Below.refl _ _).alloc (Nat.le_refl _) _
  have hrow := own_step hr hb
  have hbx := Blk.new W 48 C
  refine ⟨⟨Z, hz, (hZ.below hb hlt).only hW (by omega)⟩, hlt, hbx.row _, hm _, ?_, own_only hrow hW ?_⟩
  · have h1 := hl.trans (hb.mono hl.size)
    exact h1.trans (hW.below h1.size (fun k hk => by omega))
  · intro g hg e
    subst e
    exact own_blk_ne hrow hbx (by decide) hg
end
/-- A kind's number, after so many words. -/
def kfold (k : List UInt8) (n : Nat) : Int := (List.range n).foldl (fun a i => if kindL.getD (i + 1) [] = k then ((i + 1 : Nat) : Int) else a) 0
theorem kfold_succ (k : List UInt8) (n : Nat) : kfold k (n + 1) = if kindL.getD (n + 1) [] = k then ((n + 1 : Nat) : Int) else kfold k n := by
  unfold kfold
  rw [List.range_succ, List.foldl_append]
  rfl
/-- What the first loop keeps. -/
def ALoop (m0 : Mk) (k : List UInt8) (p q : Nat) (A : Option Addr) (cap : Nat) (ls : List (List UInt8)) (w : World) (i : Value) (wr : World) : Prop := ∃ j : Nat, 1 ≤ j ∧ j ≤ 17 ∧ i = .int .i64 j ∧ RM w wr p { m0 with kd := kfold k (j - 1) } A cap ls ∧ Blk wr q 9 kindV ∧ p < q
/-- What the second loop keeps. -/
def BLoop (pm0 : PM) (r : List (List UInt8)) (p : Nat) (A : Option Addr) (cap : Nat) (ls : List (List UInt8)) (w : World) (i : Value) (wr : World) : Prop := ∃ (j : Nat) (m1 : Mk), 4 ≤ j ∧ j ≤ ls.length ∧ i = .int .i64 j ∧ m1.pm = (r.take (j - 4)).foldl fieldC pm0 ∧ RM w wr p m1 A cap ls
/-- Behind the mark's first numbers. -/
def CutR (m0 : Mk) (p : Nat) (A : Option Addr) (cap : Nat) (ls : List (List UInt8)) (w : World) (v : Value) (wr : World) : Prop := v = .pointer (some ⟨p, 0, none⟩) ∧ RM w wr p m0 A cap ls
theorem ex_build48 {o : Oper} {a : Act} {V : World} (x y z : Operand) (ho : o.op = .build 48 #[(0, x), (2, y), (3, z)]) (A B C : Int) (hx : a.eval x = .int .i64 A) (hy : a.eval y = .int .i64 B) (hz : a.eval z = .int .i64 C) :
    (execOp a.eval o).run Tryd.prog V = .ok (.value (.agg ({ Mk.zero with aT := A, nd := B, ic := C } : Mk).cs)) V := by
  unfold execOp
  simp only [ho, List.map_toArray, List.map_cons, List.map_nil, hx, hy, hz]
  go_simp
  rfl

set_option maxRecDepth 100000 in
set_option maxHeartbeats 8000000 in
theorem mark_short (s : ByteArray) (w : World) (hs : s.size ≤ 1048576) (h : ∀ ps, cutL 32 [] s.data.toList = some ps → ps.length < 4) :
    Calls Tryd.prog 26 #[.string s] w fun e w' => RdP s.data.toList w e w' := by
  have HN : Hid (∀ p, ¬ okPM p s.data.toList) := fun p hp => by
    have h1 := ok_ref hp
    unfold markC at h1
    split at h1
    · rename_i a k b i r h2
      have := h _ h2
      simp at this
      omega
    · cases h1
  have HC := hide (cut_any s 32 w.drew (by omega))
  have hs' : s.size ≤ 1000000000000 := by omega
  cases hc : cutL 32 [] s.data.toList with
  | none =>
    have HQ : Hid (∀ W, Calls Tryd.prog 48 #[.string s, .int .u8 (32 : Int)] W fun e w' => e = .returned (.tuple #[.slice none 0 0, .bool false]) ∧ Below W.heap.size W w') := fun W => by
      refine (cut_any s 32 W hs').mono ?_
      rintro e w' ⟨hb, ⟨ps, A, cap, h1, _⟩ | ⟨_, he⟩⟩
      · rw [hc] at h1; cases h1
      · exact ⟨he, hb⟩
    clear hc h HC
    go_enter Tryd.func26, Tryd.ntmps26
    go_upto_region 1 with fail
    generalize hW0 : World.alloc w _ = W0
    have hZ : ∃ Z : Array Value, Z.size = 26 ∧ Blk W0 w.heap.size 48 Z := by
      rw [← hW0]
      exact ⟨_, rfl, Blk.new _ _ _⟩
    have hL : Below w.heap.size w W0 := by rw [← hW0]; exact (Below.refl _ _).alloc (Nat.le_refl _) _
    clear hW0
    go_upto_region 3 with (go_at_call 48; refine (HQ.out _).mono ?_; rintro e w2 ⟨rfl, hb2⟩; have HB2 := hide hb2; clear hb2)
    obtain ⟨Z, hz, hZ0⟩ := hZ
    have hZ2 := hZ0.below HB2.out hZ0.lt
    have hL2 := hL.trans (HB2.out.mono hL.size)
    refine wp_region_lit ?_
    refine wpList_value rfl (.agg Mk.zero.cs) (by rw [zero_cs]; go_simp) ?_
    simp only [Act.put, List.setIfInBounds_toArray, List.set_cons_zero, List.set_cons_succ]
    refine wpList_put_at rfl 48 (.tmp 2) (.tmp 23) rfl w.heap.size 0 Mk.zero.cs rfl rfl 48 Z hZ2 (ld48 _ (mk_size _)) (by rw [mk_size, hz]; omega) (cs_all Mk.zero) _ (put_zero Z hz Mk.zero) ?_
    simp only [Act.put, List.setIfInBounds_toArray, List.set_cons_zero, List.set_cons_succ]
    go_wp2_with fail
    refine bodyPost_ret (results_48b rfl _ rfl (hZ2.row _) rfl) rfl ?_
    have hW := only_setRow w2 w.heap.size Mk.zero.cs
    refine ⟨Mk.zero, false, rfl, MkU.zero _ _, hL2.trans (hW.below hL2.size (fun k hk => by omega)), (fun h => by cases h), fun _ => HN.out⟩
  | some ps =>
    have hl := h ps hc
    have HQ : Hid (∀ W, Calls Tryd.prog 48 #[.string s, .int .u8 (32 : Int)] W fun e w' => (∃ A cap, e = .returned (.tuple #[.slice A ps.length cap, .bool true])) ∧ Below W.heap.size W w') := fun W => by
      refine (cut_any s 32 W hs').mono ?_
      rintro e w' ⟨hb, ⟨ps', A, cap, h1, he, ho, _⟩ | ⟨h1, _⟩⟩
      · rw [hc] at h1
        injection h1 with h1
        subst h1
        exact ⟨⟨A, cap, he⟩, hb⟩
      · rw [hc] at h1; cases h1
    have hl4 : (ps.length : Int) < 4 := by omega
    clear hc h HC
    go_enter Tryd.func26, Tryd.ntmps26
    go_upto_region 1 with fail
    generalize hW0 : World.alloc w _ = W0
    have hZ : ∃ Z : Array Value, Z.size = 26 ∧ Blk W0 w.heap.size 48 Z := by
      rw [← hW0]
      exact ⟨_, rfl, Blk.new _ _ _⟩
    have hL : Below w.heap.size w W0 := by rw [← hW0]; exact (Below.refl _ _).alloc (Nat.le_refl _) _
    clear hW0
    go_upto_region 3 with (go_at_call 48; refine (HQ.out _).mono ?_; rintro e w2 ⟨⟨A, cap, rfl⟩, hb2⟩; have HB2 := hide hb2; clear hb2)
    obtain ⟨Z, hz, hZ0⟩ := hZ
    have hZ2 := hZ0.below HB2.out hZ0.lt
    have hL2 := hL.trans (HB2.out.mono hL.size)
    refine wp_region_lit ?_
    refine wpList_value rfl (.agg Mk.zero.cs) (by rw [zero_cs]; go_simp) ?_
    simp only [Act.put, List.setIfInBounds_toArray, List.set_cons_zero, List.set_cons_succ]
    refine wpList_put_at rfl 48 (.tmp 2) (.tmp 23) rfl w.heap.size 0 Mk.zero.cs rfl rfl 48 Z hZ2 (ld48 _ (mk_size _)) (by rw [mk_size, hz]; omega) (cs_all Mk.zero) _ (put_zero Z hz Mk.zero) ?_
    simp only [Act.put, List.setIfInBounds_toArray, List.set_cons_zero, List.set_cons_succ]
    go_wp2_with fail
    refine bodyPost_ret (results_48b rfl _ rfl (hZ2.row _) rfl) rfl ?_
    have hW := only_setRow w2 w.heap.size Mk.zero.cs
    refine ⟨Mk.zero, false, rfl, MkU.zero _ _, hL2.trans (hW.below hL2.size (fun k hk => by omega)), (fun h => by cases h), fun _ => HN.out⟩
set_option maxRecDepth 100000 in
set_option maxHeartbeats 16000000 in
theorem mark_long (s : ByteArray) (w : World) (hs : s.size ≤ 1048576) (a k b i : List UInt8) (r : List (List UInt8)) (hc : cutL 32 [] s.data.toList = some (a :: k :: b :: i :: r)) :
    Calls Tryd.prog 26 #[.string s] w fun e w' => RdP s.data.toList w e w' := by
  have hs' : s.size ≤ 1000000000000 := by omega
  obtain ⟨ls, hls⟩ : ∃ ls, ls = a :: k :: b :: i :: r := ⟨_, rfl⟩
  obtain ⟨pm0, hpm0⟩ : ∃ pm0 : PM, pm0 = { PM.zero with aT := looseZ a, kd := kindC k, nd := looseZ b, ic := looseZ i } := ⟨_, rfl⟩
  obtain ⟨m0, hm0⟩ : ∃ m0 : Mk, m0 = { Mk.zero with aT := looseZ a, nd := looseZ b, ic := looseZ i } := ⟨_, rfl⟩
  have HMC : Hid (markC s.data.toList = some (r.foldl fieldC pm0)) := by
    show _ = _
    unfold markC
    rw [hc, hpm0]
  rw [← hls] at hc
  have HQ : Hid (∀ W, Calls Tryd.prog 48 #[.string s, .int .u8 (32 : Int)] W fun e w' => ∃ A cap, e = .returned (.tuple #[.slice A ls.length cap, .bool true]) ∧ w'.ownsRow W.heap.size 9 1 (.slice A ls.length cap) ls.length (strs ls) ∧ Below W.heap.size W w') := fun W => by
    refine (cut_any s 32 W hs').mono ?_
    rintro e w' ⟨hb, ⟨ps', A, cap, h1, he, ho, _⟩ | ⟨h1, _⟩⟩
    · rw [hc] at h1
      injection h1 with h1
      subst h1
      exact ⟨A, cap, he, ho, hb⟩
    · rw [hc] at h1; cases h1
  have HPL : Hid (∀ q ∈ ls, q.length ≤ s.size) := fun q hq => by
    have := cut_len _ 32 [] s.data.toList (Nat.le_refl _) ls hc q hq
    rw [List.length_nil, str_len] at this
    omega
  have hsum := cut_sum _ 32 [] s.data.toList (Nat.le_refl _) ls hc
  rw [List.length_nil, str_len] at hsum
  have HSR : Hid (sumL r ≤ s.size) := by
    show _ ≤ _
    rw [hls] at hsum
    simp only [sumL_cons, List.length_cons] at hsum
    omega
  have hll : ls.length ≤ 1048577 := by omega
  have hl4 : ls.length = r.length + 4 := by rw [hls]; rfl
  have HL4 := hide hl4
  have l4 : ¬ (ls.length : Int) < 4 := by omega
  have l0 : (0 : Int) < (ls.length : Int) := by omega
  have l1 : (1 : Int) < (ls.length : Int) := by omega
  have l2 : (2 : Int) < (ls.length : Int) := by omega
  have l3 : (3 : Int) < (ls.length : Int) := by omega
  have g0 : 0 < ls.length := by omega
  have g1 : 1 < ls.length := by omega
  have g2 : 2 < ls.length := by omega
  have g3 : 3 < ls.length := by omega
  have HG : Hid (ls.getD 0 [] = a ∧ ls.getD 1 [] = k ∧ ls.getD 2 [] = b ∧ ls.getD 3 [] = i ∧ ∀ q, q < r.length → ls.getD (4 + q) [] = r.getD q []) := by
    refine ⟨by rw [hls]; rfl, by rw [hls]; rfl, by rw [hls]; rfl, by rw [hls]; rfl, fun q hq => ?_⟩
    rw [hls, show 4 + q = q + 1 + 1 + 1 + 1 by omega]
    rfl
  have HLA : Hid (∀ W, Calls Tryd.prog 49 #[.string (S a)] W fun e w' => e = .returned (.int .i64 (looseZ a)) ∧ W = w') := fun W => looseS (by rw [S_size]; have := HPL.out a (by rw [hls]; simp); omega) W
  have HLB : Hid (∀ W, Calls Tryd.prog 49 #[.string (S b)] W fun e w' => e = .returned (.int .i64 (looseZ b)) ∧ W = w') := fun W => looseS (by rw [S_size]; have := HPL.out b (by rw [hls]; simp); omega) W
  have HLI : Hid (∀ W, Calls Tryd.prog 49 #[.string (S i)] W fun e w' => e = .returned (.int .i64 (looseZ i)) ∧ W = w') := fun W => looseS (by rw [S_size]; have := HPL.out i (by rw [hls]; simp); omega) W
  have HP0 : Hid (({ m0 with kd := kfold k 16 } : Mk).pm = pm0) := by
    show _ = _
    rw [hpm0, hm0]
    rfl
  have HP1 : Hid (PZ pm0 0 0) := by
    rw [hpm0]
    exact ⟨Nat.le_refl _, Nat.le_refl _, Nat.le_refl _, Nat.le_refl _, Nat.le_refl _, Nat.le_refl _, Nat.le_refl _⟩
  have HZ0 : Hid (({ m0 with kd := kfold k 0 } : Mk) = m0) := by
    show _ = _
    rw [hm0]
    rfl
  have HU0 : Hid (∀ V : World, MkU V w.heap.size m0) := fun V => by rw [hm0]; exact ⟨(MkU.zero V _).mem, (MkU.zero V _).tr, (MkU.zero V _).body, Nat.zero_le _, Nat.zero_le _, Nat.zero_le _⟩
  have HM0 := hide hm0
  clear hls hc hsum hl4 hpm0 hm0
  go_enter Tryd.func26, Tryd.ntmps26
  go_upto_region 1 with fail
  generalize hW0 : World.alloc w _ = W0
  have hZ : ∃ Z : Array Value, Z.size = 26 ∧ Blk W0 w.heap.size 48 Z := by
    rw [← hW0]
    exact ⟨_, rfl, Blk.new _ _ _⟩
  have hL : Below w.heap.size w W0 := by rw [← hW0]; exact (Below.refl _ _).alloc (Nat.le_refl _) _
  have HZ := hide hZ
  have HL := hide hL
  clear hW0 hZ hL
  go_upto_region 4 with (go_at_call 48; refine (HQ.out _).mono ?_; rintro e w2 ⟨A, cap, rfl, ho2, hb2⟩; have HB2 := hide hb2; have HO2 := hide (own_base ho2 HL.out.size); clear hb2 ho2)
  have HZ2 : Hid (∃ Z : Array Value, Z.size = 26 ∧ Blk w2 w.heap.size 48 Z) := by
    obtain ⟨Z, hz, hZ0⟩ := HZ.out
    exact ⟨Z, hz, hZ0.below HB2.out hZ0.lt⟩
  have HL2 : Hid (Below w.heap.size w w2) := HL.out.trans (HB2.out.mono HL.out.size)
  obtain ⟨g, p0, rfl, _, _⟩ := row_text HO2.out g0
  have HKR : Hid (∀ (V : World) (q : Nat), q < ls.length → V.ownsRow w.heap.size 9 1 (.slice (some ⟨g, 0, none⟩) ls.length cap) ls.length (strs ls) → V.cell? ⟨g, q, none⟩ = some (.string (S (ls.getD q [])))) := fun V q hq hV => by
    obtain ⟨g', p', e, hp, hc⟩ := row_text hV hq
    injection e with e
    injection e with e
    subst e
    rw [hc]
    obtain ⟨h1, h2⟩ := List.getElem?_eq_some_iff.1 hp
    simp [h1, h2]
  have HK0 : Hid (∀ V : World, V.ownsRow w.heap.size 9 1 (.slice (some ⟨g, 0, none⟩) ls.length cap) ls.length (strs ls) → V.cell? ⟨g, 0, none⟩ = some (.string (S a))) := fun V hV => by rw [← HG.out.1]; exact HKR.out V 0 g0 hV
  have HK1 : Hid (∀ V : World, V.ownsRow w.heap.size 9 1 (.slice (some ⟨g, 0, none⟩) ls.length cap) ls.length (strs ls) → V.cell? ⟨g, 1, none⟩ = some (.string (S k))) := fun V hV => by rw [← HG.out.2.1]; exact HKR.out V 1 g1 hV
  have HK2 : Hid (∀ V : World, V.ownsRow w.heap.size 9 1 (.slice (some ⟨g, 0, none⟩) ls.length cap) ls.length (strs ls) → V.cell? ⟨g, 2, none⟩ = some (.string (S b))) := fun V hV => by rw [← HG.out.2.2.1]; exact HKR.out V 2 g2 hV
  have HK3 : Hid (∀ V : World, V.ownsRow w.heap.size 9 1 (.slice (some ⟨g, 0, none⟩) ls.length cap) ls.length (strs ls) → V.cell? ⟨g, 3, none⟩ = some (.string (S i))) := fun V hV => by rw [← HG.out.2.2.2.1]; exact HKR.out V 3 g3 hV
  go_cut [6] (fun v wx => CutR m0 w2.heap.size (some ⟨g, 0, none⟩) cap ls w v wx)
  case first =>
    have HRa : Hid (w2.drew.ownsRow w.heap.size 9 1 (.slice (some ⟨g, 0, none⟩) ls.length cap) ls.length (strs ls)) := own_drewN HO2.out 1
    have HRb : Hid (∀ C : Array Value, (w2.drew.alloc (.cells C 48)).ownsRow w.heap.size 9 1 (.slice (some ⟨g, 0, none⟩) ls.length cap) ls.length (strs ls)) := fun C => own_step HRa.out ((Below.refl _ _).alloc (Nat.le_refl _) _)
    have HNEW : Hid (∀ C : Array Value, CutR m0 w2.heap.size (some ⟨g, 0, none⟩) cap ls w (.pointer (some ⟨w2.heap.size, 0, none⟩)) ((w2.drew.alloc (.cells C 48)).setRow w2.heap.size m0.cs)) := fun C => by
      refine ⟨rfl, ?_⟩
      obtain ⟨Z, hz, hZ⟩ := HZ2.out
      exact RM.new (W := w2.drew) ⟨Z, hz, hZ.drew⟩ (below_drewN HL2.out 1) HRa.out m0 HU0.out C
    refine wp_region_L [14] (fun V => V.ownsRow w.heap.size 9 1 (.slice (some ⟨g, 0, none⟩) ls.length cap) ls.length (strs ls)) (by kernel_rfl) ?_
    refine wpL_take 0 (oi := ⟨some 24, _, _, _, _, _⟩) (v := ?_) rfl (by kernel_rfl) (by kernel_rfl) (by kernel_rfl) (by kernel_rfl) (fun _ _ _ h => h) (Or.inl ⟨by rfl, ?_⟩) HRa.out ?_
    rotate_left
    · intro V hV
      go_simp
      try with_reducible rfl
    try simp only [Act.put, List.setIfInBounds_toArray, List.set_cons_zero, List.set_cons_succ]
    refine wpL_take 1 (oi := ⟨some 25, _, _, _, _, _⟩) (v := ?_) rfl (by kernel_rfl) (by kernel_rfl) (by kernel_rfl) (by kernel_rfl) (fun _ _ _ h => h) (Or.inl ⟨by rfl, ?_⟩) HRa.out ?_
    rotate_left
    · intro V hV
      go_simp
      try with_reducible rfl
    try simp only [Act.put, List.setIfInBounds_toArray, List.set_cons_zero, List.set_cons_succ]
    refine wpL_take 2 (oi := ⟨some 26, _, _, _, _, _⟩) (v := ?_) rfl (by kernel_rfl) (by kernel_rfl) (by kernel_rfl) (by kernel_rfl) (fun _ _ _ h => h) (Or.inl ⟨by rfl, ?_⟩) HRa.out ?_
    rotate_left
    · intro V hV
      have k0 := HK0.out V hV
      go_simp
      try with_reducible rfl
    try simp only [Act.put, List.setIfInBounds_toArray, List.set_cons_zero, List.set_cons_succ]
    refine wpL_take 4 (oi := ⟨some 28, _, _, _, _, _⟩) (v := ?_) rfl (by kernel_rfl) (by kernel_rfl) (by kernel_rfl) (by kernel_rfl) (fun _ _ _ h => h) (Or.inl ⟨by rfl, ?_⟩) HRa.out ?_
    rotate_left
    · intro V hV
      go_simp
      try with_reducible rfl
    try simp only [Act.put, List.setIfInBounds_toArray, List.set_cons_zero, List.set_cons_succ]
    refine wpL_take 5 (oi := ⟨some 29, _, _, _, _, _⟩) (v := ?_) rfl (by kernel_rfl) (by kernel_rfl) (by kernel_rfl) (by kernel_rfl) (fun _ _ _ h => h) (Or.inl ⟨by rfl, ?_⟩) HRa.out ?_
    rotate_left
    · intro V hV
      go_simp
      try with_reducible rfl
    try simp only [Act.put, List.setIfInBounds_toArray, List.set_cons_zero, List.set_cons_succ]
    refine wpL_take 6 (oi := ⟨some 30, _, _, _, _, _⟩) (v := ?_) rfl (by kernel_rfl) (by kernel_rfl) (by kernel_rfl) (by kernel_rfl) (fun _ _ _ h => h) (Or.inl ⟨by rfl, ?_⟩) HRa.out ?_
    rotate_left
    · intro V hV
      have k1 := HK2.out V hV
      go_simp
      try with_reducible rfl
    try simp only [Act.put, List.setIfInBounds_toArray, List.set_cons_zero, List.set_cons_succ]
    refine wpL_take 8 (oi := ⟨some 32, _, _, _, _, _⟩) (v := ?_) rfl (by kernel_rfl) (by kernel_rfl) (by kernel_rfl) (by kernel_rfl) (fun _ _ _ h => h) (Or.inl ⟨by rfl, ?_⟩) HRa.out ?_
    rotate_left
    · intro V hV
      go_simp
      try with_reducible rfl
    try simp only [Act.put, List.setIfInBounds_toArray, List.set_cons_zero, List.set_cons_succ]
    refine wpL_take 9 (oi := ⟨some 33, _, _, _, _, _⟩) (v := ?_) rfl (by kernel_rfl) (by kernel_rfl) (by kernel_rfl) (by kernel_rfl) (fun _ _ _ h => h) (Or.inl ⟨by rfl, ?_⟩) HRa.out ?_
    rotate_left
    · intro V hV
      go_simp
      try with_reducible rfl
    try simp only [Act.put, List.setIfInBounds_toArray, List.set_cons_zero, List.set_cons_succ]
    refine wpL_take 10 (oi := ⟨some 34, _, _, _, _, _⟩) (v := ?_) rfl (by kernel_rfl) (by kernel_rfl) (by kernel_rfl) (by kernel_rfl) (fun _ _ _ h => h) (Or.inl ⟨by rfl, ?_⟩) HRa.out ?_
    rotate_left
    · intro V hV
      have k2 := HK3.out V hV
      go_simp
      try with_reducible rfl
    try simp only [Act.put, List.setIfInBounds_toArray, List.set_cons_zero, List.set_cons_succ]
    refine wpL_two 3 13 (by kernel_rfl) rfl rfl (fun K hK => ?_) (fun K hK => ?_)
    · rw [if_pos (by rfl)]
      go_simp
      go_at_call 49
      refine (HLA.out _).mono ?_
      rintro e w9 ⟨rfl, rfl⟩
      refine hK _ _ (fun _ => HRa.out) ?_
      clear hK K
      try simp only [Act.put, List.setIfInBounds_toArray, List.set_cons_zero, List.set_cons_succ]
      refine wpL_two 7 13 (by kernel_rfl) rfl rfl (fun K hK => ?_) (fun K hK => ?_)
      · rw [if_pos (by rfl)]
        go_simp
        go_at_call 49
        refine (HLB.out _).mono ?_
        rintro e w9 ⟨rfl, rfl⟩
        refine hK _ _ (fun _ => HRa.out) ?_
        clear hK K
        try simp only [Act.put, List.setIfInBounds_toArray, List.set_cons_zero, List.set_cons_succ]
        refine wpL_two 11 13 (by kernel_rfl) rfl rfl (fun K hK => ?_) (fun K hK => ?_)
        · rw [if_pos (by rfl)]
          go_simp
          go_at_call 49
          refine (HLI.out _).mono ?_
          rintro e w9 ⟨rfl, rfl⟩
          refine hK _ _ (fun _ => HRa.out) ?_
          clear hK K
          try simp only [Act.put, List.setIfInBounds_toArray, List.set_cons_zero, List.set_cons_succ]
          have HRx := hide (HRa.out)
          refine wpL_take 12 (oi := ⟨some 36, _, _, _, _, _⟩) (v := .agg m0.cs) rfl (by kernel_rfl) (by kernel_rfl) (by kernel_rfl) (by kernel_rfl) (fun _ _ _ h => h) (Or.inl ⟨by rfl, ?_⟩) HRx.out ?_
          · intro V hV
            rw [HM0.out]; exact ex_build48 (.tmp 27) (.tmp 31) (.tmp 35) rfl _ _ _ rfl rfl rfl
          try simp only [Act.put, List.setIfInBounds_toArray, List.set_cons_zero, List.set_cons_succ]
          refine wpL_one 13 (by kernel_rfl) rfl (fun K hK => ?_)
          rw [if_pos (by rfl)]
          go_simp
          refine hK _ _ (fun _ => HRb.out _) ?_
          clear hK K
          try simp only [Act.put, List.setIfInBounds_toArray, List.set_cons_zero, List.set_cons_succ]
          refine wpL_one 14 (by kernel_rfl) rfl (fun K hK => one_skip (by rfl) (run_put_at 48 (.tmp 6) (.tmp 36) rfl w2.heap.size 0 m0.cs rfl rfl 48 _ (Blk.new w2.drew _ _) (ld48 _ (mk_size _)) (by rw [mk_size]; exact Nat.le_refl _) (cs_all m0) _ (put_zero _ rfl m0)) (hK _ _ (fun h => by cases h) ?_))
          clear hK K
          try simp only [Act.put, List.setIfInBounds_toArray, List.set_cons_zero, List.set_cons_succ]
          refine wpL_done (by kernel_rfl) ?_ _
          go_wp2_with fail
          go_meet
          exact HNEW.out _
        · rw [if_pos (by rfl)]
          go_simp
          refine hK _ _ (fun _ => HRb.out _) ?_
          clear hK K
          try simp only [Act.put, List.setIfInBounds_toArray, List.set_cons_zero, List.set_cons_succ]
          refine wpL_one 11 (by kernel_rfl) rfl (fun K hK => ?_)
          rw [if_pos (by rfl)]
          go_simp
          go_at_call 49
          refine (HLI.out _).mono ?_
          rintro e w9 ⟨rfl, rfl⟩
          refine hK _ _ (fun _ => HRb.out _) ?_
          clear hK K
          try simp only [Act.put, List.setIfInBounds_toArray, List.set_cons_zero, List.set_cons_succ]
          have HRx := hide (HRb.out #[.int .i64 0, .int .i64 0, .int .i64 0, .int .i64 0, .int .i64 0, .int .i64 0, .int .i64 0, .int .i64 0, .slice none 0 0, .slice none 0 0, .int .i64 0, .int .i64 0, .int .i64 0, .int .i64 0, .slice none 0 0, .int .i64 0, .int .i64 0, .int .i64 0, .int .i64 0, .string ⟨#[]⟩, .string ⟨#[]⟩, .string ⟨#[]⟩, .int .i64 0, .string ⟨#[]⟩, .int .i64 0, .int .i64 0])
          refine wpL_take 12 (oi := ⟨some 36, _, _, _, _, _⟩) (v := .agg m0.cs) rfl (by kernel_rfl) (by kernel_rfl) (by kernel_rfl) (by kernel_rfl) (fun _ _ _ h => h) (Or.inl ⟨by rfl, ?_⟩) HRx.out ?_
          · intro V hV
            rw [HM0.out]; exact ex_build48 (.tmp 27) (.tmp 31) (.tmp 35) rfl _ _ _ rfl rfl rfl
          try simp only [Act.put, List.setIfInBounds_toArray, List.set_cons_zero, List.set_cons_succ]
          refine wpL_one 14 (by kernel_rfl) rfl (fun K hK => one_skip (by rfl) (run_put_at 48 (.tmp 6) (.tmp 36) rfl w2.heap.size 0 m0.cs rfl rfl 48 _ (Blk.new w2.drew _ _) (ld48 _ (mk_size _)) (by rw [mk_size]; exact Nat.le_refl _) (cs_all m0) _ (put_zero _ rfl m0)) (hK _ _ (fun h => by cases h) ?_))
          clear hK K
          try simp only [Act.put, List.setIfInBounds_toArray, List.set_cons_zero, List.set_cons_succ]
          refine wpL_done (by kernel_rfl) ?_ _
          go_wp2_with fail
          go_meet
          exact HNEW.out _
      · rw [if_pos (by rfl)]
        go_simp
        refine hK _ _ (fun _ => HRb.out _) ?_
        clear hK K
        try simp only [Act.put, List.setIfInBounds_toArray, List.set_cons_zero, List.set_cons_succ]
        refine wpL_one 7 (by kernel_rfl) rfl (fun K hK => ?_)
        rw [if_pos (by rfl)]
        go_simp
        go_at_call 49
        refine (HLB.out _).mono ?_
        rintro e w9 ⟨rfl, rfl⟩
        refine hK _ _ (fun _ => HRb.out _) ?_
        clear hK K
        try simp only [Act.put, List.setIfInBounds_toArray, List.set_cons_zero, List.set_cons_succ]
        refine wpL_one 11 (by kernel_rfl) rfl (fun K hK => ?_)
        rw [if_pos (by rfl)]
        go_simp
        go_at_call 49
        refine (HLI.out _).mono ?_
        rintro e w9 ⟨rfl, rfl⟩
        refine hK _ _ (fun _ => HRb.out _) ?_
        clear hK K
        try simp only [Act.put, List.setIfInBounds_toArray, List.set_cons_zero, List.set_cons_succ]
        have HRx := hide (HRb.out #[.int .i64 0, .int .i64 0, .int .i64 0, .int .i64 0, .int .i64 0, .int .i64 0, .int .i64 0, .int .i64 0, .slice none 0 0, .slice none 0 0, .int .i64 0, .int .i64 0, .int .i64 0, .int .i64 0, .slice none 0 0, .int .i64 0, .int .i64 0, .int .i64 0, .int .i64 0, .string ⟨#[]⟩, .string ⟨#[]⟩, .string ⟨#[]⟩, .int .i64 0, .string ⟨#[]⟩, .int .i64 0, .int .i64 0])
        refine wpL_take 12 (oi := ⟨some 36, _, _, _, _, _⟩) (v := .agg m0.cs) rfl (by kernel_rfl) (by kernel_rfl) (by kernel_rfl) (by kernel_rfl) (fun _ _ _ h => h) (Or.inl ⟨by rfl, ?_⟩) HRx.out ?_
        · intro V hV
          rw [HM0.out]; exact ex_build48 (.tmp 27) (.tmp 31) (.tmp 35) rfl _ _ _ rfl rfl rfl
        try simp only [Act.put, List.setIfInBounds_toArray, List.set_cons_zero, List.set_cons_succ]
        refine wpL_one 14 (by kernel_rfl) rfl (fun K hK => one_skip (by rfl) (run_put_at 48 (.tmp 6) (.tmp 36) rfl w2.heap.size 0 m0.cs rfl rfl 48 _ (Blk.new w2.drew _ _) (ld48 _ (mk_size _)) (by rw [mk_size]; exact Nat.le_refl _) (cs_all m0) _ (put_zero _ rfl m0)) (hK _ _ (fun h => by cases h) ?_))
        clear hK K
        try simp only [Act.put, List.setIfInBounds_toArray, List.set_cons_zero, List.set_cons_succ]
        refine wpL_done (by kernel_rfl) ?_ _
        go_wp2_with fail
        go_meet
        exact HNEW.out _
    · rw [if_pos (by rfl)]
      go_simp
      refine hK _ _ (fun _ => HRb.out _) ?_
      clear hK K
      try simp only [Act.put, List.setIfInBounds_toArray, List.set_cons_zero, List.set_cons_succ]
      refine wpL_one 3 (by kernel_rfl) rfl (fun K hK => ?_)
      rw [if_pos (by rfl)]
      go_simp
      go_at_call 49
      refine (HLA.out _).mono ?_
      rintro e w9 ⟨rfl, rfl⟩
      refine hK _ _ (fun _ => HRb.out _) ?_
      clear hK K
      try simp only [Act.put, List.setIfInBounds_toArray, List.set_cons_zero, List.set_cons_succ]
      refine wpL_one 7 (by kernel_rfl) rfl (fun K hK => ?_)
      rw [if_pos (by rfl)]
      go_simp
      go_at_call 49
      refine (HLB.out _).mono ?_
      rintro e w9 ⟨rfl, rfl⟩
      refine hK _ _ (fun _ => HRb.out _) ?_
      clear hK K
      try simp only [Act.put, List.setIfInBounds_toArray, List.set_cons_zero, List.set_cons_succ]
      refine wpL_one 11 (by kernel_rfl) rfl (fun K hK => ?_)
      rw [if_pos (by rfl)]
      go_simp
      go_at_call 49
      refine (HLI.out _).mono ?_
      rintro e w9 ⟨rfl, rfl⟩
      refine hK _ _ (fun _ => HRb.out _) ?_
      clear hK K
      try simp only [Act.put, List.setIfInBounds_toArray, List.set_cons_zero, List.set_cons_succ]
      have HRx := hide (HRb.out #[.int .i64 0, .int .i64 0, .int .i64 0, .int .i64 0, .int .i64 0, .int .i64 0, .int .i64 0, .int .i64 0, .slice none 0 0, .slice none 0 0, .int .i64 0, .int .i64 0, .int .i64 0, .int .i64 0, .slice none 0 0, .int .i64 0, .int .i64 0, .int .i64 0, .int .i64 0, .string ⟨#[]⟩, .string ⟨#[]⟩, .string ⟨#[]⟩, .int .i64 0, .string ⟨#[]⟩, .int .i64 0, .int .i64 0])
      refine wpL_take 12 (oi := ⟨some 36, _, _, _, _, _⟩) (v := .agg m0.cs) rfl (by kernel_rfl) (by kernel_rfl) (by kernel_rfl) (by kernel_rfl) (fun _ _ _ h => h) (Or.inl ⟨by rfl, ?_⟩) HRx.out ?_
      · intro V hV
        rw [HM0.out]; exact ex_build48 (.tmp 27) (.tmp 31) (.tmp 35) rfl _ _ _ rfl rfl rfl
      try simp only [Act.put, List.setIfInBounds_toArray, List.set_cons_zero, List.set_cons_succ]
      refine wpL_one 14 (by kernel_rfl) rfl (fun K hK => one_skip (by rfl) (run_put_at 48 (.tmp 6) (.tmp 36) rfl w2.heap.size 0 m0.cs rfl rfl 48 _ (Blk.new w2.drew _ _) (ld48 _ (mk_size _)) (by rw [mk_size]; exact Nat.le_refl _) (cs_all m0) _ (put_zero _ rfl m0)) (hK _ _ (fun h => by cases h) ?_))
      clear hK K
      try simp only [Act.put, List.setIfInBounds_toArray, List.set_cons_zero, List.set_cons_succ]
      refine wpL_done (by kernel_rfl) ?_ _
      go_wp2_with fail
      go_meet
      exact HNEW.out _
  case rest =>
    obtain ⟨rfl, hrm⟩ := hcut
    obtain ⟨p, hp⟩ : ∃ p, p = w2.heap.size := ⟨_, rfl⟩
    rw [← hp] at hrm ⊢
    have HR := hide hrm
    clear hrm hp HZ2 HL2 HO2 HB2 HQ HLA HLB HLI HK0 HK2 HK3
    go_upto_region 7 with (go_at_call 35; refine (words_any _).mono ?_; rintro e w3 ⟨rfl, hw3⟩; have HR3 : Hid (RM w w3 p m0 (some ⟨g, 0, none⟩) cap ls) := (by subst hw3; exact HR.out.step ((Below.refl _ _).alloc (Nat.le_refl _) _)); have HW3 : Hid (Blk w3 wc.heap.size 9 kindV) := (by subst hw3; exact Blk.new _ _ _); clear hw3)
    obtain ⟨q, hq⟩ : ∃ q, q = wc.heap.size := ⟨_, rfl⟩
    have hpq : p < q := by rw [hq]; exact HR.out.box.lt
    rw [← hq] at HW3 ⊢
    have HL1 : Hid (ALoop m0 k p q (some ⟨g, 0, none⟩) cap ls w (.int .i64 1) w3) := ⟨1, Nat.le_refl _, by omega, rfl, by rw [show 1 - 1 = 0 from rfl, HZ0.out]; exact HR3.out, HW3.out, hpq⟩
    clear hq HR hpq
    go_loopw [8] (fun v wr => ALoop m0 k p q (some ⟨g, 0, none⟩) cap ls w v wr) (fun v _ => 17 - (intOf v).toNat)
    case atStart => exact HL1.out
    case round =>
      clear HL1 HR3 HW3
      unfold ALoop at hrel
      obtain ⟨j, hj1, hj2, rfl, hrm, hkv, hpq⟩ := hrel
      have HR := hide hrm
      have HKV := hide hkv
      clear hrm hkv
      have j0 : (0 : Int) ≤ (j : Int) := by omega
      by_cases hlt : j < 17
      · have js : (j : Int) < 17 := by omega
        obtain ⟨X, hX⟩ : ∃ X, X = S (kindL.getD j []) := ⟨_, rfl⟩
        obtain ⟨Y, hY⟩ : ∃ Y, Y = S k := ⟨_, rfl⟩
        have cq : wr.cell? ⟨q, j, none⟩ = some (.string X) := by rw [HKV.out.cell j, hX]; exact kindV_at hlt
        have cl : wr.cell? ⟨g, 1, none⟩ = some (.string Y) := by rw [hY]; exact HK1.out wr HR.out.row
        have c1 := HR.out.box.cell 1
        have f1 := Blk.frozen HR.out.box 1
        rw [show (({ m0 with kd := kfold k (j - 1) } : Mk).cs)[1]? = some (.int .i64 (kfold k (j - 1))) from rfl] at c1
        have HKF := hide (kfold_succ k (j - 1))
        rw [show j - 1 + 1 = j by omega] at HKF
        by_cases he : kindL.getD j [] = k
        · have e1 : (X.toList == Y.toList) = true := by rw [hX, hY, he]; exact beq_self_eq_true _
          rw [if_pos he] at HKF
          clear hX hY he
          go_wp2_with fail
          go_quiet (fail)
          go_wp2_with fail
          generalize hw5 : World.setCell _ _ _ = w5
          have HR5 : Hid (RM w w5 p { m0 with kd := kfold k (j + 1 - 1) } (some ⟨g, 0, none⟩) cap ls) := by
            show RM _ _ _ _ _ _ _
            rw [← hw5, show j + 1 - 1 = j by omega, HKF.out]
            exact (HR.out.drewN _).set 1 _ (set_kd _ _) ⟨(HR.out.drewN _).t.mem, (HR.out.drewN _).t.tr, (HR.out.drewN _).t.body, HR.out.t.hm, HR.out.t.ht, HR.out.t.hb⟩
          have HK5 : Hid (Blk w5 q 9 kindV) := by
            show Blk _ _ _ _
            rw [← hw5]
            exact (HKV.out.drewN _).far (by show q ≠ p; omega) _
          clear hw5
          have HL5 : Hid (ALoop m0 k p q (some ⟨g, 0, none⟩) cap ls w (.int .i64 ((j : Int) + 1)) w5) := ⟨j + 1, by omega, by omega, by go_num, HR5.out, HK5.out, hpq⟩
          go_wp2_with fail
          go_roundw
          case rel => first | exact HL5.out | exact ⟨_, HL5.out, rfl⟩
          case measure => simp [intOf]; omega
        · have e1 : (X.toList == Y.toList) = false := by
            rw [beq_eq_false_iff_ne, hX, hY, ByteArray.toList_eq, ByteArray.toList_eq]
            exact he
          rw [if_neg he] at HKF
          clear hX hY he
          go_wp2_with fail
          go_quiet (fail)
          go_wp2_with fail
          have HL5 : Hid (∀ n, ALoop m0 k p q (some ⟨g, 0, none⟩) cap ls w (.int .i64 ((j : Int) + 1)) (wr.drewN n)) := fun n => by
            refine ⟨j + 1, by omega, by omega, by go_num, ?_, HKV.out.drewN _, hpq⟩
            rw [show j + 1 - 1 = j by omega, HKF.out]
            exact HR.out.drewN n
          go_roundw
          case rel => first | exact HL5.out _ | exact ⟨_, HL5.out _, rfl⟩
          case measure => simp [intOf]; omega
      · have hj17 : j = 17 := by omega
        have js : ¬ (j : Int) < 17 := by omega
        have HL2 : Hid (BLoop pm0 r p (some ⟨g, 0, none⟩) cap ls w (.int .i64 4) wr) := by
          refine ⟨4, { m0 with kd := kfold k 16 }, Nat.le_refl _, by omega, rfl, ?_, ?_⟩
          · rw [HP0.out]
            rfl
          · have := HR.out
            rw [hj17] at this
            exact this
        clear hlt hj17 hj1 hj2
        go_upto_region 12 with fail
        go_loopw [9] (fun v wx => BLoop pm0 r p (some ⟨g, 0, none⟩) cap ls w v wx) (fun v _ => ls.length - (intOf v).toNat)
        case atStart => exact HL2.out
        case round =>
          clear HL2 HR HKV
          unfold BLoop at hrel
          obtain ⟨j2, m1, hj3, hj4, rfl, hpm, hrm⟩ := hrel
          have HR := hide hrm
          have HPM := hide hpm
          have HPZ : Hid (PZ m1.pm (sumL r) (sumL r)) := by
            rw [hpm]
            have h1 := fold_sz (r.take (j2 - 4)) pm0 0 0 HP1.out
            have h2 := sumL_take r (j2 - 4)
            exact h1.mono (by omega) (by omega)
          have hnm : m1.nm ≤ 4000000 := by
            have h1 := RS.len hrm.t.inn.mem
            have h2 := HPZ.out.ms
            have h3 := HSR.out
            simp only [Mk.pm] at h2
            omega
          clear hrm hpm
          have j20 : (0 : Int) ≤ (j2 : Int) := by omega
          by_cases hlt2 : j2 < ls.length
          · have js2 : (j2 : Int) < (ls.length : Int) := by omega
            obtain ⟨P, hP⟩ : ∃ P, P = ls.getD j2 [] := ⟨_, rfl⟩
            have HPS : Hid ((S P).size ≤ 5000000) := by
              show _ ≤ _
              rw [S_size, hP]
              have := getD_len HPL.out j2
              omega
            have HPN : Hid ((r.take (j2 + 1 - 4)).foldl fieldC pm0 = fieldC m1.pm P) := by
              show _ = _
              have h1 := HL4.out
              have hq : j2 - 4 < r.length := by omega
              rw [show j2 + 1 - 4 = (j2 - 4) + 1 by omega, List.take_succ_eq_append_getElem hq, List.foldl_append, ← HPM.out, hP]
              have h2 := HG.out.2.2.2.2 (j2 - 4) hq
              rw [show 4 + (j2 - 4) = j2 by omega] at h2
              rw [h2]
              simp [hq]
            have HKP : Hid (∀ V : World, V.ownsRow w.heap.size 9 1 (.slice (some ⟨g, 0, none⟩) ls.length cap) ls.length (strs ls) → V.cell? ⟨g, j2, none⟩ = some (.string (S P))) := fun V hV => by rw [hP]; exact HKR.out V j2 hlt2 hV
            clear hP
            go_upto_region 14 with fail
            have HX := hide HR.out.drew
            refine wp_region_L [6] (fun V => Blk V p 48 m1.cs ∧ V.ownsRow w.heap.size 9 1 (.slice (some ⟨g, 0, none⟩) ls.length cap) ls.length (strs ls)) (by kernel_rfl) ?_
            have HY : Hid (Blk wr.drew p 48 m1.cs ∧ wr.drew.ownsRow w.heap.size 9 1 (.slice (some ⟨g, 0, none⟩) ls.length cap) ls.length (strs ls)) := ⟨HX.out.box, HX.out.row⟩
            refine wpL_take 0 (oi := ⟨some 60, _, _, _, _, _⟩) (v := .agg m1.cs) rfl (by kernel_rfl) (by kernel_rfl) (by kernel_rfl) (by kernel_rfl) (fun _ _ _ h => h) (Or.inl ⟨by rfl, ?_⟩) HY.out ?_
            · intro V hV
              exact ex_load 48 (.tmp 6) rfl _ rfl m1.cs _ Tryd.underlying48 rfl (ld48 _ (mk_size _)) (box_all hV.1)
            try simp only [Act.put, List.setIfInBounds_toArray, List.set_cons_zero, List.set_cons_succ]
            refine wpL_take 1 (oi := ⟨some 61, _, _, _, _, _⟩) (v := ?_) rfl (by kernel_rfl) (by kernel_rfl) (by kernel_rfl) (by kernel_rfl) (fun _ _ _ h => h) (Or.inl ⟨by rfl, ?_⟩) HY.out ?_
            rotate_left
            · intro V hV
              go_simp
              try with_reducible rfl
            try simp only [Act.put, List.setIfInBounds_toArray, List.set_cons_zero, List.set_cons_succ]
            refine wpL_take 2 (oi := ⟨some 62, _, _, _, _, _⟩) (v := ?_) rfl (by kernel_rfl) (by kernel_rfl) (by kernel_rfl) (by kernel_rfl) (fun _ _ _ h => h) (Or.inl ⟨by rfl, ?_⟩) HY.out ?_
            rotate_left
            · intro V hV
              go_simp
              try with_reducible rfl
            try simp only [Act.put, List.setIfInBounds_toArray, List.set_cons_zero, List.set_cons_succ]
            refine wpL_take 3 (oi := ⟨some 63, _, _, _, _, _⟩) (v := ?_) rfl (by kernel_rfl) (by kernel_rfl) (by kernel_rfl) (by kernel_rfl) (fun _ _ _ h => h) (Or.inl ⟨by rfl, ?_⟩) HY.out ?_
            rotate_left
            · intro V hV
              go_simp
              try with_reducible rfl
            try simp only [Act.put, List.setIfInBounds_toArray, List.set_cons_zero, List.set_cons_succ]
            refine wpL_take 4 (oi := ⟨some 64, _, _, _, _, _⟩) (v := ?_) rfl (by kernel_rfl) (by kernel_rfl) (by kernel_rfl) (by kernel_rfl) (fun _ _ _ h => h) (Or.inl ⟨by rfl, ?_⟩) HY.out ?_
            rotate_left
            · intro V hV
              have k9 := HKP.out V hV.2
              go_simp
              try with_reducible rfl
            try simp only [Act.put, List.setIfInBounds_toArray, List.set_cons_zero, List.set_cons_succ]
            have HFD := hide (field_any m1 (S P) w.heap.size wr.drew HX.out.t HX.out.low.size HPS.out hnm)
            refine wpL_one 5 (by kernel_rfl) rfl (fun K hK => ?_)
            rw [if_pos (by rfl)]
            go_simp
            go_at_call 50
            refine HFD.out.mono ?_
            rintro e w9 ⟨m2, rfl, hpm2, ht2, hlow2, hk2⟩
            have HY9 : Hid (Blk w9 p 48 m1.cs ∧ w9.ownsRow w.heap.size 9 1 (.slice (some ⟨g, 0, none⟩) ls.length cap) ls.length (strs ls)) := ⟨hk2 _ _ _ HX.out.box (by decide), own_by_keep HX.out.row (by decide) hk2⟩
            have HF9 := hide (HX.out.field ht2 hlow2 hk2)
            have HM9 : Hid (m2.pm = (r.take (j2 + 1 - 4)).foldl fieldC pm0) := by
              show _ = _
              rw [hpm2, HPN.out, S_data]
            refine hK _ _ (fun _ => HY9.out) ?_
            clear hK K hpm2 ht2 hlow2 hk2
            try simp only [Act.put, List.setIfInBounds_toArray, List.set_cons_zero, List.set_cons_succ]
            refine wpL_one 6 (by kernel_rfl) rfl (fun K hK => one_skip (by rfl) (run_put_at 48 (.tmp 6) (.tmp 65) rfl p 0 m2.cs rfl rfl 48 m1.cs HY9.out.1 (ld48 _ (mk_size _)) (by rw [mk_size, mk_size]; exact Nat.le_refl _) (cs_all m2) _ (put_all m1 m2)) (hK _ _ (fun h => by cases h) ?_))
            clear hK K
            try simp only [Act.put, List.setIfInBounds_toArray, List.set_cons_zero, List.set_cons_succ]
            refine wpL_done (by kernel_rfl) ?_ _
            have HL5 : Hid (BLoop pm0 r p (some ⟨g, 0, none⟩) cap ls w (.int .i64 ((j2 : Int) + 1)) (w9.setRow p m2.cs)) := ⟨j2 + 1, m2, by omega, by omega, by go_num, HM9.out, HF9.out⟩
            go_wp2_with fail
            go_roundw
            case rel => first | exact HL5.out | exact ⟨_, HL5.out, rfl⟩
            case measure => simp [intOf]; omega
          · have js2 : ¬ (j2 : Int) < (ls.length : Int) := by omega
            have HJ : Hid (m1.pm = r.foldl fieldC pm0) := by
              show _ = _
              have h1 := HL4.out
              rw [HPM.out, List.take_of_length_le (by omega)]
            have HLEN : Hid (m1.ms.length = m1.nm ∧ m1.ts.length = m1.nt ∧ m1.bd.length = m1.nb) := by
              have h1 := HR.out.t.inn
              exact ⟨RS.len h1.mem, RI.len h1.tr, HR.out.t.body.1⟩
            have HMZ : Hid (MkZ m1) := mkZ_of HPZ.out HLEN.out.1 HLEN.out.2.1 HLEN.out.2.2 (by have := HSR.out; omega) (by have := HSR.out; omega)
            clear hlt2
            go_upto_region 15 with fail
            refine wp_region_lit ?_
            refine wpList_value rfl (.agg m1.cs) (ex_load 48 (.tmp 6) rfl _ rfl m1.cs _ Tryd.underlying48 rfl (ld48 _ (mk_size _)) (box_all HR.out.box)) ?_
            simp only [Act.put, List.setIfInBounds_toArray, List.set_cons_zero, List.set_cons_succ]
            cases hwb : wrB m1 with
            | false =>
              have HW : Hid (Calls Tryd.prog 14 #[.agg m1.cs] wr fun e w' => e = .returned (.bool false) ∧ Below wr.heap.size wr w') := by
                have := rwritable_any m1 wr HR.out.t.inn
                rw [hwb] at this
                exact this
              have HNO : Hid (∀ p, ¬ okPM p s.data.toList) := fun q hq => by
                have h1 := ok_ref hq
                rw [HMC.out, ← HJ.out] at h1
                injection h1 with h1
                rw [← h1, okPM_iff HLEN.out.1 HLEN.out.2.1, hwb] at hq
                cases hq.1
              clear hwb
              go_upto_region 16 with (go_at_call 14; refine HW.out.mono ?_; rintro e w8 ⟨rfl, hb8⟩; have HR8 := hide (HR.out.step hb8).drew; clear hb8)
              have HB8 : Hid (Blk w8.drew p 48 m1.cs) := HR8.out.box
              refine wp_region_L [] (fun V => Blk V p 48 m1.cs) (by kernel_rfl) ?_
              refine wpL_take 0 (oi := ⟨some 68, _, _, _, _, _⟩) (v := .agg m1.cs) rfl (by kernel_rfl) (by kernel_rfl) (by kernel_rfl) (by kernel_rfl) (fun _ _ _ h => h) (Or.inl ⟨by rfl, ?_⟩) HB8.out ?_
              · intro V hV
                exact ex_load 48 (.tmp 6) rfl _ rfl m1.cs _ Tryd.underlying48 rfl (ld48 _ (mk_size _)) (box_all hV)
              try simp only [Act.put, List.setIfInBounds_toArray, List.set_cons_zero, List.set_cons_succ]
              refine wpL_take 1 (oi := ⟨some 69, _, _, _, _, _⟩) (v := ?_) rfl (by kernel_rfl) (by kernel_rfl) (by kernel_rfl) (by kernel_rfl) (fun _ _ _ h => h) (Or.inl ⟨by rfl, ?_⟩) HB8.out ?_
              rotate_left
              · intro V hV
                go_simp
                try with_reducible rfl
              try simp only [Act.put, List.setIfInBounds_toArray, List.set_cons_zero, List.set_cons_succ]
              refine wpL_take 2 (oi := ⟨some 70, _, _, _, _, _⟩) (v := ?_) rfl (by kernel_rfl) (by kernel_rfl) (by kernel_rfl) (by kernel_rfl) (fun _ _ _ h => h) (Or.inl ⟨by rfl, ?_⟩) HB8.out ?_
              rotate_left
              · intro V hV
                go_simp
                try with_reducible rfl
              try simp only [Act.put, List.setIfInBounds_toArray, List.set_cons_zero, List.set_cons_succ]
              refine wpL_take 3 (oi := ⟨some 71, _, _, _, _, _⟩) (v := undef) rfl (by kernel_rfl) (by kernel_rfl) (by kernel_rfl) (by kernel_rfl) (fun _ _ _ h => h) (Or.inr ⟨by rfl, rfl⟩) HB8.out ?_
              try simp only [Act.put, List.setIfInBounds_toArray, List.set_cons_zero, List.set_cons_succ]
              refine wpL_take 4 (oi := ⟨some 72, _, _, _, _, _⟩) (v := undef) rfl (by kernel_rfl) (by kernel_rfl) (by kernel_rfl) (by kernel_rfl) (fun _ _ _ h => h) (Or.inr ⟨by rfl, rfl⟩) HB8.out ?_
              try simp only [Act.put, List.setIfInBounds_toArray, List.set_cons_zero, List.set_cons_succ]
              refine wpL_take 5 (oi := ⟨some 73, _, _, _, _, _⟩) (v := undef) rfl (by kernel_rfl) (by kernel_rfl) (by kernel_rfl) (by kernel_rfl) (fun _ _ _ h => h) (Or.inr ⟨by rfl, rfl⟩) HB8.out ?_
              try simp only [Act.put, List.setIfInBounds_toArray, List.set_cons_zero, List.set_cons_succ]
              refine wpL_take 6 (oi := ⟨some 74, _, _, _, _, _⟩) (v := undef) rfl (by kernel_rfl) (by kernel_rfl) (by kernel_rfl) (by kernel_rfl) (fun _ _ _ h => h) (Or.inr ⟨by rfl, rfl⟩) HB8.out ?_
              try simp only [Act.put, List.setIfInBounds_toArray, List.set_cons_zero, List.set_cons_succ]
              refine wpL_take 7 (oi := ⟨some 75, _, _, _, _, _⟩) (v := ?_) rfl (by kernel_rfl) (by kernel_rfl) (by kernel_rfl) (by kernel_rfl) (fun _ _ _ h => h) (Or.inl ⟨by rfl, ?_⟩) HB8.out ?_
              rotate_left
              · intro V hV
                go_simp
                try with_reducible rfl
              try simp only [Act.put, List.setIfInBounds_toArray, List.set_cons_zero, List.set_cons_succ]
              obtain ⟨Z, hZs, hZ⟩ := HR8.out.out
              have HB9 : Hid (Blk (w8.drew.setRow w.heap.size m1.cs) p 48 m1.cs) := HR8.out.box.row_far (by have := HR8.out.hp; omega) _
              refine wpL_one 8 (by kernel_rfl) rfl (fun K hK => one_skip (by rfl) (run_put_at 48 (.tmp 2) (.tmp 68) rfl w.heap.size 0 m1.cs rfl rfl 48 Z hZ (ld48 _ (mk_size _)) (by rw [mk_size, hZs]; omega) (cs_all m1) _ (put_zero Z hZs m1)) (hK _ _ (fun _ => HB9.out) ?_))
              clear hK K
              try simp only [Act.put, List.setIfInBounds_toArray, List.set_cons_zero, List.set_cons_succ]
              refine wpL_take 9 (oi := ⟨some 3, _, _, _, _, _⟩) (v := ?_) rfl (by kernel_rfl) (by kernel_rfl) (by kernel_rfl) (by kernel_rfl) (fun _ _ _ h => h) (Or.inl ⟨by rfl, ?_⟩) HB9.out ?_
              rotate_left
              · intro V hV
                go_simp
                try with_reducible rfl
              try simp only [Act.put, List.setIfInBounds_toArray, List.set_cons_zero, List.set_cons_succ]
              refine wpL_done (by kernel_rfl) ?_ _
              go_wp2_with fail
              refine bodyPost_ret (results_48b rfl _ rfl (hZ.row _) rfl) rfl ?_
              have hW := only_setRow w8.drew w.heap.size m1.cs
              have hlow := HR8.out.low
              exact ⟨m1, _, rfl, HR8.out.t.far hZ (by decide) (by decide) (by decide) hW, hlow.trans (hW.below hlow.size (fun k hk => by omega)), (fun h => by cases h), fun _ => HNO.out⟩
            | true =>
              have HW : Hid (Calls Tryd.prog 14 #[.agg m1.cs] wr fun e w' => e = .returned (.bool true) ∧ Below wr.heap.size wr w') := by
                have := rwritable_any m1 wr HR.out.t.inn
                rw [hwb] at this
                exact this
              have HWB := hide hwb
              clear hwb
              go_upto_region 16 with (go_at_call 14; refine HW.out.mono ?_; rintro e w8 ⟨rfl, hb8⟩; have HR8 := hide (HR.out.step hb8).drew; clear hb8)
              have HLN := hide (line_any m1 w8.drew HR8.out.t.inn HWB.out HMZ.out)
              obtain ⟨X, hX⟩ : ∃ X, X = S (lineL m1) := ⟨_, rfl⟩
              rw [← hX] at HLN
              by_cases hxs : lineL m1 = s.data.toList
              · have e1 : (X.toList == s.toList) = true := by rw [hX, beq_iff_eq, ByteArray.toList_eq, ByteArray.toList_eq, S_data]; exact hxs
                have HOK : Hid (okPM m1.pm s.data.toList) := (okPM_iff HLEN.out.1 HLEN.out.2.1).2 ⟨HWB.out, hxs⟩
                clear hX hxs
                have HB8 : Hid (Blk w8.drew p 48 m1.cs) := HR8.out.box
                refine wp_region_L [] (fun V => Blk V p 48 m1.cs) (by kernel_rfl) ?_
                refine wpL_take 0 (oi := ⟨some 68, _, _, _, _, _⟩) (v := .agg m1.cs) rfl (by kernel_rfl) (by kernel_rfl) (by kernel_rfl) (by kernel_rfl) (fun _ _ _ h => h) (Or.inl ⟨by rfl, ?_⟩) HB8.out ?_
                · intro V hV
                  exact ex_load 48 (.tmp 6) rfl _ rfl m1.cs _ Tryd.underlying48 rfl (ld48 _ (mk_size _)) (box_all hV)
                try simp only [Act.put, List.setIfInBounds_toArray, List.set_cons_zero, List.set_cons_succ]
                refine wpL_take 1 (oi := ⟨some 69, _, _, _, _, _⟩) (v := ?_) rfl (by kernel_rfl) (by kernel_rfl) (by kernel_rfl) (by kernel_rfl) (fun _ _ _ h => h) (Or.inl ⟨by rfl, ?_⟩) HB8.out ?_
                rotate_left
                · intro V hV
                  go_simp
                  try with_reducible rfl
                try simp only [Act.put, List.setIfInBounds_toArray, List.set_cons_zero, List.set_cons_succ]
                refine wpL_take 2 (oi := ⟨some 70, _, _, _, _, _⟩) (v := ?_) rfl (by kernel_rfl) (by kernel_rfl) (by kernel_rfl) (by kernel_rfl) (fun _ _ _ h => h) (Or.inl ⟨by rfl, ?_⟩) HB8.out ?_
                rotate_left
                · intro V hV
                  go_simp
                  try with_reducible rfl
                try simp only [Act.put, List.setIfInBounds_toArray, List.set_cons_zero, List.set_cons_succ]
                refine wpL_take 3 (oi := ⟨some 71, _, _, _, _, _⟩) (v := .agg m1.cs) rfl (by kernel_rfl) (by kernel_rfl) (by kernel_rfl) (by kernel_rfl) (fun _ _ _ h => h) (Or.inl ⟨by rfl, ?_⟩) HB8.out ?_
                · intro V hV
                  exact ex_load 48 (.tmp 6) rfl _ rfl m1.cs _ Tryd.underlying48 rfl (ld48 _ (mk_size _)) (box_all hV)
                try simp only [Act.put, List.setIfInBounds_toArray, List.set_cons_zero, List.set_cons_succ]
                refine wpL_take 5 (oi := ⟨some 73, _, _, _, _, _⟩) (v := ?_) rfl (by kernel_rfl) (by kernel_rfl) (by kernel_rfl) (by kernel_rfl) (fun _ _ _ h => h) (Or.inl ⟨by rfl, ?_⟩) HB8.out ?_
                rotate_left
                · intro V hV
                  go_simp
                  try with_reducible rfl
                try simp only [Act.put, List.setIfInBounds_toArray, List.set_cons_zero, List.set_cons_succ]
                refine wpL_one 4 (by kernel_rfl) rfl (fun K hK => ?_)
                rw [if_pos (by rfl)]
                go_simp
                go_at_call 20
                refine HLN.out.mono ?_
                rintro e w7 ⟨rfl, hb7⟩
                have HR7 := hide (HR8.out.step hb7)
                have HB7 : Hid (Blk w7 p 48 m1.cs) := HR7.out.box
                clear hb7
                refine hK _ _ (fun _ => HB7.out) ?_
                clear hK K
                try simp only [Act.put, List.setIfInBounds_toArray, List.set_cons_zero, List.set_cons_succ]
                refine wpL_take 6 (oi := ⟨some 74, _, _, _, _, _⟩) (v := ?_) rfl (by kernel_rfl) (by kernel_rfl) (by kernel_rfl) (by kernel_rfl) (fun _ _ _ h => h) (Or.inl ⟨by rfl, ?_⟩) HB7.out ?_
                rotate_left
                · intro V hV
                  go_simp
                  try with_reducible rfl
                try simp only [Act.put, List.setIfInBounds_toArray, List.set_cons_zero, List.set_cons_succ]
                refine wpL_take 7 (oi := ⟨some 75, _, _, _, _, _⟩) (v := ?_) rfl (by kernel_rfl) (by kernel_rfl) (by kernel_rfl) (by kernel_rfl) (fun _ _ _ h => h) (Or.inl ⟨by rfl, ?_⟩) HB7.out ?_
                rotate_left
                · intro V hV
                  go_simp
                  try with_reducible rfl
                try simp only [Act.put, List.setIfInBounds_toArray, List.set_cons_zero, List.set_cons_succ]
                obtain ⟨Z, hZs, hZ⟩ := HR7.out.out
                have HB9 : Hid (Blk (w7.setRow w.heap.size m1.cs) p 48 m1.cs) := HR7.out.box.row_far (by have := HR7.out.hp; omega) _
                refine wpL_one 8 (by kernel_rfl) rfl (fun K hK => one_skip (by rfl) (run_put_at 48 (.tmp 2) (.tmp 68) rfl w.heap.size 0 m1.cs rfl rfl 48 Z hZ (ld48 _ (mk_size _)) (by rw [mk_size, hZs]; omega) (cs_all m1) _ (put_zero Z hZs m1)) (hK _ _ (fun _ => HB9.out) ?_))
                clear hK K
                try simp only [Act.put, List.setIfInBounds_toArray, List.set_cons_zero, List.set_cons_succ]
                refine wpL_take 9 (oi := ⟨some 3, _, _, _, _, _⟩) (v := ?_) rfl (by kernel_rfl) (by kernel_rfl) (by kernel_rfl) (by kernel_rfl) (fun _ _ _ h => h) (Or.inl ⟨by rfl, ?_⟩) HB9.out ?_
                rotate_left
                · intro V hV
                  go_simp
                  try with_reducible rfl
                try simp only [Act.put, List.setIfInBounds_toArray, List.set_cons_zero, List.set_cons_succ]
                refine wpL_done (by kernel_rfl) ?_ _
                go_wp2_with fail
                refine bodyPost_ret (results_48b rfl _ rfl (hZ.row _) rfl) rfl ?_
                have hW := only_setRow w7 w.heap.size m1.cs
                have hlow := HR7.out.low
                exact ⟨m1, _, rfl, HR7.out.t.far hZ (by decide) (by decide) (by decide) hW, hlow.trans (hW.below hlow.size (fun k hk => by omega)), (fun _ => HOK.out), (fun h => by cases h)⟩
              · have e1 : (X.toList == s.toList) = false := by rw [hX, beq_eq_false_iff_ne, ByteArray.toList_eq, ByteArray.toList_eq, S_data]; exact hxs
                have HNO : Hid (∀ p, ¬ okPM p s.data.toList) := fun q hq => by
                  have h1 := ok_ref hq
                  rw [HMC.out, ← HJ.out] at h1
                  injection h1 with h1
                  rw [← h1, okPM_iff HLEN.out.1 HLEN.out.2.1] at hq
                  exact hxs hq.2
                clear hX hxs
                have HB8 : Hid (Blk w8.drew p 48 m1.cs) := HR8.out.box
                refine wp_region_L [] (fun V => Blk V p 48 m1.cs) (by kernel_rfl) ?_
                refine wpL_take 0 (oi := ⟨some 68, _, _, _, _, _⟩) (v := .agg m1.cs) rfl (by kernel_rfl) (by kernel_rfl) (by kernel_rfl) (by kernel_rfl) (fun _ _ _ h => h) (Or.inl ⟨by rfl, ?_⟩) HB8.out ?_
                · intro V hV
                  exact ex_load 48 (.tmp 6) rfl _ rfl m1.cs _ Tryd.underlying48 rfl (ld48 _ (mk_size _)) (box_all hV)
                try simp only [Act.put, List.setIfInBounds_toArray, List.set_cons_zero, List.set_cons_succ]
                refine wpL_take 1 (oi := ⟨some 69, _, _, _, _, _⟩) (v := ?_) rfl (by kernel_rfl) (by kernel_rfl) (by kernel_rfl) (by kernel_rfl) (fun _ _ _ h => h) (Or.inl ⟨by rfl, ?_⟩) HB8.out ?_
                rotate_left
                · intro V hV
                  go_simp
                  try with_reducible rfl
                try simp only [Act.put, List.setIfInBounds_toArray, List.set_cons_zero, List.set_cons_succ]
                refine wpL_take 2 (oi := ⟨some 70, _, _, _, _, _⟩) (v := ?_) rfl (by kernel_rfl) (by kernel_rfl) (by kernel_rfl) (by kernel_rfl) (fun _ _ _ h => h) (Or.inl ⟨by rfl, ?_⟩) HB8.out ?_
                rotate_left
                · intro V hV
                  go_simp
                  try with_reducible rfl
                try simp only [Act.put, List.setIfInBounds_toArray, List.set_cons_zero, List.set_cons_succ]
                refine wpL_take 3 (oi := ⟨some 71, _, _, _, _, _⟩) (v := .agg m1.cs) rfl (by kernel_rfl) (by kernel_rfl) (by kernel_rfl) (by kernel_rfl) (fun _ _ _ h => h) (Or.inl ⟨by rfl, ?_⟩) HB8.out ?_
                · intro V hV
                  exact ex_load 48 (.tmp 6) rfl _ rfl m1.cs _ Tryd.underlying48 rfl (ld48 _ (mk_size _)) (box_all hV)
                try simp only [Act.put, List.setIfInBounds_toArray, List.set_cons_zero, List.set_cons_succ]
                refine wpL_take 5 (oi := ⟨some 73, _, _, _, _, _⟩) (v := ?_) rfl (by kernel_rfl) (by kernel_rfl) (by kernel_rfl) (by kernel_rfl) (fun _ _ _ h => h) (Or.inl ⟨by rfl, ?_⟩) HB8.out ?_
                rotate_left
                · intro V hV
                  go_simp
                  try with_reducible rfl
                try simp only [Act.put, List.setIfInBounds_toArray, List.set_cons_zero, List.set_cons_succ]
                refine wpL_one 4 (by kernel_rfl) rfl (fun K hK => ?_)
                rw [if_pos (by rfl)]
                go_simp
                go_at_call 20
                refine HLN.out.mono ?_
                rintro e w7 ⟨rfl, hb7⟩
                have HR7 := hide (HR8.out.step hb7)
                have HB7 : Hid (Blk w7 p 48 m1.cs) := HR7.out.box
                clear hb7
                refine hK _ _ (fun _ => HB7.out) ?_
                clear hK K
                try simp only [Act.put, List.setIfInBounds_toArray, List.set_cons_zero, List.set_cons_succ]
                refine wpL_take 6 (oi := ⟨some 74, _, _, _, _, _⟩) (v := ?_) rfl (by kernel_rfl) (by kernel_rfl) (by kernel_rfl) (by kernel_rfl) (fun _ _ _ h => h) (Or.inl ⟨by rfl, ?_⟩) HB7.out ?_
                rotate_left
                · intro V hV
                  go_simp
                  try with_reducible rfl
                try simp only [Act.put, List.setIfInBounds_toArray, List.set_cons_zero, List.set_cons_succ]
                refine wpL_take 7 (oi := ⟨some 75, _, _, _, _, _⟩) (v := ?_) rfl (by kernel_rfl) (by kernel_rfl) (by kernel_rfl) (by kernel_rfl) (fun _ _ _ h => h) (Or.inl ⟨by rfl, ?_⟩) HB7.out ?_
                rotate_left
                · intro V hV
                  go_simp
                  try with_reducible rfl
                try simp only [Act.put, List.setIfInBounds_toArray, List.set_cons_zero, List.set_cons_succ]
                obtain ⟨Z, hZs, hZ⟩ := HR7.out.out
                have HB9 : Hid (Blk (w7.setRow w.heap.size m1.cs) p 48 m1.cs) := HR7.out.box.row_far (by have := HR7.out.hp; omega) _
                refine wpL_one 8 (by kernel_rfl) rfl (fun K hK => one_skip (by rfl) (run_put_at 48 (.tmp 2) (.tmp 68) rfl w.heap.size 0 m1.cs rfl rfl 48 Z hZ (ld48 _ (mk_size _)) (by rw [mk_size, hZs]; omega) (cs_all m1) _ (put_zero Z hZs m1)) (hK _ _ (fun _ => HB9.out) ?_))
                clear hK K
                try simp only [Act.put, List.setIfInBounds_toArray, List.set_cons_zero, List.set_cons_succ]
                refine wpL_take 9 (oi := ⟨some 3, _, _, _, _, _⟩) (v := ?_) rfl (by kernel_rfl) (by kernel_rfl) (by kernel_rfl) (by kernel_rfl) (fun _ _ _ h => h) (Or.inl ⟨by rfl, ?_⟩) HB9.out ?_
                rotate_left
                · intro V hV
                  go_simp
                  try with_reducible rfl
                try simp only [Act.put, List.setIfInBounds_toArray, List.set_cons_zero, List.set_cons_succ]
                refine wpL_done (by kernel_rfl) ?_ _
                go_wp2_with fail
                refine bodyPost_ret (results_48b rfl _ rfl (hZ.row _) rfl) rfl ?_
                have hW := only_setRow w7 w.heap.size m1.cs
                have hlow := HR7.out.low
                exact ⟨m1, _, rfl, HR7.out.t.far hZ (by decide) (by decide) (by decide) hW, hlow.trans (hW.below hlow.size (fun k hk => by omega)), (fun h => by cases h), fun _ => HNO.out⟩

/-- The reference's mark. -/
theorem mark_ref (s : ByteArray) (w : World) (hs : s.size ≤ 1048576) : Calls Tryd.prog 26 #[.string s] w fun e w' => RdP s.data.toList w e w' := by
  cases hc : cutL 32 [] s.data.toList with
  | none => exact mark_short s w hs (fun ps h => by rw [hc] at h; cases h)
  | some ps =>
    match ps, hc with
    | a :: k :: b :: i :: r, hc => exact mark_long s w hs a k b i r hc
    | [], hc => exact mark_short s w hs (fun ps h => by rw [hc] at h; injection h with h; subst h; simp)
    | [_], hc => exact mark_short s w hs (fun ps h => by rw [hc] at h; injection h with h; subst h; simp)
    | [_, _], hc => exact mark_short s w hs (fun ps h => by rw [hc] at h; injection h with h; subst h; simp)
    | [_, _, _], hc => exact mark_short s w hs (fun ps h => by rw [hc] at h; injection h with h; subst h; simp)
end Go.Proofs.YtenebkkfjalcaaaDoor
