/-
  Contract of started: two Muxes that stand, have the tag and are each other's peer.
-/
import Derived.Test.YtkkckinnhkpcmaaReset
set_option linter.unusedVariables false
set_option linter.unusedSimpArgs false
namespace Go.Proofs.Ytkkckinnhkpcmaa
open Go.RowKit Go.WideShapes Go.ChangeShapes Q

/-- A wire at its beginning. -/
def wr0 (W : Nat) : Wr := ⟨fun _ => str0 W, fun _ => [], fun _ => [], fun _ => [], fun _ => []⟩
theorem Inv.zero {W Sp : Nat} (hW : 1 ≤ W) : Inv W Sp 0 (wr0 W) := by
  intro s t hst
  refine ⟨0, 0, ⟨rfl, rfl, rfl, Nat.le_refl _, Nat.zero_le _, rfl, Nat.le_refl _, Nat.le_refl _, by omega, by simp [wr0, str0], ?_, ?_, ?_, ?_, ?_, Nat.le_refl _, Nat.zero_le _, Nat.le_refl _⟩⟩
  · intro i y hy
    have := List.eq_of_mem_replicate (List.mem_of_getElem? (show (List.replicate W (none : Option (List Int)))[i]? = some (some y) from hy))
    cases this
  · show ((List.replicate W (none : Option (List Int))).getD 0 none).isSome = false
    cases W with
    | zero => rfl
    | succ k => rfl
  · intro f hf
    cases hf
  · intro u hu
    cases hu
  · intro y hy
    cases hy
/-- One side stands: all that it has made lies from block a on. -/
structure Stood (w : World) (a : Nat) (W Sp s m sb : Nat) (X : Mx) : Prop where
  mux : MuxAt w m X
  str : StreamAt w (fun k => a ≤ k ∧ k ≠ X.pb ∧ k ≠ m) sb (str0 W)
  m0 : a ≤ m
  p0 : a ≤ X.pb
  x1 : X.window = W
  x2 : X.room = Sp
  x3 : X.t = tg
  x4 : X.with_ (2 + 3 * (1 - (s : Int))) = some sb
  sf : X.self = 2 + 3 * (s : Int)
theorem Stood.far {w w' : World} {a W Sp s m sb : Nat} {X : Mx} {G : Nat → Prop} (h : Stood w a W Sp s m sb X) (hs : St G w w') (hG : ∀ k, G k → k < a ∨ w.heap.size ≤ k) : Stood w' a W Sp s m sb X := by
  have hb := h.str.bound
  refine ⟨h.mux.st hs (fun e => ?_) (fun e => ?_), (hb.far hs fun k hk e => ?_).mono fun k hk => hk.1, h.m0, h.p0, h.x1, h.x2, h.x3, h.x4, h.sf⟩
  · have h1 := hG _ e
    have h2 := h.mux.1.lt
    have h3 := h.m0
    omega
  · have h1 := hG _ e
    have h2 := h.mux.2.1.lt
    have h3 := h.p0
    omega
  · have h1 := hG _ e
    obtain ⟨⟨h2, _, _⟩, h3⟩ := hk
    omega
/-- The head of a wire while it is made. -/
def headC (v0 v1 : Value) (W Sp : Nat) : Array Value := #[v0, v1, .int .i64 W, .int .i64 Sp, .slice none 0 0, .slice none 0 0, .slice none 0 0, .slice none 0 0, .slice none 0 0, .slice none 0 0, .slice none 0 0, .slice none 0 0]
/-- What is old is nobody's; who the Muxes are. -/
structure OwnX (B : Nat) (o : Nat → Nat) (g : Gw) : Prop where
  own : ∀ q, q < B → o q = 0
  self : ∀ s, s < 2 → (g.X s).self = 2 + 3 * (s : Int)
/-- Both sides stand. -/
theorem wire_of {w : World} {wb W Sp m0 m1 sb0 sb1 a0 a1 : Nat} {X0 X1 : Mx} {B : Nat} (hw : Blk w wb 45 (headC (.pointer (some ⟨m0, 0, none⟩)) (.pointer (some ⟨m1, 0, none⟩)) W Sp)) (hB : B ≤ wb) (hwa : wb < a0) (ha : a0 ≤ a1)
    (h0 : Stood w a0 W Sp 0 m0 sb0 X0) (h0m : m0 < a1) (h0p : X0.pb < a1) (h0s : StreamAt w (fun k => a0 ≤ k ∧ k < a1 ∧ k ≠ X0.pb ∧ k ≠ m0) sb0 (str0 W)) (h1 : Stood w a1 W Sp 1 m1 sb1 X1) :
    ∃ o g, WireAt w o wb W Sp g (wr0 W) ∧ OwnX B o g := by
  have l1 := h1.mux.1.lt
  have l2 := h1.mux.2.1.lt
  have l3 := h0.m0
  have l4 := h0.p0
  have l5 := h1.m0
  have l6 := h1.p0
  have l7 := hw.lt
  have e00 : m0 ≠ X0.pb := Blk.ne_ h0.mux.1 h0.mux.2.1 (by decide)
  have e11 : m1 ≠ X1.pb := Blk.ne_ h1.mux.1 h1.mux.2.1 (by decide)
  refine ⟨fun k => if k = wb then 1 else if k = m0 ∨ k = X0.pb ∨ k = m1 ∨ k = X1.pb then 2 else if k < a0 then 0 else if k < a1 then 3 else if k < w.heap.size then 4 else 0,
    ⟨fun s => if s = 0 then m0 else m1, fun s => if s = 0 then X0 else X1, fun s => if s = 0 then sb0 else sb1, fun _ _ => .slice none 0 0⟩, ⟨?_, ?_, ?_, ?_, ?_, ?_, ?_, ?_⟩, ?_⟩
  · exact hw
  · simp
  · intro s hs
    have hs' : s = 0 ∨ s = 1 := by omega
    rcases hs' with rfl | rfl
    · exact h0.mux
    · exact h1.mux
  · intro s hs
    have hs' : s = 0 ∨ s = 1 := by omega
    rcases hs' with rfl | rfl
    · exact ⟨by show (if m0 = wb then _ else _) = _; rw [if_neg (by omega), if_pos (.inl rfl)], by show (if X0.pb = wb then _ else _) = _; rw [if_neg (by omega), if_pos (.inr (.inl rfl))]⟩
    · exact ⟨by show (if m1 = wb then _ else _) = _; rw [if_neg (by omega), if_pos (.inr (.inr (.inl rfl)))], by show (if X1.pb = wb then _ else _) = _; rw [if_neg (by omega), if_pos (.inr (.inr (.inr rfl)))]⟩
  · intro s hs
    have hs' : s = 0 ∨ s = 1 := by omega
    rcases hs' with rfl | rfl
    · exact ⟨h0.x1, h0.x2, h0.x3, h0.x4⟩
    · exact ⟨h1.x1, h1.x2, h1.x3, h1.x4⟩
  · intro s hs
    have hs' : s = 0 ∨ s = 1 := by omega
    rcases hs' with rfl | rfl
    · refine h0s.mono fun k hk => ?_
      obtain ⟨q1, q2, q3, q4⟩ := hk
      show (if k = wb then _ else _) = _
      rw [if_neg (by omega), if_neg (by omega), if_neg (by omega), if_pos q2]
    · refine h1.str.bound.mono fun k hk => ?_
      obtain ⟨⟨q1, q2, q3⟩, q4⟩ := hk
      show (if k = wb then _ else _) = _
      rw [if_neg (by omega), if_neg (by omega), if_neg (by omega), if_neg (by omega), if_pos q4]
  · intro k s hk hs
    match k, hk with
    | 0, _ => exact BRow.nil _ _
    | 1, _ => exact BRow.nil _ _
    | 2, _ => exact FRow.nil _ _
    | 3, _ => exact ARow.nil _ _
  · intro q hq
    show (if q = wb then _ else _) = _
    have := h0.mux.1.lt
    have := h0.mux.2.1.lt
    rw [if_neg (by omega), if_neg (by omega), if_neg (by omega), if_neg (by omega), if_neg (by omega)]
  · refine ⟨fun q hq => ?_, fun s hs => ?_⟩
    · show (if q = wb then _ else _) = _
      rw [if_neg (by omega), if_neg (by omega), if_pos (by omega)]
    · have hs' : s = 0 ∨ s = 1 := by omega
      rcases hs' with rfl | rfl
      · exact h0.sf
      · exact h1.sf
def wndOf (wn : Int) : Nat := 1 + (absZ wn % 5).toNat
def spcOf (wn rn : Int) : Nat := wndOf wn + (absZ rn % 9).toNat
theorem wnd_b (wn : Int) : 1 ≤ wndOf wn ∧ wndOf wn ≤ 5 := by
  have := Int.emod_lt_of_pos (absZ wn) (show (0 : Int) < 5 by decide)
  unfold wndOf; omega
theorem spc_b (wn rn : Int) : wndOf wn ≤ spcOf wn rn ∧ spcOf wn rn ≤ 13 := by
  have := Int.emod_lt_of_pos (absZ rn) (show (0 : Int) < 9 by decide)
  have := wnd_b wn
  unfold spcOf; omega
/-- What started leaves. -/
def StartP (wn rn : Int) (w : World) (e : Ending) (w' : World) : Prop :=
  ∃ wb o g, e = .returned (.pointer (some ⟨wb, 0, none⟩)) ∧ WireAt w' o wb (wndOf wn) (spcOf wn rn) g (wr0 (wndOf wn)) ∧ St (fun _ => False) w w' ∧ OwnX w.heap.size o g
/-- One side is made, in blocks from a up to b. -/
def Side (w : World) (a W Sp s : Nat) (v : Value) (b : Nat) : Prop :=
  ∃ m sb X, v = .pointer (some ⟨m, 0, none⟩) ∧ Stood w a W Sp s m sb X ∧ StreamAt w (fun k => a ≤ k ∧ k < b ∧ k ≠ X.pb ∧ k ≠ m) sb (str0 W) ∧ m < b ∧ X.pb < b
theorem Side.far {w w' : World} {a W Sp s b : Nat} {v : Value} {G : Nat → Prop} (h : Side w a W Sp s v b) (hs : St G w w') (hG : ∀ k, G k → k < a ∨ w.heap.size ≤ k) : Side w' a W Sp s v b := by
  obtain ⟨m, sb, X, e, h1, h2, h3, h4⟩ := h
  refine ⟨m, sb, X, e, h1.far hs hG, (h2.bound.far hs fun k hk e => ?_).mono fun k hk => hk.1, h3, h4⟩
  have h5 := hG _ e
  obtain ⟨⟨h6, _⟩, h7⟩ := hk
  omega
theorem Side.lower {w : World} {a a' W Sp s b : Nat} {v : Value} (h : Side w a W Sp s v b) (ha : a' ≤ a) : Side w a' W Sp s v b := by
  obtain ⟨m, sb, X, e, h1, h2, h3, h4⟩ := h
  exact ⟨m, sb, X, e, ⟨h1.mux, h1.str.mono fun k hk => ⟨Nat.le_trans ha hk.1, hk.2⟩, Nat.le_trans ha h1.m0, Nat.le_trans ha h1.p0, h1.x1, h1.x2, h1.x3, h1.x4, h1.sf⟩, h2.mono fun k hk => ⟨Nat.le_trans ha hk.1, hk.2⟩, h3, h4⟩
/-- How far the making has gone. -/
def StRel (w : World) (a0 wb W Sp k : Nat) (wr : World) : Prop :=
  St (fun _ => False) w wr ∧ a0 ≤ wr.heap.size ∧
  ((k = 0 ∧ Blk wr wb 45 (headC (.pointer none) (.pointer none) W Sp)) ∨ (k = 1 ∧ ∃ v0, Blk wr wb 45 (headC v0 (.pointer none) W Sp) ∧ Side wr a0 W Sp 0 v0 wr.heap.size) ∨
   (k = 2 ∧ ∃ v0 v1 a1, a0 ≤ a1 ∧ Blk wr wb 45 (headC v0 v1 W Sp) ∧ Side wr a0 W Sp 0 v0 a1 ∧ Side wr a1 W Sp 1 v1 wr.heap.size))
/-- A side is new. -/
theorem side_new {wr w5 w6 : World} {wb W Sp s i m pb sb q : Nat} {X0 : Mx} {v0 v1 : Value} (h5 : St (fun _ => False) wr w5) (hm : wr.heap.size ≤ m) (hml : m < w5.heap.size) (hbw : Blk wr wb 45 (headC v0 v1 W Sp))
    (x1 : X0.window = W) (x2 : X0.room = Sp) (x5 : X0.ps.length = 7) (x6 : X0.self = 2 + 3 * (s : Int)) (hq : q < 7) (hqs : (2 : Int) + 3 * (1 - (s : Int)) = (q : Int)) (hst : St (fun k => k = m) w5 w6) (hpb : w5.heap.size ≤ pb)
    (hmx : MuxAt w6 m { X0 with t := tg, pb := pb, ps := (List.replicate X0.ps.length none).set q (some sb) }) (hstr : StreamAt w6 (fun k => w5.heap.size ≤ k ∧ k ≠ pb) sb (str0 X0.window)) :
    Side (w6.setCell ⟨wb, i, none⟩ (.pointer (some ⟨m, 0, none⟩))) wr.heap.size W Sp s (.pointer (some ⟨m, 0, none⟩)) (w6.setCell ⟨wb, i, none⟩ (.pointer (some ⟨m, 0, none⟩))).heap.size ∧
      St (fun k => k = m ∨ k = wb) wr (w6.setCell ⟨wb, i, none⟩ (.pointer (some ⟨m, 0, none⟩))) ∧ Blk (w6.setCell ⟨wb, i, none⟩ (.pointer (some ⟨m, 0, none⟩))) wb 45 ((headC v0 v1 W Sp).setIfInBounds i (.pointer (some ⟨m, 0, none⟩))) := by
  have hwl := hbw.lt
  have hsz5 := h5.size
  have hne : wb ≠ m := by omega
  have hb6 : Blk w6 wb 45 (headC v0 v1 W Sp) := (hbw.st h5 (fun e => e)).st hst hne
  have hs7 : St (fun k => k = wb) w6 (w6.setCell ⟨wb, i, none⟩ (.pointer (some ⟨m, 0, none⟩))) := (St.refl (fun k => k = wb) w6).setCell hb6 (by decide) (fun _ => rfl) _
  have e7 : (w6.setCell ⟨wb, i, none⟩ (.pointer (some ⟨m, 0, none⟩))).heap.size = w6.heap.size := by simp [World.setCell]
  have hpbl := hmx.2.1.lt
  have hml6 := hmx.1.lt
  have hmx7 := hmx.st hs7 (by show ¬ m = wb; omega) (by show ¬ pb = wb; omega)
  have hst7 := hstr.bound.far hs7 (fun k hk e => by obtain ⟨⟨h1, _⟩, _⟩ := hk; omega)
  rw [x1] at hst7
  refine ⟨⟨m, sb, _, rfl, ⟨hmx7, hst7.mono fun k hk => ?_, hm, Nat.le_trans hsz5 hpb, x1, x2, rfl, ?_, x6⟩, hst7.mono fun k hk => ?_, by rw [e7]; exact hml6, by rw [e7]; exact hpbl⟩, ?_, hb6.set_ i _⟩
  · obtain ⟨⟨h1, h2⟩, h3⟩ := hk
    exact ⟨by omega, h2, by omega⟩
  · show Mx.with_ _ _ = _
    rw [hqs]
    unfold Mx.with_
    rw [if_neg (by omega), Int.toNat_natCast]
    simp [List.getD, x5, hq]
  · obtain ⟨⟨h1, h2⟩, h3⟩ := hk
    rw [e7]
    exact ⟨by omega, h3, h2, by omega⟩
  · have a1 : St (fun k => k = m ∨ k = wb) wr w6 := (h5.mono fun _ _ e => e.elim).trans (hst.mono fun _ _ e => .inl e)
    exact a1.trans (hs7.mono fun _ _ e => .inr e)

set_option maxRecDepth 100000 in
set_option maxHeartbeats 2000000 in
theorem started_any (wn rn : Int) (w : World) (h0 : -9223372036854775808 ≤ wn) (h1 : wn ≤ 9223372036854775807) (h2 : -9223372036854775808 ≤ rn) (h3 : rn ≤ 9223372036854775807) :
    Calls Try.prog 25 #[.int .i64 wn, .int .i64 rn] w (StartP wn rn w) := by
  obtain ⟨an, han⟩ : ∃ an, an = absZ wn := ⟨_, rfl⟩
  obtain ⟨bn, hbn⟩ : ∃ bn, bn = absZ rn := ⟨_, rfl⟩
  have HAB : ∀ V, Hid (Calls Try.prog 39 #[.int .i64 wn] V fun r w' => r = .returned (.int .i64 an) ∧ V = w') := fun V => by
    have hh := abs_any wn V h0 h1
    rw [← han] at hh
    exact hh
  have HBB : ∀ V, Hid (Calls Try.prog 39 #[.int .i64 rn] V fun r w' => r = .returned (.int .i64 bn) ∧ V = w') := fun V => by
    have hh := abs_any rn V h2 h3
    rw [← hbn] at hh
    exact hh
  have ha0 : 0 ≤ an := by rw [han]; exact absZ_nonneg _
  have hb0 : 0 ≤ bn := by rw [hbn]; exact absZ_nonneg _
  have ha1 : an ≤ 9223372036854775807 := by rw [han]; exact absZ_le h0 h1
  have hb1 : bn ≤ 9223372036854775807 := by rw [hbn]; exact absZ_le h2 h3
  obtain ⟨W, hW⟩ : ∃ W, W = wndOf wn := ⟨_, rfl⟩
  obtain ⟨Sp, hSp⟩ : ∃ Sp, Sp = spcOf wn rn := ⟨_, rfl⟩
  have hwb := wnd_b wn
  have hsb := spc_b wn rn
  rw [← hW] at hwb hsb
  rw [← hSp] at hsb
  obtain ⟨r, hr⟩ : ∃ r : Nat, an % 5 = (r : Int) := ⟨(an % 5).toNat, by omega⟩
  obtain ⟨t, ht⟩ : ∃ t : Nat, bn % 9 = (t : Int) := ⟨(bn % 9).toNat, by omega⟩
  have hWr : W = 1 + r := by rw [hW, wndOf, ← han, hr]; simp
  have hSt : Sp = W + t := by rw [hSp, spcOf, ← hW, ← hbn, ht]; simp
  have HWS := hide (And.intro hW hSp)
  have hW1 := hwb.1
  have hWS := hsb.1
  have htm : bn.tmod 9 = (t : Int) := by rw [Int.tmod_eq_emod_of_nonneg hb0]; exact ht
  have hwt : IntKind.i64.wrap (t : Int) = (t : Int) := IntWalk.i64_in _ (by constructor <;> omega)
  have hwsp : IntKind.i64.wrap ((W : Int) + (t : Int)) = (Sp : Int) := by rw [IntWalk.i64_in _ (by constructor <;> omega)]; omega
  have eW : (1 : Int) + (r : Int) = (W : Int) := by omega
  have EW := hide eW
  have HT := hide (And.intro ht (And.intro htm (And.intro hwt hwsp)))
  clear han hbn hW hSp hWr hSt ht htm hwt hwsp eW
  go_enter Try.func25, Try.ntmps25
  go_wp2_with (go_at_call 39; refine (HAB w).out.mono ?_; rintro e w' ⟨rfl, rfl⟩)
  rw [EW.out]
  obtain ⟨ht, htm, hwt, hwsp⟩ := HT.out
  have hSd : (fun V : World => V.cell? ⟨w.heap.size, 2, none⟩ = some (.int .i64 (W : Int))) (w.alloc (.cells #[.pointer none, .pointer none, .int .i64 (W : Int), .int .i64 0, .slice none 0 0, .slice none 0 0, .slice none 0 0, .slice none 0 0, .slice none 0 0, .slice none 0 0, .slice none 0 0, .slice none 0 0] 45)).drew := (Blk.new w 45 #[.pointer none, .pointer none, .int .i64 (W : Int), .int .i64 0, .slice none 0 0, .slice none 0 0, .slice none 0 0, .slice none 0 0, .slice none 0 0, .slice none 0 0, .slice none 0 0, .slice none 0 0]).cell 2
  have hSe : (fun V : World => V.cell? ⟨w.heap.size, 2, none⟩ = some (.int .i64 (W : Int))) (w.alloc (.cells #[.pointer none, .pointer none, .int .i64 (W : Int), .int .i64 (Sp : Int), .slice none 0 0, .slice none 0 0, .slice none 0 0, .slice none 0 0, .slice none 0 0, .slice none 0 0, .slice none 0 0, .slice none 0 0] 45)).drew := (Blk.new w 45 #[.pointer none, .pointer none, .int .i64 (W : Int), .int .i64 (Sp : Int), .slice none 0 0, .slice none 0 0, .slice none 0 0, .slice none 0 0, .slice none 0 0, .slice none 0 0, .slice none 0 0, .slice none 0 0]).cell 2
  go_region_held3 (fun V : World => V.cell? ⟨w.heap.size, 2, none⟩ = some (.int .i64 (W : Int)))
    (first | with_reducible exact hSd | with_reducible exact hSe)
    ((go_at_call 39; refine (HBB _).out.mono ?_; rintro e w' ⟨rfl, rfl⟩))
  clear ht htm hwt hwsp hSd hSe
  go_wp2_with fail
  obtain ⟨w2, hw2⟩ : ∃ w2, w2 = (w.alloc (.cells #[.pointer none, .pointer none, .int .i64 (W : Int), .int .i64 (Sp : Int), .slice none 0 0, .slice none 0 0, .slice none 0 0, .slice none 0 0, .slice none 0 0, .slice none 0 0, .slice none 0 0, .slice none 0 0] 45)).drew := ⟨_, rfl⟩
  rw [← hw2]
  obtain ⟨wb, hwbe⟩ : ∃ wb, wb = w.heap.size := ⟨_, rfl⟩
  rw [← hwbe]
  have hbw0 : Blk w2 wb 45 (headC (.pointer none) (.pointer none) W Sp) := by
    rw [hw2, hwbe]
    exact (Blk.new w 45 #[.pointer none, .pointer none, .int .i64 (W : Int), .int .i64 (Sp : Int), .slice none 0 0, .slice none 0 0, .slice none 0 0, .slice none 0 0, .slice none 0 0, .slice none 0 0, .slice none 0 0, .slice none 0 0]).drew
  have hst0 : St (fun _ => False) w w2 := by
    rw [hw2]
    exact ((St.refl _ w).alloc _).drew
  obtain ⟨a0, ha0e⟩ : ∃ a0, a0 = w2.heap.size := ⟨_, rfl⟩
  have HWB : Hid (wb < a0 ∧ w.heap.size ≤ wb) := by
    have h1 := hbw0.lt
    exact ⟨by omega, by omega⟩
  have HS0 : Hid (StRel w a0 wb W Sp 0 w2) := ⟨hst0, by omega, .inl ⟨rfl, hbw0⟩⟩
  clear hw2 hwbe hbw0 hst0 ha0e
  go_loopw [6] (fun i wr => ∃ k : Nat, k ≤ 2 ∧ i = .int .i64 k ∧ Hid (StRel w a0 wb W Sp k wr)) (fun i _ => 2 - (intOf i).toNat)
  case atStart => exact ⟨0, by omega, rfl, HS0⟩
  case round =>
    obtain ⟨k, hk, rfl, hrel⟩ := hrel
    obtain ⟨hrs, hra, hcase⟩ := hrel.out
    clear HS0 hrel
    rcases hcase with ⟨rfl, hbw⟩ | ⟨rfl, v0, hbw, hside⟩ | ⟨rfl, v0, v1, a1, ha1', hbw, hside, hside1⟩
    · clear hk
      have hbw' := hbw
      unfold headC at hbw'
      obtain ⟨c0, c1, c2, c3, _⟩ := m12 hbw'
      have hnew := hide (new_ok 7 2 W Sp wr.drew (by omega) (by omega) (by omega) hW1 hWS (by omega))
      have hSd : (fun V : World => V.cell? ⟨wb, 1 + 1, none⟩ = some (.int .i64 (W : Int)) ∧ V.cell? ⟨wb, 3, none⟩ = some (.int .i64 (Sp : Int))) wr.drew := ⟨c2, c3⟩
      have HBW := hide hbw
      clear hbw hbw' c0 c1 c2 c3
      go_wp2_with fail
      go_region_held3 (fun V : World => V.cell? ⟨wb, 2, none⟩ = some (.int .i64 (W : Int)) ∧ V.cell? ⟨wb, 3, none⟩ = some (.int .i64 (Sp : Int)))
        (first | exact hSd | with_reducible exact hS3)
        (first
          | ((go_at_call 21; refine (pid0 _).mono ?_; rintro e w' ⟨rfl, rfl⟩))
          | ((go_at_call 44; refine hnew.out.mono ?_; rintro e w3 ⟨m, pb, rfl, hs3, hm3, hgm, hgp⟩; have hS3 : (fun V : World => V.cell? ⟨wb, 2, none⟩ = some (.int .i64 (W : Int)) ∧ V.cell? ⟨wb, 3, none⟩ = some (.int .i64 (Sp : Int))) w3 := ⟨hs3.only.cell hSd.1 (fun e => e), hs3.only.cell hSd.2 (fun e => e)⟩; have HM3 := hide hm3; have HS3 := hide hs3; have HG3 := hide (And.intro hgm hgp); clear hs3 hm3 hgm hgp)))
      clear hSd hS3
      go_wp2_with (first | (go_at_call 15; refine (num_any _ _).mono ?_; rintro e w' ⟨rfl, rfl⟩) | (go_at_call 27; refine (tag_any _).mono ?_; rintro e w4 ⟨rfl, hs4⟩; have HS4 := hide hs4; clear hs4) | (go_at_call 21; refine (pid1 _).mono ?_; rintro e w' ⟨rfl, rfl⟩))
      have hst35 : St (fun _ => False) w3 (w4.alloc (.cells #[.int .i64 5] 3)) := HS4.out.alloc _
      have hm5 := HM3.out.st hst35 (fun e => e) (fun e => e)
      have hg5 : w4.heap.size ≠ m := by
        have h1 := HM3.out.1.lt
        have h2 := HS4.out.size
        omega
      have HRS := hide (reset_any m _ 5 w4.heap.size 1 (w4.alloc (.cells #[.int .i64 5] 3)) hm5 (by show 5 < (List.replicate 7 (none : Option Nat)).length; simp) (by show (((5 : Nat)) : Int) ≠ (((2 : Nat)) : Int); omega) ((Blk.new w4 3 #[.int .i64 5]).cell 0) hg5 (Nat.le_refl _))
      have HST35 := hide hst35
      have hmlt : m < (w4.alloc (.cells #[.int .i64 5] 3)).heap.size := hm5.1.lt
      clear hst35 hm5 hg5
      go_wp2_with (first | (go_at_call 31; refine HRS.out.mono ?_; rintro e w6 ⟨pb6, sb6, rfl, hst6, hpb6, hmx6, hstr6⟩; have H6 := hide (And.intro hst6 (And.intro hpb6 (And.intro hmx6 hstr6))); have hbw6 := (HBW.out.st ((St.refl (fun _ => False) wr).drew.trans (HS3.out.trans HST35.out)) (fun e => e)).st hst6 (by have h1 := HBW.out.lt; have h2 := HG3.out.1; show ¬ wb = m; have h3 : wr.heap.size ≤ m := h2; omega); have kb6 := hbw6.cell 0; have fb6 := hbw6.frozen 0; unfold headC at kb6; clear hst6 hpb6 hmx6 hstr6 hbw6) | (go_at_call 15; refine (num_any _ _).mono ?_; rintro e w' ⟨rfl, rfl⟩))
      obtain ⟨y1, y2, y3, y4⟩ := H6.out
      obtain ⟨z1, z2, z3⟩ := side_new (wr := wr) (s := 0) (i := 0) ((St.refl (fun _ => False) wr).drew.trans (HS3.out.trans HST35.out)) HG3.out.1 hmlt HBW.out (X0 := ⟨((2 : Nat) : Int), W, Sp, ⟨0, 0, 0, 0⟩, pb, List.replicate 7 none⟩) rfl rfl (by simp) (by first | rfl | decide) (q := 5) (by omega) (by omega) y1 y2 y3 y4
      have hnext : StRel w a0 wb W Sp 1 (w6.setCell ⟨wb, 0, none⟩ (.pointer (some ⟨m, 0, none⟩))) := by
        refine ⟨?_, ?_, ?_⟩
        · have hwlt := HWB.out
          have hgm : wr.heap.size ≤ m := HG3.out.1
          have hws := hrs.size
          exact hrs.trans' z2 fun k hk e => by omega
        · exact Nat.le_trans hra z2.size
        · exact .inr (.inl ⟨rfl, _, z3, z1.lower hra⟩)
      have HNX := hide hnext
      clear hnext z1 z2 z3 y1 y2 y3 y4 kb6 fb6
      go_wp2
      go_roundw
      case rel => exact ⟨1, by omega, by go_num, HNX⟩
      case measure => simp [intOf]
    · clear hk
      obtain ⟨ms, hv0⟩ : ∃ ms, v0 = .pointer (some ⟨ms, 0, none⟩) := by
        obtain ⟨m, _, _, e, _⟩ := hside
        exact ⟨m, e⟩
      subst hv0
      have hbw' := hbw
      unfold headC at hbw'
      obtain ⟨c0, c1, c2, c3, _⟩ := m12 hbw'
      have hnew := hide (new_ok 7 5 W Sp wr.drew (by omega) (by omega) (by omega) hW1 hWS (by omega))
      have hSd : (fun V : World => V.cell? ⟨wb, 1 + 1, none⟩ = some (.int .i64 (W : Int)) ∧ V.cell? ⟨wb, 3, none⟩ = some (.int .i64 (Sp : Int))) wr.drew := ⟨c2, c3⟩
      have HBW := hide hbw
      clear hbw hbw' c0 c1 c2 c3
      go_wp2_with fail
      go_region_held3 (fun V : World => V.cell? ⟨wb, 2, none⟩ = some (.int .i64 (W : Int)) ∧ V.cell? ⟨wb, 3, none⟩ = some (.int .i64 (Sp : Int)))
        (first | exact hSd | with_reducible exact hS3)
        (first
          | ((go_at_call 21; refine (pid1 _).mono ?_; rintro e w' ⟨rfl, rfl⟩))
          | ((go_at_call 44; refine hnew.out.mono ?_; rintro e w3 ⟨m, pb, rfl, hs3, hm3, hgm, hgp⟩; have hS3 : (fun V : World => V.cell? ⟨wb, 2, none⟩ = some (.int .i64 (W : Int)) ∧ V.cell? ⟨wb, 3, none⟩ = some (.int .i64 (Sp : Int))) w3 := ⟨hs3.only.cell hSd.1 (fun e => e), hs3.only.cell hSd.2 (fun e => e)⟩; have HM3 := hide hm3; have HS3 := hide hs3; have HG3 := hide (And.intro hgm hgp); clear hs3 hm3 hgm hgp)))
      clear hSd hS3
      go_wp2_with (first | (go_at_call 15; refine (num_any _ _).mono ?_; rintro e w' ⟨rfl, rfl⟩) | (go_at_call 27; refine (tag_any _).mono ?_; rintro e w4 ⟨rfl, hs4⟩; have HS4 := hide hs4; clear hs4) | (go_at_call 21; refine (pid0 _).mono ?_; rintro e w' ⟨rfl, rfl⟩))
      have hst35 : St (fun _ => False) w3 (w4.alloc (.cells #[.int .i64 2] 3)) := HS4.out.alloc _
      have hm5 := HM3.out.st hst35 (fun e => e) (fun e => e)
      have hg5 : w4.heap.size ≠ m := by
        have h1 := HM3.out.1.lt
        have h2 := HS4.out.size
        omega
      have HRS := hide (reset_any m _ 2 w4.heap.size 1 (w4.alloc (.cells #[.int .i64 2] 3)) hm5 (by show 2 < (List.replicate 7 (none : Option Nat)).length; simp) (by show (((2 : Nat)) : Int) ≠ (((5 : Nat)) : Int); omega) ((Blk.new w4 3 #[.int .i64 2]).cell 0) hg5 (Nat.le_refl _))
      have HST35 := hide hst35
      have hmlt : m < (w4.alloc (.cells #[.int .i64 2] 3)).heap.size := hm5.1.lt
      clear hst35 hm5 hg5
      go_wp2_with (first | (go_at_call 31; refine HRS.out.mono ?_; rintro e w6 ⟨pb6, sb6, rfl, hst6, hpb6, hmx6, hstr6⟩; have H6 := hide (And.intro hst6 (And.intro hpb6 (And.intro hmx6 hstr6))); have hbw6 := (HBW.out.st ((St.refl (fun _ => False) wr).drew.trans (HS3.out.trans HST35.out)) (fun e => e)).st hst6 (by have h1 := HBW.out.lt; have h2 := HG3.out.1; show ¬ wb = m; have h3 : wr.heap.size ≤ m := h2; omega); have kb6 := hbw6.cell 1; have fb6 := hbw6.frozen 1; unfold headC at kb6; clear hst6 hpb6 hmx6 hstr6 hbw6) | (go_at_call 15; refine (num_any _ _).mono ?_; rintro e w' ⟨rfl, rfl⟩))
      obtain ⟨y1, y2, y3, y4⟩ := H6.out
      obtain ⟨z1, z2, z3⟩ := side_new (wr := wr) (s := 1) (i := 1) ((St.refl (fun _ => False) wr).drew.trans (HS3.out.trans HST35.out)) HG3.out.1 hmlt HBW.out (X0 := ⟨((5 : Nat) : Int), W, Sp, ⟨0, 0, 0, 0⟩, pb, List.replicate 7 none⟩) rfl rfl (by simp) (by first | rfl | decide) (q := 2) (by omega) (by omega) y1 y2 y3 y4
      have hnext : StRel w a0 wb W Sp 2 (w6.setCell ⟨wb, 1, none⟩ (.pointer (some ⟨m, 0, none⟩))) := by
        refine ⟨?_, ?_, ?_⟩
        · have hwlt := HWB.out
          have hgm : wr.heap.size ≤ m := HG3.out.1
          have hws := hrs.size
          exact hrs.trans' z2 fun k hk e => by omega
        · exact Nat.le_trans hra z2.size
        · exact .inr (.inr ⟨rfl, _, _, _, hra, z3, hside.far z2 (fun k e => by have h1 := HWB.out; have h2 : wr.heap.size ≤ m := HG3.out.1; omega), z1⟩)
      have HNX := hide hnext
      clear hnext z1 z2 z3 y1 y2 y3 y4 kb6 fb6
      go_wp2
      go_roundw
      case rel => exact ⟨2, by omega, by go_num, HNX⟩
      case measure => simp [intOf]
    · clear hk
      go_wp2
      go_ret
      obtain ⟨m0, sb0, X0, e0, s0, t0, q0, q0'⟩ := hside
      obtain ⟨m1, sb1, X1, e1, s1, t1, q1, q1'⟩ := hside1
      subst e0
      subst e1
      obtain ⟨o, g, hA, ho⟩ := wire_of hbw HWB.out.2 HWB.out.1 ha1' s0 q0 q0' t0 s1
      obtain ⟨rfl, rfl⟩ := HWS.out
      exact ⟨wb, o, g, rfl, hA, hrs, ho⟩
end Go.Proofs.Ytkkckinnhkpcmaa
