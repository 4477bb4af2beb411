/-
  A second wire over the two Muxes of a wire, behind a Reset of each (plain).
-/
import Derived.Test.YtkkckinnhkpcmaaTalk
set_option linter.unusedVariables false
set_option linter.unusedSimpArgs false
namespace Go.Proofs.Ytkkckinnhkpcmaa
open Go.RowKit Go.WideShapes Go.ChangeShapes Q

/-- A Mux that was there stands anew: its row and its stream lie in blocks from a up to b. -/
def Anew (w : World) (a b W Sp s m : Nat) : Prop :=
  ∃ sb X, MuxAt w m X ∧ StreamAt w (fun k => a ≤ k ∧ k < b ∧ k ≠ X.pb) sb (str0 W) ∧ a ≤ X.pb ∧ X.pb < b ∧ X.window = W ∧ X.room = Sp ∧ X.t = tg ∧ X.with_ (2 + 3 * (1 - (s : Int))) = some sb ∧ X.self = 2 + 3 * (s : Int)
theorem Anew.far {w w' : World} {a b W Sp s m : Nat} {G : Nat → Prop} (h : Anew w a b W Sp s m) (hs : St G w w') (hG : ∀ k, G k → (k < a ∨ b ≤ k) ∧ k ≠ m) : Anew w' a b W Sp s m := by
  obtain ⟨sb, X, h1, h2, h3, h4, h5⟩ := h
  refine ⟨sb, X, h1.st hs (fun e => (hG _ e).2 rfl) (fun e => ?_), h2.far hs fun k hk e => ?_, h3, h4, h5⟩
  · have := (hG _ e).1
    omega
  · have := (hG _ e).1
    omega
/-- Both Muxes stand anew. -/
theorem wire_again {w : World} {nb W Sp m0 m1 a0 a1 B : Nat} (hw : Blk w nb 45 (headC (.pointer (some ⟨m0, 0, none⟩)) (.pointer (some ⟨m1, 0, none⟩)) W Sp)) (hB : B ≤ nb) (hB0 : B ≤ m0) (hB1 : B ≤ m1) (hm0 : m0 < nb) (hm1 : m1 < nb)
    (hwa : nb < a0) (ha : a0 ≤ a1) (hs : a1 ≤ w.heap.size) (h0 : Anew w a0 a1 W Sp 0 m0) (h1 : Anew w a1 w.heap.size W Sp 1 m1) : ∃ o g, WireAt w o nb W Sp g (wr0 W) ∧ OwnX B o g := by
  obtain ⟨sb0, X0, u1, u2, u3, u4, u5, u6, u7, u8, u9⟩ := h0
  obtain ⟨sb1, X1, v1, v2, v3, v4, v5, v6, v7, v8, v9⟩ := h1
  refine ⟨fun k => if k = nb then 1 else if k = m0 ∨ k = X0.pb ∨ k = m1 ∨ k = X1.pb then 2 else if k < a0 then 0 else if k < a1 then 3 else if k < w.heap.size then 4 else 0,
    ⟨fun s => if s = 0 then m0 else m1, fun s => if s = 0 then X0 else X1, fun s => if s = 0 then sb0 else sb1, fun _ _ => .slice none 0 0⟩, ⟨?_, ?_, ?_, ?_, ?_, ?_, ?_, ?_⟩, ?_⟩
  · exact hw
  · simp
  · intro s hs
    have hs' : s = 0 ∨ s = 1 := by omega
    rcases hs' with rfl | rfl
    · exact u1
    · exact v1
  · intro s hs
    have hs' : s = 0 ∨ s = 1 := by omega
    rcases hs' with rfl | rfl
    · exact ⟨by show (if m0 = nb then _ else _) = _; rw [if_neg (by omega), if_pos (.inl rfl)], by show (if X0.pb = nb then _ else _) = _; rw [if_neg (by omega), if_pos (.inr (.inl rfl))]⟩
    · exact ⟨by show (if m1 = nb then _ else _) = _; rw [if_neg (by omega), if_pos (.inr (.inr (.inl rfl)))], by show (if X1.pb = nb then _ else _) = _; rw [if_neg (by omega), if_pos (.inr (.inr (.inr rfl)))]⟩
  · intro s hs
    have hs' : s = 0 ∨ s = 1 := by omega
    rcases hs' with rfl | rfl
    · exact ⟨u5, u6, u7, u8⟩
    · exact ⟨v5, v6, v7, v8⟩
  · intro s hs
    have hs' : s = 0 ∨ s = 1 := by omega
    rcases hs' with rfl | rfl
    · refine u2.mono fun k hk => ?_
      obtain ⟨q1, q2, q3⟩ := hk
      show (if k = nb then _ else _) = _
      rw [if_neg (by omega), if_neg (by omega), if_neg (by omega), if_pos q2]
    · refine v2.mono fun k hk => ?_
      obtain ⟨q1, q2, q3⟩ := hk
      show (if k = nb then _ else _) = _
      rw [if_neg (by omega), if_neg (by omega), if_neg (by omega), if_neg (by omega), if_pos q2]
  · intro k s hk hs
    match k, hk with
    | 0, _ => exact BRow.nil _ _
    | 1, _ => exact BRow.nil _ _
    | 2, _ => exact FRow.nil _ _
    | 3, _ => exact ARow.nil _ _
  · intro q hq
    show (if q = nb then _ else _) = _
    rw [if_neg (by omega), if_neg (by omega), if_neg (by omega), if_neg (by omega), if_neg (by omega)]
  · refine ⟨fun q hq => ?_, fun s hs => ?_⟩
    · show (if q = nb then _ else _) = _
      rw [if_neg (by omega), if_neg (by omega), if_pos (by omega)]
    · have hs' : s = 0 ∨ s = 1 := by omega
      rcases hs' with rfl | rfl
      · exact u9
      · exact v9
/-- What a Reset of an old Mux leaves: a side anew. -/
theorem anew_new {w5 w6 : World} {W Sp s m pb sb q : Nat} {X : Mx} (x1 : X.window = W) (x2 : X.room = Sp) (x6 : X.self = 2 + 3 * (s : Int)) (hq : q < X.ps.length) (hqs : (2 : Int) + 3 * (1 - (s : Int)) = (q : Int)) (hpb : w5.heap.size ≤ pb)
    (hmx : MuxAt w6 m { X with t := tg, pb := pb, ps := (List.replicate X.ps.length none).set q (some sb) }) (hstr : StreamAt w6 (fun k => w5.heap.size ≤ k ∧ k ≠ pb) sb (str0 X.window)) : Anew w6 w5.heap.size w6.heap.size W Sp s m := by
  have hpbl := hmx.2.1.lt
  rw [x1] at hstr
  refine ⟨sb, _, hmx, hstr.bound.mono fun k hk => ⟨hk.1.1, hk.2, hk.1.2⟩, hpb, hpbl, x1, x2, rfl, ?_, x6⟩
  show Mx.with_ _ _ = _
  rw [hqs]
  unfold Mx.with_
  rw [if_neg (by omega), Int.toNat_natCast]
  simp [List.getD, hq]
theorem with_q {X : Mx} {q : Nat} {sb : Nat} (h : X.with_ (q : Int) = some sb) : q < X.ps.length := by
  unfold Mx.with_ at h
  split at h
  · cases h
  · rcases Nat.lt_or_ge q X.ps.length with h' | h'
    · exact h'
    · rw [Int.toNat_natCast] at h
      simp [List.getD, List.getElem?_eq_none_iff.2 h'] at h
/-- A Mux as it was, of one side. -/
structure MuxOld (w : World) (B W Sp s m : Nat) (X : Mx) : Prop where
  mux : MuxAt w m X
  b0 : B ≤ m
  x1 : X.window = W
  x2 : X.room = Sp
  len : 5 - 3 * s < X.ps.length
  sf : X.self = 2 + 3 * (s : Int)
theorem MuxOld.far {w w' : World} {B W Sp s m : Nat} {X : Mx} {G : Nat → Prop} (h : MuxOld w B W Sp s m X) (hs : St G w w') (h1 : ¬ G m) (h2 : ¬ G X.pb) : MuxOld w' B W Sp s m X := ⟨h.mux.st hs h1 h2, h.b0, h.x1, h.x2, h.len, h.sf⟩
/-- What the second wire is made of. -/
structure Olds (w wr : World) (wb W Sp m0 m1 : Nat) (X0 X1 : Mx) : Prop where
  c0 : wr.cell? ⟨wb, 0, none⟩ = some (.pointer (some ⟨m0, 0, none⟩))
  c1 : wr.cell? ⟨wb, 1, none⟩ = some (.pointer (some ⟨m1, 0, none⟩))
  c2 : wr.cell? ⟨wb, 2, none⟩ = some (.int .i64 (W : Int))
  c3 : wr.cell? ⟨wb, 3, none⟩ = some (.int .i64 (Sp : Int))
  o0 : MuxOld wr w.heap.size W Sp 0 m0 X0
  o1 : MuxOld wr w.heap.size W Sp 1 m1 X1
  n0 : m0 ≠ m1
  n1 : X1.pb ≠ m0
  n2 : X0.pb ≠ m1
theorem Made.olds {w wr : World} {wb W Sp : Nat} {x : Wr} (h : Made w wb W Sp x wr) : ∃ m0 m1 X0 X1, St (fun _ => False) w wr ∧ Olds w wr wb W Sp m0 m1 X0 X1 := by
  obtain ⟨o, g, hA, hs, hx⟩ := h
  have hge : ∀ s, s < 2 → w.heap.size ≤ g.m s := fun s h2 => by
    rcases Nat.lt_or_ge (g.m s) w.heap.size with h' | h'
    · have h3 := hx.own _ h'
      have h4 := (hA.omux s h2).1
      omega
    · exact h'
  have hb := hA.head
  unfold wireC ptr at hb
  have i0 := hA.isX 0 (by omega)
  have i1 := hA.isX 1 (by omega)
  have s0 := hx.self 0 (by omega)
  have s1 := hx.self 1 (by omega)
  have q0 := with_q (q := 5) (by simpa using i0.2.2.2)
  have q1 := with_q (q := 2) (by simpa using i1.2.2.2)
  have hne : g.m 0 ≠ g.m 1 := fun e => by
    have h0 := (hA.mux 0 (by omega)).1.cell 1
    have h1 := (hA.mux 1 (by omega)).1.cell 1
    rw [e] at h0
    rw [h0] at h1
    unfold muxC at h1
    simp [s0, s1] at h1
  exact ⟨g.m 0, g.m 1, g.X 0, g.X 1, hs, hb.cell 0, hb.cell 1, hb.cell 2, hb.cell 3, ⟨hA.mux 0 (by omega), hge 0 (by omega), i0.1, i0.2.1, q0, s0⟩, ⟨hA.mux 1 (by omega), hge 1 (by omega), i1.1, i1.2.1, q1, s1⟩, hne,
    (Blk.ne_ (hA.mux 0 (by omega)).1 (hA.mux 1 (by omega)).2.1 (by decide)).symm, (Blk.ne_ (hA.mux 1 (by omega)).1 (hA.mux 0 (by omega)).2.1 (by decide)).symm⟩
theorem str0_fits {W : Nat} (hW : W ≤ 5) : (str0 W).Fits := by
  refine ⟨?_, ?_, ?_, ?_, ?_, ?_⟩ <;> simp [str0] <;> omega
theorem Anew.sent {w : World} {a b W Sp s m : Nat} (h : Anew w a b W Sp s m) (hW : W ≤ 5) {p : Int} (hp : p = 2 + 3 * (1 - (s : Int))) : Calls Try.prog 32 #[.pointer (some ⟨m, 0, none⟩), .int .i64 p] w fun r w' => r = .returned (.int .i64 0) ∧ ∃ m, w' = w.drewN m := by
  obtain ⟨sb, X, h1, h2, _, _, _, _, _, h8, _⟩ := h
  subst hp
  have hh := sent_any _ m sb X _ (str0 W) w h1 h8 h2 (str0_fits hW)
  simpa [str0] using hh
theorem Anew.got {w : World} {a b W Sp s m : Nat} (h : Anew w a b W Sp s m) (hW : W ≤ 5) {p : Int} (hp : p = 2 + 3 * (1 - (s : Int))) : Calls Try.prog 30 #[.pointer (some ⟨m, 0, none⟩), .int .i64 p] w fun r w' => r = .returned (.int .i64 0) ∧ w = w' := by
  obtain ⟨sb, X, h1, h2, _, _, _, _, _, h8, _⟩ := h
  subst hp
  have hh := got_any _ m sb X _ (str0 W) w h1 h8 h2 (str0_fits hW)
  simpa [str0] using hh
theorem Anew.room {w : World} {a b W Sp s m : Nat} (h : Anew w a b W Sp s m) (hW : W ≤ 5) {p : Int} (hp : p = 2 + 3 * (1 - (s : Int))) : Calls Try.prog 24 #[.pointer (some ⟨m, 0, none⟩), .int .i64 p] w fun r w' => r = .returned (.int .i64 (Sp : Int)) ∧ ∃ m, w' = w.drewN m := by
  obtain ⟨sb, X, h1, h2, _, _, _, h6, _, h8, _⟩ := h
  subst hp
  have hh := room_any _ m sb X _ (str0 W) w h1 h8 h2 (str0_fits hW)
  simpa [str0, h6] using hh
theorem Anew.owed {w : World} {a b W Sp s m : Nat} (h : Anew w a b W Sp s m) {p : Int} (hp : p = 2 + 3 * (1 - (s : Int))) : Calls Try.prog 33 #[.pointer (some ⟨m, 0, none⟩), .int .i64 p] w fun e w' => e = .returned (.tuple #[.agg (akC ⟨0, 0, 0, 0⟩ 0), .bool false]) ∧ St (fun _ => False) w w' := by
  obtain ⟨sb, X, h1, h2, _, _, _, _, _, h8, _⟩ := h
  subst hp
  exact owed_no _ m sb X _ (str0 W) w h1 h8 h2 rfl
theorem Anew.frames {w : World} {a b W Sp s m : Nat} (h : Anew w a b W Sp s m) (hW : W ≤ 5) {p : Int} (hp : p = 2 + 3 * (1 - (s : Int))) : Calls Try.prog 34 #[.pointer (some ⟨m, 0, none⟩), .int .i64 p] w fun e w' => ∃ A c, e = .returned (.slice A 0 c) ∧ St (fun _ => False) w w' := by
  obtain ⟨sb, X, h1, h2, _, _, _, _, _, h8, _⟩ := h
  subst hp
  refine (frames_nil _ m sb X _ (str0 W) w h1 h8 h2 (str0_fits hW) rfl).mono ?_
  rintro e w' ⟨v, rfl, ⟨vs, hv, _, _⟩, hs⟩
  obtain ⟨A, c, rfl, _, _⟩ := own_val hv
  refine ⟨A, c, ?_, hs⟩
  simp [framesTo_len, str0]
theorem Anew.upper {w : World} {a b b' W Sp s m : Nat} (h : Anew w a b W Sp s m) (hb : b ≤ b') : Anew w a b' W Sp s m := by
  obtain ⟨sb, X, h1, h2, h3, h4, h5⟩ := h
  exact ⟨sb, X, h1, h2.mono fun k hk => ⟨hk.1, Nat.lt_of_lt_of_le hk.2.1 hb, hk.2.2⟩, h3, Nat.lt_of_lt_of_le h4 hb, h5⟩
theorem Anew.quiet {w w' : World} {a b W Sp s m : Nat} (h : Anew w a b W Sp s m) (hs : St (fun _ => False) w w') : Anew w' a b W Sp s m := h.far hs fun k e => e.elim
/-- A Reset of a Mux that was there. -/
theorem MuxOld.reset {w : World} {B W Sp s m : Nat} {X : Mx} (h : MuxOld w B W Sp s m X) (hs : s < 2) {pg : Nat} {p : Int} (hp : w.cell? ⟨pg, 0, none⟩ = some (.int .i64 p)) (hpp : p = 2 + 3 * (1 - (s : Int))) (hpm : pg ≠ m) :
    Calls Try.prog 31 #[.pointer (some ⟨m, 0, none⟩), tg.v, .slice (some ⟨pg, 0, none⟩) 1 1] w fun e w' => e = .returned (.int .i64 0) ∧ St (fun k => k = m) w w' ∧ Anew w' w.heap.size w'.heap.size W Sp s m := by
  have e1 : p = ((5 - 3 * s : Nat) : Int) := by omega
  rw [e1] at hp
  refine (reset_any m X (5 - 3 * s) pg 1 w h.mux h.len (by rw [h.sf]; omega) hp hpm (Nat.le_refl _)).mono ?_
  rintro e w' ⟨pb, sb, rfl, y1, y2, y3, y4⟩
  exact ⟨rfl, y1, anew_new h.x1 h.x2 h.sf h.len (by omega) y2 y3 y4⟩
end Go.Proofs.Ytkkckinnhkpcmaa
