/-
  Contracts of Answer, Doubts (bound, quorateref18); BoundNumbers, the walk.
-/
import Derived.Test.YtkcjfiifajjpiaaBoundM
set_option linter.unusedVariables false
namespace Go.Proofs.Ytkcjfiifajjpiaa
open Go.RowKit Go.WideShapes Go.ChangeShapes Q

noncomputable def answerN (c : Cfg) (x : Int) : Int := if fitE c x = 0 then settleN c x + 2 * deliverN c x else 0
noncomputable def doubtE (c : Cfg) (x : Int) : Int := if c.err = 0 then (if x < 1 ∨ c.nodes < x then 1 else 0) else 22
noncomputable def doubtN (c : Cfg) (x : Int) : Int := if doubtE c x = 0 then x * (x - 1) * upI (c.cap - c.base) c.step else 0
theorem settle_bound (c : Cfg) (x : Int) : 0 ≤ settleN c x ∧ settleN c x ≤ 208 := by
  rcases fitE_cases c x with ⟨hok, x1, x2, x3, he⟩ | he | he
  · have hc := hok.cap
    unfold settleN; rw [if_pos he]; omega
  all_goals unfold settleN; rw [if_neg (by rw [he]; decide)]; omega
theorem deliver_bound (c : Cfg) (x : Int) : 0 ≤ deliverN c x ∧ deliverN c x ≤ 4896 := by
  rcases fitE_cases c x with ⟨hok, x1, x2, x3, he⟩ | he | he
  · have hc := hok.window
    have u := up_bound (a := 32) (b := c.window) (by omega) (by omega) hc.1
    have m := mul_bound (a := upI 32 c.window + 4) (b := 4 * x + 8) (A := 68) (B := 72) (by omega) (by omega) (by omega) (by omega)
    unfold deliverN; rw [if_pos he]; omega
  all_goals unfold deliverN; rw [if_neg (by rw [he]; decide)]; omega
theorem doubt_cases (c : Cfg) (x : Int) : (c.Ok ∧ 1 ≤ x ∧ x ≤ c.nodes ∧ doubtE c x = 0) ∨ (c.Ok ∧ (x < 1 ∨ c.nodes < x) ∧ doubtE c x = 1) ∨ (¬ c.Ok ∧ doubtE c x = 22) := by
  by_cases h : c.Ok
  · unfold doubtE; rw [if_pos (Cfg.err_ok h)]
    by_cases g : x < 1 ∨ c.nodes < x
    · rw [if_pos g]; exact .inr (.inl ⟨h, g, rfl⟩)
    · rw [if_neg g]; exact .inl ⟨h, by omega, by omega, rfl⟩
  · refine .inr (.inr ⟨h, ?_⟩)
    unfold doubtE; rw [Cfg.err_bad h]; simp

set_option maxRecDepth 100000 in
set_option maxHeartbeats 1000000 in
theorem answer_any (nd wn bs st cp rm fl x : Int) (vs : List Int) (A : Option Addr) (n k : Nat) (w : World) (h : RI w w.heap.size A n vs) (hn : n ≤ 17592186044416) :
    Calls Try.prog 11 #[cfgV ⟨nd, wn, bs, st, cp, rm, fl, vs⟩ A n k, .int .i64 x] w fun e w' => e = .returned (.tuple #[.int .i64 (answerN ⟨nd, wn, bs, st, cp, rm, fl, vs⟩ x), .int .i64 (fitE ⟨nd, wn, bs, st, cp, rm, fl, vs⟩ x)]) ∧ Below w.heap.size w w' := by
  have H0 : Below w.heap.size w (w.alloc (cfgO ⟨nd, wn, bs, st, cp, rm, fl, vs⟩ A n k)) := (Below.refl _ _).alloc (Nat.le_refl _) _
  have R0 := (Reads.below h H0).more H0.size
  have F := deliver_any nd wn bs st cp rm fl x vs A n k _ R0 hn
  have G := fun w (R : RI w w.heap.size A n vs) => settle_any nd wn bs st cp rm fl x vs A n k w R hn
  obtain ⟨d0, d1⟩ := deliver_bound ⟨nd, wn, bs, st, cp, rm, fl, vs⟩ x
  obtain ⟨s0, s1⟩ := settle_bound ⟨nd, wn, bs, st, cp, rm, fl, vs⟩ x
  have HN : Hid (answerN ⟨nd, wn, bs, st, cp, rm, fl, vs⟩ x = if fitE ⟨nd, wn, bs, st, cp, rm, fl, vs⟩ x = 0 then settleN ⟨nd, wn, bs, st, cp, rm, fl, vs⟩ x + 2 * deliverN ⟨nd, wn, bs, st, cp, rm, fl, vs⟩ x else 0) := rfl
  obtain ⟨D, hD⟩ : ∃ D, deliverN ⟨nd, wn, bs, st, cp, rm, fl, vs⟩ x = D := ⟨_, rfl⟩
  obtain ⟨S, hS⟩ : ∃ S, settleN ⟨nd, wn, bs, st, cp, rm, fl, vs⟩ x = S := ⟨_, rfl⟩
  rw [hD] at d0 d1 HN F
  rw [hS] at s0 s1 HN
  rcases fitE_cases ⟨nd, wn, bs, st, cp, rm, fl, vs⟩ x with ⟨_, _, _, _, he⟩ | he | he
  · rw [he, if_pos rfl] at HN
    rw [he] at F ⊢
    have G := hide fun w R => by have := G w R; rw [hS, he] at this; exact this
    clear he hD hS
    unfold cfgV at *
    unfold cfgO at *
    go_enter Try.func11, Try.ntmps11
    go_wp2_with fail
    refine F.mono ?_
    rintro e w2 ⟨rfl, hb⟩
    obtain ⟨k0, k1, k2, k3, k4, k5, k6, k7⟩ := keep8 rfl hb
    have R2 := (Reads.below R0 hb).more hb.size
    go_wp2_with fail
    refine (G.out _ R2).mono ?_
    rintro e w3 ⟨rfl, hb3⟩
    go_wp2
    go_ret2
    exact ⟨ret2_ (vint HN.out.symm) rfl, H0.trans ((hb.trans (hb3.mono hb.size)).mono H0.size)⟩
  all_goals
    rw [he, if_neg (by decide)] at HN
    rw [he] at F ⊢
    clear he hD hS G
    unfold cfgV at *
    unfold cfgO at *
    go_enter Try.func11, Try.ntmps11
    go_wp2_with fail
    refine F.mono ?_
    rintro e w2 ⟨rfl, hb⟩
    go_wp2
    go_ret2
    exact ⟨ret2_ (vint HN.out.symm) rfl, H0.trans (hb.mono H0.size)⟩

set_option maxRecDepth 100000 in
set_option maxHeartbeats 1000000 in
theorem ranswer_any (nd wn bs st cp rm fl x : Int) (vs : List Int) (A : Option Addr) (n k : Nat) (w : World) (h : RI w w.heap.size A n vs) (hn : n ≤ 17592186044416) :
    Calls Try.prog 12 #[cfgV ⟨nd, wn, bs, st, cp, rm, fl, vs⟩ A n k, .int .i64 x] w fun e w' => e = .returned (.tuple #[.int .i64 (answerN ⟨nd, wn, bs, st, cp, rm, fl, vs⟩ x), .int .i64 (fitE ⟨nd, wn, bs, st, cp, rm, fl, vs⟩ x)]) ∧ Below w.heap.size w w' := by
  have H0 : Below w.heap.size w (w.alloc (cfgO ⟨nd, wn, bs, st, cp, rm, fl, vs⟩ A n k)) := (Below.refl _ _).alloc (Nat.le_refl _) _
  have R0 := (Reads.below h H0).more H0.size
  have F := rdeliver_any nd wn bs st cp rm fl x vs A n k _ R0 hn
  have G := fun w (R : RI w w.heap.size A n vs) => rsettle_any nd wn bs st cp rm fl x vs A n k w R hn
  obtain ⟨d0, d1⟩ := deliver_bound ⟨nd, wn, bs, st, cp, rm, fl, vs⟩ x
  obtain ⟨s0, s1⟩ := settle_bound ⟨nd, wn, bs, st, cp, rm, fl, vs⟩ x
  have HN : Hid (answerN ⟨nd, wn, bs, st, cp, rm, fl, vs⟩ x = if fitE ⟨nd, wn, bs, st, cp, rm, fl, vs⟩ x = 0 then settleN ⟨nd, wn, bs, st, cp, rm, fl, vs⟩ x + 2 * deliverN ⟨nd, wn, bs, st, cp, rm, fl, vs⟩ x else 0) := rfl
  obtain ⟨D, hD⟩ : ∃ D, deliverN ⟨nd, wn, bs, st, cp, rm, fl, vs⟩ x = D := ⟨_, rfl⟩
  obtain ⟨S, hS⟩ : ∃ S, settleN ⟨nd, wn, bs, st, cp, rm, fl, vs⟩ x = S := ⟨_, rfl⟩
  rw [hD] at d0 d1 HN F
  rw [hS] at s0 s1 HN
  rcases fitE_cases ⟨nd, wn, bs, st, cp, rm, fl, vs⟩ x with ⟨_, _, _, _, he⟩ | he | he
  · rw [he, if_pos rfl] at HN
    rw [he] at F ⊢
    have G := hide fun w R => by have := G w R; rw [hS, he] at this; exact this
    clear he hD hS
    unfold cfgV at *
    unfold cfgO at *
    go_enter Try.func12, Try.ntmps12
    go_wp2_with fail
    refine F.mono ?_
    rintro e w2 ⟨rfl, hb⟩
    obtain ⟨k0, k1, k2, k3, k4, k5, k6, k7⟩ := keep8 rfl hb
    have R2 := (Reads.below R0 hb).more hb.size
    go_wp2_with fail
    refine (G.out _ R2).mono ?_
    rintro e w3 ⟨rfl, hb3⟩
    go_wp2
    go_ret2
    exact ⟨ret2_ (vint HN.out.symm) rfl, H0.trans ((hb.trans (hb3.mono hb.size)).mono H0.size)⟩
  all_goals
    rw [he, if_neg (by decide)] at HN
    rw [he] at F ⊢
    clear he hD hS G
    unfold cfgV at *
    unfold cfgO at *
    go_enter Try.func12, Try.ntmps12
    go_wp2_with fail
    refine F.mono ?_
    rintro e w2 ⟨rfl, hb⟩
    go_wp2
    go_ret2
    exact ⟨ret2_ (vint HN.out.symm) rfl, H0.trans (hb.mono H0.size)⟩

set_option maxRecDepth 100000 in
set_option maxHeartbeats 1000000 in
theorem doubts_any (nd wn bs st cp rm fl x : Int) (vs : List Int) (A : Option Addr) (n k : Nat) (w : World) (h : RI w w.heap.size A n vs) (hn : n ≤ 17592186044416) :
    Calls Try.prog 13 #[cfgV ⟨nd, wn, bs, st, cp, rm, fl, vs⟩ A n k, .int .i64 x] w fun e w' => e = .returned (.tuple #[.int .i64 (doubtN ⟨nd, wn, bs, st, cp, rm, fl, vs⟩ x), .int .i64 (doubtE ⟨nd, wn, bs, st, cp, rm, fl, vs⟩ x)]) ∧ Below w.heap.size w w' := by
  have H0 : Below w.heap.size w (w.alloc (cfgO ⟨nd, wn, bs, st, cp, rm, fl, vs⟩ A n k)) := (Below.refl _ _).alloc (Nat.le_refl _) _
  have R0 := (Reads.below h H0).more H0.size
  have H1 : Below w.heap.size w ((w.alloc (cfgO ⟨nd, wn, bs, st, cp, rm, fl, vs⟩ A n k)).alloc (cfgO ⟨nd, wn, bs, st, cp, rm, fl, vs⟩ A n k)) := H0.alloc H0.size _
  rcases doubt_cases ⟨nd, wn, bs, st, cp, rm, fl, vs⟩ x with ⟨hok, x1, x2, hd⟩ | ⟨hok, hx, hd⟩ | ⟨hok, hd⟩
  · have he := Cfg.err_ok hok
    have hb : 1 ≤ bs ∧ bs ≤ cp := hok.base
    have hc : 1 ≤ cp ∧ cp ≤ 64 := hok.cap
    have hs : 1 ≤ st ∧ st ≤ cp := hok.step
    have hm : 1 ≤ nd ∧ nd ≤ 16 := hok.nodes
    have x2 : x ≤ nd := x2
    have u := up_bound (a := cp - bs) (b := st) (by omega) (by omega) hs.1
    have m := mul_bound (a := x) (b := x - 1) (A := 16) (B := 15) (by omega) (by omega) (by omega) (by omega)
    have m2 := mul_bound (a := x * (x - 1)) (b := upI (cp - bs) st) (A := 240) (B := 64) (by omega) (by omega) (by omega) (by omega)
    have HN : Hid (doubtN ⟨nd, wn, bs, st, cp, rm, fl, vs⟩ x = x * (x - 1) * upI (cp - bs) st) := by show _ = _; unfold doubtN; rw [if_pos hd]
    rw [hd]
    clear hok hd
    unfold cfgV cfgO at *
    go_enter Try.func13, Try.ntmps13
    go_wp2_with (first | (go_at_call 25; refine (check_any nd wn bs st cp rm fl vs A n k _ R0 hn).mono ?_; rintro e w' ⟨rfl, rfl⟩; rw [he]) | (go_at_call 23; refine (up_any (cp - bs) st _ (by omega) (by omega) (by omega) (by omega)).mono ?_; rintro e w' ⟨rfl, rfl⟩))
    go_ret2
    exact ⟨ret2_ (vint HN.out.symm) rfl, H1⟩
  · have he := Cfg.err_ok hok
    have hx : x < 1 ∨ nd < x := hx
    have HN : Hid (doubtN ⟨nd, wn, bs, st, cp, rm, fl, vs⟩ x = 0) := by show _ = _; unfold doubtN; rw [if_neg (by rw [hd]; decide)]
    rw [hd]
    clear hok hd
    unfold cfgV cfgO at *
    by_cases h1 : x < 1
    · go_enter Try.func13, Try.ntmps13
      go_wp2_with (go_at_call 25; refine (check_any nd wn bs st cp rm fl vs A n k _ R0 hn).mono ?_; rintro e w' ⟨rfl, rfl⟩; rw [he])
      go_ret2
      exact ⟨ret2_ (vint HN.out.symm) rfl, H1⟩
    · have h2 : nd < x := by omega
      go_enter Try.func13, Try.ntmps13
      go_wp2_with (go_at_call 25; refine (check_any nd wn bs st cp rm fl vs A n k _ R0 hn).mono ?_; rintro e w' ⟨rfl, rfl⟩; rw [he])
      go_ret2
      exact ⟨ret2_ (vint HN.out.symm) rfl, H1⟩
  · have he := Cfg.err_bad hok
    have HN : Hid (doubtN ⟨nd, wn, bs, st, cp, rm, fl, vs⟩ x = 0) := by show _ = _; unfold doubtN; rw [if_neg (by rw [hd]; decide)]
    rw [hd]
    clear hok hd
    unfold cfgV cfgO at *
    go_enter Try.func13, Try.ntmps13
    go_wp2_with (go_at_call 25; refine (check_any nd wn bs st cp rm fl vs A n k _ R0 hn).mono ?_; rintro e w' ⟨rfl, rfl⟩; rw [he])
    go_ret2
    exact ⟨ret2_ (vint HN.out.symm) rfl, H1⟩

set_option maxRecDepth 100000 in
set_option maxHeartbeats 1000000 in
theorem rdoubts_any (nd wn bs st cp rm fl x : Int) (vs : List Int) (A : Option Addr) (n k : Nat) (w : World) (h : RI w w.heap.size A n vs) (hn : n ≤ 17592186044416) :
    Calls Try.prog 14 #[cfgV ⟨nd, wn, bs, st, cp, rm, fl, vs⟩ A n k, .int .i64 x] w fun e w' => e = .returned (.tuple #[.int .i64 (doubtN ⟨nd, wn, bs, st, cp, rm, fl, vs⟩ x), .int .i64 (doubtE ⟨nd, wn, bs, st, cp, rm, fl, vs⟩ x)]) ∧ Below w.heap.size w w' := by
  have H0 : Below w.heap.size w (w.alloc (cfgO ⟨nd, wn, bs, st, cp, rm, fl, vs⟩ A n k)) := (Below.refl _ _).alloc (Nat.le_refl _) _
  have R0 := (Reads.below h H0).more H0.size
  have H1 : Below w.heap.size w ((w.alloc (cfgO ⟨nd, wn, bs, st, cp, rm, fl, vs⟩ A n k)).alloc (cfgO ⟨nd, wn, bs, st, cp, rm, fl, vs⟩ A n k)) := H0.alloc H0.size _
  rcases doubt_cases ⟨nd, wn, bs, st, cp, rm, fl, vs⟩ x with ⟨hok, x1, x2, hd⟩ | ⟨hok, hx, hd⟩ | ⟨hok, hd⟩
  · have he := Cfg.err_ok hok
    have hb : 1 ≤ bs ∧ bs ≤ cp := hok.base
    have hc : 1 ≤ cp ∧ cp ≤ 64 := hok.cap
    have hs : 1 ≤ st ∧ st ≤ cp := hok.step
    have hm : 1 ≤ nd ∧ nd ≤ 16 := hok.nodes
    have x2 : x ≤ nd := x2
    have u := up_bound (a := cp - bs) (b := st) (by omega) (by omega) hs.1
    have m := mul_bound (a := x) (b := x - 1) (A := 16) (B := 15) (by omega) (by omega) (by omega) (by omega)
    have m2 := mul_bound (a := x * (x - 1)) (b := upI (cp - bs) st) (A := 240) (B := 64) (by omega) (by omega) (by omega) (by omega)
    have HN : Hid (doubtN ⟨nd, wn, bs, st, cp, rm, fl, vs⟩ x = x * (x - 1) * upI (cp - bs) st) := by show _ = _; unfold doubtN; rw [if_pos hd]
    rw [hd]
    clear hok hd
    unfold cfgV cfgO at *
    go_enter Try.func14, Try.ntmps14
    go_wp2_with (first | (go_at_call 19; refine (rcheck_any nd wn bs st cp rm fl vs A n k _ R0 hn).mono ?_; rintro e w' ⟨rfl, rfl⟩; rw [he]) | (go_at_call 24; refine (over_any (cp - bs) st _ (by omega) (by omega) (by omega) (by omega)).mono ?_; rintro e w' ⟨rfl, rfl⟩))
    go_ret2
    exact ⟨ret2_ (vint HN.out.symm) rfl, H1⟩
  · have he := Cfg.err_ok hok
    have hx : x < 1 ∨ nd < x := hx
    have HN : Hid (doubtN ⟨nd, wn, bs, st, cp, rm, fl, vs⟩ x = 0) := by show _ = _; unfold doubtN; rw [if_neg (by rw [hd]; decide)]
    rw [hd]
    clear hok hd
    unfold cfgV cfgO at *
    by_cases h1 : x < 1
    · go_enter Try.func14, Try.ntmps14
      go_wp2_with (go_at_call 19; refine (rcheck_any nd wn bs st cp rm fl vs A n k _ R0 hn).mono ?_; rintro e w' ⟨rfl, rfl⟩; rw [he])
      go_ret2
      exact ⟨ret2_ (vint HN.out.symm) rfl, H1⟩
    · have h2 : nd < x := by omega
      go_enter Try.func14, Try.ntmps14
      go_wp2_with (go_at_call 19; refine (rcheck_any nd wn bs st cp rm fl vs A n k _ R0 hn).mono ?_; rintro e w' ⟨rfl, rfl⟩; rw [he])
      go_ret2
      exact ⟨ret2_ (vint HN.out.symm) rfl, H1⟩
  · have he := Cfg.err_bad hok
    have HN : Hid (doubtN ⟨nd, wn, bs, st, cp, rm, fl, vs⟩ x = 0) := by show _ = _; unfold doubtN; rw [if_neg (by rw [hd]; decide)]
    rw [hd]
    clear hok hd
    unfold cfgV cfgO at *
    go_enter Try.func14, Try.ntmps14
    go_wp2_with (go_at_call 19; refine (rcheck_any nd wn bs st cp rm fl vs A n k _ R0 hn).mono ?_; rintro e w' ⟨rfl, rfl⟩; rw [he])
    go_ret2
    exact ⟨ret2_ (vint HN.out.symm) rfl, H1⟩


/-- The numbers' box keeps them. -/
theorem keep10 {w w1 w2 : World} {c0 c1 c2 c3 c4 c5 c6 c7 c8 c9 : Value} {t : TypeId} (he : w1 = w.alloc (.cells #[c0, c1, c2, c3, c4, c5, c6, c7, c8, c9] t)) (hb : Below w1.heap.size w1 w2) :
    w2.cell? ⟨w.heap.size, 0, none⟩ = some c0 ∧ w2.cell? ⟨w.heap.size, 1, none⟩ = some c1 ∧ w2.cell? ⟨w.heap.size, 2, none⟩ = some c2 ∧ w2.cell? ⟨w.heap.size, 3, none⟩ = some c3 ∧
    w2.cell? ⟨w.heap.size, 4, none⟩ = some c4 ∧ w2.cell? ⟨w.heap.size, 5, none⟩ = some c5 ∧ w2.cell? ⟨w.heap.size, 6, none⟩ = some c6 ∧ w2.cell? ⟨w.heap.size, 7, none⟩ = some c7 ∧
    w2.cell? ⟨w.heap.size, 8, none⟩ = some c8 ∧ w2.cell? ⟨w.heap.size, 9, none⟩ = some c9 := by
  subst he
  have h : Blk w2 w.heap.size t #[c0, c1, c2, c3, c4, c5, c6, c7, c8, c9] := (Blk.new w t _).below hb (by simp)
  exact ⟨h.cell 0, h.cell 1, h.cell 2, h.cell 3, h.cell 4, h.cell 5, h.cell 6, h.cell 7, h.cell 8, h.cell 9⟩

set_option maxRecDepth 100000 in
set_option maxHeartbeats 2000000 in
theorem numbers_walk (nd wn bs st cp rm fl x y : Int) (vs : List Int) (A : Option Addr) (n k : Nat) (w : World) (h : RI w w.heap.size A n vs) (hn : n ≤ 17592186044416) :
    Calls Try.prog 3 #[.agg #[.int .i64 nd, .int .i64 wn, .int .i64 bs, .int .i64 st, .int .i64 cp, .int .i64 rm, .int .i64 fl, .slice A n k, .int .i64 x, .int .i64 y]] w fun e w' => e = .returned (.bool true) ∧ Below w.heap.size w w' := by
  have H0 : Below w.heap.size w (w.alloc (.cells #[.int .i64 nd, .int .i64 wn, .int .i64 bs, .int .i64 st, .int .i64 cp, .int .i64 rm, .int .i64 fl, .slice A n k, .int .i64 x, .int .i64 y] 26)) := (Below.refl _ _).alloc (Nat.le_refl _) _
  obtain ⟨W, hW⟩ : ∃ W, W = w.alloc (.cells #[.int .i64 nd, .int .i64 wn, .int .i64 bs, .int .i64 st, .int .i64 cp, .int .i64 rm, .int .i64 fl, .slice A n k, .int .i64 x, .int .i64 y] 26) := ⟨_, rfl⟩
  rw [← hW] at H0
  have R0 := (Reads.below h H0).more H0.size
  have HG : Hid (∀ {F : FuncId} {z u v : Int}, (∀ w' : World, RI w' w'.heap.size A n vs → Calls Try.prog F #[cfgV ⟨nd, wn, bs, st, cp, rm, fl, vs⟩ A n k, .int .i64 z] w' fun e w'' => e = .returned (.tuple #[.int .i64 u, .int .i64 v]) ∧ Below w'.heap.size w' w'') →
      ∀ w', Below W.heap.size W w' → Calls Try.prog F #[.agg #[.int .i64 nd, .int .i64 wn, .int .i64 bs, .int .i64 st, .int .i64 cp, .int .i64 rm, .int .i64 fl, .slice A n k], .int .i64 z] w' fun e w'' => e = .returned (.tuple #[.int .i64 u, .int .i64 v]) ∧ Below W.heap.size W w'') := by
    intro F z u v g w' hb
    refine (g w' ((Reads.below R0 hb).more hb.size)).mono ?_
    rintro e w'' ⟨rfl, hb'⟩
    exact ⟨rfl, hb.trans (hb'.mono hb.size)⟩
  obtain ⟨sN, c1, c2⟩ : ∃ s, (∀ w', Below W.heap.size W w' → Calls Try.prog 7 #[.agg #[.int .i64 nd, .int .i64 wn, .int .i64 bs, .int .i64 st, .int .i64 cp, .int .i64 rm, .int .i64 fl, .slice A n k], .int .i64 x] w' fun e w'' => e = .returned (.tuple #[.int .i64 s, .int .i64 (fitE ⟨nd, wn, bs, st, cp, rm, fl, vs⟩ x)]) ∧ Below W.heap.size W w'') ∧
      (∀ w', Below W.heap.size W w' → Calls Try.prog 8 #[.agg #[.int .i64 nd, .int .i64 wn, .int .i64 bs, .int .i64 st, .int .i64 cp, .int .i64 rm, .int .i64 fl, .slice A n k], .int .i64 x] w' fun e w'' => e = .returned (.tuple #[.int .i64 s, .int .i64 (fitE ⟨nd, wn, bs, st, cp, rm, fl, vs⟩ x)]) ∧ Below W.heap.size W w'') :=
    ⟨_, HG.out fun w' R => settle_any nd wn bs st cp rm fl x vs A n k w' R hn, HG.out fun w' R => rsettle_any nd wn bs st cp rm fl x vs A n k w' R hn⟩
  obtain ⟨dN, c3, c4⟩ : ∃ s, (∀ w', Below W.heap.size W w' → Calls Try.prog 9 #[.agg #[.int .i64 nd, .int .i64 wn, .int .i64 bs, .int .i64 st, .int .i64 cp, .int .i64 rm, .int .i64 fl, .slice A n k], .int .i64 x] w' fun e w'' => e = .returned (.tuple #[.int .i64 s, .int .i64 (fitE ⟨nd, wn, bs, st, cp, rm, fl, vs⟩ x)]) ∧ Below W.heap.size W w'') ∧
      (∀ w', Below W.heap.size W w' → Calls Try.prog 10 #[.agg #[.int .i64 nd, .int .i64 wn, .int .i64 bs, .int .i64 st, .int .i64 cp, .int .i64 rm, .int .i64 fl, .slice A n k], .int .i64 x] w' fun e w'' => e = .returned (.tuple #[.int .i64 s, .int .i64 (fitE ⟨nd, wn, bs, st, cp, rm, fl, vs⟩ x)]) ∧ Below W.heap.size W w'') :=
    ⟨_, HG.out fun w' R => deliver_any nd wn bs st cp rm fl x vs A n k w' R hn, HG.out fun w' R => rdeliver_any nd wn bs st cp rm fl x vs A n k w' R hn⟩
  obtain ⟨aN, c5, c6⟩ : ∃ s, (∀ w', Below W.heap.size W w' → Calls Try.prog 11 #[.agg #[.int .i64 nd, .int .i64 wn, .int .i64 bs, .int .i64 st, .int .i64 cp, .int .i64 rm, .int .i64 fl, .slice A n k], .int .i64 x] w' fun e w'' => e = .returned (.tuple #[.int .i64 s, .int .i64 (fitE ⟨nd, wn, bs, st, cp, rm, fl, vs⟩ x)]) ∧ Below W.heap.size W w'') ∧
      (∀ w', Below W.heap.size W w' → Calls Try.prog 12 #[.agg #[.int .i64 nd, .int .i64 wn, .int .i64 bs, .int .i64 st, .int .i64 cp, .int .i64 rm, .int .i64 fl, .slice A n k], .int .i64 x] w' fun e w'' => e = .returned (.tuple #[.int .i64 s, .int .i64 (fitE ⟨nd, wn, bs, st, cp, rm, fl, vs⟩ x)]) ∧ Below W.heap.size W w'') :=
    ⟨_, HG.out fun w' R => answer_any nd wn bs st cp rm fl x vs A n k w' R hn, HG.out fun w' R => ranswer_any nd wn bs st cp rm fl x vs A n k w' R hn⟩
  obtain ⟨uN, uE, c7, c8⟩ : ∃ s e', (∀ w', Below W.heap.size W w' → Calls Try.prog 13 #[.agg #[.int .i64 nd, .int .i64 wn, .int .i64 bs, .int .i64 st, .int .i64 cp, .int .i64 rm, .int .i64 fl, .slice A n k], .int .i64 y] w' fun e w'' => e = .returned (.tuple #[.int .i64 s, .int .i64 e']) ∧ Below W.heap.size W w'') ∧
      (∀ w', Below W.heap.size W w' → Calls Try.prog 14 #[.agg #[.int .i64 nd, .int .i64 wn, .int .i64 bs, .int .i64 st, .int .i64 cp, .int .i64 rm, .int .i64 fl, .slice A n k], .int .i64 y] w' fun e w'' => e = .returned (.tuple #[.int .i64 s, .int .i64 e']) ∧ Below W.heap.size W w'') :=
    ⟨_, _, HG.out fun w' R => doubts_any nd wn bs st cp rm fl y vs A n k w' R hn, HG.out fun w' R => rdoubts_any nd wn bs st cp rm fl y vs A n k w' R hn⟩
  obtain ⟨fE, hfE⟩ : ∃ s, s = fitE ⟨nd, wn, bs, st, cp, rm, fl, vs⟩ x := ⟨_, rfl⟩
  rw [← hfE] at c1 c2 c3 c4 c5 c6
  have c1 := hide c1
  have c2 := hide c2
  have c3 := hide c3
  have c4 := hide c4
  have c5 := hide c5
  have c6 := hide c6
  have c7 := hide c7
  have c8 := hide c8
  clear hfE HG R0 h
  have HW := hide hW
  have hb0 : Below W.heap.size W W := Below.refl _ _
  go_enter Try.func3, Try.ntmps3
  go_wp2_with fail
  rw [← hW]
  refine (c1.out _ hb0).mono ?_
  clear hb0 hW
  rintro e w1 ⟨rfl, hb⟩
  obtain ⟨k0, k1, k2, k3, k4, k5, k6, k7, k8, k9⟩ := keep10 HW.out hb
  go_wp2_with fail
  refine (c2.out _ hb).mono ?_
  clear hb k0 k1 k2 k3 k4 k5 k6 k7 k8 k9
  rintro e w2 ⟨rfl, hb⟩
  obtain ⟨k0, k1, k2, k3, k4, k5, k6, k7, k8, k9⟩ := keep10 HW.out hb
  go_wp2_with fail
  refine (c3.out _ hb).mono ?_
  clear hb k0 k1 k2 k3 k4 k5 k6 k7 k8 k9
  rintro e w3 ⟨rfl, hb⟩
  obtain ⟨k0, k1, k2, k3, k4, k5, k6, k7, k8, k9⟩ := keep10 HW.out hb
  go_wp2_with fail
  refine (c4.out _ hb).mono ?_
  clear hb k0 k1 k2 k3 k4 k5 k6 k7 k8 k9
  rintro e w4 ⟨rfl, hb⟩
  obtain ⟨k0, k1, k2, k3, k4, k5, k6, k7, k8, k9⟩ := keep10 HW.out hb
  go_wp2_with fail
  refine (c5.out _ hb).mono ?_
  clear hb k0 k1 k2 k3 k4 k5 k6 k7 k8 k9
  rintro e w5 ⟨rfl, hb⟩
  obtain ⟨k0, k1, k2, k3, k4, k5, k6, k7, k8, k9⟩ := keep10 HW.out hb
  go_wp2_with fail
  refine (c6.out _ hb).mono ?_
  clear hb k0 k1 k2 k3 k4 k5 k6 k7 k8 k9
  rintro e w6 ⟨rfl, hb⟩
  obtain ⟨k0, k1, k2, k3, k4, k5, k6, k7, k8, k9⟩ := keep10 HW.out hb
  go_wp2_with fail
  refine (c7.out _ hb).mono ?_
  clear hb k0 k1 k2 k3 k4 k5 k6 k7 k8 k9
  rintro e w7 ⟨rfl, hb⟩
  obtain ⟨k0, k1, k2, k3, k4, k5, k6, k7, k8, k9⟩ := keep10 HW.out hb
  go_wp2_with fail
  refine (c8.out _ hb).mono ?_
  clear hb k0 k1 k2 k3 k4 k5 k6 k7 k8 k9
  rintro e w8 ⟨rfl, hb⟩
  obtain ⟨k0, k1, k2, k3, k4, k5, k6, k7, k8, k9⟩ := keep10 HW.out hb
  go_wp2
  go_ret
  exact ⟨rfl, H0.trans (hb.mono H0.size)⟩
end Go.Proofs.Ytkcjfiifajjpiaa
