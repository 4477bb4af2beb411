/-
  Contracts of Settle, Deliver, Answer, Doubts: of bound and of quorateref18.
-/
import Derived.Test.YtkcjfiifajjpiaaBound
set_option linter.unusedVariables false
namespace Go.Proofs.Ytkcjfiifajjpiaa
open Go.RowKit Go.WideShapes Go.ChangeShapes Q

theorem fitE_cases (c : Cfg) (x : Int) : (c.Ok ∧ 1 ≤ x ∧ x ≤ c.base ∧ x ≤ 16 ∧ fitE c x = 0) ∨ fitE c x = 1 ∨ fitE c x = 22 := by
  by_cases h : c.Ok
  · unfold fitE; rw [if_pos (Cfg.err_ok h)]
    by_cases g : x < 1 ∨ c.base < x ∨ 16 < x
    · rw [if_pos g]; exact .inr (.inl rfl)
    · rw [if_neg g]; exact .inl ⟨h, by omega, by omega, by omega, rfl⟩
  · exact .inr (.inr (fitE_bad h))
noncomputable def settleN (c : Cfg) (x : Int) : Int := if fitE c x = 0 then c.cap + 8 * x + 16 else 0
noncomputable def deliverN (c : Cfg) (x : Int) : Int := if fitE c x = 0 then (upI 32 c.window + 4) * (4 * x + 8) else 0

theorem mul_bound {a b A B : Int} (a0 : 0 ≤ a) (a1 : a ≤ A) (b0 : 0 ≤ b) (b1 : b ≤ B) : 0 ≤ a * b ∧ a * b ≤ A * B :=
  ⟨Int.mul_nonneg a0 b0, Int.mul_le_mul a1 b1 b0 (Int.le_trans a0 a1)⟩

set_option maxRecDepth 100000 in
set_option maxHeartbeats 1000000 in
theorem settle_any (nd wn bs st cp rm fl x : Int) (vs : List Int) (A : Option Addr) (n k : Nat) (w : World) (h : RI w w.heap.size A n vs) (hn : n ≤ 17592186044416) :
    Calls Try.prog 7 #[cfgV ⟨nd, wn, bs, st, cp, rm, fl, vs⟩ A n k, .int .i64 x] w fun e w' => e = .returned (.tuple #[.int .i64 (settleN ⟨nd, wn, bs, st, cp, rm, fl, vs⟩ x), .int .i64 (fitE ⟨nd, wn, bs, st, cp, rm, fl, vs⟩ x)]) ∧ Below w.heap.size w w' := by
  have H0 : Below w.heap.size w (w.alloc (cfgO ⟨nd, wn, bs, st, cp, rm, fl, vs⟩ A n k)) := (Below.refl _ _).alloc (Nat.le_refl _) _
  have R0 := (Reads.below h H0).more H0.size
  have F := fits_any nd wn bs st cp rm fl x vs A n k _ R0 hn
  rcases fitE_cases ⟨nd, wn, bs, st, cp, rm, fl, vs⟩ x with ⟨hok, x1, x2, x3, he⟩ | he | he
  · have hc : 1 ≤ cp ∧ cp ≤ 64 := hok.cap
    have HN : Hid (settleN ⟨nd, wn, bs, st, cp, rm, fl, vs⟩ x = cp + 8 * x + 16) := by show _ = _; unfold settleN; rw [if_pos he]
    rw [he] at F ⊢
    clear hok he
    unfold cfgV at *
    unfold cfgO at *
    go_enter Try.func7, Try.ntmps7
    go_wp2_with fail
    refine F.mono ?_
    rintro e w2 ⟨rfl, hb⟩
    obtain ⟨k0, k1, k2, k3, k4, k5, k6, k7⟩ := keep8 rfl hb
    go_wp2
    go_ret2
    exact ⟨ret2_ (vint HN.out.symm) rfl, H0.trans (hb.mono H0.size)⟩
  all_goals
    have HN : Hid (settleN ⟨nd, wn, bs, st, cp, rm, fl, vs⟩ x = 0) := by show _ = _; unfold settleN; rw [if_neg (by rw [he]; decide)]
    rw [he] at F ⊢
    clear he
    unfold cfgV at *
    unfold cfgO at *
    go_enter Try.func7, Try.ntmps7
    go_wp2_with fail
    refine F.mono ?_
    rintro e w2 ⟨rfl, hb⟩
    go_wp2
    go_ret2
    exact ⟨ret2_ (vint HN.out.symm) rfl, H0.trans (hb.mono H0.size)⟩

set_option maxRecDepth 100000 in
set_option maxHeartbeats 1000000 in
theorem rsettle_any (nd wn bs st cp rm fl x : Int) (vs : List Int) (A : Option Addr) (n k : Nat) (w : World) (h : RI w w.heap.size A n vs) (hn : n ≤ 17592186044416) :
    Calls Try.prog 8 #[cfgV ⟨nd, wn, bs, st, cp, rm, fl, vs⟩ A n k, .int .i64 x] w fun e w' => e = .returned (.tuple #[.int .i64 (settleN ⟨nd, wn, bs, st, cp, rm, fl, vs⟩ x), .int .i64 (fitE ⟨nd, wn, bs, st, cp, rm, fl, vs⟩ x)]) ∧ Below w.heap.size w w' := by
  have H0 : Below w.heap.size w (w.alloc (cfgO ⟨nd, wn, bs, st, cp, rm, fl, vs⟩ A n k)) := (Below.refl _ _).alloc (Nat.le_refl _) _
  have R0 := (Reads.below h H0).more H0.size
  have F := allowed_any nd wn bs st cp rm fl x vs A n k _ R0 hn
  rcases fitE_cases ⟨nd, wn, bs, st, cp, rm, fl, vs⟩ x with ⟨hok, x1, x2, x3, he⟩ | he | he
  · have hc : 1 ≤ cp ∧ cp ≤ 64 := hok.cap
    have HN : Hid (settleN ⟨nd, wn, bs, st, cp, rm, fl, vs⟩ x = cp + 8 * x + 16) := by show _ = _; unfold settleN; rw [if_pos he]
    rw [he] at F ⊢
    clear hok he
    unfold cfgV at *
    unfold cfgO at *
    go_enter Try.func8, Try.ntmps8
    go_wp2_with fail
    refine F.mono ?_
    rintro e w2 ⟨rfl, hb⟩
    obtain ⟨k0, k1, k2, k3, k4, k5, k6, k7⟩ := keep8 rfl hb
    go_wp2
    go_ret2
    exact ⟨ret2_ (vint HN.out.symm) rfl, H0.trans (hb.mono H0.size)⟩
  all_goals
    have HN : Hid (settleN ⟨nd, wn, bs, st, cp, rm, fl, vs⟩ x = 0) := by show _ = _; unfold settleN; rw [if_neg (by rw [he]; decide)]
    rw [he] at F ⊢
    clear he
    unfold cfgV at *
    unfold cfgO at *
    go_enter Try.func8, Try.ntmps8
    go_wp2_with fail
    refine F.mono ?_
    rintro e w2 ⟨rfl, hb⟩
    go_wp2
    go_ret2
    exact ⟨ret2_ (vint HN.out.symm) rfl, H0.trans (hb.mono H0.size)⟩

set_option maxRecDepth 100000 in
set_option maxHeartbeats 1000000 in
theorem deliver_any (nd wn bs st cp rm fl x : Int) (vs : List Int) (A : Option Addr) (n k : Nat) (w : World) (h : RI w w.heap.size A n vs) (hn : n ≤ 17592186044416) :
    Calls Try.prog 9 #[cfgV ⟨nd, wn, bs, st, cp, rm, fl, vs⟩ A n k, .int .i64 x] w fun e w' => e = .returned (.tuple #[.int .i64 (deliverN ⟨nd, wn, bs, st, cp, rm, fl, vs⟩ x), .int .i64 (fitE ⟨nd, wn, bs, st, cp, rm, fl, vs⟩ x)]) ∧ Below w.heap.size w w' := by
  have H0 : Below w.heap.size w (w.alloc (cfgO ⟨nd, wn, bs, st, cp, rm, fl, vs⟩ A n k)) := (Below.refl _ _).alloc (Nat.le_refl _) _
  have R0 := (Reads.below h H0).more H0.size
  have F := fits_any nd wn bs st cp rm fl x vs A n k _ R0 hn
  rcases fitE_cases ⟨nd, wn, bs, st, cp, rm, fl, vs⟩ x with ⟨hok, x1, x2, x3, he⟩ | he | he
  · have hc : 1 ≤ wn ∧ wn ≤ 8 := hok.window
    have u := up_bound (a := 32) (b := wn) (by omega) (by omega) hc.1
    have m := mul_bound (a := upI 32 wn + 4) (b := 4 * x + 8) (A := 68) (B := 72) (by omega) (by omega) (by omega) (by omega)
    have HN : Hid (deliverN ⟨nd, wn, bs, st, cp, rm, fl, vs⟩ x = (upI 32 wn + 4) * (4 * x + 8)) := by show _ = _; unfold deliverN; rw [if_pos he]
    rw [he] at F ⊢
    clear hok he
    unfold cfgV at *
    unfold cfgO at *
    go_enter Try.func9, Try.ntmps9
    go_wp2_with fail
    refine F.mono ?_
    rintro e w2 ⟨rfl, hb⟩
    obtain ⟨k0, k1, k2, k3, k4, k5, k6, k7⟩ := keep8 rfl hb
    go_wp2_with (go_at_call 23; refine (up_any 32 wn _ (by omega) (by omega) (by omega) (by omega)).mono ?_; rintro e w' ⟨rfl, rfl⟩)
    go_ret2
    exact ⟨ret2_ (vint HN.out.symm) rfl, H0.trans (hb.mono H0.size)⟩
  all_goals
    have HN : Hid (deliverN ⟨nd, wn, bs, st, cp, rm, fl, vs⟩ x = 0) := by show _ = _; unfold deliverN; rw [if_neg (by rw [he]; decide)]
    rw [he] at F ⊢
    clear he
    unfold cfgV at *
    unfold cfgO at *
    go_enter Try.func9, Try.ntmps9
    go_wp2_with fail
    refine F.mono ?_
    rintro e w2 ⟨rfl, hb⟩
    go_wp2
    go_ret2
    exact ⟨ret2_ (vint HN.out.symm) rfl, H0.trans (hb.mono H0.size)⟩

set_option maxRecDepth 100000 in
set_option maxHeartbeats 1000000 in
theorem rdeliver_any (nd wn bs st cp rm fl x : Int) (vs : List Int) (A : Option Addr) (n k : Nat) (w : World) (h : RI w w.heap.size A n vs) (hn : n ≤ 17592186044416) :
    Calls Try.prog 10 #[cfgV ⟨nd, wn, bs, st, cp, rm, fl, vs⟩ A n k, .int .i64 x] w fun e w' => e = .returned (.tuple #[.int .i64 (deliverN ⟨nd, wn, bs, st, cp, rm, fl, vs⟩ x), .int .i64 (fitE ⟨nd, wn, bs, st, cp, rm, fl, vs⟩ x)]) ∧ Below w.heap.size w w' := by
  have H0 : Below w.heap.size w (w.alloc (cfgO ⟨nd, wn, bs, st, cp, rm, fl, vs⟩ A n k)) := (Below.refl _ _).alloc (Nat.le_refl _) _
  have R0 := (Reads.below h H0).more H0.size
  have F := allowed_any nd wn bs st cp rm fl x vs A n k _ R0 hn
  rcases fitE_cases ⟨nd, wn, bs, st, cp, rm, fl, vs⟩ x with ⟨hok, x1, x2, x3, he⟩ | he | he
  · have hc : 1 ≤ wn ∧ wn ≤ 8 := hok.window
    have u := up_bound (a := 32) (b := wn) (by omega) (by omega) hc.1
    have m := mul_bound (a := upI 32 wn + 4) (b := 4 * x + 8) (A := 68) (B := 72) (by omega) (by omega) (by omega) (by omega)
    have HN : Hid (deliverN ⟨nd, wn, bs, st, cp, rm, fl, vs⟩ x = (upI 32 wn + 4) * (4 * x + 8)) := by show _ = _; unfold deliverN; rw [if_pos he]
    rw [he] at F ⊢
    clear hok he
    unfold cfgV at *
    unfold cfgO at *
    go_enter Try.func10, Try.ntmps10
    go_wp2_with fail
    refine F.mono ?_
    rintro e w2 ⟨rfl, hb⟩
    obtain ⟨k0, k1, k2, k3, k4, k5, k6, k7⟩ := keep8 rfl hb
    go_wp2_with (go_at_call 24; refine (over_any 32 wn _ (by omega) (by omega) (by omega) (by omega)).mono ?_; rintro e w' ⟨rfl, rfl⟩)
    go_ret2
    exact ⟨ret2_ (vint HN.out.symm) rfl, H0.trans (hb.mono H0.size)⟩
  all_goals
    have HN : Hid (deliverN ⟨nd, wn, bs, st, cp, rm, fl, vs⟩ x = 0) := by show _ = _; unfold deliverN; rw [if_neg (by rw [he]; decide)]
    rw [he] at F ⊢
    clear he
    unfold cfgV at *
    unfold cfgO at *
    go_enter Try.func10, Try.ntmps10
    go_wp2_with fail
    refine F.mono ?_
    rintro e w2 ⟨rfl, hb⟩
    go_wp2
    go_ret2
    exact ⟨ret2_ (vint HN.out.symm) rfl, H0.trans (hb.mono H0.size)⟩
end Go.Proofs.Ytkcjfiifajjpiaa
