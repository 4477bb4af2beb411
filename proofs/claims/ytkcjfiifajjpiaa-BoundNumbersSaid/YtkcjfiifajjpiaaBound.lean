/-
  Contracts of bound.upwards, quorateref18.over, bound.fits, quorateref18.allowed.
-/
import Derived.Test.YtkcjfiifajjpiaaCfgR
set_option linter.unusedVariables false
namespace Go.Proofs.Ytkcjfiifajjpiaa
open Go.RowKit Go.WideShapes Go.ChangeShapes Q

/-- A quotient, rounded up. -/
def upI (a b : Int) : Int := (a + b - 1) / b

theorem div_is {m b q : Int} (hb : 0 < b) (h1 : q * b ≤ m) (h2 : m < (q + 1) * b) : m / b = q := by
  have a1 : q ≤ m / b := (Int.le_ediv_iff_mul_le hb).2 h1
  have a2 : m / b < q + 1 := (Int.ediv_lt_iff_lt_mul hb).2 h2
  omega
theorem up_even {a b : Int} (hb : 0 < b) (hz : a % b = 0) : a / b = upI a b := by
  have d := Int.emod_add_mul_ediv a b
  have e1 : a / b * b = b * (a / b) := Int.mul_comm _ _
  have e2 : (a / b + 1) * b = b * (a / b) + b := by rw [Int.add_mul, e1]; omega
  exact (div_is hb (by omega) (by omega)).symm
theorem up_odd {a b : Int} (hb : 0 < b) (hz : ¬ a % b = 0) : a / b + 1 = upI a b := by
  have d := Int.emod_add_mul_ediv a b
  have m0 := Int.emod_nonneg a (show b ≠ 0 by omega)
  have m1 := Int.emod_lt_of_pos a hb
  have e1 : (a / b + 1) * b = b * (a / b) + b := by rw [Int.add_mul, Int.mul_comm (a / b) b]; omega
  have e2 : (a / b + 1 + 1) * b = b * (a / b) + b + b := by rw [Int.add_mul, e1]; omega
  exact (div_is hb (by omega) (by omega)).symm
theorem up_bound {a b : Int} (a0 : 0 ≤ a) (a1 : a ≤ 64) (b0 : 1 ≤ b) : 0 ≤ upI a b ∧ upI a b ≤ 64 := by
  refine ⟨Int.ediv_nonneg (by omega) (by omega), ?_⟩
  have : (a + b - 1) / b < 65 := (Int.ediv_lt_iff_lt_mul (by omega)).2 (by omega)
  unfold upI; omega

set_option maxRecDepth 100000 in
set_option maxHeartbeats 400000 in
theorem up_any (a b : Int) (w : World) (a0 : 0 ≤ a) (a1 : a ≤ 64) (b0 : 1 ≤ b) (b1 : b ≤ 64) :
    Calls Try.prog 23 #[.int .i64 a, .int .i64 b] w fun e w' => e = .returned (.int .i64 (upI a b)) ∧ w = w' := by
  have d := Int.emod_add_mul_ediv a b
  have m0 := Int.emod_nonneg a (show b ≠ 0 by omega)
  have m1 := Int.emod_lt_of_pos a (show 0 < b by omega)
  have q0 : 0 ≤ a / b := Int.ediv_nonneg a0 (by omega)
  have q1 : a / b ≤ a := Int.ediv_le_self b a0
  by_cases hz : a % b = 0
  · have hz' : (a % b != 0) = false := by simp [hz]
    go_enter Try.func23, Try.ntmps23
    go_wp2_with fail
    go_ret
    exact ⟨ret_int (up_even (by omega) hz), rfl⟩
  · have hz' : (a % b != 0) = true := by simp [hz]
    go_enter Try.func23, Try.ntmps23
    go_wp2_with fail
    go_ret
    exact ⟨ret_int (up_odd (by omega) hz), rfl⟩
set_option maxRecDepth 100000 in
set_option maxHeartbeats 400000 in
theorem over_any (a b : Int) (w : World) (a0 : 0 ≤ a) (a1 : a ≤ 64) (b0 : 1 ≤ b) (b1 : b ≤ 64) :
    Calls Try.prog 24 #[.int .i64 a, .int .i64 b] w fun e w' => e = .returned (.int .i64 (upI a b)) ∧ w = w' := by
  have q0 : 0 ≤ (a + b - 1) / b := Int.ediv_nonneg (by omega) (by omega)
  have q1 : (a + b - 1) / b ≤ (a + b - 1) := Int.ediv_le_self b (by omega)
  go_enter Try.func24, Try.ntmps24
  go_wp2_with fail
  go_ret
  exact ⟨rfl, rfl⟩

/-- The configuration's box keeps its numbers. -/
theorem keep8 {w w1 w2 : World} {c0 c1 c2 c3 c4 c5 c6 c7 : Value} {t : TypeId} (he : w1 = w.alloc (.cells #[c0, c1, c2, c3, c4, c5, c6, c7] t)) (hb : Below w1.heap.size w1 w2) :
    w2.cell? ⟨w.heap.size, 0, none⟩ = some c0 ∧ w2.cell? ⟨w.heap.size, 1, none⟩ = some c1 ∧ w2.cell? ⟨w.heap.size, 2, none⟩ = some c2 ∧ w2.cell? ⟨w.heap.size, 3, none⟩ = some c3 ∧
    w2.cell? ⟨w.heap.size, 4, none⟩ = some c4 ∧ w2.cell? ⟨w.heap.size, 5, none⟩ = some c5 ∧ w2.cell? ⟨w.heap.size, 6, none⟩ = some c6 ∧ w2.cell? ⟨w.heap.size, 7, none⟩ = some c7 := by
  subst he
  have h : Blk w2 w.heap.size t #[c0, c1, c2, c3, c4, c5, c6, c7] := (Blk.new w t _).below hb (by simp)
  exact ⟨h.cell 0, h.cell 1, h.cell 2, h.cell 3, h.cell 4, h.cell 5, h.cell 6, h.cell 7⟩

/-- What 'fits' and 'allowed' answer. -/
noncomputable def fitE (c : Cfg) (x : Int) : Int := if c.err = 0 then (if x < 1 ∨ c.base < x ∨ 16 < x then 1 else 0) else 22
theorem fitE_bad {c : Cfg} {x : Int} (h : ¬ c.Ok) : fitE c x = 22 := by unfold fitE; rw [Cfg.err_bad h]; simp

set_option maxRecDepth 100000 in
set_option maxHeartbeats 1000000 in
theorem fits_any (nd wn bs st cp rm fl x : Int) (vs : List Int) (A : Option Addr) (n k : Nat) (w : World) (h : RI w w.heap.size A n vs) (hn : n ≤ 17592186044416) :
    Calls Try.prog 21 #[cfgV ⟨nd, wn, bs, st, cp, rm, fl, vs⟩ A n k, .int .i64 x] w fun e w' => e = .returned (.int .i64 (fitE ⟨nd, wn, bs, st, cp, rm, fl, vs⟩ x)) ∧ Below w.heap.size w w' := by
  have H0 : Below w.heap.size w (w.alloc (cfgO ⟨nd, wn, bs, st, cp, rm, fl, vs⟩ A n k)) := (Below.refl _ _).alloc (Nat.le_refl _) _
  have R0 := (Reads.below h H0).more H0.size
  have H1 : Below w.heap.size w ((w.alloc (cfgO ⟨nd, wn, bs, st, cp, rm, fl, vs⟩ A n k)).alloc (cfgO ⟨nd, wn, bs, st, cp, rm, fl, vs⟩ A n k)) := H0.alloc H0.size _
  by_cases hok : Cfg.Ok ⟨nd, wn, bs, st, cp, rm, fl, vs⟩
  · have he := Cfg.err_ok hok
    have hb : 1 ≤ bs ∧ bs ≤ cp := hok.base
    have hc : 1 ≤ cp ∧ cp ≤ 64 := hok.cap
    have HE : Hid (fitE ⟨nd, wn, bs, st, cp, rm, fl, vs⟩ x = if x < 1 ∨ bs < x ∨ 16 < x then 1 else 0) := by show _ = _; unfold fitE; rw [if_pos he]
    clear hok
    unfold cfgV cfgO at *
    by_cases h1 : x < 1
    · go_enter Try.func21, Try.ntmps21
      go_wp2_with (go_at_call 25; refine (check_any nd wn bs st cp rm fl vs A n k _ R0 hn).mono ?_; rintro e w' ⟨rfl, rfl⟩; rw [he])
      go_ret
      exact ⟨ret_int (by rw [HE.out, if_pos (by omega)]), H1⟩
    · by_cases h2 : bs < x ∨ 16 < x
      · go_enter Try.func21, Try.ntmps21
        go_wp2_with (go_at_call 25; refine (check_any nd wn bs st cp rm fl vs A n k _ R0 hn).mono ?_; rintro e w' ⟨rfl, rfl⟩; rw [he])
        all_goals
          go_ret
          exact ⟨ret_int (by rw [HE.out, if_pos (by omega)]), H1⟩
      · go_enter Try.func21, Try.ntmps21
        go_wp2_with (go_at_call 25; refine (check_any nd wn bs st cp rm fl vs A n k _ R0 hn).mono ?_; rintro e w' ⟨rfl, rfl⟩; rw [he])
        all_goals
          go_ret
          exact ⟨ret_int (by rw [HE.out, if_neg (by omega)]), H1⟩
  · have he := Cfg.err_bad hok
    have HE := hide (fitE_bad (x := x) hok)
    clear hok
    unfold cfgV cfgO at *
    go_enter Try.func21, Try.ntmps21
    go_wp2_with (go_at_call 25; refine (check_any nd wn bs st cp rm fl vs A n k _ R0 hn).mono ?_; rintro e w' ⟨rfl, rfl⟩; rw [he])
    go_ret
    exact ⟨ret_int HE.out.symm, H1⟩

set_option maxRecDepth 100000 in
set_option maxHeartbeats 1000000 in
theorem allowed_any (nd wn bs st cp rm fl x : Int) (vs : List Int) (A : Option Addr) (n k : Nat) (w : World) (h : RI w w.heap.size A n vs) (hn : n ≤ 17592186044416) :
    Calls Try.prog 22 #[cfgV ⟨nd, wn, bs, st, cp, rm, fl, vs⟩ A n k, .int .i64 x] w fun e w' => e = .returned (.int .i64 (fitE ⟨nd, wn, bs, st, cp, rm, fl, vs⟩ x)) ∧ Below w.heap.size w w' := by
  have H0 : Below w.heap.size w (w.alloc (cfgO ⟨nd, wn, bs, st, cp, rm, fl, vs⟩ A n k)) := (Below.refl _ _).alloc (Nat.le_refl _) _
  have R0 := (Reads.below h H0).more H0.size
  have H1 : Below w.heap.size w ((w.alloc (cfgO ⟨nd, wn, bs, st, cp, rm, fl, vs⟩ A n k)).alloc (cfgO ⟨nd, wn, bs, st, cp, rm, fl, vs⟩ A n k)) := H0.alloc H0.size _
  by_cases hok : Cfg.Ok ⟨nd, wn, bs, st, cp, rm, fl, vs⟩
  · have he := Cfg.err_ok hok
    have hb : 1 ≤ bs ∧ bs ≤ cp := hok.base
    have hc : 1 ≤ cp ∧ cp ≤ 64 := hok.cap
    have HE : Hid (fitE ⟨nd, wn, bs, st, cp, rm, fl, vs⟩ x = if x < 1 ∨ bs < x ∨ 16 < x then 1 else 0) := by show _ = _; unfold fitE; rw [if_pos he]
    clear hok
    unfold cfgV cfgO at *
    by_cases h1 : x < 1
    · go_enter Try.func22, Try.ntmps22
      go_wp2_with (go_at_call 19; refine (rcheck_any nd wn bs st cp rm fl vs A n k _ R0 hn).mono ?_; rintro e w' ⟨rfl, rfl⟩; rw [he])
      go_ret
      exact ⟨ret_int (by rw [HE.out, if_pos (by omega)]), H1⟩
    · by_cases h2 : bs < x ∨ 16 < x
      · go_enter Try.func22, Try.ntmps22
        go_wp2_with (go_at_call 19; refine (rcheck_any nd wn bs st cp rm fl vs A n k _ R0 hn).mono ?_; rintro e w' ⟨rfl, rfl⟩; rw [he])
        all_goals
          go_ret
          exact ⟨ret_int (by rw [HE.out, if_pos (by omega)]), H1⟩
      · go_enter Try.func22, Try.ntmps22
        go_wp2_with (go_at_call 19; refine (rcheck_any nd wn bs st cp rm fl vs A n k _ R0 hn).mono ?_; rintro e w' ⟨rfl, rfl⟩; rw [he])
        all_goals
          go_ret
          exact ⟨ret_int (by rw [HE.out, if_neg (by omega)]), H1⟩
  · have he := Cfg.err_bad hok
    have HE := hide (fitE_bad (x := x) hok)
    clear hok
    unfold cfgV cfgO at *
    go_enter Try.func22, Try.ntmps22
    go_wp2_with (go_at_call 19; refine (rcheck_any nd wn bs st cp rm fl vs A n k _ R0 hn).mono ?_; rintro e w' ⟨rfl, rfl⟩; rw [he])
    go_ret
    exact ⟨ret_int HE.out.symm, H1⟩
end Go.Proofs.Ytkcjfiifajjpiaa
