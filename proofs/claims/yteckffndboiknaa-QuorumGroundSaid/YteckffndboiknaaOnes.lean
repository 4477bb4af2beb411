/-
  Contracts of math/bits.OnesCount at 16 bits, of the reference's size, of Tolerance and Winning (program, reference).
-/
import Derived.Test.YteckffndboiknaaWinning
import Derived.Test.YteckffndboiknaaWins
import Derived.Test.YteckffndboiknaaPlainM
set_option linter.unusedVariables false
namespace Go.Proofs.Yteckffndboiknaa
open Go.RowKit Go.WideShapes Go.ChangeShapes Q
theorem ones_steps (x : Nat) (hx : x < 65536) : ∃ A B C D E F : Nat, A < 4194304 ∧ B < 4194304 ∧ C < 4194304 ∧ D < 4194304 ∧ E < 4194304 ∧ F < 4194304 ∧
    IntKind.u64.wrap (bits BinOp.and IntKind.u64 ((x : Int) / 2) 6148914691236517205 + bits BinOp.and IntKind.u64 (x : Int) 6148914691236517205) = (A : Int) ∧
    IntKind.u64.wrap (bits BinOp.and IntKind.u64 ((A : Int) / 4) 3689348814741910323 + bits BinOp.and IntKind.u64 (A : Int) 3689348814741910323) = (B : Int) ∧
    bits BinOp.and IntKind.u64 ((B : Int) / 16 + B) 1085102592571150095 = (C : Int) ∧
    (C : Int) + (C : Int) / 256 = D ∧ (D : Int) + (D : Int) / 65536 = E ∧ (E : Int) + (E : Int) / 4294967296 = F ∧
    bits BinOp.and IntKind.i64 (F : Int) 127 = (pop x : Nat) := by
  have l1 := Nat.and_le_left (n := x >>> 1) (m := 6148914691236517205)
  have l2 := Nat.and_le_left (n := x) (m := 6148914691236517205)
  have s1 : x >>> 1 = x / 2 := by rw [Nat.shiftRight_eq_div_pow]
  obtain ⟨A, hA⟩ : ∃ A, A = ((x >>> 1) &&& 6148914691236517205) + (x &&& 6148914691236517205) := ⟨_, rfl⟩
  have bA : A < 131072 := by omega
  have l3 := Nat.and_le_left (n := A >>> 2) (m := 3689348814741910323)
  have l4 := Nat.and_le_left (n := A) (m := 3689348814741910323)
  have s2 : A >>> 2 = A / 4 := by rw [Nat.shiftRight_eq_div_pow]
  obtain ⟨B, hB⟩ : ∃ B, B = ((A >>> 2) &&& 3689348814741910323) + (A &&& 3689348814741910323) := ⟨_, rfl⟩
  have bB : B < 262144 := by omega
  have l5 := Nat.and_le_left (n := (B >>> 4) + B) (m := 1085102592571150095)
  have s3 : B >>> 4 = B / 16 := by rw [Nat.shiftRight_eq_div_pow]
  obtain ⟨C, hC⟩ : ∃ C, C = ((B >>> 4) + B) &&& 1085102592571150095 := ⟨_, rfl⟩
  have bC : C < 524288 := by omega
  have s4 : C >>> 8 = C / 256 := by rw [Nat.shiftRight_eq_div_pow]
  obtain ⟨D, hD⟩ : ∃ D, D = C + C >>> 8 := ⟨_, rfl⟩
  have bD : D < 1048576 := by omega
  have s5 : D >>> 16 = D / 65536 := by rw [Nat.shiftRight_eq_div_pow]
  obtain ⟨E, hE⟩ : ∃ E, E = D + D >>> 16 := ⟨_, rfl⟩
  have bE : E < 2097152 := by omega
  have s6 : E >>> 32 = E / 4294967296 := by rw [Nat.shiftRight_eq_div_pow]
  obtain ⟨F, hF⟩ : ∃ F, F = E + E >>> 32 := ⟨_, rfl⟩
  have bF : F < 4194304 := by omega
  have hp : F &&& 127 = pop x := by
    rw [← onesW_pop x hx]
    unfold onesW
    simp only
    rw [← hA, ← hB, ← hC, ← hD, ← hE, ← hF]
  refine ⟨A, B, C, D, E, F, by omega, by omega, by omega, by omega, by omega, by omega, ?_, ?_, ?_, by omega, by omega, by omega, ?_⟩
  · have q1 := u64_and_nat (x / 2) 6148914691236517205 (by omega) (by omega)
    have q2 := u64_and_nat x 6148914691236517205 (by omega) (by omega)
    rw [s1] at hA
    have e : ((x : Int) / 2) = ((x / 2 : Nat) : Int) := by omega
    rw [e]
    refine (congr (congrArg (fun (a b : Int) => IntKind.u64.wrap (a + b)) q1) q2).trans ?_
    rw [IntWalk.u64_in _ (by omega)]
    omega
  · have q1 := u64_and_nat (A / 4) 3689348814741910323 (by omega) (by omega)
    have q2 := u64_and_nat A 3689348814741910323 (by omega) (by omega)
    rw [s2] at hB
    have e : ((A : Int) / 4) = ((A / 4 : Nat) : Int) := by omega
    rw [e]
    refine (congr (congrArg (fun (a b : Int) => IntKind.u64.wrap (a + b)) q1) q2).trans ?_
    rw [IntWalk.u64_in _ (by omega)]
    omega
  · have q1 := u64_and_nat (B / 16 + B) 1085102592571150095 (by omega) (by omega)
    rw [s3] at hC
    have e : ((B : Int) / 16 + B) = ((B / 16 + B : Nat) : Int) := by omega
    rw [e]
    refine q1.trans ?_
    rw [hC]
  · have q1 := i64_and_nat F 127 (by omega) (by omega)
    refine q1.trans ?_
    rw [hp]
set_option maxRecDepth 100000 in
theorem ones64_any (x : Nat) (w : World) (hx : x < 65536) :
    Calls Try.prog 77 #[.int .u64 x] w fun e w' => e = .returned (.int .i64 (pop x : Nat)) ∧ w = w' := by
  obtain ⟨A, B, C, D, E, F, bA, bB, bC, bD, bE, bF, e1, e2, e3, e4, e5, e6, e7⟩ := ones_steps x hx
  go_enter Try.func77, Try.ntmps77
  go_wp2
  go_ret
  exact ⟨rfl, rfl⟩

theorem ones_any (x : Nat) (w : World) (hx : x < 65536) :
    Calls Try.prog 60 #[.int .u64 x] w fun e w' => e = .returned (.int .i64 (pop x : Nat)) ∧ w = w' := by
  go_enter Try.func60, Try.ntmps60
  go_wp2_with (go_at_call 77; refine (ones64_any x _ hx).mono ?_; rintro e w' ⟨rfl, rfl⟩)
  go_ret
  exact ⟨rfl, rfl⟩

set_option maxRecDepth 100000 in
theorem size_any (s : Nat) (w : World) (hs : s < 65536) :
    Calls Try.prog 61 #[.int .i64 s] w fun e w' => e = .returned (.int .i64 (pop s : Nat)) ∧ w = w' := by
  go_enter Try.func61, Try.ntmps61
  go_wp2
  go_loop [0, 3] (fun x t => ∃ (j q : Nat), q = s / 2 ^ j ∧ x = .int .i64 q ∧ q < 65536 ∧ t = .int .i64 (popTo s j : Nat) ∧ popTo s j ≤ j ∧ (j ≤ 16)) (fun x _ => (intOf x).toNat)
  case atStart => exact ⟨0, s, by simp, rfl, hs, rfl, by simp [popTo], by omega⟩
  case round =>
    obtain ⟨j, q, hq, rfl, hq2, rfl, hj, hj16⟩ := hrel
    have HQ := hide hq
    clear hq
    have b1 : bits BinOp.and IntKind.i64 (q : Int) 1 = ((q % 2 : Nat) : Int) := by
      have := i64_and_nat q 1 (by omega) (by omega)
      rw [Nat.and_one_is_mod] at this
      exact this
    by_cases hpos : 0 < q
    · have hj2 : Hid (j < 16) := by
        rcases Nat.lt_or_ge j 16 with h | h
        · exact h
        · exfalso
          have e : j = 16 := by omega
          have := HQ.out
          rw [e, Nat.div_eq_of_lt (by omega)] at this
          omega
      have hp : Hid (popTo s (j + 1) = popTo s j + q % 2) := by
        show _ = _
        rw [popTo, Nat.testBit_eq_decide_div_mod_eq, ← HQ.out]
        have : q % 2 < 2 := Nat.mod_lt _ (by omega)
        by_cases h1 : q % 2 = 1
        · simp [h1]
        · have h0 : q % 2 = 0 := by omega
          simp [h0]
      have hm : q % 2 ≤ 1 := by omega
      go_wp2
      go_round
      case rel =>
        have h1 := hj2.out
        have h2 := hp.out
        exact ⟨j + 1, q / 2, by rw [HQ.out, Nat.div_div_eq_div_mul, Nat.pow_succ], by go_num, by omega, by rw [h2]; go_num, by omega, by omega⟩
      case measure => simp [intOf]; omega
    · have h0 : q = 0 := by omega
      have hz : Hid (popTo s j = pop s) := by
        show _ = _
        have h1 := HQ.out
        have hlt : s < 2 ^ j := by
          rcases Nat.lt_or_ge s (2 ^ j) with h | h
          · exact h
          · have := Nat.div_pos h (Nat.pow_pos (by omega))
            omega
        exact (pop_of_lt s j hlt hj16).symm
      clear h0
      go_wp2
      go_ret
      exact ⟨ret_int (by rw [hz.out]), rfl⟩

set_option maxRecDepth 100000 in
theorem lbits_any (s : Nat) (w : World) (hs : s < 65536) :
    Calls Try.prog 35 #[.int .i64 s] w fun e w' => e = .returned (.int .i64 (pop s : Nat)) ∧ w = w' := by
  go_enter Try.func35, Try.ntmps35
  go_wp2
  go_loop [0, 3] (fun x t => ∃ (j q : Nat), q = s / 2 ^ j ∧ x = .int .i64 q ∧ q < 65536 ∧ t = .int .i64 (popTo s j : Nat) ∧ popTo s j ≤ j ∧ (j ≤ 16)) (fun x _ => (intOf x).toNat)
  case atStart => exact ⟨0, s, by simp, rfl, hs, rfl, by simp [popTo], by omega⟩
  case round =>
    obtain ⟨j, q, hq, rfl, hq2, rfl, hj, hj16⟩ := hrel
    have HQ := hide hq
    clear hq
    have b1 : bits BinOp.and IntKind.i64 (q : Int) 1 = ((q % 2 : Nat) : Int) := by
      have := i64_and_nat q 1 (by omega) (by omega)
      rw [Nat.and_one_is_mod] at this
      exact this
    by_cases hpos : 0 < q
    · have hj2 : Hid (j < 16) := by
        rcases Nat.lt_or_ge j 16 with h | h
        · exact h
        · exfalso
          have e : j = 16 := by omega
          have := HQ.out
          rw [e, Nat.div_eq_of_lt (by omega)] at this
          omega
      have hp : Hid (popTo s (j + 1) = popTo s j + q % 2) := by
        show _ = _
        rw [popTo, Nat.testBit_eq_decide_div_mod_eq, ← HQ.out]
        have : q % 2 < 2 := Nat.mod_lt _ (by omega)
        by_cases h1 : q % 2 = 1
        · simp [h1]
        · have h0 : q % 2 = 0 := by omega
          simp [h0]
      have hm : q % 2 ≤ 1 := by omega
      go_wp2
      go_round
      case rel =>
        have h1 := hj2.out
        have h2 := hp.out
        exact ⟨j + 1, q / 2, by rw [HQ.out, Nat.div_div_eq_div_mul, Nat.pow_succ], by go_num, by omega, by rw [h2]; go_num, by omega, by omega⟩
      case measure => simp [intOf]; omega
    · have h0 : q = 0 := by omega
      have hz : Hid (popTo s j = pop s) := by
        show _ = _
        have h1 := HQ.out
        have hlt : s < 2 ^ j := by
          rcases Nat.lt_or_ge s (2 ^ j) with h | h
          · exact h
          · have := Nat.div_pos h (Nat.pow_pos (by omega))
            omega
        exact (pop_of_lt s j hlt hj16).symm
      clear h0
      go_wp2
      go_ret
      exact ⟨ret_int (by rw [hz.out]), rfl⟩
end Go.Proofs.Yteckffndboiknaa
