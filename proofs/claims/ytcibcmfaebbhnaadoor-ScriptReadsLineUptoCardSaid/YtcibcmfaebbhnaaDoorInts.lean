/-
  A slice of ints that reads as a list; small facts on endings and bits.
-/
import Derived.Test.YtcibcmfaebbhnaaDoorWords
import Derived.Test.YtcibcmfaebbhnaaDoorNum
namespace Go.Proofs.YtcibcmfaebbhnaaDoor
open Go.RowKit Go.WideShapes Go.ChangeShapes Q

def ints (vs : List Int) : List Value := vs.map (Value.int .i64)
/-- A slice of ints that reads as a list. -/
def RI (w : World) (B : Nat) (A : Option Addr) (n : Nat) (vs : List Int) : Prop := Reads w B 1 A n (ints vs)
theorem RI.len {w : World} {B n : Nat} {A : Option Addr} {vs : List Int} (h : RI w B A n vs) : vs.length = n := by
  have := Reads.len_ h
  simpa [ints] using this
theorem RI.at_ {w : World} {B n k : Nat} {A : Option Addr} {vs : List Int} (h : RI w B A n vs) (hk : k < n) : ∃ ad, A = some ad ∧ ad.block < B ∧ w.cell? (ad.add k) = some (.int .i64 (nth vs k)) := by
  obtain ⟨ad, u, hA, hb, hx, hc⟩ := Reads.at_ h hk
  refine ⟨ad, hA, hb, hc.trans ?_⟩
  have hl := h.len
  rw [← hx]
  simp only [ints, List.getElem?_map, nth, List.getD]
  rw [List.getElem?_eq_getElem (by omega)]
  rfl

theorem ret_int {k : IntKind} {a b : Int} (h : a = b) : Ending.returned (.int k a) = .returned (.int k b) := by rw [h]
theorem ret_bool {a b : Bool} (h : a = b) : Ending.returned (.bool a) = .returned (.bool b) := by rw [h]
theorem ret2_ {v0 v1 u0 u1 : Value} (h0 : v0 = u0) (h1 : v1 = u1) : Ending.returned (.tuple #[v0, v1]) = .returned (.tuple #[u0, u1]) := by rw [h0, h1]
theorem vint {k : IntKind} {a b : Int} (h : a = b) : Value.int k a = .int k b := by rw [h]
theorem vbool {a b : Bool} (h : a = b) : Value.bool a = .bool b := by rw [h]
theorem and_one_i64 (s i : Nat) (hs : s < 9223372036854775808) : (bits BinOp.and IntKind.i64 ((s : Int) / 2 ^ i) 1 == 1) = s.testBit i := by
  have e : ((s : Int) / 2 ^ i) = ((s / 2 ^ i : Nat) : Int) := by simp
  have h2 : s / 2 ^ i ≤ s := Nat.div_le_self _ _
  have := i64_and_nat (s / 2 ^ i) 1 (by omega) (by omega)
  rw [e, show (1 : Int) = ((1 : Nat) : Int) from rfl, this, Nat.testBit_eq_decide_div_mod_eq, Nat.and_one_is_mod]
  rw [Bool.eq_iff_iff]
  simp
  omega

theorem and_one_u64_bit (s i : Nat) (hs : s < 18446744073709551616) : (bits BinOp.and IntKind.u64 ((s : Int) / 2 ^ i) 1 == 1) = s.testBit i := by
  have e : ((s : Int) / 2 ^ i) = ((s / 2 ^ i : Nat) : Int) := by simp
  have h2 : s / 2 ^ i ≤ s := Nat.div_le_self _ _
  have := u64_and_nat (s / 2 ^ i) 1 (by omega) (by omega)
  rw [e, show (1 : Int) = ((1 : Nat) : Int) from rfl, this, Nat.testBit_eq_decide_div_mod_eq, Nat.and_one_is_mod]
  rw [Bool.eq_iff_iff]
  simp
  omega
end Go.Proofs.YtcibcmfaebbhnaaDoor
