/-
  Contracts of the reference's functions on votes and sets: in, weight, first, Wins, Check, Bits, Quorate (they only read).
-/
import Derived.Test.YteckffndboiknaaInts
import Derived.Test.YteckffndboiknaaPlain
import Derived.Test.YteckffndboiknaaRows
namespace Go.Proofs.Yteckffndboiknaa
open Go.RowKit Go.WideShapes Go.ChangeShapes Q

theorem in_any (s i : Nat) (w : World) (hs : s < 9223372036854775808) (hi : i ≤ 62) :
    Calls Try.prog 69 #[.int .i64 s, .int .i64 i] w fun e w' => e = .returned (.bool (s.testBit i)) ∧ w = w' := by
  have hb := and_one_i64 s i hs
  go_enter Try.func69, Try.ntmps69
  go_wp2
  go_ret
  exact ⟨rfl, rfl⟩

theorem weight_any (s : Nat) (A : Option Addr) (B n c : Nat) (vs : List Int) (w : World) (h : RI w B A n vs) (hs : s < 9223372036854775808) (hn : n ≤ 16) (hv : ∀ k, k < n → 0 ≤ nth vs k ∧ nth vs k ≤ 9) :
    Calls Try.prog 68 #[.slice A n c, .int .i64 s] w fun e w' => e = .returned (.int .i64 (wt vs s)) ∧ w = w' := by
  have hb := wtTo_bound vs s n hv
  have HV := hide hv
  have HB := hide hb
  clear hv hb
  go_enter Try.func68, Try.ntmps68
  go_wp2
  go_loop [5, 6] (fun t i => ∃ k : Nat, k ≤ n ∧ i = .int .i64 k ∧ t = .int .i64 (wtTo vs s k)) (fun _ i => n - (intOf i).toNat)
  case atStart => exact ⟨0, Nat.zero_le _, rfl, rfl⟩
  case round =>
    obtain ⟨k, hk, rfl, rfl⟩ := hrel
    have b1 := HB.out k hk
    by_cases hlt : k < n
    · obtain ⟨ad, rfl, _, hc⟩ := h.at_ hlt
      have v1 := HV.out k hlt
      go_wp2_with (go_at_call 69; refine (in_any s k _ hs (by omega)).mono ?_; rintro e w' ⟨rfl, rfl⟩)
      all_goals
        go_round
        case rel => exact ⟨k + 1, by omega, by go_num, by simp [wtTo, *]⟩
        case measure => simp [intOf]; omega
    · go_wp2
      go_ret
      have hl := h.len
      obtain rfl : k = n := by omega
      exact ⟨ret_int (by rw [wt, hl]), rfl⟩

/-- The lowest of the nodes from k on whose vote is not 0 (0: none): the reference's first. -/
theorem first_any (A : Option Addr) (B n c : Nat) (vs : List Int) (w : World) (h : RI w B A n vs) (hn : n ≤ 16) (hv : ∀ k, k < n → 0 ≤ nth vs k ∧ nth vs k ≤ 9) (ht : tot vs ≠ 0) :
    Calls Try.prog 70 #[.slice A n c] w fun e w' => e = .returned (.int .i64 (fst vs)) ∧ w = w' := by
  have hl := h.len
  have HV := hide hv
  have HT := hide ht
  clear hv ht
  go_enter Try.func70, Try.ntmps70
  go_wp2
  go_loop [3] (fun i => ∃ k : Nat, k ≤ n ∧ i = .int .i64 k ∧ fstTo vs k = -1) (fun i => n - (intOf i).toNat)
  case atStart => exact ⟨0, Nat.zero_le _, rfl, rfl⟩
  case round =>
    obtain ⟨k, hk, rfl, hf⟩ := hrel
    have HF := hide hf
    clear hf
    by_cases hlt : k < n
    · obtain ⟨ad, rfl, _, hc⟩ := h.at_ hlt
      have v1 := HV.out k hlt
      by_cases hz : nth vs k = 0
      · have hz' : (nth vs k != 0) = false := by simp [hz]
        have hs := fstTo_skip vs k HF.out hz
        have HS := hide hs
        clear hs hz
        go_wp2
        go_round
        case rel => exact ⟨k + 1, by omega, by go_num, HS.out⟩
        case measure => simp [intOf]; omega
      · have hz' : (nth vs k != 0) = true := by simp [hz]
        have hs := fst_hit vs k n (by omega) HF.out (by omega)
        have HS := hide hs
        clear hs hz
        go_wp2
        go_ret
        exact ⟨ret_int (by rw [fst, hl, HS.out]; omega), rfl⟩
    · obtain rfl : k = n := by omega
      have := HT.out
      unfold tot at this
      rw [hl] at this
      exact absurd (sumTo_zero_of vs k (fun j hj => (HV.out j hj).1) (by rw [HF.out]; omega)) this

theorem two_pow_le (n : Nat) (h : n ≤ 16) : 1 ≤ (2 : Int) ^ n ∧ (2 : Int) ^ n ≤ 65536 := by
  have h1 : 2 ^ n ≤ 2 ^ 16 := Nat.pow_le_pow_right (by omega) h
  have h2 : 0 < 2 ^ n := Nat.pow_pos (by omega)
  have e : ((2 ^ n : Nat) : Int) = (2 : Int) ^ n := by rw [Int.natCast_pow]; rfl
  omega
theorem allOf_cast (n : Nat) : ((allOf n : Nat) : Int) = (2 : Int) ^ n - 1 := by
  have h2 : 0 < 2 ^ n := Nat.pow_pos (by omega)
  have e : ((2 ^ n : Nat) : Int) = (2 : Int) ^ n := by rw [Int.natCast_pow]; rfl
  unfold allOf
  omega
theorem allOf_lt (n : Nat) (h : n ≤ 16) : allOf n < 65536 := by
  have := two_pow_le n h
  have := allOf_cast n
  omega
theorem allOf_wrap (n : Nat) (h : n ≤ 16) : wrap64 (wrap64 (2 ^ n) - 1) = ((allOf n : Nat) : Int) := by
  have := two_pow_le n h
  rw [allOf_cast, IntWalk.wrap64_in (2 ^ n) (by constructor <;> omega), IntWalk.wrap64_in _ (by constructor <;> omega)]

set_option maxRecDepth 100000 in
theorem wins_any (s : Nat) (A : Option Addr) (B n c : Nat) (vs : List Int) (w : World) (h : RI w B A n vs) (hs : s < 9223372036854775808) (hok : Ok vs) :
    Calls Try.prog 48 #[.slice A n c, .int .i64 s] w fun e w' => e = .returned (.bool (winsB vs s)) ∧ w = w' := by
  have hl := h.len
  subst hl
  have h16 := hok.2.1
  have h1 := hok.1
  have hv := hok.2.2.1
  have ht := hok.2.2.2
  have hf := fst_lt vs hok
  have hw := wtTo_bound vs s _ hv _ (Nat.le_refl _)
  have hw2 : 0 ≤ tot vs ∧ tot vs ≤ 144 := by
    have := sumTo_bound vs _ hv _ (Nat.le_refl _)
    unfold tot; omega
  have hw3 : 0 ≤ wt vs s ∧ wt vs s ≤ 144 := by unfold wt; omega
  clear hw
  have HV := hide hv
  have HT := hide ht
  clear hv ht
  go_enter Try.func48, Try.ntmps48
  go_wp2_with fail
  rw [allOf_wrap _ h16]
  refine (weight_any _ _ B _ _ vs _ h (by have := allOf_lt _ h16; omega) h16 HV.out).mono ?_
  rintro e w' ⟨rfl, rfl⟩
  rw [wt_all]
  go_wp2_with fail
  refine (weight_any _ _ B _ _ vs _ h hs h16 HV.out).mono ?_
  rintro e w' ⟨rfl, rfl⟩
  by_cases c1 : tot vs < 2 * wt vs s
  · have d1 : winsB vs s = true := by simp [winsB, c1]
    have D1 := hide d1
    clear d1
    go_wp2_with fail
    go_ret
    exact ⟨ret_bool D1.out.symm, rfl⟩
  · have C1 := hide c1
    by_cases c2 : 2 * wt vs s = tot vs
    · have c2' : (2 * wt vs s == tot vs) = true := by simp [c2]
      have d1 : winsB vs s = s.testBit (fst vs) := by simp [winsB, c2]
      have D1 := hide d1
      clear d1
      have C2 := hide c2
      clear c2
      go_wp2_with (first | (go_at_call 70; refine (first_any _ B _ _ vs _ h h16 HV.out HT.out).mono ?_; rintro e w' ⟨rfl, rfl⟩) | (go_at_call 69; refine (in_any s _ _ hs (by omega)).mono ?_; rintro e w' ⟨rfl, rfl⟩))
      go_ret
      exact ⟨ret_bool (by rw [D1.out]; have q := C1.out; simp; intro hh; omega), rfl⟩
    · have c2' : (2 * wt vs s == tot vs) = false := by simp [c2]
      have d1 : winsB vs s = false := by simp [winsB, c1, c2]
      have D1 := hide d1
      clear d1
      clear c2
      go_wp2_with fail
      go_ret
      exact ⟨ret_bool (by rw [D1.out]; have q := C1.out; simp; omega), rfl⟩
theorem refCheck_any (A : Option Addr) (B n c : Nat) (vs : List Int) (w : World) (h : RI w B A n vs) (hn : n ≤ 17592186044416) :
    Calls Try.prog 26 #[.slice A n c] w fun e w' => e = .returned (.int .i64 (chkE vs)) ∧ w = w' := by
  have hl := h.len
  subst hl
  by_cases g1 : vs.length < 1
  · have hb := hide (chkE_bad (not_ok_len (vs := vs) (.inl g1)))
    go_enter Try.func26, Try.ntmps26
    go_wp2
    go_ret
    exact ⟨ret_int hb.out.symm, rfl⟩
  · by_cases g2 : 16 < vs.length
    · have hb := hide (chkE_bad (not_ok_len (vs := vs) (.inr g2)))
      go_enter Try.func26, Try.ntmps26
      go_wp2
      go_ret
      exact ⟨ret_int hb.out.symm, rfl⟩
    · go_enter Try.func26, Try.ntmps26
      go_wp2
      go_loop [3, 4] (fun t i => ∃ k : Nat, k ≤ vs.length ∧ i = .int .i64 k ∧ t = .int .i64 (sumTo vs k) ∧ Fine vs k) (fun _ i => vs.length - (intOf i).toNat)
      case atStart => exact ⟨0, Nat.zero_le _, rfl, rfl, Fine.zero vs⟩
      case round =>
        obtain ⟨k, hk, rfl, rfl, hfine⟩ := hrel
        have b1 := sumTo_bound vs k hfine k (Nat.le_refl _)
        by_cases hlt : k < vs.length
        · obtain ⟨ad, rfl, _, hc⟩ := h.at_ hlt
          by_cases v0 : nth vs k < 0
          · have hb := hide (chkE_bad (not_ok_at hlt (.inl v0)))
            go_wp2
            go_ret
            exact ⟨ret_int hb.out.symm, rfl⟩
          · by_cases v9 : 9 < nth vs k
            · have hb := hide (chkE_bad (not_ok_at hlt (.inr v9)))
              go_wp2
              go_ret
              exact ⟨ret_int hb.out.symm, rfl⟩
            · have hf := hide (hfine.succ (by omega) (by omega))
              go_wp2
              go_round
              case rel => exact ⟨k + 1, by omega, by go_num, rfl, hf.out⟩
              case measure => simp [intOf]; omega
        · obtain rfl : k = vs.length := by omega
          by_cases hz : sumTo vs vs.length = 0
          · have hb := hide (chkE_bad (not_ok_sum (vs := vs) hz))
            have hz' : (sumTo vs vs.length == 0) = true := by simp [hz]
            clear hz
            go_wp2
            go_ret
            exact ⟨ret_int hb.out.symm, rfl⟩
          · have hb := hide (chkE_ok (ok_mk (vs := vs) (by omega) (by omega) hfine hz))
            have hz' : (sumTo vs vs.length == 0) = false := by simp [hz]
            go_wp2
            go_ret
            exact ⟨ret_int hb.out.symm, rfl⟩

end Go.Proofs.Yteckffndboiknaa
