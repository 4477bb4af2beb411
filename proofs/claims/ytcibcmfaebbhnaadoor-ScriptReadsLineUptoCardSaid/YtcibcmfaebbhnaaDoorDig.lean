/-
  The reference's Digits, Signed, plain.
-/
import Derived.Test.YtcibcmfaebbhnaaDoorStr
import Derived.Deep.RegionLaw
set_option linter.unusedVariables false
set_option linter.unusedSimpArgs false
namespace Go.Proofs.YtcibcmfaebbhnaaDoor
open Go.RowKit Go.WideShapes Go.ChangeShapes Q

theorem dec_lt {n : Nat} (h : n < 10) : Lib.decDigits n = [UInt8.ofNat (48 + n)] := Lib.decDigits_one h
theorem dec_ge {n : Nat} (h : ¬ n < 10) : Lib.decDigits n = Lib.decDigits (n / 10) ++ [UInt8.ofNat (48 + n % 10)] := by rw [Lib.decDigits, dif_neg h]
theorem byte_of {n : Nat} (h : n < 256) : ((UInt8.ofNat n).toNat : Int) = (n : Int) := by
  show (((BitVec.ofNat 8 n).toNat : Nat) : Int) = _
  rw [BitVec.toNat_ofNat]
  omega

theorem i64_wrap (x : Int) (h0 : -9223372036854775808 ≤ x) (h1 : x ≤ 9223372036854775807) : IntKind.i64.wrap x = x := by rw [IntKind.wrap_i64]; omega
theorem u8_wrap (x : Int) (h0 : 0 ≤ x) (h1 : x ≤ 255) : IntKind.u8.wrap x = x := by
  simp [IntKind.wrap, IntKind.bits, IntKind.signed]
  omega

theorem dec_len : ∀ (k n : Nat), n < 10 ^ (k + 1) → (Lib.decDigits n).length ≤ k + 1
  | 0, n, h => by rw [dec_lt (by omega)]; simp
  | k + 1, n, h => by
    by_cases h1 : n < 10
    · rw [dec_lt h1]; simp
    · have := dec_len k (n / 10) (by rw [Nat.pow_succ] at h; omega)
      rw [dec_ge h1, List.length_append]
      simp
      omega
theorem dec_len19 {n : Nat} (h : n < 9223372036854775808) : (Lib.decDigits n).length ≤ 19 := dec_len 18 n (Nat.lt_of_lt_of_le h (by decide))
theorem conv_new {b : UInt8} {x : Int} (hx : x = (b.toNat : Int)) (W : World) : (convert 24 9 (.slice (some ⟨W.heap.size, 0, none⟩) 1 1)).run Tryd.prog (W.alloc (.cells #[.int .u8 x] 5)) = .ok (.string (S [b])) (W.alloc (.cells #[.int .u8 x] 5)) :=
  run_conv_bytes (.tmp 0) 24 9 5 Tryd.underlying24 Tryd.underlying5 Tryd.underlying9 _ 1 1 [b] rfl (one_cell (by rw [← hx]; exact Blk.new _ _ _))
theorem conv_late {b : UInt8} {x : Int} (hx : x = (b.toNat : Int)) {W wq : World} (hb : Below (W.alloc (.cells #[.int .u8 x] 5)).drew.heap.size (W.alloc (.cells #[.int .u8 x] 5)).drew wq) : (convert 24 9 (.slice (some ⟨W.heap.size, 0, none⟩) 1 1)).run Tryd.prog wq = .ok (.string (S [b])) wq :=
  run_conv_bytes (.tmp 0) 24 9 5 Tryd.underlying24 Tryd.underlying5 Tryd.underlying9 _ 1 1 [b] rfl (one_cell (by rw [← hx]; exact (Blk.drew (Blk.new W _ _)).below hb (by simp)))

set_option maxRecDepth 100000 in
set_option maxHeartbeats 1000000 in
theorem dig_any : ∀ (n : Nat) (w : World), n < 9223372036854775808 →
    Calls Tryd.prog 45 #[.int .i64 n] w fun e w' => e = .returned (.string (S (Lib.decDigits n))) ∧ Below w.heap.size w w' := by
  intro n
  induction n using Nat.strongRecOn with
  | _ n ih =>
  intro w hn
  by_cases h : n < 10
  · have h1 : (n : Int) < 10 := by omega
    have hd := dec_lt h
    have hb := byte_of (n := 48 + n) (by omega)
    have HD := hide hd
    have hcast : (48 : Int) + (n : Int) = ((48 + n : Nat) : Int) := by omega
    obtain ⟨b, hbe⟩ : ∃ b, b = UInt8.ofNat (48 + n) := ⟨_, rfl⟩
    rw [← hbe] at hb
    have HB := hide hb
    have HBE := hide hbe
    have B1 : Blk (w.alloc (.cells #[.int .u8 (48 + (n : Int))] 5)) w.heap.size 5 #[.int .u8 (b.toNat : Int)] := by
      rw [hb, ← hcast]
      exact Blk.new _ _ _
    have HC1 := hide (one_cell B1)
    clear hd hb hbe hcast B1
    go_enter Tryd.func45, Tryd.ntmps45
    go_wp2_with (refine wpList_conv_bytes rfl (.tmp 8) 24 9 5 rfl Tryd.underlying24 Tryd.underlying5 Tryd.underlying9 ⟨w.heap.size, 0, none⟩ 1 1 [b] rfl rfl HC1.out ?_)
    go_ret
    refine ⟨by rw [HD.out, ← HBE.out]; rfl, ?_⟩
    exact (Below.refl _ _).alloc (Nat.le_refl _) _
  · have h1 : ¬ (n : Int) < 10 := by omega
    have h2 : (10 : Int) ≤ (n : Int) := by omega
    have hd := dec_ge h
    have HD := hide hd
    obtain ⟨q, hq⟩ : ∃ q, q = n / 10 := ⟨_, rfl⟩
    obtain ⟨r, hr⟩ : ∃ r, r = n % 10 := ⟨_, rfl⟩
    have hqi : (n : Int) / 10 = (q : Int) := by omega
    have hri : (n : Int) % 10 = (r : Int) := by omega
    have hqt : (n : Int).tdiv 10 = (q : Int) := by rw [Int.tdiv_eq_ediv_of_nonneg (by omega)]; exact hqi
    have hrt : (n : Int).tmod 10 = (r : Int) := by rw [Int.tmod_eq_emod_of_nonneg (by omega)]; exact hri
    have hr10 : r < 10 := by omega
    have hr10i : (r : Int) < 10 := by omega
    have hr0i : (0 : Int) ≤ (r : Int) := by omega
    have hb := byte_of (n := 48 + r) (by omega)
    obtain ⟨b, hbe⟩ : ∃ b, b = UInt8.ofNat (48 + r) := ⟨_, rfl⟩
    rw [← hbe] at hb
    rw [← hq, ← hr, ← hbe] at HD
    have hbx : (48 : Int) + (r : Int) = (b.toNat : Int) := by omega
    have HCV : ∀ W : World, (convert 24 9 (.slice (some ⟨W.heap.size, 0, none⟩) 1 1)).run Tryd.prog (W.alloc (.cells #[.int .u8 (48 + (r : Int))] 5)) = .ok (.string (S [b])) (W.alloc (.cells #[.int .u8 (48 + (r : Int))] 5)) := conv_new hbx
    have HCV2 : ∀ W : World, (convert 24 9 (.slice (some ⟨W.heap.size, 0, none⟩) 1 1)).run Tryd.prog (W.alloc (.cells #[.int .u8 (48 + (r : Int))] 5)).drew = .ok (.string (S [b])) (W.alloc (.cells #[.int .u8 (48 + (r : Int))] 5)).drew := fun W => conv_late hbx (Below.refl _ _)
    have HBX := hide hbx
    have hsz : ¬ 9223372036854775807 < (S (Lib.decDigits q)).size + (S [b]).size := by
      have := dec_len19 (n := q) (by omega)
      rw [S_size, S_size]
      simp
      omega
    have HIH : Hid (∀ W, Calls Tryd.prog 45 #[.int .i64 q] W fun e w' => e = .returned (.string (S (Lib.decDigits q))) ∧ Below W.heap.size W w') := fun W => ih q (by omega) W (by omega)
    clear ih hd hq hr hb hbe hbx
    have w1 : IntKind.i64.wrap (q : Int) = q := i64_wrap _ (by omega) (by omega)
    have w2 : IntKind.i64.wrap (48 + (r : Int)) = 48 + r := i64_wrap _ (by omega) (by omega)
    have w3 : IntKind.u8.wrap (48 + (r : Int)) = 48 + r := u8_wrap _ (by omega) (by omega)
    go_enter Tryd.func45, Tryd.ntmps45
    go_upto_region 3 with fail
    go_region_law (refine step_in (by rfl) ?_; go_simp; go_at_call 45; refine (HIH.out _).mono ?_; rintro e wq ⟨rfl, hbq⟩; try (have hcv3 : (convert 24 9 (.slice (some ⟨w.heap.size, 0, none⟩) 1 1)).run Tryd.prog wq = .ok (.string (S [b])) wq := conv_late HBX.out hbq))
    all_goals
      go_wp2_with fail
      go_ret
      refine ⟨?_, ?_⟩
      · rw [HD.out, ← S_append]
        rfl
      · first
        | exact ((Below.refl w.heap.size w).drew.trans hbq).alloc (by have := hbq.size; simp at this; omega) _
        | exact ((Below.refl w.heap.size w).alloc (Nat.le_refl _) _).drew.trans (hbq.mono (by simp))

theorem dig_bound {n : Nat} (h : n < 9223372036854775808) (c : List UInt8) (hc : c.length ≤ 1000) : ¬ 9223372036854775807 < (S c).size + (S (Lib.decDigits n)).size := by
  have := dec_len19 h
  rw [S_size, S_size]
  omega
theorem itoa_nat (n : Nat) : Lib.itoa (n : Int) = Lib.decDigits n := by unfold Lib.itoa; rw [if_neg (by omega)]; simp
theorem itoa_neg' {n : Nat} (h : 0 < n) : Lib.itoa (-(n : Int)) = 45 :: Lib.decDigits n := by unfold Lib.itoa; rw [if_pos (by omega)]; simp

set_option maxRecDepth 100000 in
theorem signed_any (x : Int) (w : World) (h0 : -9223372036854775808 ≤ x) (h1 : x ≤ 9223372036854775807) (hmin : x ≠ -9223372036854775808) :
    Calls Tryd.prog 63 #[.int .i64 x] w fun e w' => e = .returned (.string (S (Lib.itoa x))) ∧ Below w.heap.size w w' := by
  by_cases h : 0 ≤ x
  · obtain ⟨n, rfl⟩ := Int.eq_ofNat_of_zero_le h
    have HD := hide (dig_any n w (by omega))
    rw [itoa_nat]
    go_enter Tryd.func63, Tryd.ntmps63
    go_wp2_with (go_at_call 45; refine HD.out.mono ?_; rintro e w' ⟨rfl, hb⟩)
    go_ret
    exact ⟨rfl, hb⟩
  · obtain ⟨n, hn⟩ := Int.eq_ofNat_of_zero_le (show 0 ≤ -x by omega)
    obtain rfl : x = -(n : Int) := by omega
    have HD := hide (dig_any n w (by omega))
    have hi := itoa_neg' (n := n) (by omega)
    have HI := hide hi
    have hne : ((-(n : Int)) == -9223372036854775808) = false := by rw [beq_eq_false_iff_ne]; exact hmin
    have hsz := dig_bound (n := n) (by omega) [45] (by simp)
    have hneg : ¬ (0 : Int) ≤ -(n : Int) := by omega
    have HW : Hid (wrap64 (n : Int) = n) := by
      show _ = _
      unfold wrap64
      omega
    clear hi hmin
    go_enter Tryd.func63, Tryd.ntmps63
    go_wp2_with (go_at_call 45; rw [HW.out]; refine HD.out.mono ?_; rintro e w' ⟨rfl, hb⟩)
    go_ret
    refine ⟨?_, hb⟩
    rw [HI.out, show (45 :: Lib.decDigits n) = [45] ++ Lib.decDigits n from rfl, ← S_append]
    rfl
end Go.Proofs.YtcibcmfaebbhnaaDoor
