/-
  The reference's Digits, Signed, plain. Counts read: which texts are counts, and that what was written as a count is read as it.
-/
import Derived.Deep.RegionLaw
import Derived.Test.YtcibcmfaebbhnaaDoorZStr
import Derived.Lib.ParseIntBCases
set_option linter.unusedVariables false
set_option linter.unusedSimpArgs false
namespace Go.Proofs.YtcibcmfaebbhnaaDoor
open Go.RowKit Go.WideShapes Go.ChangeShapes Q
theorem dec_lt {n : Nat} (h : n < 10) : Lib.decDigits n = [UInt8.ofNat (48 + n)] := Lib.decDigits_one h
theorem dec_ge {n : Nat} (h : ¬ n < 10) : Lib.decDigits n = Lib.decDigits (n / 10) ++ [UInt8.ofNat (48 + n % 10)] := by rw [Lib.decDigits, dif_neg h]
theorem byte_of {n : Nat} (h : n < 256) : ((UInt8.ofNat n).toNat : Int) = (n : Int) := by
  show (((BitVec.ofNat 8 n).toNat : Nat) : Int) = _
  rw [BitVec.toNat_ofNat]
  omega
theorem i64_wrap (x : Int) (h0 : -9223372036854775808 ≤ x) (h1 : x ≤ 9223372036854775807) : IntKind.i64.wrap x = x := by rw [IntKind.wrap_i64]; omega
theorem u8_wrap (x : Int) (h0 : 0 ≤ x) (h1 : x ≤ 255) : IntKind.u8.wrap x = x := by
  simp [IntKind.wrap, IntKind.bits, IntKind.signed]
  omega
theorem dec_len : ∀ (k n : Nat), n < 10 ^ (k + 1) → (Lib.decDigits n).length ≤ k + 1
  | 0, n, h => by rw [dec_lt (by omega)]; simp
  | k + 1, n, h => by
    by_cases h1 : n < 10
    · rw [dec_lt h1]; simp
    · have := dec_len k (n / 10) (by rw [Nat.pow_succ] at h; omega)
      rw [dec_ge h1, List.length_append]
      simp
      omega
theorem dec_len19 {n : Nat} (h : n < 9223372036854775808) : (Lib.decDigits n).length ≤ 19 := dec_len 18 n (Nat.lt_of_lt_of_le h (by decide))
theorem conv_new {b : UInt8} {x : Int} (hx : x = (b.toNat : Int)) (W : World) : (convert 24 9 (.slice (some ⟨W.heap.size, 0, none⟩) 1 1)).run Tryd.prog (W.alloc (.cells #[.int .u8 x] 5)) = .ok (.string (S [b])) (W.alloc (.cells #[.int .u8 x] 5)) :=
  run_conv_bytes (.tmp 0) 24 9 5 Tryd.underlying24 Tryd.underlying5 Tryd.underlying9 _ 1 1 [b] rfl (one_cell (by rw [← hx]; exact Blk.new _ _ _))
theorem conv_late {b : UInt8} {x : Int} (hx : x = (b.toNat : Int)) {W wq : World} (hb : Below (W.alloc (.cells #[.int .u8 x] 5)).drew.heap.size (W.alloc (.cells #[.int .u8 x] 5)).drew wq) : (convert 24 9 (.slice (some ⟨W.heap.size, 0, none⟩) 1 1)).run Tryd.prog wq = .ok (.string (S [b])) wq :=
  run_conv_bytes (.tmp 0) 24 9 5 Tryd.underlying24 Tryd.underlying5 Tryd.underlying9 _ 1 1 [b] rfl (one_cell (by rw [← hx]; exact (Blk.drew (Blk.new W _ _)).below hb (by simp)))
set_option maxRecDepth 100000 in
set_option maxHeartbeats 1000000 in
theorem dig_any : ∀ (n : Nat) (w : World), n < 9223372036854775808 →
    Calls Tryd.prog 45 #[.int .i64 n] w fun e w' => e = .returned (.string (S (Lib.decDigits n))) ∧ Below w.heap.size w w' := by
  intro n
  induction n using Nat.strongRecOn with
  | _ n ih =>
  intro w hn
  by_cases h : n < 10
  · have h1 : (n : Int) < 10 := by omega
    have hd := dec_lt h
    have hb := byte_of (n := 48 + n) (by omega)
    have HD := hide hd
    have hcast : (48 : Int) + (n : Int) = ((48 + n : Nat) : Int) := by omega
    obtain ⟨b, hbe⟩ : ∃ b, b = UInt8.ofNat (48 + n) := ⟨_, rfl⟩
    rw [← hbe] at hb
    have HB := hide hb
    have HBE := hide hbe
    have B1 : Blk (w.alloc (.cells #[.int .u8 (48 + (n : Int))] 5)) w.heap.size 5 #[.int .u8 (b.toNat : Int)] := by
      rw [hb, ← hcast]
      exact Blk.new _ _ _
    have HC1 := hide (one_cell B1)
    clear hd hb hbe hcast B1
    go_enter Tryd.func45, Tryd.ntmps45
    go_wp2_with (refine wpList_conv_bytes rfl (.tmp 8) 24 9 5 rfl Tryd.underlying24 Tryd.underlying5 Tryd.underlying9 ⟨w.heap.size, 0, none⟩ 1 1 [b] rfl rfl HC1.out ?_)
    go_ret
    refine ⟨by rw [HD.out, ← HBE.out]; rfl, ?_⟩
    exact (Below.refl _ _).alloc (Nat.le_refl _) _
  · have h1 : ¬ (n : Int) < 10 := by omega
    have h2 : (10 : Int) ≤ (n : Int) := by omega
    have hd := dec_ge h
    have HD := hide hd
    obtain ⟨q, hq⟩ : ∃ q, q = n / 10 := ⟨_, rfl⟩
    obtain ⟨r, hr⟩ : ∃ r, r = n % 10 := ⟨_, rfl⟩
    have hqi : (n : Int) / 10 = (q : Int) := by omega
    have hri : (n : Int) % 10 = (r : Int) := by omega
    have hqt : (n : Int).tdiv 10 = (q : Int) := by rw [Int.tdiv_eq_ediv_of_nonneg (by omega)]; exact hqi
    have hrt : (n : Int).tmod 10 = (r : Int) := by rw [Int.tmod_eq_emod_of_nonneg (by omega)]; exact hri
    have hr10 : r < 10 := by omega
    have hr10i : (r : Int) < 10 := by omega
    have hr0i : (0 : Int) ≤ (r : Int) := by omega
    have hb := byte_of (n := 48 + r) (by omega)
    obtain ⟨b, hbe⟩ : ∃ b, b = UInt8.ofNat (48 + r) := ⟨_, rfl⟩
    rw [← hbe] at hb
    rw [← hq, ← hr, ← hbe] at HD
    have hbx : (48 : Int) + (r : Int) = (b.toNat : Int) := by omega
    have HCV : ∀ W : World, (convert 24 9 (.slice (some ⟨W.heap.size, 0, none⟩) 1 1)).run Tryd.prog (W.alloc (.cells #[.int .u8 (48 + (r : Int))] 5)) = .ok (.string (S [b])) (W.alloc (.cells #[.int .u8 (48 + (r : Int))] 5)) := conv_new hbx
    have HCV2 : ∀ W : World, (convert 24 9 (.slice (some ⟨W.heap.size, 0, none⟩) 1 1)).run Tryd.prog (W.alloc (.cells #[.int .u8 (48 + (r : Int))] 5)).drew = .ok (.string (S [b])) (W.alloc (.cells #[.int .u8 (48 + (r : Int))] 5)).drew := fun W => conv_late hbx (Below.refl _ _)
    have HBX := hide hbx
    have hsz : ¬ 9223372036854775807 < (S (Lib.decDigits q)).size + (S [b]).size := by
      have := dec_len19 (n := q) (by omega)
      rw [S_size, S_size]
      simp
      omega
    have HIH : Hid (∀ W, Calls Tryd.prog 45 #[.int .i64 q] W fun e w' => e = .returned (.string (S (Lib.decDigits q))) ∧ Below W.heap.size W w') := fun W => ih q (by omega) W (by omega)
    clear ih hd hq hr hb hbe hbx
    have w1 : IntKind.i64.wrap (q : Int) = q := i64_wrap _ (by omega) (by omega)
    have w2 : IntKind.i64.wrap (48 + (r : Int)) = 48 + r := i64_wrap _ (by omega) (by omega)
    have w3 : IntKind.u8.wrap (48 + (r : Int)) = 48 + r := u8_wrap _ (by omega) (by omega)
    go_enter Tryd.func45, Tryd.ntmps45
    go_upto_region 3 with fail
    go_region_law (refine step_in (by rfl) ?_; go_simp; go_at_call 45; refine (HIH.out _).mono ?_; rintro e wq ⟨rfl, hbq⟩; try (have hcv3 : (convert 24 9 (.slice (some ⟨w.heap.size, 0, none⟩) 1 1)).run Tryd.prog wq = .ok (.string (S [b])) wq := conv_late HBX.out hbq))
    all_goals
      go_wp2_with fail
      go_ret
      refine ⟨?_, ?_⟩
      · rw [HD.out, ← S_append]
        rfl
      · first
        | exact ((Below.refl w.heap.size w).drew.trans hbq).alloc (by have := hbq.size; simp at this; omega) _
        | exact ((Below.refl w.heap.size w).alloc (Nat.le_refl _) _).drew.trans (hbq.mono (by simp))
theorem dig_bound {n : Nat} (h : n < 9223372036854775808) (c : List UInt8) (hc : c.length ≤ 1000) : ¬ 9223372036854775807 < (S c).size + (S (Lib.decDigits n)).size := by
  have := dec_len19 h
  rw [S_size, S_size]
  omega
theorem itoa_nat (n : Nat) : Lib.itoa (n : Int) = Lib.decDigits n := by unfold Lib.itoa; rw [if_neg (by omega)]; simp
theorem itoa_neg' {n : Nat} (h : 0 < n) : Lib.itoa (-(n : Int)) = 45 :: Lib.decDigits n := by unfold Lib.itoa; rw [if_pos (by omega)]; simp
set_option maxRecDepth 100000 in
theorem signed_any (x : Int) (w : World) (h0 : -9223372036854775808 ≤ x) (h1 : x ≤ 9223372036854775807) (hmin : x ≠ -9223372036854775808) :
    Calls Tryd.prog 63 #[.int .i64 x] w fun e w' => e = .returned (.string (S (Lib.itoa x))) ∧ Below w.heap.size w w' := by
  by_cases h : 0 ≤ x
  · obtain ⟨n, rfl⟩ := Int.eq_ofNat_of_zero_le h
    have HD := hide (dig_any n w (by omega))
    rw [itoa_nat]
    go_enter Tryd.func63, Tryd.ntmps63
    go_wp2_with (go_at_call 45; refine HD.out.mono ?_; rintro e w' ⟨rfl, hb⟩)
    go_ret
    exact ⟨rfl, hb⟩
  · obtain ⟨n, hn⟩ := Int.eq_ofNat_of_zero_le (show 0 ≤ -x by omega)
    obtain rfl : x = -(n : Int) := by omega
    have HD := hide (dig_any n w (by omega))
    have hi := itoa_neg' (n := n) (by omega)
    have HI := hide hi
    have hne : ((-(n : Int)) == -9223372036854775808) = false := by rw [beq_eq_false_iff_ne]; exact hmin
    have hsz := dig_bound (n := n) (by omega) [45] (by simp)
    have hneg : ¬ (0 : Int) ≤ -(n : Int) := by omega
    have HW : Hid (wrap64 (n : Int) = n) := by
      show _ = _
      unfold wrap64
      omega
    clear hi hmin
    go_enter Tryd.func63, Tryd.ntmps63
    go_wp2_with (go_at_call 45; rw [HW.out]; refine HD.out.mono ?_; rintro e w' ⟨rfl, hb⟩)
    go_ret
    refine ⟨?_, hb⟩
    rw [HI.out, show (45 :: Lib.decDigits n) = [45] ++ Lib.decDigits n from rfl, ← S_append]
    rfl
end Go.Proofs.YtcibcmfaebbhnaaDoor
set_option linter.unusedVariables false
set_option linter.unusedSimpArgs false
namespace Go.Proofs.YtcibcmfaebbhnaaDoor
open Go.RowKit Go.WideShapes Go.ChangeShapes Q
def isD (c : UInt8) : Bool := decide (48 ≤ c.toNat ∧ c.toNat ≤ 57)
def valD (a : Nat) (l : List UInt8) : Nat := l.foldl (fun a c => 10 * a + (c.toNat - 48)) a
theorem valD_snoc (a : Nat) (l : List UInt8) (c : UInt8) : valD a (l ++ [c]) = 10 * valD a l + (c.toNat - 48) := by simp [valD]
theorem valD_ge : ∀ (l : List UInt8) (a : Nat), a ≤ valD a l
  | [], a => Nat.le_refl _
  | c :: l, a => by
    have := valD_ge l (10 * a + (c.toNat - 48))
    show a ≤ valD (10 * a + (c.toNat - 48)) l
    omega
theorem valD_app (a : Nat) (l r : List UInt8) : valD a (l ++ r) = valD (valD a l) r := by simp [valD]
/-- The count that a text is. -/
def cnt (l : List UInt8) : Option Nat :=
  if l = [] ∨ 19 < l.length ∨ (1 < l.length ∧ l.head? = some 48) then none else if l.all isD = true then (if valD 0 l ≤ 4611686018427387904 then some (valD 0 l) else none) else none
def cntZ (l : List UInt8) : Int := match cnt l with | some n => (n : Int) | none => -1
theorem cnt_le {l : List UInt8} {n : Nat} (h : cnt l = some n) : n ≤ 4611686018427387904 := by
  unfold cnt at h
  split at h
  · cases h
  · split at h
    · split at h
      · injection h with h; omega
      · cases h
    · cases h
/-- What ParseUint gives of at most 19 digits. -/
theorem parse_ok : ∀ (l : List UInt8) (a k : Nat), (∀ c ∈ l, isD c = true) → a < 10 ^ k → k + l.length ≤ 19 → Lib.parseUintM (2 ^ 64 - 1) a l = .ok (valD a l)
  | [], a, k, _, _, _ => rfl
  | c :: l, a, k, hd, ha, hk => by
    have hc : isD c = true := hd c (by simp)
    unfold isD at hc
    have hc := of_decide_eq_true hc
    rw [List.length_cons] at hk
    have h18 : 10 ^ k ≤ 10 ^ 18 := Nat.pow_le_pow_right (by omega) (by omega)
    have e18 : (10 : Nat) ^ 18 = 1000000000000000000 := by decide
    rw [Lib.parseUintM, if_pos hc, if_neg (by omega), if_neg (by omega)]
    rw [parse_ok l (a * 10 + (c.toNat - 48)) (k + 1) (fun x hx => hd x (by simp [hx])) (by rw [Nat.pow_succ]; omega) (by omega)]
    rw [Nat.mul_comm a 10]
    rfl
theorem parse_cnt {l : List UInt8} (h0 : l ≠ []) (h19 : l.length ≤ 19) (hd : l.all isD = true) : Lib.parseUintB 64 l = .ok (valD 0 l) := by
  unfold Lib.parseUintB
  rw [if_neg h0]
  exact parse_ok l 0 0 (fun c hc => by rw [List.all_eq_true] at hd; exact hd c hc) (by decide) (by omega)
/-- Digits written. -/
theorem dig_byte {d : Nat} (h : d < 10) : isD (UInt8.ofNat (48 + d)) = true ∧ (UInt8.ofNat (48 + d)).toNat - 48 = d ∧ (UInt8.ofNat (48 + d) = 48 → d = 0) := by
  have : ∀ d : Fin 10, isD (UInt8.ofNat (48 + d.val)) = true ∧ (UInt8.ofNat (48 + d.val)).toNat - 48 = d.val ∧ (UInt8.ofNat (48 + d.val) = 48 → d.val = 0) := by decide +kernel
  exact this ⟨d, h⟩
theorem dec_facts : ∀ (n : Nat), Lib.decDigits n ≠ [] ∧ (Lib.decDigits n).all isD = true ∧ valD 0 (Lib.decDigits n) = n ∧ (0 < n → (Lib.decDigits n).head? ≠ some 48) := by
  intro n
  induction n using Nat.strongRecOn with
  | ind n ih =>
    by_cases h : n < 10
    · obtain ⟨h1, h2, h3⟩ := dig_byte h
      rw [dec_lt h]
      refine ⟨List.cons_ne_nil _ _, by rw [List.all_cons, h1]; rfl, ?_, fun h0 e => ?_⟩
      · show 10 * 0 + ((UInt8.ofNat (48 + n)).toNat - 48) = n
        omega
      · have := h3 (Option.some.inj e)
        omega
    · obtain ⟨i1, i2, i3, i4⟩ := ih (n / 10) (by omega)
      obtain ⟨h1, h2, h3⟩ := dig_byte (show n % 10 < 10 by omega)
      rw [dec_ge h]
      refine ⟨by simp, by rw [List.all_append, i2, List.all_cons, h1]; rfl, by rw [valD_snoc, i3, h2]; omega, fun _ => ?_⟩
      have i4' := i4 (by omega)
      cases hq : Lib.decDigits (n / 10) with
      | nil => exact absurd hq i1
      | cons x r => rw [hq] at i4'; exact i4'
end Go.Proofs.YtcibcmfaebbhnaaDoor
