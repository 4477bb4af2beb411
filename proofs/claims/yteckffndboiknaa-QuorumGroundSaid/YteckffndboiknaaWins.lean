/-
  Contracts of the laws' list and wins; QuorumMeet, the walk.
-/
import Derived.Test.YteckffndboiknaaQuorate
import Derived.Test.YteckffndboiknaaPlainC
import Derived.Test.YteckffndboiknaaFit
set_option linter.unusedVariables false
namespace Go.Proofs.Yteckffndboiknaa
open Go.RowKit Go.WideShapes Go.ChangeShapes Q

theorem nat_pow_cast' (n : Nat) : ((2 ^ n : Nat) : Int) = (2 : Int) ^ n := by rw [Int.natCast_pow]; rfl
/-- The nodes of a set, of the first k. -/
def listTo (s : Nat) : Nat → List Int
  | 0 => []
  | k + 1 => if s.testBit k then listTo s k ++ [(k : Int)] else listTo s k
theorem listTo_len (s : Nat) : ∀ k, (listTo s k).length ≤ k := by
  intro k
  induction k with
  | zero => exact Nat.le_refl _
  | succ k ih =>
    rw [listTo]
    split
    · rw [List.length_append, List.length_singleton]; omega
    · omega
theorem packTo_front (a b : List Int) (n : Nat) : ∀ k, k ≤ a.length → packTo (a ++ b) n k = packTo a n k := by
  intro k
  induction k with
  | zero => intro _; rfl
  | succ k ih => intro hk; rw [packTo, packTo, ih (by omega), nth_front a b k (by omega)]
theorem mod_pow_succ (s k : Nat) : s % 2 ^ (k + 1) = s % 2 ^ k + if s.testBit k then 2 ^ k else 0 := by
  rw [Nat.pow_succ, Nat.mod_mul, Nat.testBit_eq_decide_div_mod_eq]
  have : s / 2 ^ k % 2 < 2 := Nat.mod_lt _ (by omega)
  by_cases h : s / 2 ^ k % 2 = 1
  · simp [h]
  · have h0 : s / 2 ^ k % 2 = 0 := by omega
    simp [h0]
/-- What stands when a set's list has been read: its first k bits. -/
theorem packTo_list (s n : Nat) : ∀ k, k ≤ n → ∃ l : Int, l < k ∧ packTo (listTo s k) n (listTo s k).length = some (s % 2 ^ k, l) := by
  intro k
  induction k with
  | zero => intro _; exact ⟨-1, by omega, by simp [listTo, packTo, Nat.mod_one]⟩
  | succ k ih =>
    intro hk
    obtain ⟨l, hl, hp⟩ := ih (by omega)
    have hm := mod_pow_succ s k
    rw [listTo]
    cases hb : s.testBit k
    · refine ⟨l, by omega, ?_⟩
      rw [hm, hb]
      simpa using hp
    · refine ⟨k, by omega, ?_⟩
      simp only [if_true]
      rw [List.length_append, List.length_singleton]
      have h1 := packTo_front (listTo s k) [(k : Int)] n _ (Nat.le_refl _)
      rw [hp] at h1
      have h2 := packTo_good h1 (by rw [nth_last]; exact hl) (by rw [nth_last]; omega)
      rw [h2, nth_last, hm, hb, Int.toNat_natCast]
      have h3 : s % 2 ^ k < 2 ^ k := Nat.mod_lt _ (Nat.pow_pos (by omega))
      rw [or_is_add _ _ _ h3 (Nat.le_refl _)]
      simp
theorem pack_list (s n : Nat) (hs : s < 2 ^ n) : pack (listTo s n) n = some s := by
  obtain ⟨l, _, hp⟩ := packTo_list s n n (Nat.le_refl _)
  rw [Nat.mod_eq_of_lt hs] at hp
  unfold pack
  rw [hp]
  rfl

set_option maxRecDepth 100000 in
theorem list_any (s n : Nat) (w : World) (hs : s < 9223372036854775808) (hn : n ≤ 16) :
    Calls Try.prog 45 #[.int .i64 s, .int .i64 n] w fun e w' => ∃ A c, e = .returned (.slice A (listTo s n).length c) ∧ RI w' w'.heap.size A (listTo s n).length (listTo s n) ∧ (listTo s n).length ≤ c ∧ Below w.heap.size w w' := by
  obtain ⟨i0, hi, hz0, hz1, hz2⟩ := info_parts info3
  have hown0 : (w.alloc (.cells #[] 3)).ownsRow w.heap.size 3 1 (.slice (some ⟨w.heap.size, 0, none⟩) 0 0) 0 [] := own_of_alloc w 3 [] 0 rfl (by unfold maxLen; omega)
  have HO := hide hown0
  clear hown0
  go_enter Try.func45, Try.ntmps45
  go_wp2
  go_loopw [5, 6] (fun v i wr => ∃ k : Nat, k ≤ n ∧ i = .int .i64 k ∧ Hid (wr.ownsRow w.heap.size 3 1 v (listTo s k).length (ints (listTo s k))) ∧ Below w.heap.size w wr) (fun _ i _ => 16 - (intOf i).toNat)
  case atStart => exact ⟨0, by omega, rfl, HO, (Below.refl _ _).alloc (Nat.le_refl _) _⟩
  case round =>
    obtain ⟨k, hk, rfl, hown, hb⟩ := hrel
    have hll := listTo_len s k
    have hsz := hb.size
    obtain ⟨A1, c1, hv1, R1, hc1⟩ := own_slice hown.out
    rw [hv1] at hown ⊢
    clear hv1
    by_cases hlt : k < n
    · have hbit := and_one_i64 s k hs
      cases hq : s.testBit k
      · rw [hq] at hbit
        have HL : Hid (listTo s (k + 1) = listTo s k) := by show _ = _; rw [listTo, hq]; rfl
        clear hq
        go_wp2
        go_roundw
        case rel => exact ⟨k + 1, by omega, by go_num, by rw [HL.out]; exact hown, hb⟩
        case measure => simp [intOf]; omega
      · rw [hq] at hbit
        have HL : Hid (listTo s (k + 1) = listTo s k ++ [(k : Int)]) := by show _ = _; rw [listTo, hq]; rfl
        clear hq
        go_wp2_with (at_builtin; refine wpList_push rfl (.tmp 19) (.tmp 21) _ rfl w.heap.size 3 i0 _ 1 8 Try.underlying32 hi hz0 hz1 hz2 rfl (by omega) _ _ _ rfl hown.out 1 1 #[.int .i64 (k : Int)] rfl rfl (by simp [Value.oneCell']) (by omega) (by unfold maxLen; omega) (by omega) hsz ?_; intro g' cap' w1 hown1 _ hb1 _ _ _)
        have hown2 : Hid (w1.ownsRow w.heap.size 3 1 (.slice (some ⟨g', 0, none⟩) ((listTo s k).length + 1) cap') (listTo s (k + 1)).length (ints (listTo s (k + 1)))) := by
          rw [HL.out, ints_append, List.length_append, List.length_singleton]; exact hown1
        have hb2 := hb.trans hb1
        clear hown1 hb1 hb
        go_wp2
        go_roundw
        case rel => exact ⟨k + 1, by omega, by go_num, hown2, hb2⟩
        case measure => simp [intOf]; omega
    · obtain rfl : k = n := by omega
      go_wp2
      go_ret
      exact ⟨A1, c1, rfl, R1, hc1, hb⟩

set_option maxRecDepth 100000 in
theorem lwins_any (s : Nat) (A : Option Addr) (B n c : Nat) (vs : List Int) (w : World) (h : RI w B A n vs) (hB : B ≤ w.heap.size) (hok : Ok vs) (hs : s < 2 ^ n) :
    Calls Try.prog 21 #[.slice A n c, .int .i64 s] w fun e w' => e = .returned (.bool (winsB vs s)) ∧ Below w.heap.size w w' := by
  have hl := h.len
  subst hl
  have h16 := hok.2.1
  have hs2 := two_pow_lt _ h16
  have HS := hide hs
  have hs3 : s < 9223372036854775808 := by omega
  clear hs hs2
  have hll := listTo_len s vs.length
  go_enter Try.func21, Try.ntmps21
  go_wp2_with fail
  refine (copied_any A _ c vs _ (Reads.more h hB) (by omega)).mono ?_
  rintro e w2 ⟨rfl, rfl⟩
  have R2 : RI (w.alloc (.cells (ints vs).toArray 3)) (w.alloc (.cells (ints vs).toArray 3)).heap.size (some ⟨w.heap.size, 0, none⟩) vs.length vs := Reads.of_own (own_of_alloc w 3 (ints vs) vs.length (ints_len vs) (by unfold maxLen; omega))
  go_wp2_with fail
  refine (list_any s vs.length _ hs3 h16).mono ?_
  rintro e w3 ⟨A3, c3, rfl, R3, hc3, hb3⟩
  have R2' := Reads.more (Reads.below R2 hb3) hb3.size
  go_wp2_with fail
  refine (prog_quorate _ _ _ _ _ _ vs (listTo s vs.length) _ R2' R3 (by omega) (by omega)).mono ?_
  rintro e w4 ⟨rfl, hb4⟩
  have hp := quo_some hok (pack_list s vs.length HS.out)
  rw [hp.1, hp.2]
  clear hp
  have H4 : Below w.heap.size w w4 := (((Below.refl w.heap.size w).alloc (Nat.le_refl _) _).trans (hb3.mono (by simp))).trans (hb4.mono (by have := hb3.size; simp at this; omega))
  cases hq : winsB vs s
  all_goals
    have HQ := hide hq
    clear hq
    go_wp2_with fail
    go_ret
    exact ⟨ret_bool HQ.out.symm, H4⟩
end Go.Proofs.Yteckffndboiknaa
