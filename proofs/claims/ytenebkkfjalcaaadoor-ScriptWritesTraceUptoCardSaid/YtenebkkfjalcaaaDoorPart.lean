/-
  The reference's plain, slashed, counts.
-/
import Derived.Test.YtenebkkfjalcaaaDoorDig
import Derived.Lib.Join
set_option linter.unusedVariables false
set_option linter.unusedSimpArgs false
namespace Go.Proofs.YtenebkkfjalcaaaDoor
open Go.RowKit Go.WideShapes Go.ChangeShapes Q

/-- A part of a number that is not zero. -/
def plainL (nm : List UInt8) (n : Nat) : List UInt8 := if n = 0 then [] else [32] ++ nm ++ [61] ++ Lib.decDigits n
theorem size_lim {a b : List UInt8} (h : a.length + b.length ≤ 9223372036854775807) : ¬ 9223372036854775807 < (S a).size + (S b).size := by
  rw [S_size, S_size]
  omega

set_option maxRecDepth 100000 in
theorem plain_any (nm : List UInt8) (n : Nat) (w : World) (hn : n < 9223372036854775808) (hm : nm.length ≤ 1000) :
    Calls Tryd.prog 38 #[.string (S nm), .int .i64 n] w fun e w' => e = .returned (.string (S (plainL nm n))) ∧ Below w.heap.size w w' := by
  by_cases h : n = 0
  · subst h
    go_enter Tryd.func38, Tryd.ntmps38
    go_wp2_with fail
    go_ret
    exact ⟨rfl, Below.refl _ _⟩
  · have hP : plainL nm n = [32] ++ nm ++ [61] ++ Lib.decDigits n := if_neg h
    have HP := hide hP
    have HD := hide (dig_any n w hn)
    have hl := dec_len19 hn
    have hz : ((n : Int) == 0) = false := by rw [beq_eq_false_iff_ne]; omega
    have hz2 : ¬ (n : Int) = 0 := by omega
    have hs1 : ¬ 9223372036854775807 < 1 + (S nm).size := by rw [S_size]; omega
    have hs2 : ¬ 9223372036854775807 < 1 + (S nm).size + 1 := by rw [S_size]; omega
    have hs3 : ¬ 9223372036854775807 < 1 + (S nm).size + 1 + (S (Lib.decDigits n)).size := by rw [S_size, S_size]; omega
    clear hP h
    go_enter Tryd.func38, Tryd.ntmps38
    go_wp2_with (go_at_call 36; refine HD.out.mono ?_; rintro e w' ⟨rfl, hb⟩)
    go_ret
    refine ⟨?_, hb⟩
    rw [HP.out, ← S_append, ← S_append, ← S_append]
    rfl

/-- Numbers with a byte between. -/
def slashL (xs : List Nat) : List UInt8 := Lib.join (xs.map Lib.decDigits) [47]
theorem slash_snoc (xs : List Nat) (x : Nat) : slashL (xs ++ [x]) = (if xs = [] then [] else slashL xs ++ [47]) ++ Lib.decDigits x := by
  cases xs with
  | nil => simp [slashL, Lib.join_one]
  | cons a r =>
    rw [if_neg (by simp)]
    unfold slashL
    rw [List.cons_append, List.map_cons, List.map_cons, Lib.join_cons, Lib.join_cons, List.map_append]
    simp [Lib.joinTail, List.flatten_append]
theorem slash_len (xs : List Nat) (h : ∀ x ∈ xs, x < 9223372036854775808) : ∀ k, k ≤ xs.length → (slashL (xs.take k)).length ≤ 20 * k
  | 0, _ => by simp [slashL, Lib.join_nil]
  | k + 1, hk => by
    have h1 := slash_len xs h k (by omega)
    have h2 := dec_len19 (h xs[k] (List.getElem_mem (by omega)))
    rw [List.take_add_one, List.getElem?_eq_getElem (by omega), Option.toList_some, slash_snoc]
    split <;> simp <;> omega

set_option maxRecDepth 100000 in
set_option maxHeartbeats 1000000 in
theorem slashed_any (A : Option Addr) (B n c : Nat) (xs : List Nat) (w : World) (h : RI w B A n (xs.map fun x => ((x : Nat) : Int))) (hB : B ≤ w.heap.size) (hx : ∀ x ∈ xs, x < 9223372036854775808) (hn : n ≤ 1000000) :
    Calls Tryd.prog 40 #[.slice A n c] w fun e w' => e = .returned (.string (S (slashL xs))) ∧ Below w.heap.size w w' := by
  have hl := h.len
  rw [List.length_map] at hl
  have HX := hide hx
  have HL := hide hl
  have HR := hide h
  clear hx hl h
  go_enter Tryd.func40, Tryd.ntmps40
  go_upto_region 3 with fail
  go_loopw [3, 4] (fun s i wr => ∃ k : Nat, k ≤ n ∧ i = .int .i64 k ∧ s = .string (S (slashL (xs.take k))) ∧ Hid (Below w.heap.size w wr)) (fun _ i _ => n - (intOf i).toNat)
  case atStart => exact ⟨0, Nat.zero_le _, rfl, rfl, Below.refl _ _⟩
  case round =>
    obtain ⟨k, hk, rfl, rfl, hb⟩ := hrel
    by_cases hlt : k < n
    · obtain ⟨ad, rfl, hab, hc⟩ := RI.at_ (Reads.below HR.out (hb.out.mono hB)) hlt
      have hkx : k < xs.length := by have := HL.out; omega
      obtain ⟨x, hxe⟩ : ∃ x, x = xs[k] := ⟨_, rfl⟩
      have hnx : nth (xs.map fun x => ((x : Nat) : Int)) k = (x : Int) := by simp [nth, hkx, hxe]
      rw [hnx] at hc
      have hx9 : x < 9223372036854775808 := HX.out x (by rw [hxe]; exact List.getElem_mem hkx)
      have hst : slashL (xs.take (k + 1)) = (if xs.take k = [] then [] else slashL (xs.take k) ++ [47]) ++ Lib.decDigits x := by
        rw [List.take_add_one, List.getElem?_eq_getElem hkx, ← hxe]
        exact slash_snoc _ _
      have HST := hide hst
      have hsl : (slashL (xs.take k)).length ≤ 20000000 := by
        have := slash_len xs HX.out k (by omega)
        omega
      have h19 := dec_len19 hx9
      have k0 : (0 : Int) ≤ (k : Int) := by omega
      have kn : (k : Int) < (n : Int) := by omega
      have HD : Hid (∀ W, Calls Tryd.prog 36 #[.int .i64 x] W fun e w' => e = .returned (.string (S (Lib.decDigits x))) ∧ Below W.heap.size W w') := fun W => dig_any x W hx9
      obtain ⟨L, hL⟩ : ∃ L, L = slashL (xs.take k) := ⟨_, rfl⟩
      rw [← hL] at hsl HST ⊢
      have hsw : w.heap.size ≤ wr.heap.size := hb.out.size
      by_cases hk1 : 0 < k
      · have hne : xs.take k ≠ [] := by
          intro e
          have := congrArg List.length e
          rw [List.length_take, List.length_nil] at this
          omega
        rw [if_neg hne] at HST
        have hk1i : (0 : Int) < (k : Int) := by omega
        have hs1 : ¬ 9223372036854775807 < (S L).size + 1 := by rw [S_size]; omega
        have hs2 : ¬ 9223372036854775807 < (S L).size + 1 + (S (Lib.decDigits x)).size := by rw [S_size, S_size]; omega
        clear hxe hnx hst hL hne
        go_wp2_with (go_at_call 36; refine (HD.out _).mono ?_; rintro e w2 ⟨rfl, hb2⟩; have HB2 := hide hb2; clear hb2)
        go_roundw
        case rel => exact ⟨k + 1, by omega, by go_num, by rw [HST.out, ← S_append, ← S_append]; rfl, hb.out.trans (HB2.out.mono hsw)⟩
        case measure => simp [intOf]; omega
      · obtain rfl : k = 0 := by omega
        rw [if_pos (by simp)] at HST
        have hL0 : L = [] := by rw [hL]; rfl
        have hs2 : ¬ 9223372036854775807 < (S L).size + (S (Lib.decDigits x)).size := by rw [S_size, S_size]; omega
        have HL0 := hide hL0
        have hc0 : wr.cell? ad = some (.int .i64 (x : Int)) := by simpa [Addr.add] using hc
        clear hxe hnx hst hL hL0
        go_wp2_with (go_at_call 36; refine (HD.out _).mono ?_; rintro e w2 ⟨rfl, hb2⟩; have HB2 := hide hb2; clear hb2)
        go_roundw
        case rel => exact ⟨1, by omega, by go_num, by rw [HST.out, HL0.out, ← S_append], hb.out.trans (HB2.out.mono hsw)⟩
        case measure => simp [intOf]; omega
    · obtain hkn : k = n := by omega
      have hki : ¬ (k : Int) < (n : Int) := by omega
      clear hlt
      go_wp2_with fail
      go_ret
      refine ⟨?_, hb.out⟩
      rw [List.take_of_length_le (by have := HL.out; omega)]
      rfl
end Go.Proofs.YtenebkkfjalcaaaDoor
