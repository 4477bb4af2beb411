/-
  Contracts of the law's helpers on lists: copied, same, lent, kept.
-/
import Derived.Test.YteckffndboiknaaRef
namespace Go.Proofs.Yteckffndboiknaa
open Go.RowKit Go.WideShapes Go.ChangeShapes Q

theorem info3 : (Try.prog.info? 3).map (fun i => (i.zero, i.size, i.bytes)) = some (some (.int .i64 0), 1, 8) := by kernel_rfl

theorem same_true (A A' : Option Addr) (B B' n c d : Nat) (vs : List Int) (w : World) (h : RI w B A n vs) (h' : RI w B' A' n vs) (hn : n ≤ 17592186044480) :
    Calls Try.prog 49 #[.slice A n c, .slice A' n d] w fun e w' => e = .returned (.bool true) ∧ ∃ m, w' = w.drewN m := by
  go_enter Try.func49, Try.ntmps49
  go_wp2
  go_loopw [5] (fun i wr => ∃ k : Nat, k ≤ n ∧ i = .int .i64 k ∧ ∃ m, wr = w.drewN m) (fun i _ => n - (intOf i).toNat)
  case atStart => exact ⟨0, Nat.zero_le _, rfl, 0, rfl⟩
  case round =>
    obtain ⟨k, hk, rfl, m, rfl⟩ := hrel
    by_cases hlt : k < n
    · obtain ⟨ad, rfl, _, hc⟩ := h.at_ hlt
      obtain ⟨ad', rfl, _, hc'⟩ := h'.at_ hlt
      have h0 : (0 : Int) ≤ k := by omega
      have h1 : (k : Int) < n := by omega
      go_wp2
      go_quiet (fail)
      go_wp2
      go_roundw
      case rel => exact ⟨k + 1, by omega, by go_num, _, rfl⟩
      case measure => simp [intOf]; omega
    · go_wp2
      go_ret
      exact ⟨rfl, _, rfl⟩

def zeros (n : Nat) : Array Value := madeCells #[.int .i64 0] n
theorem run_make_ints (n : Nat) (hn : n ≤ 17592186044416) (W : World) :
    (Instr.makeSlice 32 (.int .i64 (n : Int)) (.int .i64 (n : Int))).run Try.prog W = .ok (.slice (some ⟨W.heap.size, 0, none⟩) n n) (W.alloc (.cells (zeros n) 3)) := by
  obtain ⟨i0, hi, hz0, hz1, hz2⟩ := info_parts info3
  have := run_make_rowN (P := Try.prog) 32 3 i0 (.int .i64 0) Try.underlying32 hi hz0 .i64 .i64 n n (Nat.le_refl _) (by rw [hz2]; omega) (by omega) W
  rw [hz1, Nat.mul_one] at this
  exact this
theorem zeros_size (n : Nat) : (zeros n).size = n := by
  unfold zeros
  simp [madeCells]

theorem ints_array_eq (vs : List Int) (C : Array Value) (hs : C.size = vs.length) (h : ∀ j, j < vs.length → C[j]? = some (.int .i64 (nth vs j))) : C = (ints vs).toArray := by
  apply Array.ext'
  apply List.ext_getElem?
  intro j
  by_cases hj : j < vs.length
  · have h1 := h j hj
    rw [Array.getElem?_toList, h1]
    simp only [ints, List.getElem?_map, nth, List.getD]
    rw [List.getElem?_eq_getElem hj]
    rfl
  · rw [List.getElem?_eq_none (by simp [hs]; omega), List.getElem?_eq_none (by simp [ints]; omega)]

theorem copied_any (A : Option Addr) (n c : Nat) (vs : List Int) (w : World) (h : RI w w.heap.size A n vs) (hn : n ≤ 17592186044416) :
    Calls Try.prog 20 #[.slice A n c] w fun e w' => e = .returned (.slice (some ⟨w.heap.size, 0, none⟩) n n) ∧ w.alloc (.cells (ints vs).toArray 3) = w' := by
  have hmk := run_make_ints n hn
  have hl := hide h.len
  go_enter Try.func20, Try.ntmps20
  go_wp2
  clear hmk
  go_loopw [4] (fun i wr => ∃ (k : Nat) (C : Array Value), k ≤ n ∧ i = .int .i64 k ∧ wr = w.alloc (.cells C 3) ∧ Hid (C.size = n ∧ ∀ j, j < k → C[j]? = some (.int .i64 (nth vs j)))) (fun i _ => n - (intOf i).toNat)
  case atStart => exact ⟨0, zeros n, Nat.zero_le _, rfl, rfl, zeros_size n, fun j hj => absurd hj (by omega)⟩
  case round =>
    obtain ⟨k, C, hk, rfl, rfl, hC⟩ := hrel
    by_cases hlt : k < n
    · obtain ⟨ad, rfl, hb, hc⟩ := h.at_ hlt
      have hc' : ∀ o, (w.alloc o).cell? (ad.add k) = some (.int .i64 (nth vs k)) := fun o => (World.cell?_alloc_lt w o _ (by rw [block_of_add]; exact hb)).trans hc
      obtain ⟨v0, hv0⟩ : ∃ v0, C[k]? = some v0 := ⟨C[k]'(by have := hC.out.1; omega), Array.getElem?_eq_getElem _⟩
      go_wp2
      go_roundw
      case rel =>
        refine ⟨k + 1, _, by omega, by go_num, rfl, by simp [hC.out.1], fun j hj => ?_⟩
        by_cases e : j = k
        · subst e
          rw [Array.getElem?_setIfInBounds_self_of_lt (by have := hC.out.1; omega)]
        · rw [Array.getElem?_setIfInBounds_ne (by omega)]
          exact hC.out.2 j (by omega)
      case measure => simp [intOf]; omega
    · obtain rfl : k = n := by omega
      go_wp2
      go_ret
      exact ⟨rfl, by rw [ints_array_eq vs C (by rw [hC.out.1, hl.out]) (fun j hj => hC.out.2 j (by have := hl.out; omega))]⟩
end Go.Proofs.Yteckffndboiknaa
