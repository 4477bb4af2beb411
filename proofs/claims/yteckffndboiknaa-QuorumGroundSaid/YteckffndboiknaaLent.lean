/-
  Contracts of the law's helpers lent (a list with 64 marks behind it) and kept (are they there still).
-/
import Derived.Test.YteckffndboiknaaLists
set_option linter.unusedVariables false
namespace Go.Proofs.Yteckffndboiknaa
open Go.RowKit Go.WideShapes Go.ChangeShapes Q

/-- The marks -700, -701, .. -/
def marks (k : Nat) : List Int := (List.range k).map fun (i : Nat) => (-700 : Int) - (i : Int)
theorem marks_succ (k : Nat) : marks (k + 1) = marks k ++ [-700 - (k : Int)] := by simp [marks, List.range_succ]
theorem marks_len (k : Nat) : (marks k).length = k := by simp [marks]
theorem ints_append (a b : List Int) : ints (a ++ b) = ints a ++ ints b := by simp [ints]
theorem ints_len (a : List Int) : (ints a).length = a.length := by simp [ints]

/-- A fresh block of just these cells is a row of the call's own. -/
theorem own_of_alloc (w : World) (e : TypeId) (xs : List Value) (n : Nat) (h : xs.length = n) (hn : n ≤ maxLen) : (w.alloc (.cells xs.toArray e)).ownsRow w.heap.size e 1 (.slice (some ⟨w.heap.size, 0, none⟩) n n) n xs := by
  subst h
  refine ⟨by omega, .inr ⟨w.heap.size, xs.length, xs.toArray, rfl, Nat.le_refl _, heap_alloc_new w _, Nat.le_refl _, hn, by simp, by simp⟩⟩

set_option maxRecDepth 100000 in
theorem lent_any (A : Option Addr) (n c : Nat) (vs : List Int) (w : World) (h : RI w w.heap.size A n vs) (hn : n * 8 ≤ 140737488351232) :
    Calls Try.prog 22 #[.slice A n c] w fun e w' => ∃ g cap, e = .returned (.slice (some ⟨g, 0, none⟩) (n + 64) cap) ∧ w'.ownsRow w.heap.size 3 1 (.slice (some ⟨g, 0, none⟩) (n + 64) cap) (n + 64) (ints (vs ++ marks 64)) ∧ Below w.heap.size w w' := by
  obtain ⟨i0, hi, hz0, hz1, hz2⟩ := info_parts info3
  have hl := hide h.len
  go_enter Try.func22, Try.ntmps22
  go_wp2_with (go_at_call 20; refine (copied_any A n c vs _ h (by omega)).mono ?_; rintro e w' ⟨rfl, rfl⟩)
  have hlen : (ints vs).length = n := by rw [ints_len]; exact hl.out
  have hown0 := own_of_alloc w 3 (ints vs) n hlen (by unfold maxLen; omega)
  have HO := hide hown0
  clear hown0 hlen
  go_loopw [3, 4] (fun v i wr => ∃ (k : Nat) (g cap : Nat), k ≤ 64 ∧ i = .int .i64 k ∧ v = .slice (some ⟨g, 0, none⟩) (n + k) cap ∧ Hid (wr.ownsRow w.heap.size 3 1 (.slice (some ⟨g, 0, none⟩) (n + k) cap) (n + k) (ints (vs ++ marks k))) ∧ Below w.heap.size w wr) (fun _ i _ => 64 - (intOf i).toNat)
  case atStart => exact ⟨0, w.heap.size, n, by omega, rfl, rfl, by have := HO.out; show World.ownsRow _ _ _ _ _ _ _; simpa [marks] using this, (Below.refl _ _).alloc (Nat.le_refl _) _⟩
  case round =>
    obtain ⟨k, g, cap, hk, rfl, rfl, hown, hb⟩ := hrel
    have hs := hb.size
    by_cases hlt : k < 64
    · go_wp2_with (at_builtin; refine wpList_push rfl (.tmp 11) (.tmp 14) _ rfl w.heap.size 3 i0 _ 1 8 Try.underlying32 hi hz0 hz1 hz2 rfl (by omega) _ (n + k) _ rfl hown.out 1 1 #[.int .i64 (-700 - (k : Int))] rfl rfl (by simp [Value.oneCell']) (by omega) (by unfold maxLen; omega) (by omega) hs ?_; intro g' cap' w1 hown1 _ hb1 _ _ _)
      have hown2 : Hid (w1.ownsRow w.heap.size 3 1 (.slice (some ⟨g', 0, none⟩) (n + (k + 1)) cap') (n + (k + 1)) (ints (vs ++ marks (k + 1)))) := by
        rw [marks_succ, ← List.append_assoc, ints_append]
        exact hown1
      have hb2 := hb.trans hb1
      clear hown1 hb1 hb
      go_wp2
      go_roundw
      case rel => exact ⟨k + 1, g', cap', by omega, by go_num, rfl, hown2, hb2⟩
      case measure => simp [intOf]; omega
    · obtain rfl : k = 64 := by omega
      go_wp2
      go_ret
      exact ⟨g, cap, rfl, hown.out, hb⟩

theorem RI.front {w : World} {B n m : Nat} {A : Option Addr} {vs us : List Int} (h : RI w B A (n + m) (vs ++ us)) (hv : vs.length = n) : RI w B A n vs := by
  refine ⟨by rw [ints_len]; omega, fun hn => ?_⟩
  obtain ⟨ad, hA, hb, hc⟩ := h.2 (by omega)
  refine ⟨ad, hA, hb, fun j u hu => hc j u ?_⟩
  rw [ints_append, List.getElem?_append_left]
  · exact hu
  · exact (List.getElem?_eq_some_iff.1 hu).1
theorem nth_back (vs us : List Int) (n k : Nat) (h : vs.length = n) : nth (vs ++ us) (n + k) = nth us k := by
  subst h
  simp [nth, List.getD, List.getElem?_append_right]
theorem nth_marks (k n : Nat) (h : k < n) : nth (marks n) k = -700 - (k : Int) := by
  simp [nth, marks, h]

set_option maxRecDepth 100000 in
theorem kept_true (A A' : Option Addr) (B B' n c d : Nat) (vs : List Int) (w : World) (h : RI w B A (n + 64) (vs ++ marks 64)) (hc : n + 64 ≤ c) (h' : RI w B' A' n vs) (hn : n ≤ 17592186044416) :
    Calls Try.prog 27 #[.slice A (n + 64) c, .slice A' n d] w fun e w' => e = .returned (.bool true) ∧ ∃ m, w' = w.drewN m := by
  have hl := hide h'.len
  obtain ⟨ad, rfl, hb, _⟩ := h.at_ (k := 0) (by omega)
  have hfr := h.front hl.out
  go_enter Try.func27, Try.ntmps27
  go_wp2
  go_loop [6] (fun i => ∃ k : Nat, k ≤ 64 ∧ i = .int .i64 k) (fun i => 64 - (intOf i).toNat)
  case atStart => exact ⟨0, by omega, rfl⟩
  case round =>
    obtain ⟨k, hk, rfl⟩ := hrel
    by_cases hlt : k < 64
    · obtain ⟨ad', had, _, hcell⟩ := h.at_ (k := n + k) (by omega)
      obtain rfl : ad = ad' := by injection had
      rw [nth_back _ _ _ _ hl.out, nth_marks k 64 hlt] at hcell
      clear had
      go_wp2
      go_round
      case rel => exact ⟨k + 1, by omega, by go_num⟩
      case measure => simp [intOf]; omega
    · obtain rfl : k = 64 := by omega
      go_wp2_with fail
      refine (same_true _ _ B B' n _ _ vs _ hfr h' (by omega)).mono ?_
      rintro e w' ⟨rfl, m, rfl⟩
      go_wp2_with fail
      go_ret
      exact ⟨rfl, m, rfl⟩
end Go.Proofs.Yteckffndboiknaa
