/-
  Contracts of the law's helpers everybody, piece and kept; rows of ints and of bytes, told by the type of their block.
-/
import Derived.Test.YtkcjfiifajjpiaaPlainA
set_option linter.unusedVariables false
set_option linter.unusedSimpArgs false
namespace Go.Proofs.Ytkcjfiifajjpiaa
open Go.RowKit Go.WideShapes Go.ChangeShapes Q

theorem info3 : (Try.prog.info? 3).map (fun i => (i.zero, i.size, i.bytes)) = some (some (.int .i64 0), 1, 8) := by kernel_rfl
theorem ints_append (a b : List Int) : ints (a ++ b) = ints a ++ ints b := by simp [ints]
theorem ints_len (a : List Int) : (ints a).length = a.length := by simp [ints]
theorem ints_one (a : List Int) : ∀ u ∈ ints a, u.oneCell' = true := by
  intro u hu
  simp only [ints, List.mem_map] at hu
  obtain ⟨x, _, rfl⟩ := hu
  rfl
theorem byts_len (a : List Int) : (byts a).length = a.length := by simp [byts]
theorem byts_one (a : List Int) : ∀ u ∈ byts a, u.oneCell' = true := by
  intro u hu
  simp only [byts, List.mem_map] at hu
  obtain ⟨x, _, rfl⟩ := hu
  rfl

/-- A slice that reads as a list, in a block of the type t. -/
def RN (t : TypeId) (w : World) (A : Option Addr) (n : Nat) (xs : List Value) : Prop :=
  xs.length = n ∧ (0 < n → ∃ (g off : Nat) (cs : Array Value), A = some ⟨g, off, none⟩ ∧ Blk w g t cs ∧ ∀ j, j < n → cs[off + j]? = xs[j]?)
section
variable {S : Nat → Prop} {w w' : World} {t : TypeId} {A : Option Addr} {n m : Nat} {xs ys : List Value}
theorem RN.st (h : RN t w A n xs) (ht : Num35 t) (hs : St S w w') : RN t w' A n xs := by
  refine ⟨h.1, fun hn => ?_⟩
  obtain ⟨g, off, cs, e, hb, hc⟩ := h.2 hn
  exact ⟨g, off, cs, e, hs.byt g t cs ht hb, hc⟩
theorem RN.reads (h : RN t w A n xs) {B : Nat} (hB : w.heap.size ≤ B) : Reads w B 1 A n xs := by
  refine ⟨by have := h.1; omega, fun hn => ?_⟩
  obtain ⟨g, off, cs, rfl, hb, hc⟩ := h.2 hn
  refine ⟨_, rfl, Nat.lt_of_lt_of_le hb.lt hB, fun j v hv => ?_⟩
  have hj : j < n := by rw [← h.1]; exact (List.getElem?_eq_some_iff.1 hv).1
  have e : (⟨g, off, none⟩ : Addr).add j = ⟨g, off + j, none⟩ := by
    unfold Addr.add
    split
    · rename_i h0; subst h0; rfl
    · rfl
  rw [e, hb.cell]
  exact (hc j hj).trans hv
theorem RN.of_own {base : Nat} {c : Nat} (h : w.ownsRow base t 1 (.slice A n c) n xs) : RN t w A n xs := by
  refine ⟨by have := h.1; omega, fun hn => ?_⟩
  rcases h.2 with ⟨e, e2⟩ | ⟨g, cap, cur, e, hb, hg, hc, hm, hs, ht⟩
  · simp at e; omega
  · simp at e
    refine ⟨g, 0, cur, e.1, hg, fun j hj => ?_⟩
    have h1 : cur[0 + j]? = cur.toList[j]? := by simp
    rw [h1, ← ht, List.getElem?_take, if_pos (by omega)]
theorem RN.front (h : RN t w A (n + m) (xs ++ ys)) (hx : xs.length = n) : RN t w A n xs := by
  refine ⟨hx, fun hn => ?_⟩
  obtain ⟨g, off, cs, e, hb, hc⟩ := h.2 (by omega)
  refine ⟨g, off, cs, e, hb, fun j hj => ?_⟩
  rw [hc j (by omega), List.getElem?_append_left (by omega)]
end

theorem own_some {w : World} {base : Nat} {e : TypeId} {size n : Nat} {v : Value} {xs : List Value} (h : w.ownsRow base e size v n xs) (hn : 0 < n) :
    ∃ g cap cur, v = .slice (some ⟨g, 0, none⟩) n cap ∧ base ≤ g ∧ w.heap[g]? = some (.cells cur e (0, 0)) ∧ n ≤ cap ∧ cap ≤ maxLen ∧ cur.size = cap * size ∧ cur.toList.take (n * size) = xs := by
  rcases h.2 with ⟨_, h0⟩ | h1
  · omega
  · exact h1
/-- The marks -7, -8, .. -/
def marks (k : Nat) : List Int := (List.range k).map fun (i : Nat) => (-7 : Int) - (i : Int)
theorem marks_succ (k : Nat) : marks (k + 1) = marks k ++ [-7 - (k : Int)] := by simp [marks, List.range_succ]
theorem marks_len (k : Nat) : (marks k).length = k := by simp [marks]
theorem nth_back (vs us : List Int) (n k : Nat) (h : vs.length = n) : nth (vs ++ us) (n + k) = nth us k := by
  subst h
  simp [nth, List.getD, List.getElem?_append_right]
theorem nth_front (vs us : List Int) (k : Nat) (h : k < vs.length) : nth (vs ++ us) k = nth vs k := by
  simp [nth, List.getD, List.getElem?_append_left h]
theorem nth_marks (k n : Nat) (h : k < n) : nth (marks n) k = -7 - (k : Int) := by
  simp [nth, marks, h]

set_option maxRecDepth 100000 in
theorem everybody_any (n : Nat) (w : World) (hn : n ≤ 1000000) :
    Calls Try.prog 20 #[.int .i64 n] w fun e w' => ∃ v, e = .returned v ∧ w'.ownsRow w.heap.size 3 1 v n (ints (upto n)) ∧ St (fun _ => False) w w' := by
  obtain ⟨i0, hi, hz0, hz1, hz2⟩ := info_parts info3
  have HIN := hide hi
  clear hi
  go_enter Try.func20, Try.ntmps20
  go_wp2
  go_loopw [3, 4] (fun v i wr => ∃ (k : Nat), k ≤ n ∧ i = .int .i64 k ∧ Hid (wr.ownsRow w.heap.size 3 1 v k (ints (upto k))) ∧ Hid (Below w.heap.size w wr)) (fun _ i _ => n - (intOf i).toNat)
  case atStart => exact ⟨0, Nat.zero_le _, rfl, World.ownsRow_nil _ _ _ _, Below.refl _ _⟩
  case round =>
    obtain ⟨k, hk, rfl, hown, hb⟩ := hrel
    have hs := hb.out.size
    by_cases hlt : k < n
    · have i1 : (k : Int) < (n : Int) := by omega
      go_wp2_with (at_builtin; refine wpList_push rfl (.tmp 10) (.tmp 12) _ rfl w.heap.size 3 i0 _ 1 8 Try.underlying22 HIN.out hz0 hz1 hz2 rfl (by omega) _ k _ rfl hown.out 1 1 #[.int .i64 (k : Int)] rfl rfl (by simp [Value.oneCell']) (by omega) (by unfold maxLen; omega) (by omega) hs ?_; intro g' cap' w1 hown1 _ hb1 _ _ _)
      have hown2 : Hid (w1.ownsRow w.heap.size 3 1 (.slice (some ⟨g', 0, none⟩) (k + 1) cap') (k + 1) (ints (upto (k + 1)))) := by
        rw [upto_succ, ints_append]
        exact hown1
      have hb2 := hide (hb.out.trans hb1)
      clear hown1 hb1 hb
      go_wp2
      go_roundw
      case rel => exact ⟨k + 1, by omega, by go_num, hown2, hb2⟩
      case measure => simp [intOf]; omega
    · obtain rfl : k = n := by omega
      go_wp2
      go_ret
      exact ⟨_, rfl, hown.out, St.of_below hb.out (Nat.le_refl _)⟩

set_option maxRecDepth 100000 in
theorem piece_any (A : Option Addr) (n c B : Nat) (vs : List Int) (w : World) (h : RI w B A n vs) (hn : n * 8 ≤ 140737488351232) :
    Calls Try.prog 26 #[.slice A n c] w fun e w' => ∃ g cap, e = .returned (.slice (some ⟨g, 0, none⟩) (n + 64) cap) ∧ n + 64 ≤ cap ∧ RN 3 w' (some ⟨g, 0, none⟩) (n + 64) (ints (vs ++ marks 64)) ∧ St (fun _ => False) w w' := by
  obtain ⟨i0, hi, hz0, hz1, hz2⟩ := info_parts info3
  have HIN := hide hi
  have HR := hide h
  have HL := hide h.len
  clear hi h
  go_enter Try.func26, Try.ntmps26
  go_wp2_with (at_builtin; refine wpList_append_any _ rfl _ (.tmp 5) 22 rfl w.heap.size 3 i0 _ 1 8 Try.underlying22 HIN.out hz0 hz1 hz2 rfl (by omega) (.slice none 0 0) 0 [] rfl (World.ownsRow_nil _ _ _ _) B A n c (ints vs) rfl HR.out (ints_one vs) (by unfold maxLen; omega) (by omega) (Nat.le_refl _) ?_; intro v1 w1 hown1 hg1 _; have HO := hide hown1; have HG := hide ((Below.refl w.heap.size w).grown hg1 (Nat.le_refl _) (fun k e => by simp [Value.ownBlock] at e)); clear hown1 hg1)
  go_loopw [3, 4] (fun v i wr => ∃ (k : Nat), k ≤ 64 ∧ i = .int .i64 k ∧ Hid (wr.ownsRow w.heap.size 3 1 v (n + k) (ints (vs ++ marks k))) ∧ Hid (Below w.heap.size w wr)) (fun _ i _ => 64 - (intOf i).toNat)
  case atStart => exact ⟨0, by omega, rfl, by have := HO.out; show World.ownsRow _ _ _ _ _ _ _; simpa [marks] using this, HG⟩
  case round =>
    obtain ⟨k, hk, rfl, hown, hb⟩ := hrel
    have hs := hb.out.size
    by_cases hlt : k < 64
    · go_wp2_with (at_builtin; refine wpList_push rfl (.tmp 11) (.tmp 14) _ rfl w.heap.size 3 i0 _ 1 8 Try.underlying22 HIN.out hz0 hz1 hz2 rfl (by omega) _ (n + k) _ rfl hown.out 1 1 #[.int .i64 (-7 - (k : Int))] rfl rfl (by simp [Value.oneCell']) (by omega) (by unfold maxLen; omega) (by omega) hs ?_; intro g' cap' w1 hown1 _ hb1 _ _ _)
      have hown2 : Hid (w1.ownsRow w.heap.size 3 1 (.slice (some ⟨g', 0, none⟩) (n + k + 1) cap') (n + (k + 1)) (ints (vs ++ marks (k + 1)))) := by
        rw [marks_succ, ← List.append_assoc, ints_append]
        exact hown1
      have hb2 := hide (hb.out.trans hb1)
      clear hown1 hb1 hb
      go_wp2
      go_roundw
      case rel => exact ⟨k + 1, by omega, by go_num, hown2, hb2⟩
      case measure => simp [intOf]; omega
    · obtain rfl : k = 64 := by omega
      obtain ⟨g, cap, cur, e, hge, hgg, hc, rest⟩ := own_some hown.out (by omega)
      subst e
      go_wp2
      go_ret
      exact ⟨g, cap, rfl, hc, RN.of_own hown.out, St.of_below hb.out (Nat.le_refl _)⟩

set_option maxRecDepth 100000 in
theorem kept_any (g cap n d B : Nat) (A' : Option Addr) (vs : List Int) (w : World) (h : RN 3 w (some ⟨g, 0, none⟩) (n + 64) (ints (vs ++ marks 64))) (hc : n + 64 ≤ cap) (h' : RI w B A' n vs) (hn : n ≤ 17592186044416) :
    Calls Try.prog 28 #[.slice (some ⟨g, 0, none⟩) (n + 64) cap, .slice A' n d] w fun e w' => e = .returned (.bool true) ∧ ∃ m, w' = w.drewN m := by
  have HL := hide h'.len
  have HF : Hid (∀ j, j < n + 64 → w.cell? ⟨g, j, none⟩ = some (.int .i64 (nth (vs ++ marks 64) j))) := by
    intro j hj
    have hR : RI w w.heap.size (some ⟨g, 0, none⟩) (n + 64) (vs ++ marks 64) := h.reads (Nat.le_refl _)
    obtain ⟨ad, e, _, hcc⟩ := hR.at_ hj
    obtain rfl : ad = ⟨g, 0, none⟩ := by injection e with e; exact e.symm
    have e2 : (⟨g, 0, none⟩ : Addr).add j = ⟨g, j, none⟩ := by
      unfold Addr.add
      split
      · rename_i h0; subst h0; rfl
      · simp
    rw [e2] at hcc
    exact hcc
  have HR := hide h'
  clear h h'
  go_enter Try.func28, Try.ntmps28
  go_wp2
  go_loopw [5] (fun i wr => ∃ k : Nat, k ≤ n ∧ i = .int .i64 k ∧ ∃ m, wr = w.drewN m) (fun i _ => n - (intOf i).toNat)
  case atStart => exact ⟨0, Nat.zero_le _, rfl, 0, rfl⟩
  case round =>
    obtain ⟨k, hk, rfl, m, rfl⟩ := hrel
    by_cases hlt : k < n
    · have hc1 := HF.out k (by omega)
      rw [nth_front _ _ _ (by rw [HL.out]; exact hlt)] at hc1
      obtain ⟨ad', rfl, _, hc'⟩ := HR.out.at_ hlt
      have h0 : (0 : Int) ≤ k := by omega
      have h1 : (k : Int) < n := by omega
      have h2 : (k : Int) < (n : Int) + 64 := by omega
      go_wp2
      go_quiet (fail)
      go_wp2
      go_roundw
      case rel => exact ⟨k + 1, by omega, by go_num, _, rfl⟩
      case measure => simp [intOf]; omega
    · obtain rfl : k = n := by omega
      go_wp2
      go_loopw [6] (fun i wr => ∃ j : Nat, j ≤ 64 ∧ i = .int .i64 j ∧ wr = w.drewN m) (fun i _ => 64 - (intOf i).toNat)
      case atStart => exact ⟨0, by omega, rfl, rfl⟩
      case round =>
        obtain ⟨j, hj, rfl, rfl⟩ := hrel
        by_cases hlt2 : j < 64
        · have hc1 := HF.out (k + j) (by omega)
          rw [nth_back _ _ _ _ HL.out, nth_marks j 64 hlt2] at hc1
          have h0 : (0 : Int) ≤ j := by omega
          go_wp2
          go_roundw
          case rel => exact ⟨j + 1, by omega, by go_num, trivial⟩
          case measure => simp [intOf]; omega
        · obtain rfl : j = 64 := by omega
          go_wp2
          go_ret
          exact ⟨rfl, m, rfl⟩
end Go.Proofs.Ytkcjfiifajjpiaa
