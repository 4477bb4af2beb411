/-
  QuorumSets, the walk: whatever votes and set come in, the law returns true, and nothing that was there has changed.
-/
import Derived.Test.YteckffndboiknaaQuorate
set_option linter.unusedVariables false
namespace Go.Proofs.Yteckffndboiknaa
open Go.RowKit Go.WideShapes Go.ChangeShapes Q

theorem own_cap {w : World} {base : Nat} {e : TypeId} {size n g cap : Nat} {xs : List Value} (h : w.ownsRow base e size (.slice (some ⟨g, 0, none⟩) n cap) n xs) : n ≤ cap ∧ base ≤ g ∧ g < w.heap.size := by
  obtain ⟨_, h6⟩ := h
  rcases h6 with ⟨h6, _⟩ | ⟨g', cap', cur, e', hg, hh, hc, r⟩
  · cases h6
  · injection e' with e1 e2 e3
    injection e1 with e1
    injection e1 with e1
    subst e1 e3
    exact ⟨hc, hg, Blk.lt (t := e) (cs := cur) hh⟩
theorem blk2 {w : World} {g : Nat} {t : TypeId} {a b : Value} (h : Blk w g t #[a, b]) : w.cell? ⟨g, 0, none⟩ = some a ∧ w.cell? ⟨g, 1, none⟩ = some b := by
  have c0 := h.cell 0
  have c1 := h.cell 1
  simpa using ⟨c0, c1⟩

set_option maxRecDepth 100000 in
set_option maxHeartbeats 1000000 in
theorem sets_walk (A A' : Option Addr) (n c m d : Nat) (vs ss : List Int) (w : World) (h : RI w w.heap.size A n vs) (h' : RI w w.heap.size A' m ss) (hn : n * 8 ≤ 140737488351232) (hm : m * 8 ≤ 140737488351232) :
    Calls Try.prog 6 #[.agg #[.slice A n c, .slice A' m d]] w fun e w' => e = .returned (.bool true) ∧ Below w.heap.size w w' := by
  have hl := hide h.len
  have hl' := hide h'.len
  have H0 : Below w.heap.size w (w.alloc (.cells #[.slice A n c, .slice A' m d] 42)) := (Below.refl _ _).alloc (Nat.le_refl _) _
  have B0 : Blk (w.alloc (.cells #[.slice A n c, .slice A' m d] 42)) w.heap.size 42 #[.slice A n c, .slice A' m d] := Blk.new _ _ _
  go_enter Try.func6, Try.ntmps6
  go_wp2_with fail
  refine (lent_any A n c vs _ ((Reads.below h H0).more H0.size) hn).mono ?_
  rintro e w1 ⟨g1, cap1, rfl, hown1, hb1⟩
  have H1 := H0.trans (hb1.mono H0.size)
  have B1 := B0.below hb1 B0.lt
  obtain ⟨x1, y1⟩ := blk2 B1
  have R1 : RI w1 w1.heap.size (some ⟨g1, 0, none⟩) (n + 64) (vs ++ marks 64) := Reads.of_own hown1
  have k1 := (own_cap hown1).1
  go_wp2_with fail
  refine (lent_any A' m d ss _ ((Reads.below h' H1).more H1.size) hm).mono ?_
  rintro e w2 ⟨g2, cap2, rfl, hown2, hb2⟩
  have H2 := H1.trans (hb2.mono H1.size)
  have B2 := B1.below hb2 B1.lt
  clear x1 y1
  obtain ⟨x2, y2⟩ := blk2 B2
  have R1 := Reads.below R1 hb2
  have R2 : RI w2 w2.heap.size (some ⟨g2, 0, none⟩) (m + 64) (ss ++ marks 64) := Reads.of_own hown2
  have k2 := (own_cap hown2).1
  go_wp2_with fail
  refine (check_any _ _ _ vs _ ((Reads.more (RI.front R1 hl.out) hb2.size)) (by omega)).mono ?_
  rintro e w3 ⟨rfl, hb3⟩
  have H3 := H2.trans (hb3.mono H2.size)
  have B3 := B2.below hb3 B2.lt
  clear x2 y2
  obtain ⟨x3, y3⟩ := blk2 B3
  have R1 := Reads.below (Reads.more R1 hb2.size) hb3
  have R2 := Reads.below R2 hb3
  go_wp2_with fail
  refine (prog_quorate _ _ _ _ _ _ vs ss _ ((Reads.more (RI.front R1 hl.out) hb3.size)) ((Reads.more (RI.front R2 hl'.out) hb3.size)) (by omega) (by omega)).mono ?_
  rintro e w4 ⟨rfl, hb4⟩
  have H4 := H3.trans (hb4.mono H3.size)
  have B4 := B3.below hb4 B3.lt
  clear x3 y3
  obtain ⟨x4, y4⟩ := blk2 B4
  have R1 := Reads.below (Reads.more R1 hb3.size) hb4
  have R2 := Reads.below (Reads.more R2 hb3.size) hb4
  have V4 := Reads.below h H4
  have S4 := Reads.below h' H4
  go_wp2_with fail
  refine (refQuorate_any _ _ w.heap.size _ _ _ _ vs ss _ V4 S4 (by omega) (by omega)).mono ?_
  rintro e w5 ⟨rfl, rfl⟩
  go_wp2_with fail
  go_quiet (first | (go_at_call 17; exact quiet_left (num_any _ _)) | (go_at_call 26; exact quiet_left (refCheck_any _ w.heap.size _ _ vs _ V4 (by omega))) | (go_at_call 27; exact Calls.quiet_of (kept_true _ _ w3.heap.size w.heap.size _ _ _ vs _ R1 k1 V4 (by omega))) | (go_at_call 27; exact Calls.quiet_of (kept_true _ _ w3.heap.size w.heap.size _ _ _ ss _ R2 k2 S4 (by omega))))
  go_wp2_with fail
  go_ret
  exact ⟨rfl, below_drewN H4 _⟩
end Go.Proofs.Yteckffndboiknaa
