/-
  Contracts of net.wire and touches; an event's cells.
-/
import Derived.Test.YtkcjfiifajjpiaaNewNet
set_option linter.unusedVariables false
set_option linter.unusedSimpArgs false
namespace Go.Proofs.Ytkcjfiifajjpiaa
open Go.RowKit Go.WideShapes Go.ChangeShapes Q

/-- An event as it lies in memory. -/
structure Ev where
  kind : Int
  a : Int
  b : Int
  n : Int
  body : Value
  c1 : Int
  c2 : Int
  c3 : Int
  c4 : Int
  k1 : Value
  k2 : Value
  k3 : Value
  sides : Value
abbrev evC (e : Ev) : Array Value := #[.int .i64 e.kind, .int .i64 e.a, .int .i64 e.b, .int .i64 e.n, e.body, .int .i64 e.c1, .int .i64 e.c2, .int .i64 e.c3, .int .i64 e.c4, e.k1, e.k2, e.k3, e.sides]
/-- Is it a path? -/
def isPath (n : Nat) (a b : Int) : Prop := 0 ≤ a ∧ 0 ≤ b ∧ a < n ∧ b < n ∧ a ≠ b

section
variable {w : World} {g : Nat} {t : TypeId} {a b c d e f h i j k l m n : Value}
theorem m13 (hb : Blk w g t #[a, b, c, d, e, f, h, i, j, k, l, m, n]) : w.cell? ⟨g, 0, none⟩ = some a ∧ w.cell? ⟨g, 1, none⟩ = some b ∧ w.cell? ⟨g, 2, none⟩ = some c ∧ w.cell? ⟨g, 3, none⟩ = some d ∧ w.cell? ⟨g, 4, none⟩ = some e ∧ w.cell? ⟨g, 5, none⟩ = some f ∧ w.cell? ⟨g, 6, none⟩ = some h ∧ w.cell? ⟨g, 7, none⟩ = some i ∧ w.cell? ⟨g, 8, none⟩ = some j ∧ w.cell? ⟨g, 9, none⟩ = some k ∧ w.cell? ⟨g, 10, none⟩ = some l ∧ w.cell? ⟨g, 11, none⟩ = some m ∧ w.cell? ⟨g, 12, none⟩ = some n :=
  ⟨hb.cell 0, hb.cell 1, hb.cell 2, hb.cell 3, hb.cell 4, hb.cell 5, hb.cell 6, hb.cell 7, hb.cell 8, hb.cell 9, hb.cell 10, hb.cell 11, hb.cell 12⟩
end

set_option maxRecDepth 100000 in
set_option maxHeartbeats 1000000 in
theorem wire_no (n : Nat) (L : Lay) (x : Net) (S : Nat → Prop) (ek ea eb en c1 c2 c3 c4 : Int) (vb k1 k2 k3 vs : Value) (w : World) (h : NetAt w S n L x) (hp : ¬ isPath n ea eb) (hn : n ≤ 16) :
    Calls Try.prog 40 #[.pointer (some ⟨L.nb, 0, none⟩), .agg #[.int .i64 ek, .int .i64 ea, .int .i64 eb, .int .i64 en, vb, .int .i64 c1, .int .i64 c2, .int .i64 c3, .int .i64 c4, k1, k2, k3, vs]] w fun e w' => e = .returned (.pointer none) ∧ St (fun _ => False) w w' := by
  have H0 : St (fun _ => False) w (w.alloc (.cells #[.int .i64 ek, .int .i64 ea, .int .i64 eb, .int .i64 en, vb, .int .i64 c1, .int .i64 c2, .int .i64 c3, .int .i64 c4, k1, k2, k3, vs] 45)) := (St.refl _ w).alloc _
  have B0 := Blk.new w 45 #[.int .i64 ek, .int .i64 ea, .int .i64 eb, .int .i64 en, vb, .int .i64 c1, .int .i64 c2, .int .i64 c3, .int .i64 c4, k1, k2, k3, vs]
  have N0 := h.quiet H0
  clear h
  go_enter Try.func40, Try.ntmps40
  go_wp2_with fail
  obtain ⟨w0, hw0⟩ : ∃ w0, w0 = w.alloc (.cells #[.int .i64 ek, .int .i64 ea, .int .i64 eb, .int .i64 en, vb, .int .i64 c1, .int .i64 c2, .int .i64 c3, .int .i64 c4, k1, k2, k3, vs] 45) := ⟨_, rfl⟩
  rw [← hw0] at H0 B0 N0 ⊢
  obtain ⟨z0, z1, z2, z3, _⟩ := m13 B0
  have y0 := N0.c0
  have HS := hide H0
  clear hw0 B0 N0 H0
  by_cases h1 : ea < 0
  · have d1 : decide (ea < 0) = true := decide_eq_true h1
    clear hp
    go_wp2_with fail
    go_quiet (fail)
    go_wp2_with fail
    go_ret
    exact ⟨rfl, HS.out.drewN _⟩
  · have d1 : decide (ea < 0) = false := decide_eq_false h1
    by_cases h2 : eb < 0
    · have d2 : decide (eb < 0) = true := decide_eq_true h2
      clear hp
      go_wp2_with fail
      go_quiet (fail)
      go_wp2_with fail
      go_ret
      exact ⟨rfl, HS.out.drewN _⟩
    · have d2 : decide (eb < 0) = false := decide_eq_false h2
      by_cases h3 : (n : Int) ≤ ea
      · have d3 : decide ((n : Int) ≤ ea) = true := decide_eq_true h3
        clear hp
        go_wp2_with fail
        go_quiet (fail)
        go_wp2_with fail
        go_ret
        exact ⟨rfl, HS.out.drewN _⟩
      · have d3 : decide ((n : Int) ≤ ea) = false := decide_eq_false h3
        by_cases h4 : (n : Int) ≤ eb
        · have d4 : decide ((n : Int) ≤ eb) = true := decide_eq_true h4
          clear hp
          go_wp2_with fail
          go_quiet (fail)
          go_wp2_with fail
          go_ret
          exact ⟨rfl, HS.out.drewN _⟩
        · have d4 : decide ((n : Int) ≤ eb) = false := decide_eq_false h4
          obtain rfl : ea = eb := by
            refine Classical.byContradiction fun h5 => hp ⟨?_, ?_, ?_, ?_, h5⟩ <;> omega
          have d5 : (ea == ea) = true := by simp
          clear hp
          go_wp2_with fail
          go_quiet (fail)
          go_wp2_with fail
          go_ret
          exact ⟨rfl, HS.out.drewN _⟩

set_option maxRecDepth 100000 in
set_option maxHeartbeats 1000000 in
theorem wire_yes (n i j : Nat) (L : Lay) (x : Net) (S : Nat → Prop) (ek en c1 c2 c3 c4 : Int) (vb k1 k2 k3 vs : Value) (w : World) (h : NetAt w S n L x) (hi : i < n) (hj : j < n) (hij : i ≠ j) (hn : n ≤ 16) :
    Calls Try.prog 40 #[.pointer (some ⟨L.nb, 0, none⟩), .agg #[.int .i64 ek, .int .i64 (i : Int), .int .i64 (j : Int), .int .i64 en, vb, .int .i64 c1, .int .i64 c2, .int .i64 c3, .int .i64 c4, k1, k2, k3, vs]] w fun e w' => e = .returned (.pointer (some ⟨L.row i, j * 2, none⟩)) ∧ St (fun _ => False) w w' := by
  have H0 : St (fun _ => False) w (w.alloc (.cells #[.int .i64 ek, .int .i64 (i : Int), .int .i64 (j : Int), .int .i64 en, vb, .int .i64 c1, .int .i64 c2, .int .i64 c3, .int .i64 c4, k1, k2, k3, vs] 45)) := (St.refl _ w).alloc _
  have B0 := Blk.new w 45 #[.int .i64 ek, .int .i64 (i : Int), .int .i64 (j : Int), .int .i64 en, vb, .int .i64 c1, .int .i64 c2, .int .i64 c3, .int .i64 c4, k1, k2, k3, vs]
  have N0 := h.quiet H0
  clear h
  go_enter Try.func40, Try.ntmps40
  go_wp2_with fail
  obtain ⟨w0, hw0⟩ : ∃ w0, w0 = w.alloc (.cells #[.int .i64 ek, .int .i64 (i : Int), .int .i64 (j : Int), .int .i64 en, vb, .int .i64 c1, .int .i64 c2, .int .i64 c3, .int .i64 c4, k1, k2, k3, vs] 45) := ⟨_, rfl⟩
  rw [← hw0] at H0 B0 N0 ⊢
  obtain ⟨z0, z1, z2, z3, _⟩ := m13 B0
  have y0 := N0.c0
  have y2 := N0.c2
  have yp := N0.cp hi
  have HS := hide H0
  have d1 : decide ((i : Int) < 0) = false := decide_eq_false (by omega)
  have d2 : decide ((j : Int) < 0) = false := decide_eq_false (by omega)
  have d3 : decide (n ≤ i) = false := decide_eq_false (by omega)
  have d4 : decide (n ≤ j) = false := decide_eq_false (by omega)
  have d5 : ((i : Int) == (j : Int)) = false := by rw [beq_eq_false_iff_ne]; omega
  have i0 : (0 : Int) ≤ (i : Int) := by omega
  have i1 : (i : Int) < (n : Int) := by omega
  have j0 : (0 : Int) ≤ (j : Int) := by omega
  have j1 : (j : Int) < (n : Int) := by omega
  clear hw0 B0 N0 H0
  go_wp2_with fail
  go_quiet (fail)
  go_wp2_with fail
  go_quiet (fail)
  go_wp2_with fail
  go_ret
  exact ⟨rfl, (HS.out.drewN _).drewN _⟩
end Go.Proofs.Ytkcjfiifajjpiaa
