/-
  Contracts of the small functions: num, abs, pid, tag, count, with, has, last, flying.
-/
import Derived.Test.YtkkckinnhkpcmaaMem
import Derived.Test.YtkkckinnhkpcmaaRows
set_option linter.unusedVariables false
namespace Go.Proofs.Ytkkckinnhkpcmaa
open Go.RowKit Go.WideShapes Go.ChangeShapes Q

/-- The cells of a Mux. -/
structure Tg where
  ep : Int
  lead : Int
  inc : Int
  cid : Int
def Tg.v (t : Tg) : Value := .agg #[.int .i64 t.ep, .int .i64 t.lead, .int .i64 t.inc, .int .i64 t.cid]
structure Mx where
  self : Int
  window : Nat
  room : Nat
  t : Tg
  pb : Nat
  ps : List (Option Nat)
def ptr : Option Nat → Value
  | none => .pointer none
  | some b => .pointer (some ⟨b, 0, none⟩)
def muxC (x : Mx) : Array Value := #[.int .i64 x.ps.length, .int .i64 x.self, .int .i64 x.window, .int .i64 x.room, .int .i64 x.t.ep, .int .i64 x.t.lead, .int .i64 x.t.inc, .int .i64 x.t.cid, .slice (some ⟨x.pb, 0, none⟩) x.ps.length x.ps.length]
/-- A Mux in memory (without its streams). -/
def MuxAt (w : World) (m : Nat) (x : Mx) : Prop := Blk w m 83 (muxC x) ∧ Blk w x.pb 72 (x.ps.map ptr).toArray ∧ x.window ≤ x.room ∧ x.room ≤ 20000 ∧ 1 ≤ x.window ∧ x.ps.length ≤ 16
def Mx.with_ (x : Mx) (p : Int) : Option Nat := if p < 0 then none else x.ps.getD p.toNat none
def absZ (n : Int) : Int := if n < 0 then -(n + 1) else n

theorem num_any (e : Int) (w : World) : Calls Try.prog 15 #[.int .i64 e] w fun r w' => r = .returned (.int .i64 e) ∧ w = w' := by
  go_enter Try.func15, Try.ntmps15
  go_wp2
  go_ret
  exact ⟨rfl, rfl⟩

theorem abs_any (n : Int) (w : World) (h0 : -9223372036854775808 ≤ n) (h1 : n ≤ 9223372036854775807) : Calls Try.prog 39 #[.int .i64 n] w fun r w' => r = .returned (.int .i64 (absZ n)) ∧ w = w' := by
  unfold absZ
  by_cases h : n < 0
  all_goals
    go_enter Try.func39, Try.ntmps39
    go_wp2
    go_ret
    exact ⟨rfl, rfl⟩

theorem pid_any (s : Nat) (w : World) (hs : s < 2) : Calls Try.prog 21 #[.int .i64 s] w fun r w' => r = .returned (.int .i64 (2 + 3 * (s : Int))) ∧ w = w' := by
  go_enter Try.func21, Try.ntmps21
  go_wp2
  go_ret
  exact ⟨by go_num, rfl⟩

def tg : Tg := ⟨3, 2, 4, 9⟩
theorem tag_any (w : World) : Calls Try.prog 27 #[] w fun r w' => r = .returned tg.v ∧ St (fun _ => False) w w' := by
  go_enter Try.func27, Try.ntmps27
  go_wp2
  refine bodyPost_ret (results_cell_row rfl _ _ w.heap.size 27 _ (0, 0) _ rfl (Blk.new _ _ _) Try.underlying27 rfl (by kernel_rfl)) rfl ?_
  exact ⟨rfl, (St.refl _ w).alloc _⟩

theorem count_any (v : Int) (w : World) : Calls Try.prog 45 #[.int .i64 v] w fun r w' => r = .returned (.bool (decide (1 ≤ v ∧ v ≤ 4611686018427387904))) ∧ w = w' := by
  by_cases h1 : 1 ≤ v <;> by_cases h2 : v ≤ 4611686018427387904
  all_goals
    go_enter Try.func45, Try.ntmps45
    go_wp2
    go_ret
    refine ⟨ret_bool ?_, rfl⟩
    simp [h1, h2]

theorem m9 {w : World} {g : Nat} {t : TypeId} {a0 a1 a2 a3 a4 a5 a6 a7 a8 : Value} (h : Blk w g t #[a0, a1, a2, a3, a4, a5, a6, a7, a8]) : w.cell? ⟨g, 0, none⟩ = some a0 ∧ w.cell? ⟨g, 1, none⟩ = some a1 ∧ w.cell? ⟨g, 2, none⟩ = some a2 ∧ w.cell? ⟨g, 3, none⟩ = some a3 ∧ w.cell? ⟨g, 4, none⟩ = some a4 ∧ w.cell? ⟨g, 5, none⟩ = some a5 ∧ w.cell? ⟨g, 6, none⟩ = some a6 ∧ w.cell? ⟨g, 7, none⟩ = some a7 ∧ w.cell? ⟨g, 8, none⟩ = some a8 :=
  ⟨h.cell 0, h.cell 1, h.cell 2, h.cell 3, h.cell 4, h.cell 5, h.cell 6, h.cell 7, h.cell 8⟩
theorem m6 {w : World} {g : Nat} {t : TypeId} {a0 a1 a2 a3 a4 a5 : Value} (h : Blk w g t #[a0, a1, a2, a3, a4, a5]) : w.cell? ⟨g, 0, none⟩ = some a0 ∧ w.cell? ⟨g, 1, none⟩ = some a1 ∧ w.cell? ⟨g, 2, none⟩ = some a2 ∧ w.cell? ⟨g, 3, none⟩ = some a3 ∧ w.cell? ⟨g, 4, none⟩ = some a4 ∧ w.cell? ⟨g, 5, none⟩ = some a5 :=
  ⟨h.cell 0, h.cell 1, h.cell 2, h.cell 3, h.cell 4, h.cell 5⟩
theorem MuxAt.peer {w : World} {m : Nat} {x : Mx} (h : MuxAt w m x) {k : Nat} (hk : k < x.ps.length) : w.cell? ⟨x.pb, k, none⟩ = some (ptr (x.ps.getD k none)) := by
  rw [h.2.1.cell k]
  simp [List.getD, List.getElem?_eq_getElem hk]

set_option maxRecDepth 100000 in
theorem with_any (m : Nat) (x : Mx) (p : Int) (w : World) (h : MuxAt w m x) : Calls Try.prog 41 #[.pointer (some ⟨m, 0, none⟩), .int .i64 p] w fun r w' => r = .returned (ptr (x.with_ p)) ∧ w = w' := by
  obtain ⟨m0, m1, m2, m3, m4, m5, m6, m7, m8⟩ := m9 h.1
  have hl := h.2.2.2.2.2
  by_cases h0 : p < 0
  · have hw : Hid (x.with_ p = none) := if_pos h0
    go_enter Try.func41, Try.ntmps41
    go_wp2
    go_ret
    rw [hw.out]
    exact ⟨rfl, rfl⟩
  · have hw : Hid (x.with_ p = x.ps.getD p.toNat none) := if_neg h0
    by_cases h1 : (x.ps.length : Int) ≤ p
    · have hw' : Hid (x.ps.getD p.toNat none = none) := by show _ = _; simp [List.getD, List.getElem?_eq_none (show x.ps.length ≤ p.toNat by omega)]
      go_enter Try.func41, Try.ntmps41
      go_wp2
      go_ret
      rw [hw.out, hw'.out]
      exact ⟨rfl, rfl⟩
    · obtain ⟨k, rfl⟩ : ∃ k : Nat, p = k := ⟨p.toNat, by omega⟩
      have hk : k < x.ps.length := by omega
      have hc := h.peer hk
      have i0 : (0 : Int) ≤ (k : Int) := by omega
      have i1 : (k : Int) < (x.ps.length : Int) := by omega
      rw [Int.toNat_natCast] at hw
      generalize x.ps.getD k none = q at hc hw
      generalize x.ps.length = n at *
      go_enter Try.func41, Try.ntmps41
      go_wp2
      go_ret
      rw [hw.out]
      exact ⟨rfl, rfl⟩
end Go.Proofs.Ytkkckinnhkpcmaa
