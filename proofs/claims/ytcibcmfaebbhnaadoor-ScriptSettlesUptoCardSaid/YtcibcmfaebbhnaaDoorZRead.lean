/-
  Plain functions that read: strings in their own form, counts, pieces; and what they read of what was written.
-/
import Derived.Lib.ItoaNum
import Derived.Lib.Join
set_option linter.unusedVariables false
set_option linter.unusedSimpArgs false
namespace Go.Proofs.YtcibcmfaebbhnaaDoor
open Go
/-- A digit's worth. -/
def nib (c : UInt8) : Option Nat := if 48 ≤ c.toNat ∧ c.toNat ≤ 57 then some (c.toNat - 48) else if 97 ≤ c.toNat ∧ c.toNat ≤ 102 then some (c.toNat - 87) else none
theorem nib_lt {c : UInt8} {x : Nat} (h : nib c = some x) : x < 16 := by
  unfold nib at h
  split at h
  · injection h with h; omega
  · split at h
    · injection h with h; omega
    · cases h
/-- One step of what stands inside a string: its end, one byte and what is left, or none. -/
inductive QS where
  | stop (rest : List UInt8)
  | byte (b : UInt8) (rest : List UInt8)
  | bad
/-- Behind \\x: two digits. -/
def qhex : List UInt8 → QS
  | h :: l :: r =>
    match nib h, nib l with
    | some x, some y => .byte (UInt8.ofNat (16 * x + y)) r
    | _, _ => .bad
  | _ => .bad
/-- Behind a backslash. -/
def qesc : List UInt8 → QS
  | [] => .bad
  | d :: r => if d.toNat = 34 ∨ d.toNat = 92 then .byte d r else if d.toNat = 120 then qhex r else .bad
def qstep : List UInt8 → QS
  | [] => .bad
  | c :: r => if c.toNat = 34 then .stop r else if c.toNat < 32 ∨ 126 < c.toNat then .bad else if c.toNat ≠ 92 then .byte c r else qesc r
theorem qhex_lt {l : List UInt8} {b : UInt8} {r : List UInt8} (h : qhex l = .byte b r) : r.length + 2 = l.length := by
  match l, h with
  | [], h => cases h
  | [_], h => cases h
  | x :: y :: r', h =>
    rw [qhex] at h
    cases hx : nib x with
    | none => simp [hx] at h
    | some a =>
      cases hy : nib y with
      | none => simp [hx, hy] at h
      | some b' =>
        simp only [hx, hy] at h
        injection h with h1 h2
        subst h2
        simp
theorem qhex_stop {l r : List UInt8} (h : qhex l = .stop r) : False := by
  match l, h with
  | [], h => cases h
  | [_], h => cases h
  | x :: y :: r', h =>
    rw [qhex] at h
    cases hx : nib x with
    | none => simp [hx] at h
    | some a =>
      cases hy : nib y with
      | none => simp [hx, hy] at h
      | some b' => simp [hx, hy] at h
theorem qesc_lt {l : List UInt8} {b : UInt8} {r : List UInt8} (h : qesc l = .byte b r) : r.length < l.length := by
  match l, h with
  | [], h => cases h
  | d :: r', h =>
    rw [qesc] at h
    split at h
    · injection h with h1 h2
      subst h2
      simp
    · split at h
      · have := qhex_lt h
        simp
        omega
      · cases h
theorem qesc_stop {l r : List UInt8} (h : qesc l = .stop r) : False := by
  match l, h with
  | [], h => cases h
  | d :: r', h =>
    rw [qesc] at h
    split at h
    · cases h
    · split at h
      · exact qhex_stop h
      · cases h
theorem qstep_stop {l r : List UInt8} (h : qstep l = .stop r) : r.length < l.length := by
  match l, h with
  | [], h => cases h
  | c :: r', h =>
    rw [qstep] at h
    split at h
    · injection h with h
      subst h
      simp
    · split at h
      · cases h
      · split at h
        · cases h
        · exact (qesc_stop h).elim
theorem qstep_byte {l : List UInt8} {b : UInt8} {r : List UInt8} (h : qstep l = .byte b r) : r.length < l.length := by
  match l, h with
  | [], h => cases h
  | c :: r', h =>
    rw [qstep] at h
    split at h
    · cases h
    · split at h
      · cases h
      · split at h
        · injection h with h1 h2
          subst h2
          simp
        · have := qesc_lt h
          simp
          omega
/-- What stands behind a string's first quote: the string, and what is left behind its last. -/
def unq (l : List UInt8) : Option (List UInt8 × List UInt8) :=
  match hq : qstep l with
  | .stop r => some ([], r)
  | .byte b r => (unq r).map fun p => (b :: p.1, p.2)
  | .bad => none
termination_by l.length
decreasing_by exact qstep_byte hq
theorem unq_eq (l : List UInt8) : unq l = match qstep l with
  | .stop r => some ([], r)
  | .byte b r => (unq r).map fun p => (b :: p.1, p.2)
  | .bad => none := by
  rw [unq]
  split <;> rename_i h <;> simp [h]
theorem unq_stop {l r : List UInt8} (h : qstep l = .stop r) : unq l = some ([], r) := by rw [unq_eq, h]
theorem unq_byte {l r : List UInt8} {b : UInt8} (h : qstep l = .byte b r) : unq l = (unq r).map fun p => (b :: p.1, p.2) := by rw [unq_eq, h]
theorem unq_bad {l : List UInt8} (h : qstep l = .bad) : unq l = none := by rw [unq_eq, h]
theorem unq_lt : ∀ (n : Nat) (l : List UInt8), l.length ≤ n → ∀ b r, unq l = some (b, r) → r.length < l.length
  | 0, l, hl, b, r, h => by
    have : l = [] := List.length_eq_zero_iff.1 (by omega)
    subst this
    rw [unq_bad (by rfl)] at h
    cases h
  | n + 1, l, hl, b, r, h => by
    cases hq : qstep l with
    | stop r1 =>
      rw [unq_stop hq] at h
      injection h with h
      injection h with h1 h2
      subst h2
      exact qstep_stop hq
    | byte b1 r1 =>
      rw [unq_byte hq] at h
      obtain ⟨p, hp, he⟩ := Option.map_eq_some_iff.1 h
      injection he with h1 h2
      have hlt := qstep_byte hq
      have := unq_lt n r1 (by omega) p.1 p.2 hp
      rw [← h2]
      omega
    | bad =>
      rw [unq_bad hq] at h
      cases h
end Go.Proofs.YtcibcmfaebbhnaaDoor
