/-
  A list of marks in memory; the reference's SameMarks. (Printed by wip/tools/mkmarks.py.)
-/
import Derived.Test.YtenebkkfjalcaaaDoorSam
set_option linter.unusedVariables false
set_option linter.unusedSimpArgs false
namespace Go.Proofs.YtenebkkfjalcaaaDoor
open Go.RowKit Go.WideShapes Go.ChangeShapes Q

def mkCells (l : List Mk) : List Value := l.flatMap fun m => m.cs.toList
theorem mk_size (m : Mk) : m.cs.size = 26 := rfl
theorem mkCells_len (l : List Mk) : (mkCells l).length = l.length * 26 := by
  induction l with
  | nil => rfl
  | cons a l ih =>
    have : mkCells (a :: l) = a.cs.toList ++ mkCells l := rfl
    rw [this, List.length_append, ih, List.length_cons]
    have : a.cs.toList.length = 26 := rfl
    omega
theorem mkCells_at : ∀ (l : List Mk) (k i : Nat) (m : Mk), l[k]? = some m → i < 26 → (mkCells l)[k * 26 + i]? = m.cs[i]?
  | [], k, i, m, h, _ => by simp at h
  | a :: l, 0, i, m, h, hi => by
    simp at h
    subst h
    have : mkCells (a :: l) = a.cs.toList ++ mkCells l := rfl
    rw [this, Nat.zero_mul, Nat.zero_add, List.getElem?_append_left (by have : a.cs.toList.length = 26 := rfl; omega), Array.getElem?_toList]
  | a :: l, k + 1, i, m, h, hi => by
    have ih := mkCells_at l k i m (by simpa using h) hi
    have e : mkCells (a :: l) = a.cs.toList ++ mkCells l := rfl
    have hl : a.cs.toList.length = 26 := rfl
    rw [e, List.getElem?_append_right (by omega), hl, show (k + 1) * 26 + i - 26 = k * 26 + i by omega]
    exact ih
/-- A list of marks in memory. -/
structure MsIn (w : World) (B : Nat) (A : Option Addr) (n : Nat) (l : List Mk) : Prop where
  row : Reads w B 26 A n (mkCells l)
  ent : ∀ m ∈ l, MkIn w B m
theorem MsIn.len {w : World} {B n : Nat} {A : Option Addr} {l : List Mk} (h : MsIn w B A n l) : l.length = n := by
  have := h.row.1
  rw [mkCells_len] at this
  omega
theorem MsIn.at_ {w : World} {B n k : Nat} {A : Option Addr} {l : List Mk} (h : MsIn w B A n l) (hk : k < n) :
    ∃ b off m, A = some ⟨b, off, none⟩ ∧ b < B ∧ l[k]? = some m ∧ MkIn w B m ∧ ∀ i, i < 26 → w.cell? ⟨b, off + k * 26 + i, none⟩ = m.cs[i]? := by
  obtain ⟨ad, e, hb, hc⟩ := h.row.2 (by omega)
  have hl := h.len
  have hm : l[k]? = some (l[k]'(by omega)) := List.getElem?_eq_getElem _
  obtain ⟨b, off, spot⟩ := ad
  have hm0 : l[0]? = some (l[0]'(by omega)) := List.getElem?_eq_getElem _
  have h0 := mkCells_at l 0 0 _ hm0 (by omega)
  have hs : spot = none := by
    have hz : (mkCells l)[0]? = some ((l[0]'(by omega)).cs[0]'(by rw [mk_size]; omega)) := by rw [Nat.zero_mul] at h0; rw [h0]; rfl
    have := World.cell?_spot (hc _ _ hz)
    simpa [Addr.add] using this
  subst hs
  refine ⟨b, off, _, e, hb, hm, h.ent _ (List.mem_of_getElem? hm), fun i hi => ?_⟩
  have h1 := mkCells_at l k i _ hm hi
  have h2 : (l[k]'(by omega)).cs[i]? = some ((l[k]'(by omega)).cs[i]'(by rw [mk_size]; exact hi)) := Array.getElem?_eq_getElem _
  have h3 := hc _ _ (h1.trans h2)
  rw [h2, ← h3]
  congr 1
  unfold Addr.add
  split
  · rename_i h0; simp <;> omega
  · simp <;> omega
end Go.Proofs.YtenebkkfjalcaaaDoor
