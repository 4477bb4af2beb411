/-
  Plain facts on the reference's lists; numbers in a block read as a list.
-/
import Derived.Test.YtenebkkfjalcaaaDoorKnd
set_option linter.unusedVariables false
set_option linter.unusedSimpArgs false
namespace Go.Proofs.YtenebkkfjalcaaaDoor
open Go.RowKit Go.WideShapes Go.ChangeShapes Q

theorem okC_nat {x : Int} (h : okC x = true) : ∃ n : Nat, x = (n : Int) ∧ n ≤ 4611686018427387904 := by
  unfold okC at h
  have := of_decide_eq_true h
  exact ⟨x.toNat, by omega, by omega⟩
def triL (l : List (Int × Int × Int)) (k : Nat) : List UInt8 := slashL [(pidA l k).toNat, (incA l k).toNat, (cidA l k).toNat]
/-- The members' part, k of them. -/
def memL (l : List (Int × Int × Int)) : Nat → List UInt8
  | 0 => []
  | k + 1 => memL l k ++ (if k = 0 then [32, 109, 101, 109, 98, 101, 114, 115, 61] else [44]) ++ triL l k
def traL (l : List Int) : Nat → List UInt8
  | 0 => []
  | k + 1 => traL l k ++ (if k = 0 then [32, 116, 114, 97, 110, 115, 61] else [44]) ++ Lib.decDigits (nth l k).toNat
def idL (ep ld ii ci : Int) : List UInt8 := if ep = 0 ∧ ld = 0 ∧ ii = 0 ∧ ci = 0 then [] else [32, 105, 100, 61] ++ slashL [ep.toNat, ld.toNat, ii.toNat, ci.toNat]
theorem tri_len (x y z : Nat) (hx : x ≤ 4611686018427387904) (hy : y ≤ 4611686018427387904) (hz : z ≤ 4611686018427387904) : (slashL [x, y, z]).length ≤ 60 := by
  have := slash_len [x, y, z] (by intro a ha; simp at ha; rcases ha with rfl | rfl | rfl <;> omega) 3 (by simp)
  simpa using this
theorem ri_of_blk {W : World} {g : Nat} {l : List Int} (h : Blk W g 3 (ints l).toArray) : RI W W.heap.size (some ⟨g, 0, none⟩) l.length l :=
  ⟨by simp [ints], fun _ => ⟨_, rfl, h.lt, fun j u hu => by
    have := h.cell j
    rw [show (⟨g, 0, none⟩ : Addr).add j = ⟨g, j, none⟩ by simp [Addr.add]; try exact fun e => e.symm, this]
    simpa using hu⟩⟩
theorem mem_len (l : List (Int × Int × Int)) (h : ∀ k, k < l.length → ∃ x y z : Nat, pidA l k = x ∧ incA l k = y ∧ cidA l k = z ∧ x ≤ 4611686018427387904 ∧ y ≤ 4611686018427387904 ∧ z ≤ 4611686018427387904) : ∀ k, k ≤ l.length → (memL l k).length ≤ 70 * k
  | 0, _ => by simp [memL]
  | k + 1, hk => by
    have h1 := mem_len l h k (by omega)
    obtain ⟨x, y, z, ex, ey, ez, hx, hy, hz⟩ := h k (by omega)
    have h2 := tri_len x y z hx hy hz
    rw [memL, List.length_append, List.length_append, triL, ex, ey, ez]
    simp only [Int.toNat_natCast]
    split <;> simp <;> omega

end Go.Proofs.YtenebkkfjalcaaaDoor
