/-
  Contract of the reference's State.after: one event, as playN. (Printed by wip/tools/mkafter.py.)
-/
import Derived.Test.YtkcjfiifajjpiaaRSplit
import Derived.Maps.RangeWalk
set_option linter.unusedVariables false
set_option linter.unusedSimpArgs false
namespace Go.Proofs.Ytkcjfiifajjpiaa
open Go.RowKit Go.WideShapes Go.ChangeShapes Q

theorem up1_same {α : Type} {f : Nat → α} {i : Nat} {v : α} (h : f i = v) : up1 f i v = f := by
  funext k
  unfold up1
  split
  · rename_i e; subst e; exact h.symm
  · rfl
theorem net_up {y : Net} {i : Nat} {v : Bool} (h : y.up i = v) : { y with up := up1 y.up i v } = y := by
  rw [up1_same h]
/-- Is it a node that is up? -/
def upN (n : Nat) (y : Net) (a : Int) : Bool := isNode n a && y.up a.toNat
def pathB (n : Nat) (a b : Int) : Bool := isNode n a && isNode n b && (a != b)
theorem pathB_yes {n : Nat} {a b : Int} (h : isPath n a b) : pathB n a b = true := by
  have := isPath_of.1 h
  unfold pathB
  simp [this.1, this.2.1, this.2.2]
theorem pathB_no {n : Nat} {a b : Int} (h : ¬ isPath n a b) : pathB n a b = false := by
  rw [Bool.eq_false_iff]
  intro hh
  apply h
  rw [isPath_of]
  unfold pathB at hh
  simpa [and_assoc] using hh

end Go.Proofs.Ytkcjfiifajjpiaa
