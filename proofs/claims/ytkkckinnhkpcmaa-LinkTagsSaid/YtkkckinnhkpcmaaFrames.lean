/-
  Contract of Mux.Frames where the peer is one.
-/
import Derived.Test.YtkkckinnhkpcmaaOwed
set_option linter.unusedVariables false
namespace Go.Proofs.Ytkkckinnhkpcmaa
open Go.RowKit Go.WideShapes Go.ChangeShapes Q

/-- A frame. -/
structure Fr where
  t : Tg
  seq : Int
  body : List Int
def frL (f : Fr) (v : Value) : List Value := (frC f.t f.seq v).toList
def frAll (fs : List Fr) (vs : List Value) : List Value := (fs.zip vs).flatMap fun p => frL p.1 p.2
/-- Frames in a row of their own, with bodies; the row is S's. -/
def FRow (w : World) (S : Nat → Prop) (v : Value) (fs : List Fr) : Prop := ∃ vs, w.ownsRow 0 57 6 v fs.length (frAll fs vs) ∧ Bods w vs (fs.map (·.body)) ∧ ∀ g, v.ownBlock = some g → S g
/-- The first k frames that a stream shows. -/
def framesTo (t : Tg) (x : Str) (k : Nat) : List Fr := (List.range k).map fun (i : Nat) => ⟨t, x.first + (i : Int), x.out.getD i []⟩
theorem framesTo_len (t : Tg) (x : Str) (k : Nat) : (framesTo t x k).length = k := by simp [framesTo]
theorem framesTo_succ (t : Tg) (x : Str) (k : Nat) : framesTo t x (k + 1) = framesTo t x k ++ [⟨t, x.first + (k : Int), x.out.getD k []⟩] := by
  simp [framesTo, List.range_succ]
theorem frAll_snoc {fs : List Fr} {vs : List Value} (h : vs.length = fs.length) (f : Fr) (v : Value) : frAll (fs ++ [f]) (vs ++ [v]) = frAll fs vs ++ frL f v := by
  unfold frAll
  rw [List.zip_append h.symm]
  simp
theorem frL_one {f : Fr} {v : Value} (hv : v.oneCell' = true) : ∀ u ∈ frL f v, u.oneCell' = true := by
  intro u hu
  simp only [frL, frC, List.mem_cons, List.not_mem_nil, or_false] at hu
  rcases hu with rfl | rfl | rfl | rfl | rfl | rfl
  all_goals first | rfl | exact hv
theorem FRow.nil (w : World) (S : Nat → Prop) : FRow w S (.slice none 0 0) [] := ⟨[], World.ownsRow_nil w 0 57 6, Bods.nil w, fun g hg => by simp [Value.ownBlock] at hg⟩
theorem info57 : (Try.prog.info? 57).map (fun i => (i.size, i.bytes)) = some (6, 64) := by kernel_rfl
end Go.Proofs.Ytkkckinnhkpcmaa
