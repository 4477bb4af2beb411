/-
  A guarded operation with its value; the law's num. Plain: one line more is one event more; what is passed over, and blanks at a line's ends, change nothing.
-/
import Derived.Test.YtcibcmfaebbhnaaDoorZRun
import Derived.Test.YtcibcmfaebbhnaaDoorZHdp
import Derived.Test.YtcibcmfaebbhnaaDoorZSev
set_option linter.unusedVariables false
set_option linter.unusedSimpArgs false
namespace Go.Proofs.YtcibcmfaebbhnaaDoor
open Go.RowKit Go.WideShapes Go.ChangeShapes Q
theorem wpList_gvalue {P : Program} {ops : Array Oper} {rest : List Oper} {o : Oper} {a : Act} {V : World} {Q : Exit → Act → World → Prop} (hw : Region.wanted o (yielded ops a.tmps) = true) (v : Value) (he : (execOp a.eval o).run P V = .ok (.value v) V)
    (h : wpList P ops Q rest (a.put o.dst v) V) : wpList P ops Q (o :: rest) a V := by
  refine wpList_step (fun K hK => ?_)
  rw [if_pos hw]
  unfold Oper.wp
  rw [he]
  exact hK _ _ h
end Go.Proofs.YtcibcmfaebbhnaaDoor
set_option linter.unusedVariables false
set_option linter.unusedSimpArgs false
namespace Go.Proofs.YtcibcmfaebbhnaaDoor
open Go.RowKit Go.WideShapes Go.ChangeShapes Q
/-- A text, and one behind its end of line. -/
theorem lin_app : ∀ (a cur b : List UInt8), linG cur (a ++ 10 :: b) = linG cur (a ++ [10]) ++ linG [] b
  | [], cur, b => by
    show linG cur (10 :: b) = linG cur [10] ++ linG [] b
    rw [linG, linG, if_pos (by decide), if_pos (by decide)]
    rfl
  | c :: a, cur, b => by
    rw [List.cons_append, List.cons_append, linG, linG]
    split
    · rw [lin_app a [] b]
      rfl
    · exact lin_app a _ b
theorem keep_app (a b : List UInt8) : keepL (a ++ 10 :: b) = keepL (a ++ [10]) ++ keepL b := by
  unfold keepL
  rw [lin_app, List.filter_append]
/-- A text that is empty or ends with an end of line. -/
def EndNl (x : List UInt8) : Prop := x = [] ∨ ∃ a, x = a ++ [10]
theorem keep_end {x : List UInt8} (h : EndNl x) (b : List UInt8) : keepL (x ++ b) = keepL x ++ keepL b := by
  rcases h with rfl | ⟨a, rfl⟩
  · rfl
  · rw [List.append_assoc, List.singleton_append, keep_app]
def q1L : List UInt8 := [113, 117, 111, 114, 97, 116, 101, 32, 49]
def q2L : List UInt8 := [32, 110, 111, 100, 101, 115, 32, 50, 32, 119, 105, 110, 100, 111, 119, 32, 49, 32, 98, 97, 115, 101, 32, 49, 32, 115, 116, 101, 112, 32, 49, 32, 99, 97, 112, 32, 49, 32, 114, 111, 111, 109, 32, 57, 32, 102, 108, 111, 111, 114, 32, 51, 32]
def q3L : List UInt8 := [118, 111, 116, 101, 115, 32, 48, 32, 49]
theorem w2 : wordsG true q2L = some [([110, 111, 100, 101, 115], false), ([50], false), ([119, 105, 110, 100, 111, 119], false), ([49], false), ([98, 97, 115, 101], false), ([49], false), ([115, 116, 101, 112], false), ([49], false), ([99, 97, 112], false), ([49], false), ([114, 111, 111, 109], false), ([57], false), ([102, 108, 111, 111, 114], false), ([51], false)] := by decide +kernel
theorem w3 : wordsG true q3L = some [(votes8, false), ([48], false), ([49], false)] := by decide +kernel
theorem w1 : wordsG true q1L = some [(quor, false), ([49], false)] := by decide +kernel
theorem topJ_first : firstB q1L = true := by
  unfold firstB
  rw [w1]
  rfl
end Go.Proofs.YtcibcmfaebbhnaaDoor
