/-
  Plain: how an event is written, by the program and by the document.
-/
import Derived.Test.YtcibcmfaebbhnaaDoorZEvp
import Derived.Test.YtcibcmfaebbhnaaDoorZQuo
set_option linter.unusedVariables false
set_option linter.unusedSimpArgs false
namespace Go.Proofs.YtcibcmfaebbhnaaDoor
open Go

/-- One thing of an event, as it is written. -/
def ltT (e : Ev) : Lt → List UInt8
  | .P => Lib.itoa e.a
  | .K => Lib.itoa e.a
  | .Q => Lib.itoa e.b
  | .N => Lib.itoa e.n
  | .D => Lib.itoa e.n
  | .T => quoteL e.bd
  | .X => quoteL e.bd
/-- A command's words. -/
def askW (e : Ev) : List (List UInt8) := opL.getD (e.op.toNat - 1) [] :: quoteL e.key :: ((if e.val ≠ [] ∨ e.old ≠ [] then [quoteL e.val] else []) ++ (if e.old ≠ [] then [quoteL e.old] else []))
/-- The words of an event's line: as the program writes them. -/
def lineW (e : Ev) : List (List UInt8) :=
  if e.kd = 4 then [100, 111] :: Lib.itoa e.a :: (if 1 ≤ e.op ∧ e.op ≤ 9 then askW e else [])
  else if e.kd = 11 then [115, 112, 108, 105, 116] :: e.sd.map Lib.itoa
  else match formL.find? (fun f => f.2.1 == e.kd) with
    | some f => f.1 :: f.2.2.map (ltT e)
    | none => []
def lineT (e : Ev) : List UInt8 := Lib.join (lineW e) [32]
/-- As the document writes them: no command, no line. -/
def writT (e : Ev) : List UInt8 := if e.kd = 4 ∧ ¬ (1 ≤ e.op ∧ e.op ≤ 9) then [] else lineT e
noncomputable instance : DecidableEq Ev := fun _ _ => Classical.propDecidable _
/-- What is written, where reading it gives the event back. -/
noncomputable def printE (nodes : Int) (e : Ev) : List UInt8 × Int :=
  if 1 ≤ nodes ∧ nodes ≤ 16 then (if writT e ≠ [] ∧ lineE nodes (writT e) = e then (writT e, 0) else ([], 24)) else ([], 1)
theorem itoa_plain (nl : Bool) (x : Int) : Lib.itoa x ≠ [] ∧ ∀ q ∈ Lib.itoa x, plnB nl q = true := by
  have hd : ∀ n, Lib.decDigits n ≠ [] ∧ ∀ q ∈ Lib.decDigits n, plnB nl q = true := fun n => by
    have h := dec_facts n
    refine ⟨h.1, fun q hq => ?_⟩
    have h1 := h.2.1
    rw [List.all_eq_true] at h1
    have h2 := of_decide_eq_true (h1 q hq)
    have e1 : (q.toNat == 32) = false := by rw [beq_eq_false_iff_ne]; omega
    have e2 : (q.toNat == 9) = false := by rw [beq_eq_false_iff_ne]; omega
    have e3 : (q.toNat == 34) = false := by rw [beq_eq_false_iff_ne]; omega
    have e4 : (q.toNat == 10) = false := by rw [beq_eq_false_iff_ne]; omega
    unfold plnB blk
    rw [e1, e2, e3, e4]
    cases nl <;> rfl
  unfold Lib.itoa
  split
  · refine ⟨by simp, fun q hq => ?_⟩
    rcases List.mem_cons.1 hq with rfl | hq
    · cases nl <;> decide
    · exact (hd _).2 q hq
  · exact hd _
/-- A command without its word is read as no event. -/
theorem do_bad (nodes : Int) (x : Int) : lineE nodes ([100, 111] ++ 32 :: Lib.itoa x) = Ev.zero := by
  have h := itoa_plain true x
  have hw : wordsG true ([100, 111] ++ 32 :: Lib.itoa x) = some [([100, 111], false), (Lib.itoa x, false)] := by
    rw [wds_sep (by simp) (by intro q hq; simp only [List.mem_cons, List.mem_nil_iff, or_false] at hq; rcases hq with rfl | rfl <;> decide) (by decide), wds_last h.1 h.2]
    rfl
  unfold lineE
  rw [hw]
  split
  · show (eventE nodes.toNat [([100, 111], false), (Lib.itoa x, false)]).getD Ev.zero = Ev.zero
    have : eventE nodes.toNat [([100, 111], false), (Lib.itoa x, false)] = none := by
      rfl
    rw [this]
    rfl
  · rfl
/-- The program's line and the document's are held against the event with one result. -/
theorem print_prog (nodes : Int) (e : Ev) : printE nodes e = if 1 ≤ nodes ∧ nodes ≤ 16 then (if lineT e ≠ [] ∧ lineE nodes (lineT e) = e then (lineT e, 0) else ([], 24)) else ([], 1) := by
  unfold printE
  by_cases h : e.kd = 4 ∧ ¬ (1 ≤ e.op ∧ e.op ≤ 9)
  · have h1 : writT e = [] := by unfold writT; rw [if_pos h]
    have h2 : lineT e = [100, 111] ++ 32 :: Lib.itoa e.a := by
      unfold lineT lineW
      rw [if_pos h.1, if_neg h.2, Lib.join_cons]
      simp [Lib.joinTail]
    have h3 : ¬ (lineT e ≠ [] ∧ lineE nodes (lineT e) = e) := by
      rintro ⟨_, h4⟩
      rw [h2, do_bad] at h4
      have := congrArg Ev.kd h4
      rw [h.1] at this
      cases this
    rw [h1]
    rw [if_neg (show ¬ (([] : List UInt8) ≠ [] ∧ lineE nodes [] = e) from fun h => h.1 rfl), if_neg h3]
  · have h1 : writT e = lineT e := by unfold writT; rw [if_neg h]
    rw [h1]
end Go.Proofs.YtcibcmfaebbhnaaDoor
