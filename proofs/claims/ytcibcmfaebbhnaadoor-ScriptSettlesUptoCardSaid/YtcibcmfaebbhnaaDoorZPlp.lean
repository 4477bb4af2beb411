/-
  Plain: an event's line as the program's forms write it. (Printed by wip/tools/mkplp.py.)
-/
import Derived.Test.YtcibcmfaebbhnaaDoorZPak
import Derived.Test.YtcibcmfaebbhnaaDoorZRng
set_option linter.unusedVariables false
set_option linter.unusedSimpArgs false
namespace Go.Proofs.YtcibcmfaebbhnaaDoor
open Go.RowKit Go.WideShapes Go.ChangeShapes Q
/-- The words of one letter. -/
def ltW (e : Ev) (c : UInt8) : List (List UInt8) :=
  if c = 80 ∨ c = 75 then [Lib.itoa e.a]
  else if c = 81 then [Lib.itoa e.b]
  else if c = 78 ∨ c = 68 then [Lib.itoa e.n]
  else if c = 84 then [quoteL e.bd]
  else if c = 83 then e.sd.map Lib.itoa
  else if c = 79 then askL e
  else []
def rowW (e : Ev) (f : List UInt8 × Int × List UInt8) : List (List UInt8) := f.1 :: f.2.2.flatMap (ltW e)
set_option maxRecDepth 100000 in
theorem lineW_row (e : Ev) : lineW e = match formRows.find? (fun f => f.2.1 == e.kd) with | some f => rowW e f | none => [] := by
  obtain ⟨kd, a, b, n, cl, cn, rq, op, key, val, old, bd, sd⟩ := e
  by_cases h0 : kd = 0
  · subst h0
    simp [lineW, formRows, formL, rowW, ltW, ltT, askL, List.find?]
  by_cases h1 : kd = 1
  · subst h1
    simp [lineW, formRows, formL, rowW, ltW, ltT, askL, List.find?]
  by_cases h2 : kd = 2
  · subst h2
    simp [lineW, formRows, formL, rowW, ltW, ltT, askL, List.find?]
  by_cases h3 : kd = 3
  · subst h3
    simp [lineW, formRows, formL, rowW, ltW, ltT, askL, List.find?]
  by_cases h4 : kd = 4
  · subst h4
    simp [lineW, formRows, formL, rowW, ltW, ltT, askL, List.find?]
  by_cases h5 : kd = 5
  · subst h5
    simp [lineW, formRows, formL, rowW, ltW, ltT, askL, List.find?]
  by_cases h6 : kd = 6
  · subst h6
    simp [lineW, formRows, formL, rowW, ltW, ltT, askL, List.find?]
  by_cases h7 : kd = 7
  · subst h7
    simp [lineW, formRows, formL, rowW, ltW, ltT, askL, List.find?]
  by_cases h8 : kd = 8
  · subst h8
    simp [lineW, formRows, formL, rowW, ltW, ltT, askL, List.find?]
  by_cases h9 : kd = 9
  · subst h9
    simp [lineW, formRows, formL, rowW, ltW, ltT, askL, List.find?]
  by_cases h10 : kd = 10
  · subst h10
    simp [lineW, formRows, formL, rowW, ltW, ltT, askL, List.find?]
  by_cases h11 : kd = 11
  · subst h11
    simp [lineW, formRows, formL, rowW, ltW, ltT, askL, List.find?]
  by_cases h12 : kd = 12
  · subst h12
    simp [lineW, formRows, formL, rowW, ltW, ltT, askL, List.find?]
  by_cases h13 : kd = 13
  · subst h13
    simp [lineW, formRows, formL, rowW, ltW, ltT, askL, List.find?]
  by_cases h14 : kd = 14
  · subst h14
    simp [lineW, formRows, formL, rowW, ltW, ltT, askL, List.find?]
  by_cases h15 : kd = 15
  · subst h15
    simp [lineW, formRows, formL, rowW, ltW, ltT, askL, List.find?]
  by_cases h16 : kd = 16
  · subst h16
    simp [lineW, formRows, formL, rowW, ltW, ltT, askL, List.find?]
  by_cases h17 : kd = 17
  · subst h17
    simp [lineW, formRows, formL, rowW, ltW, ltT, askL, List.find?]
  by_cases h18 : kd = 18
  · subst h18
    simp [lineW, formRows, formL, rowW, ltW, ltT, askL, List.find?]
  have e1 : formRows.find? (fun f => f.2.1 == kd) = none := by
    rw [List.find?_eq_none]
    intro f hf
    simp only [formRows, List.mem_cons, List.mem_nil_iff, or_false] at hf
    rw [beq_iff_eq]
    intro e
    rcases hf with rfl | rfl | rfl | rfl | rfl | rfl | rfl | rfl | rfl | rfl | rfl | rfl | rfl | rfl | rfl | rfl | rfl | rfl | rfl
    all_goals simp only at e
    all_goals first | exact h0 e.symm | exact h1 e.symm | exact h2 e.symm | exact h3 e.symm | exact h4 e.symm | exact h5 e.symm | exact h6 e.symm | exact h7 e.symm | exact h8 e.symm | exact h9 e.symm | exact h10 e.symm | exact h11 e.symm | exact h12 e.symm | exact h13 e.symm | exact h14 e.symm | exact h15 e.symm | exact h16 e.symm | exact h17 e.symm | exact h18 e.symm
  have e2 : formL.find? (fun f => f.2.1 == kd) = none := by
    rw [List.find?_eq_none]
    intro f hf
    simp only [formL, List.mem_cons, List.mem_nil_iff, or_false] at hf
    rw [beq_iff_eq]
    intro e
    rcases hf with rfl | rfl | rfl | rfl | rfl | rfl | rfl | rfl | rfl | rfl | rfl | rfl | rfl | rfl | rfl | rfl | rfl
    all_goals simp only at e
    all_goals first | exact h0 e.symm | exact h1 e.symm | exact h2 e.symm | exact h3 e.symm | exact h4 e.symm | exact h5 e.symm | exact h6 e.symm | exact h7 e.symm | exact h8 e.symm | exact h9 e.symm | exact h10 e.symm | exact h11 e.symm | exact h12 e.symm | exact h13 e.symm | exact h14 e.symm | exact h15 e.symm | exact h16 e.symm | exact h17 e.symm | exact h18 e.symm
  unfold lineW
  rw [if_neg (show ¬ (_ : Int) = 4 from h4), if_neg (show ¬ (_ : Int) = 11 from h11)]
  show (match formL.find? (fun f => f.2.1 == kd) with | some f => _ | none => _) = (match formRows.find? (fun f => f.2.1 == kd) with | some f => _ | none => _)
  rw [e1, e2]
/-- A row is the first of its key. -/
theorem row_first {f : List UInt8 × Int × List UInt8} (h : f ∈ formRows) : formRows.find? (fun g => g.1 == f.1) = some f := by
  have : formRows.all (fun f => formRows.find? (fun g => g.1 == f.1) == some f) = true := by decide +kernel
  have h2 := List.all_eq_true.1 this f h
  simpa using h2
/-- A row is the first of its kind. -/
theorem row_kind {f : List UInt8 × Int × List UInt8} (h : f ∈ formRows) : formRows.find? (fun g => g.2.1 == f.2.1) = some f := by
  have : formRows.all (fun f => formRows.find? (fun g => g.2.1 == f.2.1) == some f) = true := by decide +kernel
  have h2 := List.all_eq_true.1 this f h
  simpa using h2
/-- The letters of a row. -/
def isLw (c : UInt8) : Prop := c = 80 ∨ c = 75 ∨ c = 81 ∨ c = 78 ∨ c = 68 ∨ c = 84 ∨ c = 83 ∨ c = 79
theorem row_lets {f : List UInt8 × Int × List UInt8} (h : f ∈ formRows) : f.1.length ≤ 20 ∧ f.2.2.length ≤ 3 ∧ ∀ c ∈ f.2.2, isLw c := by
  have : formRows.all (fun f => decide (f.1.length ≤ 20) && decide (f.2.2.length ≤ 3) && f.2.2.all (fun c => c == 80 || c == 75 || c == 81 || c == 78 || c == 68 || c == 84 || c == 83 || c == 79)) = true := by decide +kernel
  have h2 := List.all_eq_true.1 this f h
  simp only [Bool.and_eq_true, decide_eq_true_eq, List.all_eq_true, Bool.or_eq_true, beq_iff_eq] at h2
  refine ⟨h2.1.1, h2.1.2, fun c hc => ?_⟩
  have h3 := h2.2 c hc
  unfold isLw
  rcases h3 with ((((((h | h) | h) | h) | h) | h) | h) | h <;> simp [h]
theorem lw_low {c : UInt8} (h : isLw c) : c.toNat < 128 := by
  rcases h with rfl | rfl | rfl | rfl | rfl | rfl | rfl | rfl <;> decide
/-- What is still to come holds the row of a kind. -/
def LeftK (kd : Int) (left : Lit → Bool) : Prop := ∀ f ∈ formRows, f.2.1 = kd → left (.string f.1) = true
theorem left_start {H : Type} (kd : Int) : LeftK kd (Maps.has (formsD (H := H))) := fun f hf _ => by
  rw [forms_has, row_first hf]
  rfl
theorem left_step {kd : Int} {left : Lit → Bool} {f : List UInt8 × Int × List UInt8} (h : LeftK kd left) (hf : f ∈ formRows) (hk : ¬ f.2.1 = kd) : LeftK kd (fun z => left z && !z.sameKey (.string f.1)) := fun g hg hgk => by
  have h1 := h g hg hgk
  have hne : ¬ g.1 = f.1 := fun e => by
    have h2 := row_first hf
    have h3 := row_first hg
    rw [e, h2] at h3
    injection h3 with h3
    exact hk (by rw [h3]; exact hgk)
  show (left (.string g.1) && !(Lit.string g.1).sameKey (.string f.1)) = true
  rw [h1]
  have : (Lit.string g.1).sameKey (.string f.1) = false := by
    cases hc : (Lit.string g.1).sameKey (.string f.1) with
    | false => rfl
    | true =>
      have := WideAt.sameKey_eq hc
      injection this with this
      exact absurd this hne
  rw [this]
  rfl
theorem left_none {kd : Int} {left : Lit → Bool} (h : LeftK kd left) (hl : ∀ kl, left kl = false) : formRows.find? (fun f => f.2.1 == kd) = none := by
  rw [List.find?_eq_none]
  intro f hf e
  have := h f hf (by simpa using e)
  rw [hl] at this
  cases this
/-- The row of a key that has come. -/
theorem came_row {H : Type} {k : List UInt8} {d : DataW H} (h : ∀ zd, (formsD (H := H)).atKey (.string k) zd = d) : ∃ f ∈ formRows, f.1 = k ∧ d = formEnt f := by
  have h1 := h .nil
  have h2 := h (.lit (.bool true))
  rw [forms_at] at h1 h2
  cases hf : formRows.find? (fun f => f.1 == k) with
  | none =>
    rw [hf] at h1 h2
    simp only at h1 h2
    rw [← h1] at h2
    cases h2
  | some f =>
    rw [hf] at h1
    refine ⟨f, List.mem_of_find?_eq_some hf, ?_, h1.symm⟩
    have := List.find?_some hf
    simpa using this
end Go.Proofs.YtcibcmfaebbhnaaDoor
