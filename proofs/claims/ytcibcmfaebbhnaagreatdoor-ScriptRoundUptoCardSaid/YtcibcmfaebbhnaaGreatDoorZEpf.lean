/-
  Plain: the event of a line's words, as the program goes: word by word, letter by letter.
-/
import Derived.Test.YtcibcmfaebbhnaaGreatDoorZBas
set_option linter.unusedVariables false
set_option linter.unusedSimpArgs false
namespace Go.Proofs.YtcibcmfaebbhnaaGreatDoor
open Go
/-- The next word, as a count from lo to hi. -/
def numP (lo hi : Nat) : List Wd → Option (Nat × List Wd)
  | [] => none
  | w :: ws => match wcnt w with | some x => if lo ≤ x ∧ x ≤ hi then some (x, ws) else none | none => none
/-- The next word, as a string of at most so many bytes. -/
def txtP (most : Nat) : List Wd → Option (List UInt8 × List Wd)
  | [] => none
  | w :: ws => if w.2 = true ∧ w.1.length ≤ most then some (w.1, ws) else none
/-- The sides: so many counts below 16. -/
def sidesP : Nat → List Wd → List Int → Option (List Wd × List Int)
  | 0, ws, acc => some (ws, acc)
  | n + 1, ws, acc => match numP 0 15 ws with | some (x, ws') => sidesP n ws' (acc ++ [(x : Int)]) | none => none
/-- A command's texts: as many as there are words, three at most. -/
def txtsP (e : Ev) (ws : List Wd) : Option (List Wd × Ev) :=
  match txtP 16 ws with
  | none => none
  | some (k, r1) => if r1 = [] then some ([], { e with key := k }) else match txtP 16 r1 with
    | none => none
    | some (v, r2) => if r2 = [] then some ([], { e with key := k, val := v }) else match txtP 16 r2 with
      | none => none
      | some (o, r3) => some (r3, { e with key := k, val := v, old := o })
def cmdP (e : Ev) : List Wd → Option (List Wd × Ev)
  | [] => none
  | o :: ts => if o.2 = false ∧ 0 < opNo o.1 then txtsP { e with op := (opNo o.1 : Nat) } ts else none
/-- What a letter of a form takes. -/
def fieldP (nodes : Nat) (c : UInt8) (ws : List Wd) (e : Ev) : Option (List Wd × Ev) :=
  if c = 80 then (match numP 0 (nodes - 1) ws with | some (x, r) => some (r, { e with a := x }) | none => none)
  else if c = 81 then (match numP 0 (nodes - 1) ws with | some (x, r) => if ¬ (x : Int) = e.a then some (r, { e with b := x }) else none | none => none)
  else if c = 75 then (match numP 0 4611686018427387904 ws with | some (x, r) => some (r, { e with a := x }) | none => none)
  else if c = 78 then (match numP 0 4611686018427387904 ws with | some (x, r) => some (r, { e with n := x }) | none => none)
  else if c = 68 then (match numP 1 16 ws with | some (x, r) => some (r, { e with n := x }) | none => none)
  else if c = 84 then (match txtP (if e.kd = 17 then 40000 else 4000) ws with | some (b, r) => some (r, { e with bd := b }) | none => none)
  else if c = 79 then cmdP e ws
  else (match sidesP nodes ws e.sd with | some (r, l) => some (r, { e with sd := l }) | none => none)
def fieldsP (nodes : Nat) : List UInt8 → List Wd → Ev → Option (List Wd × Ev)
  | [], ws, e => some (ws, e)
  | c :: cs, ws, e => match fieldP nodes c ws e with | some (r, e') => fieldsP nodes cs r e' | none => none
/-- The forms: a word, its kind, its letters. -/
def formRows : List (List UInt8 × Int × List UInt8) := [([110, 111, 111, 112], 0, []),
  ([114, 111, 117, 110, 100], 1, []),
  ([116, 105, 99, 107], 2, [80]),
  ([115, 101, 110, 100], 3, [80, 84]),
  ([100, 111], 4, [80, 79]),
  ([99, 114, 97, 115, 104], 5, [80]),
  ([114, 101, 115, 116, 97, 114, 116], 6, [80]),
  ([116, 101, 97, 114], 7, [80, 78]),
  ([108, 101, 97, 118, 101], 18, [80]),
  ([99, 117, 116], 8, [80, 81]),
  ([104, 101, 97, 108], 9, [80, 81]),
  ([100, 101, 108, 97, 121], 10, [80, 81, 68]),
  ([115, 112, 108, 105, 116], 11, [83]),
  ([100, 114, 111, 112], 12, [75]),
  ([100, 117, 112], 13, [75]),
  ([110, 111, 119], 14, [75]),
  ([104, 111, 108, 100], 15, [75, 68]),
  ([102, 108, 105, 112], 16, [75, 78]),
  ([105, 110, 106, 101, 99, 116], 17, [80, 81, 84])]
def progF (nodes : Nat) (k : Int) (ls : List UInt8) (ws : List Wd) : Option Ev := match fieldsP nodes ls ws { Ev.zero with kd := k } with
  | some ([], e) => some e
  | _ => none
def progP (nodes : Nat) : List Wd → Option Ev
  | [] => none
  | w :: ws => if w.2 = true then none else match formRows.find? (fun f => f.1 == w.1) with
    | some f => progF nodes f.2.1 f.2.2 ws
    | none => none
/-- A count is at most 2 to the 62. -/
theorem wcnt_le {w : Wd} {x : Nat} (h : wcnt w = some x) : x ≤ 4611686018427387904 := by
  unfold wcnt at h
  split at h
  · cases h
  · exact cnt_le h
/-- The letters of the two forms, beside one another. -/
def ltOf : Lt → UInt8
  | .P => 80
  | .Q => 81
  | .K => 75
  | .N => 78
  | .D => 68
  | .T => 84
  | .X => 84
theorem field_thing {nodes : Nat} (hn : 1 ≤ nodes) (c : Lt) (w : Wd) (ws : List Wd) (e : Ev) (hT : c = .T → ¬ e.kd = 17) (hX : c = .X → e.kd = 17) :
    fieldP nodes (ltOf c) (w :: ws) e = (thingE nodes e c w).map fun e' => (ws, e') := by
  have hz : ∀ x : Nat, wcnt w = some x → x ≤ 4611686018427387904 := fun x h => wcnt_le h
  cases c
  · simp only [ltOf, fieldP, thingE, numP]
    cases h : wcnt w with
    | none => rfl
    | some x =>
      by_cases hx : x < nodes
      · simp [hx, show x ≤ nodes - 1 by omega]
      · simp [hx, show ¬ x ≤ nodes - 1 by omega]
  · simp only [ltOf, fieldP, thingE, numP]
    cases h : wcnt w with
    | none => rfl
    | some x =>
      by_cases hx : x < nodes
      · by_cases ha : (x : Int) = e.a
        · simp [hx, show x ≤ nodes - 1 by omega, ha]
        · simp [hx, show x ≤ nodes - 1 by omega, ha]
      · simp [hx, show ¬ x ≤ nodes - 1 by omega]
  · simp only [ltOf, fieldP, thingE, numP]
    cases h : wcnt w with
    | none => rfl
    | some x => simp [hz x h]
  · simp only [ltOf, fieldP, thingE, numP]
    cases h : wcnt w with
    | none => rfl
    | some x => simp [hz x h]
  · simp only [ltOf, fieldP, thingE, numP]
    cases h : wcnt w with
    | none => rfl
    | some x =>
      by_cases hx : 1 ≤ x ∧ x ≤ 16
      · simp [hx]
      · simp [hx]
  · simp only [ltOf, fieldP, thingE, txtP, if_neg (hT rfl)]
    by_cases hx : w.2 = true ∧ w.1.length ≤ 4000
    · simp [hx]
    · simp [hx]
  · simp only [ltOf, fieldP, thingE, txtP, if_pos (hX rfl)]
    by_cases hx : w.2 = true ∧ w.1.length ≤ 40000
    · simp [hx]
    · simp [hx]
theorem field_nil {nodes : Nat} (c : Lt) (e : Ev) : fieldP nodes (ltOf c) [] e = none := by
  cases c <;> rfl
theorem thing_kd {nodes : Nat} {e e' : Ev} {c : Lt} {w : Wd} (h : thingE nodes e c w = some e') : e'.kd = e.kd := by
  unfold thingE at h
  split at h <;> repeat' (split at h)
  all_goals first | (injection h with h; subst h; rfl) | cases h
theorem fields_things {nodes : Nat} (hn : 1 ≤ nodes) : ∀ (cs : List Lt) (ws : List Wd) (e : Ev), (Lt.T ∈ cs → ¬ e.kd = 17) → (Lt.X ∈ cs → e.kd = 17) →
    (match fieldsP nodes (cs.map ltOf) ws e with | some ([], e') => some e' | _ => none) = thingsE nodes cs ws e
  | [], [], e, _, _ => rfl
  | [], _ :: _, e, _, _ => rfl
  | c :: cs, [], e, _, _ => by
    simp only [List.map_cons, fieldsP, field_nil]
    rfl
  | c :: cs, w :: ws, e, hT, hX => by
    simp only [List.map_cons, fieldsP, thingsE]
    rw [field_thing hn c w ws e (fun h => hT (by simp [h])) (fun h => hX (by simp [h]))]
    cases h : thingE nodes e c w with
    | none => rfl
    | some e' =>
      have hk := thing_kd h
      exact fields_things hn cs ws e' (fun h => by rw [hk]; exact hT (by simp [h])) (fun h => by rw [hk]; exact hX (by simp [h]))
theorem sides_prog : ∀ (n : Nat) (ws : List Wd) (acc : List Int), (match sidesP n ws acc with | some ([], l) => some l | _ => none) = if ws.length = n then (sidesE ws).map (acc ++ ·) else none
  | 0, [], acc => by simp [sidesP, sidesE]
  | 0, _ :: _, acc => by simp [sidesP]
  | n + 1, [], acc => by simp [sidesP, numP]
  | n + 1, w :: ws, acc => by
    simp only [sidesP, numP, sidesE, List.length_cons, Nat.add_right_cancel_iff]
    cases h : wcnt w with
    | none => simp
    | some x =>
      by_cases hx : x < 16
      · have ih := sides_prog n ws (acc ++ [(x : Int)])
        simp only [Nat.zero_le, true_and, show x ≤ 15 by omega, if_true, hx]
        rw [ih]
        by_cases hl : ws.length = n
        · rw [if_pos hl, if_pos hl, Option.map_map]
          congr 1
          funext l
          simp
        · rw [if_neg hl, if_neg hl]
      · simp [show ¬ x ≤ 15 by omega, hx]
theorem txts_prog (e : Ev) (ws : List Wd) : (match txtsP e ws with | some ([], e') => some e' | _ => none) = txtsE e ws := by
  match ws with
  | [] => rfl
  | [k] =>
    simp only [txtsP, txtP, txtsE, txtE]
    by_cases hk : k.2 = true ∧ k.1.length ≤ 16
    · simp [hk]
    · simp [hk]
  | [k, v] =>
    simp only [txtsP, txtP, txtsE, txtE]
    by_cases hk : k.2 = true ∧ k.1.length ≤ 16
    · by_cases hv : v.2 = true ∧ v.1.length ≤ 16
      · simp [hk, hv]
      · simp [hk, hv]
    · simp [hk]
  | [k, v, o] =>
    simp only [txtsP, txtP, txtsE, txtE]
    by_cases hk : k.2 = true ∧ k.1.length ≤ 16
    · by_cases hv : v.2 = true ∧ v.1.length ≤ 16
      · by_cases ho : o.2 = true ∧ o.1.length ≤ 16
        · simp [hk, hv, ho]
        · simp [hk, hv, ho]
      · simp [hk, hv]
    · simp [hk]
  | k :: v :: o :: x :: r =>
    simp only [txtsP, txtP, txtsE]
    by_cases hk : k.2 = true ∧ k.1.length ≤ 16
    · by_cases hv : v.2 = true ∧ v.1.length ≤ 16
      · by_cases ho : o.2 = true ∧ o.1.length ≤ 16
        · simp [hk, hv, ho]
        · simp [hk, hv, ho]
      · simp [hk, hv]
    · simp [hk]
theorem do_prog {nodes : Nat} (hn : 1 ≤ nodes) (ws : List Wd) : progF nodes 4 [80, 79] ws = doE nodes ws := by
  match ws with
  | [] => rfl
  | [p] =>
    have h := field_thing hn .P p [] { Ev.zero with kd := 4 } (fun h => by cases h) (fun h => by cases h)
    unfold progF
    simp only [fieldsP]
    rw [show (80 : UInt8) = ltOf .P from rfl, h]
    simp only [doE]
    cases h2 : thingE nodes { Ev.zero with kd := 4 } .P p with
    | none => rfl
    | some e' => rfl
  | p :: o :: ts =>
    have h := field_thing hn .P p (o :: ts) { Ev.zero with kd := 4 } (fun h => by cases h) (fun h => by cases h)
    unfold progF
    simp only [fieldsP]
    rw [show (80 : UInt8) = ltOf .P from rfl, h]
    simp only [doE, thingE]
    cases hx : wcnt p with
    | none => rfl
    | some x =>
      by_cases hl : x < nodes
      · simp only [hl, if_true, true_and, Option.map_some]
        show (match (match cmdP { Ev.zero with kd := 4, a := (x : Int) } (o :: ts) with | some (r, e') => some (r, e') | none => none) with | some ([], e) => some e | _ => none) = _
        simp only [cmdP]
        by_cases ho : o.2 = false ∧ 0 < opNo o.1
        · rw [if_pos ho, if_pos ho, ← txts_prog]
          cases txtsP { Ev.zero with kd := 4, a := (x : Int), op := (opNo o.1 : Nat) } ts with
          | none => rfl
          | some q => rfl
        · rw [if_neg ho, if_neg ho]
      · simp [hl]
theorem split_prog {nodes : Nat} (ws : List Wd) : progF nodes 11 [83] ws = splitE nodes ws := by
  unfold progF splitE
  simp only [fieldsP]
  have h := sides_prog nodes ws []
  have hf : fieldP nodes 83 ws { Ev.zero with kd := 11 } = match sidesP nodes ws [] with | some (r, l) => some (r, { Ev.zero with kd := 11, sd := l }) | none => none := rfl
  rw [hf]
  by_cases hl : ws.length = nodes
  · rw [if_pos hl] at h ⊢
    cases hs : sidesP nodes ws [] with
    | none =>
      rw [hs] at h
      cases hq : sidesE ws with
      | none => rfl
      | some l => rw [hq] at h; cases h
    | some p =>
      obtain ⟨r, l⟩ := p
      rw [hs] at h
      cases r with
      | nil =>
        cases hq : sidesE ws with
        | none => rw [hq] at h; cases h
        | some l' =>
          rw [hq] at h
          simp at h
          subst h
          rfl
      | cons a r =>
        cases hq : sidesE ws with
        | none => rfl
        | some l => rw [hq] at h; cases h
  · rw [if_neg hl] at h ⊢
    cases hs : sidesP nodes ws [] with
    | none => rfl
    | some p =>
      obtain ⟨r, l⟩ := p
      rw [hs] at h
      cases r with
      | nil => cases h
      | cons a r => rfl
theorem form_prog {nodes : Nat} (hn : 1 ≤ nodes) (k : Int) (cs : List Lt) (ws : List Wd) (hT : Lt.T ∈ cs → ¬ k = 17) (hX : Lt.X ∈ cs → k = 17) : progF nodes k (cs.map ltOf) ws = thingsE nodes cs ws { Ev.zero with kd := k } :=
  fields_things hn cs ws { Ev.zero with kd := k } hT hX
theorem progP_eq {nodes : Nat} (hn : 1 ≤ nodes) (ws : List Wd) : progP nodes ws = eventE nodes ws := by
  cases ws with
  | nil => rfl
  | cons w ws =>
    simp only [progP, eventE]
    by_cases hq : w.2 = true
    · rw [if_pos hq, if_pos hq]
    rw [if_neg hq, if_neg hq]
    by_cases hd : w.1 = [100, 111]
    · rw [if_pos hd, hd]
      exact do_prog hn ws
    rw [if_neg hd]
    by_cases hs : w.1 = [115, 112, 108, 105, 116]
    · rw [if_pos hs, hs]
      exact split_prog ws
    rw [if_neg hs]
    have F := fun (k : Int) (cs : List Lt) (hT : Lt.T ∈ cs → ¬ k = 17) (hX : Lt.X ∈ cs → k = 17) => form_prog hn k cs ws hT hX
    by_cases h0 : w.1 = [110, 111, 111, 112]
    · rw [h0]
      exact F 0 [] (by simp) (by simp)
    by_cases h1 : w.1 = [114, 111, 117, 110, 100]
    · rw [h1]
      exact F 1 [] (by simp) (by simp)
    by_cases h2 : w.1 = [116, 105, 99, 107]
    · rw [h2]
      exact F 2 [.P] (by simp) (by simp)
    by_cases h3 : w.1 = [115, 101, 110, 100]
    · rw [h3]
      exact F 3 [.P, .T] (by simp) (by simp)
    by_cases h4 : w.1 = [99, 114, 97, 115, 104]
    · rw [h4]
      exact F 5 [.P] (by simp) (by simp)
    by_cases h5 : w.1 = [114, 101, 115, 116, 97, 114, 116]
    · rw [h5]
      exact F 6 [.P] (by simp) (by simp)
    by_cases h6 : w.1 = [116, 101, 97, 114]
    · rw [h6]
      exact F 7 [.P, .N] (by simp) (by simp)
    by_cases h7 : w.1 = [108, 101, 97, 118, 101]
    · rw [h7]
      exact F 18 [.P] (by simp) (by simp)
    by_cases h8 : w.1 = [99, 117, 116]
    · rw [h8]
      exact F 8 [.P, .Q] (by simp) (by simp)
    by_cases h9 : w.1 = [104, 101, 97, 108]
    · rw [h9]
      exact F 9 [.P, .Q] (by simp) (by simp)
    by_cases h10 : w.1 = [100, 101, 108, 97, 121]
    · rw [h10]
      exact F 10 [.P, .Q, .D] (by simp) (by simp)
    by_cases h11 : w.1 = [100, 114, 111, 112]
    · rw [h11]
      exact F 12 [.K] (by simp) (by simp)
    by_cases h12 : w.1 = [100, 117, 112]
    · rw [h12]
      exact F 13 [.K] (by simp) (by simp)
    by_cases h13 : w.1 = [110, 111, 119]
    · rw [h13]
      exact F 14 [.K] (by simp) (by simp)
    by_cases h14 : w.1 = [104, 111, 108, 100]
    · rw [h14]
      exact F 15 [.K, .D] (by simp) (by simp)
    by_cases h15 : w.1 = [102, 108, 105, 112]
    · rw [h15]
      exact F 16 [.K, .N] (by simp) (by simp)
    by_cases h16 : w.1 = [105, 110, 106, 101, 99, 116]
    · rw [h16]
      exact F 17 [.P, .Q, .X] (by simp) (by simp)
    have e1 : formRows.find? (fun f => f.1 == w.1) = none := by
      rw [List.find?_eq_none]
      intro f hf
      simp only [formRows, List.mem_cons, List.mem_nil_iff, or_false] at hf
      rw [beq_iff_eq]
      intro e
      rcases hf with rfl | rfl | rfl | rfl | rfl | rfl | rfl | rfl | rfl | rfl | rfl | rfl | rfl | rfl | rfl | rfl | rfl | rfl | rfl
      all_goals simp only at e
      all_goals first | exact hd e.symm | exact hs e.symm | exact h0 e.symm | exact h1 e.symm | exact h2 e.symm | exact h3 e.symm | exact h4 e.symm | exact h5 e.symm | exact h6 e.symm | exact h7 e.symm | exact h8 e.symm | exact h9 e.symm | exact h10 e.symm | exact h11 e.symm | exact h12 e.symm | exact h13 e.symm | exact h14 e.symm | exact h15 e.symm | exact h16 e.symm
    have e2 : formL.find? (fun f => f.1 == w.1) = none := by
      rw [List.find?_eq_none]
      intro f hf
      simp only [formL, List.mem_cons, List.mem_nil_iff, or_false] at hf
      rw [beq_iff_eq]
      intro e
      rcases hf with rfl | rfl | rfl | rfl | rfl | rfl | rfl | rfl | rfl | rfl | rfl | rfl | rfl | rfl | rfl | rfl | rfl
      all_goals simp only at e
      all_goals first | exact h0 e.symm | exact h1 e.symm | exact h2 e.symm | exact h3 e.symm | exact h4 e.symm | exact h5 e.symm | exact h6 e.symm | exact h7 e.symm | exact h8 e.symm | exact h9 e.symm | exact h10 e.symm | exact h11 e.symm | exact h12 e.symm | exact h13 e.symm | exact h14 e.symm | exact h15 e.symm | exact h16 e.symm
    rw [e1, e2]
/-- What a line says, as the program reads it. -/
theorem lineE_progP (nodes : Int) (t : List UInt8) : lineE nodes t = if 1 ≤ nodes ∧ nodes ≤ 16 ∧ ∀ q ∈ t, ¬ q.toNat = 10 then (match wordsG false t with | some ws => (progP nodes.toNat ws).getD Ev.zero | none => Ev.zero) else Ev.zero := by
  rw [lineE_prog]
  by_cases h : 1 ≤ nodes ∧ nodes ≤ 16 ∧ ∀ q ∈ t, ¬ q.toNat = 10
  · rw [if_pos h, if_pos h]
    cases wordsG false t with
    | none => rfl
    | some ws => simp only [progP_eq (show 1 ≤ nodes.toNat by omega)]
  · rw [if_neg h, if_neg h]
end Go.Proofs.YtcibcmfaebbhnaaGreatDoor
