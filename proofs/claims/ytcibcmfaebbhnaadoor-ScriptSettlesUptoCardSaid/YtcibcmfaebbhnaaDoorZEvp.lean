/-
  Plain: the event of a line's words, as the program reads it and as the document does.
-/
import Derived.Test.YtcibcmfaebbhnaaDoorZWds
import Derived.Test.YtcibcmfaebbhnaaDoorZRct
set_option linter.unusedVariables false
set_option linter.unusedSimpArgs false
namespace Go.Proofs.YtcibcmfaebbhnaaDoor
open Go
/-- What an event says. -/
structure Ev where
  (kd a b n cl cn rq op : Int)
  (key val old bd : List UInt8)
  sd : List Int
def Ev.zero : Ev := ⟨0, 0, 0, 0, 0, 0, 0, 0, [], [], [], [], []⟩
/-- A word's count. -/
def wcnt (w : Wd) : Option Nat := if w.2 = true then none else cnt w.1
/-- The letters of a form: P Q nodes, K a count as A, N a count, D a delay, T a body, X a packet. -/
inductive Lt where
  | P | Q | K | N | D | T | X
/-- One thing more of an event. -/
def thingE (nodes : Nat) (e : Ev) (c : Lt) (w : Wd) : Option Ev := match c with
  | .P => match wcnt w with | some x => if x < nodes then some { e with a := x } else none | none => none
  | .Q => match wcnt w with | some x => if x < nodes ∧ ¬ (x : Int) = e.a then some { e with b := x } else none | none => none
  | .K => match wcnt w with | some x => some { e with a := x } | none => none
  | .N => match wcnt w with | some x => some { e with n := x } | none => none
  | .D => match wcnt w with | some x => if 1 ≤ x ∧ x ≤ 16 then some { e with n := x } else none | none => none
  | .T => if w.2 = true ∧ w.1.length ≤ 4000 then some { e with bd := w.1 } else none
  | .X => if w.2 = true ∧ w.1.length ≤ 40000 then some { e with bd := w.1 } else none
/-- The things of a form, word by word: none is left, none is lacking. -/
def thingsE (nodes : Nat) : List Lt → List Wd → Ev → Option Ev
  | [], [], e => some e
  | [], _ :: _, _ => none
  | _ :: _, [], _ => none
  | c :: cs, w :: ws, e => match thingE nodes e c w with | some e' => thingsE nodes cs ws e' | none => none
/-- The commands' words, from 1 on. -/
def opL : List (List UInt8) := [[115, 101, 116], [103, 101, 116], [99, 97, 115], [100, 101, 108], [97, 100, 100], [108, 111, 99, 107], [117, 110, 108, 111, 99, 107], [102, 101, 110, 99, 101], [101, 110, 100]]
/-- The number of a command's word; 0: it is none. -/
def opNo (s : List UInt8) : Nat := match opL.findIdx? (· == s) with | some i => i + 1 | none => 0
def txtE (w : Wd) : Option (List UInt8) := if w.2 = true ∧ w.1.length ≤ 16 then some w.1 else none
/-- A command's texts: one to three. -/
def txtsE (e : Ev) : List Wd → Option Ev
  | [k] => match txtE k with | some x => some { e with key := x } | none => none
  | [k, v] => match txtE k, txtE v with | some x, some y => some { e with key := x, val := y } | _, _ => none
  | [k, v, o] => match txtE k, txtE v, txtE o with | some x, some y, some z => some { e with key := x, val := y, old := z } | _, _, _ => none
  | _ => none
/-- Behind do: a node, a command's word, its texts. -/
def doE (nodes : Nat) : List Wd → Option Ev
  | p :: o :: ts => match wcnt p with
    | some x => if x < nodes ∧ o.2 = false ∧ 0 < opNo o.1 then txtsE { Ev.zero with kd := 4, a := x, op := opNo o.1 } ts else none
    | none => none
  | _ => none
/-- Behind split: a side for each node. -/
def sidesE : List Wd → Option (List Int)
  | [] => some []
  | w :: ws => match wcnt w with
    | some x => if x < 16 then (sidesE ws).map ((x : Int) :: ·) else none
    | none => none
def splitE (nodes : Nat) (ws : List Wd) : Option Ev := if ws.length = nodes then (sidesE ws).map fun l => { Ev.zero with kd := 11, sd := l } else none
/-- The forms of all other kinds: a word, the kind, the letters. -/
def formL : List (List UInt8 × Int × List Lt) := [
  ([110, 111, 111, 112], 0, []), ([114, 111, 117, 110, 100], 1, []), ([116, 105, 99, 107], 2, [.P]), ([115, 101, 110, 100], 3, [.P, .T]), ([99, 114, 97, 115, 104], 5, [.P]),
  ([114, 101, 115, 116, 97, 114, 116], 6, [.P]), ([116, 101, 97, 114], 7, [.P, .N]), ([108, 101, 97, 118, 101], 18, [.P]), ([99, 117, 116], 8, [.P, .Q]), ([104, 101, 97, 108], 9, [.P, .Q]),
  ([100, 101, 108, 97, 121], 10, [.P, .Q, .D]), ([100, 114, 111, 112], 12, [.K]), ([100, 117, 112], 13, [.K]), ([110, 111, 119], 14, [.K]), ([104, 111, 108, 100], 15, [.K, .D]),
  ([102, 108, 105, 112], 16, [.K, .N]), ([105, 110, 106, 101, 99, 116], 17, [.P, .Q, .X])]
/-- The event of words. -/
def eventE (nodes : Nat) : List Wd → Option Ev
  | [] => none
  | w :: ws =>
    if w.2 = true then none
    else if w.1 = [100, 111] then doE nodes ws
    else if w.1 = [115, 112, 108, 105, 116] then splitE nodes ws
    else match formL.find? (fun f => f.1 == w.1) with
      | some f => thingsE nodes f.2.2 ws { Ev.zero with kd := f.2.1 }
      | none => none
/-- What a line says: an event, or none (the zero event). -/
def lineE (nodes : Int) (t : List UInt8) : Ev :=
  if 1 ≤ nodes ∧ nodes ≤ 16 then
    match wordsG true t with
    | some ws => (eventE nodes.toNat ws).getD Ev.zero
    | none => Ev.zero
  else Ev.zero
/-- As the program reads it: words in which a line's end may stand, and no line's end. -/
theorem lineE_prog (nodes : Int) (t : List UInt8) : lineE nodes t = if 1 ≤ nodes ∧ nodes ≤ 16 ∧ ∀ q ∈ t, ¬ q.toNat = 10 then (match wordsG false t with | some ws => (eventE nodes.toNat ws).getD Ev.zero | none => Ev.zero) else Ev.zero := by
  unfold lineE
  by_cases h : 1 ≤ nodes ∧ nodes ≤ 16
  · rw [if_pos h]
    have hn := wds_nl t.length t (Nat.le_refl _)
    by_cases h10 : ∀ q ∈ t, ¬ q.toNat = 10
    · rw [if_pos ⟨h.1, h.2, h10⟩, hn.1 h10]
    · rw [if_neg (fun h' => h10 h'.2.2), hn.2 (by
        simp only [Classical.not_forall, Classical.not_not] at h10
        obtain ⟨q, hq, e⟩ := h10
        exact ⟨q, hq, e⟩)]
  · rw [if_neg h, if_neg (fun h' => h ⟨h'.1, h'.2.1⟩)]
end Go.Proofs.YtcibcmfaebbhnaaDoor
