/-
  Plain: the event of a line's words, as the program reads it and as the document does. Small laws that other texts lean on: the size of a sum of texts, a []byte turned into a text, a load of a whole struct.
-/
import Derived.Test.YtcibcmfaebbhnaaDoorZWds
import Derived.Test.YtcibcmfaebbhnaaDoorZRdc
import Derived.StillTail
import Derived.Test.YtcibcmfaebbhnaaDoorZStr
import Derived.Test.YtcibcmfaebbhnaaDoorZQuo
set_option linter.unusedVariables false
set_option linter.unusedSimpArgs false
namespace Go.Proofs.YtcibcmfaebbhnaaDoor
open Go
/-- What an event says. -/
structure Ev where
  (kd a b n cl cn rq op : Int)
  (key val old bd : List UInt8)
  sd : List Int
def Ev.zero : Ev := ⟨0, 0, 0, 0, 0, 0, 0, 0, [], [], [], [], []⟩
/-- A word's count. -/
def wcnt (w : Wd) : Option Nat := if w.2 = true then none else cnt w.1
/-- The letters of a form: P Q nodes, K a count as A, N a count, D a delay, T a body, X a packet. -/
inductive Lt where
  | P | Q | K | N | D | T | X
/-- One thing more of an event. -/
def thingE (nodes : Nat) (e : Ev) (c : Lt) (w : Wd) : Option Ev := match c with
  | .P => match wcnt w with | some x => if x < nodes then some { e with a := x } else none | none => none
  | .Q => match wcnt w with | some x => if x < nodes ∧ ¬ (x : Int) = e.a then some { e with b := x } else none | none => none
  | .K => match wcnt w with | some x => some { e with a := x } | none => none
  | .N => match wcnt w with | some x => some { e with n := x } | none => none
  | .D => match wcnt w with | some x => if 1 ≤ x ∧ x ≤ 16 then some { e with n := x } else none | none => none
  | .T => if w.2 = true ∧ w.1.length ≤ 4000 then some { e with bd := w.1 } else none
  | .X => if w.2 = true ∧ w.1.length ≤ 40000 then some { e with bd := w.1 } else none
/-- The things of a form, word by word: none is left, none is lacking. -/
def thingsE (nodes : Nat) : List Lt → List Wd → Ev → Option Ev
  | [], [], e => some e
  | [], _ :: _, _ => none
  | _ :: _, [], _ => none
  | c :: cs, w :: ws, e => match thingE nodes e c w with | some e' => thingsE nodes cs ws e' | none => none
/-- As the document reads them: first their number. -/
theorem things_len {nodes : Nat} : ∀ (cs : List Lt) (ws : List Wd) (e : Ev), ¬ ws.length = cs.length → thingsE nodes cs ws e = none
  | [], [], e, h => absurd rfl h
  | [], _ :: _, e, _ => rfl
  | _ :: _, [], e, _ => rfl
  | c :: cs, w :: ws, e, h => by
    unfold thingsE
    cases thingE nodes e c w with
    | none => rfl
    | some e' => exact things_len cs ws e' (fun h' => h (by simp [h']))
/-- The commands' words, from 1 on. -/
def opL : List (List UInt8) := [[115, 101, 116], [103, 101, 116], [99, 97, 115], [100, 101, 108], [97, 100, 100], [108, 111, 99, 107], [117, 110, 108, 111, 99, 107], [102, 101, 110, 99, 101], [101, 110, 100]]
/-- The number of a command's word; 0: it is none. -/
def opNo (s : List UInt8) : Nat := match opL.findIdx? (· == s) with | some i => i + 1 | none => 0
def txtE (w : Wd) : Option (List UInt8) := if w.2 = true ∧ w.1.length ≤ 16 then some w.1 else none
/-- A command's texts: one to three. -/
def txtsE (e : Ev) : List Wd → Option Ev
  | [k] => match txtE k with | some x => some { e with key := x } | none => none
  | [k, v] => match txtE k, txtE v with | some x, some y => some { e with key := x, val := y } | _, _ => none
  | [k, v, o] => match txtE k, txtE v, txtE o with | some x, some y, some z => some { e with key := x, val := y, old := z } | _, _, _ => none
  | _ => none
/-- Behind do: a node, a command's word, its texts. -/
def doE (nodes : Nat) : List Wd → Option Ev
  | p :: o :: ts => match wcnt p with
    | some x => if x < nodes ∧ o.2 = false ∧ 0 < opNo o.1 then txtsE { Ev.zero with kd := 4, a := x, op := opNo o.1 } ts else none
    | none => none
  | _ => none
/-- Behind split: a side for each node. -/
def sidesE : List Wd → Option (List Int)
  | [] => some []
  | w :: ws => match wcnt w with
    | some x => if x < 16 then (sidesE ws).map ((x : Int) :: ·) else none
    | none => none
def splitE (nodes : Nat) (ws : List Wd) : Option Ev := if ws.length = nodes then (sidesE ws).map fun l => { Ev.zero with kd := 11, sd := l } else none
/-- The forms of all other kinds: a word, the kind, the letters. -/
def formL : List (List UInt8 × Int × List Lt) := [
  ([110, 111, 111, 112], 0, []), ([114, 111, 117, 110, 100], 1, []), ([116, 105, 99, 107], 2, [.P]), ([115, 101, 110, 100], 3, [.P, .T]), ([99, 114, 97, 115, 104], 5, [.P]),
  ([114, 101, 115, 116, 97, 114, 116], 6, [.P]), ([116, 101, 97, 114], 7, [.P, .N]), ([108, 101, 97, 118, 101], 18, [.P]), ([99, 117, 116], 8, [.P, .Q]), ([104, 101, 97, 108], 9, [.P, .Q]),
  ([100, 101, 108, 97, 121], 10, [.P, .Q, .D]), ([100, 114, 111, 112], 12, [.K]), ([100, 117, 112], 13, [.K]), ([110, 111, 119], 14, [.K]), ([104, 111, 108, 100], 15, [.K, .D]),
  ([102, 108, 105, 112], 16, [.K, .N]), ([105, 110, 106, 101, 99, 116], 17, [.P, .Q, .X])]
/-- The event of words. -/
def eventE (nodes : Nat) : List Wd → Option Ev
  | [] => none
  | w :: ws =>
    if w.2 = true then none
    else if w.1 = [100, 111] then doE nodes ws
    else if w.1 = [115, 112, 108, 105, 116] then splitE nodes ws
    else match formL.find? (fun f => f.1 == w.1) with
      | some f => thingsE nodes f.2.2 ws { Ev.zero with kd := f.2.1 }
      | none => none
/-- What a line says: an event, or none (the zero event). -/
def lineE (nodes : Int) (t : List UInt8) : Ev :=
  if 1 ≤ nodes ∧ nodes ≤ 16 then
    match wordsG true t with
    | some ws => (eventE nodes.toNat ws).getD Ev.zero
    | none => Ev.zero
  else Ev.zero
/-- As the program reads it: words in which a line's end may stand, and no line's end. -/
theorem lineE_prog (nodes : Int) (t : List UInt8) : lineE nodes t = if 1 ≤ nodes ∧ nodes ≤ 16 ∧ ∀ q ∈ t, ¬ q.toNat = 10 then (match wordsG false t with | some ws => (eventE nodes.toNat ws).getD Ev.zero | none => Ev.zero) else Ev.zero := by
  unfold lineE
  by_cases h : 1 ≤ nodes ∧ nodes ≤ 16
  · rw [if_pos h]
    have hn := wds_nl t.length t (Nat.le_refl _)
    by_cases h10 : ∀ q ∈ t, ¬ q.toNat = 10
    · rw [if_pos ⟨h.1, h.2, h10⟩, hn.1 h10]
    · rw [if_neg (fun h' => h10 h'.2.2), hn.2 (by
        simp only [Classical.not_forall, Classical.not_not] at h10
        obtain ⟨q, hq, e⟩ := h10
        exact ⟨q, hq, e⟩)]
  · rw [if_neg h, if_neg (fun h' => h ⟨h'.1, h'.2.1⟩)]
end Go.Proofs.YtcibcmfaebbhnaaDoor
set_option linter.unusedVariables false
set_option linter.unusedSimpArgs false
namespace Go.Proofs.YtcibcmfaebbhnaaDoor
open Go.RowKit Go.WideShapes Go.ChangeShapes Q
theorem size_lim {a b : List UInt8} (h : a.length + b.length ≤ 9223372036854775807) : ¬ 9223372036854775807 < (S a).size + (S b).size := by
  rw [S_size, S_size]
  omega
theorem conv_reads {W : World} {B n c : Nat} {A : Option Addr} {l : List UInt8} (h : Reads W B 1 A n (Lib.byteCells l)) : (convert 24 9 (.slice A n c)).run Tryd.prog W = .ok (.string (S l)) W := by
  have hl : l.length = n := by have := h.1; rw [Lib.byteCells_length] at this; omega
  rcases Nat.eq_zero_or_pos n with h0 | h0
  · subst h0
    have : l = [] := List.eq_nil_of_length_eq_zero hl
    subst this
    cases A with
    | none =>
      rw [run_convert_bytes_string W 24 9 5 none 0 c Tryd.underlying24 Tryd.underlying5 Tryd.underlying9]
      simp [Conv.bytesToString]
      rfl
    | some ad => exact run_conv_bytes (.tmp 0) 24 9 5 Tryd.underlying24 Tryd.underlying5 Tryd.underlying9 ad 0 c [] rfl fun j hj => absurd hj (by simp)
  · obtain ⟨ad, rfl, _, hc⟩ := h.2 h0
    exact run_conv_bytes (.tmp 0) 24 9 5 Tryd.underlying24 Tryd.underlying5 Tryd.underlying9 ad n c l hl.symm fun j hj => hc j _ (by simp [Lib.byteCells, hj])
theorem blk_new (w : World) (t : TypeId) (cs : Array Value) (g : Nat) (h : g = w.heap.size) : Blk (w.alloc (.cells cs t)) g t cs := by subst h; exact Blk.new w t cs
section
variable {P : Program}
theorem run_load_at (w : World) (ad : Addr) (ty : TypeId) (cs : Array Value) (d : TypeDesc) (hu : P.underlying ty = some d) (hd : (match d with | .struct _ | .array _ _ => true | _ => false) = true) (hi : (P.info? ty).map (·.size) = some cs.size)
    (h : ∀ j v, cs[j]? = some v → w.cell? (ad.add j) = some v) : (loadVar ty ad).run P w = .ok (.agg cs) w := by
  have hl : (loadCells ad cs.toList.length).run P w = .ok cs.toList.toArray w := run_loadCells_list (P := P) w ad cs.toList (fun j v hv => h j v (by simpa using hv))
  cases hq : P.info? ty with
  | none => simp [hq] at hi
  | some i =>
    have hs : i.size = cs.size := by simpa [hq] using hi
    have hagg : (isAgg ty).run P w = .ok true w := by
      unfold isAgg
      rw [Sem.run_bind, run_underlying hu w]
      cases d <;> simp_all
    simp only [Array.length_toList, Array.toArray_toList] at hl
    simp [loadVar, Sem.run_bind, hagg, sizeOf, typeInfo, hq, hs, hl]
theorem still_load_at {ops : Array Oper} {rest : List Oper} {o : Oper} {a : Act} {w : World} {Q : Act → Prop} (hw : Region.wanted o (yielded ops a.tmps) = true) (ty : TypeId) (x : Operand) (ho : o.op = .load ty x)
    (ad : Addr) (hx : a.eval x = .pointer (some ad)) (cs : Array Value) (d : TypeDesc)
    (hu : P.underlying ty = some d) (hd : (match d with | .struct _ | .array _ _ => true | _ => false) = true) (hi : (P.info? ty).map (·.size) = some cs.size) (hc : ∀ j v, cs[j]? = some v → w.cell? (ad.add j) = some v)
    (h : wpStill P ops w Q rest (a.put o.dst (.agg cs))) : wpStill P ops w Q (o :: rest) a := by
  refine wpStill_step fun K hK => ?_
  rw [if_pos hw]
  unfold Oper.still execOp
  simp only [ho, hx, Instr.loadAt, Instr.sureAddr, Sem.run_bind, Sem.run_pure, Result.andThen_ok, run_load_at w ad ty cs d hu hd hi hc, Oper.stillUpon_value]
  exact hK _ h
end
theorem own_ne {w : World} {base : Nat} {e t : TypeId} {size n g : Nat} {v : Value} {xs : List Value} {cs : Array Value} (ho : w.ownsRow base e size v n xs) (hb : Blk w g t cs) (ht : t ≠ e) : some g ≠ v.ownBlock := by
  intro h
  rcases ho.2 with ⟨rfl, _⟩ | ⟨g', cap, cur, rfl, _, hg, _⟩
  · cases h
  · have : g = g' := by simpa [Value.ownBlock] using h
    subst this
    exact Blk.ne_ hb (t' := e) hg ht rfl
theorem own_slice {w : World} {base : Nat} {e : TypeId} {size n : Nat} {v : Value} {xs : List Value} (h : w.ownsRow base e size v n xs) : ∃ A c, v = .slice A n c ∧ Reads w w.heap.size size A n xs ∧ n ≤ c := by
  have hr := h
  rcases h.2 with ⟨rfl, h0⟩ | ⟨g, cap, cur, rfl, _, hg, hc, _⟩
  · refine ⟨none, 0, by rw [h0], ⟨h.1, fun hn => by omega⟩, by omega⟩
  · exact ⟨some ⟨g, 0, none⟩, cap, rfl, Reads.of_own hr, hc⟩
theorem own_slice' {w : World} {base : Nat} {e : TypeId} {size n : Nat} {v : Value} {xs : List Value} (h : w.ownsRow base e size v n xs) : ∃ A c, v = .slice A n c := by
  rcases h.2 with ⟨h0, h1⟩ | ⟨g, cap, cur, h0, _⟩
  · exact ⟨none, 0, by rw [h0, h1]⟩
  · exact ⟨_, _, h0⟩
theorem own_step {w w' : World} {base : Nat} {e : TypeId} {size n : Nat} {v : Value} {xs : List Value} (ho : w.ownsRow base e size v n xs) (h : Below w.heap.size w w') : w'.ownsRow base e size v n xs :=
  ho.kept (only_of_below h none) (by cases h1 : v.ownBlock with | none => exact .inl rfl | some g => exact .inr (by simp))
theorem own_kept {w w' : World} {b b' : Nat} {e e' : TypeId} {s s' n n' : Nat} {v v' : Value} {xs xs' : List Value} (h : w.ownsRow b e s v n xs) (h' : w.ownsRow b' e' s' v' n' xs') (hne : e ≠ e') (hg : w.grownBy w' v'.ownBlock) : w'.ownsRow b e s v n xs := by
  refine h.kept hg ?_
  rcases h.2 with ⟨rfl, _⟩ | ⟨g, cap, cur, rfl, _, hk, _⟩
  · exact .inl rfl
  · exact .inr (own_ne h' hk hne)
end Go.Proofs.YtcibcmfaebbhnaaDoor
