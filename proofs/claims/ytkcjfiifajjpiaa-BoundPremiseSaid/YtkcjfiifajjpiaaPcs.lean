/-
  Pieces and the copied events' row, as the law's premise holds them.
-/
import Derived.Test.YtkcjfiifajjpiaaCopy
import Derived.Test.YtkcjfiifajjpiaaPrem
set_option linter.unusedVariables false
set_option linter.unusedSimpArgs false
namespace Go.Proofs.Ytkcjfiifajjpiaa
open Go.RowKit Go.WideShapes Go.ChangeShapes Q

theorem info22 : (Try.prog.info? 22).map (fun i => (i.zero, i.size, i.bytes)) = some (some (.slice none 0 0), 1, 24) := by kernel_rfl
theorem not35_22 : ¬ Num35 22 := by rintro (h | h) <;> cases h
theorem not35_35 : ¬ Num35 35 := by rintro (h | h) <;> cases h

structure Pc where
  g : Nat
  cap : Nat
  n : Nat
def Pc.val (p : Pc) : Value := .slice (some ⟨p.g, 0, none⟩) (p.n + 64) p.cap
/-- Pieces of the first events' sides. -/
def PsAt (w : World) (ps : List Pc) (l : List El) : Prop := ∀ (i : Nat) (p : Pc) (x : El), ps[i]? = some p → l[i]? = some x → p.n = x.zs.length ∧ p.n + 64 ≤ p.cap ∧ RN 3 w (some ⟨p.g, 0, none⟩) (p.n + 64) (ints (x.zs ++ marks 64))
theorem PsAt.st {S : Nat → Prop} {w w' : World} {ps : List Pc} {l : List El} (h : PsAt w ps l) (hs : St S w w') : PsAt w' ps l := fun i p x hp hx => ⟨(h i p x hp hx).1, (h i p x hp hx).2.1, (h i p x hp hx).2.2.st (.inl rfl) hs⟩
theorem PsAt.nil (w : World) (l : List El) : PsAt w [] l := fun i p x hp => by simp at hp
theorem PsAt.snoc {w : World} {ps : List Pc} {l : List El} (h : PsAt w ps l) {p : Pc} {x : El} (hx : l[ps.length]? = some x) (h1 : p.n = x.zs.length) (h2 : p.n + 64 ≤ p.cap) (h3 : RN 3 w (some ⟨p.g, 0, none⟩) (p.n + 64) (ints (x.zs ++ marks 64))) : PsAt w (ps ++ [p]) l := by
  intro i q y hq hy
  by_cases hi : i < ps.length
  · rw [List.getElem?_append_left hi] at hq
    exact h i q y hq hy
  · by_cases he : i = ps.length
    · subst he
      simp at hq
      subst hq
      rw [hx] at hy
      cases hy
      exact ⟨h1, h2, h3⟩
    · rw [List.getElem?_eq_none (by simp; omega)] at hq
      cases hq

/-- Copied events in their row, to be written into. -/
structure EvR (w : World) (base : Nat) (E : Option Addr) (l : List El) : Prop where
  row : 0 < l.length → ∃ g cs, E = some ⟨g, 0, none⟩ ∧ base ≤ g ∧ Blk w g 45 cs ∧ ∀ i, i < l.length * 13 → cs[i]? = (ecells l)[i]?
  own : ∀ x ∈ l, x.Own w
theorem EvR.of {w : World} {base : Nat} {A : Option Addr} {c : Nat} {l : List El} (h : EvsOwn w base (.slice A l.length c) l) : EvR w base A l := by
  refine ⟨fun hl => ?_, h.2⟩
  obtain ⟨g, cap, cur, e, hge, hg, hc, hm, hs, ht⟩ := own_some h.1 hl
  injection e with e1 e2 e3
  refine ⟨g, cur, e1, hge, hg, fun i hi => ?_⟩
  rw [← ht, List.getElem?_take, if_pos hi]
  simp
theorem EvR.in_ {w : World} {base : Nat} {A : Option Addr} {l : List El} (h : EvR w base A l) : EvsIn w w.heap.size A l := by
  refine ⟨⟨by rw [ecells_len], fun hn => ?_⟩, fun x hx => (h.own x hx).good⟩
  obtain ⟨g, cs, rfl, _, hb, hc⟩ := h.row hn
  refine ⟨_, rfl, hb.lt, fun j v hv => ?_⟩
  have hj : j < l.length * 13 := by rw [← ecells_len]; exact (List.getElem?_eq_some_iff.1 hv).1
  have e : (⟨g, 0, none⟩ : Addr).add j = ⟨g, j, none⟩ := by
    unfold Addr.add
    split
    · rename_i h0; subst h0; rfl
    · simp
  rw [e, hb.cell, hc j hj]
  exact hv
theorem EvR.st {S : Nat → Prop} {w w' : World} {base : Nat} {A : Option Addr} {l : List El} (h : EvR w base A l) (hs : St S w w') (hS : ∀ g, A = some ⟨g, 0, none⟩ → ¬ S g) : EvR w' base A l := by
  refine ⟨fun hn => ?_, fun x hx => (h.own x hx).st hs⟩
  obtain ⟨g, cs, e, hg, hb, hc⟩ := h.row hn
  exact ⟨g, cs, e, hg, hb.st hs (hS g e), hc⟩
theorem EvR.st0 {w w' : World} {base : Nat} {A : Option Addr} {l : List El} (h : EvR w base A l) (hs : St (fun _ => False) w w') : EvR w' base A l := h.st hs fun _ _ e => e
theorem ecells_set (l : List El) (j : Nat) (x : El) (A : Option Addr) (c : Nat) (hx : l[j]? = some x) (i : Nat) (hi : i < l.length * 13) :
    (ecells (l.set j { x with A := A, c := c }))[i]? = if i = j * 13 + 12 then some (.slice A x.zs.length c) else (ecells l)[i]? := by
  have hk : i = (i / 13) * 13 + i % 13 := by omega
  have hr : i % 13 < 13 := by omega
  have hkl : i / 13 < l.length := by omega
  obtain ⟨y, hy⟩ : ∃ y, l[i / 13]? = some y := ⟨_, List.getElem?_eq_getElem hkl⟩
  generalize hq : i / 13 = q at *
  generalize hs : i % 13 = r at *
  subst hk
  rw [ecells_at l q y hy r hr]
  by_cases e : q = j
  · subst e
    rw [hx] at hy
    cases hy
    rw [ecells_at _ q { x with A := A, c := c } (by rw [List.getElem?_set]; simp [hkl]) r hr]
    by_cases e2 : r = 12
    · subst e2
      rw [if_pos rfl]
      rfl
    · rw [if_neg (by omega)]
      have : r < 12 := by omega
      match r, this with
      | 0, _ => rfl
      | 1, _ => rfl
      | 2, _ => rfl
      | 3, _ => rfl
      | 4, _ => rfl
      | 5, _ => rfl
      | 6, _ => rfl
      | 7, _ => rfl
      | 8, _ => rfl
      | 9, _ => rfl
      | 10, _ => rfl
      | 11, _ => rfl
  · rw [if_neg (by omega), ecells_at _ q y (by rw [List.getElem?_set_ne (fun e' => e e'.symm)]; exact hy) r hr]
theorem EvR.set_ {w : World} {base g j : Nat} {l : List El} {x : El} {A : Option Addr} {c : Nat} (h : EvR w base (some ⟨g, 0, none⟩) l) (hx : l[j]? = some x) (hr : RN 3 w A x.zs.length (ints x.zs)) :
    EvR (w.setCell ⟨g, j * 13 + 12, none⟩ (.slice A x.zs.length c)) base (some ⟨g, 0, none⟩) (l.set j { x with A := A, c := c }) ∧ base ≤ g ∧ (∃ cs, Blk w g 45 cs) := by
  have hj : j < l.length := (List.getElem?_eq_some_iff.1 hx).1
  obtain ⟨g', cs, e, hge, hb, hc⟩ := h.row (by omega)
  injection e with e
  injection e with e
  subst e
  refine ⟨⟨fun hn => ?_, fun y hy => ?_⟩, hge, cs, hb⟩
  · refine ⟨g, _, rfl, hge, hb.set_ (j * 13 + 12) _, fun i hi => ?_⟩
    rw [List.length_set] at hi
    rw [ecells_set l j x A c hx i hi, Array.getElem?_setIfInBounds]
    by_cases e2 : i = j * 13 + 12
    · subst e2
      have hlt : j * 13 + 12 < cs.size := by
        have := hc (j * 13 + 12) hi
        rw [List.getElem?_eq_getElem (by rw [ecells_len]; exact hi)] at this
        exact (Array.getElem?_eq_some_iff.1 this).1
      simp [hlt]
    · rw [if_neg (fun e3 => e2 e3.symm), if_neg e2]
      exact hc i hi
  · have st : St (fun _ => True) w (w.setCell ⟨g, j * 13 + 12, none⟩ (.slice A x.zs.length c)) := (St.refl _ w).setCell hb not35_45 (fun _ => trivial) _
    rcases List.mem_or_eq_of_mem_set hy with hy | hy
    · exact (h.own y hy).st st
    · subst hy
      have ho := h.own x (List.mem_of_getElem? hx)
      exact ⟨hr.st (.inl rfl) st, ho.2.1, ho.2.2.1.st (.inr rfl) st, ho.2.2.2⟩
theorem map_set {l : List El} {j : Nat} {x : El} (A : Option Addr) (c : Nat) (hx : l[j]? = some x) : (l.set j { x with A := A, c := c }).map El.plain = l.map El.plain := by
  rw [List.map_set]
  apply List.ext_getElem?
  intro i
  rw [List.getElem?_set]
  split
  · rename_i e
    subst e
    rw [List.getElem?_map, hx]
    split
    · rfl
    · rename_i h
      rw [List.length_map] at h
      exact absurd (List.getElem?_eq_some_iff.1 hx).1 h
  · rfl
end Go.Proofs.Ytkcjfiifajjpiaa
