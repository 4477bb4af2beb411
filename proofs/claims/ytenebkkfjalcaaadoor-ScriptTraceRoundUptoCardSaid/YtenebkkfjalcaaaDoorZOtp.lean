/-
  What is read as a trace is the text of its marks, plain.
-/
import Derived.Test.YtenebkkfjalcaaaDoorZRpa
import Derived.Test.YtenebkkfjalcaaaDoorZPsz
set_option linter.unusedVariables false
set_option linter.unusedSimpArgs false
namespace Go.Proofs.YtenebkkfjalcaaaDoor
open Go.RowKit Go.WideShapes Go.ChangeShapes Q

/-- A mark's line and its end. -/
def lnP (p : PM) : List UInt8 := lineL p.toMk ++ [10]
/-- This mark can be written on one line. -/
def OkL (p : PM) : Prop := wrB p.toMk = true ∧ ∀ q ∈ lineL p.toMk, ¬ q = 10
theorem good_line {p : PM} (h : OkL p) : goodL (lineL p.toMk) = some p := good_yes ⟨h.1, rfl⟩
/-- What is read of the lines: an error, or the marks whose lines they are. -/
theorem trL_rd (E : Bool) : ∀ (k : Nat) (r : List UInt8), r.length ≤ k → (r ≠ [] → E = endsNL r) → ∀ (n : Nat) (acc : List PM),
    (∃ j, n ≤ j ∧ trL E n acc (linG [] r) = ([], j, 23)) ∨ (∃ L, trL E n acc (linG [] r) = (acc ++ L, 0, 0) ∧ r = L.flatMap lnP ∧ ∀ p ∈ L, OkL p)
  | k, [], hk, hE, n, acc => .inr ⟨[], by rw [List.append_nil]; rfl, rfl, fun p hp => by cases hp⟩
  | 0, x :: r, hk, hE, n, acc => by simp at hk
  | k + 1, x :: r0, hk, hE, n, acc => by
    obtain ⟨r, hr⟩ : ∃ r, r = x :: r0 := ⟨_, rfl⟩
    have hne : r ≠ [] := by rw [hr]; exact List.cons_ne_nil _ _
    rw [← hr] at hk hE ⊢
    have hE1 := hE hne
    rcases cut10 r with ⟨a, b, hab, hfr, _⟩ | ⟨hfr, _⟩
    · have hl : linG [] r = a :: linG [] b := by rw [hab, lin_line a b hfr]
      rw [hl]
      cases hg : goodL a with
      | none => exact .inl ⟨n, Nat.le_refl _, trL_no hg⟩
      | some p =>
        have hno : ¬ (linG [] b = [] ∧ E = false) := by
          rintro ⟨h1, h2⟩
          rw [hE1, hab, lin_nil h1, ends_nl] at h2
          cases h2
        rw [trL_yes hg hno]
        have hbl : b.length ≤ k := by
          have : r.length = a.length + 1 + b.length := by rw [hab]; simp; omega
          omega
        have hok := good_ok hg
        rcases trL_rd E k b hbl (fun hb => by rw [hE1, hab, show a ++ 10 :: b = (a ++ [10]) ++ b by simp, ends_app hb]) (n + 1) (acc ++ [p]) with ⟨j, h1, h2⟩ | ⟨L, h1, h2, h3⟩
        · exact .inl ⟨j, by omega, h2⟩
        · refine .inr ⟨p :: L, by rw [h1]; simp, ?_, fun q hq => ?_⟩
          · rw [hab, List.flatMap_cons, ← h2, lnP, hok.2]
            simp
          · rcases List.mem_cons.1 hq with rfl | hq
            · exact ⟨hok.1, by rw [hok.2]; exact hfr⟩
            · exact h3 q hq
    · rw [lin_last r hfr hne]
      exact .inl ⟨n, Nat.le_refl _, trL_cut rfl (by rw [hE1, ends_last hfr])⟩
theorem lin_marks : ∀ (L : List PM), (∀ p ∈ L, OkL p) → linG [] (L.flatMap lnP) = L.map fun p => lineL p.toMk
  | [], _ => rfl
  | p :: L, h => by
    have e : (p :: L).flatMap lnP = lineL p.toMk ++ 10 :: L.flatMap lnP := by simp [lnP]
    rw [e, lin_line _ _ (h p (by simp)).2, lin_marks L (fun q hq => h q (by simp [hq]))]
    rfl
theorem trL_marks (E : Bool) : ∀ (L : List PM) (n : Nat) (acc : List PM), (∀ p ∈ L, OkL p) → (L ≠ [] → E = true) → trL E n acc (L.map fun p => lineL p.toMk) = (acc ++ L, 0, 0)
  | [], n, acc, _, _ => by rw [List.append_nil]; rfl
  | p :: L, n, acc, h, hE => by
    have hE1 := hE (List.cons_ne_nil _ _)
    rw [List.map_cons, trL_yes (good_line (h p (by simp))) (by rintro ⟨_, h2⟩; rw [hE1] at h2; cases h2), trL_marks E L (n + 1) (acc ++ [p]) (fun q hq => h q (by simp [hq])) (fun _ => hE1)]
    simp
theorem ends_marks : ∀ (L : List PM), L ≠ [] → ∀ t, endsNL (t ++ L.flatMap lnP) = true := by
  intro L hL t
  obtain ⟨L', p, rfl⟩ : ∃ L' p, L = L' ++ [p] := ⟨L.dropLast, L.getLast hL, (List.dropLast_concat_getLast hL).symm⟩
  have e : t ++ (L' ++ [p]).flatMap lnP = (t ++ (L'.flatMap lnP ++ lineL p.toMk)) ++ [10] := by simp [lnP]
  rw [e, ends_nl]
/-- The trace of marks that can be written. -/
theorem trace_marks {L : List PM} (h : ∀ p ∈ L, OkL p) : traceT (headT ++ L.flatMap lnP) = (L, 0, 0) := by
  rw [trace_rest rfl, lin_marks L h, trL_marks _ L 2 [] h (fun hL => ends_marks L hL headT)]
  rfl
/-- What a text says: no head, an error in a line, or marks whose text it is. -/
theorem trace_cases (t : List UInt8) : traceT t = ([], 0, 21) ∨ (∃ j, 2 ≤ j ∧ traceT t = ([], j, 23)) ∨ (∃ L, traceT t = (L, 0, 0) ∧ t = headT ++ L.flatMap lnP ∧ ∀ p ∈ L, OkL p) := by
  cases hp : Lib.hasPrefix t headT with
  | false => exact .inl (trace_no hp)
  | true =>
    right
    unfold Lib.hasPrefix at hp
    obtain ⟨r, hr⟩ := List.isPrefixOf_iff_prefix.1 hp
    rw [trace_rest hr.symm]
    rcases trL_rd (endsNL t) r.length r (Nat.le_refl _) (fun hne => by rw [← hr, ends_app hne]) 2 [] with ⟨j, h1, h2⟩ | ⟨L, h1, h2, h3⟩
    · exact .inl ⟨j, h1, h2⟩
    · refine .inr ⟨L, by rw [h1]; rfl, by rw [← h2, hr], h3⟩
/-- The sizes of a mark of a line. -/
theorem ok_sz {p : PM} {s : List UInt8} (h : okPM p s) : PZ p s.length s.length := by
  have h1 := ok_ref h
  unfold markC at h1
  split at h1
  · rename_i a k b i r h2
    injection h1 with h1
    have hs := cut_sum _ 32 [] s (Nat.le_refl _) _ h2
    simp only [sumL_cons, List.length_cons, List.length_nil] at hs
    have h3 := fold_sz r { PM.zero with aT := looseZ a, kd := kindC k, nd := looseZ b, ic := looseZ i } 0 0 ⟨Nat.le_refl _, Nat.le_refl _, Nat.le_refl _, Nat.le_refl _, Nat.le_refl _, Nat.le_refl _, Nat.le_refl _⟩
    rw [h1] at h3
    exact h3.mono (by omega) (by omega)
  · cases h1
theorem mem_len_le {L : List PM} {p : PM} (hp : p ∈ L) : (lineL p.toMk).length ≤ (L.flatMap lnP).length := by
  induction L with
  | nil => cases hp
  | cons x L ih =>
    rw [List.flatMap_cons, List.length_append, lnP, List.length_append]
    rcases List.mem_cons.1 hp with rfl | hp
    · omega
    · have := ih hp
      omega
theorem marks_count (L : List PM) : L.length ≤ (L.flatMap lnP).length := by
  induction L with
  | nil => simp
  | cons x L ih =>
    rw [List.flatMap_cons, List.length_append, lnP, List.length_append]
    simp only [List.length_cons, List.length_nil]
    omega
theorem out_marks (ms : List Mk) (h : ∀ m ∈ ms, m.ms.length = m.nm ∧ m.ts.length = m.nt) : outL ms = headT ++ (ms.map Mk.pm).flatMap lnP := by
  unfold outL
  congr 1
  induction ms with
  | nil => rfl
  | cons m ms ih =>
    rw [List.map_cons, List.flatMap_cons, List.flatMap_cons, ih fun x hx => h x (by simp [hx])]
    congr 1
    have h1 := h m (by simp)
    obtain ⟨aT, kd, nd, ic, ep, ld, ii, ci, Am, nm, cm, ms', At, nt, ct, ts, se, sq, po, n, Ab, nb, cb, bd, cl, cn, rq, op, key, val, old, co, rv, rn, er⟩ := m
    obtain ⟨h1, h2⟩ := h1
    simp only at h1 h2
    subst h1 h2
    rfl
end Go.Proofs.YtenebkkfjalcaaaDoor
