/-
  Plain: a script's configuration out of its second and third lines.
-/
import Derived.Test.YtcibcmfaebbhnaaDoorZWno
import Derived.Test.YtcibcmfaebbhnaaDoorZWds
import Derived.Test.YtcibcmfaebbhnaaDoorZCfgB
set_option linter.unusedVariables false
set_option linter.unusedSimpArgs false
namespace Go.Proofs.YtcibcmfaebbhnaaDoor
open Go

def Cfg.zero : Cfg := ⟨0, 0, 0, 0, 0, 0, 0, []⟩
def cfNames : List (List UInt8) := [[110, 111, 100, 101, 115], [119, 105, 110, 100, 111, 119], [98, 97, 115, 101], [115, 116, 101, 112], [99, 97, 112], [114, 111, 111, 109], [102, 108, 111, 111, 114]]
/-- Names and counts by turns: the counts. -/
def pairP : List (List UInt8) → List Wd → Option (List Int)
  | [], [] => some []
  | n :: ns, a :: b :: ws => if a.2 = false ∧ a.1 = n then (match wcnt b with | some x => (pairP ns ws).map ((x : Int) :: ·) | none => none) else none
  | _, _ => none
/-- Counts. -/
def votP : List Wd → Option (List Int)
  | [] => some []
  | w :: ws => match wcnt w with | some x => (votP ws).map ((x : Int) :: ·) | none => none
def votes8 : List UInt8 := [118, 111, 116, 101, 115]
def cfgP (l m : List Wd) : Option Cfg := match pairP cfNames l, m with
  | some [a, b, c, d, e, f, g], v :: vs => if v.2 = false ∧ v.1 = votes8 ∧ 1 ≤ vs.length ∧ vs.length ≤ 16 then (votP vs).map (fun l => ⟨a, b, c, d, e, f, g, l⟩) else none
  | _, _ => none
/-- A configuration of two lines. -/
def cfgL (s t : List UInt8) : Option Cfg := match wordsG true s, wordsG true t with
  | some l, some m => cfgP l m
  | _, _ => none
theorem wcntZ_of {d : Wd} (h : 0 ≤ wcntZ d) : ∃ x : Nat, wcnt d = some x ∧ wcntZ d = (x : Int) := by
  unfold wcntZ at h ⊢
  cases hw : wcnt d with
  | none => rw [hw] at h; exact absurd h (by decide)
  | some x => exact ⟨x, rfl, rfl⟩
theorem wcntZ_no {d : Wd} (h : ¬ 0 ≤ wcntZ d) : wcnt d = none := by
  unfold wcntZ at h
  cases hw : wcnt d with
  | none => rfl
  | some x => rw [hw] at h; exact absurd (Int.natCast_nonneg x) h
theorem pair_len : ∀ (ns : List (List UInt8)) (ws : List Wd), ¬ ws.length = 2 * ns.length → pairP ns ws = none
  | [], [], h => absurd rfl h
  | [], _ :: _, _ => rfl
  | _ :: _, [], _ => rfl
  | _ :: _, [_], _ => rfl
  | n :: ns, a :: b :: ws, h => by
    have ih := pair_len ns ws (by simp only [List.length_cons] at h; omega)
    unfold pairP
    split
    · cases wcnt b with
      | none => rfl
      | some x => simp only [ih, Option.map_none]
    · rfl
/-- One word is not as it should be. -/
theorem pair_bad : ∀ (ns : List (List UInt8)) (ws : List Wd) (k : Nat) (n : List UInt8) (a b : Wd), ns[k]? = some n → ws[2 * k]? = some a → ws[2 * k + 1]? = some b → ¬ ((a.2 = false ∧ a.1 = n) ∧ 0 ≤ wcntZ b) → pairP ns ws = none
  | n' :: ns, a' :: b' :: ws, 0, n, a, b, hn, ha, hb, h => by
    obtain rfl : n' = n := by simpa using hn
    obtain rfl : a' = a := by simpa using ha
    obtain rfl : b' = b := by simpa using hb
    unfold pairP
    by_cases h1 : a'.2 = false ∧ a'.1 = n'
    · rw [if_pos h1, wcntZ_no (fun h2 => h ⟨h1, h2⟩)]
    · rw [if_neg h1]
  | n' :: ns, a' :: b' :: ws, k + 1, n, a, b, hn, ha, hb, h => by
    have ih := pair_bad ns ws k n a b (by simpa using hn) (by rw [show 2 * (k + 1) = 2 * k + 1 + 1 by omega] at ha; simpa using ha) (by rw [show 2 * (k + 1) + 1 = 2 * k + 1 + 1 + 1 by omega] at hb; simpa using hb) h
    unfold pairP
    split
    · cases wcnt b' with
      | none => rfl
      | some x => simp only [ih, Option.map_none]
    · rfl
  | _ :: _, [], _, _, _, _, _, _, _, _ => rfl
  | _ :: _, [_], _, _, _, _, _, _, _, _ => rfl
  | [], _, k, _, _, _, hn, _, _, _ => by simp at hn
/-- All are. -/
theorem pair_good : ∀ (ns : List (List UInt8)) (ws : List Wd), ws.length = 2 * ns.length → (∀ k n a b, ns[k]? = some n → ws[2 * k]? = some a → ws[2 * k + 1]? = some b → (a.2 = false ∧ a.1 = n) ∧ 0 ≤ wcntZ b) →
    ∃ vs, pairP ns ws = some vs ∧ vs.length = ns.length ∧ ∀ k b, ws[2 * k + 1]? = some b → vs[k]? = some (wcntZ b)
  | [], [], _, _ => ⟨[], rfl, rfl, fun k b h => by simp at h⟩
  | [], _ :: _, h, _ => by simp at h
  | _ :: _, [], h, _ => by simp at h
  | _ :: _, [_], h, _ => by simp at h; omega
  | n :: ns, a :: b :: ws, h, hc => by
    obtain ⟨h1, h2⟩ := hc 0 n a b rfl rfl rfl
    obtain ⟨x, hx, hz⟩ := wcntZ_of h2
    obtain ⟨vs, e1, e2, e3⟩ := pair_good ns ws (by simp only [List.length_cons] at h; omega) (fun k n' a' b' q1 q2 q3 => hc (k + 1) n' a' b' (by simpa using q1) (by rw [show 2 * (k + 1) = 2 * k + 1 + 1 by omega]; simpa using q2) (by rw [show 2 * (k + 1) + 1 = 2 * k + 1 + 1 + 1 by omega]; simpa using q3))
    refine ⟨(x : Int) :: vs, ?_, by simp [e2], ?_⟩
    · unfold pairP
      rw [if_pos h1, hx, e1]
      rfl
    · intro k b' hb
      cases k with
      | zero =>
        obtain rfl : b = b' := by simpa using hb
        rw [hz]
        rfl
      | succ k =>
        have := e3 k b' (by rw [show 2 * (k + 1) + 1 = 2 * k + 1 + 1 + 1 by omega] at hb; simpa using hb)
        simpa using this
end Go.Proofs.YtcibcmfaebbhnaaDoor
