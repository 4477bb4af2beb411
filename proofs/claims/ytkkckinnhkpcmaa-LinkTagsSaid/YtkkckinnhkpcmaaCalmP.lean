/-
  A turn, plainly: all frames arrive, then what is owed; how far it brings a stream.
-/
import Derived.Test.YtkkckinnhkpcmaaTalk
set_option linter.unusedVariables false
namespace Go.Proofs.Ytkkckinnhkpcmaa
open Q

def clearS (x : Wr) (s : Nat) : Wr := { x with F := upd x.F s [], A := upd x.A s [] }
/-- The first k frames of the network have come. -/
def carryK (x : Wr) (s : Nat) (k : Nat) : Wr := (List.range k).foldl (fun y (i : Nat) => carryS y s (1 - s) (i : Int)) x
theorem carryK_succ (x : Wr) (s k : Nat) : carryK x s (k + 1) = carryS (carryK x s k) s (1 - s) (k : Int) := by
  unfold carryK
  rw [List.range_succ, List.foldl_append]
  rfl
def halfT (W : Nat) (x : Wr) (s : Nat) : Wr := carryK (showS W (clearS x s) s) s ((showS W (clearS x s) s).F s).length
def ansT (x : Wr) (s : Nat) : Wr := answerS (oweS x s) s (1 - s) 0
def turnS (W : Nat) (x : Wr) : Wr := ansT (ansT (halfT W (halfT W x 0) 1) 0) 1

section
variable {W Sp n : Nat} {x : Wr}
theorem Inv.clear (h : Inv W Sp n x) (s : Nat) : Inv W Sp n (clearS x s) := by
  intro s' t' hst
  obtain ⟨p, q, hh⟩ := h s' t' hst
  refine ⟨p, q, hh.af, hh.bn, hh.out, hh.pP, hh.room, hh.oq, hh.qP, hh.pq, hh.qW, hh.el, hh.ear, hh.e0, ?_, ?_, hh.len, hh.cP, ?_, ?_⟩
  · intro f hf
    have hf' : f ∈ upd x.F s [] s' := hf
    by_cases e : s' = s
    · subst e; rw [upd_same] at hf'; cases hf'
    · rw [upd_ne _ _ _ _ e] at hf'; exact hh.fr f hf'
  · intro u hu
    have hu' : u ∈ upd x.A s [] t' := hu
    by_cases e : t' = s
    · subst e; rw [upd_same] at hu'; cases hu'
    · rw [upd_ne _ _ _ _ e] at hu'; exact hh.ak u hu'
  · show (upd x.F s [] s').length ≤ _
    by_cases e : s' = s
    · subst e; rw [upd_same]; simp
    · rw [upd_ne _ _ _ _ e]; exact hh.cF
  · show (upd x.A s [] t').length ≤ _
    by_cases e : t' = s
    · subst e; rw [upd_same]; simp
    · rw [upd_ne _ _ _ _ e]; exact hh.cA
theorem Inv.carryK (h : Inv W Sp n x) {s : Nat} (hs : s < 2) : ∀ k, Inv W Sp n (carryK x s k)
  | 0 => h
  | k + 1 => by
    rw [carryK_succ]
    exact (Inv.carryK h hs k).carry (s := s) (t := 1 - s) (by omega) _
theorem Inv.halfT (h : Inv W Sp n x) {s : Nat} (hs : s < 2) (hW : W ≤ 5) : Inv W Sp (n + 1) (halfT W x s) := Inv.carryK ((h.clear s).show_ s hs hW) hs _
theorem Inv.ansT (h : Inv W Sp n x) {s : Nat} (hs : s < 2) : Inv W Sp (n + 1) (ansT x s) := (h.owe s hs).answer (s := s) (t := 1 - s) (by omega) _
theorem Inv.turn (h : Inv W Sp n x) (hW : W ≤ 5) : Inv W Sp (n + 4) (turnS W x) :=
  (((h.halfT (by omega) hW).halfT (by omega) hW).ansT (by omega)).ansT (by omega)
end
end Go.Proofs.Ytkkckinnhkpcmaa
