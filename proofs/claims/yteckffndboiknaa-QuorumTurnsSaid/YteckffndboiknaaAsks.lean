/-
  Contracts of the law's asks, watched1.
-/
import Derived.Test.YteckffndboiknaaEnters
set_option linter.unusedVariables false
namespace Go.Proofs.Yteckffndboiknaa
open Go.RowKit Go.WideShapes Go.ChangeShapes Q

set_option maxRecDepth 100000 in
set_option maxHeartbeats 4000000 in
theorem asks_any (kind : Int) (base p r : Nat) (g : Option Nat) (vs : List Int) (L : List Ve) (w : World) (hp : PW w base p vs (hist L)) (hr : RW w base r g vs L) (hL : L.length ≤ 17592186044416) :
    Calls Try.prog 30 #[.pointer (some ⟨p, 0, none⟩), .pointer (some ⟨r, 0, none⟩), .int .i64 kind] w fun e w' => e = .returned (.bool true) ∧ Below w.heap.size w w' := by
  have hhl := hide (hist_len L)
  by_cases h2 : kind = 2
  · subst h2
    go_enter Try.func30, Try.ntmps30
    go_wp2_with fail
    refine (in_w base p vs (hist L) w hp).mono ?_
    rintro e w1 ⟨rfl, rfl⟩
    go_wp2_with fail
    refine (in_r base r g vs L w hr hL).mono ?_
    rintro e w1 ⟨rfl, hb⟩
    go_wp2
    go_ret
    exact ⟨rfl, hb⟩
  have d2 : (kind == 2) = false := by simp [h2]
  by_cases h3 : kind = 3
  · subst h3
    go_enter Try.func30, Try.ntmps30
    go_wp2_with fail
    refine (last_w base p vs (hist L) w hp).mono ?_
    rintro e w1 ⟨rfl, hb⟩
    go_wp2_with fail
    refine (last_r base r g vs L w1 (hr.below hb) hL).mono ?_
    rintro e w2 ⟨rfl, hb2⟩
    go_wp2
    go_ret
    exact ⟨rfl, hb.trans (hb2.mono hb.size)⟩
  have d3 : (kind == 3) = false := by simp [h3]
  by_cases h4 : kind = 4
  · subst h4
    go_enter Try.func30, Try.ntmps30
    go_wp2_with fail
    refine (count_w base p vs (hist L) w hp).mono ?_
    rintro e w1 ⟨rfl, hb⟩
    go_wp2_with fail
    refine (count_r base r g vs L w1 (hr.below hb) hL).mono ?_
    rintro e w2 ⟨rfl, hb2⟩
    rw [hhl.out]
    go_wp2
    go_ret
    exact ⟨rfl, hb.trans (hb2.mono hb.size)⟩
  have d4 : (kind == 4) = false := by simp [h4]
  clear h2 h3 h4
  go_enter Try.func30, Try.ntmps30
  go_wp2
  go_ret
  exact ⟨rfl, Below.refl _ _⟩

/-- A step of a watch: its kind, its view. -/
structure Oe where
  kind : Int
  e : Ve
def Oe.cells (o : Oe) : List Value := .int .i64 o.kind :: o.e.cells
def opV (o : Oe) : Value := .agg #[.int .i64 o.kind, .int .i64 o.e.v.ep, .int .i64 o.e.v.lead, .int .i64 o.e.v.inc, .int .i64 o.e.v.cid, .slice o.e.A o.e.v.ms.length o.e.c]
/-- The history behind a step. -/
noncomputable def stH (vs : List Int) (h : List Vw) (o : Oe) : List Vw := if o.kind = 1 then enH vs h o.e.v else h
theorem stH_len (vs : List Int) (h : List Vw) (o : Oe) : (stH vs h o).length ≤ h.length + 1 := by
  unfold stH
  split
  · exact enH_len _ _ _
  · omega

set_option maxRecDepth 100000 in
set_option maxHeartbeats 1000000 in
theorem watched1_any (o : Oe) (base p r : Nat) (g : Option Nat) (vs : List Int) (L : List Ve) (w : World) (hp : PW w base p vs (hist L)) (hr : RW w base r g vs L) (hv : RS w base o.e.A o.e.v.ms.length o.e.v.ms) (hn : o.e.v.ms.length * 24 ≤ 140737488351232) (hL : (L.length + 1) * 56 ≤ 140737488351232) :
    Calls Try.prog 29 #[.pointer (some ⟨p, 0, none⟩), .pointer (some ⟨r, 0, none⟩), opV o] w (StepP base p r g vs L (stH vs (hist L) o) w) := by
  have hbp : base ≤ p := by obtain ⟨_, _, hq, _⟩ := id hp; exact hq
  have hpl := hp.lt
  have H0 : Below w.heap.size w (w.alloc (.cells #[.int .i64 o.kind, .int .i64 o.e.v.ep, .int .i64 o.e.v.lead, .int .i64 o.e.v.inc, .int .i64 o.e.v.cid, .slice o.e.A o.e.v.ms.length o.e.c] 65)) := (Below.refl _ w).alloc (Nat.le_refl _) _
  have P0 := hp.below H0
  have R0 := hr.below H0
  have V0 : RS _ base o.e.A o.e.v.ms.length o.e.v.ms := Reads.below hv (H0.mono (by omega))
  have hback : ∀ h' e w', StepP base p r g vs L h' (w.alloc (.cells #[.int .i64 o.kind, .int .i64 o.e.v.ep, .int .i64 o.e.v.lead, .int .i64 o.e.v.inc, .int .i64 o.e.v.cid, .slice o.e.A o.e.v.ms.length o.e.c] 65)) e w' → StepP base p r g vs L h' w e w' := fun h' e w' ⟨he, g', L', a, b, c, d, f⟩ =>
    ⟨he, g', L', a, b, c, (Only.of_below H0 (Nat.le_refl _)).trans d, by
      rcases f with f | ⟨k, f, f2⟩
      · exact .inl f
      · exact .inr ⟨k, f, by have := H0.size; omega⟩⟩
  have HB := hide hback
  clear hback H0
  unfold opV
  by_cases h1 : o.kind = 1
  · have d1 : (o.kind == 1) = true := by simp [h1]
    have HH : Hid (stH vs (hist L) o = enH vs (hist L) o.e.v) := by show _ = _; unfold stH; rw [if_pos h1]
    clear h1
    go_enter Try.func29, Try.ntmps29
    go_wp2_with fail
    have HE := enters_any o.e.v o.e.A _ o.e.c base p r g vs L _ P0 R0 V0 hn hL
    refine HE.mono ?_
    rintro e w1 hst
    have HST := hide hst
    obtain ⟨rfl, _⟩ := hst
    go_wp2
    go_ret
    rw [HH.out]
    exact HB.out _ _ _ HST.out
  · have d1 : (o.kind == 1) = false := by simp [h1]
    have HH : Hid (stH vs (hist L) o = hist L) := by show _ = _; unfold stH; rw [if_neg h1]
    clear h1
    go_enter Try.func29, Try.ntmps29
    go_wp2_with fail
    refine (asks_any o.kind base p r g vs L _ P0 R0 (by omega)).mono ?_
    rintro e w1 ⟨rfl, hb⟩
    have P1 := hide (P0.below hb)
    have R1 := hide (R0.below hb)
    have hb := hide hb
    go_wp2
    go_ret
    rw [HH.out]
    exact HB.out _ _ _ ⟨rfl, g, L, P1.out, R1.out, rfl, Only.of_below hb.out (Nat.le_refl _), .inl rfl⟩
end Go.Proofs.Yteckffndboiknaa
