/-
  QuorumPlace: the answers hang on the votes, not on where they lie. No condition. (Printed by wip/tools/mkslrow.py.)
-/
import Derived.Test.YteckffndboiknaaPlaceW
import Derived.Test.YteckffndboiknaaFrame
set_option linter.unusedVariables false
namespace Go.Proofs.Yteckffndboiknaa.rowQuorumPlace
open Go.ChangeShapes Go.WideShapes Go.ChangeAt Go.RowKit Go.Deep Q

theorem cells3 : Try.prog.cellsOf 3 = 1 := by kernel_rfl
theorem bytes3 : Try.prog.bytesOf 3 = 8 := by kernel_rfl

set_option maxRecDepth 100000 in
theorem lifted (os : Os) (started : os.Started) (H : Type) (enc : TypeId × Value → H) :
    ReturnsInHanded {} Try.checked os 14 .any (Rows.quorumPlaceSpec.pre6 enc Try.prog Try.f14 Rows.quorumPlaceRow.domain false) (Rows.quorumPlaceSpec.post enc Try.prog Try.f14 false true false false) := by
  refine returnsInHanded_of_change_sized (C := Try.checked) Try.own started (by kernel_rfl) Try.func14
    (ChangeSpec.witness6 (enc := enc) (C := Try.checked) false ⟨#[], #[.slice none 0 0, .slice none 0 0, .slice none 0 0], []⟩ 8 (by kernel_rfl) (by kernel_rfl) (by kernel_rfl) (by kernel_rfl)) ?_
  intro W base args ds gs before hval0 hW hcnd hsz0 _
  have hval : ∀ (j : Nat) t v, Try.f14.params[j]? = some t → args[j]? = some v → Value.okWide Try.prog W .any base t v := hval0
  have hsz : (DataW.weightsEach Try.prog (Try.f14.params.toList ++ Rows.quorumPlaceSpec.plain.varTypes Try.prog) (ds ++ gs)).all (· ≤ reachBytes) = true := hsz0
  have hW' : DataW.Whole enc Try.prog Try.f14.params.toList Rows.quorumPlaceSpec.vars false W args.toList ds gs before := hW
  have hlt0 : ∀ x ∈ before, x.block < W.heap.size := fun x hx => hW'.lt x hx
  obtain ⟨p, q, hA0, hV, rfl, hfz, hnd⟩ := hW
  have hA : DataW.TrodAll enc Try.prog W 0 (fun _ => true) true Try.f14.params.toList args.toList ds p := hA0
  rw [Try.params14] at hA hval hsz
  obtain ⟨v0, v1, v2, d0, d1, d2, p0, p1, p2, rfl, rfl, rfl, h0, h1, h2⟩ := trodAll_three hA
  obtain ⟨rfl, rfl⟩ := trodVars_none hV
  have hw0 := weights_of hsz (j := 0) rfl rfl
  have hw1 := weights_of hsz (j := 1) rfl rfl
  have hw2 := weights_of hsz (j := 2) rfl rfl
  obtain ⟨A0, c0, rfl⟩ : ∃ (A : Option Addr) (c : Nat × Nat), v0 = .slice A c.1 c.2 := by obtain ⟨a, l, c, h⟩ := okWide_slice Try.underlying32 (hval 0 32 v0 rfl rfl); exact ⟨a, (l, c), h⟩
  obtain ⟨fu0, h0⟩ := h0
  obtain ⟨B0, n0, k0, vs0, e0, hvs0, hnc0, hc0, hwf0⟩ := open_RI (t := 32) (e := 3) Try.underlying32 Try.underlying3 cells3 bytes3 (by simpa [Value.cells] using h0) (fun x hx => hlt0 x (by simp [hx])) hw0
  obtain ⟨A1, c1, rfl⟩ : ∃ (A : Option Addr) (c : Nat × Nat), v1 = .slice A c.1 c.2 := by obtain ⟨a, l, c, h⟩ := okWide_slice Try.underlying32 (hval 1 32 v1 rfl rfl); exact ⟨a, (l, c), h⟩
  obtain ⟨fu1, h1⟩ := h1
  obtain ⟨B1, n1, k1, vs1, e1, hvs1, hnc1, hc1, hwf1⟩ := open_RI (t := 32) (e := 3) Try.underlying32 Try.underlying3 cells3 bytes3 (by simpa [Value.cells] using h1) (fun x hx => hlt0 x (by simp [hx])) hw1
  obtain ⟨A2, c2, rfl⟩ : ∃ (A : Option Addr) (c : Nat × Nat), v2 = .slice A c.1 c.2 := by obtain ⟨a, l, c, h⟩ := okWide_slice Try.underlying32 (hval 2 32 v2 rfl rfl); exact ⟨a, (l, c), h⟩
  obtain ⟨fu2, h2⟩ := h2
  obtain ⟨B2, n2, k2, vs2, e2, hvs2, hnc2, hc2, hwf2⟩ := open_RI (t := 32) (e := 3) Try.underlying32 Try.underlying3 cells3 bytes3 (by simpa [Value.cells] using h2) (fun x hx => hlt0 x (by simp [hx])) hw2
  rw [e0, e1, e2] at hW' ⊢
  exact (place_walk B0 B1 B2 n0 k0 n1 k1 n2 k2 vs0 vs1 vs2 W hvs0 hvs1 hvs2 (by omega) (by omega) (by omega) hnc0).mono fun e W' ⟨he, hb⟩ =>
    ⟨_, he, post_law hW' rfl rfl rfl rfl Try.laidOut (by rw [Try.params14]; intro t ht; simp at ht; subst ht; exact ⟨by kernel_rfl, of_decide_eq_true (by kernel_rfl)⟩) rfl Try.underlying4 hb⟩

theorem holds : Rows.QuorumPlaceSaid :=
  OpenClaim.holds_of_wide 14 Try.f14 rfl rfl rfl rfl rfl rfl rfl ⟨rfl, rfl, rfl, rfl, rfl⟩ rfl rfl rfl rfl rfl (by kernel_rfl) Try.func14 (by kernel_rfl)
    (of_decide_eq_true (by kernel_rfl)) (by unfold Func.isWrapper; first | (rw [if_pos (by decide +kernel)]; kernel_rfl) | (rw [if_neg (by decide +kernel)]; exact ⟨rfl, rfl⟩))
    (fun os started H enc _ => lifted os started H enc)
#print axioms holds
end Go.Proofs.Yteckffndboiknaa.rowQuorumPlace
