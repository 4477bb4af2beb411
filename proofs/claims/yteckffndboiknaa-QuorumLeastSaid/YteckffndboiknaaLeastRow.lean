/-
  QuorumLeast: Minimal answers as the document's, what it hands back is its own, and what it is handed stays. No condition. (Printed by wip/tools/mkslrow.py.)
-/
import Derived.Test.YteckffndboiknaaLeast
import Derived.Test.YteckffndboiknaaFrame
set_option linter.unusedVariables false
namespace Go.Proofs.Yteckffndboiknaa.rowQuorumLeast
open Go.ChangeShapes Go.WideShapes Go.ChangeAt Go.RowKit Go.Deep Q

theorem cells3 : Try.prog.cellsOf 3 = 1 := by kernel_rfl
theorem bytes3 : Try.prog.bytesOf 3 = 8 := by kernel_rfl

set_option maxRecDepth 100000 in
theorem lifted (os : Os) (started : os.Started) (H : Type) (enc : TypeId × Value → H) :
    ReturnsInHanded {} Try.checked os 12 .any (Rows.quorumLeastSpec.pre6 enc Try.prog Try.f12 Rows.quorumLeastRow.domain false) (Rows.quorumLeastSpec.post enc Try.prog Try.f12 false true false false) := by
  refine returnsInHanded_of_change_sized (C := Try.checked) Try.own started (by kernel_rfl) Try.func12
    (ChangeSpec.witness6 (enc := enc) (C := Try.checked) false ⟨#[], #[.slice none 0 0, .slice none 0 0], []⟩ 8 (by kernel_rfl) (by kernel_rfl) (by kernel_rfl) (by kernel_rfl)) ?_
  intro W base args ds gs before hval0 hW hcnd hsz0 _
  have hval : ∀ (j : Nat) t v, Try.f12.params[j]? = some t → args[j]? = some v → Value.okWide Try.prog W .any base t v := hval0
  have hsz : (DataW.weightsEach Try.prog (Try.f12.params.toList ++ Rows.quorumLeastSpec.plain.varTypes Try.prog) (ds ++ gs)).all (· ≤ reachBytes) = true := hsz0
  have hW' : DataW.Whole enc Try.prog Try.f12.params.toList Rows.quorumLeastSpec.vars false W args.toList ds gs before := hW
  have hlt0 : ∀ x ∈ before, x.block < W.heap.size := fun x hx => hW'.lt x hx
  obtain ⟨p, q, hA0, hV, rfl, hfz, hnd⟩ := hW
  have hA : DataW.TrodAll enc Try.prog W 0 (fun _ => true) true Try.f12.params.toList args.toList ds p := hA0
  rw [Try.params12] at hA hval hsz
  obtain ⟨v0, v1, d0, d1, p0, p1, rfl, rfl, rfl, h0, h1⟩ := trodAll_two hA
  obtain ⟨rfl, rfl⟩ := trodVars_none hV
  have hw0 := weights_of hsz (j := 0) rfl rfl
  have hw1 := weights_of hsz (j := 1) rfl rfl
  obtain ⟨A0, c0, rfl⟩ : ∃ (A : Option Addr) (c : Nat × Nat), v0 = .slice A c.1 c.2 := by obtain ⟨a, l, c, h⟩ := okWide_slice Try.underlying32 (hval 0 32 v0 rfl rfl); exact ⟨a, (l, c), h⟩
  obtain ⟨fu0, h0⟩ := h0
  obtain ⟨B0, n0, k0, vs0, e0, hvs0, hnc0, hc0, hwf0⟩ := open_RI (t := 32) (e := 3) Try.underlying32 Try.underlying3 cells3 bytes3 (by simpa [Value.cells] using h0) (fun x hx => hlt0 x (by simp [hx])) hw0
  obtain ⟨A1, c1, rfl⟩ : ∃ (A : Option Addr) (c : Nat × Nat), v1 = .slice A c.1 c.2 := by obtain ⟨a, l, c, h⟩ := okWide_slice Try.underlying32 (hval 1 32 v1 rfl rfl); exact ⟨a, (l, c), h⟩
  obtain ⟨fu1, h1⟩ := h1
  obtain ⟨B1, n1, k1, vs1, e1, hvs1, hnc1, hc1, hwf1⟩ := open_RI (t := 32) (e := 3) Try.underlying32 Try.underlying3 cells3 bytes3 (by simpa [Value.cells] using h1) (fun x hx => hlt0 x (by simp [hx])) hw1
  rw [e0, e1] at hW' ⊢
  exact (least_walk B0 B1 n0 k0 n1 k1 vs0 vs1 W hvs0 hvs1 (by omega) (by omega)).mono fun e W' ⟨he, hb⟩ =>
    ⟨_, he, post_law hW' rfl rfl rfl rfl Try.laidOut (by rw [Try.params12]; intro t ht; simp at ht; subst ht; exact ⟨by kernel_rfl, of_decide_eq_true (by kernel_rfl)⟩) rfl Try.underlying4 hb⟩

theorem holds : Rows.QuorumLeastSaid :=
  OpenClaim.holds_of_wide 12 Try.f12 rfl rfl rfl rfl rfl rfl rfl ⟨rfl, rfl, rfl, rfl, rfl⟩ rfl rfl rfl rfl rfl (by kernel_rfl) Try.func12 (by kernel_rfl)
    (of_decide_eq_true (by kernel_rfl)) (by unfold Func.isWrapper; first | (rw [if_pos (by decide +kernel)]; kernel_rfl) | (rw [if_neg (by decide +kernel)]; exact ⟨rfl, rfl⟩))
    (fun os started H enc _ => lifted os started H enc)
#print axioms holds
end Go.Proofs.Yteckffndboiknaa.rowQuorumLeast
