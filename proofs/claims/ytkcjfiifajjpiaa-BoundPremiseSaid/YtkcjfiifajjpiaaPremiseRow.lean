/-
  BoundPremise: from which event on a set is left alone, the greatest delay, the error: the answer of the document, here and where the same lists are written over. No condition.
-/
import Derived.Test.YtkcjfiifajjpiaaBprem
import Derived.Test.YtkcjfiifajjpiaaOpenC
set_option linter.unusedVariables false
namespace Go.Proofs.Ytkcjfiifajjpiaa.rowBoundPremise
open Go.ChangeShapes Go.WideShapes Go.ChangeAt Go.RowKit Go.Deep Q

set_option maxRecDepth 100000 in
theorem lifted (os : Os) (started : os.Started) (H : Type) (enc : TypeId × Value → H) :
    ReturnsInHanded {} Try.checked os 4 .any (Rows.boundPremiseSpec.pre6 enc Try.prog Try.f4 Rows.boundPremiseRow.domain false) (Rows.boundPremiseSpec.post enc Try.prog Try.f4 false true false false) := by
  refine returnsInHanded_of_change_sized (C := Try.checked) Try.own started (by kernel_rfl) Try.func4
    (ChangeSpec.witness6 (enc := enc) (C := Try.checked) false ⟨#[], #[.agg #[.int .i64 0, .int .i64 0, .int .i64 0, .int .i64 0, .int .i64 0, .int .i64 0, .int .i64 0, .slice none 0 0, .slice none 0 0, .slice none 0 0]], []⟩ 8 (by kernel_rfl) (by kernel_rfl) (by kernel_rfl) (by kernel_rfl)) ?_
  intro W base args ds gs before hval0 hW hcnd hsz0 _
  have hval : ∀ (j : Nat) t v, Try.f4.params[j]? = some t → args[j]? = some v → Value.okWide Try.prog W .any base t v := hval0
  have hsz : (DataW.weightsEach Try.prog (Try.f4.params.toList ++ Rows.boundPremiseSpec.plain.varTypes Try.prog) (ds ++ gs)).all (· ≤ reachBytes) = true := hsz0
  have hW' : DataW.Whole enc Try.prog Try.f4.params.toList Rows.boundPremiseSpec.vars false W args.toList ds gs before := hW
  have hlt0 : ∀ x ∈ before, x.block < W.heap.size := fun x hx => hW'.lt x hx
  obtain ⟨p, q, hA0, hV, rfl, hfz, hnd⟩ := hW
  have hA : DataW.TrodAll enc Try.prog W 0 (fun _ => true) true Try.f4.params.toList args.toList ds p := hA0
  rw [Try.params4] at hA hval hsz
  obtain ⟨v0, d0, rfl, rfl, h0⟩ := trodAll_one hA
  obtain ⟨rfl, rfl⟩ := trodVars_none hV
  have hw0 := weights_of hsz (j := 0) rfl rfl
  have hG := got_arg h0 hlt0 (fun x hx => by simp [hx]) hw0
  obtain ⟨a0, a1, a2, a3, a4, a5, a6, vs, l, V, E, Z, k, f, kz, set, rfl, hv1, he1, hz1, hv2, he2, hz2, he3⟩ := open_case (hval 0 35 v0 rfl rfl) hG
  exact (bprem_any a0 a1 a2 a3 a4 a5 a6 vs l V E Z k f kz W.heap.size set W hv1 he1 hz1 hv2 he2 hz2 he3 (Nat.le_refl _)).mono fun e W' ⟨he, hb⟩ =>
    ⟨_, he, post_law hW' rfl rfl rfl rfl Try.laidOut (by rw [Try.params4]; intro t ht; simp at ht; subst ht; exact ⟨by kernel_rfl, of_decide_eq_true (by kernel_rfl)⟩) rfl Try.underlying4 (hb.below_ (Nat.le_refl _) (fun _ _ e => e))⟩

theorem holds : Rows.BoundPremiseSaid :=
  OpenClaim.holds_of_wide 4 Try.f4 rfl rfl rfl rfl rfl rfl rfl ⟨rfl, rfl, rfl, rfl, rfl⟩ rfl rfl rfl rfl rfl (by kernel_rfl) Try.func4 (by kernel_rfl)
    (of_decide_eq_true (by kernel_rfl)) (by unfold Func.isWrapper; first | (rw [if_pos (by decide +kernel)]; kernel_rfl) | (rw [if_neg (by decide +kernel)]; exact ⟨rfl, rfl⟩))
    (fun os started H enc _ => lifted os started H enc)
#print axioms holds
end Go.Proofs.Ytkcjfiifajjpiaa.rowBoundPremise
