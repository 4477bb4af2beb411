/-
  QuorumSets: for every list of votes and every set, Check and Quorate answer as the document's, and leave what they are handed, and what lies behind it, as it was. No condition.
-/
import Derived.Test.YteckffndboiknaaSets
import Derived.Test.YteckffndboiknaaFrame
set_option linter.unusedVariables false
namespace Go.Proofs.Yteckffndboiknaa
open Go.ChangeShapes Go.WideShapes Go.ChangeAt Go.RowKit Go.Deep Q

theorem Try.cells3 : Try.prog.cellsOf 3 = 1 := by kernel_rfl
theorem Try.bytes3 : Try.prog.bytesOf 3 = 8 := by kernel_rfl
theorem Try.cells42 : Try.prog.cellsOf 42 = 2 := by kernel_rfl

set_option maxRecDepth 100000 in
theorem sets_lifted (os : Os) (started : os.Started) (H : Type) (enc : TypeId × Value → H) :
    ReturnsInHanded {} Try.checked os 6 .any (Rows.quorumSetsSpec.pre6 enc Try.prog Try.f6 Rows.quorumSetsRow.domain false) (Rows.quorumSetsSpec.post enc Try.prog Try.f6 false true false false) := by
  refine returnsInHanded_of_change_sized (C := Try.checked) Try.own started (by kernel_rfl) Try.func6
    (ChangeSpec.witness6 (enc := enc) (C := Try.checked) false ⟨#[], #[.agg #[.slice none 0 0, .slice none 0 0]], []⟩ 8 (by kernel_rfl) (by kernel_rfl) (by kernel_rfl) (by kernel_rfl)) ?_
  intro W base args ds gs before hval0 hW hcnd hsz0 _
  have hval : ∀ (j : Nat) t v, Try.f6.params[j]? = some t → args[j]? = some v → Value.okWide Try.prog W .any base t v := hval0
  have hsz : (DataW.weightsEach Try.prog (Try.f6.params.toList ++ Rows.quorumSetsSpec.plain.varTypes Try.prog) (ds ++ gs)).all (· ≤ reachBytes) = true := hsz0
  have hW' : DataW.Whole enc Try.prog Try.f6.params.toList Rows.quorumSetsSpec.vars false W args.toList ds gs before := hW
  have hlt0 : ∀ x ∈ before, x.block < W.heap.size := fun x hx => hW'.lt x hx
  obtain ⟨p, q, hA0, hV, rfl, hfz, hnd⟩ := hW
  have hA : DataW.TrodAll enc Try.prog W 0 (fun _ => true) true Try.f6.params.toList args.toList ds p := hA0
  rw [Try.params6] at hA hval hsz
  obtain ⟨v0, d0, rfl, rfl, h0⟩ := trodAll_one hA
  obtain ⟨rfl, rfl⟩ := trodVars_none hV
  obtain ⟨cs, ys, m, rfl, hcl, rfl, rfl, hyl, hf⟩ := open_agg Try.underlying42 (by kernel_rfl) Try.cells42 (hval 0 42 v0 rfl rfl) h0
  obtain ⟨c0, c1, rfl⟩ := list2 hcl
  obtain ⟨y0, y1, rfl⟩ := list2 hyl
  have hw := weights_of hsz (j := 0) rfl rfl
  obtain ⟨c0', y0', e1, e2, r0⟩ := hf 0 _ rfl
  obtain rfl : c0 = c0' := by simpa using e1
  obtain rfl : y0 = y0' := by simpa using e2
  obtain ⟨c1', y1', e3, e4, r1⟩ := hf 1 _ rfl
  obtain rfl : c1 = c1' := by simpa using e3
  obtain rfl : y1 = y1' := by simpa using e4
  obtain ⟨A, n, c, vs, rfl, hvs, hnc, hc8, _⟩ := open_RI (t := 32) (e := 3) Try.underlying32 Try.underlying3 Try.cells3 Try.bytes3 r0 (fun x hx => hlt0 x (by simp [hx])) (agg_weights Try.underlying42 hw (j := 0) rfl rfl)
  obtain ⟨A', n', c', ss, rfl, hss, hnc', hc8', _⟩ := open_RI (t := 32) (e := 3) Try.underlying32 Try.underlying3 Try.cells3 Try.bytes3 r1 (fun x hx => hlt0 x (by simp [hx])) (agg_weights Try.underlying42 hw (j := 1) rfl rfl)
  exact (sets_walk A A' n c n' c' vs ss W hvs hss (by omega) (by omega)).mono fun e W' ⟨he, hb⟩ =>
    ⟨_, he, post_law hW' rfl rfl rfl rfl Try.laidOut (by rw [Try.params6]; intro t ht; simp at ht; subst ht; exact ⟨by kernel_rfl, of_decide_eq_true (by kernel_rfl)⟩) rfl Try.underlying4 hb⟩

theorem sets_holds : Rows.QuorumSetsSaid :=
  OpenClaim.holds_of_wide 6 Try.f6 rfl rfl rfl rfl rfl rfl rfl ⟨rfl, rfl, rfl, rfl, rfl⟩ rfl rfl rfl rfl rfl (by kernel_rfl) Try.func6 (by kernel_rfl)
    (of_decide_eq_true (by kernel_rfl)) (by unfold Func.isWrapper; first | (rw [if_pos (by decide +kernel)]; kernel_rfl) | (rw [if_neg (by decide +kernel)]; exact ⟨rfl, rfl⟩))
    (fun os started H enc _ => sets_lifted os started H enc)
#print axioms sets_holds
end Go.Proofs.Yteckffndboiknaa
