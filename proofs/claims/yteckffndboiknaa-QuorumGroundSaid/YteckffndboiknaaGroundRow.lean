/-
  QuorumGround: a set of nodes wins just where it holds one of the sets that Minimal lists, and none of those holds another. No condition.
-/
import Derived.Test.YteckffndboiknaaGroundW
import Derived.Test.YteckffndboiknaaFrame
set_option linter.unusedVariables false
namespace Go.Proofs.Yteckffndboiknaa.rowQuorumGround
open Go.ChangeShapes Go.WideShapes Go.ChangeAt Go.RowKit Go.Deep Q

theorem cells3 : Try.prog.cellsOf 3 = 1 := by kernel_rfl
theorem bytes3 : Try.prog.bytesOf 3 = 8 := by kernel_rfl
theorem cellsS38 : Try.prog.cellsOf 38 = 3 := by kernel_rfl

set_option maxRecDepth 100000 in
theorem lifted (os : Os) (started : os.Started) (H : Type) (enc : TypeId × Value → H) :
    ReturnsInHanded {} Try.checked os 13 .any (Rows.quorumGroundSpec.pre6 enc Try.prog Try.f13 Rows.quorumGroundRow.domain false) (Rows.quorumGroundSpec.post enc Try.prog Try.f13 false true false false) := by
  refine returnsInHanded_of_change_sized (C := Try.checked) Try.own started (by kernel_rfl) Try.func13
    (ChangeSpec.witness6 (enc := enc) (C := Try.checked) false ⟨#[], #[.agg #[.slice none 0 0, .int .i64 0, .int .i64 0]], []⟩ 8 (by kernel_rfl) (by kernel_rfl) (by kernel_rfl) (by kernel_rfl)) ?_
  intro W base args ds gs before hval0 hW hcnd hsz0 _
  have hval : ∀ (j : Nat) t v, Try.f13.params[j]? = some t → args[j]? = some v → Value.okWide Try.prog W .any base t v := hval0
  have hsz : (DataW.weightsEach Try.prog (Try.f13.params.toList ++ Rows.quorumGroundSpec.plain.varTypes Try.prog) (ds ++ gs)).all (· ≤ reachBytes) = true := hsz0
  have hW' : DataW.Whole enc Try.prog Try.f13.params.toList Rows.quorumGroundSpec.vars false W args.toList ds gs before := hW
  have hlt0 : ∀ x ∈ before, x.block < W.heap.size := fun x hx => hW'.lt x hx
  obtain ⟨p, q, hA0, hV, rfl, hfz, hnd⟩ := hW
  have hA : DataW.TrodAll enc Try.prog W 0 (fun _ => true) true Try.f13.params.toList args.toList ds p := hA0
  rw [Try.params13] at hA hval hsz
  obtain ⟨v0, d0, rfl, rfl, h0⟩ := trodAll_one hA
  obtain ⟨rfl, rfl⟩ := trodVars_none hV
  have hw0 := weights_of hsz (j := 0) rfl rfl
  obtain ⟨cs0, ys0, m0, rfl, hcl0, rfl, hp0, hyl0, hf0⟩ := open_agg Try.underlying38 (by kernel_rfl) cellsS38 (hval 0 38 v0 rfl rfl) h0
  obtain ⟨c0_0, c0_1, c0_2, rfl⟩ := list3 hcl0
  obtain ⟨y0_0, y0_1, y0_2, rfl⟩ := list3 hyl0
  obtain ⟨cc0_0, yy0_0, ec0_0, ey0_0, r0_0⟩ := hf0 0 _ rfl
  obtain rfl : c0_0 = cc0_0 := by simpa using ec0_0
  obtain rfl : y0_0 = yy0_0 := by simpa using ey0_0
  obtain ⟨cc0_1, yy0_1, ec0_1, ey0_1, r0_1⟩ := hf0 1 _ rfl
  obtain rfl : c0_1 = cc0_1 := by simpa using ec0_1
  obtain rfl : y0_1 = yy0_1 := by simpa using ey0_1
  obtain ⟨cc0_2, yy0_2, ec0_2, ey0_2, r0_2⟩ := hf0 2 _ rfl
  obtain rfl : c0_2 = cc0_2 := by simpa using ec0_2
  obtain rfl : y0_2 = yy0_2 := by simpa using ey0_2
  obtain ⟨B0_0, n0_0, k0_0, vs0_0, rfl, hvs0_0, hnc0_0, hc0_0, hwf0_0⟩ := open_RI (t := 32) (e := 3) Try.underlying32 Try.underlying3 cells3 bytes3 r0_0 (fun x hx => hlt0 x (by subst hp0; simp [hx])) (agg_weights Try.underlying38 hw0 (j := 0) rfl rfl)
  obtain ⟨x0_1, ex0_1, hx0_1⟩ := open_cell_int Try.underlying3 r0_1
  subst ex0_1
  obtain ⟨x0_2, ex0_2, hx0_2⟩ := open_cell_int Try.underlying3 r0_2
  subst ex0_2
  exact (ground_walk B0_0 n0_0 k0_0 vs0_0 x0_1 x0_2 W hvs0_0 (by omega)).mono fun e W' ⟨he, hb⟩ =>
    ⟨_, he, post_law hW' rfl rfl rfl rfl Try.laidOut (by rw [Try.params13]; intro t ht; simp at ht; subst ht; exact ⟨by kernel_rfl, of_decide_eq_true (by kernel_rfl)⟩) rfl Try.underlying4 hb⟩

theorem holds : Rows.QuorumGroundSaid :=
  OpenClaim.holds_of_wide 13 Try.f13 rfl rfl rfl rfl rfl rfl rfl ⟨rfl, rfl, rfl, rfl, rfl⟩ rfl rfl rfl rfl rfl (by kernel_rfl) Try.func13 (by kernel_rfl)
    (of_decide_eq_true (by kernel_rfl)) (by unfold Func.isWrapper; first | (rw [if_pos (by decide +kernel)]; kernel_rfl) | (rw [if_neg (by decide +kernel)]; exact ⟨rfl, rfl⟩))
    (fun os started H enc _ => lifted os started H enc)
#print axioms holds
end Go.Proofs.Yteckffndboiknaa.rowQuorumGround
