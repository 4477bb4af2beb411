/-
  QuorumPrimary: of two watches with the same votes any two primary views share a node. No condition.
-/
import Derived.Test.YteckffndboiknaaPrimary
import Derived.Test.YteckffndboiknaaOpen
set_option linter.unusedVariables false
namespace Go.Proofs.Yteckffndboiknaa.rowQuorumPrimary
open Go.ChangeShapes Go.WideShapes Go.ChangeAt Go.RowKit Go.Deep Q

theorem cellsT69 : Try.prog.cellsOf 69 = 4 := by kernel_rfl
theorem cellsT32 : Try.prog.cellsOf 32 = 1 := by kernel_rfl
theorem cellsT3 : Try.prog.cellsOf 3 = 1 := by kernel_rfl
theorem bytesT3 : Try.prog.bytesOf 3 = 8 := by kernel_rfl

set_option maxRecDepth 100000 in
theorem lifted (os : Os) (started : os.Started) (H : Type) (enc : TypeId × Value → H) :
    ReturnsInHanded {} Try.checked os 8 .any (Rows.quorumPrimarySpec.pre6 enc Try.prog Try.f8 Rows.quorumPrimaryRow.domain false) (Rows.quorumPrimarySpec.post enc Try.prog Try.f8 false true false false) := by
  refine returnsInHanded_of_change_sized (C := Try.checked) Try.own started (by kernel_rfl) Try.func8
    (ChangeSpec.witness6 (enc := enc) (C := Try.checked) false ⟨#[], #[.agg #[.slice none 0 0, .slice none 0 0, .slice none 0 0, .slice none 0 0]], []⟩ 8 (by kernel_rfl) (by kernel_rfl) (by kernel_rfl) (by kernel_rfl)) ?_
  intro W base args ds gs before hval0 hW hcnd hsz0 _
  have hval : ∀ (j : Nat) t v, Try.f8.params[j]? = some t → args[j]? = some v → Value.okWide Try.prog W .any base t v := hval0
  have hsz : (DataW.weightsEach Try.prog (Try.f8.params.toList ++ Rows.quorumPrimarySpec.plain.varTypes Try.prog) (ds ++ gs)).all (· ≤ reachBytes) = true := hsz0
  have hW' : DataW.Whole enc Try.prog Try.f8.params.toList Rows.quorumPrimarySpec.vars false W args.toList ds gs before := hW
  have hlt0 : ∀ x ∈ before, x.block < W.heap.size := fun x hx => hW'.lt x hx
  obtain ⟨p, q, hA0, hV, rfl, hfz, hnd⟩ := hW
  have hA : DataW.TrodAll enc Try.prog W 0 (fun _ => true) true Try.f8.params.toList args.toList ds p := hA0
  rw [Try.params8] at hA hval hsz
  obtain ⟨v0, d0, rfl, rfl, h0⟩ := trodAll_one hA
  obtain ⟨rfl, rfl⟩ := trodVars_none hV
  have hw0 := weights_of hsz (j := 0) rfl rfl
  obtain ⟨cs, rfl, hcs⟩ := okWide_struct Try.underlying69 (hval 0 69 v0 rfl rfl)
  have hG := got_arg h0 hlt0 (fun x hx => by simp [hx]) hw0
  obtain ⟨l⟩ := cs
  obtain ⟨a0, a1, a2, a3, rfl⟩ := list4 (l := l) (by simpa using hcs.trans cellsT69)
  simp only [Value.cells] at hG
  obtain ⟨_, g0⟩ := Got.fld Try.underlying69 hG 0 32 0 1 ⟨_, rfl, rfl, rfl⟩ cellsT32
  obtain ⟨_, g1⟩ := Got.fld Try.underlying69 hG 1 32 1 1 ⟨_, rfl, rfl, rfl⟩ cellsT32
  obtain ⟨_, g2⟩ := Got.fld Try.underlying69 hG 2 32 2 1 ⟨_, rfl, rfl, rfl⟩ cellsT32
  obtain ⟨_, g3⟩ := Got.fld Try.underlying69 hG 3 32 3 1 ⟨_, rfl, rfl, rfl⟩ cellsT32
  simp only [List.drop_zero, List.drop_succ_cons, List.take_succ_cons, List.take_zero] at g0 g1 g2 g3
  obtain ⟨A0, n0, c0, vs0, rfl, hvs0, hnc0, hc0, _⟩ := Got.ints Try.underlying32 Try.underlying3 cellsT3 bytesT3 g0
  obtain ⟨A1, n1, c1, vs1, rfl, hvs1, hnc1, hc1, _⟩ := Got.ints Try.underlying32 Try.underlying3 cellsT3 bytesT3 g1
  obtain ⟨A2, n2, c2, vs2, rfl, hvs2, hnc2, hc2, _⟩ := Got.ints Try.underlying32 Try.underlying3 cellsT3 bytesT3 g2
  obtain ⟨A3, n3, c3, vs3, rfl, hvs3, hnc3, hc3, _⟩ := Got.ints Try.underlying32 Try.underlying3 cellsT3 bytesT3 g3
  exact (primary_walk A0 A1 A2 A3 n0 c0 n1 c1 n2 c2 n3 c3 vs0 vs1 vs2 vs3 W hvs0 hvs1 hvs2 hvs3 (by omega) (by omega) (by omega) (by omega)).mono fun e W' ⟨he, hb⟩ =>
    ⟨_, he, post_law hW' rfl rfl rfl rfl Try.laidOut (by rw [Try.params8]; intro t ht; simp at ht; subst ht; exact ⟨by kernel_rfl, of_decide_eq_true (by kernel_rfl)⟩) rfl Try.underlying4 hb⟩

theorem holds : Rows.QuorumPrimarySaid :=
  OpenClaim.holds_of_wide 8 Try.f8 rfl rfl rfl rfl rfl rfl rfl ⟨rfl, rfl, rfl, rfl, rfl⟩ rfl rfl rfl rfl rfl (by kernel_rfl) Try.func8 (by kernel_rfl)
    (of_decide_eq_true (by kernel_rfl)) (by unfold Func.isWrapper; first | (rw [if_pos (by decide +kernel)]; kernel_rfl) | (rw [if_neg (by decide +kernel)]; exact ⟨rfl, rfl⟩))
    (fun os started H enc _ => lifted os started H enc)
#print axioms holds
end Go.Proofs.Yteckffndboiknaa.rowQuorumPrimary
