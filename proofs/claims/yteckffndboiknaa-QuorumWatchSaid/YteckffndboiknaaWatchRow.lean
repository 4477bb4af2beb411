/-
  QuorumWatch: every step of a watch, of the program and of the reference, answers alike. No condition.
-/
import Derived.Test.YteckffndboiknaaOpenOps
set_option linter.unusedVariables false
namespace Go.Proofs.Yteckffndboiknaa.rowQuorumWatch
open Go.ChangeShapes Go.WideShapes Go.ChangeAt Go.RowKit Go.Deep Q

theorem cellsT53 : Try.prog.cellsOf 53 = 2 := by kernel_rfl
theorem cellsT32 : Try.prog.cellsOf 32 = 1 := by kernel_rfl
theorem cellsT51 : Try.prog.cellsOf 51 = 1 := by kernel_rfl
theorem bytesT3 : Try.prog.bytesOf 3 = 8 := by kernel_rfl

set_option maxRecDepth 100000 in
theorem lifted (os : Os) (started : os.Started) (H : Type) (enc : TypeId × Value → H) :
    ReturnsInHanded {} Try.checked os 7 .any (Rows.quorumWatchSpec.pre6 enc Try.prog Try.f7 Rows.quorumWatchRow.domain false) (Rows.quorumWatchSpec.post enc Try.prog Try.f7 false true false false) := by
  refine returnsInHanded_of_change_sized (C := Try.checked) Try.own started (by kernel_rfl) Try.func7
    (ChangeSpec.witness6 (enc := enc) (C := Try.checked) false ⟨#[], #[.agg #[.slice none 0 0, .slice none 0 0]], []⟩ 8 (by kernel_rfl) (by kernel_rfl) (by kernel_rfl) (by kernel_rfl)) ?_
  intro W base args ds gs before hval0 hW hcnd hsz0 _
  have hval : ∀ (j : Nat) t v, Try.f7.params[j]? = some t → args[j]? = some v → Value.okWide Try.prog W .any base t v := hval0
  have hsz : (DataW.weightsEach Try.prog (Try.f7.params.toList ++ Rows.quorumWatchSpec.plain.varTypes Try.prog) (ds ++ gs)).all (· ≤ reachBytes) = true := hsz0
  have hW' : DataW.Whole enc Try.prog Try.f7.params.toList Rows.quorumWatchSpec.vars false W args.toList ds gs before := hW
  have hlt0 : ∀ x ∈ before, x.block < W.heap.size := fun x hx => hW'.lt x hx
  obtain ⟨p, q, hA0, hV, rfl, hfz, hnd⟩ := hW
  have hA : DataW.TrodAll enc Try.prog W 0 (fun _ => true) true Try.f7.params.toList args.toList ds p := hA0
  rw [Try.params7] at hA hval hsz
  obtain ⟨v0, d0, rfl, rfl, h0⟩ := trodAll_one hA
  obtain ⟨rfl, rfl⟩ := trodVars_none hV
  have hw0 := weights_of hsz (j := 0) rfl rfl
  obtain ⟨cs, rfl, hcs⟩ := okWide_struct Try.underlying53 (hval 0 53 v0 rfl rfl)
  have hG := got_arg h0 hlt0 (fun x hx => by simp [hx]) hw0
  obtain ⟨l⟩ := cs
  obtain ⟨c0, c1, rfl⟩ := list2 (l := l) (by simpa using hcs.trans cellsT53)
  simp only [Value.cells] at hG
  obtain ⟨_, g0⟩ := Got.fld Try.underlying53 hG 0 32 0 1 ⟨_, rfl, rfl, rfl⟩ cellsT32
  obtain ⟨_, g1⟩ := Got.fld Try.underlying53 hG 1 51 1 1 ⟨_, rfl, rfl, rfl⟩ cellsT51
  simp only [List.drop_zero, List.drop_succ_cons, List.take_succ_cons, List.take_zero] at g0 g1
  obtain ⟨A, n, c, vs, rfl, hvs, hnc, hc, _⟩ := Got.ints Try.underlying32 Try.underlying3 cellsT3 bytesT3 g0
  obtain ⟨A', n', c', ops, rfl, _, hops, hn'⟩ := Got.ops g1
  exact (watch_walk A A' n c n' c' vs ops W hvs hops (by omega) hn').mono fun e W' ⟨he, hb⟩ =>
    ⟨_, he, post_law hW' rfl rfl rfl rfl Try.laidOut (by rw [Try.params7]; intro t ht; simp at ht; subst ht; exact ⟨by kernel_rfl, of_decide_eq_true (by kernel_rfl)⟩) rfl Try.underlying4 hb⟩

theorem holds : Rows.QuorumWatchSaid :=
  OpenClaim.holds_of_wide 7 Try.f7 rfl rfl rfl rfl rfl rfl rfl ⟨rfl, rfl, rfl, rfl, rfl⟩ rfl rfl rfl rfl rfl (by kernel_rfl) Try.func7 (by kernel_rfl)
    (of_decide_eq_true (by kernel_rfl)) (by unfold Func.isWrapper; first | (rw [if_pos (by decide +kernel)]; kernel_rfl) | (rw [if_neg (by decide +kernel)]; exact ⟨rfl, rfl⟩))
    (fun os started H enc _ => lifted os started H enc)
#print axioms holds
end Go.Proofs.Yteckffndboiknaa.rowQuorumWatch
