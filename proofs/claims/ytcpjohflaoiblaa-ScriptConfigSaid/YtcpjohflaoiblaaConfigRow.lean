/-
  ScriptConfig: every CheckConfig, of the program and of the reference, answers alike. No condition.
-/
import Derived.Test.YtcpjohflaoiblaaConfig
import Derived.Test.YtcpjohflaoiblaaOpen
set_option linter.unusedVariables false
namespace Go.Proofs.Ytcpjohflaoiblaa.rowScriptConfig
open Go.ChangeShapes Go.WideShapes Go.ChangeAt Go.RowKit Go.Deep Q

theorem cellsT24 : Try.prog.cellsOf 24 = 8 := by kernel_rfl
theorem cellsT22 : Try.prog.cellsOf 22 = 1 := by kernel_rfl
theorem cellsT3 : Try.prog.cellsOf 3 = 1 := by kernel_rfl
theorem bytesT3 : Try.prog.bytesOf 3 = 8 := by kernel_rfl

set_option maxRecDepth 100000 in
theorem lifted (os : Os) (started : os.Started) (H : Type) (enc : TypeId × Value → H) :
    ReturnsInHanded {} Try.checked os 3 .any (Rows.scriptConfigSpec.pre6 enc Try.prog Try.f3 Rows.scriptConfigRow.domain false) (Rows.scriptConfigSpec.post enc Try.prog Try.f3 false true false false) := by
  refine returnsInHanded_of_change_sized (C := Try.checked) Try.own started (by kernel_rfl) Try.func3
    (ChangeSpec.witness6 (enc := enc) (C := Try.checked) false ⟨#[], #[.agg #[.int .i64 0, .int .i64 0, .int .i64 0, .int .i64 0, .int .i64 0, .int .i64 0, .int .i64 0, .slice none 0 0]], []⟩ 8 (by kernel_rfl) (by kernel_rfl) (by kernel_rfl) (by kernel_rfl)) ?_
  intro W base args ds gs before hval0 hW hcnd hsz0 _
  have hval : ∀ (j : Nat) t v, Try.f3.params[j]? = some t → args[j]? = some v → Value.okWide Try.prog W .any base t v := hval0
  have hsz : (DataW.weightsEach Try.prog (Try.f3.params.toList ++ Rows.scriptConfigSpec.plain.varTypes Try.prog) (ds ++ gs)).all (· ≤ reachBytes) = true := hsz0
  have hW' : DataW.Whole enc Try.prog Try.f3.params.toList Rows.scriptConfigSpec.vars false W args.toList ds gs before := hW
  have hlt0 : ∀ x ∈ before, x.block < W.heap.size := fun x hx => hW'.lt x hx
  obtain ⟨p, q, hA0, hV, rfl, hfz, hnd⟩ := hW
  have hA : DataW.TrodAll enc Try.prog W 0 (fun _ => true) true Try.f3.params.toList args.toList ds p := hA0
  rw [Try.params3] at hA hval hsz
  obtain ⟨v0, d0, rfl, rfl, h0⟩ := trodAll_one hA
  obtain ⟨rfl, rfl⟩ := trodVars_none hV
  have hw0 := weights_of hsz (j := 0) rfl rfl
  obtain ⟨cs, rfl, hcs⟩ := okWide_struct Try.underlying24 (hval 0 24 v0 rfl rfl)
  have hG := got_arg h0 hlt0 (fun x hx => by simp [hx]) hw0
  obtain ⟨l⟩ := cs
  obtain ⟨a0, a1, a2, a3, a4, a5, a6, a7, rfl⟩ := list8 (l := l) (by simpa using hcs.trans cellsT24)
  simp only [Value.cells] at hG
  obtain ⟨_, g0⟩ := Got.fld Try.underlying24 hG 0 3 0 1 ⟨_, rfl, rfl, rfl⟩ cellsT3
  obtain ⟨_, g1⟩ := Got.fld Try.underlying24 hG 1 3 1 1 ⟨_, rfl, rfl, rfl⟩ cellsT3
  obtain ⟨_, g2⟩ := Got.fld Try.underlying24 hG 2 3 2 1 ⟨_, rfl, rfl, rfl⟩ cellsT3
  obtain ⟨_, g3⟩ := Got.fld Try.underlying24 hG 3 3 3 1 ⟨_, rfl, rfl, rfl⟩ cellsT3
  obtain ⟨_, g4⟩ := Got.fld Try.underlying24 hG 4 3 4 1 ⟨_, rfl, rfl, rfl⟩ cellsT3
  obtain ⟨_, g5⟩ := Got.fld Try.underlying24 hG 5 3 5 1 ⟨_, rfl, rfl, rfl⟩ cellsT3
  obtain ⟨_, g6⟩ := Got.fld Try.underlying24 hG 6 3 6 1 ⟨_, rfl, rfl, rfl⟩ cellsT3
  obtain ⟨_, g7⟩ := Got.fld Try.underlying24 hG 7 22 7 1 ⟨_, rfl, rfl, rfl⟩ cellsT22
  simp only [List.drop_zero, List.drop_succ_cons, List.take_succ_cons, List.take_zero] at g0 g1 g2 g3 g4 g5 g6 g7
  obtain ⟨x0, rfl, _⟩ := Got.int Try.underlying3 g0
  obtain ⟨x1, rfl, _⟩ := Got.int Try.underlying3 g1
  obtain ⟨x2, rfl, _⟩ := Got.int Try.underlying3 g2
  obtain ⟨x3, rfl, _⟩ := Got.int Try.underlying3 g3
  obtain ⟨x4, rfl, _⟩ := Got.int Try.underlying3 g4
  obtain ⟨x5, rfl, _⟩ := Got.int Try.underlying3 g5
  obtain ⟨x6, rfl, _⟩ := Got.int Try.underlying3 g6
  obtain ⟨A, n, c, vs, rfl, hvs, hnc, hc, _⟩ := Got.ints Try.underlying22 Try.underlying3 cellsT3 bytesT3 g7
  exact (config_walk x0 x1 x2 x3 x4 x5 x6 A n c vs W hvs (by omega)).mono fun e W' ⟨he, hb⟩ =>
    ⟨_, he, post_law hW' rfl rfl rfl rfl Try.laidOut (by rw [Try.params3]; intro t ht; simp at ht; subst ht; exact ⟨by kernel_rfl, of_decide_eq_true (by kernel_rfl)⟩) rfl Try.underlying4 hb⟩

theorem holds : Rows.ScriptConfigSaid :=
  OpenClaim.holds_of_wide 3 Try.f3 rfl rfl rfl rfl rfl rfl rfl ⟨rfl, rfl, rfl, rfl, rfl⟩ rfl rfl rfl rfl rfl (by kernel_rfl) Try.func3 (by kernel_rfl)
    (of_decide_eq_true (by kernel_rfl)) (by unfold Func.isWrapper; first | (rw [if_pos (by decide +kernel)]; kernel_rfl) | (rw [if_neg (by decide +kernel)]; exact ⟨rfl, rfl⟩))
    (fun os started H enc _ => lifted os started H enc)
#print axioms holds
end Go.Proofs.Ytcpjohflaoiblaa.rowScriptConfig
