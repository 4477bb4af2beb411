/-
  QuorumTurns: two watches in turns, of the program and of the reference, answer alike, each as alone. No condition.
-/
import Derived.Test.YteckffndboiknaaOpenOps
import Derived.Test.YteckffndboiknaaTurns
set_option linter.unusedVariables false
namespace Go.Proofs.Yteckffndboiknaa.rowQuorumTurns
open Go.ChangeShapes Go.WideShapes Go.ChangeAt Go.RowKit Go.Deep Q

theorem cellsT53 : Try.prog.cellsOf 53 = 2 := by kernel_rfl
theorem cellsT32 : Try.prog.cellsOf 32 = 1 := by kernel_rfl
theorem cellsT51 : Try.prog.cellsOf 51 = 1 := by kernel_rfl
theorem bytesT3 : Try.prog.bytesOf 3 = 8 := by kernel_rfl

set_option maxRecDepth 100000 in
theorem open_watching {H : Type} {enc : TypeId × Value → H} {W : World} {r : Reach} {b0 : Nat} {v : Value} {d : DataW H} {p q : List MemPlace} (hv : Value.okWide Try.prog W r b0 53 v) (h : DataW.Trod enc Try.prog W 0 (fun _ => true) true 53 v d p) (hlt : ∀ x ∈ q, x.block < W.heap.size) (hsub : ∀ x ∈ p, x ∈ q)
    (hw : ∀ x ∈ DataW.weights Try.prog 53 d, x ≤ reachBytes) :
    ∃ (A A' : Option Addr) (n c n' c' : Nat) (vs : List Int) (ops : List Oe), v = .agg #[.slice A n c, .slice A' n' c'] ∧ RI W W.heap.size A n vs ∧ OpsIn W W.heap.size A' n' ops ∧ n * 8 ≤ 140737488351232 ∧ n' * 64 ≤ 140737488351232 := by
  obtain ⟨cs, rfl, hcs⟩ := okWide_struct Try.underlying53 hv
  have hG := got_arg h hlt hsub hw
  obtain ⟨l⟩ := cs
  obtain ⟨c0, c1, rfl⟩ := list2 (l := l) (by simpa using hcs.trans cellsT53)
  simp only [Value.cells] at hG
  obtain ⟨_, g0⟩ := Got.fld Try.underlying53 hG 0 32 0 1 ⟨_, rfl, rfl, rfl⟩ cellsT32
  obtain ⟨_, g1⟩ := Got.fld Try.underlying53 hG 1 51 1 1 ⟨_, rfl, rfl, rfl⟩ cellsT51
  simp only [List.drop_zero, List.drop_succ_cons, List.take_succ_cons, List.take_zero] at g0 g1
  obtain ⟨A, n, c, vs, rfl, hvs, hnc, hc, _⟩ := Got.ints Try.underlying32 Try.underlying3 cellsT3 bytesT3 g0
  obtain ⟨A', n', c', ops, rfl, _, hops, hn'⟩ := Got.ops g1
  exact ⟨A, A', n, c, n', c', vs, ops, rfl, hvs, hops, by omega, hn'⟩

set_option maxRecDepth 100000 in
theorem lifted (os : Os) (started : os.Started) (H : Type) (enc : TypeId × Value → H) :
    ReturnsInHanded {} Try.checked os 9 .any (Rows.quorumTurnsSpec.pre6 enc Try.prog Try.f9 Rows.quorumTurnsRow.domain false) (Rows.quorumTurnsSpec.post enc Try.prog Try.f9 false true false false) := by
  refine returnsInHanded_of_change_sized (C := Try.checked) Try.own started (by kernel_rfl) Try.func9
    (ChangeSpec.witness6 (enc := enc) (C := Try.checked) false ⟨#[], #[.agg #[.slice none 0 0, .slice none 0 0], .agg #[.slice none 0 0, .slice none 0 0]], []⟩ 8 (by kernel_rfl) (by kernel_rfl) (by kernel_rfl) (by kernel_rfl)) ?_
  intro W base args ds gs before hval0 hW hcnd hsz0 _
  have hval : ∀ (j : Nat) t v, Try.f9.params[j]? = some t → args[j]? = some v → Value.okWide Try.prog W .any base t v := hval0
  have hsz : (DataW.weightsEach Try.prog (Try.f9.params.toList ++ Rows.quorumTurnsSpec.plain.varTypes Try.prog) (ds ++ gs)).all (· ≤ reachBytes) = true := hsz0
  have hW' : DataW.Whole enc Try.prog Try.f9.params.toList Rows.quorumTurnsSpec.vars false W args.toList ds gs before := hW
  have hlt0 : ∀ x ∈ before, x.block < W.heap.size := fun x hx => hW'.lt x hx
  obtain ⟨p, q, hA0, hV, rfl, hfz, hnd⟩ := hW
  have hA : DataW.TrodAll enc Try.prog W 0 (fun _ => true) true Try.f9.params.toList args.toList ds p := hA0
  rw [Try.params9] at hA hval hsz
  obtain ⟨v0, v1, d0, d1, p0, p1, rfl, rfl, rfl, h0, h1⟩ := trodAll_two hA
  obtain ⟨rfl, rfl⟩ := trodVars_none hV
  have hw0 := weights_of hsz (j := 0) rfl rfl
  have hw1 := weights_of hsz (j := 1) rfl rfl
  obtain ⟨A, A', n, c, n', c', vs, ops, rfl, hvs, hops, hn, hn'⟩ := open_watching (hval 0 53 v0 rfl rfl) h0 hlt0 (fun x hx => by simp [hx]) hw0
  obtain ⟨C, C', m, d, m', d', us, oqs, rfl, hus, hoqs, hm, hm'⟩ := open_watching (hval 1 53 v1 rfl rfl) h1 hlt0 (fun x hx => by simp [hx]) hw1
  exact (turns_walk A A' C C' n c n' c' m d m' d' vs us ops oqs W hvs hops hn hn' hus hoqs hm hm').mono fun e W' ⟨he, hb⟩ =>
    ⟨_, he, post_law hW' rfl rfl rfl rfl Try.laidOut (by rw [Try.params9]; intro t ht; simp at ht; subst ht; exact ⟨by kernel_rfl, of_decide_eq_true (by kernel_rfl)⟩) rfl Try.underlying4 hb⟩

theorem holds : Rows.QuorumTurnsSaid :=
  OpenClaim.holds_of_wide 9 Try.f9 rfl rfl rfl rfl rfl rfl rfl ⟨rfl, rfl, rfl, rfl, rfl⟩ rfl rfl rfl rfl rfl (by kernel_rfl) Try.func9 (by kernel_rfl)
    (of_decide_eq_true (by kernel_rfl)) (by unfold Func.isWrapper; first | (rw [if_pos (by decide +kernel)]; kernel_rfl) | (rw [if_neg (by decide +kernel)]; exact ⟨rfl, rfl⟩))
    (fun os started H enc _ => lifted os started H enc)
#print axioms holds
end Go.Proofs.Yteckffndboiknaa.rowQuorumTurns
