/-
  LinkFifo: over a network that loses, doubles and turns round, what comes out is the beginning of what was pushed, nothing true is refused, and what is answered has come out. No condition.
-/
import Derived.Test.YtkkckinnhkpcmaaFifo
import Derived.Test.YtkkckinnhkpcmaaOpenT
set_option linter.unusedVariables false
namespace Go.Proofs.Ytkkckinnhkpcmaa
open Go.ChangeShapes Go.WideShapes Go.ChangeAt Go.RowKit Go.Deep Q
set_option maxRecDepth 100000 in
/-- A talk that came in. -/
theorem open_talk {H : Type} {enc : TypeId × Value → H} {W : World} {v0 : Value} {d0 : DataW H} (hv : Value.okWide Try.prog W .any 0 30 v0) (hG : Got enc Try.prog W 30 v0.cells.toList d0) :
    ∃ (wn rn s0 s1 s2 s3 s4 : Int) (A A2 : Option Addr) (c c2 c5 : Nat) (l l2 : List Ai) (A5 : Option Addr) (bs : List Int), v0 = .agg #[.int .i64 wn, .int .i64 rn, .slice A2 l2.length c2, .slice A l.length c, .int .i64 s0, .int .i64 s1, .int .i64 s2, .int .i64 s3, .int .i64 s4, .slice A5 bs.length c5] ∧
      (-9223372036854775808 ≤ wn ∧ wn ≤ 9223372036854775807) ∧ (-9223372036854775808 ≤ rn ∧ rn ≤ 9223372036854775807) ∧ (ActsIn W A l ∧ l.length ≤ 140737488351232) ∧ (ActsIn W A2 l2 ∧ l2.length ≤ 140737488351232) ∧
      (Reads W W.heap.size 1 A5 bs.length (byts bs) ∧ bs.length ≤ c5 ∧ c5 ≤ 140737488351232) ∧ (-9223372036854775808 ≤ s4 ∧ s4 ≤ 9223372036854775807) := by
  obtain ⟨cs, rfl, hcs⟩ := okWide_struct Try.underlying30 hv
  obtain ⟨l⟩ := cs
  obtain ⟨a0, a1, a2, a3, a4, a5, a6, a7, a8, a9, rfl⟩ := list10 (l := l) (by simpa using hcs.trans cellsT30)
  simp only [Value.cells] at hG
  obtain ⟨_, g0⟩ := Got.fld Try.underlying30 hG 0 3 0 1 ⟨_, rfl, rfl, rfl⟩ cellsT3
  obtain ⟨_, g1⟩ := Got.fld Try.underlying30 hG 1 3 1 1 ⟨_, rfl, rfl, rfl⟩ cellsT3
  obtain ⟨_, g2⟩ := Got.fld Try.underlying30 hG 2 25 2 1 ⟨_, rfl, rfl, rfl⟩ cellsT25
  obtain ⟨_, g3⟩ := Got.fld Try.underlying30 hG 3 25 3 1 ⟨_, rfl, rfl, rfl⟩ cellsT25
  obtain ⟨_, g4⟩ := Got.fld Try.underlying30 hG 4 27 4 4 ⟨_, rfl, rfl, rfl⟩ cellsT27
  obtain ⟨_, g5⟩ := Got.fld Try.underlying30 hG 5 3 8 1 ⟨_, rfl, rfl, rfl⟩ cellsT3
  obtain ⟨_, g6⟩ := Got.fld Try.underlying30 hG 6 28 9 1 ⟨_, rfl, rfl, rfl⟩ cellsT28
  simp only [List.drop_zero, List.drop_succ_cons, List.take_succ_cons, List.take_zero] at g0 g1 g2 g3 g4 g5 g6
  obtain ⟨_, i0⟩ := Got.fld Try.underlying27 g4 0 3 0 1 ⟨_, rfl, rfl, rfl⟩ cellsT3
  obtain ⟨_, i1⟩ := Got.fld Try.underlying27 g4 1 3 1 1 ⟨_, rfl, rfl, rfl⟩ cellsT3
  obtain ⟨_, i2⟩ := Got.fld Try.underlying27 g4 2 3 2 1 ⟨_, rfl, rfl, rfl⟩ cellsT3
  obtain ⟨_, i3⟩ := Got.fld Try.underlying27 g4 3 3 3 1 ⟨_, rfl, rfl, rfl⟩ cellsT3
  simp only [List.drop_zero, List.drop_succ_cons, List.take_succ_cons, List.take_zero] at i0 i1 i2 i3
  obtain ⟨wn, rfl, e0⟩ := Got.int Try.underlying3 g0
  obtain ⟨rn, rfl, e1⟩ := Got.int Try.underlying3 g1
  obtain ⟨A2, c2, l2, rfl, _, hA2, hl2⟩ := Got.acts g2
  obtain ⟨A, c, l, rfl, _, hA, hl⟩ := Got.acts g3
  obtain ⟨s0, rfl, _⟩ := Got.int Try.underlying3 i0
  obtain ⟨s1, rfl, _⟩ := Got.int Try.underlying3 i1
  obtain ⟨s2, rfl, _⟩ := Got.int Try.underlying3 i2
  obtain ⟨s3, rfl, _⟩ := Got.int Try.underlying3 i3
  obtain ⟨s4, rfl, e4⟩ := Got.int Try.underlying3 g5
  obtain ⟨A5, c5, bs, rfl, h5, h6, h7⟩ := Got.bytes g6
  exact ⟨wn, rn, s0, s1, s2, s3, s4, A, A2, c, c2, c5, l, l2, A5, bs, rfl, e0, e1, ⟨hA, hl⟩, ⟨hA2, hl2⟩, ⟨h6, h5, h7⟩, e4⟩
end Go.Proofs.Ytkkckinnhkpcmaa
namespace Go.Proofs.Ytkkckinnhkpcmaa.rowLinkFifo
open Go.ChangeShapes Go.WideShapes Go.ChangeAt Go.RowKit Go.Deep Q

set_option maxRecDepth 100000 in
theorem lifted (os : Os) (started : os.Started) (H : Type) (enc : TypeId × Value → H) :
    ReturnsInHanded {} Try.checked os 4 .any (Rows.linkFifoSpec.pre6 enc Try.prog Try.f4 Rows.linkFifoRow.domain false) (Rows.linkFifoSpec.post enc Try.prog Try.f4 false true false false) := by
  refine returnsInHanded_of_change_sized (C := Try.checked) Try.own started (by kernel_rfl) Try.func4
    (ChangeSpec.witness6 (enc := enc) (C := Try.checked) false ⟨#[], #[.agg #[.int .i64 0, .int .i64 0, .slice none 0 0, .slice none 0 0, .int .i64 0, .int .i64 0, .int .i64 0, .int .i64 0, .int .i64 0, .slice none 0 0]], []⟩ 8 (by kernel_rfl) (by kernel_rfl) (by kernel_rfl) (by kernel_rfl)) ?_
  intro W base args ds gs before hval0 hW hcnd hsz0 _
  have hval : ∀ (j : Nat) t v, Try.f4.params[j]? = some t → args[j]? = some v → Value.okWide Try.prog W .any base t v := hval0
  have hsz : (DataW.weightsEach Try.prog (Try.f4.params.toList ++ Rows.linkFifoSpec.plain.varTypes Try.prog) (ds ++ gs)).all (· ≤ reachBytes) = true := hsz0
  have hW' : DataW.Whole enc Try.prog Try.f4.params.toList Rows.linkFifoSpec.vars false W args.toList ds gs before := hW
  have hlt0 : ∀ x ∈ before, x.block < W.heap.size := fun x hx => hW'.lt x hx
  obtain ⟨p, q, hA0, hV, rfl, hfz, hnd⟩ := hW
  have hA : DataW.TrodAll enc Try.prog W 0 (fun _ => true) true Try.f4.params.toList args.toList ds p := hA0
  rw [Try.params4] at hA hval hsz
  obtain ⟨v0, d0, rfl, rfl, h0⟩ := trodAll_one hA
  obtain ⟨rfl, rfl⟩ := trodVars_none hV
  have hw0 := weights_of hsz (j := 0) rfl rfl
  have hG := got_arg h0 hlt0 (fun x hx => by simp [hx]) hw0
  obtain ⟨wn, rn, s0, s1, s2, s3, s4, A, A2, c, c2, c5, l, l2, A5, bs, rfl, e0, e1, e2, e3, e4, e5⟩ := open_talk (hval 0 30 v0 rfl rfl) hG
  exact (fifo_walk wn rn s0 s1 s2 s3 s4 A A2 A5 _ _ c c2 c5 l W e0.1 e0.2 e1.1 e1.2 e2.1 e2.2).mono fun e W' ⟨he, hb⟩ =>
    ⟨_, he, post_law hW' rfl rfl rfl rfl Try.laidOut (by rw [Try.params4]; intro t ht; simp at ht; subst ht; exact ⟨by kernel_rfl, of_decide_eq_true (by kernel_rfl)⟩) rfl Try.underlying4 hb⟩

theorem holds : Rows.LinkFifoSaid :=
  OpenClaim.holds_of_wide 4 Try.f4 rfl rfl rfl rfl rfl rfl rfl ⟨rfl, rfl, rfl, rfl, rfl⟩ rfl rfl rfl rfl rfl (by kernel_rfl) Try.func4 (by kernel_rfl)
    (of_decide_eq_true (by kernel_rfl)) (by unfold Func.isWrapper; first | (rw [if_pos (by decide +kernel)]; kernel_rfl) | (rw [if_neg (by decide +kernel)]; exact ⟨rfl, rfl⟩))
    (fun os started H enc _ => lifted os started H enc)
#print axioms holds
end Go.Proofs.Ytkkckinnhkpcmaa.rowLinkFifo
