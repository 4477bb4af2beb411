/-
  ScriptReadsLine, for lines of at most some 1048570 bytes: of every such line, and for every number of nodes, the program's ParseEvent gives the reference's event.
-/
import Derived.Test.YtcibcmfaebbhnaaDoorLrl
import Derived.Test.YtcibcmfaebbhnaaDoorLad
import Derived.Test.YtcibcmfaebbhnaaDoorCards
import Derived.Test.YtcibcmfaebbhnaaDoorTie
import Derived.WalkKit
import Derived.ProofKit
import Derived.OpenShut
import Derived.ChangeMaps5
import Derived.Shelf.Vars
import Derived.Deep.DeepHandedRow
set_option linter.unusedVariables false
namespace Go.Proofs.YtcibcmfaebbhnaaDoor.rowReadsLine
open Go.ChangeShapes Go.WideShapes Go.ChangeAt Go.RowKit Go.Deep Q

set_option maxRecDepth 100000 in
theorem laid_facts {W : World} (h : laidMetH Tryd.prog Rows.scriptReadsLineUptoRow.laid W) : OpT W := by
  have h' : laidMet Tryd.prog Rows.scriptReadsLineUptoRow.laid W := h
  obtain ⟨ps, h1, _⟩ := h'
  obtain ⟨_, h2⟩ := tail_laid h1
  obtain ⟨_, h3⟩ := tail_laid h2
  obtain ⟨_, h4⟩ := tail_laid h3
  obtain ⟨_, h5⟩ := tail_laid h4
  obtain ⟨_, h6⟩ := tail_laid h5
  exact ops_laid (by kernel_rfl) h6
set_option maxRecDepth 100000 in
theorem contract (H : Type) (enc : TypeId × Value → H) (W : World) (base : Nat) (args : Array Value) (ds gs : List (DataW H)) (before : List MemPlace)
    (hval : ∀ (j : Nat) t v, Tryd.f3.params[j]? = some t → args[j]? = some v → Value.okWide Tryd.prog W .any base t v)
    (hW : DataW.Whole enc Tryd.prog Tryd.f3.params.toList Rows.scriptReadsLineSpec.vars false W args.toList ds gs before) (hk : Rows.uptoSmall H (ds ++ gs) = true) (hL : laidMetH Tryd.prog Rows.scriptReadsLineUptoRow.laid W) :
    Calls Tryd.prog 3 args W fun e W' => ∃ v, e = .returned v ∧ Rows.scriptReadsLineSpec.post enc Tryd.prog Tryd.f3 false true false false W args v W' := by
  have hW' := hW
  have hlt0 : ∀ x ∈ before, x.block < W.heap.size := fun x hx => hW'.lt x hx
  obtain ⟨p, q, hA0, hV, rfl, hfz, hnd⟩ := hW
  have hA : DataW.TrodAll enc Tryd.prog W 0 (fun _ => true) true Tryd.f3.params.toList args.toList ds p := hA0
  rw [Tryd.params3] at hA hval
  obtain ⟨v0, d0, rfl, rfl, h0⟩ := trodAll_one hA
  obtain ⟨rfl, rfl⟩ := trodVars_none hV
  obtain ⟨cs0, ys0, m0, rfl, hcl0, hd0, hp0, hyl0, hf0⟩ := open_agg Tryd.underlying23 (by kernel_rfl) (by kernel_rfl) (hval 0 23 v0 rfl rfl) h0
  obtain ⟨x0, x1, rfl⟩ := list2 hcl0
  obtain ⟨y0, y1, rfl⟩ := list2 hyl0
  obtain ⟨cc0, yy0, ec0, ey0, r0⟩ := hf0 0 _ rfl
  obtain rfl : x0 = cc0 := by simpa using ec0
  obtain rfl : y0 = yy0 := by simpa using ey0
  obtain ⟨cc1, yy1, ec1, ey1, r1⟩ := hf0 1 _ rfl
  obtain rfl : x1 = cc1 := by simpa using ec1
  obtain rfl : y1 = yy1 := by simpa using ey1
  obtain ⟨s, hs0, hy0, _⟩ := DataW.trod_string Tryd.underlying9 r0
  obtain rfl : x0 = .string s := by simpa using hs0
  obtain ⟨k, hk1, _, _⟩ := open_cell_int Tryd.underlying3 r1
  subst hk1
  have hs : s.size ≤ 1048576 := by
    have h1 : Rows.uptoBulkAll ([d0] ++ ([] : List (DataW H))) ≤ 1048576 := of_decide_eq_true hk
    rw [List.append_nil, hd0, hy0] at h1
    simp only [List.map_cons, List.map_nil, Rows.uptoBulkAll, Rows.uptoBulk] at h1
    have h2 : s.data.toList.length = s.size := str_len s
    omega
  exact (reads_line s k W hs (laid_facts hL)).mono fun e W' ⟨he, hb⟩ =>
    ⟨_, he, post_law hW' rfl rfl rfl rfl Tryd.laidOut (by rw [Tryd.params3]; intro t ht; simp at ht; subst ht; exact ⟨by kernel_rfl, of_decide_eq_true (by kernel_rfl)⟩) rfl Tryd.underlying4 hb⟩
set_option maxRecDepth 100000 in
theorem laid_met (os : Os) : laidMet Tryd.prog Rows.scriptReadsLineUptoRow.laid ((laidWorld os).forCall (fun _ _ => 0) ⟨#[], #[.agg #[.string ⟨#[]⟩, .int .i64 0]], []⟩).memory :=
  laidMet_of_run' 8 (by kernel_rfl) (by kernel_rfl)
set_option maxRecDepth 100000 in
theorem reads (os : Os) {H : Type} (enc : TypeId × Value → H) : ∃ places, DataW.whole enc Tryd.prog ((laidWorld os).forCall (fun _ _ => 0) ⟨#[], #[.agg #[.string ⟨#[]⟩, .int .i64 0]], []⟩).memory Tryd.f3.params.toList Rows.scriptReadsLineSpec.vars false (#[.agg #[.string ⟨#[]⟩, .int .i64 0]] : Array Value).toList 8 = some ([.agg [.lit (.string []), .lit (.int .i64 0)]], [], places) :=
  ⟨[], by kernel_rfl⟩
set_option maxRecDepth 100000 in
theorem lifted (os : Os) (started : os.Started) (H : Type) (enc : TypeId × Value → H) (F : Stop.Interp) :
    ReturnsInHanded {} Tryd.checked os 3 .any ((Rows.OpenSpec.upto Rows.scriptReadsLineSpec).preRow enc Tryd.prog Tryd.f3 Rows.scriptReadsLineUptoRow.domain false Rows.scriptReadsLineUptoRow.laid) (((Rows.OpenSpec.upto Rows.scriptReadsLineSpec).at F).post enc Tryd.prog Tryd.f3 false true false false) := by
  obtain ⟨places, hx⟩ := reads os enc
  refine returnsInHanded_of_row (C := Tryd.checked) (s := Rows.OpenSpec.upto Rows.scriptReadsLineSpec) Tryd.own started (by kernel_rfl) Tryd.func3
    (witness_row_at (enc := enc) (C := Tryd.checked) false (laidWorld os) #[.agg #[.string ⟨#[]⟩, .int .i64 0]] rfl (by kernel_rfl) (by kernel_rfl) (by kernel_rfl)
      (OpenSpec.preRow_of_cond 8 hx (by kernel_rfl) (fun k hk => by cases hk; kernel_rfl) (by kernel_rfl) (laid_met os))) ?_
  intro W base args ds gs before hval hW _ hcond _ hL _ _
  exact contract H enc W base args ds gs before hval hW (hcond _ rfl) hL

theorem saidUpto : Rows.ScriptReadsLineUptoSaid :=
  OpenClaim.holds_of_cond 3 Tryd.f3 rfl rfl rfl rfl rfl rfl rfl ⟨rfl, rfl, rfl, rfl, rfl⟩ rfl rfl rfl rfl rfl (by kernel_rfl) Tryd.func3 (by kernel_rfl)
    (of_decide_eq_true (by kernel_rfl)) (by unfold Func.isWrapper; first | (rw [if_pos (by decide +kernel)]; kernel_rfl) | (rw [if_neg (by decide +kernel)]; exact ⟨rfl, rfl⟩))
    (fun os started H enc _ F => by rw [OpenClaim.pre_eq_preRow]; exact lifted os started H enc F)

theorem plain (f : FuncId) (fn : Func) (hf : Tryd.pinned.checked.prog.funcNamed "quorate/quoratelaw02.ScriptReadsLine" = some f) (hfn : Tryd.pinned.checked.prog.funcs[f]? = some fn) :
    true = Tryd.pinned.checked.prog.looks [] ∧ ∀ (j : Nat) t, fn.params[j]? = some t → Tryd.pinned.checked.prog.wantsStandIn t = false := by
  obtain rfl : f = 3 := Option.some.inj ((show Tryd.prog.funcNamed "quorate/quoratelaw02.ScriptReadsLine" = some 3 by kernel_rfl).symm.trans hf) |>.symm
  obtain rfl : fn = Tryd.f3 := (Option.some.inj (Tryd.func3.symm.trans hfn)).symm
  refine ⟨by kernel_rfl, fun j t ht => ?_⟩
  rw [Tryd.params3] at ht
  obtain rfl : t = 23 := by simpa using Array.mem_of_getElem? ht
  exact (show Tryd.prog.wantsStandIn 23 = false by kernel_rfl)

/-- The second form's card. -/
theorem holds : Rows.ScriptReadsLineUptoCardSaid :=
  Claim7.holds_tied_plain_at .later [] _ _ _ _ saidUpto (fun _ h => by cases h) (by kernel_rfl) (fun _ h => by cases h) scriptReadsLineUpto_row_tie rfl ⟨rfl, rfl⟩ (by kernel_rfl) rfl plain (by kernel_rfl)
#print axioms holds
end Go.Proofs.YtcibcmfaebbhnaaDoor.rowReadsLine
