/-
  ScriptLineByLine: behind a good head one line more is one event more, the one that this line gives by itself; lines that are passed over, and blanks at a line's ends, change nothing.
-/
import Derived.Test.YtcibcmfaebbhnaaDoorZLlb
import Derived.Test.YtcibcmfaebbhnaaDoorZLad
import Derived.Test.YtcibcmfaebbhnaaDoorCards
import Derived.Test.YtcibcmfaebbhnaaDoorTie
import Derived.WalkKit
import Derived.ProofKit
import Derived.OpenShut
import Derived.ChangeMaps5
import Derived.Shelf.Vars
import Derived.Deep.DeepHandedRow
set_option linter.unusedVariables false
namespace Go.Proofs.YtcibcmfaebbhnaaDoor.rowLineByLine
open Go.ChangeShapes Go.WideShapes Go.ChangeAt Go.RowKit Go.Deep Q

set_option maxRecDepth 100000 in
theorem laid_facts {W : World} (h : laidMetH Tryd.prog Rows.scriptLineByLineRow.laid W) : OpT W := by
  have h' : laidMet Tryd.prog Rows.scriptLineByLineRow.laid W := h
  obtain ⟨ps, h1, _⟩ := h'
  obtain ⟨_, h2⟩ := tail_laid h1
  obtain ⟨_, h3⟩ := tail_laid h2
  obtain ⟨_, h4⟩ := tail_laid h3
  obtain ⟨_, h5⟩ := tail_laid h4
  obtain ⟨_, h6⟩ := tail_laid h5
  exact ops_laid (by kernel_rfl) h6
set_option maxRecDepth 100000 in
theorem max_len {W : World} (h : W.ShapedOpen Tryd.prog) : ML W :=
  cell_of_shapedOpen_int (P := Tryd.prog) (g := 1) (t := 3) (zero := #[.int .i64 0]) h (of_decide_eq_true (by kernel_rfl)) (by kernel_rfl) rfl (by kernel_rfl) (by kernel_rfl) Tryd.underlying3
set_option maxRecDepth 100000 in
theorem contract (H : Type) (enc : TypeId × Value → H) (W : World) (base : Nat) (args : Array Value) (ds gs : List (DataW H)) (before : List MemPlace)
    (hval : ∀ (j : Nat) t v, Tryd.f6.params[j]? = some t → args[j]? = some v → Value.okWide Tryd.prog W .any base t v)
    (hW : DataW.Whole enc Tryd.prog Tryd.f6.params.toList Rows.scriptLineByLineSpec.vars false W args.toList ds gs before) (hL : laidMetH Tryd.prog Rows.scriptLineByLineRow.laid W) (hM : ML W) (hw : (DataW.weightsEach Tryd.prog (Tryd.f6.params.toList ++ Rows.scriptLineByLineSpec.plain.varTypes Tryd.prog) (ds ++ gs)).all (· ≤ reachBytes) = true) :
    Calls Tryd.prog 6 args W fun e W' => ∃ v, e = .returned v ∧ Rows.scriptLineByLineSpec.post enc Tryd.prog Tryd.f6 false true false false W args v W' := by
  have hW' := hW
  have hlt0 : ∀ x ∈ before, x.block < W.heap.size := fun x hx => hW'.lt x hx
  obtain ⟨p, q, hA0, hV, rfl, hfz, hnd⟩ := hW
  have hA : DataW.TrodAll enc Tryd.prog W 0 (fun _ => true) true Tryd.f6.params.toList args.toList ds p := hA0
  rw [Tryd.params6] at hA hval
  obtain ⟨v0, d0, rfl, rfl, h0⟩ := trodAll_one hA
  obtain ⟨rfl, rfl⟩ := trodVars_none hV
  obtain ⟨cs0, ys0, m0, rfl, hcl0, hd0, hp0, hyl0, hf0⟩ := open_agg Tryd.underlying55 (by kernel_rfl) (by kernel_rfl) (hval 0 55 v0 rfl rfl) h0
  obtain ⟨x0, x1, x2, rfl⟩ := list3 hcl0
  obtain ⟨y0, y1, y2, rfl⟩ := list3 hyl0
  obtain ⟨cc0, yy0, ec0, ey0, r0⟩ := hf0 0 _ rfl
  obtain rfl : x0 = cc0 := by simpa using ec0
  obtain rfl : y0 = yy0 := by simpa using ey0
  obtain ⟨cc1, yy1, ec1, ey1, r1⟩ := hf0 1 _ rfl
  obtain rfl : x1 = cc1 := by simpa using ec1
  obtain rfl : y1 = yy1 := by simpa using ey1
  obtain ⟨cc2, yy2, ec2, ey2, r2⟩ := hf0 2 _ rfl
  obtain rfl : x2 = cc2 := by simpa using ec2
  obtain rfl : y2 = yy2 := by simpa using ey2
  obtain ⟨s, hs0, hy0, _⟩ := DataW.trod_string Tryd.underlying9 r0
  obtain rfl : x0 = .string s := by simpa using hs0
  obtain ⟨s', hs1, hy1, _⟩ := DataW.trod_string Tryd.underlying9 r1
  obtain rfl : x1 = .string s' := by simpa using hs1
  obtain ⟨k, hk1, _, _⟩ := open_cell_int Tryd.underlying3 r2
  subst hk1
  have hw0 : ∀ x ∈ DataW.weights Tryd.prog 55 (.agg ([y0, y1, y2].map (·.1))), x ≤ reachBytes := by
    have := weights_of (P := Tryd.prog) hw (j := 0) (t := 55) (d := d0) rfl rfl
    rw [hd0] at this
    exact this
  have hw1 := agg_weights (P := Tryd.prog) Tryd.underlying55 hw0 (j := 0) rfl rfl s.data.toList.length (by rw [hy0]; simp [DataW.weights])
  have hw2 := agg_weights (P := Tryd.prog) Tryd.underlying55 hw0 (j := 1) rfl rfl s'.data.toList.length (by rw [hy1]; simp [DataW.weights])
  have hr : reachBytes = 140737488351232 := rfl
  have hx0 : s = S s.data.toList := (S_self s).symm
  have hx1 : s' = S s'.data.toList := (S_self s').symm
  have hcall := line_by_line s.data.toList s'.data.toList k W (by omega) (by omega) (laid_facts hL) hM
  rw [← hx0, ← hx1] at hcall
  exact hcall.mono fun e W' ⟨he, hb⟩ =>
    ⟨_, he, post_law hW' rfl rfl rfl rfl Tryd.laidOut (by rw [Tryd.params6]; intro t ht; simp at ht; subst ht; exact ⟨by kernel_rfl, of_decide_eq_true (by kernel_rfl)⟩) rfl Tryd.underlying4 hb⟩
set_option maxRecDepth 100000 in
theorem laid_met (os : Os) : laidMet Tryd.prog Rows.scriptLineByLineRow.laid ((laidWorld os).forCall (fun _ _ => 0) ⟨#[], #[.agg #[.string ⟨#[]⟩, .string ⟨#[]⟩, .int .i64 0]], []⟩).memory :=
  laidMet_of_run' 8 (by kernel_rfl) (by kernel_rfl)
set_option maxRecDepth 100000 in
theorem reads (os : Os) {H : Type} (enc : TypeId × Value → H) : ∃ places, DataW.whole enc Tryd.prog ((laidWorld os).forCall (fun _ _ => 0) ⟨#[], #[.agg #[.string ⟨#[]⟩, .string ⟨#[]⟩, .int .i64 0]], []⟩).memory Tryd.f6.params.toList Rows.scriptLineByLineSpec.vars false (#[.agg #[.string ⟨#[]⟩, .string ⟨#[]⟩, .int .i64 0]] : Array Value).toList 8 = some ([.agg [.lit (.string []), .lit (.string []), .lit (.int .i64 0)]], [], places) :=
  ⟨[], by kernel_rfl⟩
set_option maxRecDepth 100000 in
theorem lifted (os : Os) (started : os.Started) (H : Type) (enc : TypeId × Value → H) (F : Stop.Interp) :
    ReturnsInHanded {} Tryd.checked os 6 .any ((OpenSpec.ofChange Rows.scriptLineByLineSpec).preRow enc Tryd.prog Tryd.f6 Rows.scriptLineByLineRow.domain false Rows.scriptLineByLineRow.laid) (((OpenSpec.ofChange Rows.scriptLineByLineSpec).at F).post enc Tryd.prog Tryd.f6 false true false false) := by
  obtain ⟨places, hx⟩ := reads os enc
  refine returnsInHanded_of_row (C := Tryd.checked) (s := OpenSpec.ofChange Rows.scriptLineByLineSpec) Tryd.own started (by kernel_rfl) Tryd.func6
    (witness_row_at (enc := enc) (C := Tryd.checked) false (laidWorld os) #[.agg #[.string ⟨#[]⟩, .string ⟨#[]⟩, .int .i64 0]] rfl (by kernel_rfl) (by kernel_rfl) (by kernel_rfl)
      (OpenSpec.preRow_of_cond 8 hx (by kernel_rfl) (fun k hk => by cases hk) (by kernel_rfl) (laid_met os))) ?_
  intro W base args ds gs before hval hW _ hcond hwt hL hsh _
  exact contract H enc W base args ds gs before hval hW hL (max_len hsh) hwt

theorem saidUpto : Rows.ScriptLineByLineSaid :=
  OpenClaim.holds_of_cond 6 Tryd.f6 rfl rfl rfl rfl rfl rfl rfl ⟨rfl, rfl, rfl, rfl, rfl⟩ rfl rfl rfl rfl rfl (by kernel_rfl) Tryd.func6 (by kernel_rfl)
    (of_decide_eq_true (by kernel_rfl)) (by unfold Func.isWrapper; first | (rw [if_pos (by decide +kernel)]; kernel_rfl) | (rw [if_neg (by decide +kernel)]; exact ⟨rfl, rfl⟩))
    (fun os started H enc _ F => by rw [OpenClaim.pre_eq_preRow]; exact lifted os started H enc F)

theorem plain (f : FuncId) (fn : Func) (hf : Tryd.pinned.checked.prog.funcNamed "quorate/quoratelaw02.ScriptLineByLine" = some f) (hfn : Tryd.pinned.checked.prog.funcs[f]? = some fn) :
    true = Tryd.pinned.checked.prog.looks [] ∧ ∀ (j : Nat) t, fn.params[j]? = some t → Tryd.pinned.checked.prog.wantsStandIn t = false := by
  obtain rfl : f = 6 := Option.some.inj ((show Tryd.prog.funcNamed "quorate/quoratelaw02.ScriptLineByLine" = some 6 by kernel_rfl).symm.trans hf) |>.symm
  obtain rfl : fn = Tryd.f6 := (Option.some.inj (Tryd.func6.symm.trans hfn)).symm
  refine ⟨by kernel_rfl, fun j t ht => ?_⟩
  rw [Tryd.params6] at ht
  obtain rfl : t = 55 := by simpa using Array.mem_of_getElem? ht
  exact (show Tryd.prog.wantsStandIn 55 = false by kernel_rfl)

/-- The card. -/
theorem holds : Rows.ScriptLineByLineCardSaid :=
  Claim7.holds_tied_plain_at .later [] _ _ _ _ saidUpto (fun _ h => by cases h) (by kernel_rfl) (fun _ h => by cases h) scriptLineByLine_row_tie rfl ⟨rfl, rfl⟩ (by kernel_rfl) rfl plain (by kernel_rfl)
#print axioms holds
end Go.Proofs.YtcibcmfaebbhnaaDoor.rowLineByLine
