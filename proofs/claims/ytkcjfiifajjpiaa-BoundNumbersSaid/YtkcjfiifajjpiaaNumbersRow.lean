/-
  BoundNumbers: Settle, Deliver, Answer and Doubts answer as the reference. No condition.
-/
import Derived.Test.YtkcjfiifajjpiaaBoundL
import Derived.Test.YtkcjfiifajjpiaaFrame
set_option linter.unusedVariables false
namespace Go.Proofs.Ytkcjfiifajjpiaa.rowBoundNumbers
open Go.ChangeShapes Go.WideShapes Go.ChangeAt Go.RowKit Go.Deep Q

theorem cells3 : Try.prog.cellsOf 3 = 1 := by kernel_rfl
theorem bytes3 : Try.prog.bytesOf 3 = 8 := by kernel_rfl
theorem cellsS24 : Try.prog.cellsOf 24 = 8 := by kernel_rfl
theorem cellsS26 : Try.prog.cellsOf 26 = 10 := by kernel_rfl
theorem list10 {α : Type} {l : List α} (h : l.length = 10) : ∃ a b c d e f g i j k, l = [a, b, c, d, e, f, g, i, j, k] := by
  match l, h with
  | [a, b, c, d, e, f, g, i, j, k], _ => exact ⟨a, b, c, d, e, f, g, i, j, k, rfl⟩
theorem open_cells {H : Type} {enc : TypeId × Value → H} {P : Program} {W : World} {base : Nat} {spare : Nat → Bool} {held : Bool} {t : TypeId} {fs : Array Field} {fuel : Nat} {l : List Value} {x : DataW H × List MemPlace} (hs : P.underlying t = some (.struct fs)) (hone : oneCellFields P fs = true) (hC : P.cellsOf t = fs.size)
    (h : DataW.trod enc P W base spare held fuel t l = some x) :
    ∃ (ys : List (DataW H × List MemPlace)) (n : Nat), x = (.agg (ys.map (·.1)), ys.flatMap (·.2)) ∧ ys.length = fs.size ∧
      ∀ (j : Nat) (f : Field), fs[j]? = some f → ∃ (c : Value) (y : DataW H × List MemPlace), l[j]? = some c ∧ ys[j]? = some y ∧ DataW.trod enc P W base spare held n f.type [c] = some y := by
  obtain ⟨ys, n', hn', hy, hlen, hyl, hff⟩ := DataW.trod_struct hs h
  refine ⟨ys, n', hy, hyl, fun j f hj => ?_⟩
  obtain ⟨ho, hk⟩ := hone_of hone j f hj
  have hjl : j < fs.size := (Array.getElem?_eq_some_iff.1 hj).1
  have h1 := hff j f hj
  rw [ho, hk] at h1
  have hone' : (l.drop j).take 1 = [l[j]'(by omega)] := by
    rw [List.drop_eq_getElem_cons (by omega)]
    rfl
  rw [hone'] at h1
  have hys : ys[j]? = some (ys[j]'(by omega)) := List.getElem?_eq_getElem (by omega)
  exact ⟨_, _, List.getElem?_eq_getElem (by omega), hys, h1.trans hys⟩

set_option maxRecDepth 100000 in
theorem lifted (os : Os) (started : os.Started) (H : Type) (enc : TypeId × Value → H) :
    ReturnsInHanded {} Try.checked os 3 .any (Rows.boundNumbersSpec.pre6 enc Try.prog Try.f3 Rows.boundNumbersRow.domain false) (Rows.boundNumbersSpec.post enc Try.prog Try.f3 false true false false) := by
  refine returnsInHanded_of_change_sized (C := Try.checked) Try.own started (by kernel_rfl) Try.func3
    (ChangeSpec.witness6 (enc := enc) (C := Try.checked) false ⟨#[], #[.agg #[.int .i64 0, .int .i64 0, .int .i64 0, .int .i64 0, .int .i64 0, .int .i64 0, .int .i64 0, .slice none 0 0, .int .i64 0, .int .i64 0]], []⟩ 8 (by kernel_rfl) (by kernel_rfl) (by kernel_rfl) (by kernel_rfl)) ?_
  intro W base args ds gs before hval0 hW hcnd hsz0 _
  have hval : ∀ (j : Nat) t v, Try.f3.params[j]? = some t → args[j]? = some v → Value.okWide Try.prog W .any base t v := hval0
  have hsz : (DataW.weightsEach Try.prog (Try.f3.params.toList ++ Rows.boundNumbersSpec.plain.varTypes Try.prog) (ds ++ gs)).all (· ≤ reachBytes) = true := hsz0
  have hW' : DataW.Whole enc Try.prog Try.f3.params.toList Rows.boundNumbersSpec.vars false W args.toList ds gs before := hW
  have hlt0 : ∀ x ∈ before, x.block < W.heap.size := fun x hx => hW'.lt x hx
  obtain ⟨p, q, hA0, hV, rfl, hfz, hnd⟩ := hW
  have hA : DataW.TrodAll enc Try.prog W 0 (fun _ => true) true Try.f3.params.toList args.toList ds p := hA0
  rw [Try.params3] at hA hval hsz
  obtain ⟨v0, d0, rfl, rfl, h0⟩ := trodAll_one hA
  obtain ⟨rfl, rfl⟩ := trodVars_none hV
  have hw0 := weights_of hsz (j := 0) rfl rfl
  obtain ⟨cs, rfl, hs26⟩ := okWide_struct Try.underlying26 (hval 0 26 v0 rfl rfl)
  obtain ⟨l⟩ := cs
  obtain ⟨fu, hfu⟩ := h0
  obtain ⟨xs, m, _, hx, _, hxl, hf⟩ := DataW.trod_struct Try.underlying26 hfu
  simp only [Prod.mk.injEq] at hx
  obtain ⟨rfl, hp⟩ := hx
  obtain ⟨c0, c1, c2, c3, c4, c5, c6, c7, c8, c9, rfl⟩ := list10 (l := l) (by simpa using hs26.trans cellsS26)
  obtain ⟨y0, y1, y2, rfl⟩ := list3 hxl
  have f0 : DataW.trod enc Try.prog W 0 (fun _ => true) true m 24 [c0, c1, c2, c3, c4, c5, c6, c7] = some y0 := by simpa [Value.cells, cellsS24] using hf 0 _ rfl
  have f1 : DataW.trod enc Try.prog W 0 (fun _ => true) true m 3 [c8] = some y1 := by simpa [Value.cells, cells3] using hf 1 _ rfl
  have f2 : DataW.trod enc Try.prog W 0 (fun _ => true) true m 3 [c9] = some y2 := by simpa [Value.cells, cells3] using hf 2 _ rfl
  obtain ⟨x, ex, hx8⟩ := open_cell_int Try.underlying3 f1
  obtain ⟨y, ey, hy9⟩ := open_cell_int Try.underlying3 f2
  subst ex ey
  obtain ⟨zs, m2, hz, hzl, hzf⟩ := open_cells Try.underlying24 (by kernel_rfl) cellsS24 f0
  have hw24 : ∀ x ∈ DataW.weights Try.prog 24 y0.1, x ≤ reachBytes := agg_weights Try.underlying26 hw0 (j := 0) rfl rfl
  have hp0 : ∀ x ∈ y0.2, x.block < W.heap.size := fun x hx => hlt0 x (by rw [hp]; simp [hx])
  subst hz
  obtain ⟨z0, z1, z2, z3, z4, z5, z6, z7, rfl⟩ := list8 hzl
  obtain ⟨cc0, zz0, e0, g0, r0⟩ := hzf 0 _ rfl
  obtain rfl : c0 = cc0 := by simpa using e0
  obtain rfl : z0 = zz0 := by simpa using g0
  obtain ⟨cc1, zz1, e1, g1, r1⟩ := hzf 1 _ rfl
  obtain rfl : c1 = cc1 := by simpa using e1
  obtain rfl : z1 = zz1 := by simpa using g1
  obtain ⟨cc2, zz2, e2, g2, r2⟩ := hzf 2 _ rfl
  obtain rfl : c2 = cc2 := by simpa using e2
  obtain rfl : z2 = zz2 := by simpa using g2
  obtain ⟨cc3, zz3, e3, g3, r3⟩ := hzf 3 _ rfl
  obtain rfl : c3 = cc3 := by simpa using e3
  obtain rfl : z3 = zz3 := by simpa using g3
  obtain ⟨cc4, zz4, e4, g4, r4⟩ := hzf 4 _ rfl
  obtain rfl : c4 = cc4 := by simpa using e4
  obtain rfl : z4 = zz4 := by simpa using g4
  obtain ⟨cc5, zz5, e5, g5, r5⟩ := hzf 5 _ rfl
  obtain rfl : c5 = cc5 := by simpa using e5
  obtain rfl : z5 = zz5 := by simpa using g5
  obtain ⟨cc6, zz6, e6, g6, r6⟩ := hzf 6 _ rfl
  obtain rfl : c6 = cc6 := by simpa using e6
  obtain rfl : z6 = zz6 := by simpa using g6
  obtain ⟨cc7, zz7, e7, g7, r7⟩ := hzf 7 _ rfl
  obtain rfl : c7 = cc7 := by simpa using e7
  obtain rfl : z7 = zz7 := by simpa using g7
  obtain ⟨x0, ex0, hx0⟩ := open_cell_int Try.underlying3 r0
  subst ex0
  obtain ⟨x1, ex1, hx1⟩ := open_cell_int Try.underlying3 r1
  subst ex1
  obtain ⟨x2, ex2, hx2⟩ := open_cell_int Try.underlying3 r2
  subst ex2
  obtain ⟨x3, ex3, hx3⟩ := open_cell_int Try.underlying3 r3
  subst ex3
  obtain ⟨x4, ex4, hx4⟩ := open_cell_int Try.underlying3 r4
  subst ex4
  obtain ⟨x5, ex5, hx5⟩ := open_cell_int Try.underlying3 r5
  subst ex5
  obtain ⟨x6, ex6, hx6⟩ := open_cell_int Try.underlying3 r6
  subst ex6
  obtain ⟨A, n, k, vs, rfl, hvs, hnc, hc, hwf⟩ := open_RI (t := 22) (e := 3) Try.underlying22 Try.underlying3 cells3 bytes3 r7 (fun x hx => hp0 x (by simp [hx])) (agg_weights Try.underlying24 hw24 (j := 7) rfl rfl)
  exact (numbers_walk x0 x1 x2 x3 x4 x5 x6 x y vs A n k W hvs (by omega)).mono fun e W' ⟨he, hb⟩ =>
    ⟨_, he, post_law hW' rfl rfl rfl rfl Try.laidOut (by rw [Try.params3]; intro t ht; simp at ht; subst ht; exact ⟨by kernel_rfl, of_decide_eq_true (by kernel_rfl)⟩) rfl Try.underlying4 hb⟩

theorem holds : Rows.BoundNumbersSaid :=
  OpenClaim.holds_of_wide 3 Try.f3 rfl rfl rfl rfl rfl rfl rfl ⟨rfl, rfl, rfl, rfl, rfl⟩ rfl rfl rfl rfl rfl (by kernel_rfl) Try.func3 (by kernel_rfl)
    (of_decide_eq_true (by kernel_rfl)) (by unfold Func.isWrapper; first | (rw [if_pos (by decide +kernel)]; kernel_rfl) | (rw [if_neg (by decide +kernel)]; exact ⟨rfl, rfl⟩))
    (fun os started H enc _ => lifted os started H enc)
#print axioms holds
end Go.Proofs.Ytkcjfiifajjpiaa.rowBoundNumbers

