/-
  QuorumBest: the best standing, by program and by reference, the same; of the turned list the turned place. No condition.
-/
import Derived.Test.YteckffndboiknaaBestL
import Derived.Test.YteckffndboiknaaFrame
import Derived.ChangeSame
set_option linter.unusedVariables false
namespace Go.Proofs.Yteckffndboiknaa.rowQuorumBest
open Go.ChangeShapes Go.WideShapes Go.ChangeAt Go.RowKit Go.Deep Q

theorem cells30 : Try.prog.cellsOf 30 = 3 := by kernel_rfl
theorem bytes30 : Try.prog.bytesOf 30 = 24 := by kernel_rfl

section
variable {H : Type} {enc : TypeId × Value → H} {P : Program} {w : World} {base : Nat} {spare : Nat → Bool} {held : Bool}
theorem open_slice_fields {t e : TypeId} {fs : Array Field} {fuel : Nat} {cs : List Value} {x : DataW H × List MemPlace} (ht : P.underlying t = some (.slice e)) (he : P.underlying e = some (.struct fs))
    (hone : oneCellFields P fs = true) (hC : P.cellsOf e = fs.size) (h : DataW.trod enc P w base spare held fuel t cs = some x) :
    (cs = [.slice none 0 0] ∧ x = (.nil, [])) ∨
    ∃ (a : Addr) (len cap m : Nat) (D : Nat → DataW H) (Pl : Nat → List MemPlace), cs = [.slice (some a) len cap] ∧ base ≤ a.block ∧ len ≤ cap ∧ cap ≤ maxLen ∧ m = (if spare a.block then cap else len) ∧
      x = (.slice ((List.range len).map D) ((List.range (m - len)).map fun j => D (len + j)), MemPlace.row a (m * fs.size) ++ (List.range m).flatMap Pl) ∧
      ∀ i, i < m → ∃ (ys : List (DataW H × List MemPlace)) (n : Nat), D i = .agg (ys.map (·.1)) ∧ Pl i = ys.flatMap (·.2) ∧ ys.length = fs.size ∧
        ∀ (j : Nat) (f : Field), fs[j]? = some f → ∃ (v : Value) (y : DataW H × List MemPlace), w.cell? (a.add (i * fs.size + j)) = some v ∧ ys[j]? = some y ∧ DataW.trod enc P w base spare held n f.type [v] = some y := by
  rcases open_slice ht h with h0 | ⟨a, len, cap, m, n, D, Pl, hcs, hb, hl, hm, hmm, hx, hi⟩
  · exact .inl h0
  · refine .inr ⟨a, len, cap, m, D, Pl, hcs, hb, hl, hm, hmm, by rw [hC] at hx; exact hx, fun i him => ?_⟩
    obtain ⟨cs', hc, ht'⟩ := hi i him
    rw [hC] at hc
    obtain ⟨ys, n', hn', hy, hlen, hyl, hf⟩ := DataW.trod_struct he ht'
    obtain ⟨_, hcl, hat⟩ := World.cells?_some hc
    simp only [Prod.mk.injEq] at hy
    refine ⟨ys, n', hy.1, hy.2, hyl, fun j f hj => ?_⟩
    obtain ⟨ho, hk⟩ := hone_of hone j f hj
    have hjl : j < fs.size := (Array.getElem?_eq_some_iff.1 hj).1
    have hcell := hat j hjl
    have hv : cs'[j]? = some (cs'[j]'(by omega)) := List.getElem?_eq_getElem (by omega)
    have h1 := hf j f hj
    rw [ho, hk] at h1
    have hone' : (cs'.drop j).take 1 = [cs'[j]'(by omega)] := by
      rw [List.drop_eq_getElem_cons (by omega)]
      rfl
    rw [hone'] at h1
    have hys : ys[j]? = some (ys[j]'(by omega)) := List.getElem?_eq_getElem (by omega)
    refine ⟨_, _, ?_, hys, h1.trans hys⟩
    rw [← Go.Deep.add_add, hcell, hv]

def at_ (W : World) (a : Addr) (k : Nat) : Int := match W.cell? (a.add k) with | some (.int _ z) => z | _ => 0
theorem sts_range (f : Nat → Int) (n : Nat) : sts ((List.range n).map fun i => (f (i * 3), f (i * 3 + 1), f (i * 3 + 2))) = (List.range (n * 3)).map fun k => Value.int .i64 (f k) := by
  induction n with
  | zero => rfl
  | succ n ih =>
    have e : (n + 1) * 3 = n * 3 + 1 + 1 + 1 := by omega
    rw [e, List.range_succ, List.range_succ, List.range_succ, List.range_succ]
    simp only [List.map_append, sts, List.flatMap_append] at ih ⊢
    rw [ih]
    simp

theorem open_RS {W : World} {fuel : Nat} {v : Value} {y : DataW H × List MemPlace}
    (h : DataW.trod enc Try.prog W 0 (fun _ => true) true fuel 22 [v] = some y) (hlt : ∀ x ∈ y.2, x.block < W.heap.size) (hwt : ∀ x ∈ DataW.weights Try.prog 22 y.1, x ≤ reachBytes) :
    ∃ (A : Option Addr) (n c : Nat) (l : List (Int × Int × Int)), v = .slice A n c ∧ RS W W.heap.size A n l ∧ n * 24 ≤ 140737488351232 := by
  rcases open_slice_fields Try.underlying22 Try.underlying30 (by kernel_rfl) cells30 h with ⟨hcs, hx⟩ | ⟨a, len, cap, m, D, Pl, hcs, _, hl, _, hm, hx, hi⟩
  · obtain rfl : v = .slice none 0 0 := by simpa using hcs
    exact ⟨none, 0, 0, [], rfl, ⟨by simp [sts], fun h => absurd h (by omega)⟩, by omega⟩
  · obtain rfl : v = .slice (some a) len cap := by simpa using hcs
    simp only [if_true] at hm
    subst hm
    have hcell : ∀ k, k < len * 3 → W.cell? (a.add k) = some (.int .i64 (at_ W a k)) := by
      intro k hk
      have hkk : k = k / 3 * 3 + k % 3 := by omega
      obtain ⟨ys, n, _, _, _, hf⟩ := hi (k / 3) (by omega)
      have h3 : k % 3 = 0 ∨ k % 3 = 1 ∨ k % 3 = 2 := by omega
      have go : ∀ (f : Field), Try.prog.underlying f.type = some (.int .i64) → (∃ (v : Value) (y : DataW H × List MemPlace), W.cell? (a.add (k / 3 * 3 + k % 3)) = some v ∧ ys[k % 3]? = some y ∧ DataW.trod enc Try.prog W 0 (fun _ => true) true n f.type [v] = some y) → W.cell? (a.add k) = some (.int .i64 (at_ W a k)) := by
        intro f hfi ⟨v, y, hc, _, ht⟩
        obtain ⟨x, rfl, _⟩ := open_cell_int hfi ht
        rw [← hkk] at hc
        unfold at_
        rw [hc]
      rcases h3 with h3 | h3 | h3
      · have := hf 0 _ rfl; rw [h3] at go; refine go _ ?_ this; exact Try.underlying3
      · have := hf 1 _ rfl; rw [h3] at go; refine go _ ?_ this; exact Try.underlying3
      · have := hf 2 _ rfl; rw [h3] at go; refine go _ ?_ this; exact Try.underlying3
    have hr : len * 24 ≤ 140737488351232 := by
      have hw := hwt (m * 24) (by
        rw [hx]
        simp only [DataW.weights, Try.underlying22, bytes30, List.length_map, List.length_range, List.mem_cons]
        left; congr 1; omega)
      have : m * 24 ≤ 140737488351232 := by simpa [reachBytes] using hw
      omega
    refine ⟨some a, len, m, (List.range len).map fun i => (at_ W a (i * 3), at_ W a (i * 3 + 1), at_ W a (i * 3 + 2)), rfl, ⟨?_, fun hn => ⟨a, rfl, ?_, fun j u hu => ?_⟩⟩, hr⟩
    · rw [sts_range]; simp
    · have hb := hlt (.cell a.block (a.off + 0)) (by
        rw [hx]
        exact List.mem_append_left _ (MemPlace.mem_row.2 ⟨0, by show 0 < m * 3; omega, rfl⟩))
      exact hb
    · rw [sts_range] at hu
      have hj : j < len * 3 := by
        have := (List.getElem?_eq_some_iff.1 hu).1
        simpa using this
      rw [List.getElem?_map, List.getElem?_range hj] at hu
      rw [hcell j hj]
      simpa using hu
end

set_option maxRecDepth 100000 in
theorem lifted (os : Os) (started : os.Started) (H : Type) (enc : TypeId × Value → H) :
    ReturnsInHanded {} Try.checked os 3 .any (Rows.quorumBestSpec.pre6 enc Try.prog Try.f3 Rows.quorumBestRow.domain false) (Rows.quorumBestSpec.post enc Try.prog Try.f3 false true false false) := by
  refine returnsInHanded_of_change_sized (C := Try.checked) Try.own started (by kernel_rfl) Try.func3
    (ChangeSpec.witness6 (enc := enc) (C := Try.checked) false ⟨#[], #[.slice none 0 0], []⟩ 8 (by kernel_rfl) (by kernel_rfl) (by kernel_rfl) (by kernel_rfl)) ?_
  intro W base args ds gs before hval0 hW hcnd hsz0 _
  have hval : ∀ (j : Nat) t v, Try.f3.params[j]? = some t → args[j]? = some v → Value.okWide Try.prog W .any base t v := hval0
  have hsz : (DataW.weightsEach Try.prog (Try.f3.params.toList ++ Rows.quorumBestSpec.plain.varTypes Try.prog) (ds ++ gs)).all (· ≤ reachBytes) = true := hsz0
  have hW' : DataW.Whole enc Try.prog Try.f3.params.toList Rows.quorumBestSpec.vars false W args.toList ds gs before := hW
  have hlt0 : ∀ x ∈ before, x.block < W.heap.size := fun x hx => hW'.lt x hx
  obtain ⟨p, q, hA0, hV, rfl, hfz, hnd⟩ := hW
  have hA : DataW.TrodAll enc Try.prog W 0 (fun _ => true) true Try.f3.params.toList args.toList ds p := hA0
  rw [Try.params3] at hA hval hsz
  obtain ⟨v0, d0, rfl, rfl, h0⟩ := trodAll_one hA
  obtain ⟨rfl, rfl⟩ := trodVars_none hV
  have hw0 := weights_of hsz (j := 0) rfl rfl
  obtain ⟨fu0, h0⟩ := h0
  obtain ⟨A0, c0, rfl⟩ : ∃ (A : Option Addr) (c : Nat × Nat), v0 = .slice A c.1 c.2 := by obtain ⟨a, l, c, h⟩ := okWide_slice Try.underlying22 (hval 0 22 v0 rfl rfl); exact ⟨a, (l, c), h⟩
  obtain ⟨B0, n0, k0, l0, e0, hvs0, hn0⟩ := open_RS (by simpa [Value.cells] using h0) (fun x hx => hlt0 x (by simp [hx])) hw0
  rw [e0] at hW' ⊢
  exact (bestlaw_walk B0 n0 k0 l0 W hvs0 hn0).mono fun e W' ⟨he, hb⟩ =>
    ⟨_, he, post_law hW' rfl rfl rfl rfl Try.laidOut (by rw [Try.params3]; intro t ht; simp at ht; subst ht; exact ⟨by kernel_rfl, of_decide_eq_true (by kernel_rfl)⟩) rfl Try.underlying4 hb⟩

theorem holds : Rows.QuorumBestSaid :=
  OpenClaim.holds_of_wide 3 Try.f3 rfl rfl rfl rfl rfl rfl rfl ⟨rfl, rfl, rfl, rfl, rfl⟩ rfl rfl rfl rfl rfl (by kernel_rfl) Try.func3 (by kernel_rfl)
    (of_decide_eq_true (by kernel_rfl)) (by unfold Func.isWrapper; first | (rw [if_pos (by decide +kernel)]; kernel_rfl) | (rw [if_neg (by decide +kernel)]; exact ⟨rfl, rfl⟩))
    (fun os started H enc _ => lifted os started H enc)
#print axioms holds
end Go.Proofs.Yteckffndboiknaa.rowQuorumBest
