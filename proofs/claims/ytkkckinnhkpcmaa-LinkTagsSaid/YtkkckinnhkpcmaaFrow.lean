/-
  Frames and acks in a row, one by one; Frames by contract at the wire; a wire that shows the first k frames.
-/
import Derived.Test.YtkkckinnhkpcmaaWbase
set_option linter.unusedVariables false
namespace Go.Proofs.Ytkkckinnhkpcmaa
open Go.RowKit Go.WideShapes Go.ChangeShapes Q

theorem frL_len (f : Fr) (v : Value) : (frL f v).length = 6 := rfl
theorem frAll_at : ∀ {fs : List Fr} {vs : List Value}, vs.length = fs.length → ∀ {k : Nat} {f : Fr} {v : Value}, fs[k]? = some f → vs[k]? = some v → ∀ {j : Nat}, j < 6 → (frAll fs vs)[k * 6 + j]? = (frL f v)[j]?
  | [], [], _, k, f, v, hf, _, j, _ => by simp at hf
  | a :: fs, b :: vs, hl, k, f, v, hf, hv, j, hj => by
    have e : frAll (a :: fs) (b :: vs) = frL a b ++ frAll fs vs := by simp [frAll]
    rw [e]
    cases k with
    | zero =>
      simp at hf hv
      subst hf; subst hv
      rw [List.getElem?_append_left (by rw [frL_len]; omega)]
      simp
    | succ k =>
      simp at hf hv
      rw [List.getElem?_append_right (by rw [frL_len]; omega), frL_len, show (k + 1) * 6 + j - 6 = k * 6 + j by omega]
      exact frAll_at (by simpa using hl) hf hv hj
  | [], _ :: _, hl, _, _, _, _, _, _, _ => by simp at hl
  | _ :: _, [], hl, _, _, _, _, _, _, _ => by simp at hl
/-- A frame in its row. -/
theorem FRow.at_ {w : World} {S : Nat → Prop} {v : Value} {fs : List (Int × List Int)} (h : FRow w S v (frs fs)) {k : Nat} (hk : k < fs.length) {f : Int × List Int} (hf : fs[k]? = some f) :
    ∃ gl cap vk, v = .slice (some ⟨gl, 0, none⟩) fs.length cap ∧ fs.length ≤ cap ∧ S gl ∧ Bod w vk f.2 ∧ w.cell? ⟨gl, k * 6, none⟩ = some (.int .i64 3) ∧ w.cell? ⟨gl, k * 6 + 1, none⟩ = some (.int .i64 2) ∧ w.cell? ⟨gl, k * 6 + 2, none⟩ = some (.int .i64 4) ∧
      w.cell? ⟨gl, k * 6 + 3, none⟩ = some (.int .i64 9) ∧ w.cell? ⟨gl, k * 6 + 4, none⟩ = some (.int .i64 f.1) ∧ w.cell? ⟨gl, k * 6 + 5, none⟩ = some vk := by
  obtain ⟨vs, h1, h2, h3⟩ := h
  have hl : (frs fs).length = fs.length := by simp [frs]
  have hvl : vs.length = (frs fs).length := by have := h2.1; simpa using this
  have hfk : (frs fs)[k]? = some ⟨tg, f.1, f.2⟩ := by simp [frs, hf]
  have hvk : vs[k]? = some (vs[k]'(by omega)) := List.getElem?_eq_getElem (by omega)
  have hb := h2.2 k _ f.2 hvk (by simp [hfk])
  rcases h1.2 with ⟨_, e⟩ | ⟨g, cap, cur, e, _, hh, hc, _⟩
  · omega
  · have hcell : ∀ j u, (frL ⟨tg, f.1, f.2⟩ (vs[k]'(by omega)))[j]? = some u → j < 6 → w.cell? ⟨g, k * 6 + j, none⟩ = some u := fun j u hu hj => by
      have hcs := h1.cells (g := g) (by rw [e]; rfl) (k * 6 + j) u (by rw [frAll_at hvl hfk hvk hj]; exact hu)
      rwa [addr0] at hcs
    refine ⟨g, cap, _, by rw [e, hl], by omega, h3 g (by rw [e]; rfl), hb, ?_, ?_, ?_, ?_, ?_, ?_⟩
    · exact hcell 0 _ rfl (by omega)
    · exact hcell 1 _ rfl (by omega)
    · exact hcell 2 _ rfl (by omega)
    · exact hcell 3 _ rfl (by omega)
    · exact hcell 4 _ rfl (by omega)
    · exact hcell 5 _ rfl (by omega)
theorem akAll_at : ∀ {us : List Int} {k : Nat} {u : Int}, us[k]? = some u → ∀ {j : Nat}, j < 5 → (akAll us)[k * 5 + j]? = (akC tg u).toList[j]?
  | [], k, u, h, j, _ => by simp at h
  | a :: us, k, u, h, j, hj => by
    have e : akAll (a :: us) = (akC tg a).toList ++ akAll us := by simp [akAll]
    have hl : (akC tg a).toList.length = 5 := rfl
    rw [e]
    cases k with
    | zero =>
      simp at h
      subst h
      rw [List.getElem?_append_left (by omega)]
      simp
    | succ k =>
      simp at h
      rw [List.getElem?_append_right (by omega), hl, show (k + 1) * 5 + j - 5 = k * 5 + j by omega]
      exact akAll_at h hj
theorem ARow.at_ {w : World} {S : Nat → Prop} {v : Value} {us : List Int} (h : ARow w S v us) {k : Nat} (hk : k < us.length) {u : Int} (hu : us[k]? = some u) :
    ∃ gl cap, v = .slice (some ⟨gl, 0, none⟩) us.length cap ∧ us.length ≤ cap ∧ S gl ∧ w.cell? ⟨gl, k * 5, none⟩ = some (.int .i64 3) ∧ w.cell? ⟨gl, k * 5 + 1, none⟩ = some (.int .i64 2) ∧ w.cell? ⟨gl, k * 5 + 2, none⟩ = some (.int .i64 4) ∧
      w.cell? ⟨gl, k * 5 + 3, none⟩ = some (.int .i64 9) ∧ w.cell? ⟨gl, k * 5 + 4, none⟩ = some (.int .i64 u) := by
  obtain ⟨h1, h3⟩ := h
  rcases h1.2 with ⟨_, e⟩ | ⟨g, cap, cur, e, _, hh, hc, _⟩
  · omega
  · have hcell : ∀ j u', (akC tg u).toList[j]? = some u' → j < 5 → w.cell? ⟨g, k * 5 + j, none⟩ = some u' := fun j u' hu' hj => by
      have hcs := h1.cells (g := g) (by rw [e]; rfl) (k * 5 + j) u' (by rw [akAll_at hu hj]; exact hu')
      rwa [addr0] at hcs
    refine ⟨g, cap, e, by omega, h3 g (by rw [e]; rfl), ?_, ?_, ?_, ?_, ?_⟩
    · exact hcell 0 _ rfl (by omega)
    · exact hcell 1 _ rfl (by omega)
    · exact hcell 2 _ rfl (by omega)
    · exact hcell 3 _ rfl (by omega)
    · exact hcell 4 _ rfl (by omega)

theorem framesTo_shown (W : Nat) (y : Str) : framesTo tg y (Min.min W y.out.length) = frs (shown W y) := by
  simp [framesTo, frs, shown, List.map_map, Function.comp_def]
section
variable {w : World} {o : Nat → Nat} {wb W Sp n : Nat} {g : Gw} {x : Wr}
theorem Half.out300 {p q : Nat} {a b : Str} {P O : List (List Int)} {F : List (Int × List Int)} {A : List Int} (h : Half W Sp n p q a b P O F A) : ∀ y ∈ a.out, y.length ≤ 300 := fun y hy => by
  rw [h.out] at hy
  have := h.len y (List.mem_of_mem_drop hy)
  omega
theorem WireAt.frames (h : WireAt w o wb W Sp g x) (hI : Inv W Sp n x) (hn : n ≤ 5000) {s : Nat} (hs : s < 2) {p : Int} (hp : 2 + 3 * (1 - (s : Int)) = p) :
    Calls Try.prog 34 #[.pointer (some ⟨g.m s, 0, none⟩), .int .i64 p] w fun e w' => ∃ v, e = .returned v ∧ FRow w' (fun q => o q = 0) v (frs (shown W (x.st s))) ∧ St (fun _ => False) w w' := by
  subst hp
  obtain ⟨a, b, c⟩ := h.nums
  obtain ⟨p', q', hh⟩ := hI s (1 - s) (by omega)
  refine (frames_any _ (g.m s) (g.sb s) (g.X s) _ (x.st s) w (h.mux s hs) (h.isX s hs).2.2.2 (h.str s hs) (hI.fits hn (by omega) c hs) hh.out300).mono fun e w' ⟨v, he, hf, hst⟩ => ⟨v, he, ?_, hst⟩
  rw [(h.isX s hs).1, (h.isX s hs).2.2.1, framesTo_shown] at hf
  exact hf.mono fun q hq => h.lim q hq
end
/-- The first k frames are shown. -/
def showK (W : Nat) (x : Wr) (s k : Nat) : Wr := { x with F := upd x.F s (x.F s ++ (shown W (x.st s)).take k) }
theorem showK_0 (W : Nat) (x : Wr) (s : Nat) : showK W x s 0 = x := by
  have e : upd x.F s (x.F s ++ (shown W (x.st s)).take 0) = x.F := by
    funext k
    by_cases h : k = s
    · subst h; rw [upd_same]; simp
    · rw [upd_ne _ _ _ _ h]
  unfold showK
  rw [e]
theorem showK_all (W : Nat) (x : Wr) (s k : Nat) (hk : (shown W (x.st s)).length ≤ k) : showK W x s k = showS W x s := by
  unfold showK showS
  rw [List.take_of_length_le hk]
theorem showK_F (W : Nat) (x : Wr) (s k : Nat) : (showK W x s k).F s = x.F s ++ (shown W (x.st s)).take k := upd_same _ _ _
theorem Inv.showK {W Sp n : Nat} {x : Wr} (h : Inv W Sp n x) (s : Nat) (hs : s < 2) (hW : W ≤ 5) (k : Nat) : Inv W Sp (n + 1) (showK W x s k) := by
  intro s' t' hst
  obtain ⟨p, q, hh⟩ := h s' t' hst
  by_cases e : s' = s
  · subst e
    refine ⟨p, q, ?_⟩
    show Half W Sp (n + 1) p q _ _ _ _ (upd x.F s' _ s') _
    rw [upd_same]
    have hm := hh.more
    refine ⟨hm.af, hm.bn, hm.out, hm.pP, hm.room, hm.oq, hm.qP, hm.pq, hm.qW, hm.el, hm.ear, hm.e0, fun f hf => ?_, hm.ak, hm.len, hm.cP, ?_, hm.cA⟩
    · rcases List.mem_append.1 hf with hf | hf
      · exact hh.fr f hf
      · exact hh.shown_ok f (List.mem_of_mem_take hf)
    · have h1 := hh.cF
      have h2 : ((shown W (x.st s')).take k).length ≤ 5 := by
        rw [List.length_take, shown_len]; omega
      rw [List.length_append]; omega
  · refine ⟨p, q, ?_⟩
    show Half W Sp (n + 1) p q _ _ _ _ (upd x.F s _ s') _
    rw [upd_ne _ _ _ _ e]
    exact hh.more
theorem rows_F {x y : Wr} {s : Nat} (h1 : y.P = x.P) (h2 : y.O = x.O) (h3 : y.A = x.A) (h4 : ∀ k, k ≠ s → y.F k = x.F k) :
    ∀ k' s', k' < 4 → s' < 2 → ¬ (k' = 2 ∧ s' = s) → ∀ w S v, RowIs w S x k' s' v → RowIs w S y k' s' v := by
  intro k' s' hk hs hne w S v hr
  match k', hk, hr with
  | 0, _, hr => show BRow w S v (y.P s'); rw [h1]; exact hr
  | 1, _, hr => show BRow w S v (y.O s'); rw [h2]; exact hr
  | 2, _, hr => show FRow w S v (frs (y.F s')); rw [h4 s' (by omega)]; exact hr
  | 3, _, hr => show ARow w S v (y.A s'); rw [h3]; exact hr
theorem shown_get {W : Nat} {y : Str} {k : Nat} (hk : k < (shown W y).length) : (shown W y)[k]? = some (y.first + (k : Int), y.out.getD k []) := by
  unfold shown at hk ⊢
  rw [List.getElem?_map, List.getElem?_range (by simpa using hk)]
  rfl
end Go.Proofs.Ytkkckinnhkpcmaa
