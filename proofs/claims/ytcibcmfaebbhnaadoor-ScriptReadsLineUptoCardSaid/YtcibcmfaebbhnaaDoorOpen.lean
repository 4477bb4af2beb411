/-
  Arguments opened, whatever their depth: a slice's elements, a struct's fields, with their places and weights.
-/
import Derived.Test.YtcibcmfaebbhnaaDoorFrame
namespace Go.Proofs.YtcibcmfaebbhnaaDoor
open Go.ChangeShapes Go.WideShapes Go.ChangeAt Go.RowKit Go.Deep Q

section
variable {H : Type} {enc : TypeId × Value → H} {P : Program} {W : World}
/-- A datum read of cells: it lies below the call's own blocks, and is within the form's reach. -/
def Got (enc : TypeId × Value → H) (P : Program) (W : World) (t : TypeId) (cs : List Value) (d : DataW H) : Prop :=
  ∃ (fuel : Nat) (p : List MemPlace), DataW.trod enc P W 0 (fun _ => true) true fuel t cs = some (d, p) ∧ (∀ x ∈ p, x.block < W.heap.size) ∧ (∀ x ∈ DataW.weights P t d, x ≤ reachBytes)
theorem weightsAll_mem {e : TypeId} {x : Nat} : ∀ {l : List (DataW H)} {d : DataW H}, d ∈ l → x ∈ DataW.weights P e d → x ∈ DataW.weightsAll P e l
  | [], d, h, _ => by cases h
  | a :: l, d, h, hx => by
    simp only [DataW.weightsAll, List.mem_append]
    rcases List.mem_cons.1 h with rfl | h
    · exact .inl hx
    · exact .inr (weightsAll_mem h hx)

/-- A slice's elements. -/
theorem Got.slice {t e : TypeId} {v : Value} {d : DataW H} (ht : P.underlying t = some (.slice e)) (hC : 0 < P.cellsOf e) (h : Got enc P W t [v] d) :
    v = .slice none 0 0 ∨
    ∃ (a : Addr) (len cap : Nat) (D : Nat → DataW H) (cs : Nat → List Value), v = .slice (some a) len cap ∧ len ≤ cap ∧ cap ≤ maxLen ∧ cap * P.bytesOf e ≤ 140737488351232 ∧ (0 < len → a.block < W.heap.size) ∧
      ∀ i, i < len → (cs i).length = P.cellsOf e ∧ (∀ j, j < P.cellsOf e → W.cell? (a.add (i * P.cellsOf e + j)) = (cs i)[j]?) ∧ Got enc P W e (cs i) (D i) := by
  obtain ⟨fuel, p, h, hlt, hwt⟩ := h
  rcases open_slice ht h with ⟨hcs, _⟩ | ⟨a, len, cap, m, n, D, Pl, hcs, _, hl, hm, hmm, hx, hi⟩
  · left; simpa using hcs
  · right
    simp only [if_true] at hmm
    subst hmm
    simp only [Prod.mk.injEq] at hx
    obtain ⟨rfl, rfl⟩ := hx
    have hcap : m * P.bytesOf e ≤ 140737488351232 := by
      have := hwt (m * P.bytesOf e) (by
        simp only [DataW.weights, ht, List.length_map, List.length_range, List.mem_cons]
        left; congr 1; omega)
      simpa [reachBytes] using this
    have hex : ∀ i, ∃ cs', i < len → cs'.length = P.cellsOf e ∧ (∀ j, j < P.cellsOf e → W.cell? (a.add (i * P.cellsOf e + j)) = cs'[j]?) ∧ Got enc P W e cs' (D i) := by
      intro i
      by_cases hil : i < len
      · obtain ⟨cs', hc, ht'⟩ := hi i (by omega)
        obtain ⟨_, hcl, hat⟩ := World.cells?_some hc
        refine ⟨cs', fun _ => ⟨hcl, fun j hj => by rw [← Go.Deep.add_add]; exact hat j hj, n, Pl i, ht', fun x hx => hlt x ?_, fun x hx => hwt x ?_⟩⟩
        · exact List.mem_append_right _ (List.mem_flatMap.2 ⟨i, List.mem_range.2 (by omega), hx⟩)
        · simp only [DataW.weights, ht, List.mem_cons, List.mem_append]
          right; left
          exact weightsAll_mem (List.mem_map.2 ⟨i, List.mem_range.2 hil, rfl⟩) hx
      · exact ⟨[], fun h => absurd h hil⟩
    obtain ⟨cs, hcs'⟩ := Classical.axiomOfChoice hex
    refine ⟨a, len, m, D, cs, by simpa using hcs, hl, hm, hcap, fun hn => ?_, hcs'⟩
    have hb := hlt (.cell a.block (a.off + 0)) (List.mem_append_left _ (MemPlace.mem_row.2 ⟨0, Nat.mul_pos (by omega) hC, rfl⟩))
    exact hb

/-- A struct's fields. -/
theorem Got.field {t : TypeId} {fs : Array Field} {cs : List Value} {d : DataW H} (ht : P.underlying t = some (.struct fs)) (h : Got enc P W t cs d) (i : Nat) (f : Field) (hf : fs[i]? = some f) :
    ∃ d', Got enc P W f.type ((cs.drop f.offset).take (P.cellsOf f.type)) d' := by
  obtain ⟨fuel, p, h, hlt, hwt⟩ := h
  obtain ⟨xs, n, _, hx, _, hxl, hg⟩ := DataW.trod_struct ht h
  simp only [Prod.mk.injEq] at hx
  obtain ⟨rfl, rfl⟩ := hx
  have hil : i < fs.size := (Array.getElem?_eq_some_iff.1 hf).1
  have hy : xs[i]? = some (xs[i]'(by omega)) := List.getElem?_eq_getElem (by omega)
  refine ⟨(xs[i]'(by omega)).1, n, (xs[i]'(by omega)).2, (hg i f hf).trans hy, fun x hx => hlt x ?_, fun x hx => ?_⟩
  · exact List.mem_flatMap.2 ⟨_, List.getElem_mem _, hx⟩
  · exact agg_weights ht hwt hf hy x hx
theorem Got.fld {t : TypeId} {fs : Array Field} {cs : List Value} {d : DataW H} (ht : P.underlying t = some (.struct fs)) (h : Got enc P W t cs d) (i : Nat) (ty : TypeId) (off k : Nat) (hf : ∃ f, fs[i]? = some f ∧ f.type = ty ∧ f.offset = off) (hk : P.cellsOf ty = k) :
    ∃ d', Got enc P W ty ((cs.drop off).take k) d' := by
  obtain ⟨f, hf, rfl, rfl⟩ := hf
  subst hk
  exact h.field ht i f hf
theorem flat_congr {α β : Type} {f g : α → List β} {l : List α} (h : ∀ a ∈ l, f a = g a) : l.flatMap f = l.flatMap g := by
  rw [List.flatMap_def, List.flatMap_def, List.map_congr_left h]
theorem Got.int {t : TypeId} {v : Value} {d : DataW H} (ht : P.underlying t = some (.int .i64)) (h : Got enc P W t [v] d) : ∃ x : Int, v = .int .i64 x ∧ -9223372036854775808 ≤ x ∧ x ≤ 9223372036854775807 := by
  obtain ⟨fuel, p, h, _, _⟩ := h
  exact open_cell_int ht h
theorem Got.ints {t e : TypeId} {v : Value} {d : DataW H} (ht : P.underlying t = some (.slice e)) (he : P.underlying e = some (.int .i64)) (hc : P.cellsOf e = 1) (hby : P.bytesOf e = 8) (h : Got enc P W t [v] d) :
    ∃ (A : Option Addr) (n c : Nat) (vs : List Int), v = .slice A n c ∧ RI W W.heap.size A n vs ∧ n ≤ c ∧ c * 8 ≤ 140737488351232 ∧ (∀ k, -9223372036854775808 ≤ nth vs k ∧ nth vs k ≤ 9223372036854775807) := by
  obtain ⟨fuel, p, h, hlt, hwt⟩ := h
  exact open_RI ht he hc hby h hlt hwt
/-- An argument of the call. -/
theorem got_arg {t : TypeId} {v : Value} {d : DataW H} {p q : List MemPlace} (h : DataW.Trod enc P W 0 (fun _ => true) true t v d p) (hlt : ∀ x ∈ q, x.block < W.heap.size) (hsub : ∀ x ∈ p, x ∈ q)
    (hwt : ∀ x ∈ DataW.weights P t d, x ≤ reachBytes) : Got enc P W t v.cells.toList d := by
  obtain ⟨fuel, hf⟩ := h
  exact ⟨fuel, p, hf, fun x hx => hlt x (hsub x hx), hwt⟩
theorem flat_len {C : Nat} {cs : Nat → List Value} : ∀ {n : Nat}, (∀ i, i < n → (cs i).length = C) → ((List.range n).flatMap cs).length = n * C
  | 0, _ => by simp
  | n + 1, h => by
    rw [List.range_succ, List.flatMap_append, List.length_append, flat_len (n := n) fun i hi => h i (by omega)]
    simp only [List.flatMap_cons, List.flatMap_nil, List.append_nil]
    rw [h n (by omega), Nat.add_mul, Nat.one_mul]
theorem flat_at {C : Nat} {cs : Nat → List Value} : ∀ {n : Nat}, (∀ i, i < n → (cs i).length = C) → ∀ {k : Nat} {u : Value}, ((List.range n).flatMap cs)[k]? = some u → ∃ i j, i < n ∧ j < C ∧ k = i * C + j ∧ (cs i)[j]? = some u
  | 0, _, k, u, h => by simp at h
  | n + 1, hl, k, u, h => by
    have hl' : ∀ i, i < n → (cs i).length = C := fun i hi => hl i (by omega)
    rw [List.range_succ, List.flatMap_append] at h
    by_cases hk : k < n * C
    · rw [List.getElem?_append_left (by rw [flat_len hl']; exact hk)] at h
      obtain ⟨i, j, hi, hj, e, hc⟩ := flat_at hl' h
      exact ⟨i, j, by omega, hj, e, hc⟩
    · rw [List.getElem?_append_right (by rw [flat_len hl']; omega), flat_len hl'] at h
      simp only [List.flatMap_cons, List.flatMap_nil, List.append_nil] at h
      have hj : k - n * C < (cs n).length := (List.getElem?_eq_some_iff.1 h).1
      rw [hl n (by omega)] at hj
      exact ⟨n, k - n * C, by omega, hj, by omega, h⟩
/-- A slice read element by element reads as one list. -/
theorem reads_elems {B C len : Nat} {a : Addr} {cs : Nat → List Value} (hb : 0 < len → a.block < B) (hl : ∀ i, i < len → (cs i).length = C) (hc : ∀ i, i < len → ∀ j, j < C → W.cell? (a.add (i * C + j)) = (cs i)[j]?) :
    Reads W B C (some a) len ((List.range len).flatMap cs) := by
  refine ⟨flat_len hl, fun hn => ⟨a, rfl, hb hn, fun k u hu => ?_⟩⟩
  obtain ⟨i, j, hi, hj, rfl, he⟩ := flat_at hl hu
  rw [hc i hi j hj]
  exact he
end
end Go.Proofs.YtcibcmfaebbhnaaDoor
