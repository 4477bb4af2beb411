/-
  Lists of lists in memory; an append leaves what the old slice shows.
-/
import Derived.Test.YteckffndboiknaaMinW
set_option linter.unusedVariables false
set_option linter.unusedSimpArgs false
namespace Go.Proofs.Yteckffndboiknaa
open Go.RowKit Go.WideShapes Go.ChangeShapes Q

/-- Behind an append the old slice shows what it showed. -/
theorem run_append_keep {P : Program} (w : World) (t ty : TypeId) (base : Nat) (e : TypeId) (i : TypeInfo) (z : Value) (size bytes : Nat) (ht : P.underlying t = some (.slice e)) (hi : P.info? e = some i) (hz : i.zero = some z)
    (hsize : i.size = size) (hby : i.bytes = bytes) (hzs : z.cells.size = size) (hsz : 0 < size)
    (v : Value) (n : Nat) (xs : List Value) (hown : w.ownsRow base e size v n xs)
    (ad : Addr) (m c : Nat) (news : List Value) (hl : news.length = m * size) (hnews : ∀ j u, news[j]? = some u → w.cell? (ad.add j) = some u) (h1 : ∀ u ∈ news, u.oneCell' = true)
    (hm : 0 < m) (h63 : n + m ≤ maxLen) (hbytes : (n + m) * bytes ≤ 140737488355328) {v' : Value} {w' : World}
    (hr : (Builtin.append_ #[t, t] ty #[v, .slice (some ad) m c]).run P w = .ok v' w') : w'.ownsRow base e size v n xs := by
  subst hsize
  subst hby
  rcases hown.2 with ⟨rfl, rfl⟩ | ⟨g, cap, cur, rfl, hbg, hg, hnc, hcm, hcs, htake⟩
  · have hx : xs = [] := List.eq_nil_of_length_eq_zero (by simpa using hown.1)
    subst hx
    exact World.ownsRow_nil _ _ _ _
  · by_cases hroom : n + m ≤ cap
    · have hfit : n * i.size + news.length ≤ cur.size := by rw [hl, hcs, ← Nat.add_mul]; exact Nat.mul_le_mul_right _ hroom
      have hr2 := run_append_room (P := P) w t ty e i ht hi g n cap cur hg ad m c news hl hnews h1 hroom hfit
      rw [hr2] at hr
      injection hr with h2 h3
      subst h3
      refine ⟨hown.1, .inr ⟨g, cap, _, rfl, hbg, setRow_heap w g cur _ e _ hg, hnc, hcm, ?_, ?_⟩⟩
      · simp only [List.size_toArray, List.length_append, List.length_take, List.length_drop, Array.length_toList]
        omega
      · have hlen : (cur.toList.take (n * i.size)).length = n * i.size := by simp; omega
        show ((cur.toList.take (n * i.size) ++ news ++ cur.toList.drop (n * i.size + news.length))).take (n * i.size) = xs
        rw [List.append_assoc, List.take_append_of_le_length (by omega), List.take_of_length_le (by omega), htake]
    · have holds : ∀ j u, xs[j]? = some u → w.cell? ((⟨g, 0, none⟩ : Addr).add j) = some u := hown.cells (g := g) rfl
      have hr2 := run_append_grow (P := P) w t ty e i z ht hi hz ⟨g, 0, none⟩ n cap xs hown.1 holds ad m c news hl hnews (by omega) (by simp only [maxLen] at h63; omega) (growslice_fits (by omega) hbytes)
      rw [hr2] at hr
      injection hr with h2 h3
      subst h3
      exact World.ownsRow.alloc (w := w.drew) hown _

/-- As wpList_push, and the old slice shows what it showed. -/
theorem wpList_pushk {P : Program} {W : World} {ops : Array Oper} {rest : List Oper} {o : Oper} {a : Act} {Q : Exit → Act → World → Prop} (hgd : o.guard = none) (s x : Operand) (t : TypeId)
    (ho : o.op = .call { callee := .builtin .append, args := #[s, x], argTypes := #[t, t] })
    (base : Nat) (e : TypeId) (i : TypeInfo) (z : Value) (size bytes : Nat) (ht : P.underlying t = some (.slice e)) (hi : P.info? e = some i) (hz : i.zero = some z)
    (hsize : i.size = size) (hby : i.bytes = bytes) (hzs : z.cells.size = size) (hsz : 0 < size)
    (v : Value) (n : Nat) (xs : List Value) (hs : a.eval s = v) (hown : W.ownsRow base e size v n xs)
    (g0 : Nat) (m c : Nat) (cs : Array Value) (hx : a.eval x = .slice (some ⟨g0, 0, none⟩) m c) (hb : Blk W g0 e cs) (hcs : cs.size = m * size) (h1 : ∀ u ∈ cs.toList, u.oneCell' = true)
    (hm : 0 < m) (h63 : n + m ≤ maxLen) (hbytes : (n + m) * bytes ≤ 140737488355328) (hbase : base ≤ W.heap.size)
    (h : ∀ g cap w', w'.ownsRow base e size (.slice (some ⟨g, 0, none⟩) (n + m) cap) (n + m) (xs ++ cs.toList) → w'.ownsRow base e size v n xs → W.grownBy w' v.ownBlock → (v.ownBlock = some g ∨ g = W.heap.size) → g < w'.heap.size → base ≤ g →
      wpList P ops Q rest (a.put o.dst (.slice (some ⟨g, 0, none⟩) (n + m) cap)) w') : wpList P ops Q (o :: rest) a W := by
  refine wpList_plain hgd fun K hK => ?_
  have hnews := World.news_of_block hb
  obtain ⟨g, cap, w', hr, h2, h3, h4, h5⟩ := run_append_lies (P := P) W t o.type base e i z size bytes ht hi hz hsize hby hzs hsz v n xs hown ⟨g0, 0, none⟩ m c cs.toList (by simpa using hcs) hnews h1 hm h63 hbytes hbase W.heap.size rfl
  have hk := run_append_keep W t o.type base e i z size bytes ht hi hz hsize hby hzs hsz v n xs hown ⟨g0, 0, none⟩ m c cs.toList (by simpa using hcs) hnews h1 hm h63 hbytes hr
  have hge : base ≤ g := by
    rcases h4 with h4 | h4
    · exact (hown.lt g h4).1
    · omega
  unfold Oper.wp execOp
  simp only [ho, resolve, invoke, builtin, Sem.run_bind, Sem.run_pure, Result.andThen_ok, List.map_toArray, List.map_cons, List.map_nil, hs, hx, hr]
  exact hK _ _ (h g cap w' h2 hk h3 h4 h5 hge)

/-- A list of numbers in a block of its own. -/
structure En where
  g : Nat
  cap : Nat
  l : List Int
instance : Inhabited En := ⟨⟨0, 0, []⟩⟩
def En.v (e : En) : Value := .slice (some ⟨e.g, 0, none⟩) e.l.length e.cap
theorem En.one (e : En) : e.v.oneCell' = true := rfl
def EnAt (w : World) (base : Nat) (e : En) : Prop := w.ownsRow base 3 1 e.v e.l.length (ints e.l)
/-- A list of such lists, no two in one block. -/
structure LL (w : World) (base : Nat) (v : Value) (es : List En) : Prop where
  row : w.ownsRow base 32 1 v es.length (es.map En.v)
  ent : ∀ e ∈ es, EnAt w base e
  nd : (es.map En.g).Nodup
  sh : ∀ e ∈ es, e.l.length ≤ 16
theorem own_below {w w' : World} {B base n : Nat} {e : TypeId} {size : Nat} {v : Value} {xs : List Value} (h : w.ownsRow base e size v n xs) (hl : ∀ k, v.ownBlock = some k → k < B) (hb : Below B w w') : w'.ownsRow base e size v n xs := by
  refine ⟨h.1, ?_⟩
  rcases h.2 with h0 | ⟨g, cap, cur, e1, e2, hg, rest⟩
  · exact .inl h0
  · exact .inr ⟨g, cap, cur, e1, e2, (hb.block g (hl g (by rw [e1]; rfl))).trans hg, rest⟩
theorem own_lt {w : World} {base n : Nat} {e : TypeId} {size : Nat} {v : Value} {xs : List Value} (h : w.ownsRow base e size v n xs) : ∀ k, v.ownBlock = some k → k < w.heap.size := fun k hk => (h.lt k hk).2
theorem own_base' {w : World} {base base' n : Nat} {e : TypeId} {size : Nat} {v : Value} {xs : List Value} (h : w.ownsRow base e size v n xs) (hb : base' ≤ base) : w.ownsRow base' e size v n xs := by
  refine ⟨h.1, ?_⟩
  rcases h.2 with h0 | ⟨g, cap, cur, e1, e2, rest⟩
  · exact .inl h0
  · exact .inr ⟨g, cap, cur, e1, Nat.le_trans hb e2, rest⟩
theorem EnAt.below {w w' : World} {base : Nat} {e : En} (h : EnAt w base e) (hb : Below w.heap.size w w') : EnAt w' base e := own_below h (own_lt h) hb
theorem EnAt.lt {w : World} {base : Nat} {e : En} (h : EnAt w base e) : base ≤ e.g ∧ e.g < w.heap.size := World.ownsRow.lt h e.g rfl
theorem EnAt.ri {w : World} {base : Nat} {e : En} (h : EnAt w base e) : RI w w.heap.size (some ⟨e.g, 0, none⟩) e.l.length e.l := Reads.of_own h
theorem EnAt.blk {w : World} {base : Nat} {e : En} (h : EnAt w base e) : ∃ cs, Blk w e.g 3 cs := by
  rcases h.2 with ⟨h0, _⟩ | ⟨g, cap, cur, e1, e2, hg, rest⟩
  · cases h0
  · unfold En.v at e1
    injection e1 with e1
    injection e1 with e1
    injection e1 with e1
    subst e1
    exact ⟨cur, hg⟩
theorem LL.below {w w' : World} {base : Nat} {v : Value} {es : List En} (h : LL w base v es) (hb : Below w.heap.size w w') : LL w' base v es :=
  ⟨own_below h.row (own_lt h.row) hb, fun e he => (h.ent e he).below hb, h.nd, h.sh⟩
theorem LL.base {w : World} {base base' : Nat} {v : Value} {es : List En} (h : LL w base v es) (hb : base' ≤ base) : LL w base' v es :=
  ⟨own_base' h.row hb, fun e he => own_base' (h.ent e he) hb, h.nd, h.sh⟩
theorem LL.nil (w : World) (base : Nat) : LL w base (.slice none 0 0) [] := ⟨World.ownsRow_nil _ _ _ _, fun e he => (by cases he), List.nodup_nil, fun e he => (by cases he)⟩
theorem info32 : (Try.prog.info? 32).map (fun i => (i.zero, i.size, i.bytes)) = some (some (.slice none 0 0), 1, 24) := by kernel_rfl
end Go.Proofs.Yteckffndboiknaa
