/-
  A copied script whose events are written into, below a bound; a store of a whole struct into a row.
-/
import Derived.Test.YtkcjfiifajjpiaaRPrem
import Derived.Laws.CopyRow
set_option linter.unusedVariables false
set_option linter.unusedSimpArgs false
namespace Go.Proofs.Ytkcjfiifajjpiaa
open Go.RowKit Go.WideShapes Go.ChangeShapes Q

/-- A store of a struct's cells at a place of a row. -/
theorem wpList_store_at {P : Program} {ops : Array Oper} {rest : List Oper} {o : Oper} {a : Act} {w : World} {Q : Exit → Act → World → Prop} (hgd : o.guard = none) (ty : TypeId) (x y : Operand) (ho : o.op = .store ty x y)
    (g off : Nat) (cells : Array Value) (hx : a.eval x = .pointer (some ⟨g, off, none⟩)) (hy : a.eval y = .agg cells)
    (t : TypeId) (old : Array Value) (hg : w.heap[g]? = some (.cells old t (0, 0))) (hi : (P.info? ty).map (·.size) = some cells.size)
    (hold : off + cells.size ≤ old.size) (h1 : cells.all (·.oneCell') = true)
    (new : Array Value) (hn : new = (old.toList.take off ++ cells.toList ++ old.toList.drop (off + cells.size)).toArray)
    (h : wpList P ops Q rest (a.put o.dst undef) (w.setRow g new)) : wpList P ops Q (o :: rest) a w := by
  subst hn
  refine wpList_plain hgd fun K hK => ?_
  have hst := run_storeCells_at P g off t cells.toList 0 old w hg (by simpa using hold) (fun v hv => (Array.all_eq_true_iff_forall_mem.1 h1) v (by simpa using hv))
  have hv : (storeVar ty ⟨g, off, none⟩ (.agg cells)).run P w = .ok () (w.setRow g (old.toList.take off ++ cells.toList ++ old.toList.drop (off + cells.size)).toArray) := by
    cases hq : P.info? ty with
    | none => simp [hq] at hi
    | some i =>
      have hs : cells.size = i.size := by simp [hq] at hi; omega
      simp only [Nat.add_zero, Array.length_toList] at hst
      simp [storeVar, sizeOf, typeInfo, hq, Value.cells, hs]
      rw [hs] at hst
      simpa using hst
  unfold Oper.wp execOp
  simp only [ho, hx, hy, Instr.storeAt, Instr.sureAddr, Sem.run_bind, Sem.run_pure, Result.andThen_ok, hv]
  exact hK _ _ h

def Lo (B : Nat) (A : Option Addr) (n : Nat) : Prop := 0 < n → ∀ ad, A = some ad → ad.block < B
theorem RN.lo {t : TypeId} {w : World} {A : Option Addr} {n : Nat} {xs : List Value} (h : RN t w A n xs) : Lo w.heap.size A n := by
  intro hn ad e
  obtain ⟨g, off, cs, e2, hb, _⟩ := h.2 hn
  rw [e] at e2
  injection e2 with e2
  subst e2
  exact hb.lt
theorem RN.below {t : TypeId} {w w' : World} {B : Nat} {A : Option Addr} {n : Nat} {xs : List Value} (h : RN t w A n xs) (hl : Lo B A n) (hb : Below B w w') : RN t w' A n xs := by
  refine ⟨h.1, fun hn => ?_⟩
  obtain ⟨g, off, cs, e, hc, hv⟩ := h.2 hn
  exact ⟨g, off, cs, e, hc.below hb (hl hn _ e), hv⟩
/-- The copy of a script; all of it lies below a bound. -/
structure ME (wr : World) (base bS g : Nat) (a0 a1 a2 a3 a4 a5 a6 : Int) (n : Nat) (vs : List Int) (V' : Option Addr) (k' : Nat) (E' : Option Addr) (q f' : Nat) (l' : List El) : Prop where
  c : Blk wr g 33 #[.int .i64 a0, .int .i64 a1, .int .i64 a2, .int .i64 a3, .int .i64 a4, .int .i64 a5, .int .i64 a6, .slice V' n k', .slice E' q f']
  gl : g < bS
  row : wr.ownsRow base 45 13 (.slice E' q f') q (ecells l')
  rl : ∀ k, (Value.slice E' q f').ownBlock = some k → k < bS
  len : l'.length = q
  own : ∀ x ∈ l', x.Own wr
  ol : ∀ x ∈ l', Lo bS x.A x.zs.length ∧ Lo bS x.bA x.bz.length
  rn : RN 3 wr V' n (ints vs)
  rnl : Lo bS V' n
section
variable {w wr w' : World} {base bS g : Nat} {C1 : Array Value} {a0 a1 a2 a3 a4 a5 a6 : Int} {n : Nat} {vs : List Int} {V' : Option Addr} {k' : Nat} {E' : Option Addr} {q f' : Nat} {l' : List El}
theorem ME.of (h : MI w wr base g C1 a0 a1 a2 a3 a4 a5 a6 n vs V' k' E' q f' l') (hb : bS = wr.heap.size) : ME wr base bS g a0 a1 a2 a3 a4 a5 a6 n vs V' k' E' q f' l' := by
  subst hb
  exact ⟨h.c, h.c.lt, h.row, fun k e => (h.row.lt k e).2, h.len, h.own, fun x hx => ⟨(h.own x hx).1.lo, (h.own x hx).2.2.1.lo⟩, h.rn, h.rn.lo⟩
theorem ME.evs (h : ME wr base bS g a0 a1 a2 a3 a4 a5 a6 n vs V' k' E' q f' l') : EvsIn wr wr.heap.size E' l' :=
  EvsOwn.in_ (base := base) (c := f') ⟨by rw [h.len]; exact h.row, h.own⟩
theorem ME.quiet (h : ME wr base bS g a0 a1 a2 a3 a4 a5 a6 n vs V' k' E' q f' l') (hs : St (fun _ => False) wr w') : ME w' base bS g a0 a1 a2 a3 a4 a5 a6 n vs V' k' E' q f' l' :=
  ⟨h.c.st hs (fun e => e), h.gl, own_st0 h.row hs, h.rl, h.len, fun x hx => (h.own x hx).st hs, h.ol, h.rn.st (.inl rfl) hs, h.rnl⟩
theorem own_below {e : TypeId} {size : Nat} {v : Value} {xs : List Value} {m : Nat} (h : wr.ownsRow base e size v m xs) (hl : ∀ k, v.ownBlock = some k → k < bS) (hb : Below bS wr w') : w'.ownsRow base e size v m xs := by
  refine ⟨h.1, ?_⟩
  rcases h.2 with h0 | ⟨g, cap, cur, e1, e2, hg, rest⟩
  · exact .inl h0
  · refine .inr ⟨g, cap, cur, e1, e2, ?_, rest⟩
    exact (hb.block g (hl g (by rw [e1]; rfl))).trans hg
theorem ME.below (h : ME wr base bS g a0 a1 a2 a3 a4 a5 a6 n vs V' k' E' q f' l') (hb : Below bS wr w') : ME w' base bS g a0 a1 a2 a3 a4 a5 a6 n vs V' k' E' q f' l' :=
  ⟨h.c.below hb h.gl, h.gl, own_below h.row h.rl hb, h.rl, h.len, fun x hx => ⟨(h.own x hx).1.below (h.ol x hx).1 hb, (h.own x hx).2.1, (h.own x hx).2.2.1.below (h.ol x hx).2 hb, (h.own x hx).2.2.2⟩, h.ol, h.rn.below h.rnl hb, h.rnl⟩
theorem ecells_put (l : List El) (j : Nat) (x : El) (hj : j < l.length) : (ecells l).take (j * 13) ++ x.cells ++ (ecells l).drop (j * 13 + 13) = ecells (l.set j x) := by
  induction l generalizing j with
  | nil => simp at hj
  | cons a r ih =>
    cases j with
    | zero =>
      have ha : a.cells.length = 13 := rfl
      show x.cells ++ (a.cells ++ ecells r).drop (0 + 13) = x.cells ++ ecells r
      rw [Nat.zero_add, ← ha, List.drop_left]
    | succ j =>
      have ha : a.cells.length = 13 := rfl
      show (a.cells ++ ecells r).take ((j + 1) * 13) ++ x.cells ++ (a.cells ++ ecells r).drop ((j + 1) * 13 + 13) = a.cells ++ ecells (r.set j x)
      rw [← ih j (by simp at hj; omega), show (j + 1) * 13 = a.cells.length + j * 13 by omega, List.take_length_add_append, show a.cells.length + j * 13 + 13 = a.cells.length + (j * 13 + 13) by omega, List.drop_length_add_append]
      simp
/-- A store of an event into the row. -/
theorem ME.put (h : ME wr base bS g a0 a1 a2 a3 a4 a5 a6 n vs V' k' E' q f' l') {x : El} (hx : x.Own wr) (hxl : Lo bS x.A x.zs.length ∧ Lo bS x.bA x.bz.length) {j ge : Nat} {cur : Array Value} (hj : j < q) (hE : E' = some ⟨ge, 0, none⟩) (hc : Blk wr ge 45 cur) (hxs : x.cells.toArray.toList = x.cells) :
    ME (wr.setRow ge (cur.toList.take (j * 13) ++ x.cells ++ cur.toList.drop (j * 13 + 13)).toArray) base bS g a0 a1 a2 a3 a4 a5 a6 n vs V' k' E' q f' (l'.set j x) := by
  subst hE
  obtain ⟨g2, cap, cur2, e, hge, hg, hcp, hmx, hsz, htk⟩ := own_some h.row (by omega)
  injection e with e e2 e3
  injection e with e
  injection e with e
  subst e e3
  have : cur2 = cur := by
    have := hg.symm.trans hc
    injection this with this
    injection this
  subst this
  obtain ⟨new, hnew⟩ : ∃ new, new = (cur2.toList.take (j * 13) ++ x.cells ++ cur2.toList.drop (j * 13 + 13)).toArray := ⟨_, rfl⟩
  rw [← hnew]
  have hx13 : x.cells.length = 13 := rfl
  have hcs : cur2.toList.length = f' * 13 := by simpa using hsz
  have s : St (fun k => k = ge) wr (wr.setRow ge new) := (St.refl (fun k => k = ge) wr).setRow hc not35_45 (fun _ => rfl) new
  refine ⟨h.c.row_far (Blk.ne_ h.c hc (by decide)) new, h.gl, ?_, h.rl, by simp [h.len], ?_, ?_, h.rn.st (.inl rfl) s, h.rnl⟩
  · refine ⟨by rw [ecells_len]; simp [h.len], .inr ⟨ge, f', new, rfl, hge, hc.row new, hcp, hmx, ?_, ?_⟩⟩
    · rw [hnew]
      simp [hx13]
      omega
    · rw [← ecells_put l' j x (by rw [h.len]; exact hj), ← htk, hnew]
      simp only [List.take_take, List.drop_take]
      apply List.ext_getElem?
      intro i
      simp only [List.getElem?_take, List.getElem?_append, List.length_append, List.length_take, List.getElem?_drop, hcs, hx13]
      have h1 : min (j * 13) (f' * 13) = j * 13 := by omega
      have h2 : min (min (j * 13) (q * 13)) (f' * 13) = j * 13 := by omega
      have h3 : min (j * 13) (q * 13) = j * 13 := by omega
      rw [h1, h2, h3]
      by_cases hi : i < q * 13
      · rw [if_pos hi]
        split
        · rfl
        · have : j * 13 + 13 + (i - (j * 13 + 13)) = i := by omega
          rw [if_pos (by omega)]
      · rw [if_neg hi, if_neg (by omega), if_neg (by omega)]
  · intro y hy
    rcases List.mem_or_eq_of_mem_set hy with hy | hy
    · exact (h.own y hy).st s
    · subst hy; exact hx.st s
  · intro y hy
    rcases List.mem_or_eq_of_mem_set hy with hy | hy
    · exact h.ol y hy
    · subst hy; exact hxl
end
end Go.Proofs.Ytkcjfiifajjpiaa
