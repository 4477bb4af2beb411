/-
  Footprints: outside a set of blocks, and beside what is new, the world is as it was. Bytes in a block of their own; a struct stored into a block; a text turned into bytes.
-/
import Derived.Test.YtcibcmfaebbhnaaGreatDoorZRdc
import Derived.Laws.CopyRow
import Derived.Laws.CopyOwn
import Derived.Laws.ResultCell
import Derived.Laws.IdiomStrings
import Derived.Test.YtcibcmfaebbhnaaGreatDoorZRun
namespace Go.Proofs.YtcibcmfaebbhnaaGreatDoor
open Go.RowKit Go.WideShapes Go.ChangeShapes Q
/-- Outside F, and beside what is new, w' is as w was. -/
structure Only (F : Nat → Prop) (w w' : World) : Prop where
  os : w'.os = w.os
  tape : w'.tape = w.tape
  output : w'.output = w.output
  size : w.heap.size ≤ w'.heap.size
  block : ∀ k, k < w.heap.size → ¬ F k → w'.heap[k]? = w.heap[k]?
section
variable {F G : Nat → Prop} {w w1 w' : World}
theorem Only.refl (F : Nat → Prop) (w : World) : Only F w w := ⟨rfl, rfl, rfl, Nat.le_refl _, fun _ _ _ => rfl⟩
theorem Only.mono (h : Only F w w') (hG : ∀ k, k < w.heap.size → F k → G k) : Only G w w' :=
  ⟨h.os, h.tape, h.output, h.size, fun k hk hn => h.block k hk fun hf => hn (hG k hk hf)⟩
theorem Only.trans' (h : Only F w w1) (h' : Only G w1 w') (hG : ∀ k, k < w.heap.size → G k → F k) : Only F w w' :=
  ⟨h'.os.trans h.os, h'.tape.trans h.tape, h'.output.trans h.output, Nat.le_trans h.size h'.size,
    fun k hk hn => (h'.block k (Nat.lt_of_lt_of_le hk h.size) fun hg => hn (hG k hk hg)).trans (h.block k hk hn)⟩
theorem Only.trans (h : Only F w w1) (h' : Only F w1 w') : Only F w w' := h.trans' h' fun _ _ h => h
theorem Only.of_below {B : Nat} (h : Below B w w') (hB : w.heap.size ≤ B) : Only F w w' := ⟨h.os, h.tape, h.output, h.size, fun k hk _ => h.block k (by omega)⟩
theorem Only.of_grown {row : Option Nat} (h : w.grownBy w' row) (hr : ∀ g, row = some g → g < w.heap.size → F g) : Only F w w' :=
  ⟨h.os, h.tape, h.output, h.size, fun k hk hn => h.block k hk fun e => hn (hr k e.symm hk)⟩
theorem Only.alloc (h : Only F w w1) (o : Obj) : Only F w (w1.alloc o) :=
  ⟨h.os, h.tape, h.output, Nat.le_trans h.size (by simp), fun k hk hn => (Below.heap_alloc w1 o k (Nat.lt_of_lt_of_le hk h.size)).trans (h.block k hk hn)⟩
theorem Only.setCell (h : Only F w w1) {p : Addr} (hp : p.block < w.heap.size → F p.block) (u : Value) : Only F w (w1.setCell p u) :=
  ⟨h.os, h.tape, h.output, by simpa [World.setCell] using h.size, fun k hk hn => (Below.heap_setCell w1 p u k (by
    rintro rfl
    exact hn (hp hk))).trans (h.block k hk hn)⟩
theorem Only.drew (h : Only F w w1) : Only F w w1.drew := ⟨h.os, h.tape, h.output, h.size, h.block⟩
theorem Only.drewN (h : Only F w w1) (n : Nat) : Only F w (w1.drewN n) := ⟨h.os, h.tape, h.output, h.size, h.block⟩
theorem Only.below {B : Nat} (h : Only F w w') (hB : B ≤ w.heap.size) (hF : ∀ k, k < B → ¬ F k) : Below B w w' :=
  ⟨h.os, h.tape, h.output, h.size, fun k hk => h.block k (by omega) (hF k hk)⟩
theorem Only.cell (h : Only F w w') {p : Addr} {v : Value} (hc : w.cell? p = some v) (hp : ¬ F p.block) : w'.cell? p = some v :=
  (World.cell?_of_block (h.block p.block (World.block_lt_of_cell? w p hc) hp)).trans hc
theorem Blk.only {g : Nat} {t : TypeId} {cs : Array Value} (hb : Blk w g t cs) (h : Only F w w') (hg : ¬ F g) : Blk w' g t cs := (h.block g hb.lt hg).trans hb
theorem own_only {base : Nat} {e : TypeId} {size n : Nat} {v : Value} {xs : List Value} (ho : w.ownsRow base e size v n xs) (h : Only F w w') (hg : ∀ g, v.ownBlock = some g → ¬ F g) : w'.ownsRow base e size v n xs := by
  refine ⟨ho.1, ?_⟩
  rcases ho.2 with hn | ⟨g, cap, cur, rfl, hb, hgg, rest⟩
  · exact .inl hn
  · refine .inr ⟨g, cap, cur, rfl, hb, ?_, rest⟩
    rw [h.block g (Array.getElem?_eq_some_iff.1 hgg).1 (hg g rfl)]
    exact hgg
/-- F holds blocks of other types alone. -/
def Apart (w : World) (F : Nat → Prop) (e : TypeId) : Prop := ∀ k, k < w.heap.size → F k → ∃ t cs, Blk w k t cs ∧ t ≠ e
theorem own_apart {base : Nat} {e : TypeId} {size n : Nat} {v : Value} {xs : List Value} (ho : w.ownsRow base e size v n xs) (h : Only F w w') (hF : Apart w F e) : w'.ownsRow base e size v n xs := by
  refine own_only ho h fun g hg hf => ?_
  rcases ho.2 with ⟨rfl, _⟩ | ⟨g', cap, cur, rfl, hb, hgg, rest⟩
  · simp [Value.ownBlock] at hg
  · obtain rfl : g' = g := by simpa [Value.ownBlock] using hg
    obtain ⟨t, cs, hb', hne⟩ := hF g' (Array.getElem?_eq_some_iff.1 hgg).1 hf
    exact Blk.ne_ hb' (show Blk w g' e cur from hgg) hne rfl
theorem Blk.apart {g : Nat} {t : TypeId} {cs : Array Value} (hb : Blk w g t cs) (h : Only F w w') (hF : Apart w F t) : Blk w' g t cs :=
  hb.only h fun hf => by
    obtain ⟨t', cs', hb', hne⟩ := hF g hb.lt hf
    exact Blk.ne_ hb' hb hne rfl
/-- An owned row's base may be taken lower. -/
theorem own_base {base base' : Nat} {e : TypeId} {size n : Nat} {v : Value} {xs : List Value} (ho : w.ownsRow base e size v n xs) (hb : base' ≤ base) : w.ownsRow base' e size v n xs := by
  refine ⟨ho.1, ?_⟩
  rcases ho.2 with hn | ⟨g, cap, cur, rfl, hg, rest⟩
  · exact .inl hn
  · exact .inr ⟨g, cap, cur, rfl, by omega, rest⟩
theorem own_none {base g : Nat} {e : TypeId} {size : Nat} (h : Blk w g e #[]) (hb : base ≤ g) : w.ownsRow base e size (.slice (some ⟨g, 0, none⟩) 0 0) 0 [] :=
  ⟨by simp, .inr ⟨g, 0, #[], rfl, hb, h, Nat.le_refl _, Nat.zero_le _, by simp, by simp⟩⟩
end
theorem Blk.new' (w : World) (t : TypeId) (cs : Array Value) (n : Nat) (hn : n = w.heap.size) : Blk (w.alloc (.cells cs t)) n t cs := by subst hn; exact Blk.new w t cs
end Go.Proofs.YtcibcmfaebbhnaaGreatDoor
set_option linter.unusedVariables false
set_option linter.unusedSimpArgs false
namespace Go.Proofs.YtcibcmfaebbhnaaGreatDoor
open Go.RowKit Go.WideShapes Go.ChangeShapes Q
section
variable {w w' : World} {g b : Nat} {t : TypeId} {cs cs' : Array Value} 
theorem Blk.row (h : Blk w g t cs) (cells : Array Value) : Blk (w.setRow g cells) g t cells := setRow_heap w g cs cells t (0, 0) h
theorem Blk.row_far {k : Nat} (h : Blk w k t cs) (hne : k ≠ g) (cells : Array Value) : Blk (w.setRow g cells) k t cs := (setRow_other w g k cells hne).trans h
theorem Only.setRow {F : Nat → Prop} {w1 : World} (h : Only F w w1) (hF : g < w.heap.size → F g) (cells : Array Value) : Only F w (w1.setRow g cells) :=
  ⟨h.os, h.tape, h.output, by simpa using h.size, fun k hk hn => (setRow_other w1 g k cells (by
    rintro rfl
    exact hn (hF hk))).trans (h.block k hk hn)⟩
end
/-- Bytes in a block of their own, whatever of it is marked. -/
def RB (w : World) (b : Nat) (A : Option Addr) (n : Nat) (l : List UInt8) : Prop :=
  l.length = n ∧ (n = 0 ∨ ∃ g cs fr, A = some ⟨g, 0, none⟩ ∧ b ≤ g ∧ w.heap[g]? = some (.cells cs 5 fr) ∧ ∀ j, j < n → cs[j]? = (Lib.byteCells l)[j]?)
section
variable {w w' : World} {b n : Nat} {A : Option Addr} {l : List UInt8}
theorem cell_of_any {w : World} {g j : Nat} {cs : Array Value} {t : TypeId} {fr : Nat × Nat} (h : w.heap[g]? = some (.cells cs t fr)) : w.cell? ⟨g, j, none⟩ = cs[j]? := by simp [World.cell?, h]
theorem RB.reads (h : RB w b A n l) : Reads w w.heap.size 1 A n (Lib.byteCells l) := by
  have hl : (Lib.byteCells l).length = l.length := by simp [Lib.byteCells]
  refine ⟨by rw [hl, h.1]; omega, fun hn => ?_⟩
  rcases h.2 with h0 | ⟨g, cs, fr, e, hb, hg, hc⟩
  · omega
  · refine ⟨_, e, (Array.getElem?_eq_some_iff.1 hg).1, fun j u hu => ?_⟩
    have hj : j < n := by have := (List.getElem?_eq_some_iff.1 hu).1; rw [hl, h.1] at this; exact this
    have e2 : (⟨g, 0, none⟩ : Addr).add j = ⟨g, j, none⟩ := by
      unfold Addr.add
      split
      · rename_i h0; subst h0; rfl
      · simp
    rw [e2, cell_of_any hg, hc j hj, hu]
theorem RB.step (h : RB w b A n l) (hb : Below w.heap.size w w') : RB w' b A n l := by
  refine ⟨h.1, ?_⟩
  rcases h.2 with h0 | ⟨g, cs, fr, e, hbg, hg, hc⟩
  · exact .inl h0
  · exact .inr ⟨g, cs, fr, e, hbg, (hb.block g (Array.getElem?_eq_some_iff.1 hg).1).trans hg, hc⟩
theorem RB.only {F : Nat → Prop} (h : RB w b A n l) (ho : Only F w w') (hF : ∀ g cs fr, w.heap[g]? = some (.cells cs 5 fr) → ¬ F g) : RB w' b A n l := by
  refine ⟨h.1, ?_⟩
  rcases h.2 with h0 | ⟨g, cs, fr, e, hbg, hg, hc⟩
  · exact .inl h0
  · exact .inr ⟨g, cs, fr, e, hbg, (ho.block g (Array.getElem?_eq_some_iff.1 hg).1 (hF g cs fr hg)).trans hg, hc⟩
theorem RB.grown {b' n' s' : Nat} {e' : TypeId} {v : Value} {xs : List Value} (h : RB w b A n l) (h' : w.ownsRow b' e' s' v n' xs) (hne : e' ≠ 5) (hg : w.grownBy w' v.ownBlock) : RB w' b A n l := by
  refine h.only (Only.of_grown (F := fun k => v.ownBlock = some k) hg (fun g hg _ => hg)) ?_
  intro g cs fr hh hv
  rcases h'.2 with ⟨rfl, _⟩ | ⟨g', cap, cur, rfl, _, hk, _⟩
  · simp [Value.ownBlock] at hv
  · obtain rfl : g' = g := by simpa [Value.ownBlock] using hv
    rw [hh] at hk
    injection hk with hk
    injection hk with _ ht
    exact hne ht.symm
theorem RB.nil (w : World) (b : Nat) (A : Option Addr) : RB w b A 0 [] := ⟨rfl, .inl rfl⟩
theorem RB.base {b' : Nat} (h : RB w b A n l) (hb : b' ≤ b) : RB w b' A n l := by
  refine ⟨h.1, ?_⟩
  rcases h.2 with h0 | ⟨g, cs, fr, e, hbg, hg, hc⟩
  · exact .inl h0
  · exact .inr ⟨g, cs, fr, e, by omega, hg, hc⟩
/-- What a conversion of a text lays. -/
theorem RB.made (w : World) (s : ByteArray) (hb : b ≤ w.heap.size) (c : Nat) (fr : Nat × Nat) : RB (w.drew.alloc (.cells (bytesRow s c) 5 fr)) b (some ⟨w.heap.size, 0, none⟩) s.size s.data.toList := by
  refine ⟨str_len s, .inr ⟨w.heap.size, bytesRow s c, fr, rfl, hb, ?_, ?_⟩⟩
  · exact heap_alloc_new w.drew _
  · intro j hj
    have hj2 : j < s.data.size := hj
    unfold bytesRow Lib.byteCells
    rw [Array.getElem?_append_left (by simpa using hj2), Array.getElem?_map, List.getElem?_map, Array.getElem?_toList]
end
/-- Cells put into a row of cells. -/
def putAt (old : Array Value) (off : Nat) (cells : Array Value) : Array Value := (old.toList.take off ++ cells.toList ++ old.toList.drop (off + cells.size)).toArray
section
variable {P : Program}
/-- A store of a struct's cells at a place of a block. -/
theorem wpList_put_at {ops : Array Oper} {rest : List Oper} {o : Oper} {a : Act} {w : World} {Q : Exit → Act → World → Prop} (hgd : o.guard = none) (ty : TypeId) (x y : Operand) (ho : o.op = .store ty x y)
    (g off : Nat) (cells : Array Value) (hx : a.eval x = .pointer (some ⟨g, off, none⟩)) (hy : a.eval y = .agg cells)
    (t : TypeId) (old : Array Value) (hg : Blk w g t old) (hi : (P.info? ty).map (·.size) = some cells.size)
    (hold : off + cells.size ≤ old.size) (h1 : cells.all (·.oneCell') = true)
    (new : Array Value) (hn : putAt old off cells = new)
    (h : wpList P ops Q rest (a.put o.dst undef) (w.setRow g new)) : wpList P ops Q (o :: rest) a w := by
  subst hn
  refine wpList_plain hgd fun K hK => ?_
  have hst := run_storeCells_at P g off t cells.toList 0 old w hg (by simpa using hold) (fun v hv => (Array.all_eq_true_iff_forall_mem.1 h1) v (by simpa using hv))
  have hv : (storeVar ty ⟨g, off, none⟩ (.agg cells)).run P w = .ok () (w.setRow g (putAt old off cells)) := by
    cases hq : P.info? ty with
    | none => simp [hq] at hi
    | some i =>
      have hs : cells.size = i.size := by simp [hq] at hi; omega
      simp only [Nat.add_zero, Array.length_toList] at hst
      simp [storeVar, sizeOf, typeInfo, hq, Value.cells, hs]
      rw [hs] at hst
      simpa [putAt, hs] using hst
  unfold Oper.wp execOp
  simp only [ho, hx, hy, Instr.storeAt, Instr.sureAddr, Sem.run_bind, Sem.run_pure, Result.andThen_ok, hv]
  exact hK _ _ h
/-- The same as a run equation. -/
theorem run_put_at {o : Oper} {a : Act} {w : World} (ty : TypeId) (x y : Operand) (ho : o.op = .store ty x y)
    (g off : Nat) (cells : Array Value) (hx : a.eval x = .pointer (some ⟨g, off, none⟩)) (hy : a.eval y = .agg cells)
    (t : TypeId) (old : Array Value) (hg : Blk w g t old) (hi : (P.info? ty).map (·.size) = some cells.size)
    (hold : off + cells.size ≤ old.size) (h1 : cells.all (·.oneCell') = true)
    (new : Array Value) (hn : putAt old off cells = new) : (execOp a.eval o).run P w = .ok .skip (w.setRow g new) := by
  subst hn
  have hst := run_storeCells_at P g off t cells.toList 0 old w hg (by simpa using hold) (fun v hv => (Array.all_eq_true_iff_forall_mem.1 h1) v (by simpa using hv))
  have hv : (storeVar ty ⟨g, off, none⟩ (.agg cells)).run P w = .ok () (w.setRow g (putAt old off cells)) := by
    cases hq : P.info? ty with
    | none => simp [hq] at hi
    | some i =>
      have hs : cells.size = i.size := by simp [hq] at hi; omega
      simp only [Nat.add_zero, Array.length_toList] at hst
      simp [storeVar, sizeOf, typeInfo, hq, Value.cells, hs]
      rw [hs] at hst
      simpa [putAt, hs] using hst
  unfold execOp
  simp only [ho, hx, hy, Instr.storeAt, Instr.sureAddr, Sem.run_bind, Sem.run_pure, Result.andThen_ok, hv]
theorem one_skip {ops : Array Oper} {o : Oper} {a : Act} {V V' : World} {K : Act → World → Prop} {Q : Exit → Act → World → Prop} {E : Prop} (hw : Region.wanted o (yielded ops a.tmps) = true) (he : (execOp a.eval o).run P V = .ok .skip V') (h : K (a.put o.dst undef) V') :
    if Region.wanted o (yielded ops a.tmps) = true then Oper.wp P o a V K Q else E := by
  rw [if_pos hw]
  unfold Oper.wp
  rw [he]
  exact h
theorem one_value {ops : Array Oper} {o : Oper} {a : Act} {V V' : World} {K : Act → World → Prop} {Q : Exit → Act → World → Prop} {E : Prop} (hw : Region.wanted o (yielded ops a.tmps) = true) (v : Value) (he : (execOp a.eval o).run P V = .ok (.value v) V') (h : K (a.put o.dst v) V') :
    if Region.wanted o (yielded ops a.tmps) = true then Oper.wp P o a V K Q else E := by
  rw [if_pos hw]
  unfold Oper.wp
  rw [he]
  exact h
end
theorem only_setRow (W : World) (g : Nat) (C : Array Value) : Only (fun q => q = g) W (W.setRow g C) := (Only.refl (fun q => q = g) W).setRow (fun _ => rfl) C
theorem only_setCell0 (W : World) (g i : Nat) (v : Value) : Only (fun q => q = g) W (W.setCell ⟨g, i, none⟩ v) := (Only.refl (fun q => q = g) W).setCell (fun _ => rfl) v
/-- A text turned into bytes. -/
theorem conv_made {b : Nat} (w : World) (l : List UInt8) (hb : b ≤ w.heap.size) : ∃ c W, (convert 9 29 (.string (S l))).run Tryz.prog w = .ok (.slice (some ⟨w.heap.size, 0, none⟩) l.length c) W ∧ RB W b (some ⟨w.heap.size, 0, none⟩) l.length l ∧ Below w.heap.size w W := by
  have h := run_bytes_of_string (P := Tryz.prog) w 9 29 5 (S l) Tryz.underlying9 Tryz.underlying29 Tryz.underlying5
  rw [S_size] at h
  refine ⟨_, _, h, ?_, ?_⟩
  · have := RB.made (b := b) w (S l) hb (grownCap w l.length 0 5) ((bytesRow (S l) (grownCap w l.length 0 5)).size, (bytesRow (S l) (grownCap w l.length 0 5)).size + 1)
    rw [S_size, S_data] at this
    exact this
  · exact ((Below.refl _ _).drew).alloc (Nat.le_refl _) _
section
theorem own_int {w : World} {base n c g k : Nat} {xs : List Int} (h : w.ownsRow base 3 1 (.slice (some ⟨g, 0, none⟩) n c) n (ints xs)) (hk : k < n) : w.cell? ⟨g, k, none⟩ = some (.int .i64 (nth xs k)) := by
  have hl : xs.length = n := by have := h.1; simpa [ints] using this
  have := World.ownsRow.cells (g := g) h rfl k (.int .i64 (nth xs k)) (by unfold ints nth; rw [List.getElem?_map]; simp [hl, hk])
  have e : (⟨g, 0, none⟩ : Addr).add k = ⟨g, k, none⟩ := by
    unfold Addr.add
    split
    · rename_i h0; subst h0; rfl
    · simp
  rw [e] at this
  exact this
end
end Go.Proofs.YtcibcmfaebbhnaaGreatDoor
