/-
  Memory of the link: bodies, rows of them, a stream; steps that turn a stream's own blocks alone and no bytes.
-/
import Derived.Test.YtkkckinnhkpcmaaOnly
set_option linter.unusedVariables false
namespace Go.Proofs.Ytkkckinnhkpcmaa
open Go.RowKit Go.WideShapes Go.ChangeShapes Q

/-- Outside S, and beside what is new, w' is as w was; and no bytes have turned. -/
structure St (S : Nat → Prop) (w w' : World) : Prop where
  only : Only S w w'
  byt : ∀ k cs, Blk w k 5 cs → Blk w' k 5 cs

section
variable {S G : Nat → Prop} {w w1 w' : World}
theorem St.refl (S : Nat → Prop) (w : World) : St S w w := ⟨Only.refl S w, fun _ _ h => h⟩
theorem St.mono (h : St S w w') (hG : ∀ k, k < w.heap.size → S k → G k) : St G w w' := ⟨h.only.mono hG, h.byt⟩
theorem St.trans' (h : St S w w1) (h' : St G w1 w') (hG : ∀ k, k < w.heap.size → G k → S k) : St S w w' := ⟨h.only.trans' h'.only hG, fun k cs hb => h'.byt k cs (h.byt k cs hb)⟩
theorem St.trans (h : St S w w1) (h' : St S w1 w') : St S w w' := h.trans' h' fun _ _ x => x
theorem St.size (h : St S w w') : w.heap.size ≤ w'.heap.size := h.only.size
theorem St.of_below {B : Nat} (h : Below B w w') (hB : w.heap.size ≤ B) : St S w w' := ⟨Only.of_below h hB, fun k cs hb => hb.below h (Nat.lt_of_lt_of_le hb.lt hB)⟩
theorem St.alloc (h : St S w w1) (o : Obj) : St S w (w1.alloc o) := ⟨h.only.alloc o, fun k cs hb => (h.byt k cs hb).alloc o⟩
theorem St.drew (h : St S w w1) : St S w w1.drew := ⟨h.only.drew, fun k cs hb => h.byt k cs hb⟩
theorem St.drewN (h : St S w w1) (n : Nat) : St S w (w1.drewN n) := ⟨h.only.drewN n, fun k cs hb => h.byt k cs hb⟩
theorem St.setCell (h : St S w w1) {g i : Nat} {t : TypeId} {cs : Array Value} (hb : Blk w1 g t cs) (ht : t ≠ 5) (hg : g < w.heap.size → S g) (u : Value) : St S w (w1.setCell ⟨g, i, none⟩ u) :=
  ⟨h.only.setCell (p := ⟨g, i, none⟩) hg u, fun k cs' hk => (h.byt k cs' hk).far (p := ⟨g, i, none⟩) (fun e => Blk.ne_ hb (h.byt k cs' hk) ht (by simpa using e.symm)) u⟩
theorem St.setRow (h : St S w w1) {g : Nat} {t : TypeId} {cs : Array Value} (hb : Blk w1 g t cs) (ht : t ≠ 5) (hg : g < w.heap.size → S g) (u : Array Value) : St S w (w1.setRow g u) := by
  have ho : ∀ k, k ≠ g → (w1.setRow g u).heap[k]? = w1.heap[k]? := fun k hk => setRow_other w1 g k u hk
  refine ⟨⟨h.only.os, h.only.tape, h.only.output, by simpa [World.setRow] using h.only.size, fun k hk hn => ?_⟩, fun k cs' hk => ?_⟩
  · by_cases e : k = g
    · subst e; exact absurd (hg hk) hn
    · exact (ho k e).trans (h.only.block k hk hn)
  · have hk1 := h.byt k cs' hk
    have e : k ≠ g := fun e => by subst e; exact Blk.ne_ hb hk1 ht rfl
    exact (ho k e).trans hk1
theorem St.grown (h : St S w w1) {row : Option Nat} (hg : w1.grownBy w' row) (hr : ∀ g, row = some g → (∃ t cs, Blk w1 g t cs ∧ t ≠ 5) ∧ (g < w.heap.size → S g)) : St S w w' :=
  ⟨h.only.trans' (G := fun k => row = some k) (Only.of_grown hg fun g e _ => e) (fun k hk e => (hr k e).2 hk), fun k cs hb =>
    (h.byt k cs hb).grown hg fun e => by
      obtain ⟨⟨t, cs', hb', ht⟩, _⟩ := hr k e.symm
      exact Blk.ne_ hb' (h.byt k cs hb) ht rfl⟩
/-- A row of bytes of the call's own may grow: it is new. -/
theorem St.grown_new (h : St S w w1) {row : Option Nat} (hg : w1.grownBy w' row) (hr : ∀ g, row = some g → w.heap.size ≤ g) : St S w w' :=
  ⟨h.only.trans' (G := fun k => row = some k) (Only.of_grown hg fun g e _ => e) (fun k hk e => absurd (hr k e) (by omega)), fun k cs hb =>
    (h.byt k cs hb).grown hg fun e => absurd (hr k e.symm) (by have := hb.lt; omega)⟩
theorem Blk.st {g : Nat} {t : TypeId} {cs : Array Value} (hb : Blk w g t cs) (h : St S w w') (hg : ¬ S g) : Blk w' g t cs := hb.only h.only hg
end

/-- The cells of bytes. -/
def byts (bs : List Int) : List Value := bs.map (Value.int .u8)
/-- A []byte of a row of its own. -/
def Bod (w : World) (v : Value) (bs : List Int) : Prop := w.ownsRow 0 5 1 v bs.length (byts bs)
/-- Bodies, one by one. -/
def Bods (w : World) (vs : List Value) (xs : List (List Int)) : Prop := vs.length = xs.length ∧ ∀ (k : Nat) (v : Value) (x : List Int), vs[k]? = some v → xs[k]? = some x → Bod w v x
/-- What came ahead of its turn: a body, or nothing. -/
def EarAt (w : World) (v : Value) : Option (List Int) → Prop
  | none => v = .slice none 0 0
  | some x => Bod w v x
def Ear (w : World) (vs : List Value) (es : List (Option (List Int))) : Prop := vs.length = es.length ∧ ∀ (k : Nat) (v : Value) (e : Option (List Int)), vs[k]? = some v → es[k]? = some e → EarAt w v e
/-- A list of bodies in a row of its own; the row is S's. -/
def BRow (w : World) (S : Nat → Prop) (v : Value) (xs : List (List Int)) : Prop := ∃ vs, w.ownsRow 0 28 1 v xs.length vs ∧ Bods w vs xs ∧ ∀ g, v.ownBlock = some g → S g

section
variable {S G : Nat → Prop} {w w' : World} {v : Value} {x bs : List Int} {vs : List Value} {xs : List (List Int)} {es : List (Option (List Int))}
theorem byts_len (bs : List Int) : (byts bs).length = bs.length := by simp [byts]
theorem byts_one (bs : List Int) : ∀ u ∈ byts bs, u.oneCell' = true := by
  intro u hu
  simp only [byts, List.mem_map] at hu
  obtain ⟨a, _, rfl⟩ := hu
  rfl
theorem Bod.keep (h : Bod w v x) (hk : ∀ k cs, Blk w k 5 cs → Blk w' k 5 cs) : Bod w' v x := by
  refine ⟨h.1, ?_⟩
  rcases h.2 with hn | ⟨g, cap, cur, rfl, hb, hgg, rest⟩
  · exact .inl hn
  · exact .inr ⟨g, cap, cur, rfl, hb, hk g cur hgg, rest⟩
theorem Bod.st (h : Bod w v x) (hs : St S w w') : Bod w' v x := h.keep hs.byt
theorem Bod.nil (w : World) : Bod w (.slice none 0 0) [] := World.ownsRow_nil w 0 5 1
theorem Bod.val (h : Bod w v x) : ∃ A c, v = .slice A x.length c ∧ Reads w w.heap.size 1 A x.length (byts x) ∧ x.length ≤ c := own_val h
theorem Bod.one (h : Bod w v x) : v.oneCell' = true := by obtain ⟨A, c, rfl, _⟩ := h.val; rfl
theorem Bods.keep (h : Bods w vs xs) (hk : ∀ k cs, Blk w k 5 cs → Blk w' k 5 cs) : Bods w' vs xs := ⟨h.1, fun k v x hv hx => (h.2 k v x hv hx).keep hk⟩
theorem Bods.st (h : Bods w vs xs) (hs : St S w w') : Bods w' vs xs := h.keep hs.byt
theorem Bods.nil (w : World) : Bods w [] [] := ⟨rfl, fun k v x hv => by simp at hv⟩
theorem Bods.one (h : Bods w vs xs) : ∀ u ∈ vs, u.oneCell' = true := by
  intro u hu
  obtain ⟨k, hk, rfl⟩ := List.getElem_of_mem hu
  exact (h.2 k vs[k] (xs[k]'(by rw [← h.1]; exact hk)) (List.getElem?_eq_getElem hk) (List.getElem?_eq_getElem _)).one
theorem Bods.snoc (h : Bods w vs xs) (hb : Bod w v x) : Bods w (vs ++ [v]) (xs ++ [x]) := by
  refine ⟨by simp [h.1], fun k u y hu hy => ?_⟩
  rcases Nat.lt_or_ge k vs.length with hk | hk
  · rw [List.getElem?_append_left hk] at hu
    rw [List.getElem?_append_left (by rw [← h.1]; exact hk)] at hy
    exact h.2 k u y hu hy
  · rw [List.getElem?_append_right hk] at hu
    rw [List.getElem?_append_right (by rw [← h.1]; exact hk), ← h.1] at hy
    match hj : k - vs.length, hu, hy with
    | 0, hu, hy =>
      simp at hu hy
      subst hu; subst hy
      exact hb
    | j + 1, hu, hy => simp at hu
theorem Bods.drop (h : Bods w vs xs) (n : Nat) : Bods w (vs.drop n) (xs.drop n) :=
  ⟨by simp [h.1], fun k u y hu hy => by rw [List.getElem?_drop] at hu hy; exact h.2 _ u y hu hy⟩
theorem Bods.take (h : Bods w vs xs) (n : Nat) : Bods w (vs.take n) (xs.take n) :=
  ⟨by simp [h.1], fun k u y hu hy => by
    rw [List.getElem?_take] at hu hy
    split at hu
    · rename_i hk; rw [if_pos hk] at hy; exact h.2 _ u y hu hy
    · cases hu⟩
theorem EarAt.keep {e : Option (List Int)} (h : EarAt w v e) (hk : ∀ k cs, Blk w k 5 cs → Blk w' k 5 cs) : EarAt w' v e := by
  cases e with
  | none => exact h
  | some x => exact Bod.keep (x := x) h hk
theorem EarAt.one {e : Option (List Int)} (h : EarAt w v e) : v.oneCell' = true := by
  cases e with
  | none => have h' : v = .slice none 0 0 := h; subst h'; rfl
  | some x => exact Bod.one (x := x) h
theorem Ear.keep (h : Ear w vs es) (hk : ∀ k cs, Blk w k 5 cs → Blk w' k 5 cs) : Ear w' vs es := ⟨h.1, fun k v x hv hx => (h.2 k v x hv hx).keep hk⟩
theorem Ear.st (h : Ear w vs es) (hs : St S w w') : Ear w' vs es := h.keep hs.byt
theorem Ear.one (h : Ear w vs es) : ∀ u ∈ vs, u.oneCell' = true := by
  intro u hu
  obtain ⟨k, hk, rfl⟩ := List.getElem_of_mem hu
  exact (h.2 k vs[k] (es[k]'(by rw [← h.1]; exact hk)) (List.getElem?_eq_getElem hk) (List.getElem?_eq_getElem _)).one
theorem Ear.set (h : Ear w vs es) (i : Nat) (hb : Bod w v x) : Ear w (vs.set i v) (es.set i (some x)) := by
  refine ⟨by simp [h.1], fun k u e hu he => ?_⟩
  rw [List.getElem?_set] at hu he
  by_cases hk : i = k
  · subst hk
    rw [if_pos rfl] at hu he
    split at hu
    · split at he
      · simp at hu he; subst hu; subst he; exact hb
      · cases he
    · cases hu
  · rw [if_neg hk] at hu he
    exact h.2 k u e hu he
/-- A stream's things move n places to the front. -/
def shifted {α : Type} (l : List α) (z : α) (n : Nat) : List α := l.drop n ++ List.replicate n z
theorem shifted_len {α : Type} (l : List α) (z : α) (n : Nat) (hn : n ≤ l.length) : (shifted l z n).length = l.length := by simp [shifted]; omega
theorem Ear.shift (h : Ear w vs es) (n : Nat) : Ear w (shifted vs (.slice none 0 0) n) (shifted es none n) := by
  refine ⟨by simp [shifted, h.1], fun k u e hu he => ?_⟩
  unfold shifted at hu he
  rcases Nat.lt_or_ge k (vs.drop n).length with hk | hk
  · rw [List.getElem?_append_left hk, List.getElem?_drop] at hu
    rw [List.getElem?_append_left (by rw [List.length_drop, ← h.1, ← List.length_drop]; exact hk), List.getElem?_drop] at he
    exact h.2 _ u e hu he
  · rw [List.getElem?_append_right hk] at hu
    rw [List.getElem?_append_right (by rw [List.length_drop, ← h.1, ← List.length_drop]; exact hk)] at he
    have hu' := List.eq_of_mem_replicate (List.mem_of_getElem? hu)
    have he' := List.eq_of_mem_replicate (List.mem_of_getElem? he)
    subst hu'; subst he'
    rfl
theorem BRow.mono (h : BRow w S v xs) (hS : ∀ k, S k → G k) : BRow w G v xs := by
  obtain ⟨vs, h1, h2, h3⟩ := h
  exact ⟨vs, h1, h2, fun g hg => hS g (h3 g hg)⟩
theorem BRow.nil (w : World) (S : Nat → Prop) : BRow w S (.slice none 0 0) [] := ⟨[], World.ownsRow_nil w 0 28 1, Bods.nil w, fun g hg => by simp [Value.ownBlock] at hg⟩
/-- A row apart from what turned stays. -/
theorem BRow.far (h : BRow w S v xs) (hs : St G w w') (hd : ∀ k, S k → ¬ G k) : BRow w' S v xs := by
  obtain ⟨vs, h1, h2, h3⟩ := h
  exact ⟨vs, own_only h1 hs.only fun g hg => hd g (h3 g hg), h2.st hs, h3⟩
theorem BRow.val (h : BRow w S v xs) : ∃ A c vs, v = .slice A xs.length c ∧ Reads w w.heap.size 1 A xs.length vs ∧ Bods w vs xs ∧ xs.length ≤ c := by
  obtain ⟨vs, h1, h2, h3⟩ := h
  obtain ⟨A, c, rfl, hr, hc⟩ := own_val h1
  exact ⟨A, c, vs, rfl, hr, h2, hc⟩
end

/-- Both ends of what goes on with one peer. -/
structure Str where
  first : Int
  out : List (List Int)
  next : Int
  ear : List (Option (List Int))
  owed : Bool

def hereC (es : List (Option (List Int))) : Array Value := (es.map fun e => Value.bool e.isSome).toArray
def strC (first : Int) (vo : Value) (next : Int) (hb ib n : Nat) (owed : Bool) : Array Value := #[.int .i64 first, vo, .int .i64 next, .slice (some ⟨hb, 0, none⟩) n n, .slice (some ⟨ib, 0, none⟩) n n, .bool owed]
/-- A stream in memory: its blocks are S's. -/
def StreamAt (w : World) (S : Nat → Prop) (sb : Nat) (x : Str) : Prop := ∃ vo hb ib is, Blk w sb 80 (strC x.first vo x.next hb ib x.ear.length x.owed) ∧ BRow w S vo x.out ∧
  Blk w hb 4 (hereC x.ear) ∧ Blk w ib 28 is.toArray ∧ Ear w is x.ear ∧ vo.ownBlock ≠ some ib ∧ S sb ∧ S hb ∧ S ib
section
variable {S G : Nat → Prop} {w w' : World} {sb : Nat} {x : Str}
theorem StreamAt.mono (h : StreamAt w S sb x) (hS : ∀ k, S k → G k) : StreamAt w G sb x := by
  obtain ⟨vo, hb, ib, is, h1, h2, h3, h4, h5, h6, h7, h8, h9⟩ := h
  exact ⟨vo, hb, ib, is, h1, h2.mono hS, h3, h4, h5, h6, hS _ h7, hS _ h8, hS _ h9⟩
theorem StreamAt.far (h : StreamAt w S sb x) (hs : St G w w') (hd : ∀ k, S k → ¬ G k) : StreamAt w' S sb x := by
  obtain ⟨vo, hb, ib, is, h1, h2, h3, h4, h5, h6, h7, h8, h9⟩ := h
  exact ⟨vo, hb, ib, is, h1.st hs (hd _ h7), h2.far hs hd, h3.st hs (hd _ h8), h4.st hs (hd _ h9), h5.st hs, h6, h7, h8, h9⟩
theorem StreamAt.lt (h : StreamAt w S sb x) : sb < w.heap.size := by
  obtain ⟨vo, hb, ib, is, h1, _⟩ := h
  exact h1.lt
end
end Go.Proofs.Ytkkckinnhkpcmaa
