/-
  Memory of a net: its head, up, left, the rows of wires; steps that turn its own blocks alone and no numbers or bytes.
-/
import Derived.Test.YtkcjfiifajjpiaaOnly
set_option linter.unusedVariables false
namespace Go.Proofs.Ytkcjfiifajjpiaa
open Go.RowKit Go.WideShapes Go.ChangeShapes Q

/-- Blocks of ints, of bytes. -/
def Num35 (t : TypeId) : Prop := t = 3 ∨ t = 5
/-- Outside S, and beside what is new, w' is as w was; and no ints, no bytes have turned. -/
structure St (S : Nat → Prop) (w w' : World) : Prop where
  only : Only S w w'
  byt : ∀ k t cs, Num35 t → Blk w k t cs → Blk w' k t cs

section
variable {S G : Nat → Prop} {w w1 w' : World}
theorem St.refl (S : Nat → Prop) (w : World) : St S w w := ⟨Only.refl S w, fun _ _ _ _ h => h⟩
theorem St.mono (h : St S w w') (hG : ∀ k, k < w.heap.size → S k → G k) : St G w w' := ⟨h.only.mono hG, h.byt⟩
theorem St.trans' (h : St S w w1) (h' : St G w1 w') (hG : ∀ k, k < w.heap.size → G k → S k) : St S w w' := ⟨h.only.trans' h'.only hG, fun k t cs ht hb => h'.byt k t cs ht (h.byt k t cs ht hb)⟩
theorem St.trans (h : St S w w1) (h' : St S w1 w') : St S w w' := h.trans' h' fun _ _ x => x
theorem St.size (h : St S w w') : w.heap.size ≤ w'.heap.size := h.only.size
theorem St.of_below {B : Nat} (h : Below B w w') (hB : w.heap.size ≤ B) : St S w w' := ⟨Only.of_below h hB, fun k t cs _ hb => hb.below h (Nat.lt_of_lt_of_le hb.lt hB)⟩
theorem St.alloc (h : St S w w1) (o : Obj) : St S w (w1.alloc o) := ⟨h.only.alloc o, fun k t cs ht hb => (h.byt k t cs ht hb).alloc o⟩
theorem St.drew (h : St S w w1) : St S w w1.drew := ⟨h.only.drew, fun k t cs ht hb => h.byt k t cs ht hb⟩
theorem St.drewN (h : St S w w1) (n : Nat) : St S w (w1.drewN n) := ⟨h.only.drewN n, fun k t cs ht hb => h.byt k t cs ht hb⟩
theorem St.setCell (h : St S w w1) {g i : Nat} {t : TypeId} {cs : Array Value} (hb : Blk w1 g t cs) (ht : ¬ Num35 t) (hg : g < w.heap.size → S g) (u : Value) : St S w (w1.setCell ⟨g, i, none⟩ u) :=
  ⟨h.only.setCell (p := ⟨g, i, none⟩) hg u, fun k t' cs' ht' hk => (h.byt k t' cs' ht' hk).far (p := ⟨g, i, none⟩) (fun e => Blk.ne_ hb (h.byt k t' cs' ht' hk) (fun e => ht (e ▸ ht')) (by simpa using e.symm)) u⟩
theorem St.grown (h : St S w w1) {row : Option Nat} (hg : w1.grownBy w' row) (hr : ∀ g, row = some g → (∃ t cs, Blk w1 g t cs ∧ ¬ Num35 t) ∧ (g < w.heap.size → S g)) : St S w w' :=
  ⟨h.only.trans' (G := fun k => row = some k) (Only.of_grown hg fun g e _ => e) (fun k hk e => (hr k e).2 hk), fun k t' cs ht' hb =>
    (h.byt k t' cs ht' hb).grown hg fun e => by
      obtain ⟨⟨t, cs', hb', ht⟩, _⟩ := hr k e.symm
      exact Blk.ne_ hb' (h.byt k t' cs ht' hb) (fun e => ht (e ▸ ht')) rfl⟩
theorem St.grown_new (h : St S w w1) {row : Option Nat} (hg : w1.grownBy w' row) (hr : ∀ g, row = some g → w.heap.size ≤ g) : St S w w' :=
  ⟨h.only.trans' (G := fun k => row = some k) (Only.of_grown hg fun g e _ => e) (fun k hk e => absurd (hr k e) (by omega)), fun k t cs ht hb =>
    (h.byt k t cs ht hb).grown hg fun e => absurd (hr k e.symm) (by have := hb.lt; omega)⟩
theorem Blk.st {g : Nat} {t : TypeId} {cs : Array Value} (hb : Blk w g t cs) (h : St S w w') (hg : ¬ S g) : Blk w' g t cs := hb.only h.only hg
theorem St.below_ (h : St S w w') {B : Nat} (hB : B ≤ w.heap.size) (hS : ∀ k, k < B → ¬ S k) : Below B w w' := h.only.below hB hS
theorem Reads.st {B size n : Nat} {A : Option Addr} {xs : List Value} (h : Reads w B size A n xs) (hs : St S w w') (hd : ∀ k, k < B → ¬ S k) : Reads w' B size A n xs := by
  refine ⟨h.1, fun hn => ?_⟩
  obtain ⟨ad, e, hb, hc⟩ := h.2 hn
  exact ⟨ad, e, hb, fun j v hv => hs.only.cell (hc j v hv) (by rw [block_of_add]; exact hd _ hb)⟩
end

/-- A row of cells told by a function. -/
def tab (m : Nat) (f : Nat → Value) : Array Value := ((List.range m).map f).toArray
theorem tab_get (m : Nat) (f : Nat → Value) (i : Nat) (h : i < m) : (tab m f)[i]? = some (f i) := by
  simp [tab, h]
theorem tab_size (m : Nat) (f : Nat → Value) : (tab m f).size = m := by simp [tab]
theorem tab_congr {m : Nat} {f g : Nat → Value} (h : ∀ i, i < m → f i = g i) : tab m f = tab m g := by
  unfold tab
  congr 1
  exact List.map_congr_left fun i hi => h i (List.mem_range.1 hi)
theorem tab_set (m : Nat) (f : Nat → Value) (i : Nat) (v : Value) : (tab m f).setIfInBounds i v = tab m (fun k => if k = i then v else f k) := by
  apply Array.ext_getElem?
  intro k
  rw [Array.getElem?_setIfInBounds]
  by_cases hk : k < m
  · rw [tab_get m f k hk]
    by_cases e : i = k
    · subst e; rw [if_pos rfl, tab_size, if_pos hk, tab_get _ _ _ hk, if_pos rfl]
    · rw [if_neg e, tab_get _ _ _ hk, if_neg (fun e' => e e'.symm)]
  · have h1 : (tab m f)[k]? = none := by rw [Array.getElem?_eq_none_iff, tab_size]; omega
    have h2 : (tab m fun k => if k = i then v else f k)[k]? = none := by rw [Array.getElem?_eq_none_iff, tab_size]; omega
    rw [h1, h2, tab_size]
    split
    · rename_i e; subst e; rw [if_neg hk]
    · rfl
theorem tab_rep (m : Nat) (v : Value) : Array.replicate m v = tab m fun _ => v := by
  apply Array.ext_getElem?
  intro k
  by_cases hk : k < m
  · rw [tab_get m _ k hk]; simp [hk]
  · have h2 : (tab m fun _ => v)[k]? = none := by rw [Array.getElem?_eq_none_iff, tab_size]; omega
    rw [h2]; simp; omega
theorem tab_nil (m : Nat) (h : m = 0) (f : Nat → Value) : tab m f = #[] := by subst h; rfl

/-- A net, plainly. -/
structure Net where
  up : Nat → Bool
  left : Nat → Bool
  cut : Nat → Nat → Bool
  dly : Nat → Nat → Int
abbrev sl (b n : Nat) : Value := .slice (some ⟨b, 0, none⟩) n n
def bools (f : Nat → Bool) : Nat → Value := fun i => .bool (f i)
/-- The cells of one node's wires. -/
def wires (c : Nat → Bool) (d : Nat → Int) : Nat → Value := fun i => if i % 2 = 0 then .bool (c (i / 2)) else .int .i64 (d (i / 2))
theorem wires_cut (c : Nat → Bool) (d : Nat → Int) (q : Nat) : wires c d (q * 2) = .bool (c q) := by
  unfold wires; rw [if_pos (by omega), show q * 2 / 2 = q by omega]
theorem wires_dly (c : Nat → Bool) (d : Nat → Int) (q : Nat) : wires c d (q * 2 + 1) = .int .i64 (d q) := by
  unfold wires; rw [if_neg (by omega), show (q * 2 + 1) / 2 = q by omega]
def up1 {α : Type} (f : Nat → α) (i : Nat) (v : α) : Nat → α := fun k => if k = i then v else f k
def up2 {α : Type} (f : Nat → Nat → α) (i j : Nat) (v : α) : Nat → Nat → α := fun p q => if p = i ∧ q = j then v else f p q
theorem up2_row {α : Type} (f : Nat → Nat → α) (i j : Nat) (v : α) : up2 f i j v i = up1 (f i) j v := by funext q; simp [up2, up1]
theorem up2_other {α : Type} (f : Nat → Nat → α) (i j p : Nat) (v : α) (h : p ≠ i) : up2 f i j v p = f p := by funext q; simp [up2, h]
theorem bools_set (m : Nat) (f : Nat → Bool) (i : Nat) (v : Bool) : (tab m (bools f)).setIfInBounds i (.bool v) = tab m (bools (up1 f i v)) := by
  rw [tab_set]; exact tab_congr fun k _ => by unfold bools up1; split <;> rfl
theorem wires_set_cut (m : Nat) (c : Nat → Bool) (d : Nat → Int) (q : Nat) (v : Bool) : (tab m (wires c d)).setIfInBounds (q * 2) (.bool v) = tab m (wires (up1 c q v) d) := by
  rw [tab_set]
  refine tab_congr fun k _ => ?_
  unfold wires up1
  by_cases e : k = q * 2
  · subst e; rw [if_pos rfl, if_pos (by omega), if_pos (by omega)]
  · rw [if_neg e]
    by_cases e2 : k % 2 = 0
    · rw [if_pos e2, if_pos e2, if_neg (by omega)]
    · rw [if_neg e2, if_neg e2]
theorem wires_set_dly (m : Nat) (c : Nat → Bool) (d : Nat → Int) (q : Nat) (v : Int) : (tab m (wires c d)).setIfInBounds (q * 2 + 1) (.int .i64 v) = tab m (wires c (up1 d q v)) := by
  rw [tab_set]
  refine tab_congr fun k _ => ?_
  unfold wires up1
  by_cases e : k = q * 2 + 1
  · subst e; rw [if_pos rfl, if_neg (by omega), if_pos (by omega)]
  · rw [if_neg e]
    by_cases e2 : k % 2 = 0
    · rw [if_pos e2, if_pos e2]
    · rw [if_neg e2, if_neg e2, if_neg (by omega)]

theorem wires_congr {n : Nat} {c c' : Nat → Bool} {d d' : Nat → Int} (h1 : ∀ q, q < n → c q = c' q) (h2 : ∀ q, q < n → d q = d' q) : tab (n * 2) (wires c d) = tab (n * 2) (wires c' d') := by
  refine tab_congr fun i hi => ?_
  unfold wires
  by_cases e : i % 2 = 0
  · rw [if_pos e, if_pos e, h1 _ (by omega)]
  · rw [if_neg e, if_neg e, h2 _ (by omega)]
/-- Where a net's blocks lie. -/
structure Lay where
  nb : Nat
  ub : Nat
  lb : Nat
  pb : Nat
  row : Nat → Nat
/-- A net in memory. -/
structure NetAt (w : World) (S : Nat → Prop) (n : Nat) (L : Lay) (x : Net) : Prop where
  head : Blk w L.nb 79 #[sl L.ub n, sl L.lb n, sl L.pb n]
  up : Blk w L.ub 4 (tab n (bools x.up))
  left : Blk w L.lb 4 (tab n (bools x.left))
  path : Blk w L.pb 80 (tab n fun p => sl (L.row p) n)
  wire : ∀ p, p < n → Blk w (L.row p) 82 (tab (n * 2) (wires (x.cut p) (x.dly p)))
  ul : L.ub ≠ L.lb
  inj : ∀ p q, p < n → q < n → L.row p = L.row q → p = q
  sn : S L.nb
  su : S L.ub
  sl_ : S L.lb
  sp : S L.pb
  sr : ∀ p, p < n → S (L.row p)
section
variable {w w' : World} {S G : Nat → Prop} {n : Nat} {L : Lay} {x : Net}
theorem NetAt.far (h : NetAt w S n L x) (hs : St G w w') (hd : ∀ k, S k → ¬ G k) : NetAt w' S n L x :=
  ⟨h.head.st hs (hd _ h.sn), h.up.st hs (hd _ h.su), h.left.st hs (hd _ h.sl_), h.path.st hs (hd _ h.sp), fun p hp => (h.wire p hp).st hs (hd _ (h.sr p hp)), h.ul, h.inj, h.sn, h.su, h.sl_, h.sp, h.sr⟩
theorem NetAt.quiet (h : NetAt w S n L x) (hs : St (fun _ => False) w w') : NetAt w' S n L x := h.far hs fun _ _ e => e
theorem NetAt.setUp (h : NetAt w S n L x) (i : Nat) (v : Bool) : NetAt (w.setCell ⟨L.ub, i, none⟩ (.bool v)) S n L { x with up := up1 x.up i v } :=
  ⟨h.head.far (Blk.ne_ h.head h.up (by decide)) _, by rw [← bools_set]; exact h.up.set_ i _, h.left.far (fun e => h.ul e.symm) _, h.path.far (Blk.ne_ h.path h.up (by decide)) _,
    fun p hp => (h.wire p hp).far (Blk.ne_ (h.wire p hp) h.up (by decide)) _, h.ul, h.inj, h.sn, h.su, h.sl_, h.sp, h.sr⟩
theorem NetAt.setLeft (h : NetAt w S n L x) (i : Nat) (v : Bool) : NetAt (w.setCell ⟨L.lb, i, none⟩ (.bool v)) S n L { x with left := up1 x.left i v } :=
  ⟨h.head.far (Blk.ne_ h.head h.left (by decide)) _, h.up.far h.ul _, by rw [← bools_set]; exact h.left.set_ i _, h.path.far (Blk.ne_ h.path h.left (by decide)) _,
    fun p hp => (h.wire p hp).far (Blk.ne_ (h.wire p hp) h.left (by decide)) _, h.ul, h.inj, h.sn, h.su, h.sl_, h.sp, h.sr⟩
theorem NetAt.setCut (h : NetAt w S n L x) {i : Nat} (hi : i < n) (j : Nat) (v : Bool) : NetAt (w.setCell ⟨L.row i, j * 2, none⟩ (.bool v)) S n L { x with cut := up2 x.cut i j v } :=
  ⟨h.head.far (Blk.ne_ h.head (h.wire i hi) (by decide)) _, h.up.far (Blk.ne_ h.up (h.wire i hi) (by decide)) _, h.left.far (Blk.ne_ h.left (h.wire i hi) (by decide)) _, h.path.far (Blk.ne_ h.path (h.wire i hi) (by decide)) _,
    fun p hp => by
      by_cases e : p = i
      · subst e
        show Blk _ _ 82 (tab (n * 2) (wires (up2 x.cut p j v p) (x.dly p)))
        rw [up2_row, ← wires_set_cut]
        exact (h.wire p hp).set_ _ _
      · show Blk _ _ 82 (tab (n * 2) (wires (up2 x.cut i j v p) (x.dly p)))
        rw [up2_other _ _ _ _ _ e]
        exact (h.wire p hp).far (fun e' => e (h.inj p i hp hi e')) _, h.ul, h.inj, h.sn, h.su, h.sl_, h.sp, h.sr⟩
theorem NetAt.setDly (h : NetAt w S n L x) {i : Nat} (hi : i < n) (j : Nat) (v : Int) : NetAt (w.setCell ⟨L.row i, j * 2 + 1, none⟩ (.int .i64 v)) S n L { x with dly := up2 x.dly i j v } :=
  ⟨h.head.far (Blk.ne_ h.head (h.wire i hi) (by decide)) _, h.up.far (Blk.ne_ h.up (h.wire i hi) (by decide)) _, h.left.far (Blk.ne_ h.left (h.wire i hi) (by decide)) _, h.path.far (Blk.ne_ h.path (h.wire i hi) (by decide)) _,
    fun p hp => by
      by_cases e : p = i
      · subst e
        show Blk _ _ 82 (tab (n * 2) (wires (x.cut p) (up2 x.dly p j v p)))
        rw [up2_row, ← wires_set_dly]
        exact (h.wire p hp).set_ _ _
      · show Blk _ _ 82 (tab (n * 2) (wires (x.cut p) (up2 x.dly i j v p)))
        rw [up2_other _ _ _ _ _ e]
        exact (h.wire p hp).far (fun e' => e (h.inj p i hp hi e')) _, h.ul, h.inj, h.sn, h.su, h.sl_, h.sp, h.sr⟩
theorem NetAt.c0 (h : NetAt w S n L x) : w.cell? ⟨L.nb, 0, none⟩ = some (sl L.ub n) := h.head.cell 0
theorem NetAt.c1 (h : NetAt w S n L x) : w.cell? ⟨L.nb, 1, none⟩ = some (sl L.lb n) := h.head.cell 1
theorem NetAt.c2 (h : NetAt w S n L x) : w.cell? ⟨L.nb, 2, none⟩ = some (sl L.pb n) := h.head.cell 2
theorem NetAt.cu (h : NetAt w S n L x) {i : Nat} (hi : i < n) : w.cell? ⟨L.ub, i, none⟩ = some (.bool (x.up i)) := by rw [h.up.cell, tab_get _ _ _ hi]; rfl
theorem NetAt.cl (h : NetAt w S n L x) {i : Nat} (hi : i < n) : w.cell? ⟨L.lb, i, none⟩ = some (.bool (x.left i)) := by rw [h.left.cell, tab_get _ _ _ hi]; rfl
theorem NetAt.cp (h : NetAt w S n L x) {i : Nat} (hi : i < n) : w.cell? ⟨L.pb, i, none⟩ = some (sl (L.row i) n) := by rw [h.path.cell, tab_get _ _ _ hi]
theorem NetAt.cc (h : NetAt w S n L x) {i j : Nat} (hi : i < n) (hj : j < n) : w.cell? ⟨L.row i, j * 2, none⟩ = some (.bool (x.cut i j)) := by rw [(h.wire i hi).cell, tab_get _ _ _ (by omega), wires_cut]
theorem NetAt.cd (h : NetAt w S n L x) {i j : Nat} (hi : i < n) (hj : j < n) : w.cell? ⟨L.row i, j * 2 + 1, none⟩ = some (.int .i64 (x.dly i j)) := by rw [(h.wire i hi).cell, tab_get _ _ _ (by omega), wires_dly]
end
end Go.Proofs.Ytkcjfiifajjpiaa
