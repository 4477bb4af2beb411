/-
  Events in memory; what a script makes of a net (plain); the plain answer of Premise.
-/
import Derived.Test.YtkcjfiifajjpiaaTouch
import Derived.Test.YtkcjfiifajjpiaaCfgR
set_option linter.unusedVariables false
namespace Go.Proofs.Ytkcjfiifajjpiaa
open Go.RowKit Go.WideShapes Go.ChangeShapes Q

/-- An event with the place of its sides. -/
structure El where
  k : Int
  a : Int
  b : Int
  n : Int
  bA : Option Addr
  bc : Nat
  bz : List Int
  c1 : Int
  c2 : Int
  c3 : Int
  c4 : Int
  s1 : ByteArray
  s2 : ByteArray
  s3 : ByteArray
  A : Option Addr
  c : Nat
  zs : List Int
def El.sides (x : El) : Value := .slice x.A x.zs.length x.c
def El.body (x : El) : Value := .slice x.bA x.bz.length x.bc
def byts (bs : List Int) : List Value := bs.map (Value.int .u8)
def El.cells (x : El) : List Value := [.int .i64 x.k, .int .i64 x.a, .int .i64 x.b, .int .i64 x.n, x.body, .int .i64 x.c1, .int .i64 x.c2, .int .i64 x.c3, .int .i64 x.c4, .string x.s1, .string x.s2, .string x.s3, x.sides]
def ecells (l : List El) : List Value := l.flatMap El.cells
theorem ecells_len (l : List El) : (ecells l).length = l.length * 13 := by
  induction l with
  | nil => rfl
  | cons a r ih => simp [ecells, El.cells] at ih ⊢; omega
theorem ecells_at : ∀ (l : List El) (k : Nat) (x : El), l[k]? = some x → ∀ j, j < 13 → (ecells l)[k * 13 + j]? = x.cells[j]?
  | [], k, x, h, j, _ => by simp at h
  | a :: l, 0, x, h, j, hj => by
    simp at h
    subst h
    have e : ecells (a :: l) = a.cells ++ ecells l := rfl
    rw [e, List.getElem?_append_left (by simp [El.cells]; omega)]
    simp
  | a :: l, k + 1, x, h, j, hj => by
    simp at h
    have e : ecells (a :: l) = a.cells ++ ecells l := rfl
    have hl : a.cells.length = 13 := rfl
    rw [e, List.getElem?_append_right (by omega), hl, show (k + 1) * 13 + j - 13 = k * 13 + j by omega]
    exact ecells_at l k x h j hj
theorem ecells_snoc (l : List El) (x : El) : ecells (l ++ [x]) = ecells l ++ x.cells := by simp [ecells]
/-- An event's sides can be read. -/
def El.Good (w : World) (B : Nat) (x : El) : Prop := RI w B x.A x.zs.length x.zs ∧ x.zs.length ≤ 140737488351232 ∧ Reads w B 1 x.bA x.bz.length (byts x.bz) ∧ x.bz.length ≤ 140737488351232
/-- The events of a script. -/
def EvsIn (w : World) (B : Nat) (A : Option Addr) (l : List El) : Prop := Reads w B 13 A l.length (ecells l) ∧ ∀ x ∈ l, x.Good w B
theorem EvsIn.st {S : Nat → Prop} {w w' : World} {B : Nat} {A : Option Addr} {l : List El} (h : EvsIn w B A l) (hs : St S w w') (hB : ∀ q, S q → B ≤ q) : EvsIn w' B A l :=
  ⟨Reads.st h.1 hs fun k hk hS => by have := hB k hS; omega, fun x hx => ⟨(h.2 x hx).1.st hs hB, (h.2 x hx).2.1, Reads.st (h.2 x hx).2.2.1 hs fun k hk hS => by have := hB k hS; omega, (h.2 x hx).2.2.2⟩⟩
theorem EvsIn.more {w : World} {B B' : Nat} {A : Option Addr} {l : List El} (h : EvsIn w B A l) (hB : B ≤ B') : EvsIn w B' A l := ⟨Reads.more h.1 hB, fun x hx => ⟨(h.2 x hx).1.more hB, (h.2 x hx).2.1, Reads.more (h.2 x hx).2.2.1 hB, (h.2 x hx).2.2.2⟩⟩
theorem EvsIn.at_ {w : World} {B : Nat} {A : Option Addr} {l : List El} (h : EvsIn w B A l) {k : Nat} (hk : k < l.length) :
    ∃ (x : El) (b off : Nat), l[k]? = some x ∧ A = some ⟨b, off, none⟩ ∧ b < B ∧ x.Good w B ∧
      (w.cell? ⟨b, off + k * 13, none⟩ = some (.int .i64 x.k) ∧ w.cell? ⟨b, off + k * 13 + 1, none⟩ = some (.int .i64 x.a) ∧ w.cell? ⟨b, off + k * 13 + 2, none⟩ = some (.int .i64 x.b) ∧ w.cell? ⟨b, off + k * 13 + 3, none⟩ = some (.int .i64 x.n) ∧
      w.cell? ⟨b, off + k * 13 + 4, none⟩ = some x.body ∧ w.cell? ⟨b, off + k * 13 + 5, none⟩ = some (.int .i64 x.c1) ∧ w.cell? ⟨b, off + k * 13 + 6, none⟩ = some (.int .i64 x.c2) ∧ w.cell? ⟨b, off + k * 13 + 7, none⟩ = some (.int .i64 x.c3) ∧ w.cell? ⟨b, off + k * 13 + 8, none⟩ = some (.int .i64 x.c4) ∧
      w.cell? ⟨b, off + k * 13 + 9, none⟩ = some (.string x.s1) ∧ w.cell? ⟨b, off + k * 13 + 10, none⟩ = some (.string x.s2) ∧ w.cell? ⟨b, off + k * 13 + 11, none⟩ = some (.string x.s3) ∧ w.cell? ⟨b, off + k * 13 + 12, none⟩ = some x.sides) := by
  obtain ⟨h0', hm⟩ := h
  obtain ⟨ad, e, hb, hc⟩ := h0'.2 (by omega)
  obtain ⟨x, hx⟩ : ∃ x, l[k]? = some x := ⟨_, List.getElem?_eq_getElem hk⟩
  have hmem : x ∈ l := List.mem_of_getElem? hx
  have c : ∀ (j : Nat), j < 13 → ∀ v, x.cells[j]? = some v → w.cell? (ad.add (k * 13 + j)) = some v := fun j hj v hv => hc _ _ ((ecells_at l k _ hx j hj).trans hv)
  obtain ⟨b, off, spot⟩ := ad
  have hs : spot = none := by
    have hx0 : l[0]? = some (l[0]'(by omega)) := List.getElem?_eq_getElem (by omega)
    have := World.cell?_spot (hc 0 _ ((ecells_at l 0 _ hx0 0 (by omega)).trans rfl))
    simpa [Addr.add] using this
  subst hs
  have ea : ∀ m, (⟨b, off, none⟩ : Addr).add m = ⟨b, off + m, none⟩ := fun m => by
    unfold Addr.add
    split
    · rename_i h0; subst h0; rfl
    · rfl
  simp only [ea] at c
  exact ⟨x, b, off, hx, e, hb, hm _ hmem, c 0 (by omega) _ rfl, c 1 (by omega) _ rfl, c 2 (by omega) _ rfl, c 3 (by omega) _ rfl, c 4 (by omega) _ rfl, c 5 (by omega) _ rfl, c 6 (by omega) _ rfl, c 7 (by omega) _ rfl, c 8 (by omega) _ rfl, c 9 (by omega) _ rfl, c 10 (by omega) _ rfl, c 11 (by omega) _ rfl, c 12 (by omega) _ rfl⟩

/-! ### What a script makes of a net -/
theorem Slow.net0 (n : Nat) : Slow n net0 := fun _ _ _ _ => ⟨by show (1 : Int) ≤ 1; omega, by show (1 : Int) ≤ 16; omega⟩
theorem Slow.play {n : Nat} {x : Net} (h : Slow n x) (k a b m : Int) (zs : List Int) : Slow n (playN n x k a b m zs) := by
  unfold playN
  split
  · split <;> exact h
  · split
    · split <;> exact h
    · split
      · split <;> exact h
      · split
        · split <;> exact h
        · split
          · split
            · rename_i hh
              intro p q hp hq
              show 1 ≤ up2 x.dly a.toNat b.toNat m p q ∧ up2 x.dly a.toNat b.toNat m p q ≤ 16
              unfold up2
              split
              · exact hh.2
              · exact h p q hp hq
            · exact h
          · split
            · unfold splitN
              split <;> exact h
            · exact h
/-- The net, from where on, the greatest delay. -/
structure Pst where
  x : Net
  t : Int
  d : Int
def stepP (n : Nat) (ins : Nat → Bool) (most : Int) (s : Pst) (i : Nat) (e : El) : Pst :=
  let x := playN n s.x e.k e.a e.b e.n e.zs
  let now := aloneN n x ins most
  if s.d = 0 ∨ touchN n ins e.k e.a = true ∨ now = 0 then ⟨x, (i : Int) + 1, now⟩ else ⟨x, s.t, max s.d now⟩
def runP (n : Nat) (ins : Nat → Bool) (most : Int) (l : List El) : Nat → Pst
  | 0 => ⟨net0, 0, aloneN n net0 ins most⟩
  | k + 1 => match l[k]? with
    | some e => stepP n ins most (runP n ins most l k) k e
    | none => runP n ins most l k
theorem runP_succ {n : Nat} {ins : Nat → Bool} {most : Int} {l : List El} {k : Nat} {e : El} (h : l[k]? = some e) : runP n ins most l (k + 1) = stepP n ins most (runP n ins most l k) k e := by
  rw [runP, h]
theorem aloneN_b {n : Nat} {x : Net} (hx : Slow n x) (ins : Nat → Bool) (most : Int) : 0 ≤ aloneN n x ins most ∧ aloneN n x ins most ≤ 16 := by
  unfold aloneN
  split
  · have h1 := most_ge n x ins n
    have h2 := most_le hx ins n (Nat.le_refl n)
    omega
  · omega
theorem runP_b (n : Nat) (ins : Nat → Bool) (most : Int) (l : List El) : ∀ k, Slow n (runP n ins most l k).x ∧ 0 ≤ (runP n ins most l k).t ∧ (runP n ins most l k).t ≤ k ∧ 0 ≤ (runP n ins most l k).d ∧ (runP n ins most l k).d ≤ 16
  | 0 => by
    have := aloneN_b (Slow.net0 n) ins most
    exact ⟨Slow.net0 n, Int.le_refl 0, Int.le_refl 0, this.1, this.2⟩
  | k + 1 => by
    obtain ⟨h1, h2, h3, h4, h5⟩ := runP_b n ins most l k
    rw [runP]
    cases l[k]? with
    | none => exact ⟨h1, h2, show (runP n ins most l k).t ≤ ((k + 1 : Nat) : Int) by omega, h4, h5⟩
    | some e =>
      have hx := h1.play e.k e.a e.b e.n e.zs
      have hb := aloneN_b hx ins most
      show Slow n (stepP n ins most (runP n ins most l k) k e).x ∧ _
      unfold stepP
      simp only []
      split
      · exact ⟨hx, by show (0 : Int) ≤ (k : Int) + 1; omega, by show (k : Int) + 1 ≤ ((k + 1 : Nat) : Int); omega, hb.1, hb.2⟩
      · exact ⟨hx, h2, by show (runP n ins most l k).t ≤ ((k + 1 : Nat) : Int); omega, by show 0 ≤ max _ _; omega, by show max _ _ ≤ _; omega⟩
/-- Is the list one of nodes, rising? -/
def SetOk (n : Nat) (set : List Int) : Prop := ∀ i, i < set.length → 0 ≤ nth set i ∧ nth set i < n ∧ (0 < i → nth set (i - 1) < nth set i)
/-- Who is among the first k. -/
def inK (set : List Int) (k : Nat) : Nat → Bool := fun q => (set.take k).contains (q : Int)
theorem inK_zero (set : List Int) : inK set 0 = fun _ => false := by funext q; simp [inK]
theorem inK_succ (set : List Int) (k : Nat) (i : Nat) (hk : k < set.length) (hi : nth set k = (i : Int)) : up1 (inK set k) i true = inK set (k + 1) := by
  funext q
  have e : set.take (k + 1) = set.take k ++ [(i : Int)] := by
    rw [List.take_add_one, List.getElem?_eq_getElem hk]
    have : set[k] = (i : Int) := by rw [← hi]; simp [nth, List.getD, hk]
    rw [this]
    rfl
  unfold up1 inK
  rw [e]
  by_cases h : q = i
  · subst h; simp
  · rw [if_neg h]
    have : ¬ (q : Int) = (i : Int) := by omega
    simp [this]
open Classical in
/-- What Premise answers: from where on, the delay, the error. -/
noncomputable def premP (c : Cfg) (set : List Int) (l : List El) : Int × Int × Int :=
  if c.err ≠ 0 then (0, 0, 22) else if 4000 < l.length then (0, 0, 25) else if set = [] ∨ 2305843009213693952 < c.floor then (0, 0, 1)
  else if ¬ SetOk c.nodes.toNat set then (0, 0, 1)
  else
    let s := runP c.nodes.toNat (inK set set.length) c.base l l.length
    if s.d = 0 then (0, 0, 180) else (s.t, s.d, 0)
end Go.Proofs.Ytkcjfiifajjpiaa
