/-
  A script's acts as they came in; a run of acts (plain).
-/
import Derived.Test.YtkkckinnhkpcmaaW26
import Derived.Test.YtkkckinnhkpcmaaW35
import Derived.Test.YtkkckinnhkpcmaaStart
set_option linter.unusedVariables false
set_option linter.unusedSimpArgs false
namespace Go.Proofs.Ytkkckinnhkpcmaa
open Go.RowKit Go.WideShapes Go.ChangeShapes Q

/-- An act with the place of its piece. -/
structure Ai where
  a : Ac
  A : Option Addr
  c : Nat
def Ai.cells (x : Ai) : List Value := [.int .i64 x.a.side, .int .i64 x.a.kind, .int .i64 x.a.n, .slice x.A x.a.bs.length x.c]
/-- What is known of an act that came in. -/
structure Ai.Good (w : World) (x : Ai) : Prop where
  body : Reads w w.heap.size 1 x.A x.a.bs.length (byts x.a.bs)
  cap : x.a.bs.length ≤ x.c
  fits : x.c ≤ 140737488351232
  s0 : -9223372036854775808 ≤ x.a.side
  s1 : x.a.side ≤ 9223372036854775807
  n0 : -9223372036854775808 ≤ x.a.n
  n1 : x.a.n ≤ 9223372036854775807
def acells (l : List Ai) : List Value := l.flatMap Ai.cells
/-- The acts, as they came in. -/
def ActsIn (w : World) (A : Option Addr) (l : List Ai) : Prop := Reads w w.heap.size 4 A l.length (acells l) ∧ ∀ x ∈ l, x.Good w
theorem acells_len (l : List Ai) : (acells l).length = l.length * 4 := by
  induction l with
  | nil => rfl
  | cons a r ih => simp [acells, Ai.cells] at ih ⊢; omega
theorem acells_at : ∀ (l : List Ai) (k : Nat) (x : Ai), l[k]? = some x → ∀ j, j < 4 → (acells l)[k * 4 + j]? = x.cells[j]?
  | [], k, x, h, j, _ => by simp at h
  | a :: l, 0, x, h, j, hj => by
    simp at h
    subst h
    have e : acells (a :: l) = a.cells ++ acells l := rfl
    rw [e, List.getElem?_append_left (by simp [Ai.cells]; omega)]
    simp
  | a :: l, k + 1, x, h, j, hj => by
    simp at h
    have e : acells (a :: l) = a.cells ++ acells l := rfl
    have hl : a.cells.length = 4 := rfl
    rw [e, List.getElem?_append_right (by omega), hl, show (k + 1) * 4 + j - 4 = k * 4 + j by omega]
    exact acells_at l k x h j hj
theorem Reads.st {S : Nat → Prop} {w w' : World} {B size n : Nat} {A : Option Addr} {xs : List Value} (h : Reads w B size A n xs) (hs : St (fun _ => False) w w') : Reads w' B size A n xs := h.only hs.only (fun _ _ e => e)
theorem Ai.Good.st {w w' : World} {x : Ai} (h : x.Good w) (hs : St (fun _ => False) w w') : x.Good w' :=
  ⟨(h.body.only hs.only (fun _ _ e => e)).more hs.size, h.cap, h.fits, h.s0, h.s1, h.n0, h.n1⟩
theorem ActsIn.st {w w' : World} {A : Option Addr} {l : List Ai} (h : ActsIn w A l) (hs : St (fun _ => False) w w') : ActsIn w' A l :=
  ⟨(h.1.only hs.only (fun _ _ e => e)).more hs.size, fun x hx => (h.2 x hx).st hs⟩
theorem ActsIn.at_ {w : World} {A : Option Addr} {l : List Ai} (h : ActsIn w A l) {k : Nat} (hk : k < l.length) :
    ∃ (x : Ai) (b off : Nat), l[k]? = some x ∧ A = some ⟨b, off, none⟩ ∧ b < w.heap.size ∧ w.cell? ⟨b, off + k * 4, none⟩ = some (.int .i64 x.a.side) ∧ w.cell? ⟨b, off + k * 4 + 1, none⟩ = some (.int .i64 x.a.kind) ∧ w.cell? ⟨b, off + k * 4 + 2, none⟩ = some (.int .i64 x.a.n) ∧
      w.cell? ⟨b, off + k * 4 + 3, none⟩ = some (.slice x.A x.a.bs.length x.c) ∧ x.Good w := by
  obtain ⟨h0', hm⟩ := h
  obtain ⟨ad, e, hb, hc⟩ := h0'.2 (by omega)
  have hx : l[k]? = some l[k] := List.getElem?_eq_getElem hk
  have c0 := hc _ _ ((acells_at l k _ hx 0 (by omega)).trans rfl)
  have c1 := hc _ _ ((acells_at l k _ hx 1 (by omega)).trans rfl)
  have c2 := hc _ _ ((acells_at l k _ hx 2 (by omega)).trans rfl)
  have c3 := hc _ _ ((acells_at l k _ hx 3 (by omega)).trans rfl)
  obtain ⟨b, off, spot⟩ := ad
  have hs : spot = none := by
    have hx0 : l[0]? = some (l[0]'(by omega)) := List.getElem?_eq_getElem (by omega)
    have := World.cell?_spot (hc 0 _ ((acells_at l 0 _ hx0 0 (by omega)).trans rfl))
    simpa [Addr.add] using this
  subst hs
  have ea : ∀ m, (⟨b, off, none⟩ : Addr).add m = ⟨b, off + m, none⟩ := fun m => by
    unfold Addr.add
    split
    · rename_i h0; subst h0; rfl
    · rfl
  rw [ea] at c0 c1 c2 c3
  exact ⟨l[k], b, off, hx, e, hb, c0, c1, c2, c3, hm _ (List.getElem_mem hk)⟩

/-- A run of acts. -/
def runS (W Sp : Nat) (l : List Ai) : Wr := l.foldl (fun x a => actS W Sp x a.a) (wr0 W)
theorem runS_snoc (W Sp : Nat) (l : List Ai) (k : Nat) (x : Ai) (h : l[k]? = some x) : runS W Sp (l.take (k + 1)) = actS W Sp (runS W Sp (l.take k)) x.a := by
  unfold runS
  rw [List.take_add_one, h, List.foldl_append]
  rfl
theorem Inv.run {W Sp : Nat} (hW : 1 ≤ W) (hW5 : W ≤ 5) (l : List Ai) : ∀ k, Inv W Sp k (runS W Sp (l.take k))
  | 0 => by simpa [runS] using Inv.zero hW
  | k + 1 => by
    have ih := Inv.run (Sp := Sp) hW hW5 l k
    cases h : l[k]? with
    | none =>
      have hl : l.length ≤ k := List.getElem?_eq_none_iff.1 h
      rw [List.take_of_length_le (by omega)] at ih ⊢
      exact ih.more
    | some x =>
      rw [runS_snoc W Sp l k x h]
      exact ih.act hW5 x.a
/-- A wire that the call has made. -/
def Made (w : World) (wb W Sp : Nat) (x : Wr) (wr : World) : Prop := ∃ o g, WireAt wr o wb W Sp g x ∧ St (fun _ => False) w wr ∧ OwnX w.heap.size o g
theorem Made.step {w wr w' : World} {wb W Sp : Nat} {x y : Wr} {o : Nat → Nat} {g : Gw} (h1 : St (fun _ => False) w wr) (h2 : OwnX w.heap.size o g) (h : WStep wr o wb W Sp g y w') : Made w wb W Sp y w' := by
  obtain ⟨o', g', a, b, c, _, eX, _⟩ := h
  refine ⟨o', g', a, h1.trans' b fun q hq hn => hn (h2.own q hq), fun q hq => (c q (Nat.lt_of_lt_of_le hq h1.size)).trans (h2.own q hq), fun s hs => ?_⟩
  rw [eX]
  exact h2.self s hs
theorem Made.quiet {w wr w' : World} {wb W Sp : Nat} {x : Wr} (h : Made w wb W Sp x wr) (hs : St (fun _ => False) wr w') : Made w wb W Sp x w' := by
  obtain ⟨o, g, a, b, c⟩ := h
  exact ⟨o, g, a.quiet hs, b.trans hs, c⟩
/-- An act of a script that came in. -/
theorem Made.act {w wr : World} {wb W Sp n : Nat} {x : Wr} (h : Made w wb W Sp x wr) (hI : Inv W Sp n x) (hn : n < 5000) (hW5 : W ≤ 5) {a : Ai} (hg : a.Good w) :
    Calls Try.prog 26 #[.pointer (some ⟨wb, 0, none⟩), .agg #[.int .i64 a.a.side, .int .i64 a.a.kind, .int .i64 a.a.n, .slice a.A a.a.bs.length a.c]] wr fun e w' => e = .returned (.bool true) ∧ Made w wb W Sp (actS W Sp x a.a) w' := by
  obtain ⟨o, g, hA, hst, ho⟩ := h
  have hg' := hg.st hst
  refine (wact wr o wb W Sp n g x a.a a.A a.c hA hI hn hW5 hg'.s0 hg'.s1 hg'.n0 hg'.n1 hg'.body hg'.cap hg'.fits fun hp ad e => ?_).mono fun e w' hh => ⟨hh.1, Made.step (x := x) hst ho hh.2⟩
  obtain ⟨ad', e', hb', _⟩ := hg.body.2 hp
  rw [e] at e'
  injection e' with e'
  subst e'
  exact ho.own _ hb'
theorem Made.sound {w wr : World} {wb W Sp n : Nat} {x : Wr} (h : Made w wb W Sp x wr) (hI : Inv W Sp n x) (hn : n ≤ 5000) : Calls Try.prog 35 #[.pointer (some ⟨wb, 0, none⟩)] wr fun e w' => e = .returned (.bool true) ∧ Made w wb W Sp x w' := by
  obtain ⟨o, g, hA, hst, ho⟩ := h
  refine (wsound wr o wb W Sp n g x hA hI hn).mono ?_
  rintro e w' ⟨rfl, m, rfl⟩
  exact ⟨rfl, Made.quiet ⟨o, g, hA, hst, ho⟩ ((St.refl _ wr).drewN m)⟩
end Go.Proofs.Ytkkckinnhkpcmaa
