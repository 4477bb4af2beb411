/-
  A mark in memory.
-/
import Derived.Test.YtenebkkfjalcaaaDoorCnt
set_option linter.unusedVariables false
set_option linter.unusedSimpArgs false
namespace Go.Proofs.YtenebkkfjalcaaaDoor
open Go.RowKit Go.WideShapes Go.ChangeShapes Q

def pidA (l : List (Int × Int × Int)) (k : Nat) : Int := (l.getD k (0, 0, 0)).1
def incA (l : List (Int × Int × Int)) (k : Nat) : Int := (l.getD k (0, 0, 0)).2.1
def cidA (l : List (Int × Int × Int)) (k : Nat) : Int := (l.getD k (0, 0, 0)).2.2
def sts (l : List (Int × Int × Int)) : List Value := l.flatMap fun s => [.int .i64 s.1, .int .i64 s.2.1, .int .i64 s.2.2]
def RS (w : World) (B : Nat) (A : Option Addr) (n : Nat) (l : List (Int × Int × Int)) : Prop := Reads w B 3 A n (sts l)
theorem sts_len (l : List (Int × Int × Int)) : (sts l).length = l.length * 3 := by
  induction l with
  | nil => rfl
  | cons a l ih => simp [sts] at ih ⊢; omega
theorem sts_at : ∀ (l : List (Int × Int × Int)) (k : Nat), k < l.length → (sts l)[k * 3]? = some (.int .i64 (pidA l k)) ∧ (sts l)[k * 3 + 1]? = some (.int .i64 (incA l k)) ∧ (sts l)[k * 3 + 2]? = some (.int .i64 (cidA l k))
  | [], k, h => absurd h (by simp)
  | a :: l, 0, h => by simp [sts, pidA, incA, cidA]
  | a :: l, k + 1, h => by
    have ih := sts_at l k (by simpa using h)
    have e : sts (a :: l) = [.int .i64 a.1, .int .i64 a.2.1, .int .i64 a.2.2] ++ sts l := rfl
    have f : ∀ j, (sts (a :: l))[(k + 1) * 3 + j]? = (sts l)[k * 3 + j]? := fun j => by
      rw [e, List.getElem?_append_right (by simp; omega)]
      congr 1
      simp; omega
    have f0 := f 0
    simp only [Nat.add_zero] at f0
    rw [f0, f 1, f 2]
    exact ih
theorem RS.len {w : World} {B n : Nat} {A : Option Addr} {l : List (Int × Int × Int)} (h : RS w B A n l) : l.length = n := by
  have := h.1
  rw [sts_len] at this
  omega
theorem RS.at_ {w : World} {B n k : Nat} {A : Option Addr} {l : List (Int × Int × Int)} (h : RS w B A n l) (hk : k < n) :
    ∃ b off, A = some ⟨b, off, none⟩ ∧ b < B ∧ w.cell? ⟨b, off + k * 3, none⟩ = some (.int .i64 (pidA l k)) ∧ w.cell? ⟨b, off + k * 3 + 1, none⟩ = some (.int .i64 (incA l k)) ∧ w.cell? ⟨b, off + k * 3 + 2, none⟩ = some (.int .i64 (cidA l k)) := by
  obtain ⟨ad, e, hb, hc⟩ := h.2 (by omega)
  have hl := h.len
  obtain ⟨h0, h1, h2⟩ := sts_at l k (by omega)
  have c0 := hc _ _ h0
  have c1 := hc _ _ h1
  have c2 := hc _ _ h2
  obtain ⟨b, off, spot⟩ := ad
  have hs : spot = none := by
    have := World.cell?_spot (hc 0 _ (sts_at l 0 (by omega)).1)
    simpa [Addr.add] using this
  subst hs
  have ea : ∀ m, (⟨b, off, none⟩ : Addr).add m = ⟨b, off + m, none⟩ := fun m => by
    unfold Addr.add
    split
    · rename_i h0; subst h0; rfl
    · rfl
  rw [ea] at c0 c1 c2
  exact ⟨b, off, e, hb, c0, c1, c2⟩
/-- Numbers of members, one behind the other. -/
def flat (l : List (Int × Int × Int)) : List Int := l.flatMap fun s => [s.1, s.2.1, s.2.2]

/-- A mark: its numbers and texts, and where its lists lie. -/
structure Mk where
  (aT kd nd ic ep ld ii ci : Int)
  Am : Option Addr
  (nm cm : Nat)
  ms : List (Int × Int × Int)
  At : Option Addr
  (nt ct : Nat)
  ts : List Int
  (se sq po n : Int)
  Ab : Option Addr
  (nb cb : Nat)
  bd : List UInt8
  (cl cn rq op : Int)
  (key val old : ByteArray)
  co : Int
  rv : ByteArray
  (rn er : Int)
def Mk.cs (m : Mk) : Array Value := #[.int .i64 m.aT, .int .i64 m.kd, .int .i64 m.nd, .int .i64 m.ic, .int .i64 m.ep, .int .i64 m.ld, .int .i64 m.ii, .int .i64 m.ci, .slice m.Am m.nm m.cm, .slice m.At m.nt m.ct,
  .int .i64 m.se, .int .i64 m.sq, .int .i64 m.po, .int .i64 m.n, .slice m.Ab m.nb m.cb, .int .i64 m.cl, .int .i64 m.cn, .int .i64 m.rq, .int .i64 m.op, .string m.key, .string m.val, .string m.old,
  .int .i64 m.co, .string m.rv, .int .i64 m.rn, .int .i64 m.er]
def Mk.v (m : Mk) : Value := .agg m.cs
/-- The numbers that must be counts, but those of the lists. -/
def Mk.ns (m : Mk) : List Int := [m.aT, m.nd, m.ic, m.ep, m.ld, m.ii, m.ci, m.se, m.sq, m.po, m.n, m.cl, m.cn, m.rq, m.op, m.co]
/-- Its lists lie below B. -/
structure MkIn (w : World) (B : Nat) (m : Mk) : Prop where
  mem : RS w B m.Am m.nm m.ms
  tr : RI w B m.At m.nt m.ts
  body : Reads w B 1 m.Ab m.nb (Lib.byteCells m.bd)
  hm : m.nm ≤ 10000000
  ht : m.nt ≤ 10000000
  hb : m.nb ≤ 100000000
theorem MkIn.below {w w' : World} {B : Nat} {m : Mk} (h : MkIn w B m) (hb : Below B w w') : MkIn w' B m := ⟨h.mem.below hb, Reads.below h.tr hb, h.body.below hb, h.hm, h.ht, h.hb⟩
theorem MkIn.more {w : World} {B B' : Nat} {m : Mk} (h : MkIn w B m) (hB : B ≤ B') : MkIn w B' m := ⟨h.mem.more hB, Reads.more h.tr hB, h.body.more hB, h.hm, h.ht, h.hb⟩
/-- Can it be written? -/
def wrB (m : Mk) : Bool := decide (1 ≤ m.kd ∧ m.kd ≤ 16 ∧ -4611686018427387904 ≤ m.rn ∧ m.rn ≤ 4611686018427387904 ∧ 0 ≤ m.er ∧ m.er ≤ 999) && cntB (flat m.ms) && cntB m.ns && cntB m.ts

end Go.Proofs.YtenebkkfjalcaaaDoor
