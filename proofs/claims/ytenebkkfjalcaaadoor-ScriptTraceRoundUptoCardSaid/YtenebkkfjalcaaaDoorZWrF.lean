/-
  Contracts of counted (program) and counts (reference): are all of them counts? A mark in memory. Writable, program and reference: a mark whose first numbers are none. (Printed by wip/tools/mkwr.py.)
-/
import Derived.Test.YtenebkkfjalcaaaDoorZPrt
set_option linter.unusedVariables false
set_option linter.unusedSimpArgs false
namespace Go.Proofs.YtenebkkfjalcaaaDoor
open Go.RowKit Go.WideShapes Go.ChangeShapes Q

def okC (x : Int) : Bool := decide (0 ≤ x ∧ x ≤ 4611686018427387904)
def cntB (xs : List Int) : Bool := xs.all okC
theorem cntB_no {xs : List Int} {k : Nat} (hk : k < xs.length) (h : okC (nth xs k) = false) : cntB xs = false := by
  unfold cntB
  rw [List.all_eq_false]
  refine ⟨xs[k], List.getElem_mem hk, ?_⟩
  have : nth xs k = xs[k] := by simp [nth, hk]
  rw [this] at h
  simp [h]
theorem cntB_yes {xs : List Int} (h : ∀ k, k < xs.length → okC (nth xs k) = true) : cntB xs = true := by
  unfold cntB
  rw [List.all_eq_true]
  intro x hx
  obtain ⟨k, hk, rfl⟩ := List.getElem_of_mem hx
  have := h k hk
  simpa [nth, hk] using this

set_option maxRecDepth 100000 in
theorem counted_any (A : Option Addr) (B n c : Nat) (xs : List Int) (w : World) (h : RI w B A n xs) (hn : n ≤ 17592186044416) :
    Calls Tryd.prog 29 #[.slice A n c] w fun e w' => e = .returned (.bool (cntB xs)) ∧ w = w' := by
  have HL := hide h.len
  have HR := hide h
  clear h
  go_enter Tryd.func29, Tryd.ntmps29
  go_upto_region 2 with fail
  go_loop [4, 7] (fun _ i => ∃ k : Nat, k ≤ n ∧ i = .int .i64 k ∧ Hid (∀ j, j < k → okC (nth xs j) = true)) (fun _ i => n - (intOf i).toNat)
  case atStart => exact ⟨0, Nat.zero_le _, rfl, fun j hj => absurd hj (by omega)⟩
  case round =>
    obtain ⟨k, hk, rfl, hok⟩ := hrel
    by_cases hlt : k < n
    · obtain ⟨ad, rfl, hab, hc⟩ := RI.at_ HR.out hlt
      obtain ⟨x, hx⟩ : ∃ x, x = nth xs k := ⟨_, rfl⟩
      rw [← hx] at hc
      have HX := hide hx
      have k0 : (0 : Int) ≤ (k : Int) := by omega
      have kn : (k : Int) < (n : Int) := by omega
      have hkl : k < xs.length := by have := HL.out; omega
      clear hx
      by_cases h1 : x < 0
      · have d1 : decide (x < 0) = true := decide_eq_true h1
        have HF : Hid (cntB xs = false) := cntB_no hkl (by rw [← HX.out]; exact decide_eq_false (by omega))
        go_wp2_with fail
        go_ret
        exact ⟨by rw [HF.out]; rfl, rfl⟩
      · have d1 : decide (x < 0) = false := decide_eq_false h1
        by_cases h2 : 4611686018427387904 < x
        · have d2 : decide (4611686018427387904 < x) = true := decide_eq_true h2
          have HF : Hid (cntB xs = false) := cntB_no hkl (by rw [← HX.out]; exact decide_eq_false (by omega))
          go_wp2_with fail
          go_ret
          exact ⟨by rw [HF.out]; rfl, rfl⟩
        · have d2 : decide (4611686018427387904 < x) = false := decide_eq_false h2
          have HOK : Hid (∀ j, j < k + 1 → okC (nth xs j) = true) := fun j hj => by
            by_cases e : j = k
            · subst e
              rw [← HX.out]
              exact decide_eq_true (by omega)
            · exact hok.out j (by omega)
          go_wp2_with fail
          go_round
          case rel => exact ⟨k + 1, by omega, by go_num, HOK⟩
          case measure => simp [intOf]; omega
    · have hkn : k = n := by omega
      have kn : ¬ (k : Int) < (n : Int) := by omega
      have HF : Hid (cntB xs = true) := cntB_yes fun j hj => hok.out j (by have := HL.out; omega)
      clear hlt
      go_wp2_with fail
      go_ret
      exact ⟨by rw [HF.out]; rfl, rfl⟩
set_option maxRecDepth 100000 in
theorem counts_any (A : Option Addr) (B n c : Nat) (xs : List Int) (w : World) (h : RI w B A n xs) (hn : n ≤ 17592186044416) :
    Calls Tryd.prog 27 #[.slice A n c] w fun e w' => e = .returned (.bool (cntB xs)) ∧ w = w' := by
  have HL := hide h.len
  have HR := hide h
  clear h
  go_enter Tryd.func27, Tryd.ntmps27
  go_upto_region 2 with fail
  go_loop [3] (fun i => ∃ k : Nat, k ≤ n ∧ i = .int .i64 k ∧ Hid (∀ j, j < k → okC (nth xs j) = true)) (fun i => n - (intOf i).toNat)
  case atStart => exact ⟨0, Nat.zero_le _, rfl, fun j hj => absurd hj (by omega)⟩
  case round =>
    obtain ⟨k, hk, rfl, hok⟩ := hrel
    by_cases hlt : k < n
    · obtain ⟨ad, rfl, hab, hc⟩ := RI.at_ HR.out hlt
      obtain ⟨x, hx⟩ : ∃ x, x = nth xs k := ⟨_, rfl⟩
      rw [← hx] at hc
      have HX := hide hx
      have k0 : (0 : Int) ≤ (k : Int) := by omega
      have kn : (k : Int) < (n : Int) := by omega
      have hkl : k < xs.length := by have := HL.out; omega
      clear hx
      by_cases h1 : x < 0
      · have d1 : decide (x < 0) = true := decide_eq_true h1
        have HF : Hid (cntB xs = false) := cntB_no hkl (by rw [← HX.out]; exact decide_eq_false (by omega))
        go_wp2_with fail
        go_ret
        exact ⟨by rw [HF.out]; rfl, rfl⟩
      · have d1 : decide (x < 0) = false := decide_eq_false h1
        by_cases h2 : 4611686018427387904 < x
        · have d2 : decide (4611686018427387904 < x) = true := decide_eq_true h2
          have HF : Hid (cntB xs = false) := cntB_no hkl (by rw [← HX.out]; exact decide_eq_false (by omega))
          go_wp2_with fail
          go_ret
          exact ⟨by rw [HF.out]; rfl, rfl⟩
        · have d2 : decide (4611686018427387904 < x) = false := decide_eq_false h2
          have HOK : Hid (∀ j, j < k + 1 → okC (nth xs j) = true) := fun j hj => by
            by_cases e : j = k
            · subst e
              rw [← HX.out]
              exact decide_eq_true (by omega)
            · exact hok.out j (by omega)
          go_wp2_with fail
          go_round
          case rel => exact ⟨k + 1, by omega, by go_num, HOK⟩
          case measure => simp [intOf]; omega
    · have hkn : k = n := by omega
      have kn : ¬ (k : Int) < (n : Int) := by omega
      have HF : Hid (cntB xs = true) := cntB_yes fun j hj => hok.out j (by have := HL.out; omega)
      clear hlt
      go_wp2_with fail
      go_ret
      exact ⟨by rw [HF.out]; rfl, rfl⟩
end Go.Proofs.YtenebkkfjalcaaaDoor
set_option linter.unusedVariables false
set_option linter.unusedSimpArgs false
namespace Go.Proofs.YtenebkkfjalcaaaDoor
open Go.RowKit Go.WideShapes Go.ChangeShapes Q

def pidA (l : List (Int × Int × Int)) (k : Nat) : Int := (l.getD k (0, 0, 0)).1
def incA (l : List (Int × Int × Int)) (k : Nat) : Int := (l.getD k (0, 0, 0)).2.1
def cidA (l : List (Int × Int × Int)) (k : Nat) : Int := (l.getD k (0, 0, 0)).2.2
def sts (l : List (Int × Int × Int)) : List Value := l.flatMap fun s => [.int .i64 s.1, .int .i64 s.2.1, .int .i64 s.2.2]
def RS (w : World) (B : Nat) (A : Option Addr) (n : Nat) (l : List (Int × Int × Int)) : Prop := Reads w B 3 A n (sts l)
theorem sts_len (l : List (Int × Int × Int)) : (sts l).length = l.length * 3 := by
  induction l with
  | nil => rfl
  | cons a l ih => simp [sts] at ih ⊢; omega
theorem sts_at : ∀ (l : List (Int × Int × Int)) (k : Nat), k < l.length → (sts l)[k * 3]? = some (.int .i64 (pidA l k)) ∧ (sts l)[k * 3 + 1]? = some (.int .i64 (incA l k)) ∧ (sts l)[k * 3 + 2]? = some (.int .i64 (cidA l k))
  | [], k, h => absurd h (by simp)
  | a :: l, 0, h => by simp [sts, pidA, incA, cidA]
  | a :: l, k + 1, h => by
    have ih := sts_at l k (by simpa using h)
    have e : sts (a :: l) = [.int .i64 a.1, .int .i64 a.2.1, .int .i64 a.2.2] ++ sts l := rfl
    have f : ∀ j, (sts (a :: l))[(k + 1) * 3 + j]? = (sts l)[k * 3 + j]? := fun j => by
      rw [e, List.getElem?_append_right (by simp; omega)]
      congr 1
      simp; omega
    have f0 := f 0
    simp only [Nat.add_zero] at f0
    rw [f0, f 1, f 2]
    exact ih
theorem RS.len {w : World} {B n : Nat} {A : Option Addr} {l : List (Int × Int × Int)} (h : RS w B A n l) : l.length = n := by
  have := h.1
  rw [sts_len] at this
  omega
theorem RS.at_ {w : World} {B n k : Nat} {A : Option Addr} {l : List (Int × Int × Int)} (h : RS w B A n l) (hk : k < n) :
    ∃ b off, A = some ⟨b, off, none⟩ ∧ b < B ∧ w.cell? ⟨b, off + k * 3, none⟩ = some (.int .i64 (pidA l k)) ∧ w.cell? ⟨b, off + k * 3 + 1, none⟩ = some (.int .i64 (incA l k)) ∧ w.cell? ⟨b, off + k * 3 + 2, none⟩ = some (.int .i64 (cidA l k)) := by
  obtain ⟨ad, e, hb, hc⟩ := h.2 (by omega)
  have hl := h.len
  obtain ⟨h0, h1, h2⟩ := sts_at l k (by omega)
  have c0 := hc _ _ h0
  have c1 := hc _ _ h1
  have c2 := hc _ _ h2
  obtain ⟨b, off, spot⟩ := ad
  have hs : spot = none := by
    have := World.cell?_spot (hc 0 _ (sts_at l 0 (by omega)).1)
    simpa [Addr.add] using this
  subst hs
  have ea : ∀ m, (⟨b, off, none⟩ : Addr).add m = ⟨b, off + m, none⟩ := fun m => by
    unfold Addr.add
    split
    · rename_i h0; subst h0; rfl
    · rfl
  rw [ea] at c0 c1 c2
  exact ⟨b, off, e, hb, c0, c1, c2⟩
/-- Numbers of members, one behind the other. -/
def flat (l : List (Int × Int × Int)) : List Int := l.flatMap fun s => [s.1, s.2.1, s.2.2]

/-- A mark: its numbers and texts, and where its lists lie. -/
structure Mk where
  (aT kd nd ic ep ld ii ci : Int)
  Am : Option Addr
  (nm cm : Nat)
  ms : List (Int × Int × Int)
  At : Option Addr
  (nt ct : Nat)
  ts : List Int
  (se sq po n : Int)
  Ab : Option Addr
  (nb cb : Nat)
  bd : List UInt8
  (cl cn rq op : Int)
  (key val old : ByteArray)
  co : Int
  rv : ByteArray
  (rn er : Int)
def Mk.cs (m : Mk) : Array Value := #[.int .i64 m.aT, .int .i64 m.kd, .int .i64 m.nd, .int .i64 m.ic, .int .i64 m.ep, .int .i64 m.ld, .int .i64 m.ii, .int .i64 m.ci, .slice m.Am m.nm m.cm, .slice m.At m.nt m.ct,
  .int .i64 m.se, .int .i64 m.sq, .int .i64 m.po, .int .i64 m.n, .slice m.Ab m.nb m.cb, .int .i64 m.cl, .int .i64 m.cn, .int .i64 m.rq, .int .i64 m.op, .string m.key, .string m.val, .string m.old,
  .int .i64 m.co, .string m.rv, .int .i64 m.rn, .int .i64 m.er]
def Mk.v (m : Mk) : Value := .agg m.cs
/-- The numbers that must be counts, but those of the lists. -/
def Mk.ns (m : Mk) : List Int := [m.aT, m.nd, m.ic, m.ep, m.ld, m.ii, m.ci, m.se, m.sq, m.po, m.n, m.cl, m.cn, m.rq, m.op, m.co]
/-- Its lists lie below B. -/
structure MkIn (w : World) (B : Nat) (m : Mk) : Prop where
  mem : RS w B m.Am m.nm m.ms
  tr : RI w B m.At m.nt m.ts
  body : Reads w B 1 m.Ab m.nb (Lib.byteCells m.bd)
  hm : m.nm ≤ 10000000
  ht : m.nt ≤ 10000000
  hb : m.nb ≤ 100000000
theorem MkIn.below {w w' : World} {B : Nat} {m : Mk} (h : MkIn w B m) (hb : Below B w w') : MkIn w' B m := ⟨h.mem.below hb, Reads.below h.tr hb, h.body.below hb, h.hm, h.ht, h.hb⟩
theorem MkIn.more {w : World} {B B' : Nat} {m : Mk} (h : MkIn w B m) (hB : B ≤ B') : MkIn w B' m := ⟨h.mem.more hB, Reads.more h.tr hB, h.body.more hB, h.hm, h.ht, h.hb⟩
/-- Can it be written? -/
def wrB (m : Mk) : Bool := decide (1 ≤ m.kd ∧ m.kd ≤ 16 ∧ -4611686018427387904 ≤ m.rn ∧ m.rn ≤ 4611686018427387904 ∧ 0 ≤ m.er ∧ m.er ≤ 999) && cntB (flat m.ms) && cntB m.ns && cntB m.ts

end Go.Proofs.YtenebkkfjalcaaaDoor
set_option linter.unusedVariables false
set_option linter.unusedSimpArgs false
namespace Go.Proofs.YtenebkkfjalcaaaDoor
open Go.RowKit Go.WideShapes Go.ChangeShapes Q

set_option maxRecDepth 100000 in
set_option maxHeartbeats 2000000 in
theorem wr_first (m : Mk) (w : World) (h : ¬ (1 ≤ m.kd ∧ m.kd ≤ 16 ∧ -4611686018427387904 ≤ m.rn ∧ m.rn ≤ 4611686018427387904 ∧ 0 ≤ m.er ∧ m.er ≤ 999)) :
    Calls Tryd.prog 16 #[m.v] w fun e w' => e = .returned (.bool (wrB m)) ∧ Below w.heap.size w w' := by
  have HF : Hid (wrB m = false) := by
    show _ = _
    unfold wrB
    rw [decide_eq_false h]
    rfl
  have HH := hide h
  obtain ⟨aT, kd, nd, ic, ep, ld, ii, ci, Am, nm, cm, ms, At, nt, ct, ts, se, sq, po, n, Ab, nb, cb, bd, cl, cn, rq, op, key, val, old, co, rv, rn, er⟩ := m
  simp only [Mk.v, Mk.cs] at HH ⊢
  clear h
  by_cases d0 : kd < 1
  · have e0 : decide (kd < 1) = true := decide_eq_true d0
    go_enter Tryd.func16, Tryd.ntmps16
    go_wp2_with fail
    go_ret
    exact ⟨by rw [HF.out]; rfl, (Below.refl _ _).alloc (Nat.le_refl _) _⟩
  have e0 : decide (kd < 1) = false := decide_eq_false d0
  by_cases d1 : 17 ≤ kd
  · have e1 : decide (17 ≤ kd) = true := decide_eq_true d1
    go_enter Tryd.func16, Tryd.ntmps16
    go_wp2_with fail
    go_ret
    exact ⟨by rw [HF.out]; rfl, (Below.refl _ _).alloc (Nat.le_refl _) _⟩
  have e1 : decide (17 ≤ kd) = false := decide_eq_false d1
  by_cases d2 : rn < -4611686018427387904
  · have e2 : decide (rn < -4611686018427387904) = true := decide_eq_true d2
    go_enter Tryd.func16, Tryd.ntmps16
    go_wp2_with fail
    go_ret
    exact ⟨by rw [HF.out]; rfl, (Below.refl _ _).alloc (Nat.le_refl _) _⟩
  have e2 : decide (rn < -4611686018427387904) = false := decide_eq_false d2
  by_cases d3 : 4611686018427387904 < rn
  · have e3 : decide (4611686018427387904 < rn) = true := decide_eq_true d3
    go_enter Tryd.func16, Tryd.ntmps16
    go_wp2_with fail
    go_ret
    exact ⟨by rw [HF.out]; rfl, (Below.refl _ _).alloc (Nat.le_refl _) _⟩
  have e3 : decide (4611686018427387904 < rn) = false := decide_eq_false d3
  by_cases d4 : er < 0
  · have e4 : decide (er < 0) = true := decide_eq_true d4
    go_enter Tryd.func16, Tryd.ntmps16
    go_wp2_with fail
    go_ret
    exact ⟨by rw [HF.out]; rfl, (Below.refl _ _).alloc (Nat.le_refl _) _⟩
  have e4 : decide (er < 0) = false := decide_eq_false d4
  by_cases d5 : 999 < er
  · have e5 : decide (999 < er) = true := decide_eq_true d5
    go_enter Tryd.func16, Tryd.ntmps16
    go_wp2_with fail
    go_ret
    exact ⟨by rw [HF.out]; rfl, (Below.refl _ _).alloc (Nat.le_refl _) _⟩
  have e5 : decide (999 < er) = false := decide_eq_false d5
  exact absurd (show 1 ≤ kd ∧ kd ≤ 16 ∧ -4611686018427387904 ≤ rn ∧ rn ≤ 4611686018427387904 ∧ 0 ≤ er ∧ er ≤ 999 by omega) HH.out

set_option maxRecDepth 100000 in
set_option maxHeartbeats 2000000 in
theorem rwr_first (m : Mk) (w : World) (h : ¬ (1 ≤ m.kd ∧ m.kd ≤ 16 ∧ -4611686018427387904 ≤ m.rn ∧ m.rn ≤ 4611686018427387904 ∧ 0 ≤ m.er ∧ m.er ≤ 999)) :
    Calls Tryd.prog 14 #[m.v] w fun e w' => e = .returned (.bool (wrB m)) ∧ Below w.heap.size w w' := by
  have HF : Hid (wrB m = false) := by
    show _ = _
    unfold wrB
    rw [decide_eq_false h]
    rfl
  have HH := hide h
  obtain ⟨aT, kd, nd, ic, ep, ld, ii, ci, Am, nm, cm, ms, At, nt, ct, ts, se, sq, po, n, Ab, nb, cb, bd, cl, cn, rq, op, key, val, old, co, rv, rn, er⟩ := m
  simp only [Mk.v, Mk.cs] at HH ⊢
  clear h
  by_cases d0 : kd < 1
  · have e0 : decide (kd < 1) = true := decide_eq_true d0
    go_enter Tryd.func14, Tryd.ntmps14
    go_wp2_with fail
    go_ret
    exact ⟨by rw [HF.out]; rfl, (Below.refl _ _).alloc (Nat.le_refl _) _⟩
  have e0 : decide (kd < 1) = false := decide_eq_false d0
  by_cases d1 : 16 < kd
  · have e1 : decide (16 < kd) = true := decide_eq_true d1
    go_enter Tryd.func14, Tryd.ntmps14
    go_wp2_with fail
    go_ret
    exact ⟨by rw [HF.out]; rfl, (Below.refl _ _).alloc (Nat.le_refl _) _⟩
  have e1 : decide (16 < kd) = false := decide_eq_false d1
  by_cases d2 : rn < -4611686018427387904
  · have e2 : decide (rn < -4611686018427387904) = true := decide_eq_true d2
    go_enter Tryd.func14, Tryd.ntmps14
    go_wp2_with fail
    go_ret
    exact ⟨by rw [HF.out]; rfl, (Below.refl _ _).alloc (Nat.le_refl _) _⟩
  have e2 : decide (rn < -4611686018427387904) = false := decide_eq_false d2
  by_cases d3 : 4611686018427387904 < rn
  · have e3 : decide (4611686018427387904 < rn) = true := decide_eq_true d3
    go_enter Tryd.func14, Tryd.ntmps14
    go_wp2_with fail
    go_ret
    exact ⟨by rw [HF.out]; rfl, (Below.refl _ _).alloc (Nat.le_refl _) _⟩
  have e3 : decide (4611686018427387904 < rn) = false := decide_eq_false d3
  by_cases d4 : er < 0
  · have e4 : decide (er < 0) = true := decide_eq_true d4
    go_enter Tryd.func14, Tryd.ntmps14
    go_wp2_with fail
    go_ret
    exact ⟨by rw [HF.out]; rfl, (Below.refl _ _).alloc (Nat.le_refl _) _⟩
  have e4 : decide (er < 0) = false := decide_eq_false d4
  by_cases d5 : 999 < er
  · have e5 : decide (999 < er) = true := decide_eq_true d5
    go_enter Tryd.func14, Tryd.ntmps14
    go_wp2_with fail
    go_ret
    exact ⟨by rw [HF.out]; rfl, (Below.refl _ _).alloc (Nat.le_refl _) _⟩
  have e5 : decide (999 < er) = false := decide_eq_false d5
  exact absurd (show 1 ≤ kd ∧ kd ≤ 16 ∧ -4611686018427387904 ≤ rn ∧ rn ≤ 4611686018427387904 ∧ 0 ≤ er ∧ er ≤ 999 by omega) HH.out
end Go.Proofs.YtenebkkfjalcaaaDoor
