/-
  Contracts of Best (program, reference) on lists of standings.
-/
import Derived.Test.YteckffndboiknaaQuorate
import Derived.Test.YteckffndboiknaaPlainB
import Derived.Deep.DrawnRows
set_option linter.unusedVariables false
namespace Go.Proofs.Yteckffndboiknaa
open Go.RowKit Go.WideShapes Go.ChangeShapes Q
attribute [local go_sem ↓] Go.wp_at_zero Go.wp_at_succ

def sts (l : List (Int × Int × Int)) : List Value := l.flatMap fun s => [.int .i64 s.1, .int .i64 s.2.1, .int .i64 s.2.2]
def RS (w : World) (B : Nat) (A : Option Addr) (n : Nat) (l : List (Int × Int × Int)) : Prop := Reads w B 3 A n (sts l)
theorem sts_len (l : List (Int × Int × Int)) : (sts l).length = l.length * 3 := by
  induction l with
  | nil => rfl
  | cons a l ih => simp [sts] at ih ⊢; omega
theorem sts_at : ∀ (l : List (Int × Int × Int)) (k : Nat), k < l.length → (sts l)[k * 3]? = some (.int .i64 (pidA l k)) ∧ (sts l)[k * 3 + 1]? = some (.int .i64 (epA l k)) ∧ (sts l)[k * 3 + 2]? = some (.int .i64 (lenA l k))
  | [], k, h => absurd h (by simp)
  | a :: l, 0, h => by simp [sts, pidA, epA, lenA]
  | a :: l, k + 1, h => by
    have ih := sts_at l k (by simpa using h)
    have e : sts (a :: l) = [.int .i64 a.1, .int .i64 a.2.1, .int .i64 a.2.2] ++ sts l := rfl
    have f : ∀ j, (sts (a :: l))[(k + 1) * 3 + j]? = (sts l)[k * 3 + j]? := fun j => by
      rw [e, List.getElem?_append_right (by simp; omega)]
      congr 1
      simp; omega
    have f0 := f 0
    simp only [Nat.add_zero] at f0
    rw [f0, f 1, f 2]
    exact ih
theorem RS.len {w : World} {B n : Nat} {A : Option Addr} {l : List (Int × Int × Int)} (h : RS w B A n l) : l.length = n := by
  have := h.1
  rw [sts_len] at this
  omega
theorem RS.at_ {w : World} {B n k : Nat} {A : Option Addr} {l : List (Int × Int × Int)} (h : RS w B A n l) (hk : k < n) :
    ∃ b off, A = some ⟨b, off, none⟩ ∧ b < B ∧ w.cell? ⟨b, off + k * 3, none⟩ = some (.int .i64 (pidA l k)) ∧ w.cell? ⟨b, off + k * 3 + 1, none⟩ = some (.int .i64 (epA l k)) ∧ w.cell? ⟨b, off + k * 3 + 2, none⟩ = some (.int .i64 (lenA l k)) := by
  obtain ⟨ad, e, hb, hc⟩ := h.2 (by omega)
  have hl := h.len
  obtain ⟨h0, h1, h2⟩ := sts_at l k (by omega)
  have c0 := hc _ _ h0
  have c1 := hc _ _ h1
  have c2 := hc _ _ h2
  obtain ⟨b, off, spot⟩ := ad
  have hs : spot = none := by
    have := World.cell?_spot (hc 0 _ (sts_at l 0 (by omega)).1)
    simpa [Addr.add] using this
  subst hs
  have ea : ∀ m, (⟨b, off, none⟩ : Addr).add m = ⟨b, off + m, none⟩ := fun m => by
    unfold Addr.add
    split
    · rename_i h0; subst h0; rfl
    · rfl
  rw [ea] at c0 c1 c2
  exact ⟨b, off, e, hb, c0, c1, c2⟩

theorem further_any (a1 a2 a3 b1 b2 b3 : Int) (w : World) :
    Calls Try.prog 41 #[.agg #[.int .i64 a1, .int .i64 a2, .int .i64 a3], .agg #[.int .i64 b1, .int .i64 b2, .int .i64 b3]] w fun e w' => e = .returned (.bool (furB a1 a2 a3 b1 b2 b3)) ∧ Below w.heap.size w w' := by
  by_cases h2 : a2 = b2
  · subst h2
    have n2 : (a2 != a2) = false := by simp
    by_cases h3 : a3 = b3
    · subst h3
      have n3 : (a3 != a3) = false := by simp
      have HF : Hid (furB a1 a2 a3 b1 a2 a3 = decide (a1 < b1)) := by show _ = _; simp [furB]
      go_enter Try.func41, Try.ntmps41
      go_wp2
      go_ret
      exact ⟨ret_bool HF.out.symm, ((Below.refl _ _).alloc (Nat.le_refl _) _).alloc (by simp) _⟩
    · have n3 : (a3 != b3) = true := by simp [h3]
      have HF : Hid (furB a1 a2 a3 b1 a2 b3 = decide (b3 < a3)) := by show _ = _; simp [furB, h3]
      clear h3
      go_enter Try.func41, Try.ntmps41
      go_wp2
      go_ret
      exact ⟨ret_bool HF.out.symm, ((Below.refl _ _).alloc (Nat.le_refl _) _).alloc (by simp) _⟩
  · have n2 : (a2 != b2) = true := by simp [h2]
    have HF : Hid (furB a1 a2 a3 b1 b2 b3 = decide (b2 < a2)) := by show _ = _; simp [furB, h2]
    clear h2
    go_enter Try.func41, Try.ntmps41
    go_wp2
    go_ret
    exact ⟨ret_bool HF.out.symm, ((Below.refl _ _).alloc (Nat.le_refl _) _).alloc (by simp) _⟩

theorem refFurther_any (a1 a2 a3 b1 b2 b3 : Int) (w : World) :
    Calls Try.prog 42 #[.agg #[.int .i64 a1, .int .i64 a2, .int .i64 a3], .agg #[.int .i64 b1, .int .i64 b2, .int .i64 b3]] w fun e w' => e = .returned (.bool (furB a1 a2 a3 b1 b2 b3)) ∧ Below w.heap.size w w' := by
  by_cases h2 : a2 = b2
  · subst h2
    have n2 : (a2 != a2) = false := by simp
    by_cases h3 : a3 = b3
    · subst h3
      have n3 : (a3 != a3) = false := by simp
      have HF : Hid (furB a1 a2 a3 b1 a2 a3 = decide (a1 < b1)) := by show _ = _; simp [furB]
      go_enter Try.func42, Try.ntmps42
      go_wp2
      go_ret
      exact ⟨ret_bool HF.out.symm, ((Below.refl _ _).alloc (Nat.le_refl _) _).alloc (by simp) _⟩
    · have n3 : (a3 != b3) = true := by simp [h3]
      have HF : Hid (furB a1 a2 a3 b1 a2 b3 = decide (b3 < a3)) := by show _ = _; simp [furB, h3]
      clear h3
      go_enter Try.func42, Try.ntmps42
      go_wp2
      go_ret
      exact ⟨ret_bool HF.out.symm, ((Below.refl _ _).alloc (Nat.le_refl _) _).alloc (by simp) _⟩
  · have n2 : (a2 != b2) = true := by simp [h2]
    have HF : Hid (furB a1 a2 a3 b1 b2 b3 = decide (b2 < a2)) := by show _ = _; simp [furB, h2]
    clear h2
    go_enter Try.func42, Try.ntmps42
    go_wp2
    go_ret
    exact ⟨ret_bool HF.out.symm, ((Below.refl _ _).alloc (Nat.le_refl _) _).alloc (by simp) _⟩

theorem best_len (A : Option Addr) (n c : Nat) (w : World) (hn : n < 1 ∨ 16 < n) (hm : n ≤ 17592186044416) :
    Calls Try.prog 15 #[.slice A n c] w fun e w' => e = .returned (.tuple #[.int .i64 0, .int .i64 1]) ∧ w = w' := by
  rcases hn with hn | hn
  · go_enter Try.func15, Try.ntmps15
    go_wp2
    go_ret2
    exact ⟨rfl, rfl⟩
  · have h1 : ¬ n < 1 := by omega
    go_enter Try.func15, Try.ntmps15
    go_wp2
    go_ret2
    exact ⟨rfl, rfl⟩

theorem blk3 {w : World} {g : Nat} {t : TypeId} {a b c : Value} (h : Blk w g t #[a, b, c]) : w.cell? ⟨g, 0, none⟩ = some a ∧ w.cell? ⟨g, 1, none⟩ = some b ∧ w.cell? ⟨g, 2, none⟩ = some c := by
  refine ⟨?_, ?_, ?_⟩ <;> rw [h.cell] <;> rfl
/-- The marks of the nodes that have been seen. -/
def Marks (l : List (Int × Int × Int)) (k : Nat) (C : Array Value) : Prop := C.size = 16 ∧ ∀ p : Nat, p < 16 → C[p]? = some (.bool (seenTo l p k))
theorem Marks.next {l : List (Int × Int × Int)} {k : Nat} {C : Array Value} {p : Nat} (h : Marks l k C) (hp : pidA l k = p) (hp16 : p < 16) : Marks l (k + 1) (C.setIfInBounds p (.bool true)) := by
  refine ⟨by simp [h.1], fun q hq => ?_⟩
  rw [seenTo, hp]
  by_cases e : q = p
  · subst e
    rw [Array.getElem?_setIfInBounds_self_of_lt (by rw [h.1]; exact hq)]
    simp
  · rw [Array.getElem?_setIfInBounds_ne (by omega), h.2 q hq]
    have : ¬ ((p : Int) = q) := by omega
    simp [this]

set_option maxRecDepth 100000 in
set_option maxHeartbeats 4000000 in
theorem best_in (A : Option Addr) (n c : Nat) (l : List (Int × Int × Int)) (w : World) (h : RS w w.heap.size A n l) (h1 : 1 ≤ n) (h16 : n ≤ 16) :
    Calls Try.prog 15 #[.slice A n c] w fun e w' => e = .returned (.tuple #[.int .i64 (bestI l : Nat), .int .i64 (bestE l)]) ∧ Below w.heap.size w w' := by
  have hl := h.len
  subst hl
  have d1 : decide ((l.length : Int) < 1) = false := by rw [decide_eq_false_iff_not]; omega
  have d2 : decide ((16 : Int) < l.length) = false := by rw [decide_eq_false_iff_not]; omega
  go_enter Try.func15, Try.ntmps15
  go_wp2
  go_loopw [5, 18] (fun bt i wr => ∃ (k : Nat) (C : Array Value), k ≤ l.length ∧ i = .int .i64 k ∧ bt = .int .i64 (bestTo l k : Nat) ∧ Below w.heap.size w wr ∧ Blk wr w.heap.size 84 C ∧ Hid (Marks l k C) ∧ Hid (Q.Good l k)) (fun _ i _ => l.length - (intOf i).toNat)
  case atStart =>
    refine ⟨0, _, by omega, rfl, rfl, (Below.refl _ _).alloc (Nat.le_refl _) _, Blk.new _ _ _, ⟨rfl, fun p hp => ?_⟩, Q.Good.zero l⟩
    show (Array.replicate 16 (Value.bool false))[p]? = _
    simp [hp, seenTo]
  case round =>
    obtain ⟨k, C, hk, rfl, rfl, hb, hC, hM, hG⟩ := hrel
    have hws := hC.lt
    by_cases hlt : k < l.length
    · obtain ⟨b, off, rfl, hab, q0, q1, q2⟩ := h.at_ hlt
      have q0 := (hb.cell (p := ⟨b, off + k * 3, none⟩) hab).trans q0
      have q1 := (hb.cell (p := ⟨b, off + k * 3 + 1, none⟩) hab).trans q1
      have q2 := (hb.cell (p := ⟨b, off + k * 3 + 2, none⟩) hab).trans q2
      have HX : Hid (∀ (X : Obj), Below w.heap.size w (wr.alloc X)) := fun X => hb.alloc (by omega) X
      obtain ⟨P, hP⟩ : ∃ P, P = pidA l k := ⟨_, rfl⟩
      obtain ⟨E, hE⟩ : ∃ E, E = epA l k := ⟨_, rfl⟩
      obtain ⟨L, hL⟩ : ∃ L, L = lenA l k := ⟨_, rfl⟩
      rw [← hP] at q0
      rw [← hE] at q1
      rw [← hL] at q2
      have HB : Hid (¬ ((0 ≤ P ∧ P < 16) ∧ (0 ≤ E ∧ E ≤ 4611686018427387904) ∧ (0 ≤ L ∧ L ≤ 4611686018427387904)) ∨ seenTo l P k = true → bestE l = 1 ∧ bestI l = 0) := fun hh => best_bad (bad_at hlt (by
        rcases hh with hh | hh
        · left; unfold Fit; rw [← hP, ← hE, ← hL]; exact hh
        · right; rw [← hP]; exact hh))
      have HPEL : Hid (P = pidA l k ∧ E = epA l k ∧ L = lenA l k) := ⟨hP, hE, hL⟩
      clear hP hE hL
      by_cases x1 : P < 0
      · have he := hide (HB.out (.inl (fun q => by omega)))
        go_wp2
        go_ret2
        exact ⟨ret2_ (vint (by rw [he.out.2]; rfl)) (vint he.out.1.symm), HX.out _⟩
      by_cases x2 : 16 ≤ P
      · have he := hide (HB.out (.inl (fun q => by omega)))
        go_wp2
        go_ret2
        exact ⟨ret2_ (vint (by rw [he.out.2]; rfl)) (vint he.out.1.symm), HX.out _⟩
      obtain ⟨p, rfl⟩ : ∃ p : Nat, P = (p : Int) := ⟨P.toNat, by omega⟩
      have hp16 : p < 16 := by omega
      have hcs : ∀ o, (wr.alloc o).cell? ⟨w.heap.size, p, none⟩ = some (.bool (seenTo l p k)) := fun o => ((hC.alloc o).cell p).trans (hM.out.2 p hp16)
      have hcf : ∀ o, (wr.alloc o).frozen? ⟨w.heap.size, p, none⟩ = false := fun o => (hC.alloc o).frozen p
      cases hs : seenTo l p k
      · rw [hs] at hcs
        by_cases x3 : E < 0
        · have he := hide (HB.out (.inl (fun q => by omega)))
          go_wp2
          go_ret2
          exact ⟨ret2_ (vint (by rw [he.out.2]; rfl)) (vint he.out.1.symm), HX.out _⟩
        by_cases x4 : 4611686018427387904 < E
        · have he := hide (HB.out (.inl (fun q => by omega)))
          go_wp2
          go_ret2
          exact ⟨ret2_ (vint (by rw [he.out.2]; rfl)) (vint he.out.1.symm), HX.out _⟩
        by_cases x5 : L < 0
        · have he := hide (HB.out (.inl (fun q => by omega)))
          go_wp2
          go_ret2
          exact ⟨ret2_ (vint (by rw [he.out.2]; rfl)) (vint he.out.1.symm), HX.out _⟩
        by_cases x6 : 4611686018427387904 < L
        · have he := hide (HB.out (.inl (fun q => by omega)))
          go_wp2
          go_ret2
          exact ⟨ret2_ (vint (by rw [he.out.2]; rfl)) (vint he.out.1.symm), HX.out _⟩
        have hbl : bestTo l k < l.length := by
          by_cases e : k = 0
          · subst e; simp only [bestTo]; omega
          · have := bestTo_lt l k (by omega); omega
        obtain ⟨b', off', e', _, r0, r1, r2⟩ := h.at_ hbl
        injection e' with e'
        injection e' with e1 e2
        subst e1 e2
        have H5 : Below w.heap.size w ((wr.setCell ⟨w.heap.size, p, none⟩ (.bool true)).alloc (.cells #[.int .i64 p, .int .i64 E, .int .i64 L] 30)) := (hb.setCell (p := ⟨w.heap.size, p, none⟩) (Nat.le_refl _) _).alloc (by simp [World.setCell]; omega) _
        have N5 : Blk ((wr.setCell ⟨w.heap.size, p, none⟩ (.bool true)).alloc (.cells #[.int .i64 p, .int .i64 E, .int .i64 L] 30)) wr.heap.size 30 #[.int .i64 p, .int .i64 E, .int .i64 L] := by
          have := Blk.new (wr.setCell ⟨w.heap.size, p, none⟩ (.bool true)) 30 #[.int .i64 p, .int .i64 E, .int .i64 L]
          simpa [World.setCell] using this
        have C5 : Blk ((wr.setCell ⟨w.heap.size, p, none⟩ (.bool true)).alloc (.cells #[.int .i64 p, .int .i64 E, .int .i64 L] 30)) w.heap.size 84 (C.setIfInBounds p (.bool true)) := (hC.set_ p _).alloc _
        have M5 := hide (hM.out.next HPEL.out.1.symm hp16)
        have G5 : Hid (Q.Good l (k + 1)) := hG.out.succ (by obtain ⟨a1, a2, a3⟩ := HPEL.out; unfold Fit; rw [← a1, ← a2, ← a3]; omega) (by rw [← HPEL.out.1]; exact hs)
        have HFU : Hid (furB (p : Int) E L (pidA l (bestTo l k)) (epA l (bestTo l k)) (lenA l (bestTo l k)) = furA l k (bestTo l k)) := by
          obtain ⟨a1, a2, a3⟩ := HPEL.out
          show _ = _
          unfold furA
          rw [← a1, ← a2, ← a3]
        clear hs HB HPEL hM hG hC HX
        cases hf : furA l k (bestTo l k)
        all_goals
          have HF := hide hf
          have HBT : Hid (bestTo l (k + 1) = if furA l k (bestTo l k) = true then k else bestTo l k) := rfl
          rw [hf] at HBT
          clear hf
          go_wp2_with fail
          obtain ⟨w5, hw5⟩ : ∃ w5, w5 = (wr.setCell ⟨w.heap.size, p, none⟩ (.bool true)).alloc (.cells #[.int .i64 p, .int .i64 E, .int .i64 L] 30) := ⟨_, rfl⟩
          rw [← hw5] at H5 N5 C5 ⊢
          clear hw5 hcs hcf hb q0 q1 q2
          obtain ⟨n0, n1, n2⟩ := blk3 N5
          have m0 := (H5.cell (p := ⟨b, off + bestTo l k * 3, none⟩) hab).trans r0
          have m1 := (H5.cell (p := ⟨b, off + bestTo l k * 3 + 1, none⟩) hab).trans r1
          have m2 := (H5.cell (p := ⟨b, off + bestTo l k * 3 + 2, none⟩) hab).trans r2
          have i0 : (0 : Int) ≤ (bestTo l k : Nat) := by omega
          have i1 : ((bestTo l k : Nat) : Int) < l.length := by omega
          go_region_held3 (fun W => W.cell? ⟨wr.heap.size, 0, none⟩ = some (.int .i64 p) ∧ W.cell? ⟨wr.heap.size, 1, none⟩ = some (.int .i64 E) ∧ W.cell? ⟨wr.heap.size, 2, none⟩ = some (.int .i64 L) ∧ W.cell? ⟨b, off + bestTo l k * 3, none⟩ = some (.int .i64 (pidA l (bestTo l k))) ∧ W.cell? ⟨b, off + bestTo l k * 3 + 1, none⟩ = some (.int .i64 (epA l (bestTo l k))) ∧ W.cell? ⟨b, off + bestTo l k * 3 + 2, none⟩ = some (.int .i64 (lenA l (bestTo l k))))
            (first | exact ⟨n0, n1, n2, m0, m1, m2⟩ | exact ⟨(hbf.cell (p := ⟨wr.heap.size, 0, none⟩) N5.lt).trans n0, (hbf.cell (p := ⟨wr.heap.size, 1, none⟩) N5.lt).trans n1, (hbf.cell (p := ⟨wr.heap.size, 2, none⟩) N5.lt).trans n2, (hbf.cell (p := ⟨b, off + bestTo l k * 3, none⟩) (Nat.lt_of_lt_of_le hab H5.size)).trans m0, (hbf.cell (p := ⟨b, off + bestTo l k * 3 + 1, none⟩) (Nat.lt_of_lt_of_le hab H5.size)).trans m1, (hbf.cell (p := ⟨b, off + bestTo l k * 3 + 2, none⟩) (Nat.lt_of_lt_of_le hab H5.size)).trans m2⟩)
            (first | (go_at_call 41; refine (further_any _ _ _ _ _ _ _).mono ?_; rintro e w' ⟨rfl, hbf⟩; rw [HFU.out, HF.out]))
          go_wp2
          have H6 := H5.trans (Below.trans (Below.refl _ w5).drew (hbf.mono H5.size))
          have C6 := (Blk.drew C5).below hbf C5.lt
          go_roundw
          case rel => exact ⟨k + 1, C.setIfInBounds p (.bool true), by omega, by go_num, by rw [HBT.out]; simp, H6, C6, M5, G5⟩
          case measure => simp [intOf]; omega
      · rw [hs] at hcs
        have he := hide (HB.out (.inr hs))
        go_wp2
        go_ret2
        exact ⟨ret2_ (vint (by rw [he.out.2]; rfl)) (vint he.out.1.symm), HX.out _⟩
    · obtain rfl : k = l.length := by omega
      have he := hide (best_ok ⟨h1, h16, hG.out⟩)
      go_wp2
      go_ret2
      exact ⟨ret2_ (vint (by rw [he.out.2])) (vint he.out.1.symm), hb⟩
end Go.Proofs.Yteckffndboiknaa
