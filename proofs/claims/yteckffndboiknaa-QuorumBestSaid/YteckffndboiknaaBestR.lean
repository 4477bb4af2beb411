/-
  Contract of the reference's Best.
-/
import Derived.Test.YteckffndboiknaaBest
set_option linter.unusedVariables false
namespace Go.Proofs.Yteckffndboiknaa
open Go.RowKit Go.WideShapes Go.ChangeShapes Q
attribute [local go_sem ↓] Go.wp_at_zero Go.wp_at_succ

theorem rbest_len (A : Option Addr) (n c : Nat) (w : World) (hn : n < 1 ∨ 16 < n) (hm : n ≤ 17592186044416) :
    Calls Try.prog 16 #[.slice A n c] w fun e w' => e = .returned (.tuple #[.int .i64 0, .int .i64 1]) ∧ w = w' := by
  rcases hn with hn | hn
  · go_enter Try.func16, Try.ntmps16
    go_wp2
    go_ret2
    exact ⟨rfl, rfl⟩
  · have h1 : ¬ n < 1 := by omega
    go_enter Try.func16, Try.ntmps16
    go_wp2
    go_ret2
    exact ⟨rfl, rfl⟩

set_option maxRecDepth 100000 in
set_option maxHeartbeats 4000000 in
theorem rbest_in (A : Option Addr) (n c : Nat) (l : List (Int × Int × Int)) (w : World) (h : RS w w.heap.size A n l) (h1 : 1 ≤ n) (h16 : n ≤ 16) :
    Calls Try.prog 16 #[.slice A n c] w fun e w' => e = .returned (.tuple #[.int .i64 (bestI l : Nat), .int .i64 (bestE l)]) ∧ Below w.heap.size w w' := by
  have hl := h.len
  subst hl
  have d1 : decide ((l.length : Int) < 1) = false := by rw [decide_eq_false_iff_not]; omega
  have d2 : decide ((16 : Int) < l.length) = false := by rw [decide_eq_false_iff_not]; omega
  go_enter Try.func16, Try.ntmps16
  go_wp2
  go_loopw [4] (fun i wr => ∃ (k : Nat), k ≤ l.length ∧ i = .int .i64 k ∧ Below w.heap.size w wr ∧ Hid (Q.Good l k)) (fun i _ => l.length - (intOf i).toNat)
  case atStart => exact ⟨0, by omega, rfl, Below.refl _ _, Q.Good.zero l⟩
  case round =>
    obtain ⟨k, hk, rfl, hb, hG⟩ := hrel
    by_cases hlt : k < l.length
    · obtain ⟨b, off, rfl, hab, q0, q1, q2⟩ := h.at_ hlt
      have q0 := (hb.cell (p := ⟨b, off + k * 3, none⟩) hab).trans q0
      have q1 := (hb.cell (p := ⟨b, off + k * 3 + 1, none⟩) hab).trans q1
      have q2 := (hb.cell (p := ⟨b, off + k * 3 + 2, none⟩) hab).trans q2
      have HX : Hid (∀ (X : Obj), Below w.heap.size w (wr.alloc X)) := fun X => hb.alloc hb.size X
      obtain ⟨P, hP⟩ : ∃ P, P = pidA l k := ⟨_, rfl⟩
      obtain ⟨E, hE⟩ : ∃ E, E = epA l k := ⟨_, rfl⟩
      obtain ⟨L, hL⟩ : ∃ L, L = lenA l k := ⟨_, rfl⟩
      rw [← hP] at q0
      rw [← hE] at q1
      rw [← hL] at q2
      have HB : Hid (¬ ((0 ≤ P ∧ P < 16) ∧ (0 ≤ E ∧ E ≤ 4611686018427387904) ∧ (0 ≤ L ∧ L ≤ 4611686018427387904)) ∨ seenTo l P k = true → bestE l = 1 ∧ bestI l = 0) := fun hh => best_bad (bad_at hlt (by
        rcases hh with hh | hh
        · left; unfold Fit; rw [← hP, ← hE, ← hL]; exact hh
        · right; rw [← hP]; exact hh))
      have HPEL : Hid (P = pidA l k ∧ E = epA l k ∧ L = lenA l k) := ⟨hP, hE, hL⟩
      clear hP hE hL
      by_cases x1 : P < 0
      · have he := hide (HB.out (.inl (fun q => by omega)))
        go_wp2
        go_ret2
        exact ⟨ret2_ (vint (by rw [he.out.2]; rfl)) (vint he.out.1.symm), HX.out _⟩
      by_cases x2 : 16 ≤ P
      · have he := hide (HB.out (.inl (fun q => by omega)))
        go_wp2
        go_ret2
        exact ⟨ret2_ (vint (by rw [he.out.2]; rfl)) (vint he.out.1.symm), HX.out _⟩
      by_cases x3 : E < 0
      · have he := hide (HB.out (.inl (fun q => by omega)))
        go_wp2
        go_ret2
        exact ⟨ret2_ (vint (by rw [he.out.2]; rfl)) (vint he.out.1.symm), HX.out _⟩
      by_cases x4 : 4611686018427387904 < E
      · have he := hide (HB.out (.inl (fun q => by omega)))
        go_wp2
        go_ret2
        exact ⟨ret2_ (vint (by rw [he.out.2]; rfl)) (vint he.out.1.symm), HX.out _⟩
      by_cases x5 : L < 0
      · have he := hide (HB.out (.inl (fun q => by omega)))
        go_wp2
        go_ret2
        exact ⟨ret2_ (vint (by rw [he.out.2]; rfl)) (vint he.out.1.symm), HX.out _⟩
      by_cases x6 : 4611686018427387904 < L
      · have he := hide (HB.out (.inl (fun q => by omega)))
        go_wp2
        go_ret2
        exact ⟨ret2_ (vint (by rw [he.out.2]; rfl)) (vint he.out.1.symm), HX.out _⟩
      go_wp2
      obtain ⟨wo, hwo⟩ : ∃ wo, wo = wr.alloc (.cells #[.int .i64 P, .int .i64 E, .int .i64 L] 30) := ⟨_, rfl⟩
      have HO : Below w.heap.size w wo := by rw [hwo]; exact HX.out _
      have NO : Blk wo wr.heap.size 30 #[.int .i64 P, .int .i64 E, .int .i64 L] := by rw [hwo]; exact Blk.new _ _ _
      rw [← hwo]
      clear hwo HX q0 q1 q2 hb
      obtain ⟨n0, n1, n2⟩ := blk3 NO
      go_loopw [6] (fun i ww => ∃ (j m : Nat), j ≤ k ∧ i = .int .i64 j ∧ ww = wo.drewN m ∧ Hid (seenTo l P j = false)) (fun i _ => k - (intOf i).toNat)
      case atStart => exact ⟨0, 0, by omega, rfl, rfl, rfl⟩
      case round =>
        obtain ⟨j, m, hj, rfl, rfl, hsj⟩ := hrel
        by_cases hjk : j < k
        · obtain ⟨b', off', e', _, r0, _, _⟩ := h.at_ (k := j) (by omega)
          injection e' with e'
          injection e' with e1 e2
          subst e1 e2
          have r0 := (HO.cell (p := ⟨b, off + j * 3, none⟩) hab).trans r0
          have i0 : (0 : Int) ≤ (j : Nat) := by omega
          have i1 : ((j : Nat) : Int) < l.length := by omega
          by_cases hpe : pidA l j = P
          · have he := hide (HB.out (.inr (by rw [seenTo_iff]; exact ⟨j, hjk, hpe⟩)))
            have hpe' : (pidA l j == P) = true := by simp [hpe]
            clear hpe
            go_wp2
            go_quiet (fail)
            go_wp2
            go_ret2
            exact ⟨ret2_ (vint (by rw [he.out.2]; rfl)) (vint he.out.1.symm), below_drewN (below_drewN HO _) _⟩
          · have hpe' : (pidA l j == P) = false := by simp [hpe]
            have hs2 : Hid (seenTo l P (j + 1) = false) := by show _ = _; rw [seenTo, hsj.out]; simp [hpe]
            clear hpe
            go_wp2
            go_quiet (fail)
            go_wp2
            go_roundw
            case rel => exact ⟨j + 1, _, by omega, by go_num, rfl, hs2⟩
            case measure => simp [intOf]; omega
        · obtain rfl : j = k := by omega
          have G5 : Hid (Q.Good l (j + 1)) := hG.out.succ (by obtain ⟨a1, a2, a3⟩ := HPEL.out; unfold Fit; rw [← a1, ← a2, ← a3]; omega) (by rw [← HPEL.out.1]; exact hsj.out)
          go_wp2
          go_roundw
          case rel => exact ⟨j + 1, by omega, by go_num, below_drewN HO _, G5⟩
          case measure => simp [intOf]; omega
    · obtain rfl : k = l.length := by omega
      have he := hide (best_ok ⟨h1, h16, hG.out⟩)
      clear hG
      obtain ⟨wo, hwo⟩ : ∃ wo, wo = wr := ⟨_, rfl⟩
      rw [← hwo] at hb ⊢
      clear hwo
      go_wp2
      go_loopw [7, 8] (fun bt i wr => ∃ k : Nat, 1 ≤ k ∧ k ≤ l.length ∧ i = .int .i64 k ∧ bt = .int .i64 (bestTo l k : Nat) ∧ Below w.heap.size w wr) (fun _ i _ => l.length - (intOf i).toNat)
      case atStart => exact ⟨1, by omega, h1, rfl, by simp [bestTo, furA, furB], hb⟩
      case round =>
        obtain ⟨k, hk1, hk, rfl, rfl, hb⟩ := hrel
        have hbk := bestTo_lt l k (by omega)
        by_cases hlt : k < l.length
        · obtain ⟨b, off, rfl, hab, q0, q1, q2⟩ := h.at_ hlt
          have q0 := (hb.cell (p := ⟨b, off + k * 3, none⟩) hab).trans q0
          have q1 := (hb.cell (p := ⟨b, off + k * 3 + 1, none⟩) hab).trans q1
          have q2 := (hb.cell (p := ⟨b, off + k * 3 + 2, none⟩) hab).trans q2
          obtain ⟨b', off', e', _, r0, r1, r2⟩ := h.at_ (k := bestTo l k) (by omega)
          injection e' with e'
          injection e' with e1 e2
          subst e1 e2
          have m0 := (hb.cell (p := ⟨b, off + bestTo l k * 3, none⟩) hab).trans r0
          have m1 := (hb.cell (p := ⟨b, off + bestTo l k * 3 + 1, none⟩) hab).trans r1
          have m2 := (hb.cell (p := ⟨b, off + bestTo l k * 3 + 2, none⟩) hab).trans r2
          have i0 : (0 : Int) ≤ (bestTo l k : Nat) := by omega
          have i1 : ((bestTo l k : Nat) : Int) < l.length := by omega
          have i2 : (0 : Int) ≤ (k : Nat) := by omega
          have i3 : ((k : Nat) : Int) < l.length := by omega
          have hbs := hb.size
          clear r0 r1 r2
          cases hf : furA l k (bestTo l k)
          all_goals
            have HF := hide hf
            have HFU : Hid (furB (pidA l k) (epA l k) (lenA l k) (pidA l (bestTo l k)) (epA l (bestTo l k)) (lenA l (bestTo l k)) = furA l k (bestTo l k)) := rfl
            have HBT : Hid (bestTo l (k + 1) = if furA l k (bestTo l k) = true then k else bestTo l k) := rfl
            rw [hf] at HBT
            clear hf
            go_wp2_with fail
            go_region_held3 (fun W => W.cell? ⟨b, off + k * 3, none⟩ = some (.int .i64 (pidA l k)) ∧ W.cell? ⟨b, off + k * 3 + 1, none⟩ = some (.int .i64 (epA l k)) ∧ W.cell? ⟨b, off + k * 3 + 2, none⟩ = some (.int .i64 (lenA l k)) ∧ W.cell? ⟨b, off + bestTo l k * 3, none⟩ = some (.int .i64 (pidA l (bestTo l k))) ∧ W.cell? ⟨b, off + bestTo l k * 3 + 1, none⟩ = some (.int .i64 (epA l (bestTo l k))) ∧ W.cell? ⟨b, off + bestTo l k * 3 + 2, none⟩ = some (.int .i64 (lenA l (bestTo l k))))
              (first | exact ⟨q0, q1, q2, m0, m1, m2⟩ | exact ⟨(hbf.cell (p := ⟨b, off + k * 3, none⟩) (Nat.lt_of_lt_of_le hab hbs)).trans q0, (hbf.cell (p := ⟨b, off + k * 3 + 1, none⟩) (Nat.lt_of_lt_of_le hab hbs)).trans q1, (hbf.cell (p := ⟨b, off + k * 3 + 2, none⟩) (Nat.lt_of_lt_of_le hab hbs)).trans q2, (hbf.cell (p := ⟨b, off + bestTo l k * 3, none⟩) (Nat.lt_of_lt_of_le hab hbs)).trans m0, (hbf.cell (p := ⟨b, off + bestTo l k * 3 + 1, none⟩) (Nat.lt_of_lt_of_le hab hbs)).trans m1, (hbf.cell (p := ⟨b, off + bestTo l k * 3 + 2, none⟩) (Nat.lt_of_lt_of_le hab hbs)).trans m2⟩)
              (first | (go_at_call 42; refine (refFurther_any _ _ _ _ _ _ _).mono ?_; rintro e w' ⟨rfl, hbf⟩; rw [HFU.out, HF.out]))
            go_wp2
            have H6 := hb.trans (Below.trans (Below.refl _ wr).drew (hbf.mono hbs))
            go_roundw
            case rel => exact ⟨k + 1, by omega, by omega, by go_num, by rw [HBT.out]; simp, H6⟩
            case measure => simp [intOf]; omega
        · obtain rfl : k = l.length := by omega
          go_wp2
          go_ret2
          exact ⟨ret2_ (vint (by rw [he.out.2])) (vint he.out.1.symm), hb⟩
end Go.Proofs.Yteckffndboiknaa
