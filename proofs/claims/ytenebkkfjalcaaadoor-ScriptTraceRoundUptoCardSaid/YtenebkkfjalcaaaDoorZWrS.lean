/-
  The program's writable.
-/
import Derived.Test.YtenebkkfjalcaaaDoorZWrF
set_option linter.unusedVariables false
set_option linter.unusedSimpArgs false
namespace Go.Proofs.YtenebkkfjalcaaaDoor
open Go.RowKit Go.WideShapes Go.ChangeShapes Q

theorem flatm_at {l : List (Int × Int × Int)} {k : Nat} (hk : k < l.length) (h : cntB [pidA l k, incA l k, cidA l k] = false) : cntB (flat l) = false := by
  unfold cntB flat at *
  rw [List.all_eq_false] at h ⊢
  obtain ⟨x, hx, h⟩ := h
  refine ⟨x, ?_, h⟩
  rw [List.mem_flatMap]
  refine ⟨l[k], List.getElem_mem hk, ?_⟩
  simpa [pidA, incA, cidA, hk] using hx
theorem flatm_all {l : List (Int × Int × Int)} (h : ∀ k, k < l.length → cntB [pidA l k, incA l k, cidA l k] = true) : cntB (flat l) = true := by
  unfold cntB flat at *
  rw [List.all_eq_true]
  intro x hx
  rw [List.mem_flatMap] at hx
  obtain ⟨s, hs, hx⟩ := hx
  obtain ⟨k, hk, rfl⟩ := List.getElem_of_mem hs
  have := h k hk
  rw [List.all_eq_true] at this
  refine this x ?_
  simpa [pidA, incA, cidA, hk] using hx

set_option maxRecDepth 100000 in
set_option maxHeartbeats 4000000 in
theorem writable_any (m : Mk) (w : World) (hm : MkIn w w.heap.size m) :
    Calls Tryd.prog 16 #[m.v] w fun e w' => e = .returned (.bool (wrB m)) ∧ Below w.heap.size w w' := by
  by_cases h : 1 ≤ m.kd ∧ m.kd ≤ 16 ∧ -4611686018427387904 ≤ m.rn ∧ m.rn ≤ 4611686018427387904 ∧ 0 ≤ m.er ∧ m.er ≤ 999
  · have HF : Hid (wrB m = (cntB (flat m.ms) && cntB m.ns && cntB m.ts)) := by
      show _ = _
      unfold wrB
      rw [decide_eq_true h]
      rfl
    have HM := hide hm
    have HB0 : Hid (Blk (w.alloc (.cells m.cs 48)) w.heap.size 48 m.cs) := Blk.new _ _ _
    have HW0 : Hid (Below w.heap.size w (w.alloc (.cells m.cs 48))) := (Below.refl _ _).alloc (Nat.le_refl _) _
    obtain ⟨aT, kd, nd, ic, ep, ld, ii, ci, Am, nm, cm, ms, At, nt, ct, ts, se, sq, po, n, Ab, nb, cb, bd, cl, cn, rq, op, key, val, old, co, rv, rn, er⟩ := m
    simp only [Mk.v, Mk.cs, Mk.ns] at h HF HB0 HW0 ⊢
    have hmm := HM.out.mem
    have hnm := HM.out.hm
    simp only at hmm hnm
    have HMM := hide hmm
    have hml := hide hmm.len
    have e0 : decide (kd < 1) = false := decide_eq_false (by omega)
    have e1 : decide (17 ≤ kd) = false := decide_eq_false (by omega)
    have e2 : decide (rn < -4611686018427387904) = false := decide_eq_false (by omega)
    have e3 : decide (4611686018427387904 < rn) = false := decide_eq_false (by omega)
    have e4 : decide (er < 0) = false := decide_eq_false (by omega)
    have e5 : decide (999 < er) = false := decide_eq_false (by omega)
    clear h hm hmm
    go_enter Tryd.func16, Tryd.ntmps16
    go_upto_region 4 with fail
    go_loopw [38] (fun i wr => ∃ k : Nat, k ≤ nm ∧ i = .int .i64 k ∧ Hid (∀ j, j < k → cntB [pidA ms j, incA ms j, cidA ms j] = true) ∧ Hid (Below w.heap.size w wr) ∧ Hid (Blk wr w.heap.size 48 #[.int .i64 aT, .int .i64 kd, .int .i64 nd, .int .i64 ic, .int .i64 ep, .int .i64 ld, .int .i64 ii, .int .i64 ci, .slice Am nm cm, .slice At nt ct, .int .i64 se, .int .i64 sq, .int .i64 po, .int .i64 n, .slice Ab nb cb, .int .i64 cl, .int .i64 cn, .int .i64 rq, .int .i64 op, .string key, .string val, .string old, .int .i64 co, .string rv, .int .i64 rn, .int .i64 er])) (fun i _ => nm - (intOf i).toNat)
    case atStart => exact ⟨0, Nat.zero_le _, rfl, fun j hj => absurd hj (by omega), HW0.out, HB0.out⟩
    case round =>
      obtain ⟨k, hk, rfl, hall, hb, hblk⟩ := hrel
      clear HW0 HB0
      have hsb : w.heap.size ≤ wr.heap.size := hb.out.size
      by_cases hlt : k < nm
      · obtain ⟨b, off, rfl, hbB, q0, q1, q2⟩ := RS.at_ (Reads.below HMM.out hb.out) hlt
        have k0 : (0 : Int) ≤ (k : Int) := by omega
        have kn : (k : Int) < (nm : Int) := by omega
        obtain ⟨x, hx⟩ : ∃ x, x = pidA ms k := ⟨_, rfl⟩
        obtain ⟨y, hy⟩ : ∃ y, y = incA ms k := ⟨_, rfl⟩
        obtain ⟨z, hz⟩ : ∃ z, z = cidA ms k := ⟨_, rfl⟩
        rw [← hx] at q0
        rw [← hy] at q1
        rw [← hz] at q2
        have HX := hide hx
        have HY := hide hy
        have HZ := hide hz
        clear hx hy hz
        have HCN : Hid (Calls Tryd.prog 29 #[.slice (some ⟨wr.heap.size + 1, 0, none⟩) 3 3] ((wr.alloc (.cells #[.int .i64 x, .int .i64 y, .int .i64 z] 69)).alloc (.cells #[.int .i64 x, .int .i64 y, .int .i64 z] 3)) fun e w' => e = .returned (.bool (cntB [x, y, z])) ∧ ((wr.alloc (.cells #[.int .i64 x, .int .i64 y, .int .i64 z] 69)).alloc (.cells #[.int .i64 x, .int .i64 y, .int .i64 z] 3)) = w') := by
          have ho := own_of_alloc (wr.alloc (.cells #[.int .i64 x, .int .i64 y, .int .i64 z] 69)) 3 (ints [x, y, z]) 3 rfl (by unfold maxLen; omega)
          rw [show (wr.alloc (.cells #[.int .i64 x, .int .i64 y, .int .i64 z] 69)).heap.size = wr.heap.size + 1 by simp] at ho
          exact counted_any _ _ 3 3 [x, y, z] _ (Reads.of_own ho) (by omega)
        have HBA : Hid (Below w.heap.size w ((wr.alloc (.cells #[.int .i64 x, .int .i64 y, .int .i64 z] 69)).alloc (.cells #[.int .i64 x, .int .i64 y, .int .i64 z] 3))) := (hb.out.alloc hsb _).alloc (by simp; omega) _
        have HBL : Hid (Blk ((wr.alloc (.cells #[.int .i64 x, .int .i64 y, .int .i64 z] 69)).alloc (.cells #[.int .i64 x, .int .i64 y, .int .i64 z] 3)) w.heap.size 48 _) := (hblk.out.alloc _).alloc _
        have hkl : k < ms.length := by have := hml.out; omega
        cases hcb : cntB [x, y, z] with
        | false =>
          have HF2 : Hid (cntB (flat ms) = false) := flatm_at hkl (by rw [← HX.out, ← HY.out, ← HZ.out]; exact hcb)
          rw [hcb] at HCN
          clear hcb
          go_wp2_with (go_at_call 29; refine HCN.out.mono ?_; rintro e w' ⟨rfl, rfl⟩)
          go_ret
          exact ⟨by rw [HF.out, HF2.out]; rfl, HBA.out⟩
        | true =>
          have HALL : Hid (∀ j, j < k + 1 → cntB [pidA ms j, incA ms j, cidA ms j] = true) := fun j hj => by
            by_cases e : j = k
            · subst e
              rw [← HX.out, ← HY.out, ← HZ.out]
              exact hcb
            · exact hall.out j (by omega)
          rw [hcb] at HCN
          clear hcb
          go_wp2_with (go_at_call 29; refine HCN.out.mono ?_; rintro e w' ⟨rfl, rfl⟩)
          go_roundw
          case rel => exact ⟨k + 1, by omega, by go_num, HALL, HBA, HBL⟩
          case measure => simp [intOf]; omega
      · obtain hkn : k = nm := by omega
        have kn : ¬ (k : Int) < (nm : Int) := by omega
        have HF2 : Hid (cntB (flat ms) = true) := flatm_all fun j hj => hall.out j (by have := hml.out; omega)
        have HC16 : Hid (Calls Tryd.prog 29 #[.slice (some ⟨wr.heap.size, 0, none⟩) 16 16] (wr.alloc (.cells #[.int .i64 aT, .int .i64 nd, .int .i64 ic, .int .i64 ep, .int .i64 ld, .int .i64 ii, .int .i64 ci, .int .i64 se, .int .i64 sq, .int .i64 po, .int .i64 n, .int .i64 cl, .int .i64 cn, .int .i64 rq, .int .i64 op, .int .i64 co] 3)) fun e w' => e = .returned (.bool (cntB [aT, nd, ic, ep, ld, ii, ci, se, sq, po, n, cl, cn, rq, op, co])) ∧ (wr.alloc (.cells #[.int .i64 aT, .int .i64 nd, .int .i64 ic, .int .i64 ep, .int .i64 ld, .int .i64 ii, .int .i64 ci, .int .i64 se, .int .i64 sq, .int .i64 po, .int .i64 n, .int .i64 cl, .int .i64 cn, .int .i64 rq, .int .i64 op, .int .i64 co] 3)) = w') := by
          have ho := own_of_alloc wr 3 (ints [aT, nd, ic, ep, ld, ii, ci, se, sq, po, n, cl, cn, rq, op, co]) 16 rfl (by unfold maxLen; omega)
          exact counted_any _ _ 16 16 [aT, nd, ic, ep, ld, ii, ci, se, sq, po, n, cl, cn, rq, op, co] _ (Reads.of_own ho) (by omega)
        have HBA : Hid (Below w.heap.size w (wr.alloc (.cells #[.int .i64 aT, .int .i64 nd, .int .i64 ic, .int .i64 ep, .int .i64 ld, .int .i64 ii, .int .i64 ci, .int .i64 se, .int .i64 sq, .int .i64 po, .int .i64 n, .int .i64 cl, .int .i64 cn, .int .i64 rq, .int .i64 op, .int .i64 co] 3))) := hb.out.alloc hsb _
        have htr := HM.out.tr
        have hnt := HM.out.ht
        simp only at htr hnt
        have HCT : Hid (Calls Tryd.prog 29 #[.slice At nt ct] (wr.alloc (.cells #[.int .i64 aT, .int .i64 nd, .int .i64 ic, .int .i64 ep, .int .i64 ld, .int .i64 ii, .int .i64 ci, .int .i64 se, .int .i64 sq, .int .i64 po, .int .i64 n, .int .i64 cl, .int .i64 cn, .int .i64 rq, .int .i64 op, .int .i64 co] 3)) fun e w' => e = .returned (.bool (cntB ts)) ∧ (wr.alloc (.cells #[.int .i64 aT, .int .i64 nd, .int .i64 ic, .int .i64 ep, .int .i64 ld, .int .i64 ii, .int .i64 ci, .int .i64 se, .int .i64 sq, .int .i64 po, .int .i64 n, .int .i64 cl, .int .i64 cn, .int .i64 rq, .int .i64 op, .int .i64 co] 3)) = w') := counted_any At _ nt ct ts _ (Reads.below htr HBA.out) (by omega)
        have c0 : wr.cell? ⟨w.heap.size, 0, none⟩ = some (.int .i64 aT) := by have := hblk.out.cell 0; simpa using this
        have c2 : wr.cell? ⟨w.heap.size, 2, none⟩ = some (.int .i64 nd) := by have := hblk.out.cell 2; simpa using this
        have c3 : wr.cell? ⟨w.heap.size, 3, none⟩ = some (.int .i64 ic) := by have := hblk.out.cell 3; simpa using this
        have c4 : wr.cell? ⟨w.heap.size, 4, none⟩ = some (.int .i64 ep) := by have := hblk.out.cell 4; simpa using this
        have c5 : wr.cell? ⟨w.heap.size, 5, none⟩ = some (.int .i64 ld) := by have := hblk.out.cell 5; simpa using this
        have c6 : wr.cell? ⟨w.heap.size, 6, none⟩ = some (.int .i64 ii) := by have := hblk.out.cell 6; simpa using this
        have c7 : wr.cell? ⟨w.heap.size, 7, none⟩ = some (.int .i64 ci) := by have := hblk.out.cell 7; simpa using this
        have c9 : wr.cell? ⟨w.heap.size, 9, none⟩ = some (.slice At nt ct) := by have := hblk.out.cell 9; simpa using this
        have c10 : wr.cell? ⟨w.heap.size, 10, none⟩ = some (.int .i64 se) := by have := hblk.out.cell 10; simpa using this
        have c11 : wr.cell? ⟨w.heap.size, 11, none⟩ = some (.int .i64 sq) := by have := hblk.out.cell 11; simpa using this
        have c12 : wr.cell? ⟨w.heap.size, 12, none⟩ = some (.int .i64 po) := by have := hblk.out.cell 12; simpa using this
        have c13 : wr.cell? ⟨w.heap.size, 13, none⟩ = some (.int .i64 n) := by have := hblk.out.cell 13; simpa using this
        have c15 : wr.cell? ⟨w.heap.size, 15, none⟩ = some (.int .i64 cl) := by have := hblk.out.cell 15; simpa using this
        have c16 : wr.cell? ⟨w.heap.size, 16, none⟩ = some (.int .i64 cn) := by have := hblk.out.cell 16; simpa using this
        have c17 : wr.cell? ⟨w.heap.size, 17, none⟩ = some (.int .i64 rq) := by have := hblk.out.cell 17; simpa using this
        have c18 : wr.cell? ⟨w.heap.size, 18, none⟩ = some (.int .i64 op) := by have := hblk.out.cell 18; simpa using this
        have c22 : wr.cell? ⟨w.heap.size, 22, none⟩ = some (.int .i64 co) := by have := hblk.out.cell 22; simpa using this
        have c9a : (wr.alloc (.cells #[.int .i64 aT, .int .i64 nd, .int .i64 ic, .int .i64 ep, .int .i64 ld, .int .i64 ii, .int .i64 ci, .int .i64 se, .int .i64 sq, .int .i64 po, .int .i64 n, .int .i64 cl, .int .i64 cn, .int .i64 rq, .int .i64 op, .int .i64 co] 3)).cell? ⟨w.heap.size, 9, none⟩ = some (.slice At nt ct) := by have := (hblk.out.alloc (.cells #[.int .i64 aT, .int .i64 nd, .int .i64 ic, .int .i64 ep, .int .i64 ld, .int .i64 ii, .int .i64 ci, .int .i64 se, .int .i64 sq, .int .i64 po, .int .i64 n, .int .i64 cl, .int .i64 cn, .int .i64 rq, .int .i64 op, .int .i64 co] 3)).cell 9; simpa using this
        clear hlt htr
        obtain ⟨b1, hb1⟩ : ∃ b1, b1 = cntB [aT, nd, ic, ep, ld, ii, ci, se, sq, po, n, cl, cn, rq, op, co] := ⟨_, rfl⟩
        obtain ⟨b2, hb2⟩ : ∃ b2, b2 = cntB ts := ⟨_, rfl⟩
        rw [← hb1] at HC16 HF
        rw [← hb2] at HCT HF
        clear hb1 hb2
        cases b1 <;> cases b2
        all_goals
          go_wp2_with (first | (go_at_call 29; (with_reducible refine HC16.out.mono ?_); rintro e w' ⟨rfl, rfl⟩) | (go_at_call 29; (with_reducible refine HCT.out.mono ?_); rintro e w' ⟨rfl, rfl⟩))
          go_ret
          exact ⟨by rw [HF.out, HF2.out]; rfl, HBA.out⟩
  · exact wr_first m w h
end Go.Proofs.YtenebkkfjalcaaaDoor
