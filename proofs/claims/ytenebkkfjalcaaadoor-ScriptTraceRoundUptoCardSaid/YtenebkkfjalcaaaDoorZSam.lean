/-
  The reference's SameMark: a mark and one with the same content. (Printed by wip/tools/mksame.py.)
-/
import Derived.Test.YtenebkkfjalcaaaDoorZLsp
set_option linter.unusedVariables false
set_option linter.unusedSimpArgs false
namespace Go.Proofs.YtenebkkfjalcaaaDoor
open Go.RowKit Go.WideShapes Go.ChangeShapes Q

theorem conv_reads {W : World} {B n c : Nat} {A : Option Addr} {l : List UInt8} (h : Reads W B 1 A n (Lib.byteCells l)) : (convert 42 9 (.slice A n c)).run Tryd.prog W = .ok (.string (S l)) W := by
  have hl : l.length = n := by have := h.1; rw [Lib.byteCells_length] at this; omega
  rcases Nat.eq_zero_or_pos n with h0 | h0
  · subst h0
    have : l = [] := List.eq_nil_of_length_eq_zero hl
    subst this
    cases A with
    | none =>
      rw [run_convert_bytes_string W 42 9 5 none 0 c Tryd.underlying42 Tryd.underlying5 Tryd.underlying9]
      simp [Conv.bytesToString]
      rfl
    | some ad => exact run_conv_bytes (.tmp 0) 42 9 5 Tryd.underlying42 Tryd.underlying5 Tryd.underlying9 ad 0 c [] rfl fun j hj => absurd hj (by simp)
  · obtain ⟨ad, rfl, _, hc⟩ := h.2 h0
    exact run_conv_bytes (.tmp 0) 42 9 5 Tryd.underlying42 Tryd.underlying5 Tryd.underlying9 ad n c l hl.symm fun j hj => hc j _ (by simp [Lib.byteCells, hj])
theorem blk_new (w : World) (t : TypeId) (cs : Array Value) (g : Nat) (h : g = w.heap.size) : Blk (w.alloc (.cells cs t)) g t cs := by subst h; exact Blk.new w t cs
/-- The same mark, with its lists elsewhere. -/
def Mk.at (m : Mk) (Am : Option Addr) (cm : Nat) (At : Option Addr) (ct : Nat) (Ab : Option Addr) (cb : Nat) : Mk := { m with Am := Am, cm := cm, At := At, ct := ct, Ab := Ab, cb := cb }

set_option maxRecDepth 100000 in
set_option maxHeartbeats 4000000 in
theorem sameMark_true (m : Mk) (Am' : Option Addr) (cm' : Nat) (At' : Option Addr) (ct' : Nat) (Ab' : Option Addr) (cb' : Nat) (w : World) (hm : MkIn w w.heap.size m) (hm' : MkIn w w.heap.size (m.at Am' cm' At' ct' Ab' cb')) :
    Calls Tryd.prog 21 #[m.v, (m.at Am' cm' At' ct' Ab' cb').v] w fun e w' => e = .returned (.bool true) ∧ Below w.heap.size w w' := by
  have HM := hide hm
  have HM' := hide hm'
  obtain ⟨aT, kd, nd, ic, ep, ld, ii, ci, Am, nm, cm, ms, At, nt, ct, ts, se, sq, po, n, Ab, nb, cb, bd, cl, cn, rq, op, key, val, old, co, rv, rn, er⟩ := m
  have h1 := HM.out.mem
  have h2 := HM.out.tr
  have h3 := HM.out.body
  have h4 := HM'.out.mem
  have h5 := HM'.out.tr
  have h6 := HM'.out.body
  have h7 := HM.out.hm
  have h8 := HM.out.ht
  simp only [Mk.v, Mk.cs, Mk.at] at h1 h2 h3 h4 h5 h6 h7 h8 ⊢
  obtain ⟨W, hW⟩ : ∃ W, W = (w.alloc (.cells #[.int .i64 aT, .int .i64 kd, .int .i64 nd, .int .i64 ic, .int .i64 ep, .int .i64 ld, .int .i64 ii, .int .i64 ci, .slice Am nm cm, .slice At nt ct, .int .i64 se, .int .i64 sq, .int .i64 po, .int .i64 n, .slice Ab nb cb, .int .i64 cl, .int .i64 cn, .int .i64 rq, .int .i64 op, .string key, .string val, .string old, .int .i64 co, .string rv, .int .i64 rn, .int .i64 er] 48)).alloc (.cells #[.int .i64 aT, .int .i64 kd, .int .i64 nd, .int .i64 ic, .int .i64 ep, .int .i64 ld, .int .i64 ii, .int .i64 ci, .slice Am' nm cm', .slice At' nt ct', .int .i64 se, .int .i64 sq, .int .i64 po, .int .i64 n, .slice Ab' nb cb', .int .i64 cl, .int .i64 cn, .int .i64 rq, .int .i64 op, .string key, .string val, .string old, .int .i64 co, .string rv, .int .i64 rn, .int .i64 er] 48) := ⟨_, rfl⟩
  have HWE := hide hW
  have HB : Hid (Below w.heap.size w W) := by rw [hW]; exact ((Below.refl _ _).alloc (Nat.le_refl _) _).alloc (by simp) _
  have H1 := hide (Reads.below h1 HB.out)
  have H2 := hide (Reads.below h2 HB.out)
  have H4 := hide (Reads.below h4 HB.out)
  have H5 := hide (Reads.below h5 HB.out)
  have HC3 := conv_reads (c := cb) (Reads.below h3 HB.out)
  have HC6 := conv_reads (c := cb') (Reads.below h6 HB.out)
  have hml := hide (RS.len h1)
  have htl := hide (RI.len h2)
  rw [hW] at HC3 HC6
  clear h1 h2 h3 h4 h5 h6 hm hm' hW
  go_enter Tryd.func21, Tryd.ntmps21
  go_upto_region 6 with fail
  rw [← HWE.out]
  have c8 : W.cell? ⟨w.heap.size, 8, none⟩ = some (.slice Am nm cm) := by
    have := ((Blk.new w 48 #[.int .i64 aT, .int .i64 kd, .int .i64 nd, .int .i64 ic, .int .i64 ep, .int .i64 ld, .int .i64 ii, .int .i64 ci, .slice Am nm cm, .slice At nt ct, .int .i64 se, .int .i64 sq, .int .i64 po, .int .i64 n, .slice Ab nb cb, .int .i64 cl, .int .i64 cn, .int .i64 rq, .int .i64 op, .string key, .string val, .string old, .int .i64 co, .string rv, .int .i64 rn, .int .i64 er]).alloc (.cells #[.int .i64 aT, .int .i64 kd, .int .i64 nd, .int .i64 ic, .int .i64 ep, .int .i64 ld, .int .i64 ii, .int .i64 ci, .slice Am' nm cm', .slice At' nt ct', .int .i64 se, .int .i64 sq, .int .i64 po, .int .i64 n, .slice Ab' nb cb', .int .i64 cl, .int .i64 cn, .int .i64 rq, .int .i64 op, .string key, .string val, .string old, .int .i64 co, .string rv, .int .i64 rn, .int .i64 er] 48)).cell 8
    rw [← HWE.out] at this
    simpa using this
  have c9 : W.cell? ⟨w.heap.size, 9, none⟩ = some (.slice At nt ct) := by
    have := ((Blk.new w 48 #[.int .i64 aT, .int .i64 kd, .int .i64 nd, .int .i64 ic, .int .i64 ep, .int .i64 ld, .int .i64 ii, .int .i64 ci, .slice Am nm cm, .slice At nt ct, .int .i64 se, .int .i64 sq, .int .i64 po, .int .i64 n, .slice Ab nb cb, .int .i64 cl, .int .i64 cn, .int .i64 rq, .int .i64 op, .string key, .string val, .string old, .int .i64 co, .string rv, .int .i64 rn, .int .i64 er]).alloc (.cells #[.int .i64 aT, .int .i64 kd, .int .i64 nd, .int .i64 ic, .int .i64 ep, .int .i64 ld, .int .i64 ii, .int .i64 ci, .slice Am' nm cm', .slice At' nt ct', .int .i64 se, .int .i64 sq, .int .i64 po, .int .i64 n, .slice Ab' nb cb', .int .i64 cl, .int .i64 cn, .int .i64 rq, .int .i64 op, .string key, .string val, .string old, .int .i64 co, .string rv, .int .i64 rn, .int .i64 er] 48)).cell 9
    rw [← HWE.out] at this
    simpa using this
  have d8 : W.cell? ⟨w.heap.size + 1, 8, none⟩ = some (.slice Am' nm cm') := by
    have := (blk_new (w.alloc (.cells #[.int .i64 aT, .int .i64 kd, .int .i64 nd, .int .i64 ic, .int .i64 ep, .int .i64 ld, .int .i64 ii, .int .i64 ci, .slice Am nm cm, .slice At nt ct, .int .i64 se, .int .i64 sq, .int .i64 po, .int .i64 n, .slice Ab nb cb, .int .i64 cl, .int .i64 cn, .int .i64 rq, .int .i64 op, .string key, .string val, .string old, .int .i64 co, .string rv, .int .i64 rn, .int .i64 er] 48)) 48 #[.int .i64 aT, .int .i64 kd, .int .i64 nd, .int .i64 ic, .int .i64 ep, .int .i64 ld, .int .i64 ii, .int .i64 ci, .slice Am' nm cm', .slice At' nt ct', .int .i64 se, .int .i64 sq, .int .i64 po, .int .i64 n, .slice Ab' nb cb', .int .i64 cl, .int .i64 cn, .int .i64 rq, .int .i64 op, .string key, .string val, .string old, .int .i64 co, .string rv, .int .i64 rn, .int .i64 er] (w.heap.size + 1) (by simp)).cell 8
    rw [← HWE.out] at this
    simpa using this
  have d9 : W.cell? ⟨w.heap.size + 1, 9, none⟩ = some (.slice At' nt ct') := by
    have := (blk_new (w.alloc (.cells #[.int .i64 aT, .int .i64 kd, .int .i64 nd, .int .i64 ic, .int .i64 ep, .int .i64 ld, .int .i64 ii, .int .i64 ci, .slice Am nm cm, .slice At nt ct, .int .i64 se, .int .i64 sq, .int .i64 po, .int .i64 n, .slice Ab nb cb, .int .i64 cl, .int .i64 cn, .int .i64 rq, .int .i64 op, .string key, .string val, .string old, .int .i64 co, .string rv, .int .i64 rn, .int .i64 er] 48)) 48 #[.int .i64 aT, .int .i64 kd, .int .i64 nd, .int .i64 ic, .int .i64 ep, .int .i64 ld, .int .i64 ii, .int .i64 ci, .slice Am' nm cm', .slice At' nt ct', .int .i64 se, .int .i64 sq, .int .i64 po, .int .i64 n, .slice Ab' nb cb', .int .i64 cl, .int .i64 cn, .int .i64 rq, .int .i64 op, .string key, .string val, .string old, .int .i64 co, .string rv, .int .i64 rn, .int .i64 er] (w.heap.size + 1) (by simp)).cell 9
    rw [← HWE.out] at this
    simpa using this
  clear HC3 HC6
  go_loopw [5] (fun i wr => ∃ k q : Nat, k ≤ nm ∧ i = .int .i64 k ∧ wr = W.drewN q) (fun i _ => nm - (intOf i).toNat)
  case atStart => exact ⟨0, 0, Nat.zero_le _, rfl, rfl⟩
  case round =>
    obtain ⟨k, q, hk, rfl, rfl⟩ := hrel
    by_cases hlt : k < nm
    · obtain ⟨b, off, rfl, hbB, q0, q1, q2⟩ := RS.at_ H1.out hlt
      obtain ⟨b', off', rfl, hbB', r0, r1, r2⟩ := RS.at_ H4.out hlt
      have k0 : (0 : Int) ≤ (k : Int) := by omega
      have kn : (k : Int) < (nm : Int) := by omega
      obtain ⟨x, hx⟩ : ∃ x, x = pidA ms k := ⟨_, rfl⟩
      obtain ⟨y, hy⟩ : ∃ y, y = incA ms k := ⟨_, rfl⟩
      obtain ⟨z, hz⟩ : ∃ z, z = cidA ms k := ⟨_, rfl⟩
      rw [← hx] at q0 r0
      rw [← hy] at q1 r1
      rw [← hz] at q2 r2
      clear hx hy hz
      go_wp2_with fail
      go_quiet (fail)
      go_wp2_with fail
      go_roundw
      case rel => exact ⟨k + 1, _, by omega, by go_num, rfl⟩
      case measure => simp [intOf]; omega
    · have kn : ¬ (k : Int) < (nm : Int) := by omega
      clear hlt
      go_upto_region 11 with fail
      go_loopw [6] (fun i wr => ∃ k q : Nat, k ≤ nt ∧ i = .int .i64 k ∧ wr = W.drewN q) (fun i _ => nt - (intOf i).toNat)
      case atStart => exact ⟨0, q, Nat.zero_le _, rfl, rfl⟩
      case round =>
        obtain ⟨j, q2, hj, rfl, rfl⟩ := hrel
        by_cases hlt : j < nt
        · obtain ⟨ad, rfl, _, q0⟩ := RI.at_ H2.out hlt
          obtain ⟨ad', rfl, _, r0⟩ := RI.at_ H5.out hlt
          have k0 : (0 : Int) ≤ (j : Int) := by omega
          have kn2 : (j : Int) < (nt : Int) := by omega
          obtain ⟨x, hx⟩ : ∃ x, x = nth ts j := ⟨_, rfl⟩
          rw [← hx] at q0 r0
          clear hx
          go_wp2_with fail
          go_quiet (fail)
          go_wp2_with fail
          go_roundw
          case rel => exact ⟨j + 1, _, by omega, by go_num, rfl⟩
          case measure => simp [intOf]; omega
        · have kn2 : ¬ (j : Int) < (nt : Int) := by omega
          clear hlt
          go_wp2_with fail
          go_ret
          exact ⟨rfl, below_drewN HB.out _⟩
end Go.Proofs.YtenebkkfjalcaaaDoor
