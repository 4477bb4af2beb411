/-
  The reference's SameEvent: two events that say the same.
-/
import Derived.Test.YtcibcmfaebbhnaaDoorZEm
set_option linter.unusedVariables false
set_option linter.unusedSimpArgs false
namespace Go.Proofs.YtcibcmfaebbhnaaDoor
open Go.RowKit Go.WideShapes Go.ChangeShapes Q

theorem em_same {m m' : Em} (h : m.ev = m'.ev) (h1 : m.sd.length = m.ns) (h2 : m.bd.length = m.nb) (h3 : m'.sd.length = m'.ns) (h4 : m'.bd.length = m'.nb) : m' = { m with Ab := m'.Ab, cb := m'.cb, As := m'.As, cs' := m'.cs' } := by
  obtain ⟨kd, a, b, n, Ab, nb, cb, bd, cl, cn, rq, op, key, val, old, As, ns, cs, sd⟩ := m
  obtain ⟨kd', a', b', n', Ab', nb', cb', bd', cl', cn', rq', op', key', val', old', As', ns', cs', sd'⟩ := m'
  simp only [Em.ev, Ev.mk.injEq] at h
  obtain ⟨rfl, rfl, rfl, rfl, rfl, rfl, rfl, rfl, hk, hv, ho, rfl, rfl⟩ := h
  simp only at h1 h2 h3 h4
  have e1 : key = key' := ByteArray.ext (Array.toList_inj.1 hk)
  have e2 : val = val' := ByteArray.ext (Array.toList_inj.1 hv)
  have e3 : old = old' := ByteArray.ext (Array.toList_inj.1 ho)
  subst e1 e2 e3
  have e4 : ns' = ns := by omega
  have e5 : nb' = nb := by omega
  subst e4 e5
  rfl
set_option maxRecDepth 100000 in
set_option maxHeartbeats 4000000 in
theorem same_at (m : Em) (Ab' : Option Addr) (cb' : Nat) (As' : Option Addr) (cs2 : Nat) (w : World) (hm : EmIn w w.heap.size m) (hm' : EmIn w w.heap.size { m with Ab := Ab', cb := cb', As := As', cs' := cs2 }) :
    Calls Tryd.prog 10 #[.agg m.cs, .agg ({ m with Ab := Ab', cb := cb', As := As', cs' := cs2 } : Em).cs] w fun e w' => e = .returned (.bool true) ∧ Below w.heap.size w w' := by
  have HM := hide hm
  have HM' := hide hm'
  obtain ⟨kd, a, b, n, Ab, nb, cb, bd, cl, cn, rq, op, key, val, old, As, ns, cs1, sd⟩ := m
  have h1 := HM.out.sid
  have h2 := HM.out.body
  have h3 := HM'.out.sid
  have h4 := HM'.out.body
  have h5 := HM.out.hs
  simp only [Em.cs] at h1 h2 h3 h4 h5 ⊢
  obtain ⟨W, hW⟩ : ∃ W, W = (w.alloc (.cells #[.int .i64 kd, .int .i64 a, .int .i64 b, .int .i64 n, .slice Ab nb cb, .int .i64 cl, .int .i64 cn, .int .i64 rq, .int .i64 op, .string key, .string val, .string old, .slice As ns cs1] 29)).alloc (.cells #[.int .i64 kd, .int .i64 a, .int .i64 b, .int .i64 n, .slice Ab' nb cb', .int .i64 cl, .int .i64 cn, .int .i64 rq, .int .i64 op, .string key, .string val, .string old, .slice As' ns cs2] 29) := ⟨_, rfl⟩
  have HWE := hide hW
  have HB : Hid (Below w.heap.size w W) := by rw [hW]; exact ((Below.refl _ _).alloc (Nat.le_refl _) _).alloc (by simp) _
  have H1 := hide (Reads.below h1 HB.out)
  have H3 := hide (Reads.below h3 HB.out)
  have HC2 := conv_reads (c := cb) (Reads.below h2 HB.out)
  have HC4 := conv_reads (c := cb') (Reads.below h4 HB.out)
  have htl := hide (RI.len h1)
  have c12 : W.cell? ⟨w.heap.size, 12, none⟩ = some (.slice As ns cs1) := by
    rw [hW]
    exact ((Blk.new _ _ _).alloc _).cell 12
  have d12 : W.cell? ⟨w.heap.size + 1, 12, none⟩ = some (.slice As' ns cs2) := by
    rw [hW]
    exact (blk_new _ _ _ _ (by simp)).cell 12
  rw [hW] at HC2 HC4
  clear h1 h2 h3 h4 hm hm' hW
  go_enter Tryd.func10, Tryd.ntmps10
  go_upto_region 4 with fail
  rw [← HWE.out]
  clear HC2 HC4
  go_loopw [5] (fun i wr => ∃ k q : Nat, k ≤ ns ∧ i = .int .i64 k ∧ wr = W.drewN q) (fun i _ => ns - (intOf i).toNat)
  case atStart => exact ⟨0, 0, Nat.zero_le _, rfl, rfl⟩
  case round =>
    obtain ⟨k, q, hk, rfl, rfl⟩ := hrel
    by_cases hlt : k < ns
    · obtain ⟨ad, rfl, _, q0⟩ := RI.at_ H1.out hlt
      obtain ⟨ad', rfl, _, r0⟩ := RI.at_ H3.out hlt
      have k0 : (0 : Int) ≤ (k : Int) := by omega
      have kn : (k : Int) < (ns : Int) := by omega
      obtain ⟨x, hx⟩ : ∃ x, x = nth sd k := ⟨_, rfl⟩
      rw [← hx] at q0 r0
      clear hx
      go_wp2_with fail
      go_quiet (fail)
      go_wp2_with fail
      go_roundw
      case rel => exact ⟨k + 1, _, by omega, by go_num, rfl⟩
      case measure => simp [intOf]; omega
    · have kn : ¬ (k : Int) < (ns : Int) := by omega
      clear hlt
      go_wp2_with fail
      go_ret
      exact ⟨rfl, below_drewN HB.out q⟩
theorem same_true {m m' : Em} (w : World) (hm : EmIn w w.heap.size m) (hm' : EmIn w w.heap.size m') (h : m.ev = m'.ev) :
    Calls Tryd.prog 10 #[.agg m.cs, .agg m'.cs] w fun e w' => e = .returned (.bool true) ∧ Below w.heap.size w w' := by
  have e := em_same h (RI.len hm.sid) (by have := Reads.len_ hm.body; simpa [Lib.byteCells] using this) (RI.len hm'.sid) (by have := Reads.len_ hm'.body; simpa [Lib.byteCells] using this)
  have hm2 := hm'
  rw [e] at hm2 ⊢
  exact same_at m m'.Ab m'.cb m'.As m'.cs' w hm hm2
end Go.Proofs.YtcibcmfaebbhnaaDoor
