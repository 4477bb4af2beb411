/-
  Contracts of the law's members, sameView.
-/
import Derived.Test.YteckffndboiknaaREnter
set_option linter.unusedVariables false
namespace Go.Proofs.Yteckffndboiknaa
open Go.RowKit Go.WideShapes Go.ChangeShapes Q

set_option maxRecDepth 100000 in
set_option maxHeartbeats 4000000 in
theorem memcopy_any (v : Vw) (A : Option Addr) (n c : Nat) (w : World) (hv : RS w w.heap.size A n v.ms) (hn : n * 24 ≤ 140737488351232) :
    Calls Try.prog 71 #[vwV v A n c] w fun e w' => ∃ A' c', e = .returned (vwV v A' n c') ∧ w'.ownsRow w.heap.size 103 3 (.slice A' n c') n (sts v.ms) ∧ Below w.heap.size w w' := by
  obtain ⟨i0, hi, hz0, hz1, hz2⟩ := info_parts info103
  unfold vwV
  go_enter Try.func71, Try.ntmps71
  go_wp2
  obtain ⟨w0, hw0⟩ : ∃ w0, w0 = (w.alloc (.cells #[.int .i64 v.ep, .int .i64 v.lead, .int .i64 v.inc, .int .i64 v.cid, .slice A n c] 63)).alloc (.cells #[.int .i64 0, .int .i64 0, .int .i64 0, .int .i64 0, .slice none 0 0] 63) := ⟨_, rfl⟩
  have H0 : Below w.heap.size w w0 := by rw [hw0]; exact ((Below.refl _ w).alloc (Nat.le_refl _) _).alloc (by simp) _
  have B0 : Blk w0 w.heap.size 63 #[.int .i64 v.ep, .int .i64 v.lead, .int .i64 v.inc, .int .i64 v.cid, .slice A n c] := by rw [hw0]; exact (Blk.new w 63 _).alloc _
  have R0 : Blk w0 (w.heap.size + 1) 63 #[.int .i64 0, .int .i64 0, .int .i64 0, .int .i64 0, .slice none 0 0] := by rw [hw0]; exact Blk.new' _ _ _ _ (by simp)
  have V0 : RS w0 w.heap.size A n v.ms := Reads.below hv H0
  rw [← hw0]
  clear hw0
  have hs0 := H0.size
  have hs1 := R0.lt
  have HB0 := hide B0
  have HR0 := hide R0
  clear B0 R0
  go_region_held3 (fun W => W.cell? ⟨w.heap.size, 0, none⟩ = some (.int .i64 v.ep) ∧ W.cell? ⟨w.heap.size, 1, none⟩ = some (.int .i64 v.lead) ∧ W.cell? ⟨w.heap.size, 2, none⟩ = some (.int .i64 v.inc) ∧ W.cell? ⟨w.heap.size, 3, none⟩ = some (.int .i64 v.cid) ∧ W.cell? ⟨w.heap.size, 4, none⟩ = some (.slice A n c))
    ((refine blk5 (t := 63) ?_; repeat (first | with_reducible exact HB1.out | with_reducible exact HB0.out | with_reducible refine Blk.drew ?_ | with_reducible refine Blk.alloc ?_ _ | with_reducible refine Blk.far ?_ (by simp) _)))
    ((refine step_append_any _ (by rfl) (.tmp 5) (.tmp 7) _ (by rfl) w.heap.size 103 i0 _ 3 24 Try.underlying61 hi hz0 hz1 hz2 (by rfl) (by omega) (.slice (some ⟨w0.heap.size, 0, none⟩) 0 0) 0 [] (by rfl) ?_ w.heap.size A n c (sts v.ms) (by rfl) ?_ (sts_one v.ms) ?_ ?_ ?_ ?_; exact own_none (Blk.new w0 103 #[]) hs0; exact Reads.alloc V0 (by omega) _; (unfold maxLen; omega); omega; (simp; omega); intro v1 w1 hown1 hg1 hat1; obtain ⟨A1, c1, hv1, _, _⟩ := own_val hown1; simp only [Nat.zero_add, List.nil_append] at hown1 hv1; rw [hv1] at hown1 ⊢; have hne : ∀ k, k < w0.heap.size → some k ≠ (Value.slice (some ⟨w0.heap.size, 0, none⟩) 0 0).ownBlock := (fun k hk e => by simp [Value.ownBlock] at e; omega); have HB1 := hide (Blk.grown (Blk.drew (HB0.out.alloc (.cells #[] 103))) hg1 (hne _ (by omega))); have HR1 := hide (Blk.grown (Blk.drew (HR0.out.alloc (.cells #[] 103))) hg1 (hne _ hs1)); obtain ⟨z0, z1, z2, z3, z4⟩ := blk5 HR1.out; have f0 := Blk.frozen HR1.out 0; have f1 := Blk.frozen HR1.out 1; have f2 := Blk.frozen HR1.out 2; have f3 := Blk.frozen HR1.out 3; have f4 := Blk.frozen HR1.out 4; have G1 : Below w.heap.size w w1 := H0.trans ((((Below.refl w.heap.size w0).alloc hs0 (.cells #[] 103)).drew).grown hg1 (by simp; omega) (by simp [Value.ownBlock]; omega))))
  have HO1 := hide hown1
  go_wp2
  refine bodyPost_ret (v := .agg #[.int .i64 v.ep, .int .i64 v.lead, .int .i64 v.inc, .int .i64 v.cid, .slice A1 n c1]) (by simp [results, Try.results71, go_sem, z0, z1, z2, z3, z4]) rfl ⟨A1, c1, rfl, ?_, ?_⟩
  · refine own_apart (F := fun k => k = w.heap.size + 1) HO1.out ?_ (apart_one HR1.out (by decide))
    repeat (first | with_reducible exact Only.refl _ _ | with_reducible refine Only.set1 ?_ _ _)
  · repeat (first | with_reducible exact G1 | exact Nat.le_succ w.heap.size | with_reducible refine Below.setCell ?_ ?_ _)

set_option maxRecDepth 100000 in
set_option maxHeartbeats 4000000 in
theorem sameView_true (v : Vw) (A A' : Option Addr) (n c c' : Nat) (w : World) (hv : RS w w.heap.size A n v.ms) (hv' : RS w w.heap.size A' n v.ms) (hn : n ≤ 17592186044416) :
    Calls Try.prog 73 #[vwV v A n c, vwV v A' n c'] w fun e w' => e = .returned (.bool true) ∧ Below w.heap.size w w' := by
  unfold vwV
  go_enter Try.func73, Try.ntmps73
  go_wp2
  obtain ⟨w0, hw0⟩ : ∃ w0, w0 = (w.alloc (.cells #[.int .i64 v.ep, .int .i64 v.lead, .int .i64 v.inc, .int .i64 v.cid, .slice A n c] 63)).alloc (.cells #[.int .i64 v.ep, .int .i64 v.lead, .int .i64 v.inc, .int .i64 v.cid, .slice A' n c'] 63) := ⟨_, rfl⟩
  have H0 : Below w.heap.size w w0 := by rw [hw0]; exact ((Below.refl _ w).alloc (Nat.le_refl _) _).alloc (by simp) _
  have B0 : Blk w0 w.heap.size 63 #[.int .i64 v.ep, .int .i64 v.lead, .int .i64 v.inc, .int .i64 v.cid, .slice A n c] := by rw [hw0]; exact (Blk.new w 63 _).alloc _
  have R0 : Blk w0 (w.heap.size + 1) 63 #[.int .i64 v.ep, .int .i64 v.lead, .int .i64 v.inc, .int .i64 v.cid, .slice A' n c'] := by rw [hw0]; exact Blk.new' _ _ _ _ (by simp)
  have V0 : RS w0 w.heap.size A n v.ms := Reads.below hv H0
  have V0' : RS w0 w.heap.size A' n v.ms := Reads.below hv' H0
  rw [← hw0]
  clear hw0
  obtain ⟨k0, k1, k2, k3, k4⟩ := blk5 B0
  obtain ⟨l0, l1, l2, l3, l4⟩ := blk5 R0
  clear B0 R0
  go_loopw [5] (fun i wr => ∃ (k m : Nat), k ≤ n ∧ i = .int .i64 k ∧ wr = w0.drewN m) (fun i _ => n - (intOf i).toNat)
  case atStart => exact ⟨0, 0, by omega, rfl, rfl⟩
  case round =>
    obtain ⟨k, m, hk, rfl, rfl⟩ := hrel
    by_cases hlt : k < n
    · obtain ⟨b, off, rfl, hab, q0, q1, q2⟩ := RS.at_ V0 hlt
      obtain ⟨b', off', rfl, _, r0, r1, r2⟩ := RS.at_ V0' hlt
      have i0 : (0 : Int) ≤ (k : Nat) := by omega
      have i1 : ((k : Nat) : Int) < n := by omega
      go_wp2
      go_quiet (fail)
      go_wp2
      go_roundw
      case rel => exact ⟨k + 1, _, by omega, by go_num, rfl⟩
      case measure => simp [intOf]; omega
    · obtain rfl : k = n := by omega
      go_wp2
      go_ret
      exact ⟨rfl, below_drewN H0 _⟩
end Go.Proofs.Yteckffndboiknaa
