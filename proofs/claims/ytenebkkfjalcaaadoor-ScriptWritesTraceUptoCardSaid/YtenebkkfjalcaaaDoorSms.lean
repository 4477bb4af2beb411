/-
  The reference's SameMarks: a list of marks and one with the same content.
-/
import Derived.Test.YtenebkkfjalcaaaDoorMks
import Derived.StillTailTactics
set_option linter.unusedVariables false
set_option linter.unusedSimpArgs false
namespace Go.Proofs.YtenebkkfjalcaaaDoor
open Go.RowKit Go.WideShapes Go.ChangeShapes Q

section
variable {P : Program}
theorem run_load_at (w : World) (ad : Addr) (ty : TypeId) (cs : Array Value) (d : TypeDesc) (hu : P.underlying ty = some d) (hd : (match d with | .struct _ | .array _ _ => true | _ => false) = true) (hi : (P.info? ty).map (·.size) = some cs.size)
    (h : ∀ j v, cs[j]? = some v → w.cell? (ad.add j) = some v) : (loadVar ty ad).run P w = .ok (.agg cs) w := by
  have hl : (loadCells ad cs.toList.length).run P w = .ok cs.toList.toArray w := run_loadCells_list (P := P) w ad cs.toList (fun j v hv => h j v (by simpa using hv))
  cases hq : P.info? ty with
  | none => simp [hq] at hi
  | some i =>
    have hs : i.size = cs.size := by simpa [hq] using hi
    have hagg : (isAgg ty).run P w = .ok true w := by
      unfold isAgg
      rw [Sem.run_bind, run_underlying hu w]
      cases d <;> simp_all
    simp only [Array.length_toList, Array.toArray_toList] at hl
    simp [loadVar, Sem.run_bind, hagg, sizeOf, typeInfo, hq, hs, hl]
theorem still_load_at {ops : Array Oper} {rest : List Oper} {o : Oper} {a : Act} {w : World} {Q : Act → Prop} (hw : Region.wanted o (yielded ops a.tmps) = true) (ty : TypeId) (x : Operand) (ho : o.op = .load ty x)
    (ad : Addr) (hx : a.eval x = .pointer (some ad)) (cs : Array Value) (d : TypeDesc)
    (hu : P.underlying ty = some d) (hd : (match d with | .struct _ | .array _ _ => true | _ => false) = true) (hi : (P.info? ty).map (·.size) = some cs.size) (hc : ∀ j v, cs[j]? = some v → w.cell? (ad.add j) = some v)
    (h : wpStill P ops w Q rest (a.put o.dst (.agg cs))) : wpStill P ops w Q (o :: rest) a := by
  refine wpStill_step fun K hK => ?_
  rw [if_pos hw]
  unfold Oper.still execOp
  simp only [ho, hx, Instr.loadAt, Instr.sureAddr, Sem.run_bind, Sem.run_pure, Result.andThen_ok, run_load_at w ad ty cs d hu hd hi hc, Oper.stillUpon_value]
  exact hK _ h
end
theorem ld48 (cs : Array Value) (h : cs.size = 26) : (Tryd.prog.info? 48).map (·.size) = some cs.size := by rw [h]; kernel_rfl
theorem cells_add {W : World} {b off : Nat} {m : Mk} (h : ∀ i, i < 26 → W.cell? ⟨b, off + i, none⟩ = m.cs[i]?) : ∀ j v, m.cs[j]? = some v → W.cell? ((⟨b, off, none⟩ : Addr).add j) = some v := fun j v hv => by
  have hj : j < 26 := by have := (Array.getElem?_eq_some_iff.1 hv).1; rw [mk_size] at this; exact this
  rw [← hv, ← h j hj]
  congr 1
  unfold Addr.add
  split
  · rename_i h0; simp [h0]
  · rfl
/-- The second list has the first one's content. -/
def SameC (l l' : List Mk) : Prop := l'.length = l.length ∧ ∀ (k : Nat) m m', l[k]? = some m → l'[k]? = some m' → ∃ Am cm At ct Ab cb, m' = m.at Am cm At ct Ab cb
theorem MsIn.below {w w' : World} {B n : Nat} {A : Option Addr} {l : List Mk} (h : MsIn w B A n l) (hb : Below B w w') : MsIn w' B A n l := ⟨h.row.below hb, fun m hm => (h.ent m hm).below hb⟩
theorem MkIn.drew {w : World} {B : Nat} {m : Mk} (h : MkIn w B m) : MkIn w.drew B m := ⟨Reads.drew h.mem, Reads.drew h.tr, Reads.drew h.body, h.hm, h.ht, h.hb⟩

set_option maxRecDepth 100000 in
set_option maxHeartbeats 4000000 in
theorem sameMarks_true (A A' : Option Addr) (n c c' : Nat) (l l' : List Mk) (w : World) (h : MsIn w w.heap.size A n l) (h' : MsIn w w.heap.size A' n l') (hs : SameC l l') (hn : n ≤ 10000000) :
    Calls Tryd.prog 11 #[.slice A n c, .slice A' n c'] w fun e w' => e = .returned (.bool true) ∧ Below w.heap.size w w' := by
  have H := hide h
  have H' := hide h'
  have HS := hide hs
  clear h h' hs
  go_enter Tryd.func11, Tryd.ntmps11
  go_upto_region 4 with fail
  go_loopw [5] (fun i wr => ∃ k : Nat, k ≤ n ∧ i = .int .i64 k ∧ Hid (Below w.heap.size w wr)) (fun i _ => n - (intOf i).toNat)
  case atStart => exact ⟨0, Nat.zero_le _, rfl, Below.refl _ _⟩
  case round =>
    obtain ⟨k, hk, rfl, hb⟩ := hrel
    by_cases hlt : k < n
    · obtain ⟨b, off, m, rfl, hbB, hm, hin, qc⟩ := (H.out.below hb.out).at_ hlt
      obtain ⟨b', off', m', rfl, hbB', hm', hin', rc⟩ := (H'.out.below hb.out).at_ hlt
      obtain ⟨Am', cm', At', ct', Ab', cb', hme⟩ := HS.out.2 k m m' hm hm'
      have hsw : w.heap.size ≤ wr.heap.size := hb.out.size
      have HSM : Hid (Calls Tryd.prog 21 #[.agg m.cs, .agg m'.cs] wr.drew fun e w' => e = .returned (.bool true) ∧ Below wr.heap.size wr.drew w') := by
        rw [hme]
        rw [hme] at hin'
        exact sameMark_true m Am' cm' At' ct' Ab' cb' wr.drew (hin.more hsw).drew (hin'.more hsw).drew
      have HQ := hide (cells_add qc)
      have HR := hide (cells_add rc)
      clear hm hm' hin hin' hme qc rc
      have k0 : (0 : Int) ≤ (k : Int) := by omega
      have kn : (k : Int) < (n : Int) := by omega
      go_upto_region 6 with fail
      refine wp_region_still_tail 8 (by kernel_rfl) (by kernel_rfl) ?_
      simp only [List.take_succ_cons, List.take_zero, List.drop_succ_cons, List.drop_zero]
      still_step
      still_step
      still_step
      refine still_load_at (by rfl) 48 (.tmp 19) rfl ⟨b, off + k * 26, none⟩ (by rfl) m.cs _ Tryd.underlying48 rfl (ld48 _ (mk_size _)) HQ.out ?_
      still_step
      still_step
      still_step
      refine still_load_at (by rfl) 48 (.tmp 23) rfl ⟨b', off' + k * 26, none⟩ (by rfl) m'.cs _ Tryd.underlying48 rfl (ld48 _ (mk_size _)) HR.out ?_
      try refine wpStill_nil ?_
      change wpList _ _ _ _ _ wr.drew
      go_wp2_with (go_at_call 21; refine HSM.out.mono ?_; rintro e w2 ⟨rfl, hb2⟩; have HB2 := hide hb2; clear hb2)
      have HBN : Hid (Below w.heap.size w w2) := (below_drewN hb.out 1).trans (HB2.out.mono hsw)
      go_roundw
      case rel => exact ⟨k + 1, by omega, by go_num, HBN⟩
      case measure => simp [intOf]; omega
    · have kn : ¬ (k : Int) < (n : Int) := by omega
      clear hlt
      go_wp2_with fail
      go_ret
      exact ⟨rfl, hb.out⟩
end Go.Proofs.YtenebkkfjalcaaaDoor
