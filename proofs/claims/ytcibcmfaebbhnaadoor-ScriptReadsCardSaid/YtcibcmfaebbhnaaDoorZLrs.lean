/-
  The law ScriptReads, walked: the program and the reference read the same script of every text.
-/
import Derived.Test.YtcibcmfaebbhnaaDoorZPps
import Derived.Test.YtcibcmfaebbhnaaDoorZSms
set_option linter.unusedVariables false
set_option linter.unusedSimpArgs false
namespace Go.Proofs.YtcibcmfaebbhnaaDoor
open Go.RowKit Go.WideShapes Go.ChangeShapes Q

theorem wpList_gvalue {P : Program} {ops : Array Oper} {rest : List Oper} {o : Oper} {a : Act} {V : World} {Q : Exit → Act → World → Prop} (hw : Region.wanted o (yielded ops a.tmps) = true) (v : Value) (he : (execOp a.eval o).run P V = .ok (.value v) V)
    (h : wpList P ops Q rest (a.put o.dst v) V) : wpList P ops Q (o :: rest) a V := by
  refine wpList_step (fun K hK => ?_)
  rw [if_pos hw]
  unfold Oper.wp
  rw [he]
  exact hK _ _ h
theorem numz_any (x : Int) (w : World) : Calls Tryd.prog 15 #[.int .i64 x] w fun e w' => e = .returned (.int .i64 x) ∧ w = w' := by
  go_enter Tryd.func15, Tryd.ntmps15
  go_wp2
  go_ret
  exact ⟨rfl, rfl⟩
set_option maxRecDepth 100000 in
set_option maxHeartbeats 3000000 in
theorem reads_script (s : ByteArray) (w : World) (hT : OpT w) (hM : ML w) :
    Calls Tryd.prog 5 #[.string s] w fun e w' => e = .returned (.bool true) ∧ Below w.heap.size w w' := by
  obtain ⟨T, hTT⟩ : ∃ T, T = parseE s.data.toList := ⟨_, rfl⟩
  have h0w : 0 < w.heap.size := hT.lt
  have HPP := hide (pparse_script s w hT hM h0w)
  have HPR : Hid (∀ W, Calls Tryd.prog 17 #[.string s] W fun e w' => ParP T W e w') := fun W => by rw [hTT]; exact rparse_script s W
  rw [← hTT] at HPP
  clear hT hM hTT
  go_enter Tryd.func5, Tryd.ntmps5
  go_upto_region 1 with fail
  refine wp_region_lit ?_
  refine wpList_value rfl (.string s) (by go_simp) ?_
  try simp only [Act.put, List.setIfInBounds_toArray, List.set_cons_zero, List.set_cons_succ]
  refine wpList_step (fun K hK => ?_)
  rw [if_pos (by rfl)]
  go_simp
  go_at_call 16
  refine HPP.out.mono ?_
  rintro e w1 ⟨s1, n1, f1, rfl, h1, hu1, hb1⟩
  have HE1 := hide h1
  have HU1 := hide hu1
  have HB1 := hide hb1
  refine hK _ _ ?_
  clear hK K h1 hu1 hb1 HPP
  try simp only [Act.put, List.setIfInBounds_toArray, List.set_cons_zero, List.set_cons_succ]
  refine wpList_value rfl (.tuple #[.agg s1.cs, .int .i64 n1, .int .i64 f1]) (by go_simp) ?_
  try simp only [Act.put, List.setIfInBounds_toArray, List.set_cons_zero, List.set_cons_succ]
  refine wpList_value rfl (.agg s1.cs) (by go_simp) ?_
  try simp only [Act.put, List.setIfInBounds_toArray, List.set_cons_zero, List.set_cons_succ]
  refine wpList_value rfl (.int .i64 n1) (by go_simp) ?_
  try simp only [Act.put, List.setIfInBounds_toArray, List.set_cons_zero, List.set_cons_succ]
  refine wpList_value rfl (.int .i64 f1) (by go_simp) ?_
  try simp only [Act.put, List.setIfInBounds_toArray, List.set_cons_zero, List.set_cons_succ]
  refine wpList_step (fun K hK => ?_)
  rw [if_pos (by rfl)]
  go_simp
  refine hK _ _ ?_
  clear hK K
  refine wpList_store_fresh rfl 47 (.tmp 3) (.tmp 12) rfl _ s1.cs rfl rfl (ld47 _ (sm_size _)) rfl (sm_all _) ?_
  try simp only [Act.put, List.setIfInBounds_toArray, List.set_cons_zero, List.set_cons_succ]
  obtain ⟨w2, hw2⟩ : ∃ w2, w2 = World.alloc w1 (.cells s1.cs 47) := ⟨_, rfl⟩
  obtain ⟨g1, hg1⟩ : ∃ g1, g1 = w1.heap.size := ⟨_, rfl⟩
  have hal : Below w1.heap.size w1 w2 := by rw [hw2]; exact (Below.refl _ _).alloc (Nat.le_refl _) _
  have HX2 : Hid (Blk w2 g1 47 s1.cs) := by show Blk _ _ _ _; rw [hw2, hg1]; exact Blk.new _ _ _
  have HU2 := hide (HU1.out.step hal)
  have HB2 := hide (HB1.out.trans (hal.mono HB1.out.size))
  rw [← hw2]
  try rw [← hg1]
  clear hw2 hg1 hal HU1 HB1
  have hsw2 : w.heap.size ≤ w2.heap.size := HB2.out.size
  go_upto_region 2 with fail
  refine wp_region_lit ?_
  refine wpList_value rfl (.string s) (by go_simp) ?_
  try simp only [Act.put, List.setIfInBounds_toArray, List.set_cons_zero, List.set_cons_succ]
  refine wpList_step (fun K hK => ?_)
  rw [if_pos (by rfl)]
  go_simp
  go_at_call 17
  refine (HPR.out _).mono ?_
  rintro e w3 ⟨s2, n2, f2, rfl, h2, hu2, hb2⟩
  have HE2 := hide h2
  have HU3 := hide (HU2.out.step hb2)
  have HV3 := hide hu2
  have HX3 := hide (HX2.out.below hb2 HX2.out.lt)
  have HB3 := hide (HB2.out.trans (hb2.mono hsw2))
  refine hK _ _ ?_
  clear hK K h2 hu2 hb2 HPR HU2 HX2 HB2
  try simp only [Act.put, List.setIfInBounds_toArray, List.set_cons_zero, List.set_cons_succ]
  refine wpList_value rfl (.tuple #[.agg s2.cs, .int .i64 n2, .int .i64 f2]) (by go_simp) ?_
  try simp only [Act.put, List.setIfInBounds_toArray, List.set_cons_zero, List.set_cons_succ]
  refine wpList_value rfl (.agg s2.cs) (by go_simp) ?_
  try simp only [Act.put, List.setIfInBounds_toArray, List.set_cons_zero, List.set_cons_succ]
  refine wpList_value rfl (.int .i64 n2) (by go_simp) ?_
  try simp only [Act.put, List.setIfInBounds_toArray, List.set_cons_zero, List.set_cons_succ]
  refine wpList_value rfl (.int .i64 f2) (by go_simp) ?_
  try simp only [Act.put, List.setIfInBounds_toArray, List.set_cons_zero, List.set_cons_succ]
  refine wpList_step (fun K hK => ?_)
  rw [if_pos (by rfl)]
  go_simp
  refine hK _ _ ?_
  clear hK K
  refine wpList_store_fresh rfl 47 (.tmp 6) (.tmp 18) rfl _ s2.cs rfl rfl (ld47 _ (sm_size _)) rfl (sm_all _) ?_
  try simp only [Act.put, List.setIfInBounds_toArray, List.set_cons_zero, List.set_cons_succ]
  obtain ⟨w4, hw4⟩ : ∃ w4, w4 = World.alloc w3 (.cells s2.cs 47) := ⟨_, rfl⟩
  obtain ⟨g2, hg2⟩ : ∃ g2, g2 = w3.heap.size := ⟨_, rfl⟩
  have hal : Below w3.heap.size w3 w4 := by rw [hw4]; exact (Below.refl _ _).alloc (Nat.le_refl _) _
  have HY4 : Hid (Blk w4 g2 47 s2.cs) := by show Blk _ _ _ _; rw [hw4, hg2]; exact Blk.new _ _ _
  have HU4 := hide (HU3.out.step hal)
  have HV4 := hide (HV3.out.step hal)
  have HX4 := hide (HX3.out.below hal HX3.out.lt)
  have HB4 := hide (HB3.out.trans (hal.mono HB3.out.size))
  rw [← hw4]
  try rw [← hg2]
  clear hw4 hg2 hal HU3 HV3 HX3 HB3
  have hsw4 : w.heap.size ≤ w4.heap.size := HB4.out.size
  have HEE : Hid ((s1.sc, n1, f1) = (s2.sc, n2, f2)) := HE1.out.symm.trans HE2.out
  have HSC : Hid (s1.sc = s2.sc) := by have := HEE.out; injection this
  have hnn : n1 = n2 := by have := HEE.out; injection this with _ h; injection h
  have hff : f1 = f2 := by have := HEE.out; injection this with _ h; injection h
  have HSS : Hid (Calls Tryd.prog 18 #[.agg s1.cs, .agg s2.cs] w4 fun e w' => e = .returned (.bool true) ∧ Below w4.heap.size w4 w') := same_scripts w4 HU4.out.inn HV4.out.inn HSC.out
  subst hnn hff
  clear HE1 HE2 HEE
  have q1 : (n1 == n1) = true := by simp
  have q2 : (f1 == f1) = true := by simp
  go_wp2_with first
    | (refine wpList_gvalue (by rfl) (.agg s1.cs) (ex_load 47 (.tmp 3) rfl _ rfl _ _ Tryd.underlying47 rfl (ld47 _ (sm_size _)) (box_all HX4.out)) ?_)
    | (refine wpList_gvalue (by rfl) (.agg s2.cs) (ex_load 47 (.tmp 6) rfl _ rfl _ _ Tryd.underlying47 rfl (ld47 _ (sm_size _)) (box_all HY4.out)) ?_)
    | (go_at_call 15; refine (numz_any _ _).mono ?_; rintro e w5 ⟨rfl, rfl⟩)
    | (go_at_call 18; refine HSS.out.mono ?_; rintro e w5 ⟨rfl, hb5⟩; have HB5 := hide (HB4.out.trans (hb5.mono hsw4)); clear hb5)
  go_ret
  exact ⟨rfl, HB5.out⟩
end Go.Proofs.YtcibcmfaebbhnaaDoor
