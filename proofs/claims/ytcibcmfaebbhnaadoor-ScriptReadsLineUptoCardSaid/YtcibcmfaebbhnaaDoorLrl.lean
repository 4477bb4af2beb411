/-
  The law ScriptReadsLine, walked: the program and the reference read the same event of every line.
-/
import Derived.Test.YtcibcmfaebbhnaaDoorPpe
import Derived.Test.YtcibcmfaebbhnaaDoorWpa
import Derived.Test.YtcibcmfaebbhnaaDoorSev
set_option linter.unusedVariables false
set_option linter.unusedSimpArgs false
namespace Go.Proofs.YtcibcmfaebbhnaaDoor
open Go.RowKit Go.WideShapes Go.ChangeShapes Q

set_option maxRecDepth 100000 in
set_option maxHeartbeats 3000000 in
theorem reads_line (s : ByteArray) (nodes : Int) (w : World) (hs : s.size ≤ 1048576) (hT : OpT w) :
    Calls Tryd.prog 3 #[.agg #[.string s, .int .i64 nodes]] w fun e w' => e = .returned (.bool true) ∧ Below w.heap.size w w' := by
  have HT := hide hT
  have HPP : Hid (∀ W, OpT W → Calls Tryd.prog 9 #[.string s, .int .i64 nodes] W fun e w' => EvP (lineE nodes s.data.toList) W.heap.size W e w') := fun W h => pparse_ev s nodes W hs h
  have HPR : Hid (∀ W, Calls Tryd.prog 11 #[.string s, .int .i64 nodes] W fun e w' => EvP (lineE nodes s.data.toList) W.heap.size W e w') := fun W => rparse_ev s nodes W hs
  have h0w : 0 < w.heap.size := hT.lt
  clear hT hs
  go_enter Tryd.func3, Tryd.ntmps3
  go_upto_region 1 with fail
  generalize hW1 : World.alloc w _ = W1
  have HB1 : Hid (Below w.heap.size w W1) := by
    show Below _ _ _
    rw [← hW1]
    exact (Below.refl _ _).alloc (Nat.le_refl _) _
  have HX1 : Hid (Blk W1 w.heap.size 23 #[.string s, .int .i64 nodes]) := by
    show Blk _ _ _ _
    rw [← hW1]
    exact Blk.new _ _ _
  have HT1 : Hid (OpT W1) := HT.out.below HB1.out h0w
  clear hW1
  have c0 : W1.cell? ⟨w.heap.size, 0, none⟩ = some (.string s) := HX1.out.cell 0
  have c1 : W1.cell? ⟨w.heap.size, 1, none⟩ = some (.int .i64 nodes) := HX1.out.cell 1
  refine wp_region_lit ?_
  refine wpList_value rfl (.pointer (some ⟨w.heap.size, 0, none⟩)) (by go_simp) ?_
  try simp only [Act.put, List.setIfInBounds_toArray, List.set_cons_zero, List.set_cons_succ]
  refine wpList_value rfl (.string s) (by go_simp) ?_
  try simp only [Act.put, List.setIfInBounds_toArray, List.set_cons_zero, List.set_cons_succ]
  refine wpList_value rfl (.pointer (some ⟨w.heap.size, 1, none⟩)) (by go_simp) ?_
  try simp only [Act.put, List.setIfInBounds_toArray, List.set_cons_zero, List.set_cons_succ]
  refine wpList_value rfl (.int .i64 nodes) (by go_simp) ?_
  try simp only [Act.put, List.setIfInBounds_toArray, List.set_cons_zero, List.set_cons_succ]
  refine wpList_step (fun K hK => ?_)
  rw [if_pos (by rfl)]
  go_simp
  go_at_call 9
  refine (HPP.out _ HT1.out).mono ?_
  rintro e w2 ⟨m1, rfl, hev1, ht1, hb2⟩
  have HB2 := hide (HB1.out.trans (hb2.mono HB1.out.size))
  have HM1 := hide (ht1.base HB1.out.size)
  have HE1 := hide hev1
  have HX2 := hide (HX1.out.below hb2 HX1.out.lt)
  refine hK _ _ ?_
  clear hK K hb2 hev1 ht1 c0 c1 HX1
  try simp only [Act.put, List.setIfInBounds_toArray, List.set_cons_zero, List.set_cons_succ]
  refine wpList_step (fun K hK => ?_)
  rw [if_pos (by rfl)]
  go_simp
  refine hK _ _ ?_
  clear hK K
  refine wpList_store_fresh rfl 29 (.tmp 3) (.tmp 8) rfl _ m1.cs rfl rfl (ld29 _ (em_size _)) rfl (ecs_all m1) ?_
  try simp only [Act.put, List.setIfInBounds_toArray, List.set_cons_zero, List.set_cons_succ]
  obtain ⟨W3, hW3⟩ : ∃ W3, W3 = w2.alloc (.cells m1.cs 29) := ⟨_, rfl⟩
  have hb3 : Below w2.heap.size w2 W3 := by rw [hW3]; exact (Below.refl _ _).alloc (Nat.le_refl _) _
  have HB3 := hide (HB2.out.trans (hb3.mono HB2.out.size))
  have HM3 := hide (HM1.out.step hb3)
  have HX3 := hide (HX2.out.below hb3 HX2.out.lt)
  have HE3 : Hid (Blk W3 w2.heap.size 29 m1.cs) := by show Blk _ _ _ _; rw [hW3]; exact Blk.new _ _ _
  rw [← hW3]
  clear hW3 hb3 HM1 HX2
  go_upto_region 2 with fail
  have HQ3 : Hid (Blk W3.drew w2.heap.size 29 m1.cs ∧ Blk W3.drew w.heap.size 23 #[.string s, .int .i64 nodes]) := ⟨HE3.out.drew, HX3.out.drew⟩
  obtain ⟨W4, hW4⟩ : ∃ W4, W4 = W3.drew := ⟨_, rfl⟩
  have HB4 : Hid (Below w.heap.size w W4) := by show Below _ _ _; rw [hW4]; exact HB3.out.drew
  have HM4 : Hid (EmU W4 w.heap.size m1) := by show EmU _ _ _; rw [hW4]; exact HM3.out.drew
  refine wp_region_L [] (fun V => Blk V w2.heap.size 29 m1.cs ∧ Blk V w.heap.size 23 #[.string s, .int .i64 nodes]) (by kernel_rfl) ?_
  rw [← hW4] at HQ3 ⊢
  clear hW4
  have HC : Hid (∀ V, Blk V w.heap.size 23 #[.string s, .int .i64 nodes] → V.cell? ⟨w.heap.size, 0, none⟩ = some (.string s) ∧ V.cell? ⟨w.heap.size, 1, none⟩ = some (.int .i64 nodes)) := fun V h => ⟨h.cell 0, h.cell 1⟩
  refine wpL_take 0 (oi := ⟨some 9, _, _, _, _, _⟩) (v := .agg m1.cs) rfl (by kernel_rfl) (by kernel_rfl) (by kernel_rfl) (by kernel_rfl) (fun _ _ _ h => h) (Or.inl ⟨by rfl, ?_⟩) HQ3.out ?_
  · intro V hV
    exact ex_load 29 (.tmp 3) rfl _ rfl m1.cs _ Tryd.underlying29 rfl (ld29 _ (em_size _)) (ebox_all hV.1)
  try simp only [Act.put, List.setIfInBounds_toArray, List.set_cons_zero, List.set_cons_succ]
  refine wpL_take 1 (oi := ⟨some 10, _, _, _, _, _⟩) (v := ?_) rfl (by kernel_rfl) (by kernel_rfl) (by kernel_rfl) (by kernel_rfl) (fun _ _ _ h => h) (Or.inl ⟨by rfl, ?_⟩) HQ3.out ?_
  rotate_left
  · intro V hV
    go_simp
    try with_reducible rfl
  try simp only [Act.put, List.setIfInBounds_toArray, List.set_cons_zero, List.set_cons_succ]
  refine wpL_take 2 (oi := ⟨some 11, _, _, _, _, _⟩) (v := ?_) rfl (by kernel_rfl) (by kernel_rfl) (by kernel_rfl) (by kernel_rfl) (fun _ _ _ h => h) (Or.inl ⟨by rfl, ?_⟩) HQ3.out ?_
  rotate_left
  · intro V hV
    have k := (HC.out V hV.2).1
    go_simp
    try with_reducible rfl
  try simp only [Act.put, List.setIfInBounds_toArray, List.set_cons_zero, List.set_cons_succ]
  refine wpL_take 3 (oi := ⟨some 12, _, _, _, _, _⟩) (v := ?_) rfl (by kernel_rfl) (by kernel_rfl) (by kernel_rfl) (by kernel_rfl) (fun _ _ _ h => h) (Or.inl ⟨by rfl, ?_⟩) HQ3.out ?_
  rotate_left
  · intro V hV
    go_simp
    try with_reducible rfl
  try simp only [Act.put, List.setIfInBounds_toArray, List.set_cons_zero, List.set_cons_succ]
  refine wpL_take 4 (oi := ⟨some 13, _, _, _, _, _⟩) (v := ?_) rfl (by kernel_rfl) (by kernel_rfl) (by kernel_rfl) (by kernel_rfl) (fun _ _ _ h => h) (Or.inl ⟨by rfl, ?_⟩) HQ3.out ?_
  rotate_left
  · intro V hV
    have k := (HC.out V hV.2).2
    go_simp
    try with_reducible rfl
  try simp only [Act.put, List.setIfInBounds_toArray, List.set_cons_zero, List.set_cons_succ]
  refine wpL_one 5 (by kernel_rfl) rfl (fun K hK => ?_)
  rw [if_pos (by rfl)]
  go_simp
  go_at_call 11
  refine (HPR.out _).mono ?_
  rintro e w5 ⟨m2, rfl, hev2, ht2, hb5⟩
  have HQ5 : Hid (Blk w5 w2.heap.size 29 m1.cs ∧ Blk w5 w.heap.size 23 #[.string s, .int .i64 nodes]) := ⟨HQ3.out.1.below hb5 HQ3.out.1.lt, HQ3.out.2.below hb5 HQ3.out.2.lt⟩
  have HB5 := hide (HB4.out.trans (hb5.mono HB4.out.size))
  have HSM := hide (same_true (m := m1) (m' := m2) w5 ((HM4.out.step hb5).inn) ht2.inn (HE1.out.trans hev2.symm))
  refine hK _ _ (fun _ => HQ5.out) ?_
  clear hK K hb5 hev2 ht2
  try simp only [Act.put, List.setIfInBounds_toArray, List.set_cons_zero, List.set_cons_succ]
  refine wpL_one 6 (by kernel_rfl) rfl (fun K hK => ?_)
  rw [if_pos (by rfl)]
  go_simp
  go_at_call 10
  refine HSM.out.mono ?_
  rintro e w6 ⟨rfl, hb6⟩
  have HQ6 : Hid (Blk w6 w2.heap.size 29 m1.cs ∧ Blk w6 w.heap.size 23 #[.string s, .int .i64 nodes]) := ⟨HQ5.out.1.below hb6 HQ5.out.1.lt, HQ5.out.2.below hb6 HQ5.out.2.lt⟩
  have HB6 := hide (HB5.out.trans (hb6.mono HB5.out.size))
  refine hK _ _ (fun _ => HQ6.out) ?_
  clear hK K hb6
  try simp only [Act.put, List.setIfInBounds_toArray, List.set_cons_zero, List.set_cons_succ]
  refine wpL_take 7 (oi := ⟨some 2, _, _, _, _, _⟩) (v := ?_) rfl (by kernel_rfl) (by kernel_rfl) (by kernel_rfl) (by kernel_rfl) (fun _ _ _ h => h) (Or.inl ⟨by rfl, ?_⟩) HQ6.out ?_
  rotate_left
  · intro V hV
    go_simp
    try with_reducible rfl
  try simp only [Act.put, List.setIfInBounds_toArray, List.set_cons_zero, List.set_cons_succ]
  refine wpL_done (by kernel_rfl) ?_ _
  go_wp2_with fail
  go_ret
  exact ⟨rfl, HB6.out⟩
end Go.Proofs.YtcibcmfaebbhnaaDoor
