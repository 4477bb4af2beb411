/-
  The program's PrintEvent. (Printed by wip/tools/mkppv.py.)
-/
import Derived.Test.YtcibcmfaebbhnaaDoorZPln
import Derived.Test.YtcibcmfaebbhnaaDoorZPpe
import Derived.Test.YtcibcmfaebbhnaaDoorZWords
set_option linter.unusedVariables false
set_option linter.unusedSimpArgs false
namespace Go.Proofs.YtcibcmfaebbhnaaDoor
open Go.RowKit Go.WideShapes Go.ChangeShapes Q
set_option maxRecDepth 100000 in
set_option maxHeartbeats 3000000 in
theorem pprint_ev (m : Em) (nodes : Int) (w : World) (h : EmIn w w.heap.size m) (ho : EvOk m) (hT : OpT w) (hTb : Tab w) :
    Calls Tryd.prog 13 #[.agg m.cs, .int .i64 nodes] w fun e w' => RprP nodes m.ev w e w' := by
  obtain ⟨T, hTT⟩ : ∃ T, T = lineT m.ev := ⟨_, rfl⟩
  have HTS : Hid (T.length ≤ 30000000) := by
    show _ ≤ _
    rw [hTT]
    exact line_sz ho h.nb_len (RI.len h.sid)
  have HOT := hide hT
  have H0 := hide hT.lt
  have HTB := hide hTb
  have HWR : Hid (∀ W, Below w.heap.size w W → Calls Tryd.prog 32 #[.agg m.cs] W fun e w' => e = .returned (.string (S T)) ∧ Below W.heap.size W w') := fun W hb => by
    rw [hTT]
    exact line_any m W ((h.below hb).up hb.size) ho (hT.below hb hT.lt) (hTb.below hb)
  have HPR : Hid (printE nodes m.ev = if 1 ≤ nodes ∧ nodes ≤ 16 then (if T ≠ [] ∧ lineE nodes T = m.ev then (T, 0) else ([], 24)) else ([], 1)) := by
    show _ = _
    rw [print_prog, hTT]
  have HIN := hide h
  clear h ho hTT hT hTb
  by_cases hlo : nodes < 1
  · have HR : Hid (printE nodes m.ev = ([], 1)) := by
      show _ = _
      rw [HPR.out, if_neg (fun h => by omega)]
    go_enter Tryd.func13, Tryd.ntmps13
    go_wp2_with fail
    refine bodyPost_ret (results_tmp2 rfl _ _ _) rfl ?_
    exact rpr_out HR.out ((Below.refl _ _).alloc (Nat.le_refl _) _)
  by_cases hhi : 16 < nodes
  · have HR : Hid (printE nodes m.ev = ([], 1)) := by
      show _ = _
      rw [HPR.out, if_neg (fun h => by omega)]
    go_enter Tryd.func13, Tryd.ntmps13
    go_wp2_with fail
    refine bodyPost_ret (results_tmp2 rfl _ _ _) rfl ?_
    exact rpr_out HR.out ((Below.refl _ _).alloc (Nat.le_refl _) _)
  have HN : Hid (1 ≤ nodes ∧ nodes ≤ 16) := by
    show _ ∧ _
    omega
  have HPE : Hid (∀ W, OpT W → Calls Tryd.prog 9 #[.string (S T), .int .i64 nodes] W fun e w' => EvP (lineE nodes T) W.heap.size W e w') := fun W hW => pparse_ev (S T) nodes W (by rw [S_size]; exact HTS.out) hW
  go_enter Tryd.func13, Tryd.ntmps13
  go_upto_region 1 with fail
  generalize hW1 : World.alloc w _ = W1
  have HB1 : Hid (Below w.heap.size w W1) := by
    show Below _ _ _
    rw [← hW1]
    exact (Below.refl _ _).alloc (Nat.le_refl _) _
  have HX1 : Hid (Blk W1 w.heap.size 29 m.cs) := by
    show Blk _ _ _ _
    rw [← hW1]
    exact Blk.new _ _ _
  clear hW1
  go_upto_region 3 with fail
  refine wp_region_lit ?_
  refine wpList_value rfl (.agg m.cs) (ex_load 29 (.tmp 2) rfl _ rfl m.cs _ Tryd.underlying29 rfl (ld29 _ (em_size _)) (ebox_all HX1.out)) ?_
  try simp only [Act.put, aSt, aSz, aSs]
  refine wpList_step (fun K hK => ?_)
  rw [if_pos (by rfl)]
  go_simp
  go_at_call 32
  refine (HWR.out _ HB1.out).mono ?_
  rintro e w2 ⟨rfl, hb2⟩
  have HX2 := hide (HX1.out.below hb2 HX1.out.lt)
  have HB2 := hide (HB1.out.trans (hb2.mono HB1.out.size))
  refine hK _ _ ?_
  clear hK K hb2
  try simp only [Act.put, aSt, aSz, aSs]
  go_upto_region 4 with fail
  have HQ := hide HX2.out.drew
  obtain ⟨W4, hW4⟩ : ∃ W4, W4 = w2.drew := ⟨_, rfl⟩
  have HB4 : Hid (Below w.heap.size w W4) := by show Below _ _ _; rw [hW4]; exact HB2.out.drew
  by_cases hte : T = []
  · have HR : Hid (printE nodes m.ev = ([], 24)) := by
      show _ = _
      rw [HPR.out, if_pos HN.out, if_neg (fun h => h.1 hte)]
    have hse : S T = ⟨#[]⟩ := by rw [hte]; rfl
    rw [hse]
    refine wp_region_L [] (fun V => Blk V w.heap.size 29 m.cs) (by kernel_rfl) ?_
    rw [← hW4] at HQ ⊢
    clear hW4
    refine wpL_take 0 (oi := ⟨some 15, _, _, _, _, _⟩) (v := ?_) rfl (by kernel_rfl) (by kernel_rfl) (by kernel_rfl) (by kernel_rfl) (fun _ _ _ h => h) (Or.inl ⟨by rfl, ?_⟩) HQ.out ?_
    rotate_left
    · intro V hV
      go_simp
      try with_reducible rfl
    try simp only [Act.put, aSt, aSz, aSs]
    refine wpL_take 1 (oi := ⟨some 16, _, _, _, _, _⟩) (v := ?_) rfl (by kernel_rfl) (by kernel_rfl) (by kernel_rfl) (by kernel_rfl) (fun _ _ _ h => h) (Or.inl ⟨by rfl, ?_⟩) HQ.out ?_
    rotate_left
    · intro V hV
      go_simp
      try with_reducible rfl
    try simp only [Act.put, aSt, aSz, aSs]
    refine wpL_take 2 (oi := ⟨some 17, _, _, _, _, _⟩) (v := ?_) rfl (by kernel_rfl) (by kernel_rfl) (by kernel_rfl) (by kernel_rfl) (fun _ _ _ h => h) (Or.inl ⟨by rfl, ?_⟩) HQ.out ?_
    rotate_left
    · intro V hV
      go_simp
      try with_reducible rfl
    try simp only [Act.put, aSt, aSz, aSs]
    refine wpL_take 3 (oi := ⟨some 18, _, _, _, _, _⟩) (v := undef) rfl (by kernel_rfl) (by kernel_rfl) (by kernel_rfl) (by kernel_rfl) (fun _ _ _ h => h) (Or.inr ⟨by rfl, rfl⟩) HQ.out ?_
    try simp only [Act.put, aSt, aSz, aSs]
    refine wpL_take 4 (oi := ⟨some 19, _, _, _, _, _⟩) (v := undef) rfl (by kernel_rfl) (by kernel_rfl) (by kernel_rfl) (by kernel_rfl) (fun _ _ _ h => h) (Or.inr ⟨by rfl, rfl⟩) HQ.out ?_
    try simp only [Act.put, aSt, aSz, aSs]
    refine wpL_take 6 (oi := ⟨some 21, _, _, _, _, _⟩) (v := undef) rfl (by kernel_rfl) (by kernel_rfl) (by kernel_rfl) (by kernel_rfl) (fun _ _ _ h => h) (Or.inr ⟨by rfl, rfl⟩) HQ.out ?_
    try simp only [Act.put, aSt, aSz, aSs]
    refine wpL_one 5 (by kernel_rfl) rfl (fun K hK => ?_)
    rw [if_neg (fun h => by cases (show false = true from h))]
    refine hK _ _ (fun _ => HQ.out) ?_
    clear hK K
    try simp only [Act.put, aSt, aSz, aSs]
    refine wpL_one 7 (by kernel_rfl) rfl (fun K hK => ?_)
    rw [if_neg (fun h => by cases (show false = true from h))]
    refine hK _ _ (fun _ => HQ.out) ?_
    clear hK K
    try simp only [Act.put, aSt, aSz, aSs]
    refine wpL_take 8 (oi := ⟨some 23, _, _, _, _, _⟩) (v := undef) rfl (by kernel_rfl) (by kernel_rfl) (by kernel_rfl) (by kernel_rfl) (fun _ _ _ h => h) (Or.inr ⟨by rfl, rfl⟩) HQ.out ?_
    try simp only [Act.put, aSt, aSz, aSs]
    refine wpL_take 9 (oi := ⟨some 24, _, _, _, _, _⟩) (v := ?_) rfl (by kernel_rfl) (by kernel_rfl) (by kernel_rfl) (by kernel_rfl) (fun _ _ _ h => h) (Or.inl ⟨by rfl, ?_⟩) HQ.out ?_
    rotate_left
    · intro V hV
      go_simp
      try with_reducible rfl
    try simp only [Act.put, aSt, aSz, aSs]
    refine wpL_done (by kernel_rfl) ?_ _
    go_wp2_with fail
    refine bodyPost_ret (results_tmp2 rfl _ _ _) rfl ?_
    exact rpr_out HR.out HB4.out
  · have t1 : ¬ (S T).toList = [] := by rw [ByteArray.toList_eq, S_data]; exact hte
    have t2 : ((S T).toList == []) = false := by simpa using t1
    refine wp_region_L [] (fun V => Blk V w.heap.size 29 m.cs) (by kernel_rfl) ?_
    rw [← hW4] at HQ ⊢
    clear hW4
    refine wpL_take 0 (oi := ⟨some 15, _, _, _, _, _⟩) (v := ?_) rfl (by kernel_rfl) (by kernel_rfl) (by kernel_rfl) (by kernel_rfl) (fun _ _ _ h => h) (Or.inl ⟨by rfl, ?_⟩) HQ.out ?_
    rotate_left
    · intro V hV
      go_simp
      try with_reducible rfl
    try simp only [Act.put, aSt, aSz, aSs]
    refine wpL_take 1 (oi := ⟨some 16, _, _, _, _, _⟩) (v := ?_) rfl (by kernel_rfl) (by kernel_rfl) (by kernel_rfl) (by kernel_rfl) (fun _ _ _ h => h) (Or.inl ⟨by rfl, ?_⟩) HQ.out ?_
    rotate_left
    · intro V hV
      go_simp
      try with_reducible rfl
    try simp only [Act.put, aSt, aSz, aSs]
    refine wpL_take 2 (oi := ⟨some 17, _, _, _, _, _⟩) (v := ?_) rfl (by kernel_rfl) (by kernel_rfl) (by kernel_rfl) (by kernel_rfl) (fun _ _ _ h => h) (Or.inl ⟨by rfl, ?_⟩) HQ.out ?_
    rotate_left
    · intro V hV
      go_simp
      try with_reducible rfl
    try simp only [Act.put, aSt, aSz, aSs]
    refine wpL_take 3 (oi := ⟨some 18, _, _, _, _, _⟩) (v := ?_) rfl (by kernel_rfl) (by kernel_rfl) (by kernel_rfl) (by kernel_rfl) (fun _ _ _ h => h) (Or.inl ⟨by rfl, ?_⟩) HQ.out ?_
    rotate_left
    · intro V hV
      go_simp
      try with_reducible rfl
    try simp only [Act.put, aSt, aSz, aSs]
    refine wpL_take 4 (oi := ⟨some 19, _, _, _, _, _⟩) (v := ?_) rfl (by kernel_rfl) (by kernel_rfl) (by kernel_rfl) (by kernel_rfl) (fun _ _ _ h => h) (Or.inl ⟨by rfl, ?_⟩) HQ.out ?_
    rotate_left
    · intro V hV
      go_simp
      try with_reducible rfl
    try simp only [Act.put, aSt, aSz, aSs]
    refine wpL_take 6 (oi := ⟨some 21, _, _, _, _, _⟩) (v := .agg m.cs) rfl (by kernel_rfl) (by kernel_rfl) (by kernel_rfl) (by kernel_rfl) (fun _ _ _ h => h) (Or.inl ⟨by rfl, ?_⟩) HQ.out ?_
    · intro V hV
      exact ex_load 29 (.tmp 2) rfl _ rfl m.cs _ Tryd.underlying29 rfl (ld29 _ (em_size _)) (ebox_all hV)
    try simp only [Act.put, aSt, aSz, aSs]
    refine wpL_one 5 (by kernel_rfl) rfl (fun K hK => ?_)
    rw [if_pos (by rfl)]
    go_simp
    go_at_call 9
    refine (HPE.out _ (HOT.out.below HB4.out H0.out)).mono ?_
    rintro e w5 ⟨m2, rfl, hev, ht, hb5⟩
    have HQ5 := hide (HQ.out.below hb5 HQ.out.lt)
    have HB5 := hide (HB4.out.trans (hb5.mono HB4.out.size))
    have HEV := hide hev
    have HSM := hide (alike_full m2 m w5 ht.inn ((HIN.out.below HB5.out).up HB5.out.size))
    refine hK _ _ (fun _ => HQ5.out) ?_
    clear hK K hb5 ht hev
    try simp only [Act.put, aSt, aSz, aSs]
    refine wpL_one 7 (by kernel_rfl) rfl (fun K hK => ?_)
    rw [if_pos (by rfl)]
    go_simp
    go_at_call 33
    refine HSM.out.mono ?_
    rintro e w6 ⟨r, rfl, hr, hb6⟩
    have HQ6 := hide (HQ5.out.below hb6 HQ5.out.lt)
    have HB6 := hide (HB5.out.trans (hb6.mono HB5.out.size))
    have HRR := hide hr
    refine hK _ _ (fun _ => HQ6.out) ?_
    clear hK K hb6 hr
    try simp only [Act.put, aSt, aSz, aSs]
    refine wpL_take 8 (oi := ⟨some 23, _, _, _, _, _⟩) (v := ?_) rfl (by kernel_rfl) (by kernel_rfl) (by kernel_rfl) (by kernel_rfl) (fun _ _ _ h => h) (Or.inl ⟨by rfl, ?_⟩) HQ6.out ?_
    rotate_left
    · intro V hV
      go_simp
      try with_reducible rfl
    try simp only [Act.put, aSt, aSz, aSs]
    refine wpL_take 9 (oi := ⟨some 24, _, _, _, _, _⟩) (v := ?_) rfl (by kernel_rfl) (by kernel_rfl) (by kernel_rfl) (by kernel_rfl) (fun _ _ _ h => h) (Or.inl ⟨by rfl, ?_⟩) HQ6.out ?_
    rotate_left
    · intro V hV
      go_simp
      try with_reducible rfl
    try simp only [Act.put, aSt, aSz, aSs]
    refine wpL_done (by kernel_rfl) ?_ _
    cases r with
    | false =>
      have HR : Hid (printE nodes m.ev = ([], 24)) := by
        show _ = _
        rw [HPR.out, if_pos HN.out, if_neg (fun h => absurd (HRR.out.2 (HEV.out.trans h.2)) (by decide))]
      go_wp2_with fail
      refine bodyPost_ret (results_tmp2 rfl _ _ _) rfl ?_
      exact rpr_out HR.out HB6.out
    | true =>
      have HR : Hid (printE nodes m.ev = (T, 0)) := by
        show _ = _
        rw [HPR.out, if_pos HN.out, if_pos ⟨hte, HEV.out.symm.trans (HRR.out.1 rfl)⟩]
      go_wp2_with fail
      refine bodyPost_ret (results_tmp2 rfl _ _ _) rfl ?_
      exact rpr_out HR.out HB6.out
end Go.Proofs.YtcibcmfaebbhnaaDoor
