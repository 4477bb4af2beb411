/-
  The law ScriptRound, walked: what is written of a script is read back as the script, with the number of its no-ops.
-/
import Derived.Test.YtcibcmfaebbhnaaGreatDoorZPpr
import Derived.Test.YtcibcmfaebbhnaaGreatDoorZPps
import Derived.Test.YtcibcmfaebbhnaaGreatDoorZRdw
import Derived.Test.YtcibcmfaebbhnaaGreatDoorZSou
import Derived.Test.YtcibcmfaebbhnaaGreatDoorZWords
set_option linter.unusedVariables false
set_option linter.unusedSimpArgs false
namespace Go.Proofs.YtcibcmfaebbhnaaGreatDoor
open Go.RowKit Go.WideShapes Go.ChangeShapes Q
theorem fix_print {n : Int} (hn : 1 ≤ n ∧ n ≤ 16) (e : Ev) : (printE n (fixE n e)).2 = 0 := by
  unfold fixE
  split
  · assumption
  · have h := read_print hn []
    have e0 : lineE n [] = Ev.zero := by
      unfold lineE
      rw [if_pos hn, wds_nil]
      rfl
    rw [e0] at h
    exact h
theorem fix_lines {n : Int} (hn : 1 ≤ n ∧ n ≤ 16) : ∀ es : List Ev, ∃ t, linesT n (es.map (fixE n)) = some t
  | [] => ⟨[], rfl⟩
  | e :: es => by
    obtain ⟨t, ht⟩ := fix_lines hn es
    rw [List.map_cons, linesT, if_pos (fix_print hn e), ht]
    exact ⟨_, rfl⟩
theorem sound_no {s t : Sc} (h : soundS s = (t, false)) : (∃ y, printS t = ([], y) ∧ y ≠ 0) := by
  unfold soundS at h
  rcases err_cases s.c with ⟨h0, hok⟩ | h0
  · rw [if_pos h0] at h
    split at h
    · rename_i hl
      injection h with h1 _
      subst h1
      refine ⟨25, ?_, by decide⟩
      unfold printS
      rw [if_pos h0, if_pos hl]
    · injection h with _ h2
      cases h2
  · rw [if_neg (by rw [h0]; decide)] at h
    injection h with h1 _
    subst h1
    refine ⟨22, ?_, by decide⟩
    unfold printS
    rw [if_neg (by rw [h0]; decide), h0]
theorem sound_yes {s t : Sc} (h : soundS s = (t, true)) : t.es.length ≤ 4000 ∧ ((∃ x, printS t = (x, 0)) ∨ printS t = ([], 20)) := by
  unfold soundS at h
  rcases err_cases s.c with ⟨h0, hok⟩ | h0
  · rw [if_pos h0] at h
    split at h
    · injection h with _ h2
      cases h2
    · rename_i hl
      injection h with h1 _
      subst h1
      have h4 : (s.es.map (fixE s.c.nodes)).length ≤ 4000 := by rw [List.length_map]; omega
      refine ⟨h4, ?_⟩
      obtain ⟨t, ht⟩ := fix_lines hok.nodes s.es
      unfold printS
      simp only
      rw [if_pos h0, if_neg (by omega), ht]
      simp only
      split
      · exact .inr rfl
      · exact .inl ⟨_, rfl⟩
  · rw [if_neg (by rw [h0]; decide)] at h
    injection h with _ h2
    cases h2
set_option maxRecDepth 100000 in
set_option maxHeartbeats 4000000 in
theorem round_script (s : Sm) (w : World) (h : SmIn w w.heap.size s) (hv : s.c.votes.length ≤ 1048576) (hn : s.ms.length ≤ 1048576) (hm : ∀ m ∈ s.ms, EvOk m) (hT : OpT w) (hTb : Tab w) (hM : ML w) :
    Calls Tryz.prog 5 #[.agg s.cs] w fun e w' => e = .returned (.bool true) ∧ Below w.heap.size w w' := by
  have h0w : 1 < w.heap.size := hT.lt
  have HSOU : Hid (∀ W, Below w.heap.size w W → Calls Tryz.prog 27 #[.agg s.cs] W fun e w' => SouP s W e w') := fun W hb =>
    sound_any s W ((h.below hb).up hb.size) hv hn hm
  have HSCO : Hid (∀ (s1 : Sm) (W : World), SmIn W W.heap.size s1 → s1.c.votes.length ≤ 10000000 → s1.ms.length ≤ 10000000 → (∀ m ∈ s1.ms, EvOk m) → Calls Tryz.prog 22 #[.agg s1.cs] W fun e w' => ScoP s1 W e w') := fun s1 W hi hv hn hm =>
    scriptOf_any s1 W hi hv hn (fun m hmm => by have := (hm m hmm).bulk; omega)
  have HPP : Hid (∀ (s' : Sm) (b : Nat) (W : World), Below w.heap.size w W → SmV W b s' → (∀ m ∈ s'.ms, EvOk m) → Calls Tryz.prog 11 #[.agg s'.cs] W fun e w' => PrtP s'.sc W e w') := fun s' b W hb hu hm =>
    pprint_script s' W hu.inn hu.hv hu.hn hm (hT.below hb h0w) (hTb.below hb)
  have HPA : Hid (∀ (x : List UInt8) W, Below w.heap.size w W → Calls Tryz.prog 29 #[.string (S x)] W fun e w' => ParP (parseE x) W e w') := fun x W hb =>
    pparse_script (S x) W (hT.below hb h0w) (hM.below hb) (by have := hb.size; omega)
  obtain ⟨C0, hC0⟩ : ∃ C0, C0 = s.cs := ⟨_, rfl⟩
  rw [← hC0]
  have HC0 := hide hC0
  clear hC0 h hm hT hTb hM
  go_enter Tryz.func5, Tryz.ntmps5
  go_upto_region 1 with fail
  generalize hW0 : World.alloc w _ = W0
  have HP0 : Hid (Blk W0 w.heap.size 27 s.cs) := by
    show Blk _ _ _ _
    rw [← hW0, HC0.out]
    exact Blk.new _ _ _
  have hb0 : Below w.heap.size w W0 := by rw [← hW0]; exact (Below.refl _ _).alloc (Nat.le_refl _) _
  have HB0 := hide hb0
  clear hW0 hb0
  refine wp_region_lit ?_
  refine wpList_value rfl (.agg s.cs) (ex_load 27 (.tmp 1) rfl _ rfl _ _ Tryz.underlying27 rfl (ld47 _ (sm_size _)) (box_all HP0.out)) ?_
  try simp only [Act.put, aSt, aSz, aSs]
  refine wpList_step (fun K hK => ?_)
  rw [if_pos (by rfl)]
  go_simp
  go_at_call 27
  refine (HSOU.out W0 HB0.out).mono ?_
  rintro e w1 ⟨s1, ok, rfl, hso, hu1, hm1, hb1⟩
  have HSO := hide hso
  have HM1 := hide hm1
  have HU1 := hide hu1
  have HB1 := hide (HB0.out.trans (hb1.mono HB0.out.size))
  refine hK _ _ ?_
  clear hK K hso hm1 hu1 hb1 HSOU HP0 HB0
  try simp only [Act.put, aSt, aSz, aSs]
  refine wpList_value rfl (.tuple #[.agg s1.cs, .bool ok]) (by go_simp) ?_
  try simp only [Act.put, aSt, aSz, aSs]
  refine wpList_value rfl (.agg s1.cs) (by go_simp) ?_
  try simp only [Act.put, aSt, aSz, aSs]
  refine wpList_value rfl (.bool ok) (by go_simp) ?_
  try simp only [Act.put, aSt, aSz, aSs]
  refine wpList_step (fun K hK => ?_)
  rw [if_pos (by rfl)]
  go_simp
  refine hK _ _ ?_
  clear hK K
  refine wpList_store_fresh rfl 27 (.tmp 3) (.tmp 13) rfl _ s1.cs rfl rfl (ld47 _ (sm_size _)) rfl (sm_all _) ?_
  try simp only [Act.put, aSt, aSz, aSs]
  obtain ⟨w2, hw2⟩ : ∃ w2, w2 = World.alloc w1 (.cells s1.cs 27) := ⟨_, rfl⟩
  obtain ⟨g1, hg1⟩ : ∃ g1, g1 = w1.heap.size := ⟨_, rfl⟩
  have hal : Below w1.heap.size w1 w2 := by rw [hw2]; exact (Below.refl _ _).alloc (Nat.le_refl _) _
  have HX2 : Hid (Blk w2 g1 27 s1.cs) := by show Blk _ _ _ _; rw [hw2, hg1]; exact Blk.new _ _ _
  have HU2 := hide (HU1.out.step hal)
  have HB2 := hide (HB1.out.trans (hal.mono HB1.out.size))
  rw [← hw2]
  try rw [← hg1]
  clear hw2 hg1 hal HU1 HB1
  have hsw2 : w.heap.size ≤ w2.heap.size := HB2.out.size
  have HNB : Hid (∀ m ∈ s1.ms, m.nb ≤ 10000000) := fun m hm => by have := (HM1.out m hm).bulk; omega
  go_upto_region 2 with fail
  refine wp_region_lit ?_
  refine wpList_value rfl (.agg s1.cs) (ex_load 27 (.tmp 3) rfl _ rfl _ _ Tryz.underlying27 rfl (ld47 _ (sm_size _)) (box_all HX2.out)) ?_
  try simp only [Act.put, aSt, aSz, aSs]
  refine wpList_step (fun K hK => ?_)
  rw [if_pos (by rfl)]
  go_simp
  go_at_call 22
  refine (HSCO.out s1 w2 HU2.out.inn HU2.out.hv HU2.out.hn HM1.out).mono ?_
  rintro e w3 ⟨s2, rfl, hse, hu2, _, hb3⟩
  have HSE := hide hse
  have HV3 := hide hu2
  have HU3 := hide (HU2.out.step hb3)
  have HX3 := hide (HX2.out.below hb3 HX2.out.lt)
  have HB3 := hide (HB2.out.trans (hb3.mono hsw2))
  have HM2 : Hid (∀ m ∈ s2.ms, EvOk m) := copy_ok (w := w3) (w' := w3) (s := s1) (s' := s2) HSE.out HM1.out (fun m hm => (HU3.out.ent m hm).inn) (fun m hm => (HV3.out.ent m hm).inn)
  refine hK _ _ ?_
  clear hK K hse hu2 hb3 HU2 HX2 HB2 HSCO hsw2
  try simp only [Act.put, aSt, aSz, aSs]
  have hsw3 : w.heap.size ≤ w3.heap.size := HB3.out.size
  refine wpList_step (fun K hK => ?_)
  rw [if_pos (by rfl)]
  go_simp
  go_at_call 11
  refine (HPP.out s2 _ w3 HB3.out HV3.out HM2.out).mono ?_
  rintro e w4 ⟨rfl, hb4⟩
  have HU4 := hide (HU3.out.step hb4)
  have HX4 := hide (HX3.out.below hb4 HX3.out.lt)
  have HW4 := hide (HB3.out.trans (hb4.mono hsw3))
  have hsw4 : w.heap.size ≤ w4.heap.size := HW4.out.size
  refine hK _ _ ?_
  clear hK K hb4 HU3 HX3 HB3 HV3 HM2 HPP
  rw [HSE.out]
  cases ok with
  | false =>
    obtain ⟨y, hy, hy0⟩ := sound_no HSO.out
    rw [hy]
    have e1 : (y != 0) = true := by simpa using hy0
    have e2 : (S []).toList.isEmpty = true := by decide +kernel
    clear hy
    try simp only [Act.put, aSt, aSz, aSs]
    go_wp2_with fail
    go_ret
    exact ⟨by rfl, HW4.out⟩
  | true =>
    obtain ⟨hml, hpr⟩ := sound_yes HSO.out
    have hml2 : s1.ms.length ≤ 4000 := by
      have h1 : s1.sc.es.length = s1.ms.length := List.length_map _
      omega
    clear hml
    rcases hpr with ⟨x, hx⟩ | hx
    rotate_left
    · have HSH : Hid (decide (shortN s1.sc.es ≤ 400000) = false) := by
        show _ = _
        have := print_long hx
        exact decide_eq_false (by omega)
      have HSO2 : Hid (Calls Tryz.prog 28 #[.agg s1.cs] w4 fun e w' => e = .returned (.bool false) ∧ Below w4.heap.size w4 w') := by
        have := short_any s1 w4 HU4.out.inn (by omega) HNB.out
        rw [HSH.out] at this
        exact this
      rw [hx]
      clear hx
      try simp only [Act.put, aSt, aSz, aSs]
      go_wp2_with first
        | (refine wpList_gvalue (by rfl) (.agg s1.cs) (ex_load 27 (.tmp 3) rfl _ rfl _ _ Tryz.underlying27 rfl (ld47 _ (sm_size _)) (box_all HX4.out)) ?_)
        | (go_at_call 28; refine HSO2.out.mono ?_; rintro e w5 ⟨rfl, hb5⟩; have HB5 := hide (HW4.out.trans (hb5.mono hsw4)); clear hb5)
      go_ret
      exact ⟨rfl, HB5.out⟩
    have HBK := hide (parse_print hx)
    rw [hx]
    clear hx
    obtain ⟨Y, hY⟩ : ∃ Y, Y = S x := ⟨_, rfl⟩
    rw [show S ((x, (0 : Int)) : List UInt8 × Int).1 = Y from hY.symm, show ((x, (0 : Int)) : List UInt8 × Int).2 = 0 from rfl]
    have HYX := hide hY
    obtain ⟨nI, hnI⟩ : ∃ nI : Int, nI = (idleN s1.sc.es : Int) := ⟨_, rfl⟩
    have HNI := hide hnI
    have HPA2 : Hid (∀ W, Below w.heap.size w W → Calls Tryz.prog 29 #[.string Y] W fun e w' => ParP (s1.sc, nI, 0) W e w') := fun W hb => by
      have h1 := HPA.out x W hb
      rw [HBK.out, ← HNI.out] at h1
      rw [HYX.out]
      exact h1
    clear hY hnI
    try simp only [Act.put, aSt, aSz, aSs]
    go_upto_region 7 with fail
    refine wp_region_lit ?_
    refine wpList_value rfl (.string Y) (by go_simp) ?_
    try simp only [Act.put, aSt, aSz, aSs]
    refine wpList_step (fun K hK => ?_)
    rw [if_pos (by rfl)]
    go_simp
    go_at_call 29
    refine (HPA2.out w4 HW4.out).mono ?_
    rintro e w5 ⟨s3, n3, f3, rfl, h5, hu5, hb5⟩
    have HSE3 : Hid (s3.sc = s1.sc) := by injection h5 with h6 _; exact h6.symm
    have hn3 : n3 = nI := by injection h5 with _ h6; injection h6 with h7 _; exact h7.symm
    have hf3 : f3 = 0 := by injection h5 with _ h6; injection h6 with _ h7; exact h7.symm
    have HV5 := hide hu5
    have HU5 := hide (HU4.out.step hb5)
    have HX5 := hide (HX4.out.below hb5 HX4.out.lt)
    have HW5 := hide (HW4.out.trans (hb5.mono hsw4))
    clear h5 hu5
    subst hn3 hf3
    refine hK _ _ ?_
    clear hK K hb5 HU4 HX4 HW4
    try simp only [Act.put, aSt, aSz, aSs]
    refine wpList_value rfl (.tuple #[.agg s3.cs, .int .i64 n3, .int .i64 0]) (by go_simp) ?_
    try simp only [Act.put, aSt, aSz, aSs]
    refine wpList_value rfl (.agg s3.cs) (by go_simp) ?_
    try simp only [Act.put, aSt, aSz, aSs]
    refine wpList_value rfl (.int .i64 n3) (by go_simp) ?_
    try simp only [Act.put, aSt, aSz, aSs]
    refine wpList_value rfl (.int .i64 0) (by go_simp) ?_
    try simp only [Act.put, aSt, aSz, aSs]
    refine wpList_step (fun K hK => ?_)
    rw [if_pos (by rfl)]
    go_simp
    refine hK _ _ ?_
    clear hK K
    refine wpList_store_fresh rfl 27 (.tmp 7) (.tmp 37) rfl _ s3.cs rfl rfl (ld47 _ (sm_size _)) rfl (sm_all _) ?_
    try simp only [Act.put, aSt, aSz, aSs]
    obtain ⟨w6, hw6⟩ : ∃ w6, w6 = World.alloc w5 (.cells s3.cs 27) := ⟨_, rfl⟩
    obtain ⟨g2, hg2⟩ : ∃ g2, g2 = w5.heap.size := ⟨_, rfl⟩
    have hal : Below w5.heap.size w5 w6 := by rw [hw6]; exact (Below.refl _ _).alloc (Nat.le_refl _) _
    have HY6 : Hid (Blk w6 g2 27 s3.cs) := by show Blk _ _ _ _; rw [hw6, hg2]; exact Blk.new _ _ _
    have HV6 := hide (HV5.out.step hal)
    have HU6 := hide (HU5.out.step hal)
    have HX6 := hide (HX5.out.below hal HX5.out.lt)
    have HW6 := hide (HW5.out.trans (hal.mono HW5.out.size))
    rw [← hw6]
    try rw [← hg2]
    clear hw6 hg2 hal HV5 HU5 HX5 HW5
    have hsw6 : w.heap.size ≤ w6.heap.size := HW6.out.size
    have HID : Hid (Calls Tryz.prog 30 #[.agg s1.cs] w6 fun e w' => e = .returned (.int .i64 n3) ∧ Below w6.heap.size w6 w') := by
      rw [HNI.out]
      exact idle_any w6 HU6.out.inn.row (by omega)
    have HSS : Hid (∀ W, Below w6.heap.size w6 W → Calls Tryz.prog 19 #[.agg s3.cs, .agg s1.cs] W fun e w' => e = .returned (.bool true) ∧ Below W.heap.size W w') := fun W hb =>
      same_scripts W (HV6.out.step hb).inn (HU6.out.step hb).inn HSE3.out
    have q1 : (n3 == n3) = true := beq_self_eq_true n3
    go_wp2_with first
      | (refine wpList_gvalue (by rfl) (.agg s1.cs) (ex_load 27 (.tmp 3) rfl _ rfl _ _ Tryz.underlying27 rfl (ld47 _ (sm_size _)) (by first | with_reducible exact box_all HX6.out | with_reducible exact box_all HX7.out)) ?_)
      | (refine wpList_gvalue (by rfl) (.agg s3.cs) (ex_load 27 (.tmp 7) rfl _ rfl _ _ Tryz.underlying27 rfl (ld47 _ (sm_size _)) (box_all HY7.out)) ?_)
      | (go_at_call 30; refine HID.out.mono ?_; rintro e w7 ⟨rfl, hb7⟩; have HB7 := hide hb7; have HX7 := hide (HX6.out.below hb7 HX6.out.lt); have HY7 := hide (HY6.out.below hb7 HY6.out.lt); have HS7 := hide (HSS.out w7 hb7); clear hb7)
      | (go_at_call 19; refine HS7.out.mono ?_; rintro e w8 ⟨rfl, hb8⟩; have HB8 := hide ((HW6.out.trans (HB7.out.mono hsw6)).trans (hb8.mono (by have := HB7.out.size; omega))); clear hb8)
    go_ret
    exact ⟨rfl, HB8.out⟩
end Go.Proofs.YtcibcmfaebbhnaaGreatDoor
