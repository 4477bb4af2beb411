/-
  The law ScriptWritesLine, walked: the program and the reference write the same line of every event. (Printed by wip/tools/mklwl.py.)
-/
import Derived.Test.YtcibcmfaebbhnaaDoorZPpv
import Derived.Test.YtcibcmfaebbhnaaDoorZRpv
import Derived.Test.YtcibcmfaebbhnaaDoorZEvo
import Derived.Test.YtcibcmfaebbhnaaDoorZSfu
set_option linter.unusedVariables false
set_option linter.unusedSimpArgs false
namespace Go.Proofs.YtcibcmfaebbhnaaDoor
open Go.RowKit Go.WideShapes Go.ChangeShapes Q

/-- An event to be written, as it lies. -/
def Em.th (m : Em) (nodes : Int) : Array Value := m.cs.push (.int .i64 nodes)
theorem th_in {w : World} {g : Nat} {m : Em} {nodes : Int} (h : Blk w g 34 (m.th nodes)) : ∀ j v, m.cs[j]? = some v → w.cell? ((⟨g, 0, none⟩ : Addr).add j) = some v := by
  intro j v hv
  have e2 : (⟨g, 0, none⟩ : Addr).add j = ⟨g, j, none⟩ := by
    unfold Addr.add
    split
    · rename_i h0; subst h0; rfl
    · simp
  rw [e2, h.cell j]
  have hj := (Array.getElem?_eq_some_iff.1 hv).1
  unfold Em.th
  rw [Array.getElem?_push_lt hj]
  rw [Array.getElem?_eq_getElem hj] at hv
  exact hv
theorem th_node {w : World} {g : Nat} {m : Em} {nodes : Int} (h : Blk w g 34 (m.th nodes)) : w.cell? ⟨g, 13, none⟩ = some (.int .i64 nodes) := by
  rw [h.cell 13]
  rfl
theorem EvOk.of {m m1 : Em} (h : EvOk m) (e : m1.ev = m.ev) (e1 : m1.ns = m.ns) (e2 : m1.nb = m.nb) : EvOk m1 := by
  have ha : m1.a = m.a := congrArg Ev.a e
  have hb : m1.b = m.b := congrArg Ev.b e
  have hn : m1.n = m.n := congrArg Ev.n e
  have hs : m1.sd = m.sd := congrArg Ev.sd e
  have ho : m1.op = m.op := congrArg Ev.op e
  have hk : m1.key.size = m.key.size := by have := congrArg (fun e => (Ev.key e).length) e; simpa [Em.ev, str_len] using this
  have hv : m1.val.size = m.val.size := by have := congrArg (fun e => (Ev.val e).length) e; simpa [Em.ev, str_len] using this
  have hl : m1.old.size = m.old.size := by have := congrArg (fun e => (Ev.old e).length) e; simpa [Em.ev, str_len] using this
  exact ⟨by rw [ha]; exact h.a, by rw [hb]; exact h.b, by rw [hn]; exact h.n, by rw [hs]; exact h.sd, by rw [ho]; exact h.op, by rw [e1, e2, hk, hv, hl]; exact h.bulk⟩
/-- What was written without an error reads back. -/
theorem print_back {nodes : Int} {e : Ev} (h : (printE nodes e).2 = 0) : lineE nodes (printE nodes e).1 = e ∧ (printE nodes e).1 = writT e := by
  unfold printE at h ⊢
  split at h
  · rename_i h1
    rw [if_pos h1]
    split at h
    · rename_i h2
      rw [if_pos h2]
      exact ⟨h2.2, rfl⟩
    · cases h
  · cases h
theorem print_sz {m : Em} (nodes : Int) (ho : EvOk m) (hb : m.bd.length = m.nb) (hn : m.sd.length = m.ns) : (printE nodes m.ev).1.length ≤ 30000000 := by
  unfold printE
  split
  · split
    · exact writ_sz ho hb hn
    · simp
  · simp
theorem num_any (y : Int) (w : World) : Calls Tryd.prog 15 #[.int .i64 y] w fun e w' => e = .returned (.int .i64 y) ∧ w' = w := by
  go_enter Tryd.func15, Tryd.ntmps15
  go_wp2_with fail
  go_ret
  exact ⟨rfl, rfl⟩
set_option maxRecDepth 100000 in
set_option maxHeartbeats 3000000 in
theorem writes_line (m : Em) (nodes : Int) (w : World) (h : EmIn w w.heap.size m) (ho : EvOk m) (hT : OpT w) (hTb : Tab w) :
    Calls Tryd.prog 4 #[.agg (m.th nodes)] w fun e w' => e = .returned (.bool true) ∧ Below w.heap.size w w' := by
  have HOT := hide hT
  have H0 := hide hT.lt
  have HTB := hide hTb
  have HIN := hide h
  have HOK := hide ho
  obtain ⟨X, hX⟩ : ∃ X, X = (printE nodes m.ev).1 := ⟨_, rfl⟩
  obtain ⟨Y, hY⟩ : ∃ Y, Y = (printE nodes m.ev).2 := ⟨_, rfl⟩
  have HXS : Hid (X.length ≤ 30000000) := by
    show _ ≤ _
    rw [hX]
    exact print_sz nodes ho h.nb_len (RI.len h.sid)
  have HEO : Hid (∀ W, Below w.heap.size w W → Calls Tryd.prog 12 #[.agg m.cs] W fun e w' => CpyP m W e w') := fun W hb => eventOf_any m W ((h.below hb).up hb.size) (by have := ho.bulk; omega) (by have := ho.bulk; omega)
  have HPP : Hid (∀ m1 W, Below w.heap.size w W → EmIn W W.heap.size m1 → m1.ev = m.ev → EvOk m1 → Calls Tryd.prog 13 #[.agg m1.cs, .int .i64 nodes] W fun e w' => e = .returned (.tuple #[.string (S X), .int .i64 Y]) ∧ Below W.heap.size W w') := fun m1 W hb hi he hok => by
    have := pprint_ev m1 nodes W hi hok (hT.below hb hT.lt) (hTb.below hb)
    rw [hX, hY, ← he]
    exact this
  have HRP : Hid (∀ W, Below w.heap.size w W → Calls Tryd.prog 14 #[.agg m.cs, .int .i64 nodes] W fun e w' => e = .returned (.tuple #[.string (S X), .int .i64 Y]) ∧ Below W.heap.size W w') := fun W hb => by
    have := rprint_ev m nodes W ((h.below hb).up hb.size) ho
    rw [hX, hY]
    exact this
  have HBK0 : Hid (Y = 0 → lineE nodes X = m.ev) := fun hy => by
    rw [hX]
    exact (print_back (by rw [← hY]; exact hy)).1
  have HPE : Hid (∀ W, OpT W → Calls Tryd.prog 9 #[.string (S X), .int .i64 nodes] W fun e w' => EvP (lineE nodes X) W.heap.size W e w') := fun W hW => pparse_ev (S X) nodes W (by rw [S_size]; exact HXS.out) hW
  have HNM : Hid (∀ W, Calls Tryd.prog 15 #[.int .i64 Y] W fun e w' => e = .returned (.int .i64 Y) ∧ w' = W) := fun W => num_any Y W
  clear h ho hT hTb hX hY
  go_enter Tryd.func4, Tryd.ntmps4
  go_upto_region 1 with fail
  generalize hW1 : World.alloc w _ = W1
  have HB1 : Hid (Below w.heap.size w W1) := by
    show Below _ _ _
    rw [← hW1]
    exact (Below.refl _ _).alloc (Nat.le_refl _) _
  have HX1 : Hid (Blk W1 w.heap.size 34 (m.th nodes)) := by
    show Blk _ _ _ _
    rw [← hW1]
    exact Blk.new _ _ _
  clear hW1
  refine wp_region_lit ?_
  refine wpList_value rfl (.pointer (some ⟨w.heap.size, 0, none⟩)) (by go_simp) ?_
  try simp only [Act.put, List.setIfInBounds_toArray, List.set_cons_zero, List.set_cons_succ]
  refine wpList_value rfl (.agg m.cs) (ex_load 29 (.tmp 8) rfl _ rfl m.cs _ Tryd.underlying29 rfl (ld29 _ (em_size _)) (th_in HX1.out)) ?_
  try simp only [Act.put, List.setIfInBounds_toArray, List.set_cons_zero, List.set_cons_succ]
  refine wpList_step (fun K hK => ?_)
  rw [if_pos (by rfl)]
  go_simp
  go_at_call 12
  refine (HEO.out _ HB1.out).mono ?_
  rintro e w2 ⟨m1, rfl, hev, hns, hnb, hin, hb2⟩
  have HX2 := hide (HX1.out.below hb2 HX1.out.lt)
  have HB2 := hide (HB1.out.trans (hb2.mono HB1.out.size))
  have HE1 := hide hev
  have HM1 := hide hin
  have HK1 : Hid (EvOk m1) := HOK.out.of hev hns hnb
  refine hK _ _ ?_
  clear hK K hb2 hev hin hns hnb
  try simp only [Act.put, List.setIfInBounds_toArray, List.set_cons_zero, List.set_cons_succ]
  refine wpList_step (fun K hK => ?_)
  rw [if_pos (by rfl)]
  go_simp
  refine hK _ _ ?_
  clear hK K
  try simp only [Act.put, List.setIfInBounds_toArray, List.set_cons_zero, List.set_cons_succ]
  refine wpList_store_fresh rfl 29 (.tmp 3) (.tmp 10) rfl _ m1.cs rfl rfl (ld29 _ (em_size _)) rfl (ecs_all m1) ?_
  try simp only [Act.put, List.setIfInBounds_toArray, List.set_cons_zero, List.set_cons_succ]
  obtain ⟨W3, hW3⟩ : ∃ W3, W3 = w2.alloc (.cells m1.cs 29) := ⟨_, rfl⟩
  have hb3 : Below w2.heap.size w2 W3 := by rw [hW3]; exact (Below.refl _ _).alloc (Nat.le_refl _) _
  have HB3 := hide (HB2.out.trans (hb3.mono HB2.out.size))
  have HM3 := hide ((HM1.out.below hb3).up hb3.size)
  have HX3 := hide (HX2.out.below hb3 HX2.out.lt)
  have HE3 : Hid (Blk W3 w2.heap.size 29 m1.cs) := by show Blk _ _ _ _; rw [hW3]; exact Blk.new _ _ _
  rw [← hW3]
  obtain ⟨q, hq⟩ : ∃ q, q = w2.heap.size := ⟨_, rfl⟩
  rw [← hq] at HE3 ⊢
  clear hW3 hb3 HM1 hq
  go_upto_region 2 with fail
  refine wp_region_lit ?_
  refine wpList_value rfl (.agg m1.cs) (ex_load 29 (.tmp 3) rfl _ rfl m1.cs _ Tryd.underlying29 rfl (ld29 _ (em_size _)) (ebox_all HE3.out)) ?_
  try simp only [Act.put, List.setIfInBounds_toArray, List.set_cons_zero, List.set_cons_succ]
  refine wpList_value rfl (.pointer (some ⟨w.heap.size, 13, none⟩)) (by go_simp) ?_
  try simp only [Act.put, List.setIfInBounds_toArray, List.set_cons_zero, List.set_cons_succ]
  refine wpList_value rfl (.int .i64 nodes) (by have k := th_node HX3.out; go_simp) ?_
  try simp only [Act.put, List.setIfInBounds_toArray, List.set_cons_zero, List.set_cons_succ]
  refine wpList_step (fun K hK => ?_)
  rw [if_pos (by rfl)]
  go_simp
  go_at_call 13
  refine (HPP.out m1 _ HB3.out HM3.out HE1.out HK1.out).mono ?_
  rintro e w4 ⟨rfl, hbw4⟩
  have HX4 := hide (HX3.out.below hbw4 HX3.out.lt)
  have HE4 := hide (HE3.out.below hbw4 HE3.out.lt)
  have HM4 := hide ((HM3.out.below hbw4).up hbw4.size)
  have HB4 := hide (HB3.out.trans (hbw4.mono HB3.out.size))
  refine hK _ _ ?_
  clear hK K hbw4
  try simp only [Act.put, List.setIfInBounds_toArray, List.set_cons_zero, List.set_cons_succ]
  go_upto_region 3 with fail
  refine wp_region_lit ?_
  refine wpList_value rfl (.pointer (some ⟨w.heap.size, 0, none⟩)) (by go_simp) ?_
  try simp only [Act.put, List.setIfInBounds_toArray, List.set_cons_zero, List.set_cons_succ]
  refine wpList_value rfl (.agg m.cs) (ex_load 29 (.tmp 19) rfl _ rfl m.cs _ Tryd.underlying29 rfl (ld29 _ (em_size _)) (th_in HX4.out)) ?_
  try simp only [Act.put, List.setIfInBounds_toArray, List.set_cons_zero, List.set_cons_succ]
  refine wpList_value rfl (.pointer (some ⟨w.heap.size, 13, none⟩)) (by go_simp) ?_
  try simp only [Act.put, List.setIfInBounds_toArray, List.set_cons_zero, List.set_cons_succ]
  refine wpList_value rfl (.int .i64 nodes) (by have k := th_node HX4.out; go_simp) ?_
  try simp only [Act.put, List.setIfInBounds_toArray, List.set_cons_zero, List.set_cons_succ]
  refine wpList_step (fun K hK => ?_)
  rw [if_pos (by rfl)]
  go_simp
  go_at_call 14
  refine (HRP.out _ HB4.out).mono ?_
  rintro e w5 ⟨rfl, hbw5⟩
  have HX5 := hide (HX4.out.below hbw5 HX4.out.lt)
  have HE5 := hide (HE4.out.below hbw5 HE4.out.lt)
  have HM5 := hide ((HM4.out.below hbw5).up hbw5.size)
  have HB5 := hide (HB4.out.trans (hbw5.mono HB4.out.size))
  refine hK _ _ ?_
  clear hK K hbw5
  try simp only [Act.put, List.setIfInBounds_toArray, List.set_cons_zero, List.set_cons_succ]
  obtain ⟨z, hz⟩ : ∃ z, z = S X := ⟨_, rfl⟩
  rw [← hz] at HPE ⊢
  have hzz1 : (z.toList == z.toList) = true := by simp
  have hzz2 : (z == z) = true := by rw [beq_toListBytes]; exact hzz1
  have hzz3 : (z != z) = false := by rw [bne, hzz2]; rfl
  have hzz4 : (z.toList != z.toList) = false := by rw [bne, hzz1]; rfl
  clear hz
  have HSE := hide (same_true (m := m1) (m' := m) w5 HM5.out ((HIN.out.below HB5.out).up HB5.out.size) HE1.out)
  go_upto_region 4 with fail
  refine wp_region_lit ?_
  refine wpList_value rfl (.string z) (by go_simp) ?_
  try simp only [Act.put, List.setIfInBounds_toArray, List.set_cons_zero, List.set_cons_succ]
  refine wpList_value rfl (.string z) (by go_simp) ?_
  try simp only [Act.put, List.setIfInBounds_toArray, List.set_cons_zero, List.set_cons_succ]
  refine wpList_value rfl (.bool false) (by go_simp) ?_
  try simp only [Act.put, List.setIfInBounds_toArray, List.set_cons_zero, List.set_cons_succ]
  refine wpList_value rfl (.bool false) (by go_simp) ?_
  try simp only [Act.put, List.setIfInBounds_toArray, List.set_cons_zero, List.set_cons_succ]
  refine wpList_step (fun K hK => ?_)
  rw [if_pos (by rfl)]
  go_simp
  refine hK _ _ ?_
  clear hK K
  try simp only [Act.put, List.setIfInBounds_toArray, List.set_cons_zero, List.set_cons_succ]
  refine wpList_step (fun K hK => ?_)
  rw [if_pos (by rfl)]
  go_simp
  go_at_call 15
  refine (HNM.out _).mono ?_
  rintro e w6 ⟨rfl, rfl⟩
  refine hK _ _ ?_
  clear hK K
  try simp only [Act.put, List.setIfInBounds_toArray, List.set_cons_zero, List.set_cons_succ]
  refine wpList_step (fun K hK => ?_)
  rw [if_pos (by rfl)]
  go_simp
  refine hK _ _ ?_
  clear hK K
  try simp only [Act.put, List.setIfInBounds_toArray, List.set_cons_zero, List.set_cons_succ]
  refine wpList_step (fun K hK => ?_)
  rw [if_pos (by rfl)]
  go_simp
  refine hK _ _ ?_
  clear hK K
  try simp only [Act.put, List.setIfInBounds_toArray, List.set_cons_zero, List.set_cons_succ]
  refine wpList_step (fun K hK => ?_)
  rw [if_pos (by rfl)]
  go_simp
  refine hK _ _ ?_
  clear hK K
  try simp only [Act.put, List.setIfInBounds_toArray, List.set_cons_zero, List.set_cons_succ]
  refine wpList_step (fun K hK => ?_)
  rw [if_pos (by rfl)]
  go_simp
  refine hK _ _ ?_
  clear hK K
  try simp only [Act.put, List.setIfInBounds_toArray, List.set_cons_zero, List.set_cons_succ]
  refine wpList_step (fun K hK => one_value (by rfl) (.agg m1.cs) (ex_load 29 (.tmp 3) rfl _ rfl m1.cs _ Tryd.underlying29 rfl (ld29 _ (em_size _)) (ebox_all HE5.out)) (hK _ _ ?_))
  clear hK K
  try simp only [Act.put, List.setIfInBounds_toArray, List.set_cons_zero, List.set_cons_succ]
  refine wpList_step (fun K hK => ?_)
  rw [if_pos (by rfl)]
  go_simp
  refine hK _ _ ?_
  clear hK K
  try simp only [Act.put, List.setIfInBounds_toArray, List.set_cons_zero, List.set_cons_succ]
  refine wpList_step (fun K hK => one_value (by rfl) (.agg m.cs) (ex_load 29 (.tmp 37) rfl _ rfl m.cs _ Tryd.underlying29 rfl (ld29 _ (em_size _)) (th_in HX5.out)) (hK _ _ ?_))
  clear hK K
  try simp only [Act.put, List.setIfInBounds_toArray, List.set_cons_zero, List.set_cons_succ]
  refine wpList_step (fun K hK => ?_)
  rw [if_pos (by rfl)]
  go_simp
  go_at_call 10
  refine HSE.out.mono ?_
  rintro e w7 ⟨rfl, hb7⟩
  have HX7 := hide (HX5.out.below hb7 HX5.out.lt)
  have HB7 := hide (HB5.out.trans (hb7.mono HB5.out.size))
  refine hK _ _ ?_
  clear hK K hb7
  try simp only [Act.put, List.setIfInBounds_toArray, List.set_cons_zero, List.set_cons_succ]
  go_upto_region 6 with fail
  have HQ := hide HX7.out.drew
  obtain ⟨W9, hW9⟩ : ∃ W9, W9 = w7.drew := ⟨_, rfl⟩
  have HB9 : Hid (Below w.heap.size w W9) := by show Below _ _ _; rw [hW9]; exact HB7.out.drew
  refine wp_region_L [] (fun V => Blk V w.heap.size 34 (m.th nodes)) (by kernel_rfl) ?_
  rw [← hW9] at HQ ⊢
  clear hW9
  by_cases hy : Y = 0
  · have HBK : Hid (lineE nodes X = m.ev) := HBK0.out hy
    rw [hy]
    refine wpL_take 0 (oi := ⟨some 42, _, _, _, _, _⟩) (v := ?_) rfl (by kernel_rfl) (by kernel_rfl) (by kernel_rfl) (by kernel_rfl) (fun _ _ _ h => h) (Or.inl ⟨by rfl, ?_⟩) HQ.out ?_
    rotate_left
    · intro V hV
      go_simp
      try with_reducible rfl
    try simp only [Act.put, List.setIfInBounds_toArray, List.set_cons_zero, List.set_cons_succ]
    refine wpL_take 1 (oi := ⟨some 43, _, _, _, _, _⟩) (v := ?_) rfl (by kernel_rfl) (by kernel_rfl) (by kernel_rfl) (by kernel_rfl) (fun _ _ _ h => h) (Or.inl ⟨by rfl, ?_⟩) HQ.out ?_
    rotate_left
    · intro V hV
      go_simp
      try with_reducible rfl
    try simp only [Act.put, List.setIfInBounds_toArray, List.set_cons_zero, List.set_cons_succ]
    refine wpL_take 2 (oi := ⟨some 44, _, _, _, _, _⟩) (v := ?_) rfl (by kernel_rfl) (by kernel_rfl) (by kernel_rfl) (by kernel_rfl) (fun _ _ _ h => h) (Or.inl ⟨by rfl, ?_⟩) HQ.out ?_
    rotate_left
    · intro V hV
      go_simp
      try with_reducible rfl
    try simp only [Act.put, List.setIfInBounds_toArray, List.set_cons_zero, List.set_cons_succ]
    refine wpL_take 3 (oi := ⟨some 45, _, _, _, _, _⟩) (v := ?_) rfl (by kernel_rfl) (by kernel_rfl) (by kernel_rfl) (by kernel_rfl) (fun _ _ _ h => h) (Or.inl ⟨by rfl, ?_⟩) HQ.out ?_
    rotate_left
    · intro V hV
      go_simp
      try with_reducible rfl
    try simp only [Act.put, List.setIfInBounds_toArray, List.set_cons_zero, List.set_cons_succ]
    refine wpL_take 4 (oi := ⟨some 46, _, _, _, _, _⟩) (v := ?_) rfl (by kernel_rfl) (by kernel_rfl) (by kernel_rfl) (by kernel_rfl) (fun _ _ _ h => h) (Or.inl ⟨by rfl, ?_⟩) HQ.out ?_
    rotate_left
    · intro V hV
      go_simp
      try with_reducible rfl
    try simp only [Act.put, List.setIfInBounds_toArray, List.set_cons_zero, List.set_cons_succ]
    refine wpL_take 5 (oi := ⟨some 47, _, _, _, _, _⟩) (v := ?_) rfl (by kernel_rfl) (by kernel_rfl) (by kernel_rfl) (by kernel_rfl) (fun _ _ _ h => h) (Or.inl ⟨by rfl, ?_⟩) HQ.out ?_
    rotate_left
    · intro V hV
      have k := th_node hV
      go_simp
      try with_reducible rfl
    try simp only [Act.put, List.setIfInBounds_toArray, List.set_cons_zero, List.set_cons_succ]
    refine wpL_take 7 (oi := ⟨some 49, _, _, _, _, _⟩) (v := ?_) rfl (by kernel_rfl) (by kernel_rfl) (by kernel_rfl) (by kernel_rfl) (fun _ _ _ h => h) (Or.inl ⟨by rfl, ?_⟩) HQ.out ?_
    rotate_left
    · intro V hV
      go_simp
      try with_reducible rfl
    try simp only [Act.put, List.setIfInBounds_toArray, List.set_cons_zero, List.set_cons_succ]
    refine wpL_take 8 (oi := ⟨some 50, _, _, _, _, _⟩) (v := .agg m.cs) rfl (by kernel_rfl) (by kernel_rfl) (by kernel_rfl) (by kernel_rfl) (fun _ _ _ h => h) (Or.inl ⟨by rfl, ?_⟩) HQ.out ?_
    · intro V hV
      exact ex_load 29 (.tmp 49) rfl _ rfl m.cs _ Tryd.underlying29 rfl (ld29 _ (em_size _)) (th_in hV)
    try simp only [Act.put, List.setIfInBounds_toArray, List.set_cons_zero, List.set_cons_succ]
    refine wpL_one 6 (by kernel_rfl) rfl (fun K hK => ?_)
    rw [if_pos (by rfl)]
    go_simp
    go_at_call 9
    refine (HPE.out _ (HOT.out.below HB9.out H0.out)).mono ?_
    rintro e w10 ⟨m2, rfl, hev, ht, hb10⟩
    have HQ10 := hide (HQ.out.below hb10 HQ.out.lt)
    have HB10 := hide (HB9.out.trans (hb10.mono HB9.out.size))
    have HSM := hide (same_true (m := m2) (m' := m) w10 ht.inn ((HIN.out.below HB10.out).up HB10.out.size) (hev.trans HBK.out))
    refine hK _ _ (fun _ => HQ10.out) ?_
    clear hK K hb10 ht hev
    try simp only [Act.put, List.setIfInBounds_toArray, List.set_cons_zero, List.set_cons_succ]
    refine wpL_one 9 (by kernel_rfl) rfl (fun K hK => ?_)
    rw [if_pos (by rfl)]
    go_simp
    go_at_call 10
    refine HSM.out.mono ?_
    rintro e w11 ⟨rfl, hb11⟩
    have HQ11 := hide (HQ10.out.below hb11 HQ10.out.lt)
    have HB11 := hide (HB10.out.trans (hb11.mono HB10.out.size))
    refine hK _ _ (fun _ => HQ11.out) ?_
    clear hK K hb11
    try simp only [Act.put, List.setIfInBounds_toArray, List.set_cons_zero, List.set_cons_succ]
    refine wpL_take 10 (oi := ⟨some 52, _, _, _, _, _⟩) (v := ?_) rfl (by kernel_rfl) (by kernel_rfl) (by kernel_rfl) (by kernel_rfl) (fun _ _ _ h => h) (Or.inl ⟨by rfl, ?_⟩) HQ11.out ?_
    rotate_left
    · intro V hV
      go_simp
      try with_reducible rfl
    try simp only [Act.put, List.setIfInBounds_toArray, List.set_cons_zero, List.set_cons_succ]
    refine wpL_take 11 (oi := ⟨some 2, _, _, _, _, _⟩) (v := ?_) rfl (by kernel_rfl) (by kernel_rfl) (by kernel_rfl) (by kernel_rfl) (fun _ _ _ h => h) (Or.inl ⟨by rfl, ?_⟩) HQ11.out ?_
    rotate_left
    · intro V hV
      go_simp
      try with_reducible rfl
    try simp only [Act.put, List.setIfInBounds_toArray, List.set_cons_zero, List.set_cons_succ]
    refine wpL_done (by kernel_rfl) ?_ _
    go_wp2_with fail
    go_ret
    exact ⟨rfl, HB11.out⟩
  · have hy2 : (Y != 0) = true := by simp [hy]
    refine wpL_take 0 (oi := ⟨some 42, _, _, _, _, _⟩) (v := ?_) rfl (by kernel_rfl) (by kernel_rfl) (by kernel_rfl) (by kernel_rfl) (fun _ _ _ h => h) (Or.inl ⟨by rfl, ?_⟩) HQ.out ?_
    rotate_left
    · intro V hV
      go_simp
      try with_reducible rfl
    try simp only [Act.put, List.setIfInBounds_toArray, List.set_cons_zero, List.set_cons_succ]
    refine wpL_take 1 (oi := ⟨some 43, _, _, _, _, _⟩) (v := ?_) rfl (by kernel_rfl) (by kernel_rfl) (by kernel_rfl) (by kernel_rfl) (fun _ _ _ h => h) (Or.inl ⟨by rfl, ?_⟩) HQ.out ?_
    rotate_left
    · intro V hV
      go_simp
      try with_reducible rfl
    try simp only [Act.put, List.setIfInBounds_toArray, List.set_cons_zero, List.set_cons_succ]
    refine wpL_take 2 (oi := ⟨some 44, _, _, _, _, _⟩) (v := ?_) rfl (by kernel_rfl) (by kernel_rfl) (by kernel_rfl) (by kernel_rfl) (fun _ _ _ h => h) (Or.inl ⟨by rfl, ?_⟩) HQ.out ?_
    rotate_left
    · intro V hV
      go_simp
      try with_reducible rfl
    try simp only [Act.put, List.setIfInBounds_toArray, List.set_cons_zero, List.set_cons_succ]
    refine wpL_take 3 (oi := ⟨some 45, _, _, _, _, _⟩) (v := undef) rfl (by kernel_rfl) (by kernel_rfl) (by kernel_rfl) (by kernel_rfl) (fun _ _ _ h => h) (Or.inr ⟨by rfl, rfl⟩) HQ.out ?_
    try simp only [Act.put, List.setIfInBounds_toArray, List.set_cons_zero, List.set_cons_succ]
    refine wpL_take 4 (oi := ⟨some 46, _, _, _, _, _⟩) (v := undef) rfl (by kernel_rfl) (by kernel_rfl) (by kernel_rfl) (by kernel_rfl) (fun _ _ _ h => h) (Or.inr ⟨by rfl, rfl⟩) HQ.out ?_
    try simp only [Act.put, List.setIfInBounds_toArray, List.set_cons_zero, List.set_cons_succ]
    refine wpL_take 5 (oi := ⟨some 47, _, _, _, _, _⟩) (v := undef) rfl (by kernel_rfl) (by kernel_rfl) (by kernel_rfl) (by kernel_rfl) (fun _ _ _ h => h) (Or.inr ⟨by rfl, rfl⟩) HQ.out ?_
    try simp only [Act.put, List.setIfInBounds_toArray, List.set_cons_zero, List.set_cons_succ]
    refine wpL_take 7 (oi := ⟨some 49, _, _, _, _, _⟩) (v := undef) rfl (by kernel_rfl) (by kernel_rfl) (by kernel_rfl) (by kernel_rfl) (fun _ _ _ h => h) (Or.inr ⟨by rfl, rfl⟩) HQ.out ?_
    try simp only [Act.put, List.setIfInBounds_toArray, List.set_cons_zero, List.set_cons_succ]
    refine wpL_take 8 (oi := ⟨some 50, _, _, _, _, _⟩) (v := undef) rfl (by kernel_rfl) (by kernel_rfl) (by kernel_rfl) (by kernel_rfl) (fun _ _ _ h => h) (Or.inr ⟨by rfl, rfl⟩) HQ.out ?_
    try simp only [Act.put, List.setIfInBounds_toArray, List.set_cons_zero, List.set_cons_succ]
    refine wpL_one 6 (by kernel_rfl) rfl (fun K hK => ?_)
    rw [if_neg (fun h => by cases (show false = true from h))]
    try go_simp
    refine hK _ _ (fun _ => HQ.out) ?_
    clear hK K
    try simp only [Act.put, List.setIfInBounds_toArray, List.set_cons_zero, List.set_cons_succ]
    refine wpL_one 9 (by kernel_rfl) rfl (fun K hK => ?_)
    rw [if_neg (fun h => by cases (show false = true from h))]
    try go_simp
    refine hK _ _ (fun _ => HQ.out) ?_
    clear hK K
    try simp only [Act.put, List.setIfInBounds_toArray, List.set_cons_zero, List.set_cons_succ]
    refine wpL_take 10 (oi := ⟨some 52, _, _, _, _, _⟩) (v := ?_) rfl (by kernel_rfl) (by kernel_rfl) (by kernel_rfl) (by kernel_rfl) (fun _ _ _ h => h) (Or.inl ⟨by rfl, ?_⟩) HQ.out ?_
    rotate_left
    · intro V hV
      go_simp
      try with_reducible rfl
    try simp only [Act.put, List.setIfInBounds_toArray, List.set_cons_zero, List.set_cons_succ]
    refine wpL_take 11 (oi := ⟨some 2, _, _, _, _, _⟩) (v := ?_) rfl (by kernel_rfl) (by kernel_rfl) (by kernel_rfl) (by kernel_rfl) (fun _ _ _ h => h) (Or.inl ⟨by rfl, ?_⟩) HQ.out ?_
    rotate_left
    · intro V hV
      go_simp
      try with_reducible rfl
    try simp only [Act.put, List.setIfInBounds_toArray, List.set_cons_zero, List.set_cons_succ]
    refine wpL_done (by kernel_rfl) ?_ _
    go_wp2_with fail
    go_ret
    exact ⟨rfl, HB9.out⟩
end Go.Proofs.YtcibcmfaebbhnaaDoor
