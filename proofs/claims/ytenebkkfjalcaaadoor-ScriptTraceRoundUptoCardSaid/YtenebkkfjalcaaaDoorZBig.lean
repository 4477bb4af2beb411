/-
  The reference's big: a mark with one part more. (Printed by wip/tools/mkbig.py.)
-/
import Derived.Test.YtenebkkfjalcaaaDoorZGd
import Derived.Test.YtenebkkfjalcaaaDoorZPsz
set_option linter.unusedVariables false
set_option linter.unusedSimpArgs false
namespace Go.Proofs.YtenebkkfjalcaaaDoor
open Go.RowKit Go.WideShapes Go.ChangeShapes Q

theorem cutD_any (s : ByteArray) (c : UInt8) (w : World) (hs : s.size ≤ 1000000000000) :
    Calls Tryd.prog 48 #[.string s, .int .u8 (c.toNat : Int)] w fun e w' => ∃ A cap bo, e = .returned (.tuple #[.slice A ((cutL c [] s.data.toList).getD []).length cap, .bool bo]) ∧ w'.ownsRow w.heap.size 9 1 (.slice A ((cutL c [] s.data.toList).getD []).length cap) ((cutL c [] s.data.toList).getD []).length (strs ((cutL c [] s.data.toList).getD [])) ∧ Below w.heap.size w w' := by
  refine (cut_any s c w hs).mono ?_
  rintro e w' ⟨hb, ⟨ps, A, cap, h1, he, ho, _⟩ | ⟨h1, he⟩⟩
  · rw [h1]
    exact ⟨A, cap, true, he, ho, hb⟩
  · rw [h1]
    exact ⟨none, 0, false, he, World.ownsRow_nil _ _ _ _, hb⟩
theorem pieceD_len (s : ByteArray) (c : UInt8) (hs : s.size ≤ 1000000000000) (i : Nat) : (S (((cutL c [] s.data.toList).getD []).getD i [])).size ≤ 1000000000000 := by
  rw [S_size]
  cases h : cutL c [] s.data.toList with
  | none => simp
  | some ps =>
    simp only [Option.getD_some]
    rcases Nat.lt_or_ge i ps.length with h1 | h1
    · have e : ps.getD i [] = ps[i] := by simp [h1]
      rw [e]
      have := cut_len _ c [] s.data.toList (Nat.le_refl _) ps h _ (List.getElem_mem h1)
      rw [List.length_nil, str_len] at this
      omega
    · have e : ps.getD i [] = [] := by simp [h1]
      rw [e]
      simp
theorem looseS {p : List UInt8} (h : (S p).size ≤ 1000000000000) (W : World) : Calls Tryd.prog 49 #[.string (S p)] W fun e w' => e = .returned (.int .i64 (looseZ p)) ∧ W = w' := loose_any (S p) W h
theorem textS {p : List UInt8} (h : (S p).size ≤ 1000000000000) (W : World) : Calls Tryd.prog 77 #[.string (S p)] W fun e w' => e = .returned (.string (S (textL p))) ∧ Below W.heap.size W w' := text_any (S p) W h
theorem name_no {nm : ByteArray} {l : List UInt8} (h : ¬ nm.data.toList = l) : ¬ nm.toList = l := by rw [ByteArray.toList_eq]; exact h
theorem name_nb {nm : ByteArray} {l : List UInt8} (h : ¬ nm.data.toList = l) : (nm.toList == l) = false := by rw [beq_eq_false_iff_ne]; exact name_no h
set_option maxRecDepth 100000 in
set_option maxHeartbeats 4000000 in
theorem big_id (m : Mk) (nm s : ByteArray) (b : Nat) (w : World) (h : MkU w b m) (hb : b ≤ w.heap.size) (hs : s.size ≤ 1000000000000) (hn : nm.data.toList = [105, 100]) (hp : ((cutL 47 [] s.data.toList).getD []).length = 4) :
    Calls Tryd.prog 65 #[.agg m.cs, .string nm, .string s] w fun e w' => MarkP (bigC m.pm nm.data.toList s.data.toList) b w e w' := by
  obtain ⟨ps, hps⟩ : ∃ ps, ps = (cutL 47 [] s.data.toList).getD [] := ⟨_, rfl⟩
  have HC : Hid (∀ W, Calls Tryd.prog 48 #[.string s, .int .u8 (47 : Int)] W fun e w' => ∃ A cap bo, e = .returned (.tuple #[.slice A ps.length cap, .bool bo]) ∧ w'.ownsRow W.heap.size 9 1 (.slice A ps.length cap) ps.length (strs ps) ∧ Below W.heap.size W w') := fun W => by
    rw [hps]
    exact cutD_any s 47 W hs
  have HPL : Hid (∀ i, (S (ps.getD i [])).size ≤ 1000000000000) := fun i => by
    rw [hps]
    exact pieceD_len s 47 hs i
  have HPS := hide hps
  have HT := hide h
  have HN := hide hn
  have hnl : nm.toList = [105, 100] := by rw [ByteArray.toList_eq]; exact hn
  clear hn
  have HP : Hid (ps.length = 4) := by rw [hps]; exact hp
  have l0 : (0 : Int) < (ps.length : Int) := by have := HP.out; omega
  have n0 : 0 < ps.length := by have := HP.out; omega
  have l1 : (1 : Int) < (ps.length : Int) := by have := HP.out; omega
  have n1 : 1 < ps.length := by have := HP.out; omega
  have l2 : (2 : Int) < (ps.length : Int) := by have := HP.out; omega
  have n2 : 2 < ps.length := by have := HP.out; omega
  have l3 : (3 : Int) < (ps.length : Int) := by have := HP.out; omega
  have n3 : 3 < ps.length := by have := HP.out; omega
  have hp4 : ((ps.length : Int) == 4) = true := by rw [beq_iff_eq]; have := HP.out; omega
  clear hp
  clear hps h
  go_enter Tryd.func65, Tryd.ntmps65
  go_upto_region 1 with fail
  generalize hW0 : World.alloc (World.alloc w _) _ = W0
  have HS0 : Hid (B2 w W0 b m) := by
    show B2 w W0 b m
    rw [← hW0]
    exact B2.new HT.out hb _ rfl
  clear hW0
  have hbW0 : b ≤ W0.heap.size := Nat.le_trans hb HS0.out.low.size
  go_upto_region 2 with (go_at_call 48; refine (HC.out _).mono ?_; rintro e w2 ⟨A, cap, bo, rfl, ho2, hb2⟩; have HS2 := hide (HS0.out.step hb2 hbW0); have HR2 := hide ho2; clear ho2 hb2)
  obtain ⟨g, p0, rfl, _, _⟩ := row_text HR2.out n0
  have HX : Hid (PX w w2.drew b m W0.heap.size g cap ps) := (⟨HS2.out, HR2.out⟩ : PX w w2 b m W0.heap.size g cap ps).drew
  obtain ⟨q0, hq⟩ : ∃ q, q = ps.getD 0 [] := ⟨_, rfl⟩
  have HK0 : Hid (∀ V, PX w V b m W0.heap.size g cap ps → V.cell? ⟨g, 0, none⟩ = some (.string (S q0))) := fun V hV => by rw [hq]; exact hV.at n0
  have HL0 : Hid (∀ W, Calls Tryd.prog 49 #[.string (S q0)] W fun e w' => e = .returned (.int .i64 (looseZ q0)) ∧ W = w') := fun W => by rw [hq]; exact looseS (HPL.out 0) W
  have HQ0 := hide hq
  clear hq
  obtain ⟨q1, hq⟩ : ∃ q, q = ps.getD 1 [] := ⟨_, rfl⟩
  have HK1 : Hid (∀ V, PX w V b m W0.heap.size g cap ps → V.cell? ⟨g, 1, none⟩ = some (.string (S q1))) := fun V hV => by rw [hq]; exact hV.at n1
  have HL1 : Hid (∀ W, Calls Tryd.prog 49 #[.string (S q1)] W fun e w' => e = .returned (.int .i64 (looseZ q1)) ∧ W = w') := fun W => by rw [hq]; exact looseS (HPL.out 1) W
  have HQ1 := hide hq
  clear hq
  obtain ⟨q2, hq⟩ : ∃ q, q = ps.getD 2 [] := ⟨_, rfl⟩
  have HK2 : Hid (∀ V, PX w V b m W0.heap.size g cap ps → V.cell? ⟨g, 2, none⟩ = some (.string (S q2))) := fun V hV => by rw [hq]; exact hV.at n2
  have HL2 : Hid (∀ W, Calls Tryd.prog 49 #[.string (S q2)] W fun e w' => e = .returned (.int .i64 (looseZ q2)) ∧ W = w') := fun W => by rw [hq]; exact looseS (HPL.out 2) W
  have HQ2 := hide hq
  clear hq
  obtain ⟨q3, hq⟩ : ∃ q, q = ps.getD 3 [] := ⟨_, rfl⟩
  have HK3 : Hid (∀ V, PX w V b m W0.heap.size g cap ps → V.cell? ⟨g, 3, none⟩ = some (.string (S q3))) := fun V hV => by rw [hq]; exact hV.at n3
  have HL3 : Hid (∀ W, Calls Tryd.prog 49 #[.string (S q3)] W fun e w' => e = .returned (.int .i64 (looseZ q3)) ∧ W = w') := fun W => by rw [hq]; exact looseS (HPL.out 3) W
  have HQ3 := hide hq
  clear hq
  go_upto_region 3 with fail
  refine wp_region_L [18] (fun V => PX w V b m W0.heap.size g cap ps) (by kernel_rfl) ?_
  refine wpL_take 0 (oi := ⟨some 26, _, _, _, _, _⟩) (v := ?_) rfl (by kernel_rfl) (by kernel_rfl) (by kernel_rfl) (by kernel_rfl) (fun _ _ _ h => h) (Or.inl ⟨by rfl, ?_⟩) HX.out ?_
  rotate_left
  · intro V hV
    go_simp
    try with_reducible rfl
  try simp only [Act.put, List.setIfInBounds_toArray, List.set_cons_zero, List.set_cons_succ]
  refine wpL_take 1 (oi := ⟨some 27, _, _, _, _, _⟩) (v := ?_) rfl (by kernel_rfl) (by kernel_rfl) (by kernel_rfl) (by kernel_rfl) (fun _ _ _ h => h) (Or.inl ⟨by rfl, ?_⟩) HX.out ?_
  rotate_left
  · intro V hV
    go_simp
    try with_reducible rfl
  try simp only [Act.put, List.setIfInBounds_toArray, List.set_cons_zero, List.set_cons_succ]
  refine wpL_take 2 (oi := ⟨some 28, _, _, _, _, _⟩) (v := ?_) rfl (by kernel_rfl) (by kernel_rfl) (by kernel_rfl) (by kernel_rfl) (fun _ _ _ h => h) (Or.inl ⟨by rfl, ?_⟩) HX.out ?_
  rotate_left
  · intro V hV
    have k0 := HK0.out V hV
    go_simp
    try with_reducible rfl
  try simp only [Act.put, List.setIfInBounds_toArray, List.set_cons_zero, List.set_cons_succ]
  refine wpL_take 4 (oi := ⟨some 30, _, _, _, _, _⟩) (v := ?_) rfl (by kernel_rfl) (by kernel_rfl) (by kernel_rfl) (by kernel_rfl) (fun _ _ _ h => h) (Or.inl ⟨by rfl, ?_⟩) HX.out ?_
  rotate_left
  · intro V hV
    go_simp
    try with_reducible rfl
  try simp only [Act.put, List.setIfInBounds_toArray, List.set_cons_zero, List.set_cons_succ]
  refine wpL_take 5 (oi := ⟨some 31, _, _, _, _, _⟩) (v := ?_) rfl (by kernel_rfl) (by kernel_rfl) (by kernel_rfl) (by kernel_rfl) (fun _ _ _ h => h) (Or.inl ⟨by rfl, ?_⟩) HX.out ?_
  rotate_left
  · intro V hV
    go_simp
    try with_reducible rfl
  try simp only [Act.put, List.setIfInBounds_toArray, List.set_cons_zero, List.set_cons_succ]
  refine wpL_take 6 (oi := ⟨some 32, _, _, _, _, _⟩) (v := ?_) rfl (by kernel_rfl) (by kernel_rfl) (by kernel_rfl) (by kernel_rfl) (fun _ _ _ h => h) (Or.inl ⟨by rfl, ?_⟩) HX.out ?_
  rotate_left
  · intro V hV
    have k1 := HK1.out V hV
    go_simp
    try with_reducible rfl
  try simp only [Act.put, List.setIfInBounds_toArray, List.set_cons_zero, List.set_cons_succ]
  refine wpL_take 8 (oi := ⟨some 34, _, _, _, _, _⟩) (v := ?_) rfl (by kernel_rfl) (by kernel_rfl) (by kernel_rfl) (by kernel_rfl) (fun _ _ _ h => h) (Or.inl ⟨by rfl, ?_⟩) HX.out ?_
  rotate_left
  · intro V hV
    go_simp
    try with_reducible rfl
  try simp only [Act.put, List.setIfInBounds_toArray, List.set_cons_zero, List.set_cons_succ]
  refine wpL_take 9 (oi := ⟨some 35, _, _, _, _, _⟩) (v := ?_) rfl (by kernel_rfl) (by kernel_rfl) (by kernel_rfl) (by kernel_rfl) (fun _ _ _ h => h) (Or.inl ⟨by rfl, ?_⟩) HX.out ?_
  rotate_left
  · intro V hV
    go_simp
    try with_reducible rfl
  try simp only [Act.put, List.setIfInBounds_toArray, List.set_cons_zero, List.set_cons_succ]
  refine wpL_take 10 (oi := ⟨some 36, _, _, _, _, _⟩) (v := ?_) rfl (by kernel_rfl) (by kernel_rfl) (by kernel_rfl) (by kernel_rfl) (fun _ _ _ h => h) (Or.inl ⟨by rfl, ?_⟩) HX.out ?_
  rotate_left
  · intro V hV
    have k2 := HK2.out V hV
    go_simp
    try with_reducible rfl
  try simp only [Act.put, List.setIfInBounds_toArray, List.set_cons_zero, List.set_cons_succ]
  refine wpL_take 12 (oi := ⟨some 38, _, _, _, _, _⟩) (v := ?_) rfl (by kernel_rfl) (by kernel_rfl) (by kernel_rfl) (by kernel_rfl) (fun _ _ _ h => h) (Or.inl ⟨by rfl, ?_⟩) HX.out ?_
  rotate_left
  · intro V hV
    go_simp
    try with_reducible rfl
  try simp only [Act.put, List.setIfInBounds_toArray, List.set_cons_zero, List.set_cons_succ]
  refine wpL_take 13 (oi := ⟨some 39, _, _, _, _, _⟩) (v := ?_) rfl (by kernel_rfl) (by kernel_rfl) (by kernel_rfl) (by kernel_rfl) (fun _ _ _ h => h) (Or.inl ⟨by rfl, ?_⟩) HX.out ?_
  rotate_left
  · intro V hV
    go_simp
    try with_reducible rfl
  try simp only [Act.put, List.setIfInBounds_toArray, List.set_cons_zero, List.set_cons_succ]
  refine wpL_take 14 (oi := ⟨some 40, _, _, _, _, _⟩) (v := ?_) rfl (by kernel_rfl) (by kernel_rfl) (by kernel_rfl) (by kernel_rfl) (fun _ _ _ h => h) (Or.inl ⟨by rfl, ?_⟩) HX.out ?_
  rotate_left
  · intro V hV
    have k3 := HK3.out V hV
    go_simp
    try with_reducible rfl
  try simp only [Act.put, List.setIfInBounds_toArray, List.set_cons_zero, List.set_cons_succ]
  refine wpL_one 3 (by kernel_rfl) rfl (fun K hK => ?_)
  rw [if_pos (by rfl)]
  go_simp
  go_at_call 49
  refine (HL0.out _).mono ?_
  rintro e w9 ⟨rfl, rfl⟩
  refine hK _ _ (fun _ => HX.out) ?_
  clear hK K
  try simp only [Act.put, List.setIfInBounds_toArray, List.set_cons_zero, List.set_cons_succ]
  refine wpL_one 7 (by kernel_rfl) rfl (fun K hK => ?_)
  rw [if_pos (by rfl)]
  go_simp
  go_at_call 49
  refine (HL1.out _).mono ?_
  rintro e w9 ⟨rfl, rfl⟩
  refine hK _ _ (fun _ => HX.out) ?_
  clear hK K
  try simp only [Act.put, List.setIfInBounds_toArray, List.set_cons_zero, List.set_cons_succ]
  refine wpL_one 11 (by kernel_rfl) rfl (fun K hK => ?_)
  rw [if_pos (by rfl)]
  go_simp
  go_at_call 49
  refine (HL2.out _).mono ?_
  rintro e w9 ⟨rfl, rfl⟩
  refine hK _ _ (fun _ => HX.out) ?_
  clear hK K
  try simp only [Act.put, List.setIfInBounds_toArray, List.set_cons_zero, List.set_cons_succ]
  refine wpL_one 15 (by kernel_rfl) rfl (fun K hK => ?_)
  rw [if_pos (by rfl)]
  go_simp
  go_at_call 49
  refine (HL3.out _).mono ?_
  rintro e w9 ⟨rfl, rfl⟩
  refine hK _ _ (fun _ => HX.out) ?_
  clear hK K
  try simp only [Act.put, List.setIfInBounds_toArray, List.set_cons_zero, List.set_cons_succ]
  refine wpL_take 16 (oi := ⟨some 42, _, _, _, _, _⟩) (v := ?_) rfl (by kernel_rfl) (by kernel_rfl) (by kernel_rfl) (by kernel_rfl) (fun _ _ _ h => h) (Or.inl ⟨by rfl, ?_⟩) HX.out ?_
  rotate_left
  · intro V hV
    go_simp
    try with_reducible rfl
  try simp only [Act.put, List.setIfInBounds_toArray, List.set_cons_zero, List.set_cons_succ]
  refine wpL_take 17 (oi := ⟨some 43, _, _, _, _, _⟩) (v := ?_) rfl (by kernel_rfl) (by kernel_rfl) (by kernel_rfl) (by kernel_rfl) (fun _ _ _ h => h) (Or.inl ⟨by rfl, ?_⟩) HX.out ?_
  rotate_left
  · intro V hV
    go_simp
    try with_reducible rfl
  try simp only [Act.put, List.setIfInBounds_toArray, List.set_cons_zero, List.set_cons_succ]
  obtain ⟨m', hm'⟩ : ∃ m' : Mk, m' = { m with ep := looseZ q0, ld := looseZ q1, ii := looseZ q2, ci := looseZ q3 } := ⟨_, rfl⟩
  refine wpL_one 18 (by kernel_rfl) rfl (fun K hK => one_skip (by rfl) (run_put_at 39 (.tmp 43) (.tmp 42) rfl w.heap.size 4 _ rfl rfl 48 m.cs HX.out.b2.box (by kernel_rfl) (by rw [mk_size]; simp) (by simp [Value.oneCell']) m'.cs (by rw [hm']; exact put_id m _ _ _ _)) (hK _ _ (fun h => by cases h) ?_))
  clear hK K
  try simp only [Act.put, List.setIfInBounds_toArray, List.set_cons_zero, List.set_cons_succ]
  refine wpL_done (by kernel_rfl) ?_ _
  have HM := hide hm'
  have HS8 : Hid (B2 w _ b m') := HX.out.b2.put (by rw [hm']; exact ⟨HX.out.b2.t.mem, HX.out.b2.t.tr, HX.out.b2.t.body, HX.out.b2.t.hm, HX.out.b2.t.ht, HX.out.b2.t.hb⟩) hb
  clear hm'
  go_upto_region 20 with fail
  refine wp_region_lit ?_
  refine wpList_value rfl (.agg m'.cs) (ex_load 48 (.tmp 3) rfl _ rfl m'.cs _ Tryd.underlying48 rfl (ld48 _ (mk_size _)) (box_all HS8.out.box)) ?_
  simp only [Act.put, List.setIfInBounds_toArray, List.set_cons_zero, List.set_cons_succ]
  obtain ⟨Z, hZs, hZ⟩ := HS8.out.out
  refine wpList_put_at rfl 48 (.tmp 6) (.tmp 154) rfl (w.heap.size + 1) 0 m'.cs rfl rfl 48 Z hZ (ld48 _ (mk_size _)) (by rw [mk_size, hZs]; omega) (cs_all m') _ (put_zero Z hZs m') ?_
  simp only [Act.put, List.setIfInBounds_toArray, List.set_cons_zero, List.set_cons_succ]
  go_wp2_with fail
  refine bodyPost_ret (results_48 rfl _ rfl (hZ.row _)) rfl ?_
  refine HS8.out.fin ?_ hb
  rw [HM.out, HQ0.out, HQ1.out, HQ2.out, HQ3.out, HN.out]
  unfold bigC
  rw [← HPS.out, if_pos ⟨rfl, HP.out⟩]
  rfl

set_option maxRecDepth 100000 in
set_option maxHeartbeats 4000000 in
theorem big_cmd (m : Mk) (nm s : ByteArray) (b : Nat) (w : World) (h : MkU w b m) (hb : b ≤ w.heap.size) (hs : s.size ≤ 1000000000000) (hn : nm.data.toList = [99, 109, 100]) (hp : ((cutL 47 [] s.data.toList).getD []).length = 7) :
    Calls Tryd.prog 65 #[.agg m.cs, .string nm, .string s] w fun e w' => MarkP (bigC m.pm nm.data.toList s.data.toList) b w e w' := by
  obtain ⟨ps, hps⟩ : ∃ ps, ps = (cutL 47 [] s.data.toList).getD [] := ⟨_, rfl⟩
  have HC : Hid (∀ W, Calls Tryd.prog 48 #[.string s, .int .u8 (47 : Int)] W fun e w' => ∃ A cap bo, e = .returned (.tuple #[.slice A ps.length cap, .bool bo]) ∧ w'.ownsRow W.heap.size 9 1 (.slice A ps.length cap) ps.length (strs ps) ∧ Below W.heap.size W w') := fun W => by
    rw [hps]
    exact cutD_any s 47 W hs
  have HPL : Hid (∀ i, (S (ps.getD i [])).size ≤ 1000000000000) := fun i => by
    rw [hps]
    exact pieceD_len s 47 hs i
  have HPS := hide hps
  have HT := hide h
  have HN := hide hn
  have hnl : nm.toList = [99, 109, 100] := by rw [ByteArray.toList_eq]; exact hn
  clear hn
  have HP : Hid (ps.length = 7) := by rw [hps]; exact hp
  have l0 : (0 : Int) < (ps.length : Int) := by have := HP.out; omega
  have n0 : 0 < ps.length := by have := HP.out; omega
  have l1 : (1 : Int) < (ps.length : Int) := by have := HP.out; omega
  have n1 : 1 < ps.length := by have := HP.out; omega
  have l2 : (2 : Int) < (ps.length : Int) := by have := HP.out; omega
  have n2 : 2 < ps.length := by have := HP.out; omega
  have l3 : (3 : Int) < (ps.length : Int) := by have := HP.out; omega
  have n3 : 3 < ps.length := by have := HP.out; omega
  have l4 : (4 : Int) < (ps.length : Int) := by have := HP.out; omega
  have n4 : 4 < ps.length := by have := HP.out; omega
  have l5 : (5 : Int) < (ps.length : Int) := by have := HP.out; omega
  have n5 : 5 < ps.length := by have := HP.out; omega
  have l6 : (6 : Int) < (ps.length : Int) := by have := HP.out; omega
  have n6 : 6 < ps.length := by have := HP.out; omega
  have hp4 : ((ps.length : Int) == 7) = true := by rw [beq_iff_eq]; have := HP.out; omega
  clear hp
  clear hps h
  go_enter Tryd.func65, Tryd.ntmps65
  go_upto_region 1 with fail
  generalize hW0 : World.alloc (World.alloc w _) _ = W0
  have HS0 : Hid (B2 w W0 b m) := by
    show B2 w W0 b m
    rw [← hW0]
    exact B2.new HT.out hb _ rfl
  clear hW0
  have hbW0 : b ≤ W0.heap.size := Nat.le_trans hb HS0.out.low.size
  go_upto_region 2 with (go_at_call 48; refine (HC.out _).mono ?_; rintro e w2 ⟨A, cap, bo, rfl, ho2, hb2⟩; have HS2 := hide (HS0.out.step hb2 hbW0); have HR2 := hide ho2; clear ho2 hb2)
  obtain ⟨g, p0, rfl, _, _⟩ := row_text HR2.out n0
  have HX : Hid (PX w w2.drew b m W0.heap.size g cap ps) := (⟨HS2.out, HR2.out⟩ : PX w w2 b m W0.heap.size g cap ps).drew
  obtain ⟨q0, hq⟩ : ∃ q, q = ps.getD 0 [] := ⟨_, rfl⟩
  have HK0 : Hid (∀ V, PX w V b m W0.heap.size g cap ps → V.cell? ⟨g, 0, none⟩ = some (.string (S q0))) := fun V hV => by rw [hq]; exact hV.at n0
  have HL0 : Hid (∀ W, Calls Tryd.prog 49 #[.string (S q0)] W fun e w' => e = .returned (.int .i64 (looseZ q0)) ∧ W = w') := fun W => by rw [hq]; exact looseS (HPL.out 0) W
  have HQ0 := hide hq
  clear hq
  obtain ⟨q1, hq⟩ : ∃ q, q = ps.getD 1 [] := ⟨_, rfl⟩
  have HK1 : Hid (∀ V, PX w V b m W0.heap.size g cap ps → V.cell? ⟨g, 1, none⟩ = some (.string (S q1))) := fun V hV => by rw [hq]; exact hV.at n1
  have HL1 : Hid (∀ W, Calls Tryd.prog 49 #[.string (S q1)] W fun e w' => e = .returned (.int .i64 (looseZ q1)) ∧ W = w') := fun W => by rw [hq]; exact looseS (HPL.out 1) W
  have HQ1 := hide hq
  clear hq
  obtain ⟨q2, hq⟩ : ∃ q, q = ps.getD 2 [] := ⟨_, rfl⟩
  have HK2 : Hid (∀ V, PX w V b m W0.heap.size g cap ps → V.cell? ⟨g, 2, none⟩ = some (.string (S q2))) := fun V hV => by rw [hq]; exact hV.at n2
  have HL2 : Hid (∀ W, Calls Tryd.prog 49 #[.string (S q2)] W fun e w' => e = .returned (.int .i64 (looseZ q2)) ∧ W = w') := fun W => by rw [hq]; exact looseS (HPL.out 2) W
  have HQ2 := hide hq
  clear hq
  obtain ⟨q3, hq⟩ : ∃ q, q = ps.getD 3 [] := ⟨_, rfl⟩
  have HK3 : Hid (∀ V, PX w V b m W0.heap.size g cap ps → V.cell? ⟨g, 3, none⟩ = some (.string (S q3))) := fun V hV => by rw [hq]; exact hV.at n3
  have HL3 : Hid (∀ W, Calls Tryd.prog 49 #[.string (S q3)] W fun e w' => e = .returned (.int .i64 (looseZ q3)) ∧ W = w') := fun W => by rw [hq]; exact looseS (HPL.out 3) W
  have HQ3 := hide hq
  clear hq
  obtain ⟨q4, hq⟩ : ∃ q, q = ps.getD 4 [] := ⟨_, rfl⟩
  have HK4 : Hid (∀ V, PX w V b m W0.heap.size g cap ps → V.cell? ⟨g, 4, none⟩ = some (.string (S q4))) := fun V hV => by rw [hq]; exact hV.at n4
  have HL4 : Hid (∀ W, Calls Tryd.prog 77 #[.string (S q4)] W fun e w' => e = .returned (.string (S (textL q4))) ∧ Below W.heap.size W w') := fun W => by rw [hq]; exact textS (HPL.out 4) W
  have HQ4 := hide hq
  clear hq
  obtain ⟨q5, hq⟩ : ∃ q, q = ps.getD 5 [] := ⟨_, rfl⟩
  have HK5 : Hid (∀ V, PX w V b m W0.heap.size g cap ps → V.cell? ⟨g, 5, none⟩ = some (.string (S q5))) := fun V hV => by rw [hq]; exact hV.at n5
  have HL5 : Hid (∀ W, Calls Tryd.prog 77 #[.string (S q5)] W fun e w' => e = .returned (.string (S (textL q5))) ∧ Below W.heap.size W w') := fun W => by rw [hq]; exact textS (HPL.out 5) W
  have HQ5 := hide hq
  clear hq
  obtain ⟨q6, hq⟩ : ∃ q, q = ps.getD 6 [] := ⟨_, rfl⟩
  have HK6 : Hid (∀ V, PX w V b m W0.heap.size g cap ps → V.cell? ⟨g, 6, none⟩ = some (.string (S q6))) := fun V hV => by rw [hq]; exact hV.at n6
  have HL6 : Hid (∀ W, Calls Tryd.prog 77 #[.string (S q6)] W fun e w' => e = .returned (.string (S (textL q6))) ∧ Below W.heap.size W w') := fun W => by rw [hq]; exact textS (HPL.out 6) W
  have HQ6 := hide hq
  clear hq
  go_upto_region 17 with fail
  refine wp_region_L [30] (fun V => PX w V b m W0.heap.size g cap ps) (by kernel_rfl) ?_
  refine wpL_take 0 (oi := ⟨some 102, _, _, _, _, _⟩) (v := ?_) rfl (by kernel_rfl) (by kernel_rfl) (by kernel_rfl) (by kernel_rfl) (fun _ _ _ h => h) (Or.inl ⟨by rfl, ?_⟩) HX.out ?_
  rotate_left
  · intro V hV
    go_simp
    try with_reducible rfl
  try simp only [Act.put, List.setIfInBounds_toArray, List.set_cons_zero, List.set_cons_succ]
  refine wpL_take 1 (oi := ⟨some 103, _, _, _, _, _⟩) (v := ?_) rfl (by kernel_rfl) (by kernel_rfl) (by kernel_rfl) (by kernel_rfl) (fun _ _ _ h => h) (Or.inl ⟨by rfl, ?_⟩) HX.out ?_
  rotate_left
  · intro V hV
    go_simp
    try with_reducible rfl
  try simp only [Act.put, List.setIfInBounds_toArray, List.set_cons_zero, List.set_cons_succ]
  refine wpL_take 2 (oi := ⟨some 104, _, _, _, _, _⟩) (v := ?_) rfl (by kernel_rfl) (by kernel_rfl) (by kernel_rfl) (by kernel_rfl) (fun _ _ _ h => h) (Or.inl ⟨by rfl, ?_⟩) HX.out ?_
  rotate_left
  · intro V hV
    have k0 := HK0.out V hV
    go_simp
    try with_reducible rfl
  try simp only [Act.put, List.setIfInBounds_toArray, List.set_cons_zero, List.set_cons_succ]
  refine wpL_take 4 (oi := ⟨some 106, _, _, _, _, _⟩) (v := ?_) rfl (by kernel_rfl) (by kernel_rfl) (by kernel_rfl) (by kernel_rfl) (fun _ _ _ h => h) (Or.inl ⟨by rfl, ?_⟩) HX.out ?_
  rotate_left
  · intro V hV
    go_simp
    try with_reducible rfl
  try simp only [Act.put, List.setIfInBounds_toArray, List.set_cons_zero, List.set_cons_succ]
  refine wpL_take 5 (oi := ⟨some 107, _, _, _, _, _⟩) (v := ?_) rfl (by kernel_rfl) (by kernel_rfl) (by kernel_rfl) (by kernel_rfl) (fun _ _ _ h => h) (Or.inl ⟨by rfl, ?_⟩) HX.out ?_
  rotate_left
  · intro V hV
    go_simp
    try with_reducible rfl
  try simp only [Act.put, List.setIfInBounds_toArray, List.set_cons_zero, List.set_cons_succ]
  refine wpL_take 6 (oi := ⟨some 108, _, _, _, _, _⟩) (v := ?_) rfl (by kernel_rfl) (by kernel_rfl) (by kernel_rfl) (by kernel_rfl) (fun _ _ _ h => h) (Or.inl ⟨by rfl, ?_⟩) HX.out ?_
  rotate_left
  · intro V hV
    have k1 := HK1.out V hV
    go_simp
    try with_reducible rfl
  try simp only [Act.put, List.setIfInBounds_toArray, List.set_cons_zero, List.set_cons_succ]
  refine wpL_take 8 (oi := ⟨some 110, _, _, _, _, _⟩) (v := ?_) rfl (by kernel_rfl) (by kernel_rfl) (by kernel_rfl) (by kernel_rfl) (fun _ _ _ h => h) (Or.inl ⟨by rfl, ?_⟩) HX.out ?_
  rotate_left
  · intro V hV
    go_simp
    try with_reducible rfl
  try simp only [Act.put, List.setIfInBounds_toArray, List.set_cons_zero, List.set_cons_succ]
  refine wpL_take 9 (oi := ⟨some 111, _, _, _, _, _⟩) (v := ?_) rfl (by kernel_rfl) (by kernel_rfl) (by kernel_rfl) (by kernel_rfl) (fun _ _ _ h => h) (Or.inl ⟨by rfl, ?_⟩) HX.out ?_
  rotate_left
  · intro V hV
    go_simp
    try with_reducible rfl
  try simp only [Act.put, List.setIfInBounds_toArray, List.set_cons_zero, List.set_cons_succ]
  refine wpL_take 10 (oi := ⟨some 112, _, _, _, _, _⟩) (v := ?_) rfl (by kernel_rfl) (by kernel_rfl) (by kernel_rfl) (by kernel_rfl) (fun _ _ _ h => h) (Or.inl ⟨by rfl, ?_⟩) HX.out ?_
  rotate_left
  · intro V hV
    have k2 := HK2.out V hV
    go_simp
    try with_reducible rfl
  try simp only [Act.put, List.setIfInBounds_toArray, List.set_cons_zero, List.set_cons_succ]
  refine wpL_take 12 (oi := ⟨some 114, _, _, _, _, _⟩) (v := ?_) rfl (by kernel_rfl) (by kernel_rfl) (by kernel_rfl) (by kernel_rfl) (fun _ _ _ h => h) (Or.inl ⟨by rfl, ?_⟩) HX.out ?_
  rotate_left
  · intro V hV
    go_simp
    try with_reducible rfl
  try simp only [Act.put, List.setIfInBounds_toArray, List.set_cons_zero, List.set_cons_succ]
  refine wpL_take 13 (oi := ⟨some 115, _, _, _, _, _⟩) (v := ?_) rfl (by kernel_rfl) (by kernel_rfl) (by kernel_rfl) (by kernel_rfl) (fun _ _ _ h => h) (Or.inl ⟨by rfl, ?_⟩) HX.out ?_
  rotate_left
  · intro V hV
    go_simp
    try with_reducible rfl
  try simp only [Act.put, List.setIfInBounds_toArray, List.set_cons_zero, List.set_cons_succ]
  refine wpL_take 14 (oi := ⟨some 116, _, _, _, _, _⟩) (v := ?_) rfl (by kernel_rfl) (by kernel_rfl) (by kernel_rfl) (by kernel_rfl) (fun _ _ _ h => h) (Or.inl ⟨by rfl, ?_⟩) HX.out ?_
  rotate_left
  · intro V hV
    have k3 := HK3.out V hV
    go_simp
    try with_reducible rfl
  try simp only [Act.put, List.setIfInBounds_toArray, List.set_cons_zero, List.set_cons_succ]
  refine wpL_take 16 (oi := ⟨some 118, _, _, _, _, _⟩) (v := ?_) rfl (by kernel_rfl) (by kernel_rfl) (by kernel_rfl) (by kernel_rfl) (fun _ _ _ h => h) (Or.inl ⟨by rfl, ?_⟩) HX.out ?_
  rotate_left
  · intro V hV
    go_simp
    try with_reducible rfl
  try simp only [Act.put, List.setIfInBounds_toArray, List.set_cons_zero, List.set_cons_succ]
  refine wpL_take 17 (oi := ⟨some 119, _, _, _, _, _⟩) (v := ?_) rfl (by kernel_rfl) (by kernel_rfl) (by kernel_rfl) (by kernel_rfl) (fun _ _ _ h => h) (Or.inl ⟨by rfl, ?_⟩) HX.out ?_
  rotate_left
  · intro V hV
    go_simp
    try with_reducible rfl
  try simp only [Act.put, List.setIfInBounds_toArray, List.set_cons_zero, List.set_cons_succ]
  refine wpL_take 18 (oi := ⟨some 120, _, _, _, _, _⟩) (v := ?_) rfl (by kernel_rfl) (by kernel_rfl) (by kernel_rfl) (by kernel_rfl) (fun _ _ _ h => h) (Or.inl ⟨by rfl, ?_⟩) HX.out ?_
  rotate_left
  · intro V hV
    have k4 := HK4.out V hV
    go_simp
    try with_reducible rfl
  try simp only [Act.put, List.setIfInBounds_toArray, List.set_cons_zero, List.set_cons_succ]
  refine wpL_take 20 (oi := ⟨some 122, _, _, _, _, _⟩) (v := ?_) rfl (by kernel_rfl) (by kernel_rfl) (by kernel_rfl) (by kernel_rfl) (fun _ _ _ h => h) (Or.inl ⟨by rfl, ?_⟩) HX.out ?_
  rotate_left
  · intro V hV
    go_simp
    try with_reducible rfl
  try simp only [Act.put, List.setIfInBounds_toArray, List.set_cons_zero, List.set_cons_succ]
  refine wpL_take 21 (oi := ⟨some 123, _, _, _, _, _⟩) (v := ?_) rfl (by kernel_rfl) (by kernel_rfl) (by kernel_rfl) (by kernel_rfl) (fun _ _ _ h => h) (Or.inl ⟨by rfl, ?_⟩) HX.out ?_
  rotate_left
  · intro V hV
    go_simp
    try with_reducible rfl
  try simp only [Act.put, List.setIfInBounds_toArray, List.set_cons_zero, List.set_cons_succ]
  refine wpL_take 22 (oi := ⟨some 124, _, _, _, _, _⟩) (v := ?_) rfl (by kernel_rfl) (by kernel_rfl) (by kernel_rfl) (by kernel_rfl) (fun _ _ _ h => h) (Or.inl ⟨by rfl, ?_⟩) HX.out ?_
  rotate_left
  · intro V hV
    have k5 := HK5.out V hV
    go_simp
    try with_reducible rfl
  try simp only [Act.put, List.setIfInBounds_toArray, List.set_cons_zero, List.set_cons_succ]
  refine wpL_take 24 (oi := ⟨some 126, _, _, _, _, _⟩) (v := ?_) rfl (by kernel_rfl) (by kernel_rfl) (by kernel_rfl) (by kernel_rfl) (fun _ _ _ h => h) (Or.inl ⟨by rfl, ?_⟩) HX.out ?_
  rotate_left
  · intro V hV
    go_simp
    try with_reducible rfl
  try simp only [Act.put, List.setIfInBounds_toArray, List.set_cons_zero, List.set_cons_succ]
  refine wpL_take 25 (oi := ⟨some 127, _, _, _, _, _⟩) (v := ?_) rfl (by kernel_rfl) (by kernel_rfl) (by kernel_rfl) (by kernel_rfl) (fun _ _ _ h => h) (Or.inl ⟨by rfl, ?_⟩) HX.out ?_
  rotate_left
  · intro V hV
    go_simp
    try with_reducible rfl
  try simp only [Act.put, List.setIfInBounds_toArray, List.set_cons_zero, List.set_cons_succ]
  refine wpL_take 26 (oi := ⟨some 128, _, _, _, _, _⟩) (v := ?_) rfl (by kernel_rfl) (by kernel_rfl) (by kernel_rfl) (by kernel_rfl) (fun _ _ _ h => h) (Or.inl ⟨by rfl, ?_⟩) HX.out ?_
  rotate_left
  · intro V hV
    have k6 := HK6.out V hV
    go_simp
    try with_reducible rfl
  try simp only [Act.put, List.setIfInBounds_toArray, List.set_cons_zero, List.set_cons_succ]
  refine wpL_one 3 (by kernel_rfl) rfl (fun K hK => ?_)
  rw [if_pos (by rfl)]
  go_simp
  go_at_call 49
  refine (HL0.out _).mono ?_
  rintro e w9 ⟨rfl, rfl⟩
  refine hK _ _ (fun _ => HX.out) ?_
  clear hK K
  try simp only [Act.put, List.setIfInBounds_toArray, List.set_cons_zero, List.set_cons_succ]
  refine wpL_one 7 (by kernel_rfl) rfl (fun K hK => ?_)
  rw [if_pos (by rfl)]
  go_simp
  go_at_call 49
  refine (HL1.out _).mono ?_
  rintro e w9 ⟨rfl, rfl⟩
  refine hK _ _ (fun _ => HX.out) ?_
  clear hK K
  try simp only [Act.put, List.setIfInBounds_toArray, List.set_cons_zero, List.set_cons_succ]
  refine wpL_one 11 (by kernel_rfl) rfl (fun K hK => ?_)
  rw [if_pos (by rfl)]
  go_simp
  go_at_call 49
  refine (HL2.out _).mono ?_
  rintro e w9 ⟨rfl, rfl⟩
  refine hK _ _ (fun _ => HX.out) ?_
  clear hK K
  try simp only [Act.put, List.setIfInBounds_toArray, List.set_cons_zero, List.set_cons_succ]
  refine wpL_one 15 (by kernel_rfl) rfl (fun K hK => ?_)
  rw [if_pos (by rfl)]
  go_simp
  go_at_call 49
  refine (HL3.out _).mono ?_
  rintro e w9 ⟨rfl, rfl⟩
  refine hK _ _ (fun _ => HX.out) ?_
  clear hK K
  try simp only [Act.put, List.setIfInBounds_toArray, List.set_cons_zero, List.set_cons_succ]
  refine wpL_one 19 (by kernel_rfl) rfl (fun K hK => ?_)
  rw [if_pos (by rfl)]
  go_simp
  go_at_call 77
  refine (HL4.out _).mono ?_
  rintro e wt0 ⟨rfl, hb9⟩
  have HSwt0 := hide (HX.out.step hb9 (Nat.le_trans hb HX.out.b2.low.size))
  clear hb9
  refine hK _ _ (fun _ => HSwt0.out) ?_
  clear hK K
  try simp only [Act.put, List.setIfInBounds_toArray, List.set_cons_zero, List.set_cons_succ]
  refine wpL_one 23 (by kernel_rfl) rfl (fun K hK => ?_)
  rw [if_pos (by rfl)]
  go_simp
  go_at_call 77
  refine (HL5.out _).mono ?_
  rintro e wt1 ⟨rfl, hb9⟩
  have HSwt1 := hide (HSwt0.out.step hb9 (Nat.le_trans hb HSwt0.out.b2.low.size))
  clear hb9
  refine hK _ _ (fun _ => HSwt1.out) ?_
  clear hK K
  try simp only [Act.put, List.setIfInBounds_toArray, List.set_cons_zero, List.set_cons_succ]
  refine wpL_one 27 (by kernel_rfl) rfl (fun K hK => ?_)
  rw [if_pos (by rfl)]
  go_simp
  go_at_call 77
  refine (HL6.out _).mono ?_
  rintro e wt2 ⟨rfl, hb9⟩
  have HSwt2 := hide (HSwt1.out.step hb9 (Nat.le_trans hb HSwt1.out.b2.low.size))
  clear hb9
  refine hK _ _ (fun _ => HSwt2.out) ?_
  clear hK K
  try simp only [Act.put, List.setIfInBounds_toArray, List.set_cons_zero, List.set_cons_succ]
  refine wpL_take 28 (oi := ⟨some 130, _, _, _, _, _⟩) (v := ?_) rfl (by kernel_rfl) (by kernel_rfl) (by kernel_rfl) (by kernel_rfl) (fun _ _ _ h => h) (Or.inl ⟨by rfl, ?_⟩) HSwt2.out ?_
  rotate_left
  · intro V hV
    go_simp
    try with_reducible rfl
  try simp only [Act.put, List.setIfInBounds_toArray, List.set_cons_zero, List.set_cons_succ]
  refine wpL_take 29 (oi := ⟨some 131, _, _, _, _, _⟩) (v := ?_) rfl (by kernel_rfl) (by kernel_rfl) (by kernel_rfl) (by kernel_rfl) (fun _ _ _ h => h) (Or.inl ⟨by rfl, ?_⟩) HSwt2.out ?_
  rotate_left
  · intro V hV
    go_simp
    try with_reducible rfl
  try simp only [Act.put, List.setIfInBounds_toArray, List.set_cons_zero, List.set_cons_succ]
  obtain ⟨m', hm'⟩ : ∃ m' : Mk, m' = { m with cl := looseZ q0, cn := looseZ q1, rq := looseZ q2, op := looseZ q3, key := S (textL q4), val := S (textL q5), old := S (textL q6) } := ⟨_, rfl⟩
  refine wpL_one 30 (by kernel_rfl) rfl (fun K hK => one_skip (by rfl) (run_put_at 44 (.tmp 131) (.tmp 130) rfl w.heap.size 15 _ rfl rfl 48 m.cs HSwt2.out.b2.box (by kernel_rfl) (by rw [mk_size]; simp) (by simp [Value.oneCell']) m'.cs (by rw [hm']; exact put_cmd m _ _ _ _ _ _ _)) (hK _ _ (fun h => by cases h) ?_))
  clear hK K
  try simp only [Act.put, List.setIfInBounds_toArray, List.set_cons_zero, List.set_cons_succ]
  refine wpL_done (by kernel_rfl) ?_ _
  have HM := hide hm'
  have HS8 : Hid (B2 w _ b m') := HSwt2.out.b2.put (by rw [hm']; exact ⟨HSwt2.out.b2.t.mem, HSwt2.out.b2.t.tr, HSwt2.out.b2.t.body, HSwt2.out.b2.t.hm, HSwt2.out.b2.t.ht, HSwt2.out.b2.t.hb⟩) hb
  clear hm'
  go_upto_region 20 with fail
  refine wp_region_lit ?_
  refine wpList_value rfl (.agg m'.cs) (ex_load 48 (.tmp 3) rfl _ rfl m'.cs _ Tryd.underlying48 rfl (ld48 _ (mk_size _)) (box_all HS8.out.box)) ?_
  simp only [Act.put, List.setIfInBounds_toArray, List.set_cons_zero, List.set_cons_succ]
  obtain ⟨Z, hZs, hZ⟩ := HS8.out.out
  refine wpList_put_at rfl 48 (.tmp 6) (.tmp 154) rfl (w.heap.size + 1) 0 m'.cs rfl rfl 48 Z hZ (ld48 _ (mk_size _)) (by rw [mk_size, hZs]; omega) (cs_all m') _ (put_zero Z hZs m') ?_
  simp only [Act.put, List.setIfInBounds_toArray, List.set_cons_zero, List.set_cons_succ]
  go_wp2_with fail
  refine bodyPost_ret (results_48 rfl _ rfl (hZ.row _)) rfl ?_
  refine HS8.out.fin ?_ hb
  rw [HM.out, HQ0.out, HQ1.out, HQ2.out, HQ3.out, HQ4.out, HQ5.out, HQ6.out, HN.out]
  unfold bigC
  rw [← HPS.out]
  simp only [HP.out]
  rfl

set_option maxRecDepth 100000 in
set_option maxHeartbeats 4000000 in
theorem big_res (m : Mk) (nm s : ByteArray) (b : Nat) (w : World) (h : MkU w b m) (hb : b ≤ w.heap.size) (hs : s.size ≤ 1000000000000) (hn : nm.data.toList = [114, 101, 115, 117, 108, 116]) (hp : ((cutL 47 [] s.data.toList).getD []).length = 3) :
    Calls Tryd.prog 65 #[.agg m.cs, .string nm, .string s] w fun e w' => MarkP (bigC m.pm nm.data.toList s.data.toList) b w e w' := by
  obtain ⟨ps, hps⟩ : ∃ ps, ps = (cutL 47 [] s.data.toList).getD [] := ⟨_, rfl⟩
  have HC : Hid (∀ W, Calls Tryd.prog 48 #[.string s, .int .u8 (47 : Int)] W fun e w' => ∃ A cap bo, e = .returned (.tuple #[.slice A ps.length cap, .bool bo]) ∧ w'.ownsRow W.heap.size 9 1 (.slice A ps.length cap) ps.length (strs ps) ∧ Below W.heap.size W w') := fun W => by
    rw [hps]
    exact cutD_any s 47 W hs
  have HPL : Hid (∀ i, (S (ps.getD i [])).size ≤ 1000000000000) := fun i => by
    rw [hps]
    exact pieceD_len s 47 hs i
  have HPS := hide hps
  have HT := hide h
  have HN := hide hn
  have hnl : nm.toList = [114, 101, 115, 117, 108, 116] := by rw [ByteArray.toList_eq]; exact hn
  clear hn
  have HP : Hid (ps.length = 3) := by rw [hps]; exact hp
  have l0 : (0 : Int) < (ps.length : Int) := by have := HP.out; omega
  have n0 : 0 < ps.length := by have := HP.out; omega
  have l1 : (1 : Int) < (ps.length : Int) := by have := HP.out; omega
  have n1 : 1 < ps.length := by have := HP.out; omega
  have l2 : (2 : Int) < (ps.length : Int) := by have := HP.out; omega
  have n2 : 2 < ps.length := by have := HP.out; omega
  have hp4 : ((ps.length : Int) == 3) = true := by rw [beq_iff_eq]; have := HP.out; omega
  clear hp
  clear hps h
  go_enter Tryd.func65, Tryd.ntmps65
  go_upto_region 1 with fail
  generalize hW0 : World.alloc (World.alloc w _) _ = W0
  have HS0 : Hid (B2 w W0 b m) := by
    show B2 w W0 b m
    rw [← hW0]
    exact B2.new HT.out hb _ rfl
  clear hW0
  have hbW0 : b ≤ W0.heap.size := Nat.le_trans hb HS0.out.low.size
  go_upto_region 2 with (go_at_call 48; refine (HC.out _).mono ?_; rintro e w2 ⟨A, cap, bo, rfl, ho2, hb2⟩; have HS2 := hide (HS0.out.step hb2 hbW0); have HR2 := hide ho2; clear ho2 hb2)
  obtain ⟨g, p0, rfl, _, _⟩ := row_text HR2.out n0
  have HX : Hid (PX w w2.drew b m W0.heap.size g cap ps) := (⟨HS2.out, HR2.out⟩ : PX w w2 b m W0.heap.size g cap ps).drew
  obtain ⟨q0, hq⟩ : ∃ q, q = ps.getD 0 [] := ⟨_, rfl⟩
  have HK0 : Hid (∀ V, PX w V b m W0.heap.size g cap ps → V.cell? ⟨g, 0, none⟩ = some (.string (S q0))) := fun V hV => by rw [hq]; exact hV.at n0
  have HL0 : Hid (∀ W, Calls Tryd.prog 49 #[.string (S q0)] W fun e w' => e = .returned (.int .i64 (looseZ q0)) ∧ W = w') := fun W => by rw [hq]; exact looseS (HPL.out 0) W
  have HQ0 := hide hq
  clear hq
  obtain ⟨q1, hq⟩ : ∃ q, q = ps.getD 1 [] := ⟨_, rfl⟩
  have HK1 : Hid (∀ V, PX w V b m W0.heap.size g cap ps → V.cell? ⟨g, 1, none⟩ = some (.string (S q1))) := fun V hV => by rw [hq]; exact hV.at n1
  have HL1 : Hid (∀ W, Calls Tryd.prog 77 #[.string (S q1)] W fun e w' => e = .returned (.string (S (textL q1))) ∧ Below W.heap.size W w') := fun W => by rw [hq]; exact textS (HPL.out 1) W
  have HQ1 := hide hq
  clear hq
  obtain ⟨q2, hq⟩ : ∃ q, q = ps.getD 2 [] := ⟨_, rfl⟩
  have HK2 : Hid (∀ V, PX w V b m W0.heap.size g cap ps → V.cell? ⟨g, 2, none⟩ = some (.string (S q2))) := fun V hV => by rw [hq]; exact hV.at n2
  have HL2 : Hid (∀ W, Calls Tryd.prog 49 #[.string (S q2)] W fun e w' => e = .returned (.int .i64 (looseZ q2)) ∧ W = w') := fun W => by rw [hq]; exact looseS (HPL.out 2) W
  have HQ2 := hide hq
  clear hq
  go_upto_region 19 with fail
  refine wp_region_L [14] (fun V => PX w V b m W0.heap.size g cap ps) (by kernel_rfl) ?_
  refine wpL_take 0 (oi := ⟨some 140, _, _, _, _, _⟩) (v := ?_) rfl (by kernel_rfl) (by kernel_rfl) (by kernel_rfl) (by kernel_rfl) (fun _ _ _ h => h) (Or.inl ⟨by rfl, ?_⟩) HX.out ?_
  rotate_left
  · intro V hV
    go_simp
    try with_reducible rfl
  try simp only [Act.put, List.setIfInBounds_toArray, List.set_cons_zero, List.set_cons_succ]
  refine wpL_take 1 (oi := ⟨some 141, _, _, _, _, _⟩) (v := ?_) rfl (by kernel_rfl) (by kernel_rfl) (by kernel_rfl) (by kernel_rfl) (fun _ _ _ h => h) (Or.inl ⟨by rfl, ?_⟩) HX.out ?_
  rotate_left
  · intro V hV
    go_simp
    try with_reducible rfl
  try simp only [Act.put, List.setIfInBounds_toArray, List.set_cons_zero, List.set_cons_succ]
  refine wpL_take 2 (oi := ⟨some 142, _, _, _, _, _⟩) (v := ?_) rfl (by kernel_rfl) (by kernel_rfl) (by kernel_rfl) (by kernel_rfl) (fun _ _ _ h => h) (Or.inl ⟨by rfl, ?_⟩) HX.out ?_
  rotate_left
  · intro V hV
    have k0 := HK0.out V hV
    go_simp
    try with_reducible rfl
  try simp only [Act.put, List.setIfInBounds_toArray, List.set_cons_zero, List.set_cons_succ]
  refine wpL_take 4 (oi := ⟨some 144, _, _, _, _, _⟩) (v := ?_) rfl (by kernel_rfl) (by kernel_rfl) (by kernel_rfl) (by kernel_rfl) (fun _ _ _ h => h) (Or.inl ⟨by rfl, ?_⟩) HX.out ?_
  rotate_left
  · intro V hV
    go_simp
    try with_reducible rfl
  try simp only [Act.put, List.setIfInBounds_toArray, List.set_cons_zero, List.set_cons_succ]
  refine wpL_take 5 (oi := ⟨some 145, _, _, _, _, _⟩) (v := ?_) rfl (by kernel_rfl) (by kernel_rfl) (by kernel_rfl) (by kernel_rfl) (fun _ _ _ h => h) (Or.inl ⟨by rfl, ?_⟩) HX.out ?_
  rotate_left
  · intro V hV
    go_simp
    try with_reducible rfl
  try simp only [Act.put, List.setIfInBounds_toArray, List.set_cons_zero, List.set_cons_succ]
  refine wpL_take 6 (oi := ⟨some 146, _, _, _, _, _⟩) (v := ?_) rfl (by kernel_rfl) (by kernel_rfl) (by kernel_rfl) (by kernel_rfl) (fun _ _ _ h => h) (Or.inl ⟨by rfl, ?_⟩) HX.out ?_
  rotate_left
  · intro V hV
    have k1 := HK1.out V hV
    go_simp
    try with_reducible rfl
  try simp only [Act.put, List.setIfInBounds_toArray, List.set_cons_zero, List.set_cons_succ]
  refine wpL_take 8 (oi := ⟨some 148, _, _, _, _, _⟩) (v := ?_) rfl (by kernel_rfl) (by kernel_rfl) (by kernel_rfl) (by kernel_rfl) (fun _ _ _ h => h) (Or.inl ⟨by rfl, ?_⟩) HX.out ?_
  rotate_left
  · intro V hV
    go_simp
    try with_reducible rfl
  try simp only [Act.put, List.setIfInBounds_toArray, List.set_cons_zero, List.set_cons_succ]
  refine wpL_take 9 (oi := ⟨some 149, _, _, _, _, _⟩) (v := ?_) rfl (by kernel_rfl) (by kernel_rfl) (by kernel_rfl) (by kernel_rfl) (fun _ _ _ h => h) (Or.inl ⟨by rfl, ?_⟩) HX.out ?_
  rotate_left
  · intro V hV
    go_simp
    try with_reducible rfl
  try simp only [Act.put, List.setIfInBounds_toArray, List.set_cons_zero, List.set_cons_succ]
  refine wpL_take 10 (oi := ⟨some 150, _, _, _, _, _⟩) (v := ?_) rfl (by kernel_rfl) (by kernel_rfl) (by kernel_rfl) (by kernel_rfl) (fun _ _ _ h => h) (Or.inl ⟨by rfl, ?_⟩) HX.out ?_
  rotate_left
  · intro V hV
    have k2 := HK2.out V hV
    go_simp
    try with_reducible rfl
  try simp only [Act.put, List.setIfInBounds_toArray, List.set_cons_zero, List.set_cons_succ]
  refine wpL_one 3 (by kernel_rfl) rfl (fun K hK => ?_)
  rw [if_pos (by rfl)]
  go_simp
  go_at_call 49
  refine (HL0.out _).mono ?_
  rintro e w9 ⟨rfl, rfl⟩
  refine hK _ _ (fun _ => HX.out) ?_
  clear hK K
  try simp only [Act.put, List.setIfInBounds_toArray, List.set_cons_zero, List.set_cons_succ]
  refine wpL_one 7 (by kernel_rfl) rfl (fun K hK => ?_)
  rw [if_pos (by rfl)]
  go_simp
  go_at_call 77
  refine (HL1.out _).mono ?_
  rintro e wt0 ⟨rfl, hb9⟩
  have HSwt0 := hide (HX.out.step hb9 (Nat.le_trans hb HX.out.b2.low.size))
  clear hb9
  refine hK _ _ (fun _ => HSwt0.out) ?_
  clear hK K
  try simp only [Act.put, List.setIfInBounds_toArray, List.set_cons_zero, List.set_cons_succ]
  refine wpL_one 11 (by kernel_rfl) rfl (fun K hK => ?_)
  rw [if_pos (by rfl)]
  go_simp
  go_at_call 49
  refine (HL2.out _).mono ?_
  rintro e w9 ⟨rfl, rfl⟩
  refine hK _ _ (fun _ => HSwt0.out) ?_
  clear hK K
  try simp only [Act.put, List.setIfInBounds_toArray, List.set_cons_zero, List.set_cons_succ]
  refine wpL_take 12 (oi := ⟨some 152, _, _, _, _, _⟩) (v := ?_) rfl (by kernel_rfl) (by kernel_rfl) (by kernel_rfl) (by kernel_rfl) (fun _ _ _ h => h) (Or.inl ⟨by rfl, ?_⟩) HSwt0.out ?_
  rotate_left
  · intro V hV
    go_simp
    try with_reducible rfl
  try simp only [Act.put, List.setIfInBounds_toArray, List.set_cons_zero, List.set_cons_succ]
  refine wpL_take 13 (oi := ⟨some 153, _, _, _, _, _⟩) (v := ?_) rfl (by kernel_rfl) (by kernel_rfl) (by kernel_rfl) (by kernel_rfl) (fun _ _ _ h => h) (Or.inl ⟨by rfl, ?_⟩) HSwt0.out ?_
  rotate_left
  · intro V hV
    go_simp
    try with_reducible rfl
  try simp only [Act.put, List.setIfInBounds_toArray, List.set_cons_zero, List.set_cons_succ]
  obtain ⟨m', hm'⟩ : ∃ m' : Mk, m' = { m with co := looseZ q0, rv := S (textL q1), rn := looseZ q2 } := ⟨_, rfl⟩
  refine wpL_one 14 (by kernel_rfl) rfl (fun K hK => one_skip (by rfl) (run_put_at 46 (.tmp 153) (.tmp 152) rfl w.heap.size 22 _ rfl rfl 48 m.cs HSwt0.out.b2.box (by kernel_rfl) (by rw [mk_size]; simp) (by simp [Value.oneCell']) m'.cs (by rw [hm']; exact put_res m _ _ _)) (hK _ _ (fun h => by cases h) ?_))
  clear hK K
  try simp only [Act.put, List.setIfInBounds_toArray, List.set_cons_zero, List.set_cons_succ]
  refine wpL_done (by kernel_rfl) ?_ _
  have HM := hide hm'
  have HS8 : Hid (B2 w _ b m') := HSwt0.out.b2.put (by rw [hm']; exact ⟨HSwt0.out.b2.t.mem, HSwt0.out.b2.t.tr, HSwt0.out.b2.t.body, HSwt0.out.b2.t.hm, HSwt0.out.b2.t.ht, HSwt0.out.b2.t.hb⟩) hb
  clear hm'
  go_upto_region 20 with fail
  refine wp_region_lit ?_
  refine wpList_value rfl (.agg m'.cs) (ex_load 48 (.tmp 3) rfl _ rfl m'.cs _ Tryd.underlying48 rfl (ld48 _ (mk_size _)) (box_all HS8.out.box)) ?_
  simp only [Act.put, List.setIfInBounds_toArray, List.set_cons_zero, List.set_cons_succ]
  obtain ⟨Z, hZs, hZ⟩ := HS8.out.out
  refine wpList_put_at rfl 48 (.tmp 6) (.tmp 154) rfl (w.heap.size + 1) 0 m'.cs rfl rfl 48 Z hZ (ld48 _ (mk_size _)) (by rw [mk_size, hZs]; omega) (cs_all m') _ (put_zero Z hZs m') ?_
  simp only [Act.put, List.setIfInBounds_toArray, List.set_cons_zero, List.set_cons_succ]
  go_wp2_with fail
  refine bodyPost_ret (results_48 rfl _ rfl (hZ.row _)) rfl ?_
  refine HS8.out.fin ?_ hb
  rw [HM.out, HQ0.out, HQ1.out, HQ2.out, HN.out]
  unfold bigC
  rw [← HPS.out]
  simp only [HP.out]
  rfl

set_option maxRecDepth 100000 in
set_option maxHeartbeats 4000000 in
theorem big_no (m : Mk) (nm s : ByteArray) (b : Nat) (w : World) (h : MkU w b m) (hb : b ≤ w.heap.size) (hs : s.size ≤ 1000000000000) (h1 : ¬ nm.data.toList = [109, 101, 109, 98, 101, 114, 115]) (h2 : ¬ nm.data.toList = [116, 114, 97, 110, 115]) (h3 : ¬ nm.data.toList = [98, 111, 100, 121]) (h4 : ¬ (nm.data.toList = [105, 100] ∧ ((cutL 47 [] s.data.toList).getD []).length = 4)) (h5 : ¬ (nm.data.toList = [99, 109, 100] ∧ ((cutL 47 [] s.data.toList).getD []).length = 7)) (h6 : ¬ (nm.data.toList = [114, 101, 115, 117, 108, 116] ∧ ((cutL 47 [] s.data.toList).getD []).length = 3)) :
    Calls Tryd.prog 65 #[.agg m.cs, .string nm, .string s] w fun e w' => MarkP (bigC m.pm nm.data.toList s.data.toList) b w e w' := by
  obtain ⟨ps, hps⟩ : ∃ ps, ps = (cutL 47 [] s.data.toList).getD [] := ⟨_, rfl⟩
  have HC : Hid (∀ W, Calls Tryd.prog 48 #[.string s, .int .u8 (47 : Int)] W fun e w' => ∃ A cap bo, e = .returned (.tuple #[.slice A ps.length cap, .bool bo]) ∧ w'.ownsRow W.heap.size 9 1 (.slice A ps.length cap) ps.length (strs ps) ∧ Below W.heap.size W w') := fun W => by
    rw [hps]
    exact cutD_any s 47 W hs
  have HPL : Hid (∀ i, (S (ps.getD i [])).size ≤ 1000000000000) := fun i => by
    rw [hps]
    exact pieceD_len s 47 hs i
  have HPS := hide hps
  have HT := hide h
  have HE : Hid (bigC m.pm nm.data.toList s.data.toList = m.pm) := by
    show _ = _
    unfold bigC
    simp only
    rw [if_neg h4, if_neg h1, if_neg h2, if_neg h3, if_neg h5, if_neg h6]
  rw [← hps] at h4 h5 h6
  have e1 := name_no h1
  have e2 := name_no h2
  have e3 := name_no h3
  have i1 := name_nb h1
  have i2 := name_nb h2
  have i3 := name_nb h3
  clear h1 h2 h3
  clear hps h
  go_enter Tryd.func65, Tryd.ntmps65
  go_upto_region 1 with fail
  generalize hW0 : World.alloc (World.alloc w _) _ = W0
  have HS0 : Hid (B2 w W0 b m) := by
    show B2 w W0 b m
    rw [← hW0]
    exact B2.new HT.out hb _ rfl
  clear hW0
  have hbW0 : b ≤ W0.heap.size := Nat.le_trans hb HS0.out.low.size
  obtain ⟨m', hmm⟩ : ∃ m', m' = m := ⟨_, rfl⟩
  have HM := hide hmm
  clear hmm
  have HSm : Hid (B2 w W0 b m') := by
    show B2 w W0 b m'
    rw [HM.out]
    exact HS0.out
  by_cases d1 : nm.data.toList = [105, 100]
  · have f1 : nm.toList = [105, 100] := by rw [ByteArray.toList_eq]; exact d1
    have g1 : ((ps.length : Int) == 4) = false := by
      rw [beq_eq_false_iff_ne]
      intro e
      exact h4 ⟨d1, by omega⟩
    clear h4 h5 h6 e1 e2 e3 i1 i2 i3 d1
    go_upto_region 20 with (go_at_call 48; refine (HC.out _).mono ?_; rintro e w2 ⟨A, cap, bo, rfl, ho2, hb2⟩; have HS2 := hide (HSm.out.step hb2 hbW0); clear ho2 hb2)
    refine wp_region_lit ?_
    refine wpList_value rfl (.agg m'.cs) (ex_load 48 (.tmp 3) rfl _ rfl m'.cs _ Tryd.underlying48 rfl (ld48 _ (mk_size _)) (box_all HS2.out.box)) ?_
    simp only [Act.put, List.setIfInBounds_toArray, List.set_cons_zero, List.set_cons_succ]
    obtain ⟨Z, hZs, hZ⟩ := HS2.out.out
    refine wpList_put_at rfl 48 (.tmp 6) (.tmp 154) rfl (w.heap.size + 1) 0 m'.cs rfl rfl 48 Z hZ (ld48 _ (mk_size _)) (by rw [mk_size, hZs]; omega) (cs_all m') _ (put_zero Z hZs m') ?_
    simp only [Act.put, List.setIfInBounds_toArray, List.set_cons_zero, List.set_cons_succ]
    go_wp2_with fail
    refine bodyPost_ret (results_48 rfl _ rfl (hZ.row _)) rfl ?_
    refine HS2.out.fin ?_ hb
    rw [HE.out, HM.out]
  · by_cases d2 : nm.data.toList = [99, 109, 100]
    · have f1 : nm.toList = [99, 109, 100] := by rw [ByteArray.toList_eq]; exact d2
      have g1 : ((ps.length : Int) == 7) = false := by
        rw [beq_eq_false_iff_ne]
        intro e
        exact h5 ⟨d2, by omega⟩
      clear h4 h5 h6 e1 e2 e3 i1 i2 i3 d1 d2
      go_upto_region 20 with (go_at_call 48; refine (HC.out _).mono ?_; rintro e w2 ⟨A, cap, bo, rfl, ho2, hb2⟩; have HS2 := hide (HSm.out.step hb2 hbW0); clear ho2 hb2)
      refine wp_region_lit ?_
      refine wpList_value rfl (.agg m'.cs) (ex_load 48 (.tmp 3) rfl _ rfl m'.cs _ Tryd.underlying48 rfl (ld48 _ (mk_size _)) (box_all HS2.out.box)) ?_
      simp only [Act.put, List.setIfInBounds_toArray, List.set_cons_zero, List.set_cons_succ]
      obtain ⟨Z, hZs, hZ⟩ := HS2.out.out
      refine wpList_put_at rfl 48 (.tmp 6) (.tmp 154) rfl (w.heap.size + 1) 0 m'.cs rfl rfl 48 Z hZ (ld48 _ (mk_size _)) (by rw [mk_size, hZs]; omega) (cs_all m') _ (put_zero Z hZs m') ?_
      simp only [Act.put, List.setIfInBounds_toArray, List.set_cons_zero, List.set_cons_succ]
      go_wp2_with fail
      refine bodyPost_ret (results_48 rfl _ rfl (hZ.row _)) rfl ?_
      refine HS2.out.fin ?_ hb
      rw [HE.out, HM.out]
    · by_cases d3 : nm.data.toList = [114, 101, 115, 117, 108, 116]
      · have f1 : nm.toList = [114, 101, 115, 117, 108, 116] := by rw [ByteArray.toList_eq]; exact d3
        have g1 : ((ps.length : Int) == 3) = false := by
          rw [beq_eq_false_iff_ne]
          intro e
          exact h6 ⟨d3, by omega⟩
        clear h4 h5 h6 e1 e2 e3 i1 i2 i3 d1 d2 d3
        go_upto_region 20 with (go_at_call 48; refine (HC.out _).mono ?_; rintro e w2 ⟨A, cap, bo, rfl, ho2, hb2⟩; have HS2 := hide (HSm.out.step hb2 hbW0); clear ho2 hb2)
        refine wp_region_lit ?_
        refine wpList_value rfl (.agg m'.cs) (ex_load 48 (.tmp 3) rfl _ rfl m'.cs _ Tryd.underlying48 rfl (ld48 _ (mk_size _)) (box_all HS2.out.box)) ?_
        simp only [Act.put, List.setIfInBounds_toArray, List.set_cons_zero, List.set_cons_succ]
        obtain ⟨Z, hZs, hZ⟩ := HS2.out.out
        refine wpList_put_at rfl 48 (.tmp 6) (.tmp 154) rfl (w.heap.size + 1) 0 m'.cs rfl rfl 48 Z hZ (ld48 _ (mk_size _)) (by rw [mk_size, hZs]; omega) (cs_all m') _ (put_zero Z hZs m') ?_
        simp only [Act.put, List.setIfInBounds_toArray, List.set_cons_zero, List.set_cons_succ]
        go_wp2_with fail
        refine bodyPost_ret (results_48 rfl _ rfl (hZ.row _)) rfl ?_
        refine HS2.out.fin ?_ hb
        rw [HE.out, HM.out]
      · have f1 := name_no d1
        have f2 := name_no d2
        have f3 := name_no d3
        have g1 := name_nb d1
        have g2 := name_nb d2
        have g3 := name_nb d3
        clear h4 h5 h6 d1 d2 d3
        go_upto_region 20 with (go_at_call 48; refine (HC.out _).mono ?_; rintro e w2 ⟨A, cap, bo, rfl, ho2, hb2⟩; have HS2 := hide (HSm.out.step hb2 hbW0); clear ho2 hb2)
        refine wp_region_lit ?_
        refine wpList_value rfl (.agg m'.cs) (ex_load 48 (.tmp 3) rfl _ rfl m'.cs _ Tryd.underlying48 rfl (ld48 _ (mk_size _)) (box_all HS2.out.box)) ?_
        simp only [Act.put, List.setIfInBounds_toArray, List.set_cons_zero, List.set_cons_succ]
        obtain ⟨Z, hZs, hZ⟩ := HS2.out.out
        refine wpList_put_at rfl 48 (.tmp 6) (.tmp 154) rfl (w.heap.size + 1) 0 m'.cs rfl rfl 48 Z hZ (ld48 _ (mk_size _)) (by rw [mk_size, hZs]; omega) (cs_all m') _ (put_zero Z hZs m') ?_
        simp only [Act.put, List.setIfInBounds_toArray, List.set_cons_zero, List.set_cons_succ]
        go_wp2_with fail
        refine bodyPost_ret (results_48 rfl _ rfl (hZ.row _)) rfl ?_
        refine HS2.out.fin ?_ hb
        rw [HE.out, HM.out]

set_option maxRecDepth 100000 in
set_option maxHeartbeats 4000000 in
theorem big_tra (m : Mk) (nm s : ByteArray) (b : Nat) (w : World) (h : MkU w b m) (hb : b ≤ w.heap.size) (hs : s.size ≤ 1000000000000) (hn : nm.data.toList = [116, 114, 97, 110, 115]) (hs2 : s.size ≤ 5000000) :
    Calls Tryd.prog 65 #[.agg m.cs, .string nm, .string s] w fun e w' => MarkP (bigC m.pm nm.data.toList s.data.toList) b w e w' := by
  obtain ⟨ps, hps⟩ : ∃ ps, ps = (cutL 47 [] s.data.toList).getD [] := ⟨_, rfl⟩
  have HC : Hid (∀ W, Calls Tryd.prog 48 #[.string s, .int .u8 (47 : Int)] W fun e w' => ∃ A cap bo, e = .returned (.tuple #[.slice A ps.length cap, .bool bo]) ∧ w'.ownsRow W.heap.size 9 1 (.slice A ps.length cap) ps.length (strs ps) ∧ Below W.heap.size W w') := fun W => by
    rw [hps]
    exact cutD_any s 47 W hs
  have HPL : Hid (∀ i, (S (ps.getD i [])).size ≤ 1000000000000) := fun i => by
    rw [hps]
    exact pieceD_len s 47 hs i
  have HPS := hide hps
  have HT := hide h
  have HN := hide hn
  have hnl : nm.toList = [116, 114, 97, 110, 115] := by rw [ByteArray.toList_eq]; exact hn
  have HV : Hid (∀ W, Calls Tryd.prog 76 #[.string s, .int .u8 (44 : Int)] W fun e w' => Below W.heap.size W w' ∧ ∃ A cap, e = .returned (.slice A (sevL 44 s.data.toList).length cap) ∧ w'.ownsRow W.heap.size 3 1 (.slice A (sevL 44 s.data.toList).length cap) (sevL 44 s.data.toList).length (ints (sevL 44 s.data.toList))) := fun W => several_any s 44 W hs
  have HSL : Hid ((sevL 44 s.data.toList).length ≤ 10000000) := by
    have := sevL_len 44 s.data.toList
    rw [str_len] at this
    show _ ≤ _
    omega
  obtain ⟨ts', hts⟩ : ∃ ts', ts' = sevL 44 s.data.toList := ⟨_, rfl⟩
  rw [← hts] at HV HSL
  have HTS := hide hts
  clear hts hn
  clear hps h
  go_enter Tryd.func65, Tryd.ntmps65
  go_upto_region 1 with fail
  generalize hW0 : World.alloc (World.alloc w _) _ = W0
  have HS0 : Hid (B2 w W0 b m) := by
    show B2 w W0 b m
    rw [← hW0]
    exact B2.new HT.out hb _ rfl
  clear hW0
  have hbW0 : b ≤ W0.heap.size := Nat.le_trans hb HS0.out.low.size
  go_upto_region 13 with (go_at_call 48; refine (HC.out _).mono ?_; rintro e w2 ⟨A, cap, bo, rfl, ho2, hb2⟩; have HS2 := hide (HS0.out.step hb2 hbW0); clear ho2 hb2)
  have hbw2 : b ≤ w2.heap.size := Nat.le_trans hb HS2.out.low.size
  go_upto_region 20 with (go_at_call 76; refine (HV.out _).mono ?_; rintro e w3 ⟨hb3, A3, c3, rfl, ho3⟩; have HS3 := hide (HS2.out.step hb3 hbw2); have HO3 := hide (own_base ho3 hbw2); have f3 := Blk.frozen HS3.out.box 9; have c9 := mb9 HS3.out.box; clear ho3 hb3)
  obtain ⟨m', hm'⟩ : ∃ m' : Mk, m' = { m with At := A3, nt := ts'.length, ct := c3, ts := ts' } := ⟨_, rfl⟩
  have HM := hide hm'
  have HS8 : Hid (B2 w (w3.setCell ⟨w.heap.size, 9, none⟩ (.slice A3 ts'.length c3)) b m') := HS3.out.set 9 _ (by rw [hm']; exact set_tr m _ _ _ _) (by rw [hm']; exact ⟨HS3.out.t.mem, HO3.out, HS3.out.t.body, HS3.out.t.hm, HSL.out, HS3.out.t.hb⟩) hb
  clear hm'
  refine wp_region_lit ?_
  refine wpList_value rfl (.agg m'.cs) (ex_load 48 (.tmp 3) rfl _ rfl m'.cs _ Tryd.underlying48 rfl (ld48 _ (mk_size _)) (box_all HS8.out.box)) ?_
  simp only [Act.put, List.setIfInBounds_toArray, List.set_cons_zero, List.set_cons_succ]
  obtain ⟨Z, hZs, hZ⟩ := HS8.out.out
  refine wpList_put_at rfl 48 (.tmp 6) (.tmp 154) rfl (w.heap.size + 1) 0 m'.cs rfl rfl 48 Z hZ (ld48 _ (mk_size _)) (by rw [mk_size, hZs]; omega) (cs_all m') _ (put_zero Z hZs m') ?_
  simp only [Act.put, List.setIfInBounds_toArray, List.set_cons_zero, List.set_cons_succ]
  go_wp2_with fail
  refine bodyPost_ret (results_48 rfl _ rfl (hZ.row _)) rfl ?_
  refine HS8.out.fin ?_ hb
  rw [HM.out, HTS.out, HN.out]
  unfold bigC
  rfl

set_option maxRecDepth 100000 in
set_option maxHeartbeats 4000000 in
theorem big_bod (m : Mk) (nm s : ByteArray) (b : Nat) (w : World) (h : MkU w b m) (hb : b ≤ w.heap.size) (hs : s.size ≤ 1000000000000) (hn : nm.data.toList = [98, 111, 100, 121]) (hs2 : s.size ≤ 5000000) :
    Calls Tryd.prog 65 #[.agg m.cs, .string nm, .string s] w fun e w' => MarkP (bigC m.pm nm.data.toList s.data.toList) b w e w' := by
  obtain ⟨ps, hps⟩ : ∃ ps, ps = (cutL 47 [] s.data.toList).getD [] := ⟨_, rfl⟩
  have HC : Hid (∀ W, Calls Tryd.prog 48 #[.string s, .int .u8 (47 : Int)] W fun e w' => ∃ A cap bo, e = .returned (.tuple #[.slice A ps.length cap, .bool bo]) ∧ w'.ownsRow W.heap.size 9 1 (.slice A ps.length cap) ps.length (strs ps) ∧ Below W.heap.size W w') := fun W => by
    rw [hps]
    exact cutD_any s 47 W hs
  have HPL : Hid (∀ i, (S (ps.getD i [])).size ≤ 1000000000000) := fun i => by
    rw [hps]
    exact pieceD_len s 47 hs i
  have HPS := hide hps
  have HT := hide h
  have HN := hide hn
  have hnl : nm.toList = [98, 111, 100, 121] := by rw [ByteArray.toList_eq]; exact hn
  have HV : Hid (∀ W, Calls Tryd.prog 77 #[.string s] W fun e w' => e = .returned (.string (S (textL s.data.toList))) ∧ Below W.heap.size W w') := fun W => text_any s W hs
  have HSL : Hid ((textL s.data.toList).length ≤ 10000000) := by
    have := textL_len s.data.toList
    rw [str_len] at this
    show _ ≤ _
    omega
  obtain ⟨ts', hts⟩ : ∃ ts', ts' = textL s.data.toList := ⟨_, rfl⟩
  rw [← hts] at HV HSL
  have HTS := hide hts
  clear hts hn
  clear hps h
  go_enter Tryd.func65, Tryd.ntmps65
  go_upto_region 1 with fail
  generalize hW0 : World.alloc (World.alloc w _) _ = W0
  have HS0 : Hid (B2 w W0 b m) := by
    show B2 w W0 b m
    rw [← hW0]
    exact B2.new HT.out hb _ rfl
  clear hW0
  have hbW0 : b ≤ W0.heap.size := Nat.le_trans hb HS0.out.low.size
  go_upto_region 15 with (go_at_call 48; refine (HC.out _).mono ?_; rintro e w2 ⟨A, cap, bo, rfl, ho2, hb2⟩; have HS2 := hide (HS0.out.step hb2 hbW0); clear ho2 hb2)
  have hbw2 : b ≤ w2.heap.size := Nat.le_trans hb HS2.out.low.size
  go_upto_region 20 with (go_at_call 77; refine (HV.out _).mono ?_; rintro e w3 ⟨rfl, hb3⟩; have HS3 := hide (HS2.out.step hb3 hbw2); have hbw3 : b ≤ w3.heap.size := Nat.le_trans hb HS3.out.low.size; obtain ⟨c4, w4, hcv, hrb, hb4⟩ := conv_made w3 ts' hbw3; have HS4 := hide (HS3.out.step hb4 hbw3); have HRB := hide hrb; have f4 := Blk.frozen HS4.out.box 14; have c14 := mb14 HS4.out.box; clear hb3 hb4 hrb)
  obtain ⟨m', hm'⟩ : ∃ m' : Mk, m' = { m with Ab := some ⟨w3.heap.size, 0, none⟩, nb := ts'.length, cb := c4, bd := ts' } := ⟨_, rfl⟩
  have HM := hide hm'
  have HS8 : Hid (B2 w (w4.setCell ⟨w.heap.size, 14, none⟩ (.slice (some ⟨w3.heap.size, 0, none⟩) ts'.length c4)) b m') := HS4.out.set 14 _ (by rw [hm']; exact set_bd m _ _ _ _) (by rw [hm']; exact ⟨HS4.out.t.mem, HS4.out.t.tr, HRB.out, HS4.out.t.hm, HS4.out.t.ht, by have := HSL.out; simp only; omega⟩) hb
  clear hm' hcv
  refine wp_region_lit ?_
  refine wpList_value rfl (.agg m'.cs) (ex_load 48 (.tmp 3) rfl _ rfl m'.cs _ Tryd.underlying48 rfl (ld48 _ (mk_size _)) (box_all HS8.out.box)) ?_
  simp only [Act.put, List.setIfInBounds_toArray, List.set_cons_zero, List.set_cons_succ]
  obtain ⟨Z, hZs, hZ⟩ := HS8.out.out
  refine wpList_put_at rfl 48 (.tmp 6) (.tmp 154) rfl (w.heap.size + 1) 0 m'.cs rfl rfl 48 Z hZ (ld48 _ (mk_size _)) (by rw [mk_size, hZs]; omega) (cs_all m') _ (put_zero Z hZs m') ?_
  simp only [Act.put, List.setIfInBounds_toArray, List.set_cons_zero, List.set_cons_succ]
  go_wp2_with fail
  refine bodyPost_ret (results_48 rfl _ rfl (hZ.row _)) rfl ?_
  refine HS8.out.fin ?_ hb
  rw [HM.out, HTS.out, HN.out]
  unfold bigC
  rfl

/-- What the loop keeps. -/
def GLoop (m : Mk) (ls : List (List UInt8)) (A : Option Addr) (cap B b : Nat) (w : World) (i : Value) (wr : World) : Prop := ∃ (j : Nat) (m1 : Mk), j ≤ ls.length ∧ i = .int .i64 j ∧ m1.pm = { m.pm with ms := m.pm.ms ++ (ls.take j).filterMap memC } ∧ B2 w wr b m1 ∧ wr.ownsRow B 9 1 (.slice A ls.length cap) ls.length (strs ls)
theorem mem_no {p : List UInt8} (h : ¬ (sevL 47 p).length = 3) : memC p = none := by
  unfold memC
  split
  · rename_i e
    rw [e] at h
    exact absurd rfl h
  · rfl
theorem mem_yes {p : List UInt8} (h : (sevL 47 p).length = 3) : ∃ x y z, sevL 47 p = [x, y, z] ∧ memC p = some (x, y, z) := by
  unfold memC
  match hs : sevL 47 p, h with
  | [x, y, z], _ => exact ⟨x, y, z, rfl, rfl⟩
theorem take_map_snoc {ls : List (List UInt8)} {j : Nat} {p : List UInt8} (h : ls[j]? = some p) : (ls.take (j + 1)).filterMap memC = (ls.take j).filterMap memC ++ (match memC p with | some x => [x] | none => []) := by
  obtain ⟨h1, h2⟩ := List.getElem?_eq_some_iff.1 h
  rw [List.take_succ_eq_append_getElem h1, List.filterMap_append, h2]
  congr 1
  cases hm : memC p <;> simp [hm]
set_option maxRecDepth 100000 in
set_option maxHeartbeats 8000000 in
theorem big_mem (m : Mk) (nm s : ByteArray) (b : Nat) (w : World) (h : MkU w b m) (hb : b ≤ w.heap.size) (hs : s.size ≤ 1000000000000) (hn : nm.data.toList = [109, 101, 109, 98, 101, 114, 115]) (hs2 : s.size ≤ 5000000) (hz : m.nm ≤ 4000000) :
    Calls Tryd.prog 65 #[.agg m.cs, .string nm, .string s] w fun e w' => MarkP (bigC m.pm nm.data.toList s.data.toList) b w e w' := by
  obtain ⟨ps, hps⟩ : ∃ ps, ps = (cutL 47 [] s.data.toList).getD [] := ⟨_, rfl⟩
  have HC : Hid (∀ W, Calls Tryd.prog 48 #[.string s, .int .u8 (47 : Int)] W fun e w' => ∃ A cap bo, e = .returned (.tuple #[.slice A ps.length cap, .bool bo]) ∧ w'.ownsRow W.heap.size 9 1 (.slice A ps.length cap) ps.length (strs ps) ∧ Below W.heap.size W w') := fun W => by
    rw [hps]
    exact cutD_any s 47 W hs
  have HPL : Hid (∀ i, (S (ps.getD i [])).size ≤ 1000000000000) := fun i => by
    rw [hps]
    exact pieceD_len s 47 hs i
  have HPS := hide hps
  have HT := hide h
  have HN := hide hn
  have hnl : nm.toList = [109, 101, 109, 98, 101, 114, 115] := by rw [ByteArray.toList_eq]; exact hn
  obtain ⟨ls, hls⟩ : ∃ ls, ls = (cutL 44 [] s.data.toList).getD [] := ⟨_, rfl⟩
  have HC2 : Hid (∀ W, Calls Tryd.prog 48 #[.string s, .int .u8 (44 : Int)] W fun e w' => ∃ A cap bo, e = .returned (.tuple #[.slice A ls.length cap, .bool bo]) ∧ w'.ownsRow W.heap.size 9 1 (.slice A ls.length cap) ls.length (strs ls) ∧ Below W.heap.size W w') := fun W => by
    rw [hls]
    exact cutD_any s 44 W hs
  have HPL2 : Hid (∀ p ∈ ls, (S p).size ≤ 1000000000000) := fun p hp => by
    rw [hls] at hp
    have := (cutD_len 44 s.data.toList).2 p hp
    rw [str_len] at this
    rw [S_size]
    omega
  have HLL : Hid (ls.length ≤ 5000001) := by
    have := (cutD_len 44 s.data.toList).1
    rw [str_len] at this
    show _ ≤ _
    rw [hls]
    omega
  have HLS := hide hls
  obtain ⟨i69, hi69, hz69, hs69, hb69⟩ := info_parts info69
  have I69 := hide hi69
  have Z69 := hide hz69
  clear hls hn hi69 hz69
  clear hps h
  go_enter Tryd.func65, Tryd.ntmps65
  go_upto_region 1 with fail
  generalize hW0 : World.alloc (World.alloc w _) _ = W0
  have HS0 : Hid (B2 w W0 b m) := by
    show B2 w W0 b m
    rw [← hW0]
    exact B2.new HT.out hb _ rfl
  clear hW0
  have hbW0 : b ≤ W0.heap.size := Nat.le_trans hb HS0.out.low.size
  go_upto_region 5 with (go_at_call 48; refine (HC.out _).mono ?_; rintro e w2 ⟨A, cap, bo, rfl, ho2, hb2⟩; have HS2 := hide (HS0.out.step hb2 hbW0); clear ho2 hb2)
  have hbw2 : b ≤ w2.heap.size := Nat.le_trans hb HS2.out.low.size
  go_upto_region 7 with (go_at_call 48; refine (HC2.out _).mono ?_; rintro e w3 ⟨A5, cap5, bo5, rfl, ho3, hb3⟩; have HS3 := hide (HS2.out.step hb3 hbw2); have HO3 := hide ho3; have HL0 : Hid (GLoop m ls A5 cap5 w2.heap.size b w (.int .i64 0) w3) := ⟨0, m, Nat.zero_le _, rfl, by simp, HS3.out, HO3.out⟩; clear ho3 hb3)
  go_loopw [11, 12] (fun i _ wr => GLoop m ls A5 cap5 w2.heap.size b w i wr) (fun i _ _ => ls.length - (intOf i).toNat)
  case atStart => exact HL0.out
  case round =>
    clear HL0
    unfold GLoop at hrel
    obtain ⟨j, m1, hj, rfl, hpm, hb2, hrow⟩ := hrel
    have HPM := hide hpm
    have HB := hide hb2
    have HR := hide hrow
    have hnm : m1.nm ≤ m.nm + j := by
      have h1 := RS.len HB.out.t.inn.mem
      have h2 := congrArg PM.ms hpm
      have h3 := RS.len HT.out.inn.mem
      have h4 := List.length_filterMap_le memC (ls.take j)
      rw [List.length_take] at h4
      simp only [Mk.pm] at h2
      rw [← h1, h2, List.length_append, h3]
      omega
    have hbwr : b ≤ wr.heap.size := Nat.le_trans hb HB.out.low.size
    clear hpm hb2 hrow
    have hll := HLL.out
    have j0 : (0 : Int) ≤ (j : Int) := by omega
    by_cases hlt : j < ls.length
    · obtain ⟨g, p, rfl, hp, hc0⟩ := row_text HR.out hlt
      have js : (j : Int) < (ls.length : Int) := by omega
      have HSV : Hid (∀ W, Calls Tryd.prog 76 #[.string (S p), .int .u8 (47 : Int)] W fun e w' => Below W.heap.size W w' ∧ ∃ A cap, e = .returned (.slice A (sevL 47 p).length cap) ∧ w'.ownsRow W.heap.size 3 1 (.slice A (sevL 47 p).length cap) (sevL 47 p).length (ints (sevL 47 p))) := fun W => several_any (S p) 47 W (HPL2.out p (List.mem_of_getElem? hp))
      have HTK := hide (take_map_snoc hp)
      clear hp
      by_cases h3 : (sevL 47 p).length = 3
      · obtain ⟨x, y, z, hxyz, hmc⟩ := mem_yes h3
        rw [hmc] at HTK
        rw [hxyz] at HSV
        clear h3 hxyz hmc
        have HSV3 : Hid (∀ W, Calls Tryd.prog 76 #[.string (S p), .int .u8 (47 : Int)] W fun e w' => Below W.heap.size W w' ∧ ∃ g4 c4, e = .returned (.slice (some ⟨g4, 0, none⟩) 3 c4) ∧ w'.ownsRow W.heap.size 3 1 (.slice (some ⟨g4, 0, none⟩) 3 c4) 3 (ints [x, y, z])) := fun W => by
          refine (HSV.out W).mono ?_
          rintro e w' ⟨h1, A, cap, h2, h4⟩
          have h4' : w'.ownsRow W.heap.size 3 1 (.slice A 3 cap) 3 (ints [x, y, z]) := h4
          obtain ⟨g4, cap4, hv, _, _⟩ := h4'.form (by omega)
          injection hv with e1 e2 e3
          subst e1 e3
          exact ⟨h1, g4, cap, h2, h4'⟩
        clear HSV
        go_upto_region 11 with (go_at_call 76; refine (HSV3.out _).mono ?_; rintro e w4 ⟨hb4, g4, c4, rfl, ho4⟩; have HB4 := hide (HB.out.step hb4 hbwr); have HR4 := hide (own_step HR.out hb4); have HN4 := hide ho4; clear ho4 hb4)
        have hbw4 : b ≤ w4.heap.size := Nat.le_trans hb HB4.out.low.size
        have HX : Hid (SX w.heap.size m1 wr.heap.size g4 c4 x y z w4.drew) := ⟨HB4.out.box.drew, HN4.out⟩
        refine wp_region_L [15] (SX w.heap.size m1 wr.heap.size g4 c4 x y z) (by kernel_rfl) ?_
        refine wpL_take 0 (oi := ⟨some 66, _, _, _, _, _⟩) (v := ?_) rfl (by kernel_rfl) (by kernel_rfl) (by kernel_rfl) (by kernel_rfl) (fun _ _ _ h => h) (Or.inl ⟨by rfl, ?_⟩) HX.out ?_
        rotate_left
        · intro V hV
          go_simp
          try with_reducible rfl
        try simp only [Act.put, List.setIfInBounds_toArray, List.set_cons_zero, List.set_cons_succ]
        refine wpL_take 1 (oi := ⟨some 67, _, _, _, _, _⟩) (v := ?_) rfl (by kernel_rfl) (by kernel_rfl) (by kernel_rfl) (by kernel_rfl) (fun _ _ _ h => h) (Or.inl ⟨by rfl, ?_⟩) HX.out ?_
        rotate_left
        · intro V hV
          have k8 := mb8 hV.box
          go_simp
          try with_reducible rfl
        try simp only [Act.put, List.setIfInBounds_toArray, List.set_cons_zero, List.set_cons_succ]
        refine wpL_take 2 (oi := ⟨some 68, _, _, _, _, _⟩) (v := ?_) rfl (by kernel_rfl) (by kernel_rfl) (by kernel_rfl) (by kernel_rfl) (fun _ _ _ h => h) (Or.inl ⟨by rfl, ?_⟩) HX.out ?_
        rotate_left
        · intro V hV
          go_simp
          try with_reducible rfl
        try simp only [Act.put, List.setIfInBounds_toArray, List.set_cons_zero, List.set_cons_succ]
        refine wpL_take 3 (oi := ⟨some 69, _, _, _, _, _⟩) (v := ?_) rfl (by kernel_rfl) (by kernel_rfl) (by kernel_rfl) (by kernel_rfl) (fun _ _ _ h => h) (Or.inl ⟨by rfl, ?_⟩) HX.out ?_
        rotate_left
        · intro V hV
          go_simp
          try with_reducible rfl
        try simp only [Act.put, List.setIfInBounds_toArray, List.set_cons_zero, List.set_cons_succ]
        refine wpL_take 4 (oi := ⟨some 70, _, _, _, _, _⟩) (v := ?_) rfl (by kernel_rfl) (by kernel_rfl) (by kernel_rfl) (by kernel_rfl) (fun _ _ _ h => h) (Or.inl ⟨by rfl, ?_⟩) HX.out ?_
        rotate_left
        · intro V hV
          have k0 := hV.n0
          go_simp
          try with_reducible rfl
        try simp only [Act.put, List.setIfInBounds_toArray, List.set_cons_zero, List.set_cons_succ]
        refine wpL_take 5 (oi := ⟨some 71, _, _, _, _, _⟩) (v := ?_) rfl (by kernel_rfl) (by kernel_rfl) (by kernel_rfl) (by kernel_rfl) (fun _ _ _ h => h) (Or.inl ⟨by rfl, ?_⟩) HX.out ?_
        rotate_left
        · intro V hV
          go_simp
          try with_reducible rfl
        try simp only [Act.put, List.setIfInBounds_toArray, List.set_cons_zero, List.set_cons_succ]
        refine wpL_take 6 (oi := ⟨some 72, _, _, _, _, _⟩) (v := ?_) rfl (by kernel_rfl) (by kernel_rfl) (by kernel_rfl) (by kernel_rfl) (fun _ _ _ h => h) (Or.inl ⟨by rfl, ?_⟩) HX.out ?_
        rotate_left
        · intro V hV
          go_simp
          try with_reducible rfl
        try simp only [Act.put, List.setIfInBounds_toArray, List.set_cons_zero, List.set_cons_succ]
        refine wpL_take 7 (oi := ⟨some 73, _, _, _, _, _⟩) (v := ?_) rfl (by kernel_rfl) (by kernel_rfl) (by kernel_rfl) (by kernel_rfl) (fun _ _ _ h => h) (Or.inl ⟨by rfl, ?_⟩) HX.out ?_
        rotate_left
        · intro V hV
          have k1 := hV.n1
          go_simp
          try with_reducible rfl
        try simp only [Act.put, List.setIfInBounds_toArray, List.set_cons_zero, List.set_cons_succ]
        refine wpL_take 8 (oi := ⟨some 74, _, _, _, _, _⟩) (v := ?_) rfl (by kernel_rfl) (by kernel_rfl) (by kernel_rfl) (by kernel_rfl) (fun _ _ _ h => h) (Or.inl ⟨by rfl, ?_⟩) HX.out ?_
        rotate_left
        · intro V hV
          go_simp
          try with_reducible rfl
        try simp only [Act.put, List.setIfInBounds_toArray, List.set_cons_zero, List.set_cons_succ]
        refine wpL_take 9 (oi := ⟨some 75, _, _, _, _, _⟩) (v := ?_) rfl (by kernel_rfl) (by kernel_rfl) (by kernel_rfl) (by kernel_rfl) (fun _ _ _ h => h) (Or.inl ⟨by rfl, ?_⟩) HX.out ?_
        rotate_left
        · intro V hV
          go_simp
          try with_reducible rfl
        try simp only [Act.put, List.setIfInBounds_toArray, List.set_cons_zero, List.set_cons_succ]
        refine wpL_take 10 (oi := ⟨some 76, _, _, _, _, _⟩) (v := ?_) rfl (by kernel_rfl) (by kernel_rfl) (by kernel_rfl) (by kernel_rfl) (fun _ _ _ h => h) (Or.inl ⟨by rfl, ?_⟩) HX.out ?_
        rotate_left
        · intro V hV
          have k2 := hV.n2
          go_simp
          try with_reducible rfl
        try simp only [Act.put, List.setIfInBounds_toArray, List.set_cons_zero, List.set_cons_succ]
        refine wpL_take 11 (oi := ⟨some 77, _, _, _, _, _⟩) (v := ?_) rfl (by kernel_rfl) (by kernel_rfl) (by kernel_rfl) (by kernel_rfl) (fun _ _ _ h => h) (Or.inl ⟨by rfl, ?_⟩) HX.out ?_
        rotate_left
        · intro V hV
          go_simp
          try with_reducible rfl
        try simp only [Act.put, List.setIfInBounds_toArray, List.set_cons_zero, List.set_cons_succ]
        have HX1 : Hid (SX w.heap.size m1 wr.heap.size g4 c4 x y z (w4.drew.alloc (.cells #[.int .i64 x, .int .i64 y, .int .i64 z] 69))) := HX.out.step ((Below.refl _ _).alloc (Nat.le_refl _) _)
        have HB5 : Hid (B2 w (w4.drew.alloc (.cells #[.int .i64 x, .int .i64 y, .int .i64 z] 69)) b m1) := HB4.out.drew.step ((Below.refl _ _).alloc (Nat.le_refl _) _) hbw4
        have HR5 : Hid ((w4.drew.alloc (.cells #[.int .i64 x, .int .i64 y, .int .i64 z] 69)).ownsRow w2.heap.size 9 1 (.slice (some ⟨g, 0, none⟩) ls.length cap5) ls.length (strs ls)) := own_step (own_drewN HR4.out 1) ((Below.refl _ _).alloc (Nat.le_refl _) _)
        have hK69 := Blk.new w4.drew 69 #[.int .i64 x, .int .i64 y, .int .i64 z]
        refine wpL_one 12 (by kernel_rfl) rfl (fun K hK => ?_)
        rw [if_pos (by rfl)]
        go_simp
        refine hK _ _ (fun _ => HX1.out) ?_
        clear hK K
        try simp only [Act.put, List.setIfInBounds_toArray, List.set_cons_zero, List.set_cons_succ]
        refine wpL_one 13 (by kernel_rfl) rfl (fun K hK => ?_)
        have hsm : m1.nm + 1 ≤ 10000000 := by have := HLL.out; omega
        refine step_push _ rfl (.tmp 67) (.tmp 78) 40 rfl b 69 i69 _ 3 24 Tryd.underlying40 I69.out Z69.out hs69 hb69 rfl (by omega) (.slice m1.Am m1.nm m1.cm) m1.nm (sts m1.ms) rfl HB5.out.t.mem w4.drew.heap.size 1 1 #[.int .i64 x, .int .i64 y, .int .i64 z] rfl hK69 rfl (by simp [Value.oneCell']) (by omega) (by unfold maxLen; omega) (by omega) (by simp; exact Nat.le_trans hbw4 (by omega)) ?_
        intro g7 c7 w7 hown7 hgr7 _ _
        have HX7 := hide (HX1.out.push HB5.out.t.mem hgr7)
        have HR7 := hide (own_kept HR5.out HB5.out.t.mem (by decide) hgr7)
        obtain ⟨m', hm'⟩ : ∃ m' : Mk, m' = { m1 with Am := some ⟨g7, 0, none⟩, nm := m1.nm + 1, cm := c7, ms := m1.ms ++ [(x, y, z)] } := ⟨_, rfl⟩
        have HM := hide hm'
        have HB8 : Hid (B2 w (w7.setCell ⟨w.heap.size, 8, none⟩ (.slice (some ⟨g7, 0, none⟩) (m1.nm + 1) c7)) b m') := by
          show B2 _ _ _ _
          rw [hm']
          exact HB5.out.pushM hown7 hgr7 hb hsm
        clear hm' hown7 hgr7 hK69
        refine hK _ _ (fun _ => HX7.out) ?_
        clear hK K
        try simp only [Act.put, List.setIfInBounds_toArray, List.set_cons_zero, List.set_cons_succ]
        refine wpL_take 14 (oi := ⟨some 80, _, _, _, _, _⟩) (v := ?_) rfl (by kernel_rfl) (by kernel_rfl) (by kernel_rfl) (by kernel_rfl) (fun _ _ _ h => h) (Or.inl ⟨by rfl, ?_⟩) HX7.out ?_
        rotate_left
        · intro V hV
          go_simp
          try with_reducible rfl
        try simp only [Act.put, List.setIfInBounds_toArray, List.set_cons_zero, List.set_cons_succ]
        have c8 := mb8 HX7.out.box
        have f8 := Blk.frozen HX7.out.box 8
        refine wpL_one 15 (by kernel_rfl) rfl (fun K hK => ?_)
        rw [if_pos (by rfl)]
        go_simp
        refine hK _ _ (fun h => by cases h) ?_
        clear hK K
        try simp only [Act.put, List.setIfInBounds_toArray, List.set_cons_zero, List.set_cons_succ]
        refine wpL_done (by kernel_rfl) ?_ _
        have HR8 : Hid ((w7.setCell ⟨w.heap.size, 8, none⟩ (.slice (some ⟨g7, 0, none⟩) (m1.nm + 1) c7)).ownsRow w2.heap.size 9 1 (.slice (some ⟨g, 0, none⟩) ls.length cap5) ls.length (strs ls)) := ownsRow_setCell_other HR7.out (own_blk_ne HR7.out HX7.out.box (by decide)) _
        have HL8 : Hid (GLoop m ls (some ⟨g, 0, none⟩) cap5 w2.heap.size b w (.int .i64 ((j : Int) + 1)) (w7.setCell ⟨w.heap.size, 8, none⟩ (.slice (some ⟨g7, 0, none⟩) (m1.nm + 1) c7))) := by
          refine ⟨j + 1, m', by omega, by go_num, ?_, HB8.out, HR8.out⟩
          rw [HTK.out, HM.out]
          show ({ m1.pm with ms := m1.pm.ms ++ [(x, y, z)] } : PM) = _
          rw [HPM.out]
          simp
        clear c8 f8
        go_wp2_with fail
        go_roundw
        case rel => first | exact HL8.out | exact ⟨_, _, HL8.out, rfl, rfl⟩
        case measure => simp [intOf]; omega
      · have hn3 : (((sevL 47 p).length : Int) == 3) = false := by rw [beq_eq_false_iff_ne]; omega
        rw [mem_no h3] at HTK
        clear h3
        go_upto_region 8 with (go_at_call 76; refine (HSV.out _).mono ?_; rintro e w4 ⟨hb4, A4, c4, rfl, ho4⟩; have HB4 := hide (HB.out.step hb4 hbwr); have HR4 := hide (own_step HR.out hb4); clear ho4 hb4)
        have HL8 : Hid (GLoop m ls (some ⟨g, 0, none⟩) cap5 w2.heap.size b w (.int .i64 ((j : Int) + 1)) w4) := by
          refine ⟨j + 1, m1, by omega, by go_num, ?_, HB4.out, HR4.out⟩
          rw [HTK.out, HPM.out]
          simp
        go_wp2_with fail
        go_roundw
        case rel => first | exact HL8.out | exact ⟨_, _, HL8.out, rfl, rfl⟩
        case measure => simp [intOf]; omega
    · have js : ¬ (j : Int) < (ls.length : Int) := by omega
      have hjn : j = ls.length := by omega
      have HJN := hide hjn
      obtain ⟨m', hm'⟩ : ∃ m' : Mk, m' = m1 := ⟨_, rfl⟩
      have HM := hide hm'
      have HS8 : Hid (B2 w wr b m') := by
        show B2 w wr b m'
        rw [hm']
        exact HB.out
      clear hlt hjn hm'
      go_upto_region 20 with fail
      refine wp_region_lit ?_
      refine wpList_value rfl (.agg m'.cs) (ex_load 48 (.tmp 3) rfl _ rfl m'.cs _ Tryd.underlying48 rfl (ld48 _ (mk_size _)) (box_all HS8.out.box)) ?_
      simp only [Act.put, List.setIfInBounds_toArray, List.set_cons_zero, List.set_cons_succ]
      obtain ⟨Z, hZs, hZ⟩ := HS8.out.out
      refine wpList_put_at rfl 48 (.tmp 6) (.tmp 154) rfl (w.heap.size + 1) 0 m'.cs rfl rfl 48 Z hZ (ld48 _ (mk_size _)) (by rw [mk_size, hZs]; omega) (cs_all m') _ (put_zero Z hZs m') ?_
      simp only [Act.put, List.setIfInBounds_toArray, List.set_cons_zero, List.set_cons_succ]
      go_wp2_with fail
      refine bodyPost_ret (results_48 rfl _ rfl (hZ.row _)) rfl ?_
      refine HS8.out.fin ?_ hb
      rw [HM.out, HPM.out, HJN.out, List.take_length, HLS.out, HN.out]
      unfold bigC
      rfl
/-- The reference's big. -/
theorem big_any (m : Mk) (nm s : ByteArray) (b : Nat) (w : World) (h : MkU w b m) (hb : b ≤ w.heap.size) (hs : s.size ≤ 5000000) (hz : m.nm ≤ 4000000) :
    Calls Tryd.prog 65 #[.agg m.cs, .string nm, .string s] w fun e w' => MarkP (bigC m.pm nm.data.toList s.data.toList) b w e w' := by
  have hs' : s.size ≤ 1000000000000 := by omega
  by_cases h1 : nm.data.toList = [109, 101, 109, 98, 101, 114, 115]
  · exact big_mem m nm s b w h hb hs' h1 hs hz
  by_cases h2 : nm.data.toList = [116, 114, 97, 110, 115]
  · exact big_tra m nm s b w h hb hs' h2 hs
  by_cases h3 : nm.data.toList = [98, 111, 100, 121]
  · exact big_bod m nm s b w h hb hs' h3 hs
  by_cases h4 : nm.data.toList = [105, 100] ∧ ((cutL 47 [] s.data.toList).getD []).length = 4
  · exact big_id m nm s b w h hb hs' h4.1 h4.2
  by_cases h5 : nm.data.toList = [99, 109, 100] ∧ ((cutL 47 [] s.data.toList).getD []).length = 7
  · exact big_cmd m nm s b w h hb hs' h5.1 h5.2
  by_cases h6 : nm.data.toList = [114, 101, 115, 117, 108, 116] ∧ ((cutL 47 [] s.data.toList).getD []).length = 3
  · exact big_res m nm s b w h hb hs' h6.1 h6.2
  exact big_no m nm s b w h hb hs' h1 h2 h3 h4 h5 h6
end Go.Proofs.YtenebkkfjalcaaaDoor
