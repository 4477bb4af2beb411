/-
  The law ScriptSettles, walked: what is read behind a good head, and written, is read as the same, and is written as the same text.
-/
import Derived.Test.YtcibcmfaebbhnaaDoorZPpr
import Derived.Test.YtcibcmfaebbhnaaDoorZPps
import Derived.Test.YtcibcmfaebbhnaaDoorZLbp
import Derived.Test.YtcibcmfaebbhnaaDoorZRdw
import Derived.Test.YtcibcmfaebbhnaaDoorZSho
import Derived.Test.YtcibcmfaebbhnaaDoorZWords
set_option linter.unusedVariables false
set_option linter.unusedSimpArgs false
namespace Go.Proofs.YtcibcmfaebbhnaaDoor
open Go.RowKit Go.WideShapes Go.ChangeShapes Q
def cfgW : Cfg := ⟨3, 4, 2, 1, 8, 500, 0, [1, 1, 1]⟩
theorem cfgW_ok : cfgW.Ok := by
  refine ⟨by decide, by decide, by decide, by decide, by decide, by decide, by decide, by rfl, ?_, by decide⟩
  intro j hj
  match j, hj with
  | 0, _ => exact ⟨by decide, by decide⟩
  | 1, _ => exact ⟨by decide, by decide⟩
  | 2, _ => exact ⟨by decide, by decide⟩
def topW : List UInt8 := q1L ++ 10 :: ([110, 111, 100, 101, 115, 32, 51, 32, 119, 105, 110, 100, 111, 119, 32, 52, 32, 98, 97, 115, 101, 32, 50, 32, 115, 116, 101, 112, 32, 49, 32, 99, 97, 112, 32, 56, 32, 114, 111, 111, 109, 32, 53, 48, 48, 32, 102, 108, 111, 111, 114, 32, 48, 10] ++ [118, 111, 116, 101, 115, 32, 49, 32, 49, 32, 49, 10])
theorem topW_eq : topW = headTx cfgW := by
  rw [headTx_eq]
  decide +kernel
theorem topW_len : topW.length = 76 := by decide
/-- What a text behind a good head says. -/
theorem parse_head {c : Cfg} (hok : c.Ok) (X : List UInt8) : parseE (headTx c ++ X) = if 400000 < (headTx c ++ X).length then (Sc.zero, 0, 20) else if 4000 < (keepL X).length then (Sc.zero, 0, 25) else (⟨c, (keepL X).map (lineE c.nodes)⟩, (idleN ((keepL X).map (lineE c.nodes)) : Int), 0) := by
  unfold parseE
  split
  · rfl
  · rw [keep_end (head_end c), head_keep]
    show parseH (headE (q1L :: headL2 c :: headL3 c :: keepL X)) = _
    rw [headE_cons, if_pos topJ_first, head_cfg hok]
    show (if c.err = 0 then _ else _) = _
    rw [if_pos (Cfg.err_ok hok)]
/-- What is read and then written: the text, or none for its length. -/
theorem print_read {c : Cfg} (hok : c.Ok) (ls : List (List UInt8)) (hl : ls.length ≤ 4000) : (∃ x, printS ⟨c, ls.map (lineE c.nodes)⟩ = (x, 0)) ∨ printS ⟨c, ls.map (lineE c.nodes)⟩ = ([], 20) := by
  obtain ⟨t, ht⟩ := lines_read hok.nodes ls
  unfold printS
  simp only
  rw [if_pos (Cfg.err_ok hok), if_neg (by rw [List.length_map]; omega), ht]
  simp only
  split
  · exact .inr rfl
  · exact .inl ⟨_, rfl⟩
theorem read_ok {w : World} {B : Nat} {s : Sm} {n : Int} {ls : List (List UInt8)} (h : s.sc.es = ls.map (lineE n)) (hi : ∀ m ∈ s.ms, EmIn w B m) : ∀ m ∈ s.ms, EvOk m := by
  intro m hm
  have h1 : m.ev ∈ ls.map (lineE n) := by rw [← h]; exact List.mem_map_of_mem hm
  obtain ⟨x, _, hx⟩ := List.mem_map.1 h1
  exact fit_ok (by rw [← hx]; exact lineE_fit) (RI.len (hi m hm).sid) (hi m hm).nb_len
set_option maxRecDepth 100000 in
set_option maxHeartbeats 4000000 in
theorem settles (s : ByteArray) (w : World) (hs : s.size ≤ 1048576) (hT : OpT w) (hTb : Tab w) (hM : ML w) :
    Calls Tryd.prog 8 #[.string s] w fun e w' => e = .returned (.bool true) ∧ Below w.heap.size w w' := by
  have h0w : 0 < w.heap.size := hT.lt
  have hsl : s.data.toList.length = s.size := str_len s
  obtain ⟨l, hl⟩ : ∃ l, l = s.data.toList := ⟨_, rfl⟩
  obtain ⟨T, hTT⟩ : ∃ T, T = topW ++ l := ⟨_, rfl⟩
  have hTl : T.length = 76 + s.size := by rw [hTT, List.length_append, topW_len, hl, hsl]
  obtain ⟨X, hX⟩ : ∃ X, X = S T := ⟨_, rfl⟩
  have hXs : X.size = 76 + s.size := by rw [hX, S_size, hTl]
  obtain ⟨P, hP⟩ : ∃ P, P = parseE T := ⟨_, rfl⟩
  have HPH : Hid (P = if 400000 < T.length then (Sc.zero, 0, 20) else if 4000 < (keepL l).length then (Sc.zero, 0, 25) else (⟨cfgW, (keepL l).map (lineE 3)⟩, (idleN ((keepL l).map (lineE 3)) : Int), 0)) := by
    show _ = _
    rw [hP, hTT, topW_eq]
    exact parse_head cfgW_ok l
  have HPA : Hid (∀ (x : List UInt8) W, Below w.heap.size w W → Calls Tryd.prog 16 #[.string (S x)] W fun e w' => ParP (parseE x) W e w') := fun x W hb =>
    pparse_script (S x) W (hT.below hb h0w) (hM.below hb) (by have := hb.size; omega)
  have HPA1 : Hid (∀ W, Below w.heap.size w W → Calls Tryd.prog 16 #[.string X] W fun e w' => ParP P W e w') := fun W hb => by
    rw [hX, hP]
    exact HPA.out T W hb
  have HPP : Hid (∀ (s' : Sm) (ls : List (List UInt8)) (b : Nat) (W : World), Below w.heap.size w W → s'.sc = ⟨cfgW, ls.map (lineE 3)⟩ → SmU W b s' → Calls Tryd.prog 22 #[.agg s'.cs] W fun e w' => PrtP s'.sc W e w') := fun s' ls b W hb he hu =>
    pprint_script s' W hu.inn (by rw [show s'.c = cfgW from congrArg Sc.c he]; decide) (by have := hu.hn; omega) (read_ok (congrArg Sc.es he) hu.inn.ent) (hT.below hb h0w) (hTb.below hb)
  have HXE : Hid (X = S (cc topW s.data.toList)) := by show _ = _; rw [hX, hTT, hl]; rfl
  have HLK : Hid ((keepL l).length ≤ s.size + 1) := by
    have := keep_len l
    rw [hl, hsl] at this
    rw [hl]
    exact this
  have HTL := hide hTl
  obtain ⟨tb, htb⟩ : ∃ tb : ByteArray, tb = S topW := ⟨_, rfl⟩
  have HTB := hide htb
  clear hP hX hTT hT hTb hM hl hTl hsl htb
  go_enter Tryd.func8, Tryd.ntmps8
  go_upto_region 2 with fail
  refine wp_region_lit ?_
  refine wpList_value rfl (.string (S topW)) (by go_simp; rfl) ?_
  try simp only [Act.put, aSt, aSz, aSs]
  refine wpList_value rfl (.string (S s.data.toList)) (by go_simp; rfl) ?_
  try simp only [Act.put, aSt, aSz, aSs]
  refine wpList_value rfl (.string X) (by rw [HXE.out]; exact ex_cat (.tmp 15) (.tmp 16) 9 9 rfl rfl rfl (by rw [topW_len, str_len]; omega)) ?_
  try simp only [Act.put, aSt, aSz, aSs]
  go_upto_region 3 with fail
  refine wp_region_lit ?_
  refine wpList_value rfl (.string X) (by go_simp) ?_
  try simp only [Act.put, aSt, aSz, aSs]
  refine wpList_step (fun K hK => ?_)
  rw [if_pos (by rfl)]
  go_simp
  go_at_call 16
  refine (HPA1.out w (Below.refl _ _)).mono ?_
  rintro e w1 ⟨s1, n1, f1, rfl, h1, hu1, hb1⟩
  have HE1 := hide h1
  have HU1 := hide hu1
  have HB1 := hide hb1
  refine hK _ _ ?_
  clear hK K h1 hu1 hb1 HPA1
  try simp only [Act.put, aSt, aSz, aSs]
  refine wpList_value rfl (.tuple #[.agg s1.cs, .int .i64 n1, .int .i64 f1]) (by go_simp) ?_
  try simp only [Act.put, aSt, aSz, aSs]
  refine wpList_value rfl (.agg s1.cs) (by go_simp) ?_
  try simp only [Act.put, aSt, aSz, aSs]
  refine wpList_value rfl (.int .i64 n1) (by go_simp) ?_
  try simp only [Act.put, aSt, aSz, aSs]
  refine wpList_value rfl (.int .i64 f1) (by go_simp) ?_
  try simp only [Act.put, aSt, aSz, aSs]
  refine wpList_step (fun K hK => ?_)
  rw [if_pos (by rfl)]
  go_simp
  refine hK _ _ ?_
  clear hK K
  refine wpList_store_fresh rfl 47 (.tmp 5) (.tmp 21) rfl _ s1.cs rfl rfl (ld47 _ (sm_size _)) rfl (sm_all _) ?_
  try simp only [Act.put, aSt, aSz, aSs]
  obtain ⟨w2, hw2⟩ : ∃ w2, w2 = World.alloc w1 (.cells s1.cs 47) := ⟨_, rfl⟩
  obtain ⟨g1, hg1⟩ : ∃ g1, g1 = w1.heap.size := ⟨_, rfl⟩
  have hal : Below w1.heap.size w1 w2 := by rw [hw2]; exact (Below.refl _ _).alloc (Nat.le_refl _) _
  have HX2 : Hid (Blk w2 g1 47 s1.cs) := by show Blk _ _ _ _; rw [hw2, hg1]; exact Blk.new _ _ _
  have HU2 := hide (HU1.out.step hal)
  have HB2 := hide (HB1.out.trans (hal.mono HB1.out.size))
  rw [← hw2]
  try rw [← hg1]
  clear hw2 hg1 hal HU1 HB1
  have hsw2 : w.heap.size ≤ w2.heap.size := HB2.out.size
  by_cases h1 : 400000 < T.length
  · have hf : f1 = 20 := by
      have h2 := HPH.out
      rw [if_pos h1] at h2
      have h3 := HE1.out.symm.trans h2
      injection h3 with _ h4
      injection h4
    subst hf
    have e4 : (400000 : Int) < (X.size : Int) := by have := HTL.out; omega
    go_wp2_with fail
    go_ret
    exact ⟨rfl, HB2.out⟩
  have e4 : ¬ (400000 : Int) < (X.size : Int) := by have := HTL.out; omega
  by_cases h2 : 4000 < (keepL l).length
  · have hf : f1 = 25 := by
      have h3 := HPH.out
      rw [if_neg h1, if_pos h2] at h3
      have h4 := HE1.out.symm.trans h3
      injection h4 with _ h5
      injection h5
    subst hf
    have e5 : (4000 : Int) ≤ (s.size : Int) := by have := HLK.out; omega
    clear h1 h2
    go_wp2_with fail
    go_ret
    exact ⟨by simp [e5], HB2.out⟩
  have HSC : Hid (s1.sc = ⟨cfgW, (keepL l).map (lineE 3)⟩ ∧ n1 = (idleN s1.sc.es : Int) ∧ f1 = 0) := by
    have h3 := HPH.out
    rw [if_neg h1, if_neg h2] at h3
    have h4 := HE1.out.symm.trans h3
    injection h4 with h5 h6
    injection h6 with h7 h8
    refine ⟨h5, ?_, h8⟩
    rw [h7, h5]
  have hf : f1 = 0 := HSC.out.2.2
  subst hf
  have HPR := print_read cfgW_ok (keepL l) (by omega)
  rw [show (⟨cfgW, (keepL l).map (lineE cfgW.nodes)⟩ : Sc) = s1.sc from HSC.out.1.symm] at HPR
  have HIN2 := hide HU2.out.inn
  have hml : s1.ms.length ≤ 4000 := HU2.out.hn
  have HNB : Hid (∀ m ∈ s1.ms, m.nb ≤ 10000000) := fun m hm => by
    have := (read_ok (congrArg Sc.es HSC.out.1) HIN2.out.ent m hm).bulk
    omega
  have HID : Hid (∀ W, SmU W w.heap.size s1 → Calls Tryd.prog 20 #[.agg s1.cs] W fun e w' => e = .returned (.int .i64 n1) ∧ Below W.heap.size W w') := fun W hu => by
    rw [HSC.out.2.1]
    exact idle_any W hu.inn.row (by omega)
  have kc0 : w2.cell? ⟨g1, 0, none⟩ = some (.int .i64 3) := by
    rw [HX2.out.cell 0]
    show some (Value.int .i64 s1.c.nodes) = _
    rw [show s1.c = cfgW from congrArg Sc.c HSC.out.1]
    rfl
  have kc7 : w2.cell? ⟨g1, 7, none⟩ = some (.slice s1.A 3 s1.k) := by
    rw [HX2.out.cell 7]
    show some (Value.slice s1.A s1.c.votes.length s1.k) = _
    rw [show s1.c = cfgW from congrArg Sc.c HSC.out.1]
    rfl
  have q1 : (n1 != n1) = false := by simp
  have q2 : (n1 == n1) = true := by simp
  clear h1 h2
  have hdl : Below w.heap.size w w2 := HB2.out
  go_upto_region 10 with first
    | (refine wpList_gvalue (by rfl) (.agg s1.cs) (ex_load 47 (.tmp 5) rfl _ rfl _ _ Tryd.underlying47 rfl (ld47 _ (sm_size _)) (box_all HX2.out)) ?_)
    | (go_at_call 20; refine (HID.out w2 HU2.out).mono ?_; rintro e w3 ⟨rfl, hb3⟩; have HB3 := hide hb3; clear hb3)
  clear kc0 kc7 hdl
  have HU3 := hide (HU2.out.step HB3.out)
  have HX3 := hide (HX2.out.below HB3.out HX2.out.lt)
  have HW3 := hide (HB2.out.trans (HB3.out.mono hsw2))
  have hsw3 : w.heap.size ≤ w3.heap.size := HW3.out.size
  clear HU2 HX2 HB2 HB3 HIN2 hsw2 HID
  refine wp_region_lit ?_
  refine wpList_value rfl (.agg s1.cs) (ex_load 47 (.tmp 5) rfl _ rfl _ _ Tryd.underlying47 rfl (ld47 _ (sm_size _)) (box_all HX3.out)) ?_
  try simp only [Act.put, aSt, aSz, aSs]
  refine wpList_step (fun K hK => ?_)
  rw [if_pos (by rfl)]
  go_simp
  go_at_call 22
  refine (HPP.out s1 _ _ w3 HW3.out HSC.out.1 HU3.out).mono ?_
  rintro e w4 ⟨rfl, hb4⟩
  have HU4 := hide (HU3.out.step hb4)
  have HX4 := hide (HX3.out.below hb4 HX3.out.lt)
  have HW4 := hide (HW3.out.trans (hb4.mono hsw3))
  have hsw4 : w.heap.size ≤ w4.heap.size := HW4.out.size
  refine hK _ _ ?_
  clear hK K hb4 HU3 HX3 HW3 hsw3
  rcases HPR with ⟨x, hx⟩ | hx
  rotate_left
  · have HSH : Hid (decide (shortN s1.sc.es ≤ 400000) = false) := by
      show _ = _
      have := print_long hx
      exact decide_eq_false (by omega)
    have HSO : Hid (Calls Tryd.prog 24 #[.agg s1.cs] w4 fun e w' => e = .returned (.bool false) ∧ Below w4.heap.size w4 w') := by
      have := short_any s1 w4 HU4.out.inn (by omega) HNB.out
      rw [HSH.out] at this
      exact this
    rw [hx]
    clear hx
    try simp only [Act.put, aSt, aSz, aSs]
    go_wp2_with first
      | (refine wpList_gvalue (by rfl) (.agg s1.cs) (ex_load 47 (.tmp 5) rfl _ rfl _ _ Tryd.underlying47 rfl (ld47 _ (sm_size _)) (box_all HX4.out)) ?_)
      | (go_at_call 24; refine HSO.out.mono ?_; rintro e w5 ⟨rfl, hb5⟩; have HB5 := hide (HW4.out.trans (hb5.mono hsw4)); clear hb5)
    go_ret
    exact ⟨rfl, HB5.out⟩
  have HPX := hide hx
  have HBK := hide (parse_print hx)
  rw [hx]
  clear hx
  obtain ⟨Y, hY⟩ : ∃ Y, Y = S x := ⟨_, rfl⟩
  rw [show S ((x, (0 : Int)) : List UInt8 × Int).1 = Y from hY.symm, show ((x, (0 : Int)) : List UInt8 × Int).2 = 0 from rfl]
  have HYX := hide hY
  have HPA2 : Hid (∀ W, Below w.heap.size w W → Calls Tryd.prog 16 #[.string Y] W fun e w' => ParP (s1.sc, n1, 0) W e w') := fun W hb => by
    have h1 := HPA.out x W hb
    rw [HBK.out, ← HSC.out.2.1] at h1
    rw [HYX.out]
    exact h1
  have HPP2 : Hid (∀ (s' : Sm) (b : Nat) (W : World), Below w.heap.size w W → s'.sc = s1.sc → SmU W b s' → Calls Tryd.prog 22 #[.agg s'.cs] W fun e w' => e = .returned (.tuple #[.string Y, .int .i64 0]) ∧ Below W.heap.size W w') := fun s' b W hb he hu => by
    refine (HPP.out s' _ b W hb (he.trans HSC.out.1) hu).mono ?_
    rintro e w' ⟨rfl, hb'⟩
    refine ⟨?_, hb'⟩
    rw [he, HPX.out, HYX.out]
  clear hY
  try simp only [Act.put, aSt, aSz, aSs]
  go_upto_region 13 with fail
  refine wp_region_lit ?_
  refine wpList_value rfl (.string Y) (by go_simp) ?_
  try simp only [Act.put, aSt, aSz, aSs]
  refine wpList_step (fun K hK => ?_)
  rw [if_pos (by rfl)]
  go_simp
  go_at_call 16
  refine (HPA2.out w4 HW4.out).mono ?_
  rintro e w5 ⟨s2, n2, f2, rfl, h5, hu5, hb5⟩
  have HSE : Hid (s2.sc = s1.sc) := by injection h5 with h6 _; exact h6.symm
  have hn2 : n2 = n1 := by injection h5 with _ h6; injection h6 with h7 _; exact h7.symm
  have hf2 : f2 = 0 := by injection h5 with _ h6; injection h6 with _ h7; exact h7.symm
  have HV5 := hide hu5
  have HU5 := hide (HU4.out.step hb5)
  have HX5 := hide (HX4.out.below hb5 HX4.out.lt)
  have HW5 := hide (HW4.out.trans (hb5.mono hsw4))
  clear h5 hu5
  subst hn2 hf2
  refine hK _ _ ?_
  clear hK K hb5 HU4 HX4 HW4
  try simp only [Act.put, aSt, aSz, aSs]
  refine wpList_value rfl (.tuple #[.agg s2.cs, .int .i64 n2, .int .i64 0]) (by go_simp) ?_
  try simp only [Act.put, aSt, aSz, aSs]
  refine wpList_value rfl (.agg s2.cs) (by go_simp) ?_
  try simp only [Act.put, aSt, aSz, aSs]
  refine wpList_value rfl (.int .i64 n2) (by go_simp) ?_
  try simp only [Act.put, aSt, aSz, aSs]
  refine wpList_value rfl (.int .i64 0) (by go_simp) ?_
  try simp only [Act.put, aSt, aSz, aSs]
  refine wpList_step (fun K hK => ?_)
  rw [if_pos (by rfl)]
  go_simp
  refine hK _ _ ?_
  clear hK K
  refine wpList_store_fresh rfl 47 (.tmp 10) (.tmp 68) rfl _ s2.cs rfl rfl (ld47 _ (sm_size _)) rfl (sm_all _) ?_
  try simp only [Act.put, aSt, aSz, aSs]
  obtain ⟨w6, hw6⟩ : ∃ w6, w6 = World.alloc w5 (.cells s2.cs 47) := ⟨_, rfl⟩
  obtain ⟨g2, hg2⟩ : ∃ g2, g2 = w5.heap.size := ⟨_, rfl⟩
  have hal : Below w5.heap.size w5 w6 := by rw [hw6]; exact (Below.refl _ _).alloc (Nat.le_refl _) _
  have HY6 : Hid (Blk w6 g2 47 s2.cs) := by show Blk _ _ _ _; rw [hw6, hg2]; exact Blk.new _ _ _
  have HV6 := hide (HV5.out.step hal)
  have HU6 := hide (HU5.out.step hal)
  have HX6 := hide (HX5.out.below hal HX5.out.lt)
  have HW6 := hide (HW5.out.trans (hal.mono HW5.out.size))
  rw [← hw6]
  try rw [← hg2]
  clear hw6 hg2 hal HV5 HU5 HX5 HW5
  have hsw6 : w.heap.size ≤ w6.heap.size := HW6.out.size
  have HSS : Hid (Calls Tryd.prog 18 #[.agg s2.cs, .agg s1.cs] w6 fun e w' => e = .returned (.bool true) ∧ Below w6.heap.size w6 w') := same_scripts w6 HV6.out.inn HU6.out.inn HSE.out
  go_upto_region 16 with first
    | (refine wpList_gvalue (by rfl) (.agg s2.cs) (ex_load 47 (.tmp 10) rfl _ rfl _ _ Tryd.underlying47 rfl (ld47 _ (sm_size _)) (box_all HY6.out)) ?_)
    | (refine wpList_gvalue (by rfl) (.agg s1.cs) (ex_load 47 (.tmp 5) rfl _ rfl _ _ Tryd.underlying47 rfl (ld47 _ (sm_size _)) (box_all HX6.out)) ?_)
    | (go_at_call 18; refine HSS.out.mono ?_; rintro e w7 ⟨rfl, hb7⟩; have HB7 := hide hb7; clear hb7)
  have HV7 := hide (HV6.out.step HB7.out)
  have HY7 := hide (HY6.out.below HB7.out HY6.out.lt)
  have HW7 := hide (HW6.out.trans (HB7.out.mono hsw6))
  have hsw7 : w.heap.size ≤ w7.heap.size := HW7.out.size
  clear HV6 HU6 HX6 HY6 HW6 HB7 HSS
  refine wp_region_lit ?_
  refine wpList_value rfl (.agg s2.cs) (ex_load 47 (.tmp 10) rfl _ rfl _ _ Tryd.underlying47 rfl (ld47 _ (sm_size _)) (box_all HY7.out)) ?_
  try simp only [Act.put, aSt, aSz, aSs]
  refine wpList_step (fun K hK => ?_)
  rw [if_pos (by rfl)]
  go_simp
  go_at_call 22
  refine (HPP2.out s2 _ w7 HW7.out HSE.out HV7.out).mono ?_
  rintro e w8 ⟨rfl, hb8⟩
  have HW8 := hide (HW7.out.trans (hb8.mono hsw7))
  refine hK _ _ ?_
  clear hK K hb8
  try simp only [Act.put, aSt, aSz, aSs]
  have q3 : (Y.toList == Y.toList) = true := by simp
  have q4 : (Y == Y) = true := by rw [beq_toListBytes]; exact q3
  go_wp2_with fail
  go_ret
  exact ⟨rfl, HW8.out⟩
end Go.Proofs.YtcibcmfaebbhnaaDoor
