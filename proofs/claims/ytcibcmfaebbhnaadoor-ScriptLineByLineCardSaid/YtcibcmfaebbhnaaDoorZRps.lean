/-
  The reference's Parse. (Printed by wip/tools/mkrps.py.)
-/
import Derived.Test.YtcibcmfaebbhnaaDoorZSm
set_option linter.unusedVariables false
set_option linter.unusedSimpArgs false
namespace Go.Proofs.YtcibcmfaebbhnaaDoor
open Go.RowKit Go.WideShapes Go.ChangeShapes Q

theorem own_txt {w : World} {base n c g k : Nat} {ls : List (List UInt8)} {x : List UInt8} (h : w.ownsRow base 9 1 (.slice (some ⟨g, 0, none⟩) n c) n (ltx ls)) (hk : ls[k]? = some x) : w.cell? ⟨g, k, none⟩ = some (.string (S x)) := by
  have := World.ownsRow.cells (g := g) h rfl k (.string (S x)) (by unfold ltx; rw [List.getElem?_map, hk]; rfl)
  have e : (⟨g, 0, none⟩ : Addr).add k = ⟨g, k, none⟩ := by
    unfold Addr.add
    split
    · rename_i h0; subst h0; rfl
    · simp
  rw [e] at this
  exact this
theorem ltx_len (l : List (List UInt8)) : (ltx l).length = l.length := by simp [ltx]
/-- A configuration in a box of its own, and whether it is one. -/
def BoxC (f : Option Cfg) (W : World) (p q : Value) (wx : World) : Prop := ∃ (g : Nat) (c : Cfg) (A : Option Addr) (k : Nat) (ok : Bool), p = .pointer (some ⟨g, 0, none⟩) ∧ q = .bool ok ∧ W.heap.size ≤ g ∧ Blk wx g 44 (cfC c A k) ∧ CfU wx W.heap.size c A k ∧ Below W.heap.size W wx ∧ (ok = true → f = some c) ∧ (ok = false → f = none)
/-- An event in a box of its own. -/
def BoxE (f : Ev) (W : World) (p : Value) (wx : World) : Prop := ∃ (g : Nat) (m : Em), p = .pointer (some ⟨g, 0, none⟩) ∧ W.heap.size ≤ g ∧ Blk wx g 29 m.cs ∧ EmU wx W.heap.size m ∧ Below W.heap.size W wx ∧ m.ev = f
/-- What the loop over all lines keeps. -/
def KpJ (W : World) (all : List (List UInt8)) (l i : Value) (wr : World) : Prop := ∃ (j : Nat) (A : Option Addr) (c : Nat) (ps : List (List UInt8)), j ≤ all.length ∧ i = .int .i64 j ∧ l = .slice A ps.length c ∧ ps = (all.take j).filter (fun x => !overB x) ∧ wr.ownsRow W.heap.size 9 1 (.slice A ps.length c) ps.length (ltx ps) ∧ Below W.heap.size W wr
/-- What the loop over the events keeps. -/
def EvJ (W4 : World) (s : Nat) (c : Cfg) (A : Option Addr) (k : Nat) (L : List (List UInt8)) (n i : Value) (wr : World) : Prop := ∃ (j : Nat) (ms : List Em) (Ae : Option Addr) (ke : Nat), 3 ≤ j ∧ j ≤ L.length ∧ i = .int .i64 j ∧ n = .int .i64 (idleN (ms.map Em.ev) : Int) ∧ Blk wr s 47 (Sm.cs ⟨c, A, k, Ae, ke, ms⟩) ∧
  wr.ownsRow W4.heap.size 29 13 (.slice Ae ms.length ke) ms.length (emCells ms) ∧ (∀ m ∈ ms, EmU wr W4.heap.size m) ∧ Below W4.heap.size W4 wr ∧ ms.map Em.ev = ((L.drop 3).take (j - 3)).map (lineE c.nodes) ∧ ms.length + 3 = j
theorem idle_le (es : List Ev) : idleN es ≤ es.length := List.length_filter_le _ _
set_option maxRecDepth 100000 in
set_option maxHeartbeats 4000000 in
theorem rparse_script (s : ByteArray) (w : World) :
    Calls Tryd.prog 17 #[.string s] w fun e w' => ParP (parseE s.data.toList) w e w' := by
  obtain ⟨T, hT⟩ : ∃ T, T = parseE s.data.toList := ⟨_, rfl⟩
  rw [← hT]
  have HT := hide hT
  obtain ⟨i9, hi9, hz9, hs9, hb9⟩ := info_parts info9
  have I9 := hide hi9
  obtain ⟨i29, hi29, hz29, hs29, hb29⟩ := info_parts info29
  have I29 := hide hi29
  have Z29 := hide hz29
  have HOV : Hid (∀ (x : List UInt8) W, x.length ≤ 1000000000000 → Calls Tryd.prog 39 #[.string (S x)] W fun e w' => e = .returned (.bool (overB x)) ∧ w' = W) := fun x W h => by
    have := over_ref (S x) W (by rw [S_size]; exact h)
    rw [S_data] at this
    exact this
  have HFI : Hid (∀ (x : List UInt8) W, x.length ≤ 30000000 → Calls Tryd.prog 40 #[.string (S x)] W fun e w' => e = .returned (.bool (firstB x)) ∧ Below W.heap.size W w') := fun x W h => by
    have := first_ref (S x) W (by rw [S_size]; exact h)
    rw [S_data] at this
    exact this
  have HCO : Hid (∀ (x y : List UInt8) W, x.length ≤ 30000000 → y.length ≤ 30000000 → Calls Tryd.prog 41 #[.string (S x), .string (S y)] W fun e w' => CnfP (cfgL x y) W e w') := fun x y W hx hy => by
    have := config_ref (S x) (S y) W (by rw [S_size]; exact hx) (by rw [S_size]; exact hy)
    rw [S_data, S_data] at this
    exact this
  have HPE : Hid (∀ (x : List UInt8) (n : Int) W, x.length ≤ 30000000 → Calls Tryd.prog 11 #[.string (S x), .int .i64 n] W fun e w' => EvP (lineE n x) W.heap.size W e w') := fun x n W h => by
    have := rparse_ev (S x) n W (by rw [S_size]; exact h)
    rw [S_data] at this
    exact this
  have hsz := str_len s
  clear hi9 hT hi29 hz29
  go_enter Tryd.func17, Tryd.ntmps17
  go_upto_region 1 with fail
  generalize hW1 : World.alloc w _ = W1
  obtain ⟨Z, hZs, hZ⟩ : ∃ Z : Array Value, Z.size = 9 ∧ Blk W1 w.heap.size 47 Z := by
    rw [← hW1]
    exact ⟨_, rfl, Blk.new _ _ _⟩
  have HB1 : Hid (Below w.heap.size w W1) := by
    show Below _ _ _
    rw [← hW1]
    exact (Below.refl _ _).alloc (Nat.le_refl _) _
  have HZ1 := hide hZ
  clear hW1 hZ
  by_cases hbig : 400000 < s.size
  · have HR : Hid (T = (Sc.zero, 0, 20)) := by
      show _ = _
      rw [HT.out]
      unfold parseE
      rw [if_pos (by omega)]
    have e1 : (400000 : Int) < (s.size : Int) := by omega
    clear hsz
    go_wp2_with (refine wpList_put_at rfl 47 (.tmp 2) (.tmp 18) rfl (w.heap.size) 0 Sm.zero.cs rfl rfl 47 Z HZ1.out (ld47 _ rfl) (by rw [sm_size, hZs]; omega) (sm_all _) _ (sput Z _ hZs rfl) ?_)
    refine bodyPost_ret (results_47 rfl _ rfl (HZ1.out.row _) rfl rfl rfl) rfl ?_
    exact par_no (Nat.le_refl _) HZ1.out HB1.out HR.out
  have e1 : ¬ (400000 : Int) < (s.size : Int) := by omega
  have HLN : Hid (∀ W, Calls Tryd.prog 38 #[.string s] W fun e w' => LinP s.data.toList W e w') := fun W => lines_ref s W (by omega)
  obtain ⟨K, hK⟩ : ∃ K, K = keepL s.data.toList := ⟨_, rfl⟩
  have HT2 : Hid (T = parseH (headE K)) := by
    show _ = _
    rw [HT.out, hK]
    unfold parseE
    rw [if_neg (by omega)]
  have HKZ : Hid (∀ x ∈ K, x.length ≤ 400000) := fun x hx => by rw [hK] at hx; have := keep_mem hx; omega
  obtain ⟨all, hall⟩ : ∃ all, all = linG [] s.data.toList := ⟨_, rfl⟩
  have HKA : Hid (K = all.filter (fun x => !overB x)) := by show _ = _; rw [hK, hall]; rfl
  have HAZ : Hid (∀ x ∈ all, x.length ≤ 400000) := fun x hx => by rw [hall] at hx; have := lin_mem _ _ x hx; simp only [List.length_nil] at this; omega
  have hal : all.length ≤ 400001 := by rw [hall]; have := lin_len s.data.toList []; omega
  have HALL := hide hall
  clear hK hall HT hbig
  go_upto_region 5 with (go_at_call 38; refine (HLN.out _).mono ?_; rintro e w2 hlp; have HLP := hide hlp; clear hlp; obtain ⟨Aa, ca, rfl, hown, hb2⟩ := HLP.out; rw [← HALL.out] at hown ⊢; have HOa := hide hown; have HB2 := hide (HB1.out.trans (hb2.mono HB1.out.size)); have HZ2 := hide (HZ1.out.below hb2 HZ1.out.lt); clear hown hb2 HLP)
  clear HLN HZ1 HB1 HALL
  have hsw2 : w.heap.size ≤ w2.heap.size := HB2.out.size
  have HL0 : Hid (KpJ w2 all (.slice none 0 0) (.int .i64 0) w2) := ⟨0, none, 0, [], Nat.zero_le _, rfl, rfl, by simp, World.ownsRow_nil _ _ _ _, Below.refl _ _⟩
  go_upto_region 6 with fail
  go_loopw [5, 7] (fun l i wr => KpJ w2 all l i wr) (fun _ i _ => all.length - (intOf i).toNat)
  case atStart => exact HL0.out
  case round =>
    clear HL0
    unfold KpJ at hrel
    obtain ⟨j, A, cp, ps, hj, rfl, rfl, hps, hown, hbr⟩ := hrel
    have HO := hide hown
    have HBR := hide hbr
    have HPS := hide hps
    have hpl : ps.length ≤ j := by
      rw [hps]
      have := List.length_filter_le (fun x => !overB x) (all.take j)
      rw [List.length_take] at this
      omega
    clear hown hbr hps
    have hswr : w2.heap.size ≤ wr.heap.size := HBR.out.size
    have j0 : (0 : Int) ≤ (j : Int) := by omega
    have HZR := hide (HZ2.out.below HBR.out HZ2.out.lt)
    have HBW := hide (HB2.out.trans (HBR.out.mono HB2.out.size))
    by_cases hlt : j < all.length
    · have js : (j : Int) < (all.length : Int) := by omega
      obtain ⟨x, hx⟩ : ∃ x, all[j]? = some x := ⟨_, List.getElem?_eq_getElem hlt⟩
      have hxz : x.length ≤ 1000000000000 := by have := HAZ.out x (List.mem_of_getElem? hx); omega
      obtain ⟨ga, cap, hv, _, hlta⟩ := (own_step HOa.out HBR.out).form (by omega)
      injection hv with q1 q2 q3
      subst q1 q3
      have kx := own_txt (own_step HOa.out HBR.out) hx
      have HOX := hide (HOV.out x wr hxz)
      have HTK : Hid ((all.take (j + 1)).filter (fun x => !overB x) = ps ++ [x].filter (fun x => !overB x)) := by
        show _ = _
        rw [List.take_add_one, hx, List.filter_append, HPS.out]
        rfl
      clear hx hlta
      obtain ⟨bo, hbo⟩ : ∃ bo, bo = overB x := ⟨_, rfl⟩
      rw [← hbo] at HOX
      have HBO := hide hbo
      clear hbo
      cases bo with
      | true =>
        have HL5 : Hid (KpJ w2 all (.slice A ps.length cp) (.int .i64 ((j : Int) + 1)) wr) := ⟨j + 1, A, cp, ps, by omega, by go_num, rfl, by rw [HTK.out]; simp [← HBO.out], HO.out, HBR.out⟩
        go_wp2_with (go_at_call 39; refine HOX.out.mono ?_; rintro e w3 ⟨rfl, rfl⟩)
        go_roundw
        case rel => first | exact HL5.out | exact ⟨_, HL5.out, rfl⟩ | exact ⟨_, _, HL5.out, rfl, rfl⟩
        case measure => simp [intOf]; omega
      | false =>
        have HL8 : Hid (∀ g8 c8 w8, w8.ownsRow w2.heap.size 9 1 (.slice (some ⟨g8, 0, none⟩) (ps.length + 1) c8) (ps.length + 1) (ltx ps ++ [.string (S x)]) → Below w2.heap.size wr w8 → KpJ w2 all (.slice (some ⟨g8, 0, none⟩) (ps.length + 1) c8) (.int .i64 ((j : Int) + 1)) w8) := by
          intro g8 c8 w8 hown8 hb8
          refine ⟨j + 1, _, c8, ps ++ [x], by omega, by go_num, by rw [List.length_append]; rfl, by rw [HTK.out]; simp [← HBO.out], ?_, HBR.out.trans hb8⟩
          rw [List.length_append, ltx_app]
          exact hown8
        go_wp2_with first | (go_at_call 39; refine HOX.out.mono ?_; rintro e w3 ⟨rfl, rfl⟩) | (at_builtin; refine wpList_push (W := w3) (cs := #[.string (S x)]) rfl (.tmp 34) (.tmp 39) _ rfl w2.heap.size 9 i9 _ 1 16 Tryd.underlying57 I9.out hz9 hs9 hb9 rfl (by omega) (.slice A ps.length cp) ps.length _ rfl HO.out 1 1 rfl rfl (by simp [Value.oneCell']) (by omega) (by unfold maxLen; omega) (by omega) hswr ?_; intro g8 c8 w8 hown8 hgr8 hb8 _ _ _; have HL9 := hide (HL8.out g8 c8 w8 hown8 hb8); clear hown8 hb8 hgr8)
        go_roundw
        case rel => first | exact HL9.out | exact ⟨_, HL9.out, rfl⟩ | exact ⟨_, _, HL9.out, rfl, rfl⟩
        case measure => simp [intOf]; omega
    · have js : ¬ (j : Int) < (all.length : Int) := by omega
      have hjl : j = all.length := by omega
      obtain rfl : ps = K := by rw [HPS.out, HKA.out, hjl, List.take_length]
      have hpb : ps.length ≤ 400001 := by omega
      clear HPS HKA HOa hal HAZ HOV
      obtain ⟨W, hW⟩ : ∃ W, W = wr := ⟨_, rfl⟩
      have hsW : w.heap.size ≤ wr.heap.size := by omega
      by_cases hk3 : ps.length < 3
      · have HR : Hid (T = (Sc.zero, 0, 21)) := by show _ = _; rw [HT2.out, headE_len hk3]; rfl
        have e2 : (ps.length : Int) < 3 := by omega
        clear hW
        go_wp2_with (refine wpList_put_at rfl 47 (.tmp 2) (.tmp 51) rfl (w.heap.size) 0 Sm.zero.cs rfl rfl 47 Z HZR.out (ld47 _ rfl) (by rw [sm_size, hZs]; omega) (sm_all _) _ (sput Z _ hZs rfl) ?_)
        refine bodyPost_ret (results_47 rfl _ rfl (HZR.out.row _) rfl rfl rfl) rfl ?_
        exact par_no (Nat.le_refl _) HZR.out HBW.out HR.out
      have e2 : ¬ (ps.length : Int) < 3 := by omega
      obtain ⟨x0, x1, x2, rest, hpx⟩ : ∃ x0 x1 x2 rest, ps = x0 :: x1 :: x2 :: rest := by
        match ps, hk3 with
        | x0 :: x1 :: x2 :: rest, _ => exact ⟨x0, x1, x2, rest, rfl⟩
        | [], h => exact absurd (by decide) h
        | [_], h => exact absurd (by simp) h
        | [_, _], h => exact absurd (by simp) h
      have HPX := hide hpx
      obtain ⟨gl, cap, hv, _, hltl⟩ := HO.out.form (by omega)
      injection hv with q1 q2 q3
      subst q1 q3
      have k0 := own_txt HO.out (k := 0) (x := x0) (by rw [hpx]; rfl)
      have hz0 : x0.length ≤ 400000 := HKZ.out x0 (by rw [hpx]; simp)
      have hz1 : x1.length ≤ 400000 := HKZ.out x1 (by rw [hpx]; simp)
      have hz2 : x2.length ≤ 400000 := HKZ.out x2 (by rw [hpx]; simp)
      have h2l : 2 < ps.length := by omega
      have HRL : Hid (ps.length = rest.length + 3) := by show _ = _; rw [hpx]; rfl
      have HF0 := hide (HFI.out x0 wr (by omega))
      have n1 : (0 : Int) < (ps.length : Int) := by omega
      obtain ⟨fb, hfb⟩ : ∃ fb, fb = firstB x0 := ⟨_, rfl⟩
      rw [← hfb] at HF0
      have HFB := hide hfb
      clear hfb hpx hW hltl
      cases fb with
      | false =>
        have HR : Hid (T = (Sc.zero, 0, 21)) := by show _ = _; rw [HT2.out, HPX.out, headE_cons, if_neg (by rw [← HFB.out]; decide)]; rfl
        go_upto_region 12 with (go_at_call 40; refine HF0.out.mono ?_; rintro e w3 ⟨rfl, hb3⟩; have HZ3 := hide (HZR.out.below hb3 HZR.out.lt); have HB3 := hide (HBW.out.trans (hb3.mono HBW.out.size)); clear hb3)
        go_wp2_with (refine wpList_put_at rfl 47 (.tmp 2) (.tmp 51) rfl (w.heap.size) 0 Sm.zero.cs rfl rfl 47 Z HZ3.out (ld47 _ rfl) (by rw [sm_size, hZs]; omega) (sm_all _) _ (sput Z _ hZs rfl) ?_)
        refine bodyPost_ret (results_47 rfl _ rfl (HZ3.out.row _) rfl rfl rfl) rfl ?_
        exact par_no (Nat.le_refl _) HZ3.out HB3.out HR.out
      | true =>
        obtain ⟨FC, hFC⟩ : ∃ FC, FC = cfgL x1 x2 := ⟨_, rfl⟩
        have HFC : Hid (headE ps = FC.map (fun x => (x, rest))) := by show _ = _; rw [hFC, HPX.out, headE_cons, if_pos HFB.out.symm]
        have HCF : Hid (∀ W, Calls Tryd.prog 41 #[.string (S x1), .string (S x2)] W fun e w' => CnfP FC W e w') := fun W => by rw [hFC]; exact HCO.out x1 x2 W (by omega) (by omega)
        clear hFC HCO HFI
        go_upto_region 13 with (go_at_call 40; refine HF0.out.mono ?_; rintro e w3 ⟨rfl, hb3⟩; have HZ3 := hide (HZR.out.below hb3 HZR.out.lt); have HB3 := hide (HBW.out.trans (hb3.mono HBW.out.size)); have HO3 := hide (own_step HO.out hb3); clear hb3)
        clear HF0 HZR HBW HO k0 HBR HFB
        have hsw3 : w.heap.size ≤ w3.heap.size := HB3.out.size
        go_cut [9, 10] (fun p q wx => BoxC FC w3 p q wx)
        case first =>
          have HS0 : Hid (w3.drew.ownsRow w2.heap.size 9 1 (.slice (some ⟨gl, 0, none⟩) ps.length cp) ps.length (ltx ps)) := HO3.out
          have HG : Hid (∀ V : World, V.ownsRow w2.heap.size 9 1 (.slice (some ⟨gl, 0, none⟩) ps.length cp) ps.length (ltx ps) → V.cell? ⟨gl, 1, none⟩ = some (.string (S x1)) ∧ V.cell? ⟨gl, 2, none⟩ = some (.string (S x2))) := fun V hV => ⟨own_txt hV (by rw [HPX.out]; rfl), own_txt hV (by rw [HPX.out]; rfl)⟩
          have n2 : (1 : Int) < (ps.length : Int) := by omega
          have n3 : (2 : Int) < (ps.length : Int) := by omega
          refine wp_region_L [] (fun V : World => V.ownsRow w2.heap.size 9 1 (.slice (some ⟨gl, 0, none⟩) ps.length cp) ps.length (ltx ps)) (by kernel_rfl) ?_
          obtain ⟨wd, hwd⟩ : ∃ wd, wd = w3.drew := ⟨_, rfl⟩
          rw [← hwd]
          rw [← hwd] at HS0
          have HBD : Hid (Below w3.heap.size w3 wd) := by show Below _ _ _; rw [hwd]; exact (Below.refl _ _).drew
          have hsd : w3.heap.size ≤ wd.heap.size := HBD.out.size
          clear hwd
          refine wpL_take 0 (oi := ⟨some 53, _, _, _, _, _⟩) (v := ?_) rfl (by kernel_rfl) (by kernel_rfl) (by kernel_rfl) (by kernel_rfl) (fun _ _ _ h => h) (Or.inl ⟨by rfl, ?_⟩) HS0.out ?_
          rotate_left
          · intro V hV
            go_simp
            try with_reducible rfl
          try simp only [Act.put, List.setIfInBounds_toArray, List.set_cons_zero, List.set_cons_succ]
          refine wpL_take 1 (oi := ⟨some 54, _, _, _, _, _⟩) (v := ?_) rfl (by kernel_rfl) (by kernel_rfl) (by kernel_rfl) (by kernel_rfl) (fun _ _ _ h => h) (Or.inl ⟨by rfl, ?_⟩) HS0.out ?_
          rotate_left
          · intro V hV
            go_simp
            try with_reducible rfl
          try simp only [Act.put, List.setIfInBounds_toArray, List.set_cons_zero, List.set_cons_succ]
          refine wpL_take 2 (oi := ⟨some 55, _, _, _, _, _⟩) (v := ?_) rfl (by kernel_rfl) (by kernel_rfl) (by kernel_rfl) (by kernel_rfl) (fun _ _ _ h => h) (Or.inl ⟨by rfl, ?_⟩) HS0.out ?_
          rotate_left
          · intro V hV
            obtain ⟨a1, a2⟩ := HG.out V hV
            go_simp
            try with_reducible rfl
          try simp only [Act.put, List.setIfInBounds_toArray, List.set_cons_zero, List.set_cons_succ]
          refine wpL_take 3 (oi := ⟨some 56, _, _, _, _, _⟩) (v := ?_) rfl (by kernel_rfl) (by kernel_rfl) (by kernel_rfl) (by kernel_rfl) (fun _ _ _ h => h) (Or.inl ⟨by rfl, ?_⟩) HS0.out ?_
          rotate_left
          · intro V hV
            go_simp
            try with_reducible rfl
          try simp only [Act.put, List.setIfInBounds_toArray, List.set_cons_zero, List.set_cons_succ]
          refine wpL_take 4 (oi := ⟨some 57, _, _, _, _, _⟩) (v := ?_) rfl (by kernel_rfl) (by kernel_rfl) (by kernel_rfl) (by kernel_rfl) (fun _ _ _ h => h) (Or.inl ⟨by rfl, ?_⟩) HS0.out ?_
          rotate_left
          · intro V hV
            go_simp
            try with_reducible rfl
          try simp only [Act.put, List.setIfInBounds_toArray, List.set_cons_zero, List.set_cons_succ]
          refine wpL_take 5 (oi := ⟨some 58, _, _, _, _, _⟩) (v := ?_) rfl (by kernel_rfl) (by kernel_rfl) (by kernel_rfl) (by kernel_rfl) (fun _ _ _ h => h) (Or.inl ⟨by rfl, ?_⟩) HS0.out ?_
          rotate_left
          · intro V hV
            obtain ⟨a1, a2⟩ := HG.out V hV
            go_simp
            try with_reducible rfl
          try simp only [Act.put, List.setIfInBounds_toArray, List.set_cons_zero, List.set_cons_succ]
          refine wpL_two 6 10 (by kernel_rfl) rfl rfl (fun K hK => ?_) (fun K hK => ?_)
          · rw [if_pos (by rfl)]
            go_simp
            go_at_call 41
            refine (HCF.out _).mono ?_
            rintro e w5 ⟨c, Ac, kc, ok, rfl, hcu, hb5, hy, hn⟩
            have HS5 := hide (own_step HS0.out hb5)
            have HB5 := hide (HBD.out.trans (hb5.mono hsd))
            have HU5 := hide (hcu.base hsd)
            have HY := hide hy
            have HN := hide hn
            have hsw5 : w3.heap.size ≤ w5.heap.size := HB5.out.size
            refine hK _ _ (fun _ => HS5.out) ?_
            clear hK K hcu hb5 hy hn
            try simp only [Act.put, List.setIfInBounds_toArray, List.set_cons_zero, List.set_cons_succ]
            refine wpL_take 7 (oi := ⟨some 52, _, _, _, _, _⟩) (v := ?_) rfl (by kernel_rfl) (by kernel_rfl) (by kernel_rfl) (by kernel_rfl) (fun _ _ _ h => h) (Or.inl ⟨by rfl, ?_⟩) HS5.out ?_
            rotate_left
            · intro V hV
              go_simp
              try with_reducible rfl
            try simp only [Act.put, List.setIfInBounds_toArray, List.set_cons_zero, List.set_cons_succ]
            refine wpL_take 8 (oi := ⟨some 60, _, _, _, _, _⟩) (v := .agg (cfC c Ac kc)) rfl (by kernel_rfl) (by kernel_rfl) (by kernel_rfl) (by kernel_rfl) (fun _ _ _ h => h) (Or.inl ⟨by rfl, ?_⟩) HS5.out ?_
            · intro V hV
              go_simp
            try simp only [Act.put, List.setIfInBounds_toArray, List.set_cons_zero, List.set_cons_succ]
            refine wpL_take 9 (oi := ⟨some 61, _, _, _, _, _⟩) (v := .bool ok) rfl (by kernel_rfl) (by kernel_rfl) (by kernel_rfl) (by kernel_rfl) (fun _ _ _ h => h) (Or.inl ⟨by rfl, ?_⟩) HS5.out ?_
            · intro V hV
              go_simp
            try simp only [Act.put, List.setIfInBounds_toArray, List.set_cons_zero, List.set_cons_succ]
            refine wpL_one 10 (by kernel_rfl) rfl (fun K hK => ?_)
            rw [if_pos (by rfl)]
            go_simp
            have HZ6 : Hid (Blk (w5.alloc (.cells (cfC Cfg.zero none 0) 44)) w5.heap.size 44 (cfC Cfg.zero none 0)) := Blk.new _ _ _
            have HU6 := hide (HU5.out.step ((Below.refl w5.heap.size w5).alloc (Nat.le_refl _) (.cells (cfC Cfg.zero none 0) 44)))
            have HB6 := hide (HB5.out.trans (((Below.refl w5.heap.size w5).alloc (Nat.le_refl _) (.cells (cfC Cfg.zero none 0) 44)).mono hsw5))
            have HS6 := hide (own_step HS5.out ((Below.refl w5.heap.size w5).alloc (Nat.le_refl _) (.cells (cfC Cfg.zero none 0) 44)))
            have hg6 : w3.heap.size ≤ w5.heap.size := hsw5
            refine hK _ _ (fun _ => HS6.out) ?_
            clear hK K
            try simp only [Act.put, List.setIfInBounds_toArray, List.set_cons_zero, List.set_cons_succ]
            obtain ⟨W6, hW6⟩ : ∃ W6, W6 = w5.alloc (.cells (cfC Cfg.zero none 0) 44) := ⟨_, rfl⟩
            rw [← hW6] at HZ6 HU6 HB6 HS6
            show wpL _ _ _ _ _ _ _ _ _ (w5.alloc (.cells (cfC Cfg.zero none 0) 44))
            rw [← hW6]
            clear hW6
            have hW := only_setRow W6 (w5.heap.size) (cfC c Ac kc)
            have HS7 : Hid ((W6.setRow (w5.heap.size) (cfC c Ac kc)).ownsRow w2.heap.size 9 1 (.slice (some ⟨gl, 0, none⟩) ps.length cp) ps.length (ltx ps)) := own_apart HS6.out hW (fun k hk hq => by subst hq; exact ⟨_, _, HZ6.out, by decide⟩)
            have HU7 := hide (HU6.out.far HZ6.out (by decide) hW)
            have HB7 := hide (HB6.out.trans (hW.below HB6.out.size (fun k hk e => by omega)))
            have HZ7 := hide (HZ6.out.row (cfC c Ac kc))
            clear hW
            refine wpL_one 11 (by kernel_rfl) rfl (fun K hK => ?_)
            refine one_skip (by rfl) (run_put_at 44 (.tmp 9) (.tmp 60) rfl (w5.heap.size) 0 (cfC c Ac kc) rfl rfl 44 (cfC Cfg.zero none 0) HZ6.out (ld44 _ rfl) (Nat.le_refl 8) (cf_all _ _ _) _ (cput _ _ rfl rfl)) (hK _ _ (fun _ => HS7.out) ?_)
            clear hK K
            try simp only [Act.put, List.setIfInBounds_toArray, List.set_cons_zero, List.set_cons_succ]
            refine wpL_take 12 (oi := ⟨some 10, _, _, _, _, _⟩) (v := .bool ok) rfl (by kernel_rfl) (by kernel_rfl) (by kernel_rfl) (by kernel_rfl) (fun _ _ _ h => h) (Or.inl ⟨by rfl, ?_⟩) HS7.out ?_
            · intro V hV
              go_simp
            try simp only [Act.put, List.setIfInBounds_toArray, List.set_cons_zero, List.set_cons_succ]
            refine wpL_done (by kernel_rfl) ?_ _
            go_wp2_with fail
            go_meet
            exact ⟨_, c, Ac, kc, ok, rfl, rfl, (by omega), HZ7.out, HU7.out, HB7.out, HY.out, HN.out⟩
          · rw [if_pos (by rfl)]
            go_simp
            have HZ5 : Hid (Blk (wd.alloc (.cells (cfC Cfg.zero none 0) 44)) wd.heap.size 44 (cfC Cfg.zero none 0)) := Blk.new _ _ _
            have HB5 := hide (HBD.out.trans (((Below.refl wd.heap.size wd).alloc (Nat.le_refl _) (.cells (cfC Cfg.zero none 0) 44)).mono hsd))
            have HS5 := hide (own_step HS0.out ((Below.refl wd.heap.size wd).alloc (Nat.le_refl _) (.cells (cfC Cfg.zero none 0) 44)))
            refine hK _ _ (fun _ => HS5.out) ?_
            clear hK K
            try simp only [Act.put, List.setIfInBounds_toArray, List.set_cons_zero, List.set_cons_succ]
            obtain ⟨W5, hW5⟩ : ∃ W5, W5 = wd.alloc (.cells (cfC Cfg.zero none 0) 44) := ⟨_, rfl⟩
            rw [← hW5] at HZ5 HB5 HS5
            show wpL _ _ _ _ _ _ _ _ _ (wd.alloc (.cells (cfC Cfg.zero none 0) 44))
            rw [← hW5]
            have hsw5 : w3.heap.size ≤ W5.heap.size := HB5.out.size
            clear hW5
            refine wpL_one 6 (by kernel_rfl) rfl (fun K hK => ?_)
            rw [if_pos (by rfl)]
            go_simp
            go_at_call 41
            refine (HCF.out _).mono ?_
            rintro e W6 ⟨c, Ac, kc, ok, rfl, hcu, hb5, hy, hn⟩
            have HS6 := hide (own_step HS5.out hb5)
            have HB6 := hide (HB5.out.trans (hb5.mono hsw5))
            have HU6 := hide (hcu.base hsw5)
            have HZ6 := hide (HZ5.out.below hb5 HZ5.out.lt)
            have HY := hide hy
            have HN := hide hn
            refine hK _ _ (fun _ => HS6.out) ?_
            clear hK K hcu hb5 hy hn
            try simp only [Act.put, List.setIfInBounds_toArray, List.set_cons_zero, List.set_cons_succ]
            refine wpL_take 7 (oi := ⟨some 52, _, _, _, _, _⟩) (v := ?_) rfl (by kernel_rfl) (by kernel_rfl) (by kernel_rfl) (by kernel_rfl) (fun _ _ _ h => h) (Or.inl ⟨by rfl, ?_⟩) HS6.out ?_
            rotate_left
            · intro V hV
              go_simp
              try with_reducible rfl
            try simp only [Act.put, List.setIfInBounds_toArray, List.set_cons_zero, List.set_cons_succ]
            refine wpL_take 8 (oi := ⟨some 60, _, _, _, _, _⟩) (v := .agg (cfC c Ac kc)) rfl (by kernel_rfl) (by kernel_rfl) (by kernel_rfl) (by kernel_rfl) (fun _ _ _ h => h) (Or.inl ⟨by rfl, ?_⟩) HS6.out ?_
            · intro V hV
              go_simp
            try simp only [Act.put, List.setIfInBounds_toArray, List.set_cons_zero, List.set_cons_succ]
            refine wpL_take 9 (oi := ⟨some 61, _, _, _, _, _⟩) (v := .bool ok) rfl (by kernel_rfl) (by kernel_rfl) (by kernel_rfl) (by kernel_rfl) (fun _ _ _ h => h) (Or.inl ⟨by rfl, ?_⟩) HS6.out ?_
            · intro V hV
              go_simp
            try simp only [Act.put, List.setIfInBounds_toArray, List.set_cons_zero, List.set_cons_succ]
            have hW := only_setRow W6 (wd.heap.size) (cfC c Ac kc)
            have HS7 : Hid ((W6.setRow (wd.heap.size) (cfC c Ac kc)).ownsRow w2.heap.size 9 1 (.slice (some ⟨gl, 0, none⟩) ps.length cp) ps.length (ltx ps)) := own_apart HS6.out hW (fun k hk hq => by subst hq; exact ⟨_, _, HZ6.out, by decide⟩)
            have HU7 := hide (HU6.out.far HZ6.out (by decide) hW)
            have HB7 := hide (HB6.out.trans (hW.below HB6.out.size (fun k hk e => by omega)))
            have HZ7 := hide (HZ6.out.row (cfC c Ac kc))
            clear hW
            refine wpL_one 11 (by kernel_rfl) rfl (fun K hK => ?_)
            refine one_skip (by rfl) (run_put_at 44 (.tmp 9) (.tmp 60) rfl (wd.heap.size) 0 (cfC c Ac kc) rfl rfl 44 (cfC Cfg.zero none 0) HZ6.out (ld44 _ rfl) (Nat.le_refl 8) (cf_all _ _ _) _ (cput _ _ rfl rfl)) (hK _ _ (fun _ => HS7.out) ?_)
            clear hK K
            try simp only [Act.put, List.setIfInBounds_toArray, List.set_cons_zero, List.set_cons_succ]
            refine wpL_take 12 (oi := ⟨some 10, _, _, _, _, _⟩) (v := .bool ok) rfl (by kernel_rfl) (by kernel_rfl) (by kernel_rfl) (by kernel_rfl) (fun _ _ _ h => h) (Or.inl ⟨by rfl, ?_⟩) HS7.out ?_
            · intro V hV
              go_simp
            try simp only [Act.put, List.setIfInBounds_toArray, List.set_cons_zero, List.set_cons_succ]
            refine wpL_done (by kernel_rfl) ?_ _
            go_wp2_with fail
            go_meet
            exact ⟨_, c, Ac, kc, ok, rfl, rfl, (by omega), HZ7.out, HU7.out, HB7.out, HY.out, HN.out⟩
        case rest =>
          unfold BoxC at hcut
          obtain ⟨g, c, Ac, kc, ok, rfl, rfl, hgw, hbx, hcu, hbc, hy, hn⟩ := hcut
          have HBX := hide hbx
          have HCU := hide hcu
          have HZC := hide (HZ3.out.below hbc HZ3.out.lt)
          have HBC := hide (HB3.out.trans (hbc.mono hsw3))
          have HOC := hide (own_step HO3.out hbc)
          have HY := hide hy
          have HN := hide hn
          have hswc : w.heap.size ≤ wc.heap.size := HBC.out.size
          clear hbx hcu hbc hy hn HZ3 HB3 HO3
          cases ok with
          | false =>
            have HR : Hid (T = (Sc.zero, 0, 21)) := by show _ = _; rw [HT2.out, HFC.out, HN.out rfl]; rfl
            go_wp2_with (refine wpList_put_at rfl 47 (.tmp 2) (.tmp 64) rfl (w.heap.size) 0 Sm.zero.cs rfl rfl 47 Z HZC.out (ld47 _ rfl) (by rw [sm_size, hZs]; omega) (sm_all _) _ (sput Z _ hZs rfl) ?_)
            refine bodyPost_ret (results_47 rfl _ rfl (HZC.out.row _) rfl rfl rfl) rfl ?_
            exact par_no (Nat.le_refl _) HZC.out HBC.out HR.out
          | true =>
            have HTC : Hid (T = if c.err = 0 then if 4000 < rest.length then (Sc.zero, 0, 25) else (⟨c, rest.map (lineE c.nodes)⟩, (idleN (rest.map (lineE c.nodes)) : Int), 0) else (Sc.zero, 0, c.err)) := by show _ = _; rw [HT2.out, HFC.out, HY.out rfl]; rfl
            have HCK : Hid (Calls Tryd.prog 42 #[.agg (cfC c Ac kc)] wc fun e w' => e = .returned (.int .i64 c.err) ∧ Below wc.heap.size wc w') := by
              refine (rcheck_any c.nodes c.window c.base c.step c.cap c.room c.floor c.votes Ac c.votes.length kc wc HCU.out.reads (by have := HCU.out.hv; omega)).mono ?_
              rintro e w' ⟨h1, rfl⟩
              exact ⟨h1, (Below.refl _ _).alloc (Nat.le_refl _) _⟩
            clear HY HN HT2 HFC HCF
            obtain ⟨er, her⟩ : ∃ er, er = c.err := ⟨_, rfl⟩
            rw [← her] at HCK HTC
            have h022 : er = 0 ∨ er = 22 := by
              rw [her]
              by_cases ho : c.Ok
              · exact .inl (Cfg.err_ok ho)
              · exact .inr (Cfg.err_bad ho)
            clear her
            go_upto_region 16 with fail
            refine wp_region_lit ?_
            refine wpList_value rfl (.agg (cfC c Ac kc)) (ex_load 44 (.tmp 9) rfl _ rfl _ _ Tryd.underlying44 rfl (ld44 _ rfl) (box_all HBX.out)) ?_
            try try simp only [Act.put, List.setIfInBounds_toArray, List.set_cons_zero, List.set_cons_succ]
            refine wpList_step (fun K hK => ?_)
            rw [if_pos (by rfl)]
            go_simp
            go_at_call 42
            refine HCK.out.mono ?_
            rintro e w4 ⟨rfl, hb4⟩
            have HBX4 := hide (HBX.out.below hb4 HBX.out.lt)
            have HCU4 := hide (HCU.out.step hb4)
            have HZ4 := hide (HZC.out.below hb4 HZC.out.lt)
            have HB4 := hide (HBC.out.trans (hb4.mono HBC.out.size))
            have HO4 := hide (own_step HOC.out hb4)
            refine hK _ _ ?_
            clear hK K hb4 HBX HCU HZC HBC HOC HCK
            try try simp only [Act.put, List.setIfInBounds_toArray, List.set_cons_zero, List.set_cons_succ]
            have hsw4 : w.heap.size ≤ w4.heap.size := HB4.out.size
            rcases h022 with he | he
            · subst he
              by_cases hmany : 4000 < rest.length
              · have HR : Hid (T = (Sc.zero, 0, 25)) := by show _ = _; rw [HTC.out, if_pos rfl, if_pos hmany]
                have n5 : (4000 : Int) < (ps.length : Int) - 3 := by have := HRL.out; omega
                have n6 : (3 : Int) ≤ (ps.length : Int) := by omega
                clear hmany
                go_wp2_with (refine wpList_put_at rfl 47 (.tmp 2) (.tmp 73) rfl (w.heap.size) 0 Sm.zero.cs rfl rfl 47 Z HZ4.out (ld47 _ rfl) (by rw [sm_size, hZs]; omega) (sm_all _) _ (sput Z _ hZs rfl) ?_)
                refine bodyPost_ret (results_47 rfl _ rfl (HZ4.out.row _) rfl rfl rfl) rfl ?_
                exact par_no (Nat.le_refl _) HZ4.out HB4.out HR.out
              have n5 : ¬ (4000 : Int) < (ps.length : Int) - 3 := by have := HRL.out; omega
              have n6 : (3 : Int) ≤ (ps.length : Int) := by omega
              have HTE : Hid (T = (⟨c, rest.map (lineE c.nodes)⟩, (idleN (rest.map (lineE c.nodes)) : Int), 0)) := by show _ = _; rw [HTC.out, if_pos rfl, if_neg hmany]
              have hrm : ps.length ≤ 4003 := by have := HRL.out; omega
              clear hmany HTC
              go_upto_region 20 with fail
              refine wp_region_lit ?_
              refine wpList_value rfl (.agg (cfC c Ac kc)) (ex_load 44 (.tmp 9) rfl _ rfl _ _ Tryd.underlying44 rfl (ld44 _ rfl) (box_all HBX4.out)) ?_
              try try simp only [Act.put, List.setIfInBounds_toArray, List.set_cons_zero, List.set_cons_succ]
              refine wpList_value rfl (.agg (Sm.cs ⟨c, Ac, kc, none, 0, []⟩)) (ex_build47 (.tmp 74) rfl c Ac kc rfl) ?_
              try try simp only [Act.put, List.setIfInBounds_toArray, List.set_cons_zero, List.set_cons_succ]
              refine wpList_step (fun K hK => ?_)
              rw [if_pos (by rfl)]
              go_simp
              refine hK _ _ ?_
              clear hK K
              refine wpList_store_fresh rfl 47 (.tmp 11) (.tmp 75) rfl _ (Sm.cs ⟨c, Ac, kc, none, 0, []⟩) rfl rfl (ld47 _ rfl) rfl (sm_all _) ?_
              try try simp only [Act.put, List.setIfInBounds_toArray, List.set_cons_zero, List.set_cons_succ]
              obtain ⟨W5, hW5⟩ : ∃ W5, W5 = World.alloc w4 (.cells (Sm.cs ⟨c, Ac, kc, none, 0, []⟩) 47) := ⟨_, rfl⟩
              rw [← hW5]
              have HL5 : Hid (EvJ w4 w4.heap.size c Ac kc ps (.int .i64 0) (.int .i64 3) W5) := ⟨3, [], none, 0, Nat.le_refl _, by omega, rfl, rfl, by rw [hW5]; exact Blk.new _ _ _, World.ownsRow_nil _ _ _ _, (fun m hm => by cases hm), by rw [hW5]; exact (Below.refl _ _).alloc (Nat.le_refl _) _, by simp, rfl⟩
              clear hW5
              obtain ⟨sb, hsb⟩ : ∃ sb, sb = w4.heap.size := ⟨_, rfl⟩
              have HSB := hide hsb
              rw [← hsb] at HL5 ⊢
              have hgs : g < sb := by rw [hsb]; exact HBX4.out.lt
              clear hsb
              go_upto_region 23 with fail
              go_loopw [12, 13] (fun n i wr => EvJ w4 sb c Ac kc ps n i wr) (fun _ i _ => ps.length - (intOf i).toNat)
              case atStart => exact HL5.out
              case round =>
                clear HL5
                unfold EvJ at hrel
                obtain ⟨j, ms, Ae, ke, hj1, hj2, rfl, rfl, hbx, hrow, hent, hbr, hms, hml⟩ := hrel
                have HBXS := hide hbx
                have HROW := hide hrow
                have HENT := hide hent
                have HBR := hide hbr
                have HMS := hide hms
                clear hbx hrow hent hbr hms
                have HZR := hide (HZ4.out.below HBR.out HZ4.out.lt)
                have HBXR := hide (HBX4.out.below HBR.out HBX4.out.lt)
                have HBW := hide (HB4.out.trans (HBR.out.mono HB4.out.size))
                have HOR := hide (own_step HO4.out HBR.out)
                have HCUR := hide (HCU4.out.step HBR.out)
                have hswr : w4.heap.size ≤ wr.heap.size := HBR.out.size
                have hsb : w4.heap.size ≤ sb := by rw [HSB.out]; exact Nat.le_refl _
                have j0 : (0 : Int) ≤ (j : Int) := by omega
                obtain ⟨id, hid⟩ : ∃ id, id = idleN (ms.map Em.ev) := ⟨_, rfl⟩
                rw [← hid]
                have hidb : id ≤ ms.length := by rw [hid]; have := idle_le (ms.map Em.ev); rw [List.length_map] at this; exact this
                have HID := hide hid
                have HML := hide hml
                have hmlb : ms.length ≤ 4000 := by omega
                clear hid hml
                by_cases hlt : j < ps.length
                · have js : (j : Int) < (ps.length : Int) := by omega
                  obtain ⟨x, hx⟩ : ∃ x, ps[j]? = some x := ⟨_, List.getElem?_eq_getElem hlt⟩
                  have hxz : x.length ≤ 30000000 := by have := HKZ.out x (List.mem_of_getElem? hx); omega
                  have HPX2 := hide (fun V => HPE.out x c.nodes V hxz)
                  have HG : Hid (∀ V : World, V.ownsRow w2.heap.size 9 1 (.slice (some ⟨gl, 0, none⟩) ps.length cp) ps.length (ltx ps) → V.cell? ⟨gl, j, none⟩ = some (.string (S x))) := fun V hV => own_txt hV hx
                  have HTK : Hid ((((ps.drop 3).take (j + 1 - 3)).map (lineE c.nodes)) = ms.map Em.ev ++ [lineE c.nodes x]) := by
                    show _ = _
                    have e : j + 1 - 3 = (j - 3) + 1 := by omega
                    rw [e, List.take_add_one, List.map_append, HMS.out, List.getElem?_drop, show 3 + (j - 3) = j by omega, hx]
                    rfl
                  obtain ⟨FE, hFE⟩ : ∃ FE, FE = lineE c.nodes x := ⟨_, rfl⟩
                  rw [← hFE] at HTK
                  have HPX3 : Hid (∀ V, Calls Tryd.prog 11 #[.string (S x), .int .i64 c.nodes] V fun e w' => EvP FE V.heap.size V e w') := fun V => by rw [hFE]; exact HPX2.out V
                  clear hx hFE HPX2
                  go_upto_region 25 with fail
                  go_cut [14] (fun p wx => BoxE FE wr p wx)
                  case first =>
                    have HS0 : Hid (wr.drew.ownsRow w2.heap.size 9 1 (.slice (some ⟨gl, 0, none⟩) ps.length cp) ps.length (ltx ps) ∧ Blk wr.drew g 44 (cfC c Ac kc)) := ⟨HOR.out, HBXR.out⟩
                    refine wp_region_L [] (fun V : World => V.ownsRow w2.heap.size 9 1 (.slice (some ⟨gl, 0, none⟩) ps.length cp) ps.length (ltx ps) ∧ Blk V g 44 (cfC c Ac kc)) (by kernel_rfl) ?_
                    obtain ⟨wd, hwd⟩ : ∃ wd, wd = wr.drew := ⟨_, rfl⟩
                    rw [← hwd]
                    rw [← hwd] at HS0
                    have HBD : Hid (Below wr.heap.size wr wd) := by show Below _ _ _; rw [hwd]; exact (Below.refl _ _).drew
                    have hsd : wr.heap.size ≤ wd.heap.size := HBD.out.size
                    clear hwd
                    refine wpL_take 0 (oi := ⟨some 82, _, _, _, _, _⟩) (v := ?_) rfl (by kernel_rfl) (by kernel_rfl) (by kernel_rfl) (by kernel_rfl) (fun _ _ _ h => h) (Or.inl ⟨by rfl, ?_⟩) HS0.out ?_
                    rotate_left
                    · intro V hV
                      go_simp
                      try with_reducible rfl
                    try simp only [Act.put, List.setIfInBounds_toArray, List.set_cons_zero, List.set_cons_succ]
                    refine wpL_take 1 (oi := ⟨some 83, _, _, _, _, _⟩) (v := ?_) rfl (by kernel_rfl) (by kernel_rfl) (by kernel_rfl) (by kernel_rfl) (fun _ _ _ h => h) (Or.inl ⟨by rfl, ?_⟩) HS0.out ?_
                    rotate_left
                    · intro V hV
                      go_simp
                      try with_reducible rfl
                    try simp only [Act.put, List.setIfInBounds_toArray, List.set_cons_zero, List.set_cons_succ]
                    refine wpL_take 2 (oi := ⟨some 84, _, _, _, _, _⟩) (v := ?_) rfl (by kernel_rfl) (by kernel_rfl) (by kernel_rfl) (by kernel_rfl) (fun _ _ _ h => h) (Or.inl ⟨by rfl, ?_⟩) HS0.out ?_
                    rotate_left
                    · intro V hV
                      go_simp
                      try with_reducible rfl
                    try simp only [Act.put, List.setIfInBounds_toArray, List.set_cons_zero, List.set_cons_succ]
                    refine wpL_take 3 (oi := ⟨some 85, _, _, _, _, _⟩) (v := ?_) rfl (by kernel_rfl) (by kernel_rfl) (by kernel_rfl) (by kernel_rfl) (fun _ _ _ h => h) (Or.inl ⟨by rfl, ?_⟩) HS0.out ?_
                    rotate_left
                    · intro V hV
                      have a1 := HG.out V hV.1
                      go_simp
                      try with_reducible rfl
                    try simp only [Act.put, List.setIfInBounds_toArray, List.set_cons_zero, List.set_cons_succ]
                    refine wpL_take 4 (oi := ⟨some 86, _, _, _, _, _⟩) (v := ?_) rfl (by kernel_rfl) (by kernel_rfl) (by kernel_rfl) (by kernel_rfl) (fun _ _ _ h => h) (Or.inl ⟨by rfl, ?_⟩) HS0.out ?_
                    rotate_left
                    · intro V hV
                      go_simp
                      try with_reducible rfl
                    try simp only [Act.put, List.setIfInBounds_toArray, List.set_cons_zero, List.set_cons_succ]
                    refine wpL_take 5 (oi := ⟨some 87, _, _, _, _, _⟩) (v := ?_) rfl (by kernel_rfl) (by kernel_rfl) (by kernel_rfl) (by kernel_rfl) (fun _ _ _ h => h) (Or.inl ⟨by rfl, ?_⟩) HS0.out ?_
                    rotate_left
                    · intro V hV
                      have a2 : V.cell? ⟨g, 0, none⟩ = some (.int .i64 c.nodes) := hV.2.cell 0
                      go_simp
                      try with_reducible rfl
                    try simp only [Act.put, List.setIfInBounds_toArray, List.set_cons_zero, List.set_cons_succ]
                    refine wpL_two 6 7 (by kernel_rfl) rfl rfl (fun K hK => ?_) (fun K hK => ?_)
                    · rw [if_pos (by rfl)]
                      go_simp
                      go_at_call 11
                      refine (HPX3.out _).mono ?_
                      rintro e w5 ⟨m, rfl, hev, hu, hb5⟩
                      have HS5 := hide (And.intro (own_step HS0.out.1 hb5) (HS0.out.2.below hb5 HS0.out.2.lt))
                      have HB5 := hide (HBD.out.trans (hb5.mono hsd))
                      have HU5 := hide (hu.base hsd)
                      have HEV := hide hev
                      have hsw5 : wr.heap.size ≤ w5.heap.size := HB5.out.size
                      refine hK _ _ (fun _ => HS5.out) ?_
                      clear hK K hu hb5 hev
                      try simp only [Act.put, List.setIfInBounds_toArray, List.set_cons_zero, List.set_cons_succ]
                      refine wpL_one 7 (by kernel_rfl) rfl (fun K hK => ?_)
                      rw [if_pos (by rfl)]
                      go_simp
                      have hal := ((Below.refl w5.heap.size w5).alloc (Nat.le_refl _) (.cells Em.zero.cs 29))
                      have HZ6 : Hid (Blk (w5.alloc (.cells Em.zero.cs 29)) w5.heap.size 29 Em.zero.cs) := Blk.new _ _ _
                      have HU6 := hide (HU5.out.step hal)
                      have HB6 := hide (HB5.out.trans (hal.mono hsw5))
                      have HS6 := hide (And.intro (own_step HS5.out.1 hal) (HS5.out.2.below hal HS5.out.2.lt))
                      refine hK _ _ (fun _ => HS6.out) ?_
                      clear hK K hal
                      try simp only [Act.put, List.setIfInBounds_toArray, List.set_cons_zero, List.set_cons_succ]
                      obtain ⟨W6, hW6⟩ : ∃ W6, W6 = w5.alloc (.cells Em.zero.cs 29) := ⟨_, rfl⟩
                      rw [← hW6] at HZ6 HU6 HB6 HS6
                      show wpL _ _ _ _ _ _ _ _ _ (w5.alloc (.cells Em.zero.cs 29))
                      rw [← hW6]
                      clear hW6
                      have hW := only_setRow W6 (w5.heap.size) m.cs
                      have hne : g ≠ w5.heap.size := by have := HBXR.out.lt; omega
                      have HS7 : Hid ((W6.setRow (w5.heap.size) m.cs).ownsRow w2.heap.size 9 1 (.slice (some ⟨gl, 0, none⟩) ps.length cp) ps.length (ltx ps) ∧ Blk (W6.setRow (w5.heap.size) m.cs) g 44 (cfC c Ac kc)) := ⟨own_apart HS6.out.1 hW (fun k hk hq => by subst hq; exact ⟨_, _, HZ6.out, by decide⟩), HS6.out.2.only hW hne⟩
                      have HU7 := hide (HU6.out.far HZ6.out (by decide) (by decide) hW)
                      have HB7 := hide (HB6.out.trans (hW.below HB6.out.size (fun k hk e => by omega)))
                      have HZ7 := hide (HZ6.out.row m.cs)
                      clear hW hne
                      refine wpL_one 8 (by kernel_rfl) rfl (fun K hK => ?_)
                      refine one_skip (by rfl) (run_put_at 29 (.tmp 14) (.tmp 88) rfl (w5.heap.size) 0 m.cs rfl rfl 29 Em.zero.cs HZ6.out (ld29 _ (em_size _)) (Nat.le_refl 13) (ecs_all m) _ (eput_zero _ rfl m)) (hK _ _ (fun _ => HS7.out) ?_)
                      clear hK K
                      try simp only [Act.put, List.setIfInBounds_toArray, List.set_cons_zero, List.set_cons_succ]
                      refine wpL_done (by kernel_rfl) ?_ _
                      go_wp2_with fail
                      go_meet
                      exact ⟨_, m, rfl, (by omega), HZ7.out, HU7.out, HB7.out, HEV.out⟩
                    · rw [if_pos (by rfl)]
                      go_simp
                      have hal := ((Below.refl wd.heap.size wd).alloc (Nat.le_refl _) (.cells Em.zero.cs 29))
                      have HZ5 : Hid (Blk (wd.alloc (.cells Em.zero.cs 29)) wd.heap.size 29 Em.zero.cs) := Blk.new _ _ _
                      have HB5 := hide (HBD.out.trans (hal.mono hsd))
                      have HS5 := hide (And.intro (own_step HS0.out.1 hal) (HS0.out.2.below hal HS0.out.2.lt))
                      refine hK _ _ (fun _ => HS5.out) ?_
                      clear hK K hal
                      try simp only [Act.put, List.setIfInBounds_toArray, List.set_cons_zero, List.set_cons_succ]
                      obtain ⟨W5, hW5⟩ : ∃ W5, W5 = wd.alloc (.cells Em.zero.cs 29) := ⟨_, rfl⟩
                      rw [← hW5] at HZ5 HB5 HS5
                      show wpL _ _ _ _ _ _ _ _ _ (wd.alloc (.cells Em.zero.cs 29))
                      rw [← hW5]
                      have hsw5 : wr.heap.size ≤ W5.heap.size := HB5.out.size
                      clear hW5
                      refine wpL_one 6 (by kernel_rfl) rfl (fun K hK => ?_)
                      rw [if_pos (by rfl)]
                      go_simp
                      go_at_call 11
                      refine (HPX3.out _).mono ?_
                      rintro e W6 ⟨m, rfl, hev, hu, hb5⟩
                      have HS6 := hide (And.intro (own_step HS5.out.1 hb5) (HS5.out.2.below hb5 HS5.out.2.lt))
                      have HB6 := hide (HB5.out.trans (hb5.mono hsw5))
                      have HU6 := hide (hu.base hsw5)
                      have HZ6 := hide (HZ5.out.below hb5 HZ5.out.lt)
                      have HEV := hide hev
                      refine hK _ _ (fun _ => HS6.out) ?_
                      clear hK K hu hb5 hev
                      try simp only [Act.put, List.setIfInBounds_toArray, List.set_cons_zero, List.set_cons_succ]
                      have hW := only_setRow W6 (wd.heap.size) m.cs
                      have hne : g ≠ wd.heap.size := by have := HBXR.out.lt; omega
                      have HS7 : Hid ((W6.setRow (wd.heap.size) m.cs).ownsRow w2.heap.size 9 1 (.slice (some ⟨gl, 0, none⟩) ps.length cp) ps.length (ltx ps) ∧ Blk (W6.setRow (wd.heap.size) m.cs) g 44 (cfC c Ac kc)) := ⟨own_apart HS6.out.1 hW (fun k hk hq => by subst hq; exact ⟨_, _, HZ6.out, by decide⟩), HS6.out.2.only hW hne⟩
                      have HU7 := hide (HU6.out.far HZ6.out (by decide) (by decide) hW)
                      have HB7 := hide (HB6.out.trans (hW.below HB6.out.size (fun k hk e => by omega)))
                      have HZ7 := hide (HZ6.out.row m.cs)
                      clear hW hne
                      refine wpL_one 8 (by kernel_rfl) rfl (fun K hK => ?_)
                      refine one_skip (by rfl) (run_put_at 29 (.tmp 14) (.tmp 88) rfl (wd.heap.size) 0 m.cs rfl rfl 29 Em.zero.cs HZ6.out (ld29 _ (em_size _)) (Nat.le_refl 13) (ecs_all m) _ (eput_zero _ rfl m)) (hK _ _ (fun _ => HS7.out) ?_)
                      clear hK K
                      try simp only [Act.put, List.setIfInBounds_toArray, List.set_cons_zero, List.set_cons_succ]
                      refine wpL_done (by kernel_rfl) ?_ _
                      go_wp2_with fail
                      go_meet
                      exact ⟨_, m, rfl, (by omega), HZ7.out, HU7.out, HB7.out, HEV.out⟩
                  case rest =>
                    unfold BoxE at hcut
                    obtain ⟨ge, m, rfl, hge, hbe, hue, hbc, hev⟩ := hcut
                    have HBE := hide hbe
                    have HUE := hide (hue.base hswr)
                    have HBXS2 := hide (HBXS.out.below hbc HBXS.out.lt)
                    have HROW2 := hide (own_step HROW.out hbc)
                    have HENT2 : Hid (∀ m ∈ ms, EmU wc w4.heap.size m) := fun m hm => (HENT.out m hm).step hbc
                    have HB2' := hide (HBR.out.trans (hbc.mono hswr))
                    have hswc2 : w4.heap.size ≤ wc.heap.size := HB2'.out.size
                    clear hbe hue hbc HBXS HROW HENT HBR HZR HBXR HBW HOR HCUR
                    have HLX : Hid (∀ (idv : Int) (g4 c4 : Nat) (W4 : World), idv = (idleN ((ms ++ [m]).map Em.ev) : Int) → W4.ownsRow w4.heap.size 29 13 (.slice (some ⟨g4, 0, none⟩) (ms.length + 1) c4) (ms.length + 1) (emCells ms ++ m.cs.toList) → (wc.alloc (.cells m.cs 29)).grownBy W4 (Value.slice Ae ms.length ke).ownBlock → Below w4.heap.size wc W4 → Blk W4 sb 47 (Sm.cs ⟨c, Ac, kc, Ae, ke, ms⟩) ∧ EvJ w4 sb c Ac kc ps (.int .i64 idv) (.int .i64 ((j : Int) + 1)) (W4.setCell ⟨sb, 8, none⟩ (.slice (some ⟨g4, 0, none⟩) (ms.length + 1) c4))) := by
                      intro idv g4 c4 W4 hidv hown4 hgr4 hb4
                      have hrowA := own_step HROW2.out ((Below.refl wc.heap.size wc).alloc (Nat.le_refl _) (.cells m.cs 29))
                      have hbx4 : Blk W4 sb 47 (Sm.cs ⟨c, Ac, kc, Ae, ke, ms⟩) := (HBXS2.out.alloc _).grown hgr4 (own_ne hrowA (HBXS2.out.alloc _) (by decide))
                      have hW := only_setCell0 W4 sb 8 (.slice (some ⟨g4, 0, none⟩) (ms.length + 1) c4)
                      have hn1 : (ms ++ [m]).length = ms.length + 1 := by simp
                      refine ⟨hbx4, j + 1, ms ++ [m], some ⟨g4, 0, none⟩, c4, by omega, by omega, by go_num, by rw [hidv], ?_, ?_, ?_, ?_, ?_, ?_⟩
                      · have := hbx4.set_ 8 (.slice (some ⟨g4, 0, none⟩) (ms.length + 1) c4)
                        rw [← hn1] at this ⊢
                        exact this
                      · rw [emCells_snoc, hn1]
                        refine own_apart hown4 hW ?_
                        intro k hk hq
                        subst hq
                        exact ⟨_, _, hbx4, by decide⟩
                      · intro x hx
                        rcases List.mem_append.1 hx with hx | hx
                        · exact (((HENT2.out x hx).step ((Below.refl _ _).alloc (Nat.le_refl _) _)).push hrowA (by decide) (by decide) hgr4).far hbx4 (by decide) (by decide) hW
                        · obtain rfl : x = m := by simpa using hx
                          exact ((HUE.out.step ((Below.refl _ _).alloc (Nat.le_refl _) _)).push hrowA (by decide) (by decide) hgr4).far hbx4 (by decide) (by decide) hW
                      · have hbb := HB2'.out.trans hb4
                        exact hbb.trans (hW.below hbb.size (fun k hk e => by omega))
                      · rw [HTK.out, List.map_append, ← hev]
                        rfl
                      · rw [hn1]
                        have := HML.out
                        omega
                    have HEV := hide hev
                    have ke0 := eb0 HBE.out
                    clear hev
                    by_cases hk0 : m.kd = 0
                    · have e3 : (m.kd == 0) = true := by rw [hk0]; rfl
                      have HIX : Hid ((id : Int) + 1 = (idleN ((ms ++ [m]).map Em.ev) : Int)) := by
                        show _ = _
                        rw [List.map_append, show [m].map Em.ev = [m.ev] from rfl, idle_snoc, if_pos (show m.ev.kd = 0 from hk0), ← HID.out]
                        rfl
                      have hiw : IntKind.i64.wrap ((id : Int) + 1) = (id : Int) + 1 := i64_wrap _ (by omega) (by omega)
                      rw [hk0] at ke0
                      clear e3 hk0
                      go_upto_region 28 with fail
                      refine wp_region_lit ?_
                      have kf : wc.cell? ⟨sb, 8, none⟩ = some (.slice Ae ms.length ke) := HBXS2.out.cell 8
                      refine wpList_value rfl (.pointer (some ⟨sb, 8, none⟩)) (by go_simp) ?_
                      try try simp only [Act.put, List.setIfInBounds_toArray, List.set_cons_zero, List.set_cons_succ]
                      refine wpList_value rfl (.slice Ae ms.length ke) (by go_simp) ?_
                      try try simp only [Act.put, List.setIfInBounds_toArray, List.set_cons_zero, List.set_cons_succ]
                      clear kf
                      refine wpList_value rfl (.agg m.cs) (ex_load 29 (.tmp 14) rfl _ rfl m.cs _ Tryd.underlying29 rfl (ld29 _ (em_size _)) (ebox_all HBE.out)) ?_
                      try try simp only [Act.put, List.setIfInBounds_toArray, List.set_cons_zero, List.set_cons_succ]
                      refine wpList_one29 rfl (.tmp 96) rfl m rfl ?_
                      try try simp only [Act.put, List.setIfInBounds_toArray, List.set_cons_zero, List.set_cons_succ]
                      refine wpList_push (W := wc) (cs := m.cs) rfl (.tmp 95) (.tmp 97) 45 rfl w4.heap.size 29 i29 _ 13 160 Tryd.underlying45 I29.out Z29.out hs29 hb29 rfl (by omega) (.slice Ae ms.length ke) ms.length (emCells ms) rfl HROW2.out 1 1 rfl rfl (ecs_one m) (by omega) (by unfold maxLen; omega) (by omega) hswc2 ?_
                      intro g4 c4 W4 hown4 hgr4 hb4 _ _ _
                      have HB8 := hide (HLX.out _ g4 c4 W4 HIX.out hown4 hgr4 hb4).1
                      have HL4 := hide (HLX.out _ g4 c4 W4 HIX.out hown4 hgr4 hb4).2
                      clear hown4 hgr4 hb4
                      have c9 := HB8.out.cell 8
                      have f9 := Blk.frozen HB8.out 8
                      try try simp only [Act.put, List.setIfInBounds_toArray, List.set_cons_zero, List.set_cons_succ]
                      go_wp2_with fail
                      go_roundw
                      case rel => first | exact HL4.out | exact ⟨_, HL4.out, rfl⟩ | exact ⟨_, _, HL4.out, rfl, rfl⟩ | exact ⟨_, _, _, HL4.out, rfl, rfl, rfl⟩
                      case measure => simp [intOf]; omega
                    · have e3 : (m.kd == 0) = false := by rw [beq_eq_false_iff_ne]; exact hk0
                      have HIX : Hid ((id : Int) = (idleN ((ms ++ [m]).map Em.ev) : Int)) := by
                        show _ = _
                        rw [List.map_append, show [m].map Em.ev = [m.ev] from rfl, idle_snoc, if_neg (show ¬ m.ev.kd = 0 from hk0), ← HID.out]
                        rfl
                      go_upto_region 28 with fail
                      refine wp_region_lit ?_
                      have kf : wc.cell? ⟨sb, 8, none⟩ = some (.slice Ae ms.length ke) := HBXS2.out.cell 8
                      refine wpList_value rfl (.pointer (some ⟨sb, 8, none⟩)) (by go_simp) ?_
                      try try simp only [Act.put, List.setIfInBounds_toArray, List.set_cons_zero, List.set_cons_succ]
                      refine wpList_value rfl (.slice Ae ms.length ke) (by go_simp) ?_
                      try try simp only [Act.put, List.setIfInBounds_toArray, List.set_cons_zero, List.set_cons_succ]
                      clear kf
                      refine wpList_value rfl (.agg m.cs) (ex_load 29 (.tmp 14) rfl _ rfl m.cs _ Tryd.underlying29 rfl (ld29 _ (em_size _)) (ebox_all HBE.out)) ?_
                      try try simp only [Act.put, List.setIfInBounds_toArray, List.set_cons_zero, List.set_cons_succ]
                      refine wpList_one29 rfl (.tmp 96) rfl m rfl ?_
                      try try simp only [Act.put, List.setIfInBounds_toArray, List.set_cons_zero, List.set_cons_succ]
                      refine wpList_push (W := wc) (cs := m.cs) rfl (.tmp 95) (.tmp 97) 45 rfl w4.heap.size 29 i29 _ 13 160 Tryd.underlying45 I29.out Z29.out hs29 hb29 rfl (by omega) (.slice Ae ms.length ke) ms.length (emCells ms) rfl HROW2.out 1 1 rfl rfl (ecs_one m) (by omega) (by unfold maxLen; omega) (by omega) hswc2 ?_
                      intro g4 c4 W4 hown4 hgr4 hb4 _ _ _
                      have HB8 := hide (HLX.out _ g4 c4 W4 HIX.out hown4 hgr4 hb4).1
                      have HL4 := hide (HLX.out _ g4 c4 W4 HIX.out hown4 hgr4 hb4).2
                      clear hown4 hgr4 hb4
                      have c9 := HB8.out.cell 8
                      have f9 := Blk.frozen HB8.out 8
                      try try simp only [Act.put, List.setIfInBounds_toArray, List.set_cons_zero, List.set_cons_succ]
                      go_wp2_with fail
                      go_roundw
                      case rel => first | exact HL4.out | exact ⟨_, HL4.out, rfl⟩ | exact ⟨_, _, HL4.out, rfl, rfl⟩ | exact ⟨_, _, _, HL4.out, rfl, rfl, rfl⟩
                      case measure => simp [intOf]; omega
                · have js : ¬ (j : Int) < (ps.length : Int) := by omega
                  have hjl : j = ps.length := by omega
                  have HTF : Hid (T = (Sm.sc ⟨c, Ac, kc, Ae, ke, ms⟩, (id : Int), 0)) := by
                    show _ = _
                    have h1 : ms.map Em.ev = rest.map (lineE c.nodes) := by
                      rw [HMS.out, hjl, List.take_of_length_le (by rw [List.length_drop]; exact Nat.le_refl _), HPX.out]
                      rfl
                    rw [HTE.out, HID.out, h1]
                    unfold Sm.sc
                    rw [h1]
                  clear hlt
                  go_upto_region 29 with fail
                  refine wp_region_lit ?_
                  refine wpList_value rfl (.agg (Sm.cs ⟨c, Ac, kc, Ae, ke, ms⟩)) (ex_load 47 (.tmp 11) rfl _ rfl _ _ Tryd.underlying47 rfl (ld47 _ rfl) (box_all HBXS.out)) ?_
                  simp only [Act.put, List.setIfInBounds_toArray, List.set_cons_zero, List.set_cons_succ]
                  go_wp2_with (refine wpList_put_at rfl 47 (.tmp 2) (.tmp 100) rfl (w.heap.size) 0 (Sm.cs ⟨c, Ac, kc, Ae, ke, ms⟩) rfl rfl 47 Z HZR.out (ld47 _ rfl) (by rw [sm_size, hZs]; omega) (sm_all _) _ (sput Z _ hZs rfl) ?_)
                  refine bodyPost_ret (results_47 rfl _ rfl (HZR.out.row _) rfl rfl rfl) rfl ?_
                  refine par_out (Nat.le_refl _) HZR.out HBW.out ⟨HCUR.out.base (by omega), own_base HROW.out (by omega), fun m hm => (HENT.out m hm).base (by omega), by have := HML.out; show ms.length ≤ 4000; omega⟩ HTF.out
            · have HR : Hid (T = (Sc.zero, 0, 22)) := by show _ = _; rw [HTC.out, he]; rfl
              subst he
              go_wp2_with (refine wpList_put_at rfl 47 (.tmp 2) (.tmp 68) rfl (w.heap.size) 0 Sm.zero.cs rfl rfl 47 Z HZ4.out (ld47 _ rfl) (by rw [sm_size, hZs]; omega) (sm_all _) _ (sput Z _ hZs rfl) ?_)
              refine bodyPost_ret (results_47 rfl _ rfl (HZ4.out.row _) rfl rfl rfl) rfl ?_
              exact par_no (Nat.le_refl _) HZ4.out HB4.out HR.out

end Go.Proofs.YtcibcmfaebbhnaaDoor
