/-
  The law's marksOf: the copy is the call's own. (Printed out of Mof by wip/tools/mkmoo.py.)
-/
import Derived.Test.YtenebkkfjalcaaaDoorZGd
set_option linter.unusedVariables false
set_option linter.unusedSimpArgs false
namespace Go.Proofs.YtenebkkfjalcaaaDoor
open Go.RowKit Go.WideShapes Go.ChangeShapes Q

/-- What comes out. -/
def CPostO (l : List Mk) (n : Nat) (w : World) (e : Ending) (w' : World) : Prop := ∃ A' c' l', e = .returned (.slice A' n c') ∧ SameC l l' ∧ MsIn w' w'.heap.size A' n l' ∧ Below w.heap.size w w' ∧ w'.ownsRow w.heap.size 48 26 (.slice A' n c') n (mkCells l') ∧ ∀ m ∈ l', MkT w' w.heap.size m

set_option maxRecDepth 100000 in
set_option maxHeartbeats 8000000 in
theorem marksOf_own (A : Option Addr) (n c : Nat) (l : List Mk) (w : World) (h : MsIn w w.heap.size A n l) (hn : n ≤ 1048576) :
    Calls Tryd.prog 7 #[.slice A n c] w fun e w' => CPostO l n w e w' := by
  have H := hide h
  have hll := hide h.len
  obtain ⟨i3, hi3, hz3, hs3, hb3⟩ := info_parts info3
  obtain ⟨i5, hi5, hz5, hs5, hb5⟩ := info_parts info5
  obtain ⟨i69, hi69, hz69, hs69, hb69⟩ := info_parts info69
  obtain ⟨i48, hi48, hz48, hs48, hb48⟩ := info_parts info48
  have I3 := hide hi3
  have I5 := hide hi5
  have I69 := hide hi69
  have I48 := hide hi48
  have Z3 := hide hz3
  have Z5 := hide hz5
  have Z69 := hide hz69
  have Z48 := hide hz48
  have HL1 : Hid (CLoop l n w (.slice none 0 0) (.int .i64 0) w) := ⟨0, [], Nat.zero_le _, rfl, ⟨rfl, fun k m m' h1 h2 => by simp at h2⟩, World.ownsRow_nil _ _ _ _, fun m hm => by simp at hm, Below.refl _ _⟩
  clear hi3 hi5 hi69 hi48 hz3 hz5 hz69 hz48 h
  go_enter Tryd.func7, Tryd.ntmps7
  go_upto_region 3 with fail
  go_loopw [3, 4, 5] (fun v i _ wr => CLoop l n w v i wr) (fun _ i _ _ => n - (intOf i).toNat)
  case atStart => exact HL1.out
  case round =>
    clear HL1
    unfold CLoop at hrel
    obtain ⟨j, l', hj, rfl, hsame, hown, hent, hb⟩ := hrel
    have HSA := hide hsame
    have HO := hide hown
    have HE := hide hent
    have HBB := hide hb
    obtain ⟨Av, cv, rfl⟩ := own_slice' hown
    clear hsame hown hent hb
    have hsw : w.heap.size ≤ wr.heap.size := HBB.out.size
    by_cases hlt : j < n
    · obtain ⟨b, off, m, rfl, hbB, hm, hin, qc⟩ := (H.out.below HBB.out).at_ hlt
      have HQ := hide (cells_add qc)
      have HMJ := hide hm
      have HIN := hide hin
      have hbW : b < wr.heap.size := by omega
      clear hm hin qc
      have k0 : (0 : Int) ≤ (j : Int) := by omega
      have kn : (j : Int) < (n : Int) := by omega
      go_upto_region 5 with fail
      refine wp_region_lit ?_
      refine wpList_value rfl (.slice (some ⟨b, off, none⟩) n c) (by go_simp) ?_
      refine wpList_value rfl (.int .i64 (j : Int)) (by go_simp) ?_
      refine wpList_value rfl (.pointer (some ⟨b, off + j * 26, none⟩)) (by simp only [Act.put, List.setIfInBounds_toArray, List.set_cons_zero, List.set_cons_succ]; go_simp) ?_
      refine wpList_value rfl (.agg m.cs) (ex_load 48 (.tmp 14) rfl ⟨b, off + j * 26, none⟩ rfl m.cs _ Tryd.underlying48 rfl (ld48 _ (mk_size _)) HQ.out) ?_
      simp only [Act.put, List.setIfInBounds_toArray, List.set_cons_zero, List.set_cons_succ]
      refine wpList_step (fun K hK => ?_)
      rw [if_pos (by rfl)]
      go_simp
      refine hK _ _ ?_
      clear hK K
      refine wpList_store_fresh rfl 48 (.tmp 5) (.tmp 15) rfl _ m.cs rfl rfl (ld48 _ (mk_size _)) rfl (by simp [Mk.cs, Value.oneCell']) ?_
      simp only [Act.put, List.setIfInBounds_toArray, List.set_cons_zero, List.set_cons_succ]
      go_upto_region 6 with fail
      obtain ⟨W0, hW0⟩ : ∃ W0, W0 = World.alloc wr (.cells m.cs 48) := ⟨_, rfl⟩
      have HP0 : Hid (Blk W0 wr.heap.size 48 m.cs) := by
        show Blk W0 wr.heap.size 48 m.cs
        rw [hW0]
        exact Blk.new _ _ _
      have HW0 : Hid (Below wr.heap.size wr W0) := by
        show Below wr.heap.size wr W0
        rw [hW0]
        exact (Below.refl _ _).alloc (Nat.le_refl _) _
      rw [← hW0]
      clear hW0 HQ
      obtain ⟨C0, hC0⟩ : ∃ C0, C0 = m.cs := ⟨_, rfl⟩
      rw [← hC0] at HP0
      have HC0 := hide hC0
      clear hC0
      have hbig0 : m.nm ≤ 100000000 := by have := HIN.out.hm; omega
      have kC : (W0.alloc (.cells #[] 69)).cell? ⟨wr.heap.size, 8, none⟩ = some (.slice m.Am m.nm m.cm) := by
        have := (HP0.out.alloc (.cells #[] 69)).cell 8
        rw [this, HC0.out]
        rfl
      have HN0 : Hid ((W0.alloc (.cells #[] 69)).ownsRow wr.heap.size 69 3 (.slice (some ⟨W0.heap.size, 0, none⟩) 0 0) 0 []) := own_none (Blk.new W0 69 #[]) HW0.out.size
      have HR0 : Hid (Reads (W0.alloc (.cells #[] 69)) w.heap.size 3 m.Am m.nm (sts m.ms)) := (Reads.below HIN.out.mem (HW0.out.mono hsw)).alloc (by have := HW0.out.size; omega) _
      have HWa0 : Hid (Below wr.heap.size wr (W0.alloc (.cells #[] 69))) := HW0.out.alloc HW0.out.size _
      go_upto_region 7 with (at_builtin; refine wpList_append_any _ rfl (.tmp 16) (.tmp 18) 40 rfl wr.heap.size 69 i69 _ 3 24 Tryd.underlying40 I69.out Z69.out hs69 hb69 rfl (by omega) (.slice (some ⟨W0.heap.size, 0, none⟩) 0 0) 0 [] rfl HN0.out w.heap.size m.Am m.nm m.cm (sts m.ms) rfl HR0.out (sts_one _) (by unfold maxLen; omega) (by omega) HWa0.out.size ?_; intro v wa hown hgr _; rw [Nat.zero_add, List.nil_append] at hown; obtain ⟨A0, c0, rfl⟩ := own_slice' hown; have HPa0 := hide ((HP0.out.alloc _).grown hgr (by intro e; have h1 : wr.heap.size = W0.heap.size := Option.some.inj e; have h2 := HP0.out.lt; omega)); have HOa0 := hide hown; have HGa0 := hide hgr; have HWb0 := hide (HWa0.out.grown hgr HWa0.out.size (fun q hq => by have h1 : W0.heap.size = q := Option.some.inj hq; have h2 := HW0.out.size; omega)); have kD : wa.cell? ⟨wr.heap.size, 8, none⟩ = some (.slice m.Am m.nm m.cm) := (by have := HPa0.out.cell 8; rw [this, HC0.out]; rfl); have fD := HPa0.out.frozen 8; clear hown hgr)
      clear kC
      obtain ⟨W1, hW⟩ : ∃ W, W = World.setCell wa ⟨wr.heap.size, 8, none⟩ (.slice A0 m.nm c0) := ⟨_, rfl⟩
      obtain ⟨C1, hC⟩ : ∃ C, C = C0.setIfInBounds 8 (.slice A0 m.nm c0) := ⟨_, rfl⟩
      have HP1 : Hid (Blk W1 wr.heap.size 48 C1) := by
        show Blk W1 wr.heap.size 48 C1
        rw [hW, hC]
        exact HPa0.out.set_ 8 _
      have HW1 : Hid (Below wr.heap.size wr W1) := by
        show Below wr.heap.size wr W1
        rw [hW]
        exact HWb0.out.setCell (Nat.le_refl _) _
      have HO0_1 : Hid (W1.ownsRow wr.heap.size 69 3 (.slice A0 m.nm c0) m.nm (sts m.ms)) := by
        show World.ownsRow W1 _ _ _ _ _ _
        rw [hW]
        exact ownsRow_setCell_other HOa0.out (own_blk_ne HOa0.out HPa0.out (by decide)) _
      have HC1 := hide hC
      rw [← hW]
      clear hW hC kD fD HN0 HR0 HWa0 HPa0 HOa0 HGa0 HWb0
      have hbig1 : m.nt ≤ 100000000 := by have := HIN.out.ht; omega
      have kC : (W1.alloc (.cells #[] 3)).cell? ⟨wr.heap.size, 9, none⟩ = some (.slice m.At m.nt m.ct) := by
        have := (HP1.out.alloc (.cells #[] 3)).cell 9
        rw [this, HC1.out, HC0.out]
        rfl
      have HN1 : Hid ((W1.alloc (.cells #[] 3)).ownsRow wr.heap.size 3 1 (.slice (some ⟨W1.heap.size, 0, none⟩) 0 0) 0 []) := own_none (Blk.new W1 3 #[]) HW1.out.size
      have HR1 : Hid (Reads (W1.alloc (.cells #[] 3)) w.heap.size 1 m.At m.nt (ints m.ts)) := (Reads.below HIN.out.tr (HW1.out.mono hsw)).alloc (by have := HW1.out.size; omega) _
      have HWa1 : Hid (Below wr.heap.size wr (W1.alloc (.cells #[] 3))) := HW1.out.alloc HW1.out.size _
      go_upto_region 8 with (at_builtin; refine wpList_append_any _ rfl (.tmp 21) (.tmp 23) 41 rfl wr.heap.size 3 i3 _ 1 8 Tryd.underlying41 I3.out Z3.out hs3 hb3 rfl (by omega) (.slice (some ⟨W1.heap.size, 0, none⟩) 0 0) 0 [] rfl HN1.out w.heap.size m.At m.nt m.ct (ints m.ts) rfl HR1.out (ints_one' _) (by unfold maxLen; omega) (by omega) HWa1.out.size ?_; intro v wa hown hgr _; rw [Nat.zero_add, List.nil_append] at hown; obtain ⟨A1, c1, rfl⟩ := own_slice' hown; have HPa1 := hide ((HP1.out.alloc _).grown hgr (by intro e; have h1 : wr.heap.size = W1.heap.size := Option.some.inj e; have h2 := HP1.out.lt; omega)); have HOa1 := hide hown; have HGa1 := hide hgr; have HWb1 := hide (HWa1.out.grown hgr HWa1.out.size (fun q hq => by have h1 : W1.heap.size = q := Option.some.inj hq; have h2 := HW1.out.size; omega)); have kD : wa.cell? ⟨wr.heap.size, 9, none⟩ = some (.slice m.At m.nt m.ct) := (by have := HPa1.out.cell 9; rw [this, HC1.out, HC0.out]; rfl); have fD := HPa1.out.frozen 9; clear hown hgr)
      clear kC
      obtain ⟨W2, hW⟩ : ∃ W, W = World.setCell wa ⟨wr.heap.size, 9, none⟩ (.slice A1 m.nt c1) := ⟨_, rfl⟩
      obtain ⟨C2, hC⟩ : ∃ C, C = C1.setIfInBounds 9 (.slice A1 m.nt c1) := ⟨_, rfl⟩
      have HP2 : Hid (Blk W2 wr.heap.size 48 C2) := by
        show Blk W2 wr.heap.size 48 C2
        rw [hW, hC]
        exact HPa1.out.set_ 9 _
      have HW2 : Hid (Below wr.heap.size wr W2) := by
        show Below wr.heap.size wr W2
        rw [hW]
        exact HWb1.out.setCell (Nat.le_refl _) _
      have HO1_2 : Hid (W2.ownsRow wr.heap.size 3 1 (.slice A1 m.nt c1) m.nt (ints m.ts)) := by
        show World.ownsRow W2 _ _ _ _ _ _
        rw [hW]
        exact ownsRow_setCell_other HOa1.out (own_blk_ne HOa1.out HPa1.out (by decide)) _
      have HO0_2 : Hid (W2.ownsRow wr.heap.size 69 3 (.slice A0 m.nm c0) m.nm (sts m.ms)) := by
        show World.ownsRow W2 _ _ _ _ _ _
        rw [hW]
        have h1 := own_kept (HO0_1.out.alloc (.cells #[] 3)) HN1.out (by decide) HGa1.out
        exact ownsRow_setCell_other h1 (own_blk_ne h1 HPa1.out (by decide)) _
      have HC2 := hide hC
      rw [← hW]
      clear hW hC kD fD HN1 HR1 HWa1 HPa1 HOa1 HGa1 HWb1
      have hbig2 : m.nb ≤ 100000000 := by have := HIN.out.hb; omega
      have kC : (W2.alloc (.cells #[] 5)).cell? ⟨wr.heap.size, 14, none⟩ = some (.slice m.Ab m.nb m.cb) := by
        have := (HP2.out.alloc (.cells #[] 5)).cell 14
        rw [this, HC2.out, HC1.out, HC0.out]
        rfl
      have HN2 : Hid ((W2.alloc (.cells #[] 5)).ownsRow wr.heap.size 5 1 (.slice (some ⟨W2.heap.size, 0, none⟩) 0 0) 0 []) := own_none (Blk.new W2 5 #[]) HW2.out.size
      have HR2 : Hid (Reads (W2.alloc (.cells #[] 5)) w.heap.size 1 m.Ab m.nb (Lib.byteCells m.bd)) := (Reads.below HIN.out.body (HW2.out.mono hsw)).alloc (by have := HW2.out.size; omega) _
      have HWa2 : Hid (Below wr.heap.size wr (W2.alloc (.cells #[] 5))) := HW2.out.alloc HW2.out.size _
      go_upto_region 9 with (at_builtin; refine wpList_append_any _ rfl (.tmp 26) (.tmp 28) 42 rfl wr.heap.size 5 i5 _ 1 1 Tryd.underlying42 I5.out Z5.out hs5 hb5 rfl (by omega) (.slice (some ⟨W2.heap.size, 0, none⟩) 0 0) 0 [] rfl HN2.out w.heap.size m.Ab m.nb m.cb (Lib.byteCells m.bd) rfl HR2.out (bytes_one _) (by unfold maxLen; omega) (by omega) HWa2.out.size ?_; intro v wa hown hgr _; rw [Nat.zero_add, List.nil_append] at hown; obtain ⟨A2, c2, rfl⟩ := own_slice' hown; have HPa2 := hide ((HP2.out.alloc _).grown hgr (by intro e; have h1 : wr.heap.size = W2.heap.size := Option.some.inj e; have h2 := HP2.out.lt; omega)); have HOa2 := hide hown; have HGa2 := hide hgr; have HWb2 := hide (HWa2.out.grown hgr HWa2.out.size (fun q hq => by have h1 : W2.heap.size = q := Option.some.inj hq; have h2 := HW2.out.size; omega)); have kD : wa.cell? ⟨wr.heap.size, 14, none⟩ = some (.slice m.Ab m.nb m.cb) := (by have := HPa2.out.cell 14; rw [this, HC2.out, HC1.out, HC0.out]; rfl); have fD := HPa2.out.frozen 14; clear hown hgr)
      clear kC
      obtain ⟨W3, hW⟩ : ∃ W, W = World.setCell wa ⟨wr.heap.size, 14, none⟩ (.slice A2 m.nb c2) := ⟨_, rfl⟩
      obtain ⟨C3, hC⟩ : ∃ C, C = C2.setIfInBounds 14 (.slice A2 m.nb c2) := ⟨_, rfl⟩
      have HP3 : Hid (Blk W3 wr.heap.size 48 C3) := by
        show Blk W3 wr.heap.size 48 C3
        rw [hW, hC]
        exact HPa2.out.set_ 14 _
      have HW3 : Hid (Below wr.heap.size wr W3) := by
        show Below wr.heap.size wr W3
        rw [hW]
        exact HWb2.out.setCell (Nat.le_refl _) _
      have HO2_3 : Hid (W3.ownsRow wr.heap.size 5 1 (.slice A2 m.nb c2) m.nb (Lib.byteCells m.bd)) := by
        show World.ownsRow W3 _ _ _ _ _ _
        rw [hW]
        exact ownsRow_setCell_other HOa2.out (own_blk_ne HOa2.out HPa2.out (by decide)) _
      have HO0_3 : Hid (W3.ownsRow wr.heap.size 69 3 (.slice A0 m.nm c0) m.nm (sts m.ms)) := by
        show World.ownsRow W3 _ _ _ _ _ _
        rw [hW]
        have h1 := own_kept (HO0_2.out.alloc (.cells #[] 5)) HN2.out (by decide) HGa2.out
        exact ownsRow_setCell_other h1 (own_blk_ne h1 HPa2.out (by decide)) _
      have HO1_3 : Hid (W3.ownsRow wr.heap.size 3 1 (.slice A1 m.nt c1) m.nt (ints m.ts)) := by
        show World.ownsRow W3 _ _ _ _ _ _
        rw [hW]
        have h1 := own_kept (HO1_2.out.alloc (.cells #[] 5)) HN2.out (by decide) HGa2.out
        exact ownsRow_setCell_other h1 (own_blk_ne h1 HPa2.out (by decide)) _
      have HC3 := hide hC
      rw [← hW]
      clear hW hC kD fD HN2 HR2 HWa2 HPa2 HOa2 HGa2 HWb2
      obtain ⟨m', hm'⟩ : ∃ m', m' = m.at A0 c0 A1 c1 A2 c2 := ⟨_, rfl⟩
      have HM' := hide hm'
      have HPF : Hid (Blk W3 wr.heap.size 48 m'.cs) := by
        show Blk W3 wr.heap.size 48 m'.cs
        have h1 := HP3.out
        rw [HC3.out, HC2.out, HC1.out, HC0.out] at h1
        rw [hm']
        exact h1
      have HMT : Hid (MkT W3 w.heap.size m') := by
        show MkT W3 w.heap.size m'
        rw [hm']
        exact ⟨own_base HO0_3.out hsw, own_base HO1_3.out hsw, own_base HO2_3.out hsw, HIN.out.hm, HIN.out.ht, HIN.out.hb⟩
      have HOv : Hid (W3.ownsRow w.heap.size 48 26 (.slice Av j cv) j (mkCells l')) := own_step HO.out HW3.out
      have HE3 : Hid (∀ q ∈ l', MkT W3 w.heap.size q) := fun q hq => (HE.out q hq).step HW3.out
      have HB3 := hide (HBB.out.trans (HW3.out.mono hsw))
      clear hm' HP3 HC3 HC2 HC1 HC0 HO0_3 HO1_3 HO2_3 HO HE HW3 HP0 HP1 HP2
      refine wp_region_lit ?_
      refine wpList_value rfl (.slice Av j cv) (by go_simp) ?_
      refine wpList_value rfl (.agg m'.cs) (ex_load 48 (.tmp 5) rfl _ rfl m'.cs _ Tryd.underlying48 rfl (ld48 _ (mk_size _)) (box_all HPF.out)) ?_
      simp only [Act.put, List.setIfInBounds_toArray, List.set_cons_zero, List.set_cons_succ]
      refine wpList_one48 rfl (.tmp 32) rfl m' rfl ?_
      simp only [Act.put, List.setIfInBounds_toArray, List.set_cons_zero, List.set_cons_succ]
      refine wpList_push (W := W3) (cs := m'.cs) rfl (.tmp 31) (.tmp 33) 22 rfl w.heap.size 48 i48 _ 26 288 Tryd.underlying22 I48.out Z48.out hs48 hb48 rfl (by omega) (.slice Av j cv) j (mkCells l') rfl HOv.out 1 1 rfl rfl (cs_one m') (by omega) (by unfold maxLen; omega) (by omega) HB3.out.size ?_
      intro g4 c4 W4 hown4 hgr4 hb4 _ _ _
      have HL4 : Hid (CLoop l n w (.slice (some ⟨g4, 0, none⟩) (j + 1) c4) (.int .i64 ((j : Int) + 1)) W4) := by
        refine ⟨j + 1, l' ++ [m'], by omega, by go_num, HSA.out.snoc HMJ.out ⟨_, _, _, _, _, _, HM'.out⟩, ?_, ?_, HB3.out.trans hb4⟩
        · rw [mkCells_snoc]
          exact hown4
        · intro q hq
          rcases List.mem_append.1 hq with hq | hq
          · exact ((HE3.out q hq).step ((Below.refl _ _).alloc (Nat.le_refl _) _)).push (HOv.out.alloc _) hgr4
          · obtain rfl : q = m' := by simpa using hq
            exact (HMT.out.step ((Below.refl _ _).alloc (Nat.le_refl _) _)).push (HOv.out.alloc _) hgr4
      clear hown4 hgr4 hb4 HOv HE3 HB3 HMT HPF
      simp only [Act.put, List.setIfInBounds_toArray, List.set_cons_zero, List.set_cons_succ]
      go_wp2_with fail
      go_roundw
      case rel => first | exact HL4.out | exact ⟨_, _, _, HL4.out, rfl, rfl, rfl⟩
      case measure => simp [intOf]; omega
    · have kn : ¬ (j : Int) < (n : Int) := by omega
      obtain rfl : j = n := by omega
      clear hlt
      go_wp2_with fail
      go_ret
      have ht : l.take j = l := List.take_of_length_le (by have := hll.out; omega)
      have hs := HSA.out
      rw [ht] at hs
      exact ⟨Av, cv, l', rfl, hs, ⟨Reads.of_own HO.out, fun q hq => (HE.out q hq).inn⟩, HBB.out, HO.out, HE.out⟩
end Go.Proofs.YtenebkkfjalcaaaDoor
