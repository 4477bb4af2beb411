/-
  The law's eventOf: a copy of an event, its lists in memory of their own. (Printed by wip/tools/mkevo.py.)
-/
import Derived.Test.YtcibcmfaebbhnaaDoorZEm
import Derived.Test.YtcibcmfaebbhnaaDoorZSeg
import Derived.Deep.WholeRow
import Derived.Test.YtcibcmfaebbhnaaDoorZOnly
set_option linter.unusedVariables false
set_option linter.unusedSimpArgs false
namespace Go.Proofs.YtcibcmfaebbhnaaDoor
open Go.RowKit Go.WideShapes Go.ChangeShapes Q

theorem one_bytes (l : List UInt8) : ∀ u ∈ Lib.byteCells l, u.oneCell' = true := by
  intro u hu
  unfold Lib.byteCells at hu
  obtain ⟨b, _, rfl⟩ := List.mem_map.1 hu
  rfl
theorem one_ints (l : List Int) : ∀ u ∈ ints l, u.oneCell' = true := by
  intro u hu
  unfold ints at hu
  obtain ⟨b, _, rfl⟩ := List.mem_map.1 hu
  rfl
/-- What comes out: an event that says the same. -/
def CpyP (m : Em) (w : World) (e : Ending) (w' : World) : Prop := ∃ m' : Em, e = .returned (.agg m'.cs) ∧ m'.ev = m.ev ∧ m'.ns = m.ns ∧ m'.nb = m.nb ∧ EmIn w' w'.heap.size m' ∧ Below w.heap.size w w'

set_option maxRecDepth 100000 in
set_option maxHeartbeats 8000000 in
theorem eventOf_any (m : Em) (w : World) (h : EmIn w w.heap.size m) (hsn : m.ns ≤ 10000000) (hbn : m.nb ≤ 10000000) :
    Calls Tryd.prog 12 #[.agg m.cs] w fun e w' => CpyP m w e w' := by
  have HIN := hide h
  obtain ⟨i3, hi3, hz3, hs3, hb3⟩ := info_parts info3
  obtain ⟨i5, hi5, hz5, hs5, hb5⟩ := info_parts info5
  have I3 := hide hi3
  have I5 := hide hi5
  have Z3 := hide hz3
  have Z5 := hide hz5
  have HSN := hide hsn
  have HBN := hide hbn
  clear hi3 hi5 hz3 hz5 h hsn hbn
  obtain ⟨C0, hC0⟩ : ∃ C0, C0 = m.cs := ⟨_, rfl⟩
  rw [← hC0]
  have HC0 := hide hC0
  clear hC0
  go_enter Tryd.func12, Tryd.ntmps12
  go_upto_region 1 with fail
  obtain ⟨Z, hZ0, hZs⟩ : ∃ Z : Array Value, Z = Em.zero.cs ∧ Z.size = 13 := ⟨_, rfl, rfl⟩
  generalize hW0 : World.alloc (World.alloc w _) _ = W0
  have HP0 : Hid (Blk W0 w.heap.size 29 C0) := by
    show Blk _ _ _ _
    rw [← hW0]
    exact (Blk.new _ _ _).alloc _
  have HR0 : Hid (Blk W0 (w.heap.size + 1) 29 Z) := by
    show Blk _ _ _ _
    rw [← hW0, hZ0]
    exact blk_new _ _ _ _ (by simp)
  have HW0 : Hid (Below w.heap.size w W0) := by
    show Below _ _ _
    rw [← hW0]
    exact ((Below.refl _ _).alloc (Nat.le_refl _) _).alloc (by simp) _
  clear hW0 hZ0
  have hbig0 : m.nb ≤ 10000000 := HBN.out
  have kC : (W0.alloc (.cells #[] 5)).cell? ⟨w.heap.size, 4, none⟩ = some (.slice m.Ab m.nb m.cb) := by
    have := (HP0.out.alloc (.cells #[] 5)).cell 4
    rw [this, HC0.out]
    rfl
  have HN0 : Hid ((W0.alloc (.cells #[] 5)).ownsRow w.heap.size 5 1 (.slice (some ⟨W0.heap.size, 0, none⟩) 0 0) 0 []) := own_none (Blk.new W0 5 #[]) HW0.out.size
  have HD0 : Hid (Reads (W0.alloc (.cells #[] 5)) w.heap.size 1 m.Ab m.nb (Lib.byteCells m.bd)) := (Reads.below HIN.out.body HW0.out).alloc (by have := HW0.out.size; omega) _
  have HWa0 : Hid (Below w.heap.size w (W0.alloc (.cells #[] 5))) := HW0.out.alloc HW0.out.size _
  go_upto_region 2 with (at_builtin; refine wpList_append_any _ rfl (.tmp 3) (.tmp 5) 24 rfl w.heap.size 5 i5 _ 1 1 Tryd.underlying24 I5.out Z5.out hs5 hb5 rfl (by omega) (.slice (some ⟨W0.heap.size, 0, none⟩) 0 0) 0 [] rfl HN0.out w.heap.size m.Ab m.nb m.cb (Lib.byteCells m.bd) rfl HD0.out (one_bytes _) (by unfold maxLen; omega) (by omega) HWa0.out.size ?_; intro v wa hown hgr _; rw [Nat.zero_add, List.nil_append] at hown; obtain ⟨A0, c0, rfl⟩ := own_slice' hown; have HPa0 := hide ((HP0.out.alloc _).grown hgr (by intro e; have h1 : w.heap.size = W0.heap.size := Option.some.inj e; have h2 := HP0.out.lt; omega)); have HRa0 := hide ((HR0.out.alloc _).grown hgr (by intro e; have h1 : w.heap.size + 1 = W0.heap.size := Option.some.inj e; have h2 := HR0.out.lt; omega)); have HOa0 := hide hown; have HGa0 := hide hgr; have HWb0 := hide (HWa0.out.grown hgr HWa0.out.size (fun q hq => by have h1 : W0.heap.size = q := Option.some.inj hq; have h2 := HW0.out.size; omega)); have kD : wa.cell? ⟨w.heap.size, 4, none⟩ = some (.slice m.Ab m.nb m.cb) := (by have := HPa0.out.cell 4; rw [this, HC0.out]; rfl); have fD := HPa0.out.frozen 4; clear hown hgr)
  clear kC
  obtain ⟨W1, hW⟩ : ∃ W, W = World.setCell wa ⟨w.heap.size, 4, none⟩ (.slice A0 m.nb c0) := ⟨_, rfl⟩
  obtain ⟨C1, hC⟩ : ∃ C, C = C0.setIfInBounds 4 (.slice A0 m.nb c0) := ⟨_, rfl⟩
  have HP1 : Hid (Blk W1 w.heap.size 29 C1) := by
    show Blk _ _ _ _
    rw [hW, hC]
    exact HPa0.out.set_ 4 _
  have HR1 : Hid (Blk W1 (w.heap.size + 1) 29 Z) := by
    show Blk _ _ _ _
    rw [hW]
    exact HRa0.out.far (by simp) _
  have HW1 : Hid (Below w.heap.size w W1) := by
    show Below _ _ _
    rw [hW]
    exact HWb0.out.setCell (Nat.le_refl _) _
  have HO0_1 : Hid (W1.ownsRow w.heap.size 5 1 (.slice A0 m.nb c0) m.nb (Lib.byteCells m.bd)) := by
    show World.ownsRow W1 _ _ _ _ _ _
    rw [hW]
    exact ownsRow_setCell_other HOa0.out (own_blk_ne HOa0.out HPa0.out (by decide)) _
  have HC1 := hide hC
  rw [← hW]
  clear hW hC kD fD HN0 HD0 HWa0 HPa0 HRa0 HOa0 HGa0 HWb0
  have hbig1 : m.ns ≤ 10000000 := HSN.out
  have kC : (W1.alloc (.cells #[] 3)).cell? ⟨w.heap.size, 12, none⟩ = some (.slice m.As m.ns m.cs') := by
    have := (HP1.out.alloc (.cells #[] 3)).cell 12
    rw [this, HC1.out, HC0.out]
    rfl
  have HN1 : Hid ((W1.alloc (.cells #[] 3)).ownsRow w.heap.size 3 1 (.slice (some ⟨W1.heap.size, 0, none⟩) 0 0) 0 []) := own_none (Blk.new W1 3 #[]) HW1.out.size
  have HD1 : Hid (Reads (W1.alloc (.cells #[] 3)) w.heap.size 1 m.As m.ns (ints m.sd)) := (Reads.below HIN.out.sid HW1.out).alloc (by have := HW1.out.size; omega) _
  have HWa1 : Hid (Below w.heap.size w (W1.alloc (.cells #[] 3))) := HW1.out.alloc HW1.out.size _
  go_upto_region 3 with (at_builtin; refine wpList_append_any _ rfl (.tmp 8) (.tmp 10) 27 rfl w.heap.size 3 i3 _ 1 8 Tryd.underlying27 I3.out Z3.out hs3 hb3 rfl (by omega) (.slice (some ⟨W1.heap.size, 0, none⟩) 0 0) 0 [] rfl HN1.out w.heap.size m.As m.ns m.cs' (ints m.sd) rfl HD1.out (one_ints _) (by unfold maxLen; omega) (by omega) HWa1.out.size ?_; intro v wa hown hgr _; rw [Nat.zero_add, List.nil_append] at hown; obtain ⟨A1, c1, rfl⟩ := own_slice' hown; have HPa1 := hide ((HP1.out.alloc _).grown hgr (by intro e; have h1 : w.heap.size = W1.heap.size := Option.some.inj e; have h2 := HP1.out.lt; omega)); have HRa1 := hide ((HR1.out.alloc _).grown hgr (by intro e; have h1 : w.heap.size + 1 = W1.heap.size := Option.some.inj e; have h2 := HR1.out.lt; omega)); have HOa1 := hide hown; have HGa1 := hide hgr; have HWb1 := hide (HWa1.out.grown hgr HWa1.out.size (fun q hq => by have h1 : W1.heap.size = q := Option.some.inj hq; have h2 := HW1.out.size; omega)); have kD : wa.cell? ⟨w.heap.size, 12, none⟩ = some (.slice m.As m.ns m.cs') := (by have := HPa1.out.cell 12; rw [this, HC1.out, HC0.out]; rfl); have fD := HPa1.out.frozen 12; clear hown hgr)
  clear kC
  obtain ⟨W2, hW⟩ : ∃ W, W = World.setCell wa ⟨w.heap.size, 12, none⟩ (.slice A1 m.ns c1) := ⟨_, rfl⟩
  obtain ⟨C2, hC⟩ : ∃ C, C = C1.setIfInBounds 12 (.slice A1 m.ns c1) := ⟨_, rfl⟩
  have HP2 : Hid (Blk W2 w.heap.size 29 C2) := by
    show Blk _ _ _ _
    rw [hW, hC]
    exact HPa1.out.set_ 12 _
  have HR2 : Hid (Blk W2 (w.heap.size + 1) 29 Z) := by
    show Blk _ _ _ _
    rw [hW]
    exact HRa1.out.far (by simp) _
  have HW2 : Hid (Below w.heap.size w W2) := by
    show Below _ _ _
    rw [hW]
    exact HWb1.out.setCell (Nat.le_refl _) _
  have HO1_2 : Hid (W2.ownsRow w.heap.size 3 1 (.slice A1 m.ns c1) m.ns (ints m.sd)) := by
    show World.ownsRow W2 _ _ _ _ _ _
    rw [hW]
    exact ownsRow_setCell_other HOa1.out (own_blk_ne HOa1.out HPa1.out (by decide)) _
  have HO0_2 : Hid (W2.ownsRow w.heap.size 5 1 (.slice A0 m.nb c0) m.nb (Lib.byteCells m.bd)) := by
    show World.ownsRow W2 _ _ _ _ _ _
    rw [hW]
    have h1 := own_kept (HO0_1.out.alloc (.cells #[] 3)) HN1.out (by decide) HGa1.out
    exact ownsRow_setCell_other h1 (own_blk_ne h1 HPa1.out (by decide)) _
  have HC2 := hide hC
  rw [← hW]
  clear hW hC kD fD HN1 HD1 HWa1 HPa1 HRa1 HOa1 HGa1 HWb1
  obtain ⟨m', hm'⟩ : ∃ m' : Em, m' = { m with Ab := A0, cb := c0, As := A1, cs' := c1 } := ⟨_, rfl⟩
  have HPF : Hid (Blk W2 w.heap.size 29 m'.cs) := by
    show Blk _ _ _ _
    have h1 := HP2.out
    rw [HC2.out, HC1.out, HC0.out] at h1
    rw [hm']
    exact h1
  have HM : Hid (m'.ev = m.ev ∧ m'.ns = m.ns ∧ m'.nb = m.nb) := by
    show _ ∧ _
    rw [hm']
    exact ⟨rfl, rfl, rfl⟩
  have HM' := hide hm'
  clear hm' HP2 HC2 HC1 HC0 HP0 HP1 HR0 HR1
  refine wp_region_lit ?_
  refine wpList_value rfl (.agg m'.cs) (ex_load 29 (.tmp 1) rfl _ rfl m'.cs _ Tryd.underlying29 rfl (ld29 _ (em_size _)) (ebox_all HPF.out)) ?_
  try simp only [Act.put, List.setIfInBounds_toArray, List.set_cons_zero, List.set_cons_succ]
  refine wpList_put_at rfl 29 (.tmp 2) (.tmp 13) rfl (w.heap.size + 1) 0 m'.cs rfl rfl 29 Z HR2.out (ld29 _ (em_size _)) (by rw [em_size, hZs]; omega) (ecs_all m') _ (eput_zero Z hZs m') ?_
  try simp only [Act.put, List.setIfInBounds_toArray, List.set_cons_zero, List.set_cons_succ]
  go_wp2_with fail
  refine bodyPost_ret (results_29 rfl _ rfl (HR2.out.row _)) rfl ?_
  have hO := only_setRow W2 (w.heap.size + 1) m'.cs
  refine ⟨m', rfl, HM.out.1, HM.out.2.1, HM.out.2.2, ?_, HW2.out.trans (hO.below HW2.out.size (fun k hk e => by omega))⟩
  have hA : ∀ (e : TypeId), e ≠ 29 → ∀ k, k < W2.heap.size → k = w.heap.size + 1 → ∃ t cs, Blk W2 k t cs ∧ t ≠ e := fun e he k _ hq => by
    subst hq
    exact ⟨29, Z, HR2.out, Ne.symm he⟩
  have k1 := own_apart HO1_2.out hO (hA _ (by decide))
  have k0 := own_apart HO0_2.out hO (hA _ (by decide))
  generalize W2.setRow (w.heap.size + 1) m'.cs = X at k1 k0 ⊢
  rw [HM'.out]
  exact ⟨Reads.of_own k1, Reads.of_own k0, by show m.ns ≤ _; omega, by show m.nb ≤ _; omega⟩
end Go.Proofs.YtcibcmfaebbhnaaDoor
