/-
  QuorumLeast answers true. (Printed by wip/tools/mkleast.py.)
-/
import Derived.Test.YteckffndboiknaaLeastS
set_option linter.unusedVariables false
set_option linter.unusedSimpArgs false
namespace Go.Proofs.Yteckffndboiknaa
open Go.RowKit Go.WideShapes Go.ChangeShapes Q

set_option maxRecDepth 100000 in
set_option maxHeartbeats 8000000 in
theorem least_walk (A A' : Option Addr) (n c n' c' : Nat) (vs us : List Int) (w : World) (h : RI w w.heap.size A n vs) (h' : RI w w.heap.size A' n' us) (hn : n * 8 ≤ 140737488351232) (hn' : n' * 8 ≤ 140737488351232) :
    Calls Try.prog 12 #[.slice A n c, .slice A' n' c'] w fun e w' => e = .returned (.bool true) ∧ Below w.heap.size w w' := by
  have HL1 := hide h.len
  have HL2 := hide h'.len
  have HV0 := hide h
  have HU0 := hide h'
  have HLE1 := hide (lent_any A n c vs w h hn)
  obtain ⟨base, hbase⟩ : ∃ b, b = w.heap.size := ⟨_, rfl⟩
  have HBASE := hide hbase
  rw [← hbase] at HLE1 HV0 HU0 ⊢
  clear h h' hbase
  go_enter Try.func12, Try.ntmps12
  go_upto_region 2 with (go_at_call 22; refine HLE1.out.mono ?_; rintro e w1 ⟨g1, cap1, rfl, hown1, hb1⟩; have HOF := hide hown1; have HB1 := hide hb1; clear hown1 hb1)
  have hs1 : base ≤ w1.heap.size := by have := HB1.out.size; have := HBASE.out; omega
  have HLE2 := hide (lent_any A' n' c' us w1 (Reads.more (Reads.below HU0.out HB1.out) hs1) hn')
  go_upto_region 3 with (go_at_call 22; refine HLE2.out.mono ?_; rintro e w2 ⟨g2, cap2, rfl, hown2, hb2⟩; have HOR := hide hown2; have HB2 := hide hb2; clear hown2 hb2)
  have hs2 : w1.heap.size ≤ w2.heap.size := HB2.out.size
  obtain ⟨b2, hb2e⟩ : ∃ b, b = w2.heap.size := ⟨_, rfl⟩
  have HB2E := hide hb2e
  have HBW : Hid (Below base w w2) := HB1.out.trans (HB2.out.mono hs1)
  have HF : Hid (RI w2 b2 (some ⟨g1, 0, none⟩) (n + 64) (vs ++ marks 64)) := by
    have h1 : RI w1 w1.heap.size (some ⟨g1, 0, none⟩) (n + 64) (vs ++ marks 64) := Reads.of_own HOF.out
    exact Reads.more (Reads.below h1 HB2.out) (by omega)
  have HR : Hid (RI w2 b2 (some ⟨g2, 0, none⟩) (n' + 64) (us ++ marks 64)) := by
    have h1 : RI w2 w2.heap.size (some ⟨g2, 0, none⟩) (n' + 64) (us ++ marks 64) := Reads.of_own HOR.out
    rw [hb2e]
    exact h1
  have HV : Hid (RI w2 b2 A n vs) := Reads.more (Reads.below HV0.out HBW.out) (by omega)
  have HU : Hid (RI w2 b2 A' n' us) := Reads.more (Reads.below HU0.out HBW.out) (by omega)
  have hc1 : n + 64 ≤ cap1 := own_cap' HOF.out
  have hc2 : n' + 64 ≤ cap2 := own_cap' HOR.out
  have HFF : Hid (RI w2 b2 (some ⟨g1, 0, none⟩) n vs) := RI.front HF.out HL1.out
  have HRF : Hid (RI w2 b2 (some ⟨g2, 0, none⟩) n' us) := RI.front HR.out HL2.out
  have hci1 : (n : Int) ≤ (cap1 : Int) := by omega
  have hci2 : (n' : Int) ≤ (cap2 : Int) := by omega
  have hni1 : (0 : Int) ≤ (n : Int) := by omega
  have hni2 : (0 : Int) ≤ (n' : Int) := by omega
  have HBS2 : Hid (Below b2 w2 w2) := Below.refl _ _
  have hs22 : b2 ≤ w2.heap.size := by omega
  clear HLE1 HLE2 HOF HOR HB1 HB2 hs1 hs2 hb2e
  have HMC1 := hide (minimal_prog (some ⟨g1, 0, none⟩) n cap1 vs w2 (Reads.more (Reads.below HFF.out HBS2.out) (by have := HBS2.out.size; have := HB2E.out; omega)) (by omega))
  rw [← HB2E.out] at HMC1
  go_upto_region 4 with (go_at_call 36; refine HMC1.out.mono ?_; rintro e w3 ⟨v1, e1, rfl, hl, hm, hbl⟩; obtain ⟨A1, c1, rfl, _, _⟩ := own_slice hl.row; have HLL1 := hide hl; have HM1 := hide hm; have HBX := hide hbl; clear hl hm hbl)
  obtain ⟨b3, hhi⟩ : ∃ b, b = w3.heap.size := ⟨_, rfl⟩
  have HB3E := hide hhi
  have hle1 : b2 ≤ b3 := by have := HBX.out.size; have := HB2E.out; omega
  have X1 := hide (LX.of HLL1.out hhi)
  have HBS3 := hide (HBS2.out.trans (HBX.out.mono (by omega)))
  have hn1 : e1.length ≤ 65536 := es_len HM1.out
  clear HMC1 HLL1 HBX hhi HBS2
  have HMC2 := hide (minimal_prog (some ⟨g2, 0, none⟩) n' cap2 us w3 (Reads.more (Reads.below HRF.out HBS3.out) (by have := HBS3.out.size; have := HB2E.out; omega)) (by omega))
  rw [← HB3E.out] at HMC2
  go_upto_region 5 with (go_at_call 36; refine HMC2.out.mono ?_; rintro e w4 ⟨v2, e2, rfl, hl, hm, hbl⟩; obtain ⟨A2, c2, rfl, _, _⟩ := own_slice hl.row; have HLL2 := hide hl; have HM2 := hide hm; have HBX := hide hbl; clear hl hm hbl)
  obtain ⟨b4, hhi⟩ : ∃ b, b = w4.heap.size := ⟨_, rfl⟩
  have HB4E := hide hhi
  have hle2 : b3 ≤ b4 := by have := HBX.out.size; have := HB3E.out; omega
  have X2 := hide (LX.of HLL2.out hhi)
  have X1 := hide (X1.out.below HBX.out (by omega))
  have HBS4 := hide (HBS3.out.trans (HBX.out.mono (by omega)))
  have hn2 : e2.length ≤ 65536 := es_len HM2.out
  clear HMC2 HLL2 HBX hhi HBS3
  have HMC3 := hide (minimal_prog (some ⟨g1, 0, none⟩) n cap1 vs w4 (Reads.more (Reads.below HFF.out HBS4.out) (by have := HBS4.out.size; have := HB2E.out; omega)) (by omega))
  rw [← HB4E.out] at HMC3
  go_upto_region 6 with (go_at_call 36; refine HMC3.out.mono ?_; rintro e w5 ⟨v3, e3, rfl, hl, hm, hbl⟩; obtain ⟨A3, c3, rfl, _, _⟩ := own_slice hl.row; have HLL3 := hide hl; have HM3 := hide hm; have HBX := hide hbl; clear hl hm hbl)
  obtain ⟨b5, hhi⟩ : ∃ b, b = w5.heap.size := ⟨_, rfl⟩
  have HB5E := hide hhi
  have hle3 : b4 ≤ b5 := by have := HBX.out.size; have := HB4E.out; omega
  have X3 := hide (LX.of HLL3.out hhi)
  have X1 := hide (X1.out.below HBX.out (by omega))
  have X2 := hide (X2.out.below HBX.out (by omega))
  have HBS5 := hide (HBS4.out.trans (HBX.out.mono (by omega)))
  have hn3 : e3.length ≤ 65536 := es_len HM3.out
  clear HMC3 HLL3 HBX hhi HBS4
  have HMC4 := hide (minimal_prog (some ⟨g2, 0, none⟩) n' cap2 us w5 (Reads.more (Reads.below HRF.out HBS5.out) (by have := HBS5.out.size; have := HB2E.out; omega)) (by omega))
  rw [← HB5E.out] at HMC4
  go_upto_region 7 with (go_at_call 36; refine HMC4.out.mono ?_; rintro e w6 ⟨v4, e4, rfl, hl, hm, hbl⟩; obtain ⟨A4, c4, rfl, _, _⟩ := own_slice hl.row; have HLL4 := hide hl; have HM4 := hide hm; have HBX := hide hbl; clear hl hm hbl)
  obtain ⟨b6, hhi⟩ : ∃ b, b = w6.heap.size := ⟨_, rfl⟩
  have HB6E := hide hhi
  have hle4 : b5 ≤ b6 := by have := HBX.out.size; have := HB5E.out; omega
  have X4 := hide (LX.of HLL4.out hhi)
  have X1 := hide (X1.out.below HBX.out (by omega))
  have X2 := hide (X2.out.below HBX.out (by omega))
  have X3 := hide (X3.out.below HBX.out (by omega))
  have HBS6 := hide (HBS5.out.trans (HBX.out.mono (by omega)))
  have hn4 : e4.length ≤ 65536 := es_len HM4.out
  clear HMC4 HLL4 HBX hhi HBS5
  have HMC5 := hide (minimal_prog (some ⟨g2, 0, none⟩) n' cap2 us w6 (Reads.more (Reads.below HRF.out HBS6.out) (by have := HBS6.out.size; have := HB2E.out; omega)) (by omega))
  rw [← HB6E.out] at HMC5
  go_upto_region 8 with (go_at_call 36; refine HMC5.out.mono ?_; rintro e w7 ⟨v5, e5, rfl, hl, hm, hbl⟩; obtain ⟨A5, c5, rfl, _, _⟩ := own_slice hl.row; have HLL5 := hide hl; have HM5 := hide hm; have HBX := hide hbl; clear hl hm hbl)
  obtain ⟨b7, hhi⟩ : ∃ b, b = w7.heap.size := ⟨_, rfl⟩
  have HB7E := hide hhi
  have hle5 : b6 ≤ b7 := by have := HBX.out.size; have := HB6E.out; omega
  have X5 := hide (LX.of HLL5.out hhi)
  have X1 := hide (X1.out.below HBX.out (by omega))
  have X2 := hide (X2.out.below HBX.out (by omega))
  have X3 := hide (X3.out.below HBX.out (by omega))
  have X4 := hide (X4.out.below HBX.out (by omega))
  have HBS7 := hide (HBS6.out.trans (HBX.out.mono (by omega)))
  have hn5 : e5.length ≤ 65536 := es_len HM5.out
  clear HMC5 HLL5 HBX hhi HBS6
  have HMC6 := hide (refMin_any A b2 n c vs w7 (Reads.below HV.out HBS7.out) (by have := HBS7.out.size; have := HB2E.out; omega) (by omega))
  rw [← HB7E.out] at HMC6
  go_upto_region 9 with (go_at_call 37; refine HMC6.out.mono ?_; rintro e w8 ⟨v6, e6, rfl, hl, hm, hbl⟩; obtain ⟨A6, c6, rfl, _, _⟩ := own_slice hl.row; have HLL6 := hide hl; have HM6 := hide hm; have HBX := hide hbl; clear hl hm hbl)
  obtain ⟨b8, hhi⟩ : ∃ b, b = w8.heap.size := ⟨_, rfl⟩
  have HB8E := hide hhi
  have hle6 : b7 ≤ b8 := by have := HBX.out.size; have := HB7E.out; omega
  have X6 := hide (LX.of HLL6.out hhi)
  have X1 := hide (X1.out.below HBX.out (by omega))
  have X2 := hide (X2.out.below HBX.out (by omega))
  have X3 := hide (X3.out.below HBX.out (by omega))
  have X4 := hide (X4.out.below HBX.out (by omega))
  have X5 := hide (X5.out.below HBX.out (by omega))
  have HBS8 := hide (HBS7.out.trans (HBX.out.mono (by omega)))
  have hn6 : e6.length ≤ 65536 := es_len HM6.out
  clear HMC6 HLL6 HBX hhi HBS7
  have HMC7 := hide (refMin_any A' b2 n' c' us w8 (Reads.below HU.out HBS8.out) (by have := HBS8.out.size; have := HB2E.out; omega) (by omega))
  rw [← HB8E.out] at HMC7
  go_upto_region 10 with (go_at_call 37; refine HMC7.out.mono ?_; rintro e w9 ⟨v7, e7, rfl, hl, hm, hbl⟩; obtain ⟨A7, c7, rfl, _, _⟩ := own_slice hl.row; have HLL7 := hide hl; have HM7 := hide hm; have HBX := hide hbl; clear hl hm hbl)
  obtain ⟨b9, hhi⟩ : ∃ b, b = w9.heap.size := ⟨_, rfl⟩
  have HB9E := hide hhi
  have hle7 : b8 ≤ b9 := by have := HBX.out.size; have := HB8E.out; omega
  have X7 := hide (LX.of HLL7.out hhi)
  have X1 := hide (X1.out.below HBX.out (by omega))
  have X2 := hide (X2.out.below HBX.out (by omega))
  have X3 := hide (X3.out.below HBX.out (by omega))
  have X4 := hide (X4.out.below HBX.out (by omega))
  have X5 := hide (X5.out.below HBX.out (by omega))
  have X6 := hide (X6.out.below HBX.out (by omega))
  have HBS9 := hide (HBS8.out.trans (HBX.out.mono (by omega)))
  have hn7 : e7.length ≤ 65536 := es_len HM7.out
  clear HMC7 HLL7 HBX hhi HBS8
  have Q9 : Hid (QS w2 w9 b2 b3 b4 b5 b6 b7 b8 b9 A1 c1 e1 A2 c2 e2 A3 c3 e3 A4 c4 e4 A5 c5 e5 A6 c6 e6 A7 c7 e7) := ⟨X1.out, X2.out, X3.out, X4.out, X5.out, X6.out, X7.out, HBS9.out, Nat.le_of_eq HB9E.out, hle1, hle2, hle3, hle4, hle5, hle6, hle7, HB2E.out⟩
  have E16 : Hid (e1.map En.l = e6.map En.l) := HM1.out.trans HM6.out.symm
  have E36 : Hid (e3.map En.l = e6.map En.l) := HM3.out.trans HM6.out.symm
  have E27 : Hid (e2.map En.l = e7.map En.l) := HM2.out.trans HM7.out.symm
  have E47 : Hid (e4.map En.l = e7.map En.l) := HM4.out.trans HM7.out.symm
  have E57 : Hid (e5.map En.l = e7.map En.l) := HM5.out.trans HM7.out.symm
  have HNUM : ∀ (x : Int) (W : World), Hid (Calls Try.prog 17 #[.int .i64 x] W fun e w' => e = .returned (.int .i64 x) ∧ W = w') := fun x W => num_any x W
  have R16 : ∀ W, Hid (QS w2 W b2 b3 b4 b5 b6 b7 b8 b9 A1 c1 e1 A2 c2 e2 A3 c3 e3 A4 c4 e4 A5 c5 e5 A6 c6 e6 A7 c7 e7) → Hid (Calls Try.prog 38 #[.slice A1 e1.length c1, .slice A6 e6.length c6] W fun e w' => e = .returned (.bool true) ∧ QS w2 w' b2 b3 b4 b5 b6 b7 b8 b9 A1 c1 e1 A2 c2 e2 A3 c3 e3 A4 c4 e4 A5 c5 e5 A6 c6 e6 A7 c7 e7) := fun W hq => hq.out.lists16 E16.out hn1
  have R36 : ∀ W, Hid (QS w2 W b2 b3 b4 b5 b6 b7 b8 b9 A1 c1 e1 A2 c2 e2 A3 c3 e3 A4 c4 e4 A5 c5 e5 A6 c6 e6 A7 c7 e7) → Hid (Calls Try.prog 38 #[.slice A3 e3.length c3, .slice A6 e6.length c6] W fun e w' => e = .returned (.bool true) ∧ QS w2 w' b2 b3 b4 b5 b6 b7 b8 b9 A1 c1 e1 A2 c2 e2 A3 c3 e3 A4 c4 e4 A5 c5 e5 A6 c6 e6 A7 c7 e7) := fun W hq => hq.out.lists36 E36.out hn3
  have R27 : ∀ W, Hid (QS w2 W b2 b3 b4 b5 b6 b7 b8 b9 A1 c1 e1 A2 c2 e2 A3 c3 e3 A4 c4 e4 A5 c5 e5 A6 c6 e6 A7 c7 e7) → Hid (Calls Try.prog 38 #[.slice A2 e2.length c2, .slice A7 e7.length c7] W fun e w' => e = .returned (.bool true) ∧ QS w2 w' b2 b3 b4 b5 b6 b7 b8 b9 A1 c1 e1 A2 c2 e2 A3 c3 e3 A4 c4 e4 A5 c5 e5 A6 c6 e6 A7 c7 e7) := fun W hq => hq.out.lists27 E27.out hn2
  have R47 : ∀ W, Hid (QS w2 W b2 b3 b4 b5 b6 b7 b8 b9 A1 c1 e1 A2 c2 e2 A3 c3 e3 A4 c4 e4 A5 c5 e5 A6 c6 e6 A7 c7 e7) → Hid (Calls Try.prog 38 #[.slice A4 e4.length c4, .slice A7 e7.length c7] W fun e w' => e = .returned (.bool true) ∧ QS w2 w' b2 b3 b4 b5 b6 b7 b8 b9 A1 c1 e1 A2 c2 e2 A3 c3 e3 A4 c4 e4 A5 c5 e5 A6 c6 e6 A7 c7 e7) := fun W hq => hq.out.lists47 E47.out hn4
  have R57 : ∀ W, Hid (QS w2 W b2 b3 b4 b5 b6 b7 b8 b9 A1 c1 e1 A2 c2 e2 A3 c3 e3 A4 c4 e4 A5 c5 e5 A6 c6 e6 A7 c7 e7) → Hid (Calls Try.prog 38 #[.slice A5 e5.length c5, .slice A7 e7.length c7] W fun e w' => e = .returned (.bool true) ∧ QS w2 w' b2 b3 b4 b5 b6 b7 b8 b9 A1 c1 e1 A2 c2 e2 A3 c3 e3 A4 c4 e4 A5 c5 e5 A6 c6 e6 A7 c7 e7) := fun W hq => hq.out.lists57 E57.out hn5
  have G16 : ∀ W, Hid (QS w2 W b2 b3 b4 b5 b6 b7 b8 b9 A1 c1 e1 A2 c2 e2 A3 c3 e3 A4 c4 e4 A5 c5 e5 A6 c6 e6 A7 c7 e7) → Hid (Calls Try.prog 39 #[.slice A1 e1.length c1, .slice A6 e6.length c6] W fun e w' => e = .returned (.bool true) ∧ QS w2 w' b2 b3 b4 b5 b6 b7 b8 b9 A1 c1 e1 A2 c2 e2 A3 c3 e3 A4 c4 e4 A5 c5 e5 A6 c6 e6 A7 c7 e7) := fun W hq => hq.out.grow16 E16.out hn1
  have G27 : ∀ W, Hid (QS w2 W b2 b3 b4 b5 b6 b7 b8 b9 A1 c1 e1 A2 c2 e2 A3 c3 e3 A4 c4 e4 A5 c5 e5 A6 c6 e6 A7 c7 e7) → Hid (Calls Try.prog 39 #[.slice A2 e2.length c2, .slice A7 e7.length c7] W fun e w' => e = .returned (.bool true) ∧ QS w2 w' b2 b3 b4 b5 b6 b7 b8 b9 A1 c1 e1 A2 c2 e2 A3 c3 e3 A4 c4 e4 A5 c5 e5 A6 c6 e6 A7 c7 e7) := fun W hq => hq.out.grow27 E27.out hn2
  have KF : ∀ W, Hid (QS w2 W b2 b3 b4 b5 b6 b7 b8 b9 A1 c1 e1 A2 c2 e2 A3 c3 e3 A4 c4 e4 A5 c5 e5 A6 c6 e6 A7 c7 e7) → Hid (Calls Try.prog 27 #[.slice (some ⟨g1, 0, none⟩) (n + 64) cap1, .slice A n c] W fun e w' => e = .returned (.bool true) ∧ QS w2 w' b2 b3 b4 b5 b6 b7 b8 b9 A1 c1 e1 A2 c2 e2 A3 c3 e3 A4 c4 e4 A5 c5 e5 A6 c6 e6 A7 c7 e7) := fun W hq => hq.out.kept HF.out hc1 HV.out (by omega)
  have KR : ∀ W, Hid (QS w2 W b2 b3 b4 b5 b6 b7 b8 b9 A1 c1 e1 A2 c2 e2 A3 c3 e3 A4 c4 e4 A5 c5 e5 A6 c6 e6 A7 c7 e7) → Hid (Calls Try.prog 27 #[.slice (some ⟨g2, 0, none⟩) (n' + 64) cap2, .slice A' n' c'] W fun e w' => e = .returned (.bool true) ∧ QS w2 w' b2 b3 b4 b5 b6 b7 b8 b9 A1 c1 e1 A2 c2 e2 A3 c3 e3 A4 c4 e4 A5 c5 e5 A6 c6 e6 A7 c7 e7) := fun W hq => hq.out.kept HR.out hc2 HU.out (by omega)
  clear X1 X2 X3 X4 X5 X6 X7 HBS9
  have hd1 : ((chkE vs) != (chkE vs)) = false := by simp
  have hd2 : ((chkE us) != (chkE us)) = false := by simp
  generalize hf1 : chkE vs = f1 at *
  generalize hf2 : chkE us = f2 at *
  have HF1 := hide hf1
  clear hf1 hf2
  go_upto_region 12 with (first | (go_at_call 17; (with_reducible refine (HNUM _ _).out.mono ?_); rintro e w' ⟨rfl, rfl⟩) | (go_at_call 38; (with_reducible refine (R16 _ (by assumption)).out.mono ?_); rintro e wl ⟨rfl, hql⟩; have QL := hide hql; clear hql) | (go_at_call 38; (with_reducible refine (R36 _ (by assumption)).out.mono ?_); rintro e wl ⟨rfl, hql⟩; have QL := hide hql; clear hql) | (go_at_call 38; (with_reducible refine (R27 _ (by assumption)).out.mono ?_); rintro e wl ⟨rfl, hql⟩; have QL := hide hql; clear hql) | (go_at_call 38; (with_reducible refine (R47 _ (by assumption)).out.mono ?_); rintro e wl ⟨rfl, hql⟩; have QL := hide hql; clear hql) | (go_at_call 38; (with_reducible refine (R57 _ (by assumption)).out.mono ?_); rintro e wl ⟨rfl, hql⟩; have QL := hide hql; clear hql))
  go_upto_region 15 with (first | (go_at_call 17; (with_reducible refine (HNUM _ _).out.mono ?_); rintro e w' ⟨rfl, rfl⟩) | (go_at_call 27; (with_reducible refine (KF _ (by assumption)).out.mono ?_); rintro e wl ⟨rfl, hql⟩; have QL := hide hql; clear hql) | (go_at_call 27; (with_reducible refine (KR _ (by assumption)).out.mono ?_); rintro e wl ⟨rfl, hql⟩; have QL := hide hql; clear hql) | (go_at_call 39; (with_reducible refine (G16 _ (by assumption)).out.mono ?_); rintro e wl ⟨rfl, hql⟩; have QL := hide hql; clear hql) | (go_at_call 39; (with_reducible refine (G27 _ (by assumption)).out.mono ?_); rintro e wl ⟨rfl, hql⟩; have QL := hide hql; clear hql) | (go_at_call 38; (with_reducible refine (R16 _ (by assumption)).out.mono ?_); rintro e wl ⟨rfl, hql⟩; have QL := hide hql; clear hql) | (go_at_call 38; (with_reducible refine (R36 _ (by assumption)).out.mono ?_); rintro e wl ⟨rfl, hql⟩; have QL := hide hql; clear hql) | (go_at_call 38; (with_reducible refine (R27 _ (by assumption)).out.mono ?_); rintro e wl ⟨rfl, hql⟩; have QL := hide hql; clear hql) | (go_at_call 38; (with_reducible refine (R47 _ (by assumption)).out.mono ?_); rintro e wl ⟨rfl, hql⟩; have QL := hide hql; clear hql) | (go_at_call 38; (with_reducible refine (R57 _ (by assumption)).out.mono ?_); rintro e wl ⟨rfl, hql⟩; have QL := hide hql; clear hql))
  obtain ⟨i32, hi32, hz32, hs32, hb32⟩ := info_parts info32
  have I32 := hide hi32
  clear hi32
  obtain ⟨s0, hs0⟩ : ∃ s : List En, s = [] := ⟨_, rfl⟩
  have HNIL : Hid (AL wl b2 b9 (.slice none 0 0) s0) := by subst hs0; exact ⟨LL.nil _ _, World.ownsRow_nil _ _ _ _⟩
  have hlow0 : Hid (∀ e ∈ s0, e.g < b2) := by subst hs0; exact fun e he => by cases he
  have hal0 : s0.length ≤ 0 := by subst hs0; exact Nat.le_refl _
  clear hs0
  go_upto_region 16 with (at_builtin; go_loud (refine wpList_append_any _ rfl _ (.tmp 175) 76 rfl b9 32 i32 _ 1 24 Try.underlying76 I32.out hz32 hs32 hb32 rfl (by omega) (.slice none 0 0) s0.length (s0.map En.v) rfl HNIL.out.row wl.heap.size A1 e1.length c1 (e1.map En.v) rfl QL.out.x1.reads (envs_one e1) (by unfold maxLen; omega) (by omega) QL.out.big ?_; intro va1 wa1 hown hg _; have HA1 := hide (AL.add HNIL.out QL.out.x1 (by omega) hlow0.out hown hg (by omega)); have QA1 := hide (QS.all QL.out HNIL.out hg); clear hown hg))
  have hal1 : (s0 ++ e1).length ≤ 65536 := by rw [List.length_append]; omega
  have hlow1 : Hid (∀ e ∈ (s0 ++ e1), e.g < b3) := fun e he => by
    rcases List.mem_append.1 he with he | he
    · have := hlow0.out e he
      omega
    · exact QA1.out.x1.eb e he
  obtain ⟨s1, hs1⟩ : ∃ s, s = s0 ++ e1 := ⟨_, rfl⟩
  rw [← hs1] at HA1 hal1 hlow1
  clear hs1
  go_upto_region 17 with (at_builtin; go_loud (refine wpList_append_any _ rfl _ (.tmp 178) 76 rfl b9 32 i32 _ 1 24 Try.underlying76 I32.out hz32 hs32 hb32 rfl (by omega) va1 s1.length (s1.map En.v) rfl HA1.out.row wa1.heap.size A2 e2.length c2 (e2.map En.v) rfl QA1.out.x2.reads (envs_one e2) (by unfold maxLen; omega) (by omega) QA1.out.big ?_; intro va2 wa2 hown hg _; have HA2 := hide (AL.add HA1.out QA1.out.x2 (by omega) hlow1.out hown hg (by omega)); have QA2 := hide (QS.all QA1.out HA1.out hg); clear hown hg))
  have hal2 : (s1 ++ e2).length ≤ 131072 := by rw [List.length_append]; omega
  have hlow2 : Hid (∀ e ∈ (s1 ++ e2), e.g < b4) := fun e he => by
    rcases List.mem_append.1 he with he | he
    · have := hlow1.out e he
      omega
    · exact QA2.out.x2.eb e he
  obtain ⟨s2, hs2⟩ : ∃ s, s = s1 ++ e2 := ⟨_, rfl⟩
  rw [← hs2] at HA2 hal2 hlow2
  clear hs2
  go_upto_region 18 with (at_builtin; go_loud (refine wpList_append_any _ rfl _ (.tmp 181) 76 rfl b9 32 i32 _ 1 24 Try.underlying76 I32.out hz32 hs32 hb32 rfl (by omega) va2 s2.length (s2.map En.v) rfl HA2.out.row wa2.heap.size A3 e3.length c3 (e3.map En.v) rfl QA2.out.x3.reads (envs_one e3) (by unfold maxLen; omega) (by omega) QA2.out.big ?_; intro va3 wa3 hown hg _; have HA3 := hide (AL.add HA2.out QA2.out.x3 (by omega) hlow2.out hown hg (by omega)); have QA3 := hide (QS.all QA2.out HA2.out hg); clear hown hg))
  have hal3 : (s2 ++ e3).length ≤ 196608 := by rw [List.length_append]; omega
  have hlow3 : Hid (∀ e ∈ (s2 ++ e3), e.g < b5) := fun e he => by
    rcases List.mem_append.1 he with he | he
    · have := hlow2.out e he
      omega
    · exact QA3.out.x3.eb e he
  obtain ⟨s3, hs3⟩ : ∃ s, s = s2 ++ e3 := ⟨_, rfl⟩
  rw [← hs3] at HA3 hal3 hlow3
  clear hs3
  go_upto_region 19 with (at_builtin; go_loud (refine wpList_append_any _ rfl _ (.tmp 184) 76 rfl b9 32 i32 _ 1 24 Try.underlying76 I32.out hz32 hs32 hb32 rfl (by omega) va3 s3.length (s3.map En.v) rfl HA3.out.row wa3.heap.size A4 e4.length c4 (e4.map En.v) rfl QA3.out.x4.reads (envs_one e4) (by unfold maxLen; omega) (by omega) QA3.out.big ?_; intro va4 wa4 hown hg _; have HA4 := hide (AL.add HA3.out QA3.out.x4 (by omega) hlow3.out hown hg (by omega)); have QA4 := hide (QS.all QA3.out HA3.out hg); clear hown hg))
  have hal4 : (s3 ++ e4).length ≤ 262144 := by rw [List.length_append]; omega
  have hlow4 : Hid (∀ e ∈ (s3 ++ e4), e.g < b6) := fun e he => by
    rcases List.mem_append.1 he with he | he
    · have := hlow3.out e he
      omega
    · exact QA4.out.x4.eb e he
  obtain ⟨s4, hs4⟩ : ∃ s, s = s3 ++ e4 := ⟨_, rfl⟩
  rw [← hs4] at HA4 hal4 hlow4
  clear hs4
  go_upto_region 20 with (at_builtin; go_loud (refine wpList_append_any _ rfl _ (.tmp 187) 76 rfl b9 32 i32 _ 1 24 Try.underlying76 I32.out hz32 hs32 hb32 rfl (by omega) va4 s4.length (s4.map En.v) rfl HA4.out.row wa4.heap.size A5 e5.length c5 (e5.map En.v) rfl QA4.out.x5.reads (envs_one e5) (by unfold maxLen; omega) (by omega) QA4.out.big ?_; intro va5 wa5 hown hg _; have HA5 := hide (AL.add HA4.out QA4.out.x5 (by omega) hlow4.out hown hg (by omega)); have QA5 := hide (QS.all QA4.out HA4.out hg); clear hown hg))
  have hal5 : (s4 ++ e5).length ≤ 327680 := by rw [List.length_append]; omega
  have hlow5 : Hid (∀ e ∈ (s4 ++ e5), e.g < b7) := fun e he => by
    rcases List.mem_append.1 he with he | he
    · have := hlow4.out e he
      omega
    · exact QA5.out.x5.eb e he
  obtain ⟨s5, hs5⟩ : ∃ s, s = s4 ++ e5 := ⟨_, rfl⟩
  rw [← hs5] at HA5 hal5 hlow5
  clear hs5
  obtain ⟨Aa, ca, rfl, _, _⟩ := own_slice HA5.out.row
  have HAL := hide (alone_true b2 Aa ca s5 wa5 HA5.out.ll (by omega) (by have := QA5.out.big; omega))
  go_upto_region 22 with (go_at_call 40; refine HAL.out.mono ?_; rintro e wx ⟨rfl, hox⟩; have HOX := hide hox; clear hox)
  have X6 : Hid (LX wx b7 b8 (.slice A6 e6.length c6) e6) := QA5.out.x6.only HOX.out (fun q hq => by
    obtain ⟨e, he, rfl⟩ := hq
    exact .inl (hlow5.out e he))
  have HBX : Hid (Below b2 w2 wx) := QA5.out.bel.trans (HOX.out.below (by have := QA5.out.big; omega) (fun q hq1 hq2 => by
    obtain ⟨e, he, rfl⟩ := hq2
    have := (HA5.out.ll.ent e he).lt.1
    omega))
  have hbx8 : b9 ≤ wx.heap.size := by have := QA5.out.big; have := HOX.out.size; omega
  have HMC := hide (minimal_prog (some ⟨g1, 0, none⟩) n cap1 vs wx (Reads.more (Reads.below HFF.out HBX.out) (by omega)) (by omega))
  rw [HF1.out] at HMC
  go_upto_region 23 with (go_at_call 36; refine HMC.out.mono ?_; rintro e wy ⟨vy, ey, rfl, hl, hm, hbl⟩; obtain ⟨Ay, cy, rfl, _, _⟩ := own_slice hl.row; have HLY := hide hl; have HMY := hide hm; have HBY := hide hbl; clear hl hm hbl)
  have X6y := hide (X6.out.below HBY.out (by omega))
  have HB2Y : Hid (Below b2 w2 wy) := HBX.out.trans (HBY.out.mono (by omega))
  have hny : ey.length ≤ 65536 := es_len HMY.out
  have EY : Hid (ey.map En.l = e6.map En.l) := HMY.out.trans HM6.out.symm
  have HLT : Hid (Calls Try.prog 38 #[.slice Ay ey.length cy, .slice A6 e6.length c6] wy fun e w' => e = .returned (.bool true) ∧ ∃ q, w' = wy.drewN q) := by
    obtain ⟨_, _, p1, r1, _⟩ := HLY.out.lr
    obtain ⟨_, _, p2, r2, _⟩ := X6y.out.ll.lr
    injection p1 with p1 _ _
    injection p2 with p2 _ _
    subst p1 p2
    exact lists_true _ _ _ _ _ _ _ r1 r2 EY.out (by omega)
  go_wp2_with (first | (go_at_call 17; (with_reducible refine (HNUM _ _).out.mono ?_); rintro e w' ⟨rfl, rfl⟩) | (go_at_call 38; refine HLT.out.mono ?_; rintro e wp ⟨rfl, q, hq⟩; have HQ := hide hq; clear hq) | (go_at_call 27; refine (kept_true _ _ b2 b2 n cap1 c vs _ (Reads.below HF.out (by rw [HQ.out]; exact below_drewN HB2Y.out q)) hc1 (Reads.below HV.out (by rw [HQ.out]; exact below_drewN HB2Y.out q)) (by omega)).mono ?_; rintro e wq ⟨rfl, q2, hq2⟩; have HQ2 := hide hq2; clear hq2))
  go_ret
  refine ⟨rfl, ?_⟩
  rw [HQ2.out, HQ.out]
  exact below_drewN (below_drewN (HBW.out.trans (HB2Y.out.mono (by have := HBW.out.size; have := HB2E.out; have := HBASE.out; omega))) q) q2
end Go.Proofs.Yteckffndboiknaa
