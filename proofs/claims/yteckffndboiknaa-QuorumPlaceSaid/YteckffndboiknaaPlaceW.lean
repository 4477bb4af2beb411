/-
  QuorumPlace answers true.
-/
import Derived.Test.YteckffndboiknaaLeastS
import Derived.Test.YteckffndboiknaaTol
set_option linter.unusedVariables false
set_option linter.unusedSimpArgs false
namespace Go.Proofs.Yteckffndboiknaa
open Go.RowKit Go.WideShapes Go.ChangeShapes Q

theorem alloc_size (w : World) (o : Obj) : (w.alloc o).heap.size = w.heap.size + 1 := by simp
/-- A block whose first m cells are ints, whatever ints. -/
def IR3 (w : World) (g m : Nat) : Prop := ∃ cur : Array Value, Blk w g 3 cur ∧ ∀ j, j < m → ∃ x, cur[j]? = some (.int .i64 x)
theorem IR3.at_ {w : World} {g m : Nat} (h : IR3 w g m) {j : Nat} (hj : j < m) : (∃ x, w.cell? ⟨g, j, none⟩ = some (.int .i64 x)) ∧ w.frozen? ⟨g, j, none⟩ = false := by
  obtain ⟨cur, hb, hs⟩ := h
  obtain ⟨x, hx⟩ := hs j hj
  exact ⟨⟨x, by rw [hb.cell, hx]⟩, hb.frozen j⟩
theorem IR3.set_ {w : World} {g m : Nat} (h : IR3 w g m) (j : Nat) (y : Int) : IR3 (w.setCell ⟨g, j, none⟩ (.int .i64 y)) g m := by
  obtain ⟨cur, hb, hs⟩ := h
  refine ⟨_, hb.set_ j _, fun i hi => ?_⟩
  obtain ⟨x, hx⟩ := hs i hi
  by_cases e : j = i
  · subst e
    have hl : j < cur.size := (Array.getElem?_eq_some_iff.1 hx).1
    exact ⟨y, by rw [Array.getElem?_setIfInBounds_self_of_lt hl]⟩
  · exact ⟨x, by rw [Array.getElem?_setIfInBounds_ne e]; exact hx⟩
theorem IR3.reads {w : World} {g m : Nat} (h : IR3 w g m) : ∃ xs, RI w w.heap.size (some ⟨g, 0, none⟩) m xs := by
  obtain ⟨cur, hb, hs⟩ := h
  refine ⟨(List.range m).map fun j => intOf ((cur[j]?).getD (.int .i64 0)), by simp [ints], fun _ => ⟨_, rfl, hb.lt, fun j u hu => ?_⟩⟩
  have hj : j < m := by
    have := (List.getElem?_eq_some_iff.1 hu).1
    simpa [ints] using this
  obtain ⟨x, hx⟩ := hs j hj
  have : u = .int .i64 x := by
    simp only [ints, List.map_map, List.getElem?_map, List.getElem?_range hj, Option.map_some, Function.comp] at hu
    injection hu with hu
    rw [← hu, hx]
    rfl
  rw [this, show (⟨g, 0, none⟩ : Addr).add j = ⟨g, j, none⟩ by simp [Addr.add]; try exact fun e => e.symm, hb.cell, hx]
theorem IR3.new (w : World) (vs : List Int) (n : Nat) (h : vs.length = n) : IR3 (w.alloc (.cells (ints vs).toArray 3)) w.heap.size n :=
  ⟨_, Blk.new _ _ _, fun j hj => ⟨vs[j], by simp [ints, h ▸ hj]⟩⟩
theorem IR3.below {w w' : World} {g m B : Nat} (h : IR3 w g m) (hb : Below B w w') (hB : g < B) : IR3 w' g m := by
  obtain ⟨cur, h1, h2⟩ := h
  exact ⟨cur, h1.below hb hB, h2⟩

set_option maxRecDepth 100000 in
set_option maxHeartbeats 8000000 in
theorem place_walk (A A' A'' : Option Addr) (n c n' c' n'' c'' : Nat) (vs us ss : List Int) (w : World) (h : RI w w.heap.size A n vs) (h' : RI w w.heap.size A' n' us) (h'' : RI w w.heap.size A'' n'' ss) (hn : n * 8 ≤ 140737488351232) (hn' : n' * 8 ≤ 140737488351232) (hn'' : n'' * 8 ≤ 140737488351232) (hc : n ≤ c) :
    Calls Try.prog 14 #[.slice A n c, .slice A' n' c', .slice A'' n'' c''] w fun e w' => e = .returned (.bool true) ∧ Below w.heap.size w w' := by
  have HV := hide h
  have HU := hide h'
  have HS := hide h''
  obtain ⟨N, hN⟩ : ∃ N, N = if n' < n then n' else n := ⟨_, rfl⟩
  have hNn : N ≤ n := by rw [hN]; split <;> omega
  have hNm : N ≤ n' := by rw [hN]; split <;> omega
  have HT := hide (h.take hNn)
  have HC := hide (copied_any A N c (vs.take N) w HT.out (by omega))
  obtain ⟨base, hbase⟩ : ∃ b, b = w.heap.size := ⟨_, rfl⟩
  have HBASE := hide hbase
  have HIR := hide (IR3.new w (vs.take N) N HT.out.len)
  have hNc : (N : Int) ≤ (c : Int) := by omega
  have hN0 : (0 : Int) ≤ (N : Int) := by omega
  rw [← hbase] at HC HV HU HS HIR ⊢
  clear h h' h'' hbase
  have HB0 : Hid (Below base w (w.alloc (.cells (ints (vs.take N)).toArray 3))) := (Below.refl base w).alloc (by have := HBASE.out; omega) _
  have hsz0 : base < (w.alloc (.cells (ints (vs.take N)).toArray 3)).heap.size := by
    obtain ⟨cur, hb, _⟩ := HIR.out
    exact hb.lt
  have HVN : Hid (RI w base A N (vs.take N)) := RI.take HV.out hNn
  have HUN : Hid (RI w base A' N (us.take N)) := RI.take HU.out hNm
  clear HV HU
  by_cases hlt : n' < n
  · rw [if_pos hlt] at hN
    have hlti : (n' : Int) < (n : Int) := by omega
    rw [← hN] at ⊢ hlti
    clear hN hlt
    go_enter Try.func14, Try.ntmps14
    go_upto_region 6 with (go_at_call 20; refine HC.out.mono ?_; rintro e w' ⟨rfl, rfl⟩)
    clear HC
    go_loopw [9] (fun tv wr => ∃ t : Nat, t ≤ 3 ∧ tv = .int .i64 t ∧ Hid (IR3 wr base N) ∧ Hid (Below base w wr)) (fun tv _ => 3 - (intOf tv).toNat)
    case atStart => exact ⟨0, by omega, rfl, HIR, HB0⟩
    case round =>
      obtain ⟨t, ht, rfl, hir, hbw⟩ := hrel
      clear HIR HB0 hsz0
      by_cases hlt : t < 3
      · have ti : (t : Int) < 3 := by omega
        obtain ⟨wo, hwo⟩ : ∃ wo, wo = wr := ⟨_, rfl⟩
        rw [← hwo] at hir hbw ⊢
        clear hwo hlt
        go_upto_region 9 with fail
        go_loopw [10] (fun iv wy => ∃ i : Nat, i ≤ N ∧ iv = .int .i64 i ∧ Hid (IR3 wy base N) ∧ Hid (Below base w wy)) (fun iv _ => N - (intOf iv).toNat)
        case atStart => exact ⟨0, Nat.zero_le _, rfl, hir, hbw⟩
        case round =>
          obtain ⟨i, hi, rfl, hi2, hb2⟩ := hrel
          clear hir hbw
          by_cases hlt : i < N
          · have i0 : (0 : Int) ≤ (i : Int) := by omega
            have i1 : (i : Int) < (N : Int) := by omega
            have i2 : (i : Int) < (n : Int) := by omega
            have i3 : (i : Int) < (n' : Int) := by omega
            obtain ⟨ad, rfl, hadb, hadc⟩ := RI.at_ (Reads.below HVN.out hb2.out) hlt
            obtain ⟨ad', rfl, hadb', hadc'⟩ := RI.at_ (Reads.below HUN.out hb2.out) hlt
            obtain ⟨⟨x0, hx0⟩, hf0⟩ := hi2.out.at_ hlt
            obtain ⟨X, hX⟩ : ∃ X, X = nth (vs.take N) i := ⟨_, rfl⟩
            obtain ⟨Y, hY⟩ : ∃ Y, Y = nth (us.take N) i := ⟨_, rfl⟩
            rw [← hX] at hadc
            rw [← hY] at hadc'
            clear hX hY
            have hi3 : Hid (IR3 (wr.setCell ⟨base, i, none⟩ (.int .i64 X)) base N) := hi2.out.set_ i X
            have hb3 : Hid (Below base w (wr.setCell ⟨base, i, none⟩ (.int .i64 X))) := hb2.out.setCell (Nat.le_refl _) _
            by_cases h1 : t = 1
            · subst h1
              obtain ⟨⟨x1, hx1⟩, hf1⟩ := hi3.out.at_ hlt
              have hcc : (wr.setCell ⟨base, i, none⟩ (.int .i64 X)).cell? (ad'.add i) = some (.int .i64 Y) := ((Below.setCell (Below.refl base wr) (p := ⟨base, i, none⟩) (Nat.le_refl _) (.int .i64 X)).cell (p := ad'.add i) (by rw [block_of_add]; exact hadb')).trans hadc'
              have hi4 : Hid (IR3 ((wr.setCell ⟨base, i, none⟩ (.int .i64 X)).setCell ⟨base, i, none⟩ (.int .i64 Y)) base N) := hi3.out.set_ i Y
              have hb4 : Hid (Below base w ((wr.setCell ⟨base, i, none⟩ (.int .i64 X)).setCell ⟨base, i, none⟩ (.int .i64 Y))) := hb3.out.setCell (Nat.le_refl _) _
              go_wp2_with fail
              go_roundw
              case rel => exact ⟨i + 1, by omega, by go_num, hi4, hb4⟩
              case measure => simp [intOf]; omega
            · have h1i : ¬ (t : Int) = 1 := by omega
              go_wp2_with fail
              go_roundw
              case rel => exact ⟨i + 1, by omega, by go_num, hi3, hb3⟩
              case measure => simp [intOf]; omega
          · obtain ⟨xs, hxs⟩ := hi2.out.reads
            obtain ⟨W0, hW0⟩ : ∃ W0, W0 = wr := ⟨_, rfl⟩
            rw [← hW0] at hi2 hb2 hxs ⊢
            clear hW0
            have HXS := hide hxs
            have hin : ¬ (i : Int) < (N : Int) := by omega
            have HCX := hide (copied_any (some ⟨base, 0, none⟩) N N xs W0 hxs (by omega))
            obtain ⟨B0, hB0⟩ : ∃ b, b = W0.heap.size := ⟨_, rfl⟩
            have HB0E := hide hB0
            have hNEW : Hid (RI (W0.alloc (.cells (ints xs).toArray 3)) (W0.heap.size + 1) (some ⟨W0.heap.size, 0, none⟩) N xs) := by
              have h1 : RI (W0.alloc (.cells (ints xs).toArray 3)) (W0.alloc (.cells (ints xs).toArray 3)).heap.size (some ⟨W0.heap.size, 0, none⟩) N xs := Reads.of_own (own_of_alloc W0 3 (ints xs) N (by rw [ints_len]; exact hxs.len) (by unfold maxLen; omega))
              exact Reads.more h1 (by rw [alloc_size]; exact Nat.le_refl _)
            rw [← hB0] at HCX hNEW
            clear hxs hlt hB0
            go_upto_region 15 with (go_at_call 20; refine HCX.out.mono ?_; rintro e w1 ⟨rfl, hw1⟩; have HW1 := hide hw1; clear hw1)
            obtain ⟨B1, hB1⟩ : ∃ b, b = w1.heap.size := ⟨_, rfl⟩
            have HB1E := hide hB1
            have hB01 : B1 = B0 + 1 := by rw [hB1, ← HW1.out, alloc_size, HB0E.out]
            have hbl0 : Below B0 W0 w1 := by rw [← HW1.out]; exact (Below.refl _ _).alloc (by have := HB0E.out; omega) _
            have hbase0 : base < B0 := by
              obtain ⟨cur, hb, _⟩ := hi2.out
              have := hb.lt
              have := HB0E.out
              omega
            have HRL : Hid (RI w1 B1 (some ⟨base, 0, none⟩) N xs) := Reads.more (Reads.below (Reads.more HXS.out (by have := HB0E.out; omega)) hbl0) (by omega)
            have HRV : Hid (RI w1 B1 (some ⟨B0, 0, none⟩) N xs) := by
              have := hNEW.out
              rw [HW1.out] at this
              exact Reads.more this (by have := HB0E.out; omega)
            have HIR1 : Hid (IR3 w1 base N) := hi2.out.below hbl0 hbase0
            have HBW1 : Hid (Below base w w1) := hb2.out.trans (hbl0.mono (by omega))
            have HRS : Hid (RI w1 B1 A'' n'' ss) := Reads.more (Reads.below HS.out HBW1.out) (by omega)
            clear HCX hNEW hi2 hb2 hB1 hbl0 HXS HW1
            have HMC := hide (minimal_prog (some ⟨base, 0, none⟩) N N xs w1 (Reads.more HRL.out (by have := HB1E.out; omega)) (by omega))
            rw [← HB1E.out] at HMC
            go_upto_region 16 with (go_at_call 36; refine HMC.out.mono ?_; rintro e w2 ⟨va, ea, rfl, hl, hm, hbl⟩; obtain ⟨Aa, ca, rfl, _, _⟩ := own_slice hl.row; have HLA := hide hl; have HMA := hide hm; have HB12 := hide hbl; clear hl hm hbl)
            obtain ⟨b2, hb2⟩ : ∃ b, b = w2.heap.size := ⟨_, rfl⟩
            have HB2E := hide hb2
            have hle2 : B1 ≤ b2 := by have := HB12.out.size; have := HB1E.out; omega
            have XA := hide (LX.of HLA.out hb2)
            have HMC2 := hide (refMin_any (some ⟨B0, 0, none⟩) B1 N N xs w2 (Reads.below HRV.out HB12.out) (by omega) (by omega))
            rw [← HB2E.out] at HMC2
            clear HMC hb2
            go_upto_region 17 with (go_at_call 37; refine HMC2.out.mono ?_; rintro e w3 ⟨vb, eb, rfl, hl, hm, hbl⟩; obtain ⟨Ab, cb, rfl, _, _⟩ := own_slice hl.row; have HLB := hide hl; have HMB := hide hm; have HB23 := hide hbl; clear hl hm hbl)
            obtain ⟨b3, hb3⟩ : ∃ b, b = w3.heap.size := ⟨_, rfl⟩
            have HB3E := hide hb3
            have hle3 : b2 ≤ b3 := by have := HB23.out.size; have := HB2E.out; omega
            have XB := hide (LX.of HLB.out hb3)
            have XA3 := hide (XA.out.below HB23.out (Nat.le_refl _))
            have HB13 : Hid (Below B1 w1 w3) := HB12.out.trans (HB23.out.mono hle2)
            clear XA HLA HLB HMC2 hb3
            have HWN := hide (winning_any _ N N xs w3 (Reads.more (Reads.below HRL.out HB13.out) (by have := HB3E.out; omega)) (by omega))
            go_upto_region 18 with (go_at_call 19; refine HWN.out.mono ?_; rintro e w4 ⟨rfl, hbl⟩; have HB34 := hide hbl; clear hbl)
            have HB14 : Hid (Below B1 w1 w4) := HB13.out.trans (HB34.out.mono (by have := HB3E.out; omega))
            have HRW := hide (refWinning_any (some ⟨B0, 0, none⟩) B1 N N xs w4 (Reads.below HRV.out HB14.out) (by omega))
            have hs4 : B1 ≤ w4.heap.size := by have := HB34.out.size; have := HB3E.out; omega
            have HTL := hide (tolerance_any _ N N xs w4 (Reads.more (Reads.below HRL.out HB14.out) hs4) (by omega))
            go_upto_region 20 with (first | (go_at_call 33; refine HRW.out.mono ?_; rintro e w' ⟨rfl, rfl⟩) | (go_at_call 32; refine HTL.out.mono ?_; rintro e w5 ⟨rfl, hbl⟩; have HB45 := hide hbl; clear hbl))
            have HB15 : Hid (Below B1 w1 w5) := HB14.out.trans (HB45.out.mono hs4)
            have hs5 : B1 ≤ w5.heap.size := by have := HB45.out.size; omega
            have HRT := hide (refTol_any (some ⟨B0, 0, none⟩) B1 N N xs w5 (Reads.below HRV.out HB15.out) (by omega))
            have HRS5 : Hid (RI w5 w5.heap.size A'' n'' ss) := Reads.more (Reads.below HRS.out HB15.out) hs5
            have HCS := hide (copied_any A'' n'' c'' ss w5 HRS5.out (by omega))
            obtain ⟨b5, hb5⟩ : ∃ b, b = w5.heap.size := ⟨_, rfl⟩
            have HB5E := hide hb5
            have hNEW : Hid (RI (w5.alloc (.cells (ints ss).toArray 3)) (w5.alloc (.cells (ints ss).toArray 3)).heap.size (some ⟨w5.heap.size, 0, none⟩) n'' ss) := Reads.of_own (own_of_alloc w5 3 (ints ss) n'' (by rw [ints_len]; exact HRS5.out.len) (by unfold maxLen; omega))
            rw [← hb5] at HCS
            have HQU : Hid (∀ w6, w5.alloc (.cells (ints ss).toArray 3) = w6 → Below B1 w1 w6 ∧ B1 ≤ w6.heap.size ∧ Below b3 w3 w6 ∧ Calls Try.prog 24 #[.slice (some ⟨base, 0, none⟩) N N, .slice (some ⟨b5, 0, none⟩) n'' n''] w6 fun e w' => e = .returned (.tuple #[.bool (quoB xs ss), .int .i64 (quoE xs ss)]) ∧ Below w6.heap.size w6 w') := by
              rintro w6 rfl
              have h1 : Below B1 w1 (w5.alloc (.cells (ints ss).toArray 3)) := HB15.out.alloc hs5 _
              have h2 : B1 ≤ (w5.alloc (.cells (ints ss).toArray 3)).heap.size := by rw [alloc_size]; omega
              refine ⟨h1, h2, (HB34.out.mono (by have := HB3E.out; omega)).trans (HB45.out.mono (by have := HB34.out.size; have := HB3E.out; omega)) |>.alloc (by have := HB34.out.size; have := HB45.out.size; have := HB3E.out; omega) _, prog_quorate _ _ N N n'' n'' xs ss _ (Reads.more (Reads.below HRL.out h1) h2) ?_ (by omega) (by omega)⟩
              have := hNEW.out
              rw [← HB5E.out] at this
              exact this
            clear hb5 hNEW HRS5
            go_upto_region 22 with (first | (go_at_call 34; refine HRT.out.mono ?_; rintro e w' ⟨rfl, rfl⟩) | (go_at_call 20; refine HCS.out.mono ?_; rintro e w6 ⟨rfl, hw6⟩; obtain ⟨hb16, hs6, hb36, hq⟩ := HQU.out w6 hw6; have HB16 := hide hb16; have HB36 := hide hb36; have HQ6 := hide hq; clear hb16 hb36 hq hw6) | (go_at_call 24; refine HQ6.out.mono ?_; rintro e w7 ⟨rfl, hbl⟩; have HB67 := hide hbl; clear hbl))
            have HB17 : Hid (Below B1 w1 w7) := HB16.out.trans (HB67.out.mono hs6)
            have hs7 : B1 ≤ w7.heap.size := by have := HB67.out.size; omega
            have HRQ := hide (refQuorate_any (some ⟨B0, 0, none⟩) A'' B1 N N n'' c'' xs ss w7 (Reads.below HRV.out HB17.out) (Reads.below HRS.out HB17.out) (by omega) (by omega))
            go_upto_region 23 with (go_at_call 25; refine HRQ.out.mono ?_; rintro e w' ⟨rfl, rfl⟩)
            have HB37 : Hid (Below b3 w3 w7) := by
              have e6 : Below b3 w3 w6 := HB36.out
              exact e6.trans (HB67.out.mono (by have := e6.size; have := HB3E.out; omega))
            have XA7 := hide (XA3.out.below HB37.out (by omega))
            have XB7 := hide (XB.out.below HB37.out (Nat.le_refl _))
            have EY : Hid (ea.map En.l = eb.map En.l) := HMA.out.trans HMB.out.symm
            have hna : ea.length ≤ 65536 := es_len HMA.out
            have HLT : Hid (Calls Try.prog 38 #[.slice Aa ea.length ca, .slice Ab eb.length cb] w7 fun e w' => e = .returned (.bool true) ∧ ∃ q, w' = w7.drewN q) := by
              obtain ⟨_, _, p1, r1, _⟩ := XA7.out.ll.lr
              obtain ⟨_, _, p2, r2, _⟩ := XB7.out.ll.lr
              injection p1 with p1 _ _
              injection p2 with p2 _ _
              subst p1 p2
              exact lists_true _ _ _ _ _ _ _ r1 r2 EY.out (by omega)
            generalize hf1 : chkE xs = f1 at *
            generalize winE xs = f2 at *
            generalize tolE xs = f3 at *
            generalize quoB xs ss = f4 at *
            generalize quoE xs ss = f5 at *
            have HF1 := hide hf1
            clear hf1
            have HCK : Hid (∀ W, Below B1 w1 W → B1 ≤ W.heap.size → Calls Try.prog 23 #[.slice (some ⟨base, 0, none⟩) N N] W fun e w' => e = .returned (.int .i64 f1) ∧ Below W.heap.size W w') := fun W hb hs => by
              have := check_any (some ⟨base, 0, none⟩) N N xs W (Reads.more (Reads.below HRL.out hb) hs) (by omega)
              rw [HF1.out] at this
              exact this
            have HRC : Hid (∀ W, Below B1 w1 W → Calls Try.prog 26 #[.slice (some ⟨B0, 0, none⟩) N N] W fun e w' => e = .returned (.int .i64 f1) ∧ W = w') := fun W hb => by
              have := refCheck_any (some ⟨B0, 0, none⟩) B1 N N xs W (Reads.below HRV.out hb) (by omega)
              rw [HF1.out] at this
              exact this
            go_upto_region 7 with (first | (go_at_call 17; (with_reducible refine (num_any _ _).mono ?_); rintro e w' ⟨rfl, rfl⟩) | (go_at_call 38; refine HLT.out.mono ?_; rintro e w8 ⟨rfl, q, hq⟩; have HB18 : Hid (Below B1 w1 w8) := (by rw [hq]; exact below_drewN HB17.out q); have hs8 : B1 ≤ w8.heap.size := (by rw [hq]; exact hs7); clear hq) | (go_at_call 23; refine (HCK.out _ HB18.out hs8).mono ?_; rintro e w9 ⟨rfl, hbl⟩; have HB19 : Hid (Below B1 w1 w9) := HB18.out.trans (hbl.mono hs8); clear hbl) | (go_at_call 26; refine (HRC.out _ HB19.out).mono ?_; rintro e w' ⟨rfl, rfl⟩))
            have HIR9 : Hid (IR3 w9 base N) := HIR1.out.below HB19.out (by omega)
            have HBW9 : Hid (Below base w w9) := HBW1.out.trans (HB19.out.mono (by omega))
            go_wp2_with fail
            go_roundw
            case rel => exact ⟨t + 1, by omega, by go_num, HIR9, HBW9⟩
            case measure => simp [intOf]; omega
      · have ti : ¬ (t : Int) < 3 := by omega
        go_wp2_with fail
        go_ret
        exact ⟨rfl, hbw.out⟩
  · rw [if_neg hlt] at hN
    have hlti : ¬ (n' : Int) < (n : Int) := by omega
    rw [← hN] at ⊢ hlti
    clear hN hlt
    go_enter Try.func14, Try.ntmps14
    go_upto_region 6 with (go_at_call 20; refine HC.out.mono ?_; rintro e w' ⟨rfl, rfl⟩)
    clear HC
    go_loopw [9] (fun tv wr => ∃ t : Nat, t ≤ 3 ∧ tv = .int .i64 t ∧ Hid (IR3 wr base N) ∧ Hid (Below base w wr)) (fun tv _ => 3 - (intOf tv).toNat)
    case atStart => exact ⟨0, by omega, rfl, HIR, HB0⟩
    case round =>
      obtain ⟨t, ht, rfl, hir, hbw⟩ := hrel
      clear HIR HB0 hsz0
      by_cases hlt : t < 3
      · have ti : (t : Int) < 3 := by omega
        obtain ⟨wo, hwo⟩ : ∃ wo, wo = wr := ⟨_, rfl⟩
        rw [← hwo] at hir hbw ⊢
        clear hwo hlt
        go_upto_region 9 with fail
        go_loopw [10] (fun iv wy => ∃ i : Nat, i ≤ N ∧ iv = .int .i64 i ∧ Hid (IR3 wy base N) ∧ Hid (Below base w wy)) (fun iv _ => N - (intOf iv).toNat)
        case atStart => exact ⟨0, Nat.zero_le _, rfl, hir, hbw⟩
        case round =>
          obtain ⟨i, hi, rfl, hi2, hb2⟩ := hrel
          clear hir hbw
          by_cases hlt : i < N
          · have i0 : (0 : Int) ≤ (i : Int) := by omega
            have i1 : (i : Int) < (N : Int) := by omega
            have i2 : (i : Int) < (n : Int) := by omega
            have i3 : (i : Int) < (n' : Int) := by omega
            obtain ⟨ad, rfl, hadb, hadc⟩ := RI.at_ (Reads.below HVN.out hb2.out) hlt
            obtain ⟨ad', rfl, hadb', hadc'⟩ := RI.at_ (Reads.below HUN.out hb2.out) hlt
            obtain ⟨⟨x0, hx0⟩, hf0⟩ := hi2.out.at_ hlt
            obtain ⟨X, hX⟩ : ∃ X, X = nth (vs.take N) i := ⟨_, rfl⟩
            obtain ⟨Y, hY⟩ : ∃ Y, Y = nth (us.take N) i := ⟨_, rfl⟩
            rw [← hX] at hadc
            rw [← hY] at hadc'
            clear hX hY
            have hi3 : Hid (IR3 (wr.setCell ⟨base, i, none⟩ (.int .i64 X)) base N) := hi2.out.set_ i X
            have hb3 : Hid (Below base w (wr.setCell ⟨base, i, none⟩ (.int .i64 X))) := hb2.out.setCell (Nat.le_refl _) _
            by_cases h1 : t = 1
            · subst h1
              obtain ⟨⟨x1, hx1⟩, hf1⟩ := hi3.out.at_ hlt
              have hcc : (wr.setCell ⟨base, i, none⟩ (.int .i64 X)).cell? (ad'.add i) = some (.int .i64 Y) := ((Below.setCell (Below.refl base wr) (p := ⟨base, i, none⟩) (Nat.le_refl _) (.int .i64 X)).cell (p := ad'.add i) (by rw [block_of_add]; exact hadb')).trans hadc'
              have hi4 : Hid (IR3 ((wr.setCell ⟨base, i, none⟩ (.int .i64 X)).setCell ⟨base, i, none⟩ (.int .i64 Y)) base N) := hi3.out.set_ i Y
              have hb4 : Hid (Below base w ((wr.setCell ⟨base, i, none⟩ (.int .i64 X)).setCell ⟨base, i, none⟩ (.int .i64 Y))) := hb3.out.setCell (Nat.le_refl _) _
              go_wp2_with fail
              go_roundw
              case rel => exact ⟨i + 1, by omega, by go_num, hi4, hb4⟩
              case measure => simp [intOf]; omega
            · have h1i : ¬ (t : Int) = 1 := by omega
              go_wp2_with fail
              go_roundw
              case rel => exact ⟨i + 1, by omega, by go_num, hi3, hb3⟩
              case measure => simp [intOf]; omega
          · obtain ⟨xs, hxs⟩ := hi2.out.reads
            obtain ⟨W0, hW0⟩ : ∃ W0, W0 = wr := ⟨_, rfl⟩
            rw [← hW0] at hi2 hb2 hxs ⊢
            clear hW0
            have HXS := hide hxs
            have hin : ¬ (i : Int) < (N : Int) := by omega
            have HCX := hide (copied_any (some ⟨base, 0, none⟩) N N xs W0 hxs (by omega))
            obtain ⟨B0, hB0⟩ : ∃ b, b = W0.heap.size := ⟨_, rfl⟩
            have HB0E := hide hB0
            have hNEW : Hid (RI (W0.alloc (.cells (ints xs).toArray 3)) (W0.heap.size + 1) (some ⟨W0.heap.size, 0, none⟩) N xs) := by
              have h1 : RI (W0.alloc (.cells (ints xs).toArray 3)) (W0.alloc (.cells (ints xs).toArray 3)).heap.size (some ⟨W0.heap.size, 0, none⟩) N xs := Reads.of_own (own_of_alloc W0 3 (ints xs) N (by rw [ints_len]; exact hxs.len) (by unfold maxLen; omega))
              exact Reads.more h1 (by rw [alloc_size]; exact Nat.le_refl _)
            rw [← hB0] at HCX hNEW
            clear hxs hlt hB0
            go_upto_region 15 with (go_at_call 20; refine HCX.out.mono ?_; rintro e w1 ⟨rfl, hw1⟩; have HW1 := hide hw1; clear hw1)
            obtain ⟨B1, hB1⟩ : ∃ b, b = w1.heap.size := ⟨_, rfl⟩
            have HB1E := hide hB1
            have hB01 : B1 = B0 + 1 := by rw [hB1, ← HW1.out, alloc_size, HB0E.out]
            have hbl0 : Below B0 W0 w1 := by rw [← HW1.out]; exact (Below.refl _ _).alloc (by have := HB0E.out; omega) _
            have hbase0 : base < B0 := by
              obtain ⟨cur, hb, _⟩ := hi2.out
              have := hb.lt
              have := HB0E.out
              omega
            have HRL : Hid (RI w1 B1 (some ⟨base, 0, none⟩) N xs) := Reads.more (Reads.below (Reads.more HXS.out (by have := HB0E.out; omega)) hbl0) (by omega)
            have HRV : Hid (RI w1 B1 (some ⟨B0, 0, none⟩) N xs) := by
              have := hNEW.out
              rw [HW1.out] at this
              exact Reads.more this (by have := HB0E.out; omega)
            have HIR1 : Hid (IR3 w1 base N) := hi2.out.below hbl0 hbase0
            have HBW1 : Hid (Below base w w1) := hb2.out.trans (hbl0.mono (by omega))
            have HRS : Hid (RI w1 B1 A'' n'' ss) := Reads.more (Reads.below HS.out HBW1.out) (by omega)
            clear HCX hNEW hi2 hb2 hB1 hbl0 HXS HW1
            have HMC := hide (minimal_prog (some ⟨base, 0, none⟩) N N xs w1 (Reads.more HRL.out (by have := HB1E.out; omega)) (by omega))
            rw [← HB1E.out] at HMC
            go_upto_region 16 with (go_at_call 36; refine HMC.out.mono ?_; rintro e w2 ⟨va, ea, rfl, hl, hm, hbl⟩; obtain ⟨Aa, ca, rfl, _, _⟩ := own_slice hl.row; have HLA := hide hl; have HMA := hide hm; have HB12 := hide hbl; clear hl hm hbl)
            obtain ⟨b2, hb2⟩ : ∃ b, b = w2.heap.size := ⟨_, rfl⟩
            have HB2E := hide hb2
            have hle2 : B1 ≤ b2 := by have := HB12.out.size; have := HB1E.out; omega
            have XA := hide (LX.of HLA.out hb2)
            have HMC2 := hide (refMin_any (some ⟨B0, 0, none⟩) B1 N N xs w2 (Reads.below HRV.out HB12.out) (by omega) (by omega))
            rw [← HB2E.out] at HMC2
            clear HMC hb2
            go_upto_region 17 with (go_at_call 37; refine HMC2.out.mono ?_; rintro e w3 ⟨vb, eb, rfl, hl, hm, hbl⟩; obtain ⟨Ab, cb, rfl, _, _⟩ := own_slice hl.row; have HLB := hide hl; have HMB := hide hm; have HB23 := hide hbl; clear hl hm hbl)
            obtain ⟨b3, hb3⟩ : ∃ b, b = w3.heap.size := ⟨_, rfl⟩
            have HB3E := hide hb3
            have hle3 : b2 ≤ b3 := by have := HB23.out.size; have := HB2E.out; omega
            have XB := hide (LX.of HLB.out hb3)
            have XA3 := hide (XA.out.below HB23.out (Nat.le_refl _))
            have HB13 : Hid (Below B1 w1 w3) := HB12.out.trans (HB23.out.mono hle2)
            clear XA HLA HLB HMC2 hb3
            have HWN := hide (winning_any _ N N xs w3 (Reads.more (Reads.below HRL.out HB13.out) (by have := HB3E.out; omega)) (by omega))
            go_upto_region 18 with (go_at_call 19; refine HWN.out.mono ?_; rintro e w4 ⟨rfl, hbl⟩; have HB34 := hide hbl; clear hbl)
            have HB14 : Hid (Below B1 w1 w4) := HB13.out.trans (HB34.out.mono (by have := HB3E.out; omega))
            have HRW := hide (refWinning_any (some ⟨B0, 0, none⟩) B1 N N xs w4 (Reads.below HRV.out HB14.out) (by omega))
            have hs4 : B1 ≤ w4.heap.size := by have := HB34.out.size; have := HB3E.out; omega
            have HTL := hide (tolerance_any _ N N xs w4 (Reads.more (Reads.below HRL.out HB14.out) hs4) (by omega))
            go_upto_region 20 with (first | (go_at_call 33; refine HRW.out.mono ?_; rintro e w' ⟨rfl, rfl⟩) | (go_at_call 32; refine HTL.out.mono ?_; rintro e w5 ⟨rfl, hbl⟩; have HB45 := hide hbl; clear hbl))
            have HB15 : Hid (Below B1 w1 w5) := HB14.out.trans (HB45.out.mono hs4)
            have hs5 : B1 ≤ w5.heap.size := by have := HB45.out.size; omega
            have HRT := hide (refTol_any (some ⟨B0, 0, none⟩) B1 N N xs w5 (Reads.below HRV.out HB15.out) (by omega))
            have HRS5 : Hid (RI w5 w5.heap.size A'' n'' ss) := Reads.more (Reads.below HRS.out HB15.out) hs5
            have HCS := hide (copied_any A'' n'' c'' ss w5 HRS5.out (by omega))
            obtain ⟨b5, hb5⟩ : ∃ b, b = w5.heap.size := ⟨_, rfl⟩
            have HB5E := hide hb5
            have hNEW : Hid (RI (w5.alloc (.cells (ints ss).toArray 3)) (w5.alloc (.cells (ints ss).toArray 3)).heap.size (some ⟨w5.heap.size, 0, none⟩) n'' ss) := Reads.of_own (own_of_alloc w5 3 (ints ss) n'' (by rw [ints_len]; exact HRS5.out.len) (by unfold maxLen; omega))
            rw [← hb5] at HCS
            have HQU : Hid (∀ w6, w5.alloc (.cells (ints ss).toArray 3) = w6 → Below B1 w1 w6 ∧ B1 ≤ w6.heap.size ∧ Below b3 w3 w6 ∧ Calls Try.prog 24 #[.slice (some ⟨base, 0, none⟩) N N, .slice (some ⟨b5, 0, none⟩) n'' n''] w6 fun e w' => e = .returned (.tuple #[.bool (quoB xs ss), .int .i64 (quoE xs ss)]) ∧ Below w6.heap.size w6 w') := by
              rintro w6 rfl
              have h1 : Below B1 w1 (w5.alloc (.cells (ints ss).toArray 3)) := HB15.out.alloc hs5 _
              have h2 : B1 ≤ (w5.alloc (.cells (ints ss).toArray 3)).heap.size := by rw [alloc_size]; omega
              refine ⟨h1, h2, (HB34.out.mono (by have := HB3E.out; omega)).trans (HB45.out.mono (by have := HB34.out.size; have := HB3E.out; omega)) |>.alloc (by have := HB34.out.size; have := HB45.out.size; have := HB3E.out; omega) _, prog_quorate _ _ N N n'' n'' xs ss _ (Reads.more (Reads.below HRL.out h1) h2) ?_ (by omega) (by omega)⟩
              have := hNEW.out
              rw [← HB5E.out] at this
              exact this
            clear hb5 hNEW HRS5
            go_upto_region 22 with (first | (go_at_call 34; refine HRT.out.mono ?_; rintro e w' ⟨rfl, rfl⟩) | (go_at_call 20; refine HCS.out.mono ?_; rintro e w6 ⟨rfl, hw6⟩; obtain ⟨hb16, hs6, hb36, hq⟩ := HQU.out w6 hw6; have HB16 := hide hb16; have HB36 := hide hb36; have HQ6 := hide hq; clear hb16 hb36 hq hw6) | (go_at_call 24; refine HQ6.out.mono ?_; rintro e w7 ⟨rfl, hbl⟩; have HB67 := hide hbl; clear hbl))
            have HB17 : Hid (Below B1 w1 w7) := HB16.out.trans (HB67.out.mono hs6)
            have hs7 : B1 ≤ w7.heap.size := by have := HB67.out.size; omega
            have HRQ := hide (refQuorate_any (some ⟨B0, 0, none⟩) A'' B1 N N n'' c'' xs ss w7 (Reads.below HRV.out HB17.out) (Reads.below HRS.out HB17.out) (by omega) (by omega))
            go_upto_region 23 with (go_at_call 25; refine HRQ.out.mono ?_; rintro e w' ⟨rfl, rfl⟩)
            have HB37 : Hid (Below b3 w3 w7) := by
              have e6 : Below b3 w3 w6 := HB36.out
              exact e6.trans (HB67.out.mono (by have := e6.size; have := HB3E.out; omega))
            have XA7 := hide (XA3.out.below HB37.out (by omega))
            have XB7 := hide (XB.out.below HB37.out (Nat.le_refl _))
            have EY : Hid (ea.map En.l = eb.map En.l) := HMA.out.trans HMB.out.symm
            have hna : ea.length ≤ 65536 := es_len HMA.out
            have HLT : Hid (Calls Try.prog 38 #[.slice Aa ea.length ca, .slice Ab eb.length cb] w7 fun e w' => e = .returned (.bool true) ∧ ∃ q, w' = w7.drewN q) := by
              obtain ⟨_, _, p1, r1, _⟩ := XA7.out.ll.lr
              obtain ⟨_, _, p2, r2, _⟩ := XB7.out.ll.lr
              injection p1 with p1 _ _
              injection p2 with p2 _ _
              subst p1 p2
              exact lists_true _ _ _ _ _ _ _ r1 r2 EY.out (by omega)
            generalize hf1 : chkE xs = f1 at *
            generalize winE xs = f2 at *
            generalize tolE xs = f3 at *
            generalize quoB xs ss = f4 at *
            generalize quoE xs ss = f5 at *
            have HF1 := hide hf1
            clear hf1
            have HCK : Hid (∀ W, Below B1 w1 W → B1 ≤ W.heap.size → Calls Try.prog 23 #[.slice (some ⟨base, 0, none⟩) N N] W fun e w' => e = .returned (.int .i64 f1) ∧ Below W.heap.size W w') := fun W hb hs => by
              have := check_any (some ⟨base, 0, none⟩) N N xs W (Reads.more (Reads.below HRL.out hb) hs) (by omega)
              rw [HF1.out] at this
              exact this
            have HRC : Hid (∀ W, Below B1 w1 W → Calls Try.prog 26 #[.slice (some ⟨B0, 0, none⟩) N N] W fun e w' => e = .returned (.int .i64 f1) ∧ W = w') := fun W hb => by
              have := refCheck_any (some ⟨B0, 0, none⟩) B1 N N xs W (Reads.below HRV.out hb) (by omega)
              rw [HF1.out] at this
              exact this
            go_upto_region 7 with (first | (go_at_call 17; (with_reducible refine (num_any _ _).mono ?_); rintro e w' ⟨rfl, rfl⟩) | (go_at_call 38; refine HLT.out.mono ?_; rintro e w8 ⟨rfl, q, hq⟩; have HB18 : Hid (Below B1 w1 w8) := (by rw [hq]; exact below_drewN HB17.out q); have hs8 : B1 ≤ w8.heap.size := (by rw [hq]; exact hs7); clear hq) | (go_at_call 23; refine (HCK.out _ HB18.out hs8).mono ?_; rintro e w9 ⟨rfl, hbl⟩; have HB19 : Hid (Below B1 w1 w9) := HB18.out.trans (hbl.mono hs8); clear hbl) | (go_at_call 26; refine (HRC.out _ HB19.out).mono ?_; rintro e w' ⟨rfl, rfl⟩))
            have HIR9 : Hid (IR3 w9 base N) := HIR1.out.below HB19.out (by omega)
            have HBW9 : Hid (Below base w w9) := HBW1.out.trans (HB19.out.mono (by omega))
            go_wp2_with fail
            go_roundw
            case rel => exact ⟨t + 1, by omega, by go_num, HIR9, HBW9⟩
            case measure => simp [intOf]; omega
      · have ti : ¬ (t : Int) < 3 := by omega
        go_wp2_with fail
        go_ret
        exact ⟨rfl, hbw.out⟩
end Go.Proofs.Yteckffndboiknaa
