/-
  The reference's Writable. (Printed by wip/tools/mkrwr.py.) The words of the kinds of marks. (Printed by wip/tools/mkwords.py.) Plain facts on the reference's lists; numbers in a block read as a list.
-/
import Derived.Test.YtenebkkfjalcaaaDoorZWrS
set_option linter.unusedVariables false
set_option linter.unusedSimpArgs false
namespace Go.Proofs.YtenebkkfjalcaaaDoor
open Go.RowKit Go.WideShapes Go.ChangeShapes Q

theorem info3 : (Tryd.prog.info? 3).map (fun i => (i.zero, i.size, i.bytes)) = some (some (.int .i64 0), 1, 8) := by kernel_rfl
theorem flat_snoc {l : List (Int × Int × Int)} {k : Nat} (hk : k < l.length) : flat (l.take (k + 1)) = flat (l.take k) ++ [pidA l k, incA l k, cidA l k] := by
  unfold flat
  rw [List.take_succ_eq_append_getElem hk, List.flatMap_append]
  simp [pidA, incA, cidA, hk]
theorem ints_app (a b : List Int) : ints (a ++ b) = ints a ++ ints b := by simp [ints]
theorem ints_one' (l : List Int) : ∀ u ∈ ints l, u.oneCell' = true := by
  intro u hu
  obtain ⟨x, _, rfl⟩ := List.mem_map.1 hu
  rfl
theorem cntB_app (a b : List Int) : cntB (a ++ b) = (cntB a && cntB b) := by simp [cntB]
theorem own_slice {w : World} {base : Nat} {e : TypeId} {size n : Nat} {v : Value} {xs : List Value} (h : w.ownsRow base e size v n xs) : ∃ A c, v = .slice A n c ∧ Reads w w.heap.size size A n xs ∧ n ≤ c := by
  have hr := h
  rcases h.2 with ⟨rfl, h0⟩ | ⟨g, cap, cur, rfl, _, hg, hc, _⟩
  · refine ⟨none, 0, by rw [h0], ⟨h.1, fun hn => by omega⟩, by omega⟩
  · exact ⟨some ⟨g, 0, none⟩, cap, rfl, Reads.of_own hr, hc⟩

set_option maxRecDepth 100000 in
set_option maxHeartbeats 4000000 in
theorem rwritable_any (m : Mk) (w : World) (hm : MkIn w w.heap.size m) :
    Calls Tryd.prog 14 #[m.v] w fun e w' => e = .returned (.bool (wrB m)) ∧ Below w.heap.size w w' := by
  by_cases h : 1 ≤ m.kd ∧ m.kd ≤ 16 ∧ -4611686018427387904 ≤ m.rn ∧ m.rn ≤ 4611686018427387904 ∧ 0 ≤ m.er ∧ m.er ≤ 999
  · have HF : Hid (wrB m = (cntB (flat m.ms) && cntB m.ns && cntB m.ts)) := by
      show _ = _
      unfold wrB
      rw [decide_eq_true h]
      rfl
    have HM := hide hm
    have HB0 : Hid (Blk (w.alloc (.cells m.cs 48)) w.heap.size 48 m.cs) := Blk.new _ _ _
    have HW0 : Hid (Below w.heap.size w (w.alloc (.cells m.cs 48))) := (Below.refl _ _).alloc (Nat.le_refl _) _
    obtain ⟨aT, kd, nd, ic, ep, ld, ii, ci, Am, nm, cm, ms, At, nt, ct, ts, se, sq, po, n, Ab, nb, cb, bd, cl, cn, rq, op, key, val, old, co, rv, rn, er⟩ := m
    simp only [Mk.v, Mk.cs, Mk.ns] at h HF HB0 HW0 ⊢
    have hmm := HM.out.mem
    have hnm := HM.out.hm
    have htr := HM.out.tr
    have hnt := HM.out.ht
    simp only at hmm hnm htr hnt
    have HMM := hide hmm
    have HTR := hide htr
    have hml := hide hmm.len
    have htl := hide (RI.len htr)
    have e0 : decide (kd < 1) = false := decide_eq_false (by omega)
    have e1 : decide (16 < kd) = false := decide_eq_false (by omega)
    have e2 : decide (rn < -4611686018427387904) = false := decide_eq_false (by omega)
    have e3 : decide (4611686018427387904 < rn) = false := decide_eq_false (by omega)
    have e4 : decide (er < 0) = false := decide_eq_false (by omega)
    have e5 : decide (999 < er) = false := decide_eq_false (by omega)
    obtain ⟨i3, hi3, hz3, hs3, hb3⟩ := info_parts info3
    have I3 := hide hi3
    have HO0 : Hid (((w.alloc (.cells #[.int .i64 aT, .int .i64 kd, .int .i64 nd, .int .i64 ic, .int .i64 ep, .int .i64 ld, .int .i64 ii, .int .i64 ci, .slice Am nm cm, .slice At nt ct, .int .i64 se, .int .i64 sq, .int .i64 po, .int .i64 n, .slice Ab nb cb, .int .i64 cl, .int .i64 cn, .int .i64 rq, .int .i64 op, .string key, .string val, .string old, .int .i64 co, .string rv, .int .i64 rn, .int .i64 er] 48)).alloc (.cells #[.int .i64 aT, .int .i64 nd, .int .i64 ic, .int .i64 ep, .int .i64 ld, .int .i64 ii, .int .i64 ci, .int .i64 se, .int .i64 sq, .int .i64 po, .int .i64 n, .int .i64 cl, .int .i64 cn, .int .i64 rq, .int .i64 op, .int .i64 co] 3)).ownsRow (w.heap.size + 1) 3 1 (.slice (some ⟨w.heap.size + 1, 0, none⟩) 16 16) 16 (ints [aT, nd, ic, ep, ld, ii, ci, se, sq, po, n, cl, cn, rq, op, co])) := by
      have ho := own_of_alloc (w.alloc (.cells #[.int .i64 aT, .int .i64 kd, .int .i64 nd, .int .i64 ic, .int .i64 ep, .int .i64 ld, .int .i64 ii, .int .i64 ci, .slice Am nm cm, .slice At nt ct, .int .i64 se, .int .i64 sq, .int .i64 po, .int .i64 n, .slice Ab nb cb, .int .i64 cl, .int .i64 cn, .int .i64 rq, .int .i64 op, .string key, .string val, .string old, .int .i64 co, .string rv, .int .i64 rn, .int .i64 er] 48)) 3 (ints [aT, nd, ic, ep, ld, ii, ci, se, sq, po, n, cl, cn, rq, op, co]) 16 rfl (by unfold maxLen; omega)
      rw [show (w.alloc (.cells #[.int .i64 aT, .int .i64 kd, .int .i64 nd, .int .i64 ic, .int .i64 ep, .int .i64 ld, .int .i64 ii, .int .i64 ci, .slice Am nm cm, .slice At nt ct, .int .i64 se, .int .i64 sq, .int .i64 po, .int .i64 n, .slice Ab nb cb, .int .i64 cl, .int .i64 cn, .int .i64 rq, .int .i64 op, .string key, .string val, .string old, .int .i64 co, .string rv, .int .i64 rn, .int .i64 er] 48)).heap.size = w.heap.size + 1 by simp] at ho
      exact ho
    have HW1 : Hid (Below w.heap.size w ((w.alloc (.cells #[.int .i64 aT, .int .i64 kd, .int .i64 nd, .int .i64 ic, .int .i64 ep, .int .i64 ld, .int .i64 ii, .int .i64 ci, .slice Am nm cm, .slice At nt ct, .int .i64 se, .int .i64 sq, .int .i64 po, .int .i64 n, .slice Ab nb cb, .int .i64 cl, .int .i64 cn, .int .i64 rq, .int .i64 op, .string key, .string val, .string old, .int .i64 co, .string rv, .int .i64 rn, .int .i64 er] 48)).alloc (.cells #[.int .i64 aT, .int .i64 nd, .int .i64 ic, .int .i64 ep, .int .i64 ld, .int .i64 ii, .int .i64 ci, .int .i64 se, .int .i64 sq, .int .i64 po, .int .i64 n, .int .i64 cl, .int .i64 cn, .int .i64 rq, .int .i64 op, .int .i64 co] 3))) := HW0.out.alloc (by simp) _
    have HB1 : Hid (Blk ((w.alloc (.cells #[.int .i64 aT, .int .i64 kd, .int .i64 nd, .int .i64 ic, .int .i64 ep, .int .i64 ld, .int .i64 ii, .int .i64 ci, .slice Am nm cm, .slice At nt ct, .int .i64 se, .int .i64 sq, .int .i64 po, .int .i64 n, .slice Ab nb cb, .int .i64 cl, .int .i64 cn, .int .i64 rq, .int .i64 op, .string key, .string val, .string old, .int .i64 co, .string rv, .int .i64 rn, .int .i64 er] 48)).alloc (.cells #[.int .i64 aT, .int .i64 nd, .int .i64 ic, .int .i64 ep, .int .i64 ld, .int .i64 ii, .int .i64 ci, .int .i64 se, .int .i64 sq, .int .i64 po, .int .i64 n, .int .i64 cl, .int .i64 cn, .int .i64 rq, .int .i64 op, .int .i64 co] 3)) w.heap.size 48 #[.int .i64 aT, .int .i64 kd, .int .i64 nd, .int .i64 ic, .int .i64 ep, .int .i64 ld, .int .i64 ii, .int .i64 ci, .slice Am nm cm, .slice At nt ct, .int .i64 se, .int .i64 sq, .int .i64 po, .int .i64 n, .slice Ab nb cb, .int .i64 cl, .int .i64 cn, .int .i64 rq, .int .i64 op, .string key, .string val, .string old, .int .i64 co, .string rv, .int .i64 rn, .int .i64 er]) := HB0.out.alloc _
    clear h hm hmm hi3 htr HB0 HW0
    go_enter Tryd.func14, Tryd.ntmps14
    go_upto_region 5 with fail
    go_loopw [3, 4] (fun v i wr => ∃ (k : Nat) (A : Option Addr) (c : Nat), k ≤ nm ∧ i = .int .i64 k ∧ v = .slice A (16 + 3 * k) c ∧ Hid (wr.ownsRow (w.heap.size + 1) 3 1 (.slice A (16 + 3 * k) c) (16 + 3 * k) (ints ([aT, nd, ic, ep, ld, ii, ci, se, sq, po, n, cl, cn, rq, op, co] ++ flat (ms.take k)))) ∧ Hid (Below w.heap.size w wr) ∧ Hid (Blk wr w.heap.size 48 #[.int .i64 aT, .int .i64 kd, .int .i64 nd, .int .i64 ic, .int .i64 ep, .int .i64 ld, .int .i64 ii, .int .i64 ci, .slice Am nm cm, .slice At nt ct, .int .i64 se, .int .i64 sq, .int .i64 po, .int .i64 n, .slice Ab nb cb, .int .i64 cl, .int .i64 cn, .int .i64 rq, .int .i64 op, .string key, .string val, .string old, .int .i64 co, .string rv, .int .i64 rn, .int .i64 er])) (fun _ i _ => nm - (intOf i).toNat)
    case atStart => exact ⟨0, _, _, Nat.zero_le _, rfl, rfl, HO0.out, HW1.out, HB1.out⟩
    case round =>
      obtain ⟨k, A, c, hk, rfl, rfl, hown, hb, hblk⟩ := hrel
      clear HO0 HW1 HB1
      have hsb : w.heap.size + 1 ≤ wr.heap.size := hblk.out.lt
      have c8 : wr.cell? ⟨w.heap.size, 8, none⟩ = some (.slice Am nm cm) := by have := hblk.out.cell 8; simpa using this
      have c9 : wr.cell? ⟨w.heap.size, 9, none⟩ = some (.slice At nt ct) := by have := hblk.out.cell 9; simpa using this
      by_cases hlt : k < nm
      · obtain ⟨b, off, rfl, hbB, q0, q1, q2⟩ := RS.at_ (Reads.below HMM.out hb.out) hlt
        have k0 : (0 : Int) ≤ (k : Int) := by omega
        have kn : (k : Int) < (nm : Int) := by omega
        obtain ⟨x, hx⟩ : ∃ x, x = pidA ms k := ⟨_, rfl⟩
        obtain ⟨y, hy⟩ : ∃ y, y = incA ms k := ⟨_, rfl⟩
        obtain ⟨z, hz⟩ : ∃ z, z = cidA ms k := ⟨_, rfl⟩
        have HFS := hide (flat_snoc (l := ms) (k := k) (by have := hml.out; omega))
        rw [← hx, ← hy, ← hz] at HFS
        rw [← hx] at q0
        rw [← hy] at q1
        rw [← hz] at q2
        have HBX := hblk.out.lt
        clear hx hy hz
        go_upto_region 7 with fail
        go_region_held3 (fun W => W.cell? ⟨w.heap.size, 8, none⟩ = some (.slice (some ⟨b, off, none⟩) nm cm) ∧ W.cell? ⟨b, off + k * 3, none⟩ = some (.int .i64 x) ∧ W.cell? ⟨b, off + k * 3 + 1, none⟩ = some (.int .i64 y) ∧ W.cell? ⟨b, off + k * 3 + 2, none⟩ = some (.int .i64 z))
          (first | exact ⟨c8, q0, q1, q2⟩ | exact ⟨(World.cell?_alloc_lt wr _ _ HBX).trans c8, (World.cell?_alloc_lt wr _ _ (by show b < _; omega)).trans q0, (World.cell?_alloc_lt wr _ _ (by show b < _; omega)).trans q1, (World.cell?_alloc_lt wr _ _ (by show b < _; omega)).trans q2⟩ | exact hS7)
          ((refine step_push _ (by rfl) (.tmp 84) (.tmp 103) _ (by rfl) (w.heap.size + 1) 3 i3 _ 1 8 Tryd.underlying41 I3.out hz3 hs3 hb3 (by rfl) (by omega) (.slice A (16 + 3 * k) c) (16 + 3 * k) (ints ([aT, nd, ic, ep, ld, ii, ci, se, sq, po, n, cl, cn, rq, op, co] ++ flat (ms.take k))) (by rfl) ?_ wr.heap.size 3 3 #[.int .i64 x, .int .i64 y, .int .i64 z] (by rfl) ?_ (by rfl) ?_ (by omega) ?_ ?_ ?_ ?_; exact hown.out.alloc _; exact Blk.new wr _ _; (intro u hu; simp at hu; rcases hu with rfl | rfl | rfl <;> rfl); (unfold maxLen; omega); omega; (simp; omega); intro g7 c7 w7 hown7 hgr7 _ _; have hL7 := (hb.out.alloc (show w.heap.size ≤ wr.heap.size by omega) (.cells #[.int .i64 x, .int .i64 y, .int .i64 z] 3)).drew.grown hgr7 (by simp; omega) (fun q hq => by have := (hown.out.lt q hq).1; omega); have hB7 := Blk.grown (Blk.drew (hblk.out.alloc (.cells #[.int .i64 x, .int .i64 y, .int .i64 z] 3))) hgr7 (own_ne hown.out hblk.out (by decide)); have HL7 := hide hL7; have HB7 := hide hB7; have HO7 := hide hown7; have hS7 : w7.cell? ⟨w.heap.size, 8, none⟩ = some (.slice (some ⟨b, off, none⟩) nm cm) ∧ w7.cell? ⟨b, off + k * 3, none⟩ = some (.int .i64 x) ∧ w7.cell? ⟨b, off + k * 3 + 1, none⟩ = some (.int .i64 y) ∧ w7.cell? ⟨b, off + k * 3 + 2, none⟩ = some (.int .i64 z) := ⟨by have := hB7.cell 8; simpa using this, ((hL7.cell (p := ⟨b, off + k * 3, none⟩) hbB).trans (hb.out.cell (p := ⟨b, off + k * 3, none⟩) hbB).symm).trans q0, ((hL7.cell (p := ⟨b, off + k * 3 + 1, none⟩) hbB).trans (hb.out.cell (p := ⟨b, off + k * 3 + 1, none⟩) hbB).symm).trans q1, ((hL7.cell (p := ⟨b, off + k * 3 + 2, none⟩) hbB).trans (hb.out.cell (p := ⟨b, off + k * 3 + 2, none⟩) hbB).symm).trans q2⟩; clear hL7 hB7 hown7))
        all_goals
          have HO8 : Hid (w7.ownsRow (w.heap.size + 1) 3 1 (.slice (some ⟨g7, 0, none⟩) (16 + 3 * (k + 1)) c7) (16 + 3 * (k + 1)) (ints ([aT, nd, ic, ep, ld, ii, ci, se, sq, po, n, cl, cn, rq, op, co] ++ flat (ms.take (k + 1))))) := by
            rw [HFS.out, ← List.append_assoc, ints_app, show 16 + 3 * (k + 1) = 16 + 3 * k + 3 by omega]
            exact HO7.out
          clear HO7
          go_wp2_with fail
          go_roundw
          case rel => exact ⟨k + 1, _, _, by omega, by go_num, rfl, HO8, HL7, HB7⟩
          case measure => simp [intOf]; omega
      · obtain hkn : k = nm := by omega
        have kn : ¬ (k : Int) < (nm : Int) := by omega
        have hfl : ms.take k = ms := List.take_of_length_le (by have := hml.out; omega)
        have HON : Hid (wr.ownsRow (w.heap.size + 1) 3 1 (.slice A (16 + 3 * k) c) (16 + 3 * k) (ints ([aT, nd, ic, ep, ld, ii, ci, se, sq, po, n, cl, cn, rq, op, co] ++ flat ms))) := by
          have := hown.out
          rw [hfl] at this
          exact this
        clear hlt hown hkn hfl
        go_wp2_with (first
          | (at_builtin; refine wpList_append_any _ rfl (.tmp 105) (.tmp 107) 41 rfl (w.heap.size + 1) 3 i3 _ 1 8 Tryd.underlying41 I3.out hz3 hs3 hb3 rfl (by omega) (.slice A (16 + 3 * k) c) (16 + 3 * k) _ rfl HON.out w.heap.size At nt ct (ints ts) rfl (Reads.below HTR.out hb.out) (ints_one' ts) (by unfold maxLen; omega) (by omega) hsb ?_; intro v7 w7 hown7 hgr7 _; obtain ⟨A7, c7, rfl, hrd7, _⟩ := own_slice hown7; have HCT : Hid (Calls Tryd.prog 27 #[.slice A7 (16 + 3 * k + nt) c7] w7 fun e w' => e = .returned (.bool (cntB ([aT, nd, ic, ep, ld, ii, ci, se, sq, po, n, cl, cn, rq, op, co] ++ flat ms ++ ts))) ∧ w7 = w') := counts_any A7 _ _ c7 _ w7 (by have := hrd7; rw [← ints_app] at this; exact this) (by omega); have HL7 := hide (hb.out.grown hgr7 (by omega) (fun q hq => by have := (HON.out.lt q hq).1; omega)); clear hown7 hgr7 hrd7)
          | (go_at_call 27; (with_reducible refine HCT.out.mono ?_); rintro e w' ⟨rfl, rfl⟩))
        go_ret
        refine ⟨?_, HL7.out⟩
        rw [HF.out]
        show Ending.returned (.bool (cntB ([aT, nd, ic, ep, ld, ii, ci, se, sq, po, n, cl, cn, rq, op, co] ++ flat ms ++ ts))) = _
        rw [cntB_app, cntB_app, Bool.and_comm (cntB (flat ms))]
  · exact rwr_first m w h
end Go.Proofs.YtenebkkfjalcaaaDoor
set_option linter.unusedVariables false
set_option linter.unusedSimpArgs false
namespace Go.Proofs.YtenebkkfjalcaaaDoor
open Go.RowKit Go.WideShapes Go.ChangeShapes Q

def kindL : List (List UInt8) := [[], [98, 111, 111, 116], [99, 114, 97, 115, 104], [104, 97, 108, 116], [115, 101, 110, 100], [114, 101, 102, 117, 115, 101], [98, 108, 111, 99, 107], [105, 110, 115, 116, 97, 108, 108], [100, 101, 108, 105, 118, 101, 114], [115, 97, 102, 101], [97, 100, 111, 112, 116], [100, 111], [97, 112, 112, 108, 121], [114, 101, 112, 108, 121], [102, 117, 108, 108], [114, 111, 117, 110, 100], [108, 101, 97, 118, 101]]
def kindV : Array Value := #[.string { data := #[] }, .string { data := #[98, 111, 111, 116] }, .string { data := #[99, 114, 97, 115, 104] }, .string { data := #[104, 97, 108, 116] }, .string { data := #[115, 101, 110, 100] }, .string { data := #[114, 101, 102, 117, 115, 101] }, .string { data := #[98, 108, 111, 99, 107] }, .string { data := #[105, 110, 115, 116, 97, 108, 108] }, .string { data := #[100, 101, 108, 105, 118, 101, 114] }, .string { data := #[115, 97, 102, 101] }, .string { data := #[97, 100, 111, 112, 116] }, .string { data := #[100, 111] }, .string { data := #[97, 112, 112, 108, 121] }, .string { data := #[114, 101, 112, 108, 121] }, .string { data := #[102, 117, 108, 108] }, .string { data := #[114, 111, 117, 110, 100] }, .string { data := #[108, 101, 97, 118, 101] }]
theorem kindV_eq : kindV = (strs kindL).toArray := rfl
theorem kindV_at {k : Nat} (hk : k < 17) : kindV[k]? = some (.string (S (kindL.getD k []))) := by
  rw [kindV_eq, List.getElem?_toArray]
  unfold strs
  rw [List.getElem?_map, List.getElem?_eq_getElem (show k < kindL.length from hk), Option.map_some]
  simp [List.getD, List.getElem?_eq_getElem (show k < kindL.length from hk)]
theorem kindL_len (k : Nat) : (kindL.getD k []).length ≤ 7 := by
  rcases Nat.lt_or_ge k 17 with h | h
  · have : ∀ k : Fin 17, (kindL.getD k.val []).length ≤ 7 := by decide
    exact this ⟨k, h⟩
  · have : kindL.getD k [] = [] := by simp [kindL, List.getD, List.getElem?_eq_none, h]
    rw [this]
    simp
set_option maxRecDepth 100000 in
theorem words_any (w : World) : Calls Tryd.prog 35 #[] w fun e w' => e = .returned (.slice (some ⟨w.heap.size, 0, none⟩) 17 17) ∧ w.alloc (.cells kindV 9) = w' := by
  unfold kindV
  go_enter Tryd.func35, Tryd.ntmps35
  go_wp2_with fail
  go_ret
  exact ⟨rfl, rfl⟩
end Go.Proofs.YtenebkkfjalcaaaDoor
set_option linter.unusedVariables false
set_option linter.unusedSimpArgs false
namespace Go.Proofs.YtenebkkfjalcaaaDoor
open Go.RowKit Go.WideShapes Go.ChangeShapes Q

theorem okC_nat {x : Int} (h : okC x = true) : ∃ n : Nat, x = (n : Int) ∧ n ≤ 4611686018427387904 := by
  unfold okC at h
  have := of_decide_eq_true h
  exact ⟨x.toNat, by omega, by omega⟩
def triL (l : List (Int × Int × Int)) (k : Nat) : List UInt8 := slashL [(pidA l k).toNat, (incA l k).toNat, (cidA l k).toNat]
/-- The members' part, k of them. -/
def memL (l : List (Int × Int × Int)) : Nat → List UInt8
  | 0 => []
  | k + 1 => memL l k ++ (if k = 0 then [32, 109, 101, 109, 98, 101, 114, 115, 61] else [44]) ++ triL l k
def traL (l : List Int) : Nat → List UInt8
  | 0 => []
  | k + 1 => traL l k ++ (if k = 0 then [32, 116, 114, 97, 110, 115, 61] else [44]) ++ Lib.decDigits (nth l k).toNat
def idL (ep ld ii ci : Int) : List UInt8 := if ep = 0 ∧ ld = 0 ∧ ii = 0 ∧ ci = 0 then [] else [32, 105, 100, 61] ++ slashL [ep.toNat, ld.toNat, ii.toNat, ci.toNat]
theorem tri_len (x y z : Nat) (hx : x ≤ 4611686018427387904) (hy : y ≤ 4611686018427387904) (hz : z ≤ 4611686018427387904) : (slashL [x, y, z]).length ≤ 60 := by
  have := slash_len [x, y, z] (by intro a ha; simp at ha; rcases ha with rfl | rfl | rfl <;> omega) 3 (by simp)
  simpa using this
theorem ri_of_blk {W : World} {g : Nat} {l : List Int} (h : Blk W g 3 (ints l).toArray) : RI W W.heap.size (some ⟨g, 0, none⟩) l.length l :=
  ⟨by simp [ints], fun _ => ⟨_, rfl, h.lt, fun j u hu => by
    have := h.cell j
    rw [show (⟨g, 0, none⟩ : Addr).add j = ⟨g, j, none⟩ by simp [Addr.add]; try exact fun e => e.symm, this]
    simpa using hu⟩⟩
theorem mem_len (l : List (Int × Int × Int)) (h : ∀ k, k < l.length → ∃ x y z : Nat, pidA l k = x ∧ incA l k = y ∧ cidA l k = z ∧ x ≤ 4611686018427387904 ∧ y ≤ 4611686018427387904 ∧ z ≤ 4611686018427387904) : ∀ k, k ≤ l.length → (memL l k).length ≤ 70 * k
  | 0, _ => by simp [memL]
  | k + 1, hk => by
    have h1 := mem_len l h k (by omega)
    obtain ⟨x, y, z, ex, ey, ez, hx, hy, hz⟩ := h k (by omega)
    have h2 := tri_len x y z hx hy hz
    rw [memL, List.length_append, List.length_append, triL, ex, ey, ez]
    simp only [Int.toNat_natCast]
    split <;> simp <;> omega

end Go.Proofs.YtenebkkfjalcaaaDoor
