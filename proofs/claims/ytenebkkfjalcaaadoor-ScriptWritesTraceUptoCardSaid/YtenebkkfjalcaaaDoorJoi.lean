/-
  Contract of the program's joined.
-/
import Derived.Test.YtenebkkfjalcaaaDoorIto
set_option linter.unusedVariables false
set_option linter.unusedSimpArgs false
namespace Go.Proofs.YtenebkkfjalcaaaDoor
open Go.RowKit Go.WideShapes Go.ChangeShapes Q

theorem info9 : (Tryd.prog.info? 9).map (fun i => (i.zero, i.size, i.bytes)) = some (some (.string ⟨#[]⟩), 1, 16) := by kernel_rfl
theorem run_make_strs (n : Nat) (hn : n ≤ 1000000000) (W : World) :
    (Instr.makeSlice 66 (.int .i64 (n : Int)) (.int .i64 (n : Int))).run Tryd.prog W = .ok (.slice (some ⟨W.heap.size, 0, none⟩) n n) (W.alloc (.cells (madeCells #[.string ⟨#[]⟩] n) 9)) := by
  obtain ⟨i0, hi, hz0, hz1, hz2⟩ := info_parts info9
  have := run_make_rowN (P := Tryd.prog) 66 9 i0 (.string ⟨#[]⟩) Tryd.underlying66 hi hz0 .i64 .i64 n n (Nat.le_refl _) (by rw [hz2]; omega) (by omega) W
  rw [hz1, Nat.mul_one] at this
  exact this
def Fit (x : Int) : Prop := -9223372036854775808 ≤ x ∧ x ≤ 9223372036854775807

set_option maxRecDepth 100000 in
set_option maxHeartbeats 1000000 in
theorem joined_any (A : Option Addr) (B n c : Nat) (xs : List Int) (sep : List UInt8) (w : World) (h : RI w B A n xs) (hB : B ≤ w.heap.size) (hx : ∀ x ∈ xs, Fit x) (hn : n ≤ 10000000) (hs : sep.length ≤ 1000) (hT : Tab w) :
    Calls Tryd.prog 32 #[.slice A n c, .string (S sep)] w fun e w' => e = .returned (.string (S (Lib.join (xs.map Lib.itoa) sep))) ∧ Below w.heap.size w w' := by
  have hl := h.len
  have HX := hide hx
  have HL := hide hl
  have HR := hide h
  have HT := hide hT
  have hmk := run_make_strs n (by omega)
  clear hx hl h hT
  go_enter Tryd.func32, Tryd.ntmps32
  go_upto_region 3 with fail
  clear hmk
  go_loopw [6, 7, 13] (fun _ _ i wr => ∃ (k : Nat) (C : Array Value), k ≤ n ∧ i = .int .i64 k ∧ Hid (Blk wr w.heap.size 9 C) ∧ Hid (C.size = n ∧ ∀ j x, j < k → xs[j]? = some x → C[j]? = some (.string (S (Lib.itoa x)))) ∧ Hid (Below w.heap.size w wr)) (fun _ _ i _ => n - (intOf i).toNat)
  case atStart => exact ⟨0, madeCells #[.string ⟨#[]⟩] n, Nat.zero_le _, rfl, Blk.new _ _ _, ⟨size_madeCells _ _, fun j x hj => absurd hj (by omega)⟩, (Below.refl _ _).alloc (Nat.le_refl _) _⟩
  case round =>
    obtain ⟨k, C, hk, rfl, hblk, hC, hb⟩ := hrel
    by_cases hlt : k < n
    · obtain ⟨ad, rfl, hab, hc⟩ := RI.at_ (Reads.below HR.out (hb.out.mono hB)) hlt
      have hkx : k < xs.length := by have := HL.out; omega
      obtain ⟨x, hxe⟩ : ∃ x, x = nth xs k := ⟨_, rfl⟩
      have hxk : xs[k]? = some x := by rw [hxe]; simp [nth, hkx]
      rw [← hxe] at hc
      have hfx := HX.out x (List.mem_of_getElem? hxk)
      have HXK := hide hxk
      have k0 : (0 : Int) ≤ (k : Int) := by omega
      have kn : (k : Int) < (n : Int) := by omega
      obtain ⟨wo, hwo⟩ : ∃ wo, wo = wr := ⟨_, rfl⟩
      rw [← hwo] at hblk hb hc ⊢
      have HI := hide (itoa_any x wo hfx.1 hfx.2 (HT.out.below hb.out))
      have hsw : w.heap.size ≤ wo.heap.size := hb.out.size
      clear hxe hxk hwo
      go_wp2_with (go_at_call 30; refine HI.out.mono ?_; rintro e w2 ⟨rfl, hb2⟩; have hB2 := hblk.out.below hb2 hblk.out.lt; obtain ⟨v0, hv0⟩ : ∃ v0, C[k]? = some v0 := ⟨_, Array.getElem?_eq_getElem (by have := hC.out.1; omega)⟩; have hc2 : w2.cell? ⟨w.heap.size, k, none⟩ = some v0 := (by rw [hB2.cell]; exact hv0); have hf2 := hB2.frozen k; have HB2 := hide hb2; have HBK := hide hB2; clear hB2 hb2 hv0)
      have HBK2 : Hid (Blk (w2.setCell ⟨w.heap.size, k, none⟩ (.string (S (Lib.itoa x)))) w.heap.size 9 (C.setIfInBounds k (.string (S (Lib.itoa x))))) := HBK.out.set_ k _
      have HBB : Hid (Below w.heap.size w (w2.setCell ⟨w.heap.size, k, none⟩ (.string (S (Lib.itoa x))))) := (hb.out.trans (HB2.out.mono hsw)).setCell (Nat.le_refl _) _
      have HC2 : Hid ((C.setIfInBounds k (.string (S (Lib.itoa x)))).size = n ∧ ∀ j y, j < k + 1 → xs[j]? = some y → (C.setIfInBounds k (.string (S (Lib.itoa x))))[j]? = some (.string (S (Lib.itoa y)))) := by
        refine ⟨by simpa using hC.out.1, fun j y hj hy => ?_⟩
        by_cases e : k = j
        · subst e
          rw [HXK.out] at hy
          injection hy with hy
          subst hy
          rw [Array.getElem?_setIfInBounds_self_of_lt (by have := hC.out.1; omega)]
        · rw [Array.getElem?_setIfInBounds_ne e]
          exact hC.out.2 j y (by omega) hy
      go_roundw
      case rel => exact ⟨k + 1, _, by omega, by go_num, HBK2, HC2, HBB⟩
      case measure => simp [intOf]; omega
    · obtain hkn : k = n := by omega
      have kn : ¬ (k : Int) < (n : Int) := by omega
      have HJ : Hid (Calls Tryd.prog 33 #[.slice (some ⟨w.heap.size, 0, none⟩) n n, .string (S sep)] wr fun e w' => e = .returned (.string (S (Lib.join (xs.map Lib.itoa) sep))) ∧ Below wr.heap.size wr w') := by
        have hlen : (xs.map Lib.itoa).length = n := by rw [List.length_map, HL.out]
        have := join_any w.heap.size n (xs.map Lib.itoa) sep wr (fun j l hl => by
          rw [List.getElem?_map] at hl
          obtain ⟨x, hx, rfl⟩ := Option.map_eq_some_iff.1 hl
          rw [hblk.out.cell]
          exact hC.out.2 j x (by have := (List.getElem?_eq_some_iff.1 hx).1; have := HL.out; omega) hx) hblk.out.lt (by omega) (by omega) (by
          have h1 := join_le 21 (xs.map Lib.itoa) sep (fun l hl => by
            obtain ⟨x, hx, rfl⟩ := List.mem_map.1 hl
            have := HX.out x hx
            exact itoa_len x this.1 this.2)
          rw [hlen] at h1
          have h2 : (21 + sep.length) * n ≤ 1021 * 10000000 := Nat.mul_le_mul (by omega) hn
          omega)
        rw [hlen] at this
        exact this
      have hsw : w.heap.size ≤ wr.heap.size := hb.out.size
      clear hlt
      go_wp2_with (go_at_call 33; refine HJ.out.mono ?_; rintro e w3 ⟨rfl, hb3⟩; have HB3 := hide hb3; clear hb3)
      go_ret
      exact ⟨rfl, hb.out.trans (HB3.out.mono hsw)⟩
end Go.Proofs.YtenebkkfjalcaaaDoor
