/-
  Contract of the laws' fit: out of any numbers votes that can be.
-/
import Derived.Test.YteckffndboiknaaLent
set_option linter.unusedVariables false
namespace Go.Proofs.Yteckffndboiknaa
open Go.RowKit Go.WideShapes Go.ChangeShapes Q

theorem own_slice {w : World} {base : Nat} {e : TypeId} {size n : Nat} {v : Value} {xs : List Value} (h : w.ownsRow base e size v n xs) : ∃ A c, v = .slice A n c ∧ Reads w w.heap.size size A n xs ∧ n ≤ c := by
  rcases h.2 with ⟨rfl, rfl⟩ | ⟨g, cap, cur, rfl, hg, hh, hc, r⟩
  · exact ⟨none, 0, rfl, ⟨h.1, fun hn => absurd hn (by omega)⟩, Nat.le_refl _⟩
  · exact ⟨_, cap, rfl, Reads.of_own h, hc⟩
theorem ints_one (vs : List Int) : ∀ u ∈ ints vs, u.oneCell' = true := by
  intro u hu
  simp [ints] at hu
  obtain ⟨x, _, rfl⟩ := hu
  rfl
theorem RI.take {w : World} {B n m : Nat} {A : Option Addr} {vs : List Int} (h : RI w B A n vs) (hm : m ≤ n) : RI w B A m (vs.take m) := by
  have hl := h.len
  refine ⟨by rw [ints_len]; simp; omega, fun hn => ?_⟩
  obtain ⟨ad, hA, hb, hc⟩ := h.2 (by omega)
  refine ⟨ad, hA, hb, fun j u hu => hc j u ?_⟩
  have hj := (List.getElem?_eq_some_iff.1 hu).1
  rw [ints_len, List.length_take] at hj
  rw [← hu]
  simp only [ints, List.getElem?_map, List.getElem?_take]
  rw [if_pos (by omega)]

set_option maxRecDepth 100000 in
set_option maxHeartbeats 1000000 in
theorem fit_any (A : Option Addr) (n c : Nat) (vs : List Int) (w : World) (h : RI w w.heap.size A n vs) (hn : n ≤ 17592186044416) :
    Calls Try.prog 18 #[.slice A n c] w fun e w' => ∃ A' k c' fs, e = .returned (.slice A' k c') ∧ RI w' w'.heap.size A' k fs ∧ k ≤ c' ∧ Ok fs ∧ Below w.heap.size w w' := by
  obtain ⟨i0, hi, hz0, hz1, hz2⟩ := info_parts info3
  go_enter Try.func18, Try.ntmps18
  go_wp2
  go_loopw [3, 4, 5] (fun v t i wr => ∃ (k : Nat) (fs : List Int), k ≤ n ∧ k ≤ 16 ∧ i = .int .i64 k ∧ Hid (fs.length = k) ∧ Hid (Fine fs fs.length) ∧ t = .int .i64 (tot fs) ∧ Hid (wr.ownsRow w.heap.size 3 1 v k (ints fs)) ∧ Below w.heap.size w wr) (fun _ _ i _ => 16 - (intOf i).toNat)
  case atStart => exact ⟨0, [], Nat.zero_le _, by omega, rfl, rfl, Fine.zero [], rfl, World.ownsRow_nil _ _ _ _, Below.refl _ _⟩
  case round =>
    obtain ⟨k, fs, hk, hk16, rfl, hfl, hfine, rfl, hown, hb⟩ := hrel
    obtain ⟨A1, c1, hv1, R1, hc1⟩ := own_slice hown.out
    have ht := sumTo_bound fs fs.length hfine.out fs.length (Nat.le_refl _)
    have ht' : 0 ≤ tot fs ∧ tot fs ≤ 144 := by have := hfl.out; unfold tot; omega
    have hs := hb.size
    clear ht
    rw [hv1] at hown ⊢
    clear hv1
    by_cases hlt : k < n ∧ k < 16
    · obtain ⟨hlt, hlt16⟩ := hlt
      obtain ⟨ad, rfl, hab, hc⟩ := h.at_ hlt
      have hc' := (hb.cell (p := ad.add k) (by rw [block_of_add]; exact hab)).trans hc
      clear hc
      have hm := tmod10 (nth vs k)
      obtain ⟨x, hx⟩ : ∃ x, x = nth vs k := ⟨_, rfl⟩
      rw [← hx] at hc' hm
      clear hx
      by_cases hneg : x < 0
      · by_cases hyn : x.tmod 10 < 0
        · go_wp2_with (at_builtin; refine wpList_push rfl (.tmp 26) (.tmp 28) _ rfl w.heap.size 3 i0 _ 1 8 Try.underlying32 hi hz0 hz1 hz2 rfl (by omega) _ k _ rfl hown.out 1 1 #[.int .i64 (-(x.tmod 10))] rfl rfl (by simp [Value.oneCell']) (by omega) (by unfold maxLen; omega) (by omega) hs ?_; intro g' cap' w1 hown1 _ hb1 _ _ _)
          have hown2 : Hid (w1.ownsRow w.heap.size 3 1 (.slice (some ⟨g', 0, none⟩) (k + 1) cap') (k + 1) (ints (fs ++ [(-(x.tmod 10))]))) := by
            rw [ints_append]; exact hown1
          have hb2 := hb.trans hb1
          have hf2 := hide (fine_snoc (x := (-(x.tmod 10))) hfine.out (by omega) (by omega))
          have hl2 : Hid ((fs ++ [(-(x.tmod 10))]).length = k + 1) := by show _ = _; rw [List.length_append, List.length_singleton, hfl.out]
          have ht2 := hide (tot_snoc fs ((-(x.tmod 10))))
          clear hown1 hb1 hb
          go_wp2
          go_roundw
          case rel => exact ⟨k + 1, fs ++ [(-(x.tmod 10))], by omega, by omega, by go_num, hl2, hf2, by rw [ht2.out], hown2, hb2⟩
          case measure => simp [intOf]; omega
        · go_wp2_with (at_builtin; refine wpList_push rfl (.tmp 26) (.tmp 28) _ rfl w.heap.size 3 i0 _ 1 8 Try.underlying32 hi hz0 hz1 hz2 rfl (by omega) _ k _ rfl hown.out 1 1 #[.int .i64 (x.tmod 10)] rfl rfl (by simp [Value.oneCell']) (by omega) (by unfold maxLen; omega) (by omega) hs ?_; intro g' cap' w1 hown1 _ hb1 _ _ _)
          have hown2 : Hid (w1.ownsRow w.heap.size 3 1 (.slice (some ⟨g', 0, none⟩) (k + 1) cap') (k + 1) (ints (fs ++ [(x.tmod 10)]))) := by
            rw [ints_append]; exact hown1
          have hb2 := hb.trans hb1
          have hf2 := hide (fine_snoc (x := (x.tmod 10)) hfine.out (by omega) (by omega))
          have hl2 : Hid ((fs ++ [(x.tmod 10)]).length = k + 1) := by show _ = _; rw [List.length_append, List.length_singleton, hfl.out]
          have ht2 := hide (tot_snoc fs ((x.tmod 10)))
          clear hown1 hb1 hb
          go_wp2
          go_roundw
          case rel => exact ⟨k + 1, fs ++ [(x.tmod 10)], by omega, by omega, by go_num, hl2, hf2, by rw [ht2.out], hown2, hb2⟩
          case measure => simp [intOf]; omega
      · go_wp2_with (at_builtin; refine wpList_push rfl (.tmp 26) (.tmp 28) _ rfl w.heap.size 3 i0 _ 1 8 Try.underlying32 hi hz0 hz1 hz2 rfl (by omega) _ k _ rfl hown.out 1 1 #[.int .i64 (x % 10)] rfl rfl (by simp [Value.oneCell']) (by omega) (by unfold maxLen; omega) (by omega) hs ?_; intro g' cap' w1 hown1 _ hb1 _ _ _)
        have hown2 : Hid (w1.ownsRow w.heap.size 3 1 (.slice (some ⟨g', 0, none⟩) (k + 1) cap') (k + 1) (ints (fs ++ [(x % 10)]))) := by
          rw [ints_append]; exact hown1
        have hb2 := hb.trans hb1
        have hf2 := hide (fine_snoc (x := (x % 10)) hfine.out (by omega) (by omega))
        have hl2 : Hid ((fs ++ [(x % 10)]).length = k + 1) := by show _ = _; rw [List.length_append, List.length_singleton, hfl.out]
        have ht2 := hide (tot_snoc fs ((x % 10)))
        clear hown1 hb1 hb
        go_wp2
        go_roundw
        case rel => exact ⟨k + 1, fs ++ [(x % 10)], by omega, by omega, by go_num, hl2, hf2, by rw [ht2.out], hown2, hb2⟩
        case measure => simp [intOf]; omega
    · by_cases hkn : k < n
      · have hk16' : ¬ k < 16 := fun q => hlt ⟨hkn, q⟩
        have hk2 : k = n ∨ k = 16 := by omega
        by_cases hz : tot fs = 0
        · have hz' : (tot fs == 0) = true := by simp [hz]
          have HOK := hide (ok_one_ahead hfine.out)
          clear hz
          have hown0 : (wr.alloc (.cells #[.int .i64 1] 3)).ownsRow wr.heap.size 3 1 (.slice (some ⟨wr.heap.size, 0, none⟩) 1 1) 1 [.int .i64 1] := own_of_alloc wr 3 [.int .i64 1] 1 rfl (by unfold maxLen; omega)
          have R2 := R1.alloc (Nat.le_refl _) (.cells #[.int .i64 1] 3)
          by_cases h16 : k < 16
          · exact absurd h16 hk16'
          · go_wp2_with (at_builtin; refine wpList_append_any _ rfl (.tmp 35) (.tmp 36) _ rfl wr.heap.size 3 i0 _ 1 8 Try.underlying32 hi hz0 hz1 hz2 rfl (by omega) (.slice (some ⟨wr.heap.size, 0, none⟩) 1 1) 1 _ rfl hown0 wr.heap.size A1 k c1 (ints fs) rfl R2 (ints_one fs) (by unfold maxLen; omega) (by omega) (by simp) ?_; intro v2 w2 hown2 hg2 _; obtain ⟨A2, c2, hv2, R3, hc2⟩ := own_slice hown2; obtain ⟨ad2, hA2, _⟩ := R3.2 (by omega); rw [hv2, hA2]; clear hv2)
            go_ret
            refine ⟨some ad2, 16, c2, (1 :: fs).take 16, rfl, ?_, by omega, HOK.out, hb.trans ((((Below.refl wr.heap.size wr).alloc (Nat.le_refl _) _).grown hg2 (by simp) (by simp [Value.ownBlock])).mono hs)⟩
            rw [hA2] at R3
            have R4 : RI w2 w2.heap.size (some ad2) (1 + k) (1 :: fs) := R3
            exact R4.take (by omega)
        · have hz' : (tot fs == 0) = false := by simp [hz]
          have HOK : Hid (Ok fs) := ok_mk (by
            rcases Nat.eq_zero_or_pos fs.length with h0 | h0
            · exfalso; apply hz; unfold tot; rw [h0]; rfl
            · exact h0) (by have := hfl.out; omega) hfine.out hz
          clear hz
          go_wp2
          go_ret
          exact ⟨A1, k, c1, fs, rfl, R1, hc1, HOK.out, hb⟩
      · clear hlt
        have hk2 : k = n ∨ k = 16 := by omega
        by_cases hz : tot fs = 0
        · have hz' : (tot fs == 0) = true := by simp [hz]
          have HOK := hide (ok_one_ahead hfine.out)
          clear hz
          have hown0 : (wr.alloc (.cells #[.int .i64 1] 3)).ownsRow wr.heap.size 3 1 (.slice (some ⟨wr.heap.size, 0, none⟩) 1 1) 1 [.int .i64 1] := own_of_alloc wr 3 [.int .i64 1] 1 rfl (by unfold maxLen; omega)
          have R2 := R1.alloc (Nat.le_refl _) (.cells #[.int .i64 1] 3)
          by_cases h16 : k < 16
          · go_wp2_with (at_builtin; refine wpList_append_any _ rfl (.tmp 35) (.tmp 36) _ rfl wr.heap.size 3 i0 _ 1 8 Try.underlying32 hi hz0 hz1 hz2 rfl (by omega) (.slice (some ⟨wr.heap.size, 0, none⟩) 1 1) 1 _ rfl hown0 wr.heap.size A1 k c1 (ints fs) rfl R2 (ints_one fs) (by unfold maxLen; omega) (by omega) (by simp) ?_; intro v2 w2 hown2 hg2 _; obtain ⟨A2, c2, hv2, R3, hc2⟩ := own_slice hown2; rw [hv2]; clear hv2)
            go_ret
            refine ⟨A2, 1 + k, c2, (1 :: fs).take 16, rfl, ?_, hc2, HOK.out, hb.trans ((((Below.refl wr.heap.size wr).alloc (Nat.le_refl _) _).grown hg2 (by simp) (by simp [Value.ownBlock])).mono hs)⟩
            rw [List.take_of_length_le (by have := hfl.out; simp; omega)]
            exact R3
          · go_wp2_with (at_builtin; refine wpList_append_any _ rfl (.tmp 35) (.tmp 36) _ rfl wr.heap.size 3 i0 _ 1 8 Try.underlying32 hi hz0 hz1 hz2 rfl (by omega) (.slice (some ⟨wr.heap.size, 0, none⟩) 1 1) 1 _ rfl hown0 wr.heap.size A1 k c1 (ints fs) rfl R2 (ints_one fs) (by unfold maxLen; omega) (by omega) (by simp) ?_; intro v2 w2 hown2 hg2 _; obtain ⟨A2, c2, hv2, R3, hc2⟩ := own_slice hown2; obtain ⟨ad2, hA2, _⟩ := R3.2 (by omega); rw [hv2, hA2]; clear hv2)
            go_ret
            refine ⟨some ad2, 16, c2, (1 :: fs).take 16, rfl, ?_, by omega, HOK.out, hb.trans ((((Below.refl wr.heap.size wr).alloc (Nat.le_refl _) _).grown hg2 (by simp) (by simp [Value.ownBlock])).mono hs)⟩
            rw [hA2] at R3
            have R4 : RI w2 w2.heap.size (some ad2) (1 + k) (1 :: fs) := R3
            exact R4.take (by omega)
        · have hz' : (tot fs == 0) = false := by simp [hz]
          have HOK : Hid (Ok fs) := ok_mk (by
            rcases Nat.eq_zero_or_pos fs.length with h0 | h0
            · exfalso; apply hz; unfold tot; rw [h0]; rfl
            · exact h0) (by have := hfl.out; omega) hfine.out hz
          clear hz
          go_wp2
          go_ret
          exact ⟨A1, k, c1, fs, rfl, R1, hc1, HOK.out, hb⟩
end Go.Proofs.Yteckffndboiknaa
