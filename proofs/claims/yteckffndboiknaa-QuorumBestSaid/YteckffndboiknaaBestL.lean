/-
  QuorumBest, the walk.
-/
import Derived.Test.YteckffndboiknaaBestR
set_option linter.unusedVariables false
namespace Go.Proofs.Yteckffndboiknaa
open Go.RowKit Go.WideShapes Go.ChangeShapes Q

theorem info30 : (Try.prog.info? 30).map (fun i => (i.zero, i.size, i.bytes)) = some (some (.agg #[.int .i64 0, .int .i64 0, .int .i64 0]), 3, 24) := by kernel_rfl
theorem sts_one (l : List (Int × Int × Int)) : ∀ u ∈ sts l, u.oneCell' = true := by
  intro u hu
  simp only [sts, List.mem_flatMap, List.mem_cons, List.not_mem_nil, or_false] at hu
  obtain ⟨x, _, rfl | rfl | rfl⟩ := hu <;> rfl
theorem own_empty {w : World} {base g size : Nat} {e : TypeId} (h : Blk w g e #[]) (hb : base ≤ g) : w.ownsRow base e size (.slice (some ⟨g, 0, none⟩) 0 0) 0 [] :=
  ⟨by simp, .inr ⟨g, 0, #[], rfl, hb, h, Nat.le_refl _, Nat.zero_le _, by simp, by simp⟩⟩
theorem own_slice3 {w : World} {base : Nat} {e : TypeId} {size n : Nat} {v : Value} {xs : List Value} (h : w.ownsRow base e size v n xs) : ∃ A c, v = .slice A n c ∧ Reads w w.heap.size size A n xs ∧ n ≤ c := by
  rcases h.2 with ⟨rfl, rfl⟩ | ⟨g, cap, cur, rfl, hg, hh, hc, r⟩
  · exact ⟨none, 0, rfl, ⟨h.1, fun hn => absurd hn (by omega)⟩, Nat.le_refl _⟩
  · exact ⟨_, cap, rfl, Reads.of_own h, hc⟩

theorem best_any (A : Option Addr) (n c : Nat) (l : List (Int × Int × Int)) (w : World) (h : RS w w.heap.size A n l) (hn : n ≤ 17592186044416) :
    Calls Try.prog 15 #[.slice A n c] w fun e w' => e = .returned (.tuple #[.int .i64 (bestI l : Nat), .int .i64 (bestE l)]) ∧ Below w.heap.size w w' := by
  by_cases h1 : 1 ≤ n ∧ n ≤ 16
  · exact best_in A n c l w h h1.1 h1.2
  · have hl := h.len
    have hb := best_bad (bad_len (l := l) (by omega))
    rw [hb.1, hb.2]
    refine (best_len A n c w (by omega) hn).mono ?_
    rintro e w' ⟨rfl, rfl⟩
    exact ⟨rfl, Below.refl _ _⟩
theorem rbest_any (A : Option Addr) (n c : Nat) (l : List (Int × Int × Int)) (w : World) (h : RS w w.heap.size A n l) (hn : n ≤ 17592186044416) :
    Calls Try.prog 16 #[.slice A n c] w fun e w' => e = .returned (.tuple #[.int .i64 (bestI l : Nat), .int .i64 (bestE l)]) ∧ Below w.heap.size w w' := by
  by_cases h1 : 1 ≤ n ∧ n ≤ 16
  · exact rbest_in A n c l w h h1.1 h1.2
  · have hl := h.len
    have hb := best_bad (bad_len (l := l) (by omega))
    rw [hb.1, hb.2]
    refine (rbest_len A n c w (by omega) hn).mono ?_
    rintro e w' ⟨rfl, rfl⟩
    exact ⟨rfl, Below.refl _ _⟩

set_option maxRecDepth 100000 in
set_option maxHeartbeats 4000000 in
theorem bestlaw_walk (A : Option Addr) (n c : Nat) (l : List (Int × Int × Int)) (w : World) (h : RS w w.heap.size A n l) (hn : n * 24 ≤ 140737488351232) :
    Calls Try.prog 3 #[.slice A n c] w fun e w' => e = .returned (.bool true) ∧ Below w.heap.size w w' := by
  obtain ⟨i0, hi, hz0, hz1, hz2⟩ := info_parts info30
  have hl := hide h.len
  have hown0 : (w.alloc (.cells #[] 30)).ownsRow w.heap.size 30 3 (.slice (some ⟨w.heap.size, 0, none⟩) 0 0) 0 [] := own_empty (Blk.new _ _ _) (Nat.le_refl _)
  have h0 := h.alloc (Nat.le_refl _) (.cells #[] 30)
  go_enter Try.func3, Try.ntmps3
  go_wp2_with (at_builtin; refine wpList_append_any _ rfl (.tmp 13) (.tmp 14) _ rfl w.heap.size 30 i0 _ 3 24 Try.underlying22 hi hz0 hz1 hz2 rfl (by omega) (.slice (some ⟨w.heap.size, 0, none⟩) 0 0) 0 [] rfl hown0 w.heap.size A n c (sts l) rfl h0 (sts_one l) (by unfold maxLen; omega) (by omega) (by simp) ?_; intro v1 w1 hown1 hg1 _; obtain ⟨A1, c1, hv1, R1, hc1⟩ := own_slice3 hown1; simp only [Nat.zero_add, List.nil_append] at hv1 R1 hc1; rw [hv1]; have H1 : Below w.heap.size w w1 := ((Below.refl _ w).alloc (Nat.le_refl _) _).grown hg1 (by simp) (by simp [Value.ownBlock]); clear hv1 hg1 hown1)
  have R1 := show RS w1 w1.heap.size A1 n l from R1
  refine (best_any A1 n c1 l _ R1 (by omega)).mono ?_
  rintro e w2 ⟨rfl, hb2⟩
  have H2 := H1.trans (hb2.mono H1.size)
  have R2 := Reads.below R1 hb2
  have V2 := show RS w2 w.heap.size A n l from Reads.below h H2
  go_wp2_with fail
  refine (rbest_any A n c l _ (Reads.more V2 H2.size) (by omega)).mono ?_
  rintro e w3 ⟨rfl, hb3⟩
  have H3 := H2.trans (hb3.mono H2.size)
  have R3 := show RS w3 w1.heap.size A1 n l from Reads.below R2 (hb3.mono hb2.size)
  have V3 := show RS w3 w.heap.size A n l from Reads.below h H3
  clear R1 R2 V2 hb2 hb3 H1 H2 h0 hown0
  go_wp2_with (go_at_call 17; refine (num_any _ _).mono ?_; rintro e w' ⟨rfl, rfl⟩)
  go_loopw [8] (fun i wr => ∃ (k m : Nat), k ≤ n ∧ i = .int .i64 k ∧ wr = w3.drewN m) (fun i _ => n - (intOf i).toNat)
  case atStart => exact ⟨0, 0, by omega, rfl, rfl⟩
  case round =>
    obtain ⟨k, m, hk, rfl, rfl⟩ := hrel
    by_cases hlt : k < n
    · obtain ⟨b, off, rfl, hab, q0, q1, q2⟩ := RS.at_ V3 hlt
      obtain ⟨b', off', rfl, _, r0, r1, r2⟩ := RS.at_ R3 hlt
      have i0 : (0 : Int) ≤ (k : Nat) := by omega
      have i1 : ((k : Nat) : Int) < n := by omega
      go_wp2
      go_quiet (fail)
      go_wp2
      go_roundw
      case rel => exact ⟨k + 1, _, by omega, by go_num, rfl⟩
      case measure => simp [intOf]; omega
    · obtain rfl : k = n := by omega
      have H4 := below_drewN H3 m
      obtain ⟨w4, hw4⟩ : ∃ w4, w4 = w3.drewN m := ⟨_, rfl⟩
      have V4 : RS w4 w.heap.size A k l := by rw [hw4]; exact V3
      rw [← hw4] at H4 ⊢
      clear hw4 V3 R3 H3
      by_cases hok : BestOk l
      · have he := best_ok hok
        have he1 : (bestE l != 0) = false := by rw [he.1]; rfl
        have hok2 := rev_good hok
        have he2 := best_ok hok2
        have hrev := best_rev hok
        have h16 : k ≤ 16 := by have := hok.2.1; have := hl.out; omega
        have hk1 : 1 ≤ k := by have := hok.1; have := hl.out; omega
        have HE2 : Hid (bestE l.reverse = 0 ∧ ((((bestI l.reverse : Nat) : Int)) == ((k : Int) - 1 - (bestI l : Nat))) = true) := by
          refine ⟨he2.1, ?_⟩
          have hb1 := bestTo_lt l l.length (by have := hok.1; omega)
          have hlen : l.length = k := hl.out
          rw [he2.2, he.2, List.length_reverse, hrev, beq_iff_eq]
          rw [hlen] at hb1 ⊢
          omega
        have HB1 : Hid (bestI l < k) := by
          have := bestTo_lt l l.length (by have := hok.1; omega)
          show _ < _
          rw [he.2]
          have := hl.out
          omega
        clear he hok he2 hrev hok2
        go_wp2
        go_loopw [9, 10] (fun v i wr => ∃ (j : Nat), j ≤ k ∧ i = .int .i64 ((k : Int) - 1 - j) ∧ Hid (wr.ownsRow w4.heap.size 30 3 v j (sts (l.reverse.take j))) ∧ Below w4.heap.size w4 wr) (fun _ i _ => ((intOf i) + 1).toNat)
        case atStart => exact ⟨0, by omega, by simp, World.ownsRow_nil _ _ _ _, Below.refl _ _⟩
        case round =>
          obtain ⟨j, hj, rfl, hown, hb⟩ := hrel
          have hbs := hb.size
          by_cases hlt : j < k
          · obtain ⟨q, hq⟩ : ∃ q : Nat, (k : Int) - 1 - j = (q : Int) := ⟨k - 1 - j, by omega⟩
            have hqk : q < k := by omega
            obtain ⟨b, off, rfl, hab, q0, q1, q2⟩ := RS.at_ V4 hqk
            have q0 := (hb.cell (p := ⟨b, off + q * 3, none⟩) (Nat.lt_of_lt_of_le hab H4.size)).trans q0
            have q1 := (hb.cell (p := ⟨b, off + q * 3 + 1, none⟩) (Nat.lt_of_lt_of_le hab H4.size)).trans q1
            have q2 := (hb.cell (p := ⟨b, off + q * 3 + 2, none⟩) (Nat.lt_of_lt_of_le hab H4.size)).trans q2
            have HQ := hide hq
            rw [hq]
            clear hq
            obtain ⟨A2, c2, hv2, _, _⟩ := own_slice3 hown.out
            rw [hv2] at hown ⊢
            clear hv2
            go_wp2_with (at_builtin; refine wpList_push rfl (.tmp 59) (.tmp 64) _ rfl w4.heap.size 30 i0 _ 3 24 Try.underlying22 hi hz0 hz1 hz2 rfl (by omega) _ j _ rfl hown.out 1 1 #[.int .i64 (pidA l q), .int .i64 (epA l q), .int .i64 (lenA l q)] rfl rfl (by simp [Value.oneCell']) (by omega) (by unfold maxLen; omega) (by omega) hbs ?_; intro g' cap' w5 hown5 _ hb5 _ _ _)
            have hown6 : Hid (w5.ownsRow w4.heap.size 30 3 (.slice (some ⟨g', 0, none⟩) (j + 1) cap') (j + 1) (sts (l.reverse.take (j + 1)))) := by
              have e := rev_at l j (by have := hl.out; omega)
              have hlq : l.length - 1 - j = q := by have := hl.out; have := HQ.out; omega
              rw [hlq] at e
              have hx : sts (l.reverse.take (j + 1)) = sts (l.reverse.take j) ++ [.int .i64 (pidA l q), .int .i64 (epA l q), .int .i64 (lenA l q)] := by
                rw [List.take_succ_eq_append_getElem (by rw [List.length_reverse]; have := hl.out; omega)]
                unfold sts
                rw [List.flatMap_append]
                congr 1
                rw [← e.1, ← e.2.1, ← e.2.2]
                have hg : l.reverse.getD j (0, 0, 0) = l.reverse[j]'(by rw [List.length_reverse]; have := hl.out; omega) := by
                  rw [List.getD, List.getElem?_eq_getElem]; rfl
                unfold pidA epA lenA
                rw [hg]
                rfl
              show World.ownsRow _ _ _ _ _ _ _
              rw [hx]
              exact hown5
            have hb6 := hb.trans hb5
            have HQ2 : Hid ((q : Int) - 1 = (k : Int) - 1 - ((j + 1 : Nat) : Int)) := by show _ = _; have := HQ.out; omega
            clear hown5 hb5 hb
            go_wp2
            go_roundw
            case rel => exact ⟨j + 1, by omega, by rw [HQ2.out], hown6, hb6⟩
            case measure => have := HQ.out; simp [intOf] <;> omega
          · obtain rfl : j = k := by omega
            obtain ⟨A2, c2, hv2, R5, hc2⟩ := own_slice3 hown.out
            rw [hv2] at hown ⊢
            clear hv2
            have e : l.reverse.take j = l.reverse := List.take_of_length_le (by rw [List.length_reverse]; have := hl.out; omega)
            rw [e] at R5
            have R5 := show RS wr wr.heap.size A2 j l.reverse from R5
            clear e hown
            go_wp2_with fail
            refine (best_any A2 j c2 l.reverse _ R5 (by omega)).mono ?_
            rintro e w6 ⟨rfl, hb6⟩
            rw [HE2.out.1]
            have e2 := HE2.out.2
            have HBI := HB1.out
            go_wp2_with (go_at_call 17; refine (num_any _ _).mono ?_; rintro e w' ⟨rfl, rfl⟩)
            go_ret
            exact ⟨rfl, H4.trans ((hb.trans (hb6.mono hbs)).mono H4.size)⟩
      · have he := best_bad hok
        have he1 : (bestE l != 0) = true := by rw [he.1]; rfl
        clear he hok
        go_wp2
        go_ret
        exact ⟨rfl, H4⟩
end Go.Proofs.Yteckffndboiknaa
