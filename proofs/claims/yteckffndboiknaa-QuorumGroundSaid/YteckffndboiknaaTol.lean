/-
  Contracts of Tolerance (program, reference) and of the reference's Winning; QuorumCounts, the walk.
-/
import Derived.Test.YteckffndboiknaaOnes
set_option linter.unusedVariables false
namespace Go.Proofs.Yteckffndboiknaa
open Go.RowKit Go.WideShapes Go.ChangeShapes Q

theorem own_cap' {w : World} {base : Nat} {e : TypeId} {size n g cap : Nat} {xs : List Value} (h : w.ownsRow base e size (.slice (some ⟨g, 0, none⟩) n cap) n xs) : n ≤ cap := by
  obtain ⟨_, h6⟩ := h
  rcases h6 with ⟨h6, _⟩ | ⟨g', cap', cur, e', hg, hh, hc, r⟩
  · cases h6
  · injection e' with e1 e2 e3
    subst e3
    exact hc
theorem minTo_16 (vs : List Int) (m k : Nat) (h : m ≤ 17) : minTo vs m k ≤ 17 := Nat.le_trans (minTo_le_start vs m k) h

set_option maxRecDepth 100000 in
set_option maxHeartbeats 1000000 in
theorem tol_ok (A : Option Addr) (n c : Nat) (vs : List Int) (w : World) (h : RI w w.heap.size A n vs) (hok : Ok vs) :
    Calls Try.prog 32 #[.slice A n c] w fun e w' => e = .returned (.tuple #[.int .i64 (tol vs : Nat), .int .i64 0]) ∧ Below w.heap.size w w' := by
  have hl := h.len
  subst hl
  have h16 := hok.2.1
  have p1 := two_pow_le vs.length h16
  have HP := hide (nat_pow_cast vs.length)
  go_enter Try.func32, Try.ntmps32
  go_wp2_with fail
  refine (count_all A _ c vs _ h (by omega)).mono ?_
  rintro e w1 (⟨b, rfl, _, hbal, hb⟩ | ⟨rfl, hbad, hb⟩)
  · go_wp2_with fail
    go_loop [6, 23] (fun t i => ∃ k : Nat, (k : Int) ≤ 2 ^ vs.length ∧ i = .int .u64 k ∧ t = .int .i64 (minTo vs (vs.length + 1) k : Nat)) (fun _ i => 65536 - (intOf i).toNat)
    case atStart => exact ⟨0, by omega, rfl, by simp [minTo]⟩
    case round =>
      obtain ⟨k, hk, rfl, rfl⟩ := hrel
      have hm := minTo_16 vs (vs.length + 1) k (by omega)
      by_cases hlt : (k : Int) < 2 ^ vs.length
      · have hk2 : k < 2 ^ vs.length := by have := HP.out; omega
        have hpop : pop k ≤ 16 := popTo_le k 16
        have hand : bits BinOp.andNot IntKind.u64 ((2 : Int) ^ vs.length - 1) (k : Int) = ((allOf vs.length - k : Nat) : Int) := by
          have h1 := allOf_lt vs.length h16
          have := u64_andNot_nat (allOf vs.length) k (by omega) (by omega)
          rw [andNot_all _ _ h16 hk2, allOf_cast] at this
          exact this
        have hal : allOf vs.length - k < 18446744073709551616 := by have := allOf_lt vs.length h16; omega
        by_cases hc : pop k < minTo vs (vs.length + 1) k
        · have hc' : decide (pop k < minTo vs (vs.length + 1) k) = true := by simpa using hc
          cases hq : winsB vs (allOf vs.length - k)
          · have HW : Hid (minTo vs (vs.length + 1) (k + 1) = pop k) := by show _ = _; rw [minTo, if_pos ⟨hq, hc⟩]
            have HQ := hide hq
            clear hq
            go_wp2_with (first | (go_at_call 60; refine (ones_any k _ (by omega)).mono ?_; rintro e w' ⟨rfl, rfl⟩) | (go_at_call 44; refine (quorate_any (allOf vs.length - k) _ b vs _ hbal hok hal).mono ?_; rintro e w' ⟨rfl, rfl⟩; rw [HQ.out]))
            go_round
            case rel => exact ⟨k + 1, by omega, by go_num, by rw [HW.out]⟩
            case measure => simp [intOf]; omega
          · have HW : Hid (minTo vs (vs.length + 1) (k + 1) = minTo vs (vs.length + 1) k) := by show _ = _; rw [minTo, if_neg (fun q => by rw [hq] at q; simp at q)]
            have HQ := hide hq
            clear hq
            go_wp2_with (first | (go_at_call 60; refine (ones_any k _ (by omega)).mono ?_; rintro e w' ⟨rfl, rfl⟩) | (go_at_call 44; refine (quorate_any (allOf vs.length - k) _ b vs _ hbal hok hal).mono ?_; rintro e w' ⟨rfl, rfl⟩; rw [HQ.out]))
            go_round
            case rel => exact ⟨k + 1, by omega, by go_num, by rw [HW.out]⟩
            case measure => simp [intOf]; omega
        · have hc' : decide (pop k < minTo vs (vs.length + 1) k) = false := by simpa using hc
          have hc2 : minTo vs (vs.length + 1) k ≤ pop k := by omega
          have HW : Hid (minTo vs (vs.length + 1) (k + 1) = minTo vs (vs.length + 1) k) := by show _ = _; rw [minTo, if_neg (fun q => hc q.2)]
          clear hc
          go_wp2_with (go_at_call 60; refine (ones_any k _ (by omega)).mono ?_; rintro e w' ⟨rfl, rfl⟩)
          go_round
          case rel => exact ⟨k + 1, by omega, by go_num, by rw [HW.out]⟩
          case measure => simp [intOf]; omega
      · have he : k = 2 ^ vs.length := by have := HP.out; omega
        have HT : Hid (((minTo vs (vs.length + 1) k : Nat) : Int) - 1 = ((tol vs : Nat) : Int)) := by
          show _ = _
          have h1 := minTo_pos vs hok
          rw [he, minTo_end vs hok]
          unfold tol
          omega
        clear he
        go_wp2_with fail
        go_ret2
        exact ⟨ret2_ (vint (by rw [← HT.out])) rfl, hb⟩
  · exact absurd hok hbad

theorem bad19 (A : Option Addr) (n c : Nat) (vs : List Int) (w : World) (h : RI w w.heap.size A n vs) (hn : n ≤ 17592186044416) (hbad : ¬ Ok vs) :
    Calls Try.prog 19 #[.slice A n c] w fun e w' => e = .returned (.tuple #[.int .i64 0, .int .i64 110]) ∧ Below w.heap.size w w' := by
  go_enter Try.func19, Try.ntmps19
  go_wp2_with fail
  refine (count_all A _ c vs _ h hn).mono ?_
  rintro e w1 (⟨b, rfl, hok, hbal, hb⟩ | ⟨rfl, _, hb⟩)
  · exact absurd hok hbad
  · go_wp2_with fail
    go_ret2
    exact ⟨rfl, hb⟩
theorem bad32 (A : Option Addr) (n c : Nat) (vs : List Int) (w : World) (h : RI w w.heap.size A n vs) (hn : n ≤ 17592186044416) (hbad : ¬ Ok vs) :
    Calls Try.prog 32 #[.slice A n c] w fun e w' => e = .returned (.tuple #[.int .i64 0, .int .i64 110]) ∧ Below w.heap.size w w' := by
  go_enter Try.func32, Try.ntmps32
  go_wp2_with fail
  refine (count_all A _ c vs _ h hn).mono ?_
  rintro e w1 (⟨b, rfl, hok, hbal, hb⟩ | ⟨rfl, _, hb⟩)
  · exact absurd hok hbad
  · go_wp2_with fail
    go_ret2
    exact ⟨rfl, hb⟩

/-- What Winning and Tolerance tell. -/
noncomputable def winE (vs : List Int) : Nat := if chkE vs = 0 then winTo vs (2 ^ vs.length) else 0
noncomputable def tolE (vs : List Int) : Nat := if chkE vs = 0 then tol vs else 0

theorem winning_any (A : Option Addr) (n c : Nat) (vs : List Int) (w : World) (h : RI w w.heap.size A n vs) (hn : n ≤ 17592186044416) :
    Calls Try.prog 19 #[.slice A n c] w fun e w' => e = .returned (.tuple #[.int .i64 (winE vs : Nat), .int .i64 (chkE vs)]) ∧ Below w.heap.size w w' := by
  have hl := h.len
  subst hl
  rcases chkE_01 vs with ⟨he, hok⟩ | ⟨he, hbad⟩
  · unfold winE; rw [if_pos he, he]; exact winning_ok A _ c vs w h hok
  · unfold winE; rw [if_neg (by rw [he]; decide), he]; exact bad19 A _ c vs w h hn hbad
theorem tolerance_any (A : Option Addr) (n c : Nat) (vs : List Int) (w : World) (h : RI w w.heap.size A n vs) (hn : n ≤ 17592186044416) :
    Calls Try.prog 32 #[.slice A n c] w fun e w' => e = .returned (.tuple #[.int .i64 (tolE vs : Nat), .int .i64 (chkE vs)]) ∧ Below w.heap.size w w' := by
  have hl := h.len
  subst hl
  rcases chkE_01 vs with ⟨he, hok⟩ | ⟨he, hbad⟩
  · unfold tolE; rw [if_pos he, he]; exact tol_ok A _ c vs w h hok
  · unfold tolE; rw [if_neg (by rw [he]; decide), he]; exact bad32 A _ c vs w h hn hbad

set_option maxRecDepth 100000 in
set_option maxHeartbeats 1000000 in
theorem refWinning_any (A : Option Addr) (B n c : Nat) (vs : List Int) (w : World) (h : RI w B A n vs) (hn : n ≤ 17592186044416) :
    Calls Try.prog 33 #[.slice A n c] w fun e w' => e = .returned (.tuple #[.int .i64 (winE vs : Nat), .int .i64 (chkE vs)]) ∧ w = w' := by
  have hl := h.len
  subst hl
  rcases chkE_01 vs with ⟨he, hok⟩ | ⟨he, hbad⟩
  · have h16 := hok.2.1
    have p1 := two_pow_le vs.length h16
    have HP := hide (nat_pow_cast vs.length)
    have HW : Hid (winE vs = winTo vs (2 ^ vs.length)) := by show _ = _; unfold winE; rw [if_pos he]
    have HE := hide he
    clear he
    go_enter Try.func33, Try.ntmps33
    go_wp2_with (go_at_call 26; refine (refCheck_any _ B _ _ vs _ h hn).mono ?_; rintro e w' ⟨rfl, rfl⟩; rw [HE.out])
    go_loop [5, 6] (fun t i => ∃ k : Nat, (k : Int) ≤ 2 ^ vs.length ∧ i = .int .i64 k ∧ t = .int .i64 (winTo vs k : Nat)) (fun _ i => 65536 - (intOf i).toNat)
    case atStart => exact ⟨0, by omega, rfl, rfl⟩
    case round =>
      obtain ⟨k, hk, rfl, rfl⟩ := hrel
      have hc := countTo_le (winsB vs) k
      have hc' : winTo vs k ≤ k := hc
      clear hc
      by_cases hlt : (k : Int) < 2 ^ vs.length
      · cases hq : winsB vs k
        · have HW : Hid (winTo vs (k + 1) = winTo vs k) := by show _ = _; unfold winTo; rw [countTo, hq]; rfl
          have HQ := hide hq
          clear hq
          go_wp2_with (go_at_call 48; refine (wins_any k _ B _ _ vs _ h (by omega) hok).mono ?_; rintro e w' ⟨rfl, rfl⟩; rw [HQ.out])
          go_round
          case rel => exact ⟨k + 1, by omega, by go_num, by rw [HW.out]⟩
          case measure => simp [intOf]; omega
        · have HW : Hid (winTo vs (k + 1) = winTo vs k + 1) := by show _ = _; unfold winTo; rw [countTo, hq]; rfl
          have HQ := hide hq
          clear hq
          go_wp2_with (go_at_call 48; refine (wins_any k _ B _ _ vs _ h (by omega) hok).mono ?_; rintro e w' ⟨rfl, rfl⟩; rw [HQ.out])
          go_round
          case rel => exact ⟨k + 1, by omega, by go_num, by rw [HW.out]; go_num⟩
          case measure => simp [intOf]; omega
      · have hk2 : k = 2 ^ vs.length := by have := HP.out; omega
        have HK := hide hk2
        clear hk2
        go_wp2
        go_ret2
        exact ⟨ret2_ (vint (by rw [HW.out, ← HK.out])) (vint HE.out.symm), rfl⟩
  · have HW : Hid (winE vs = 0) := by show _ = _; unfold winE; rw [if_neg (by rw [he]; decide)]
    have HE := hide he
    clear he
    go_enter Try.func33, Try.ntmps33
    go_wp2_with (go_at_call 26; refine (refCheck_any _ B _ _ vs _ h hn).mono ?_; rintro e w' ⟨rfl, rfl⟩; rw [HE.out])
    go_ret2
    exact ⟨ret2_ (vint (by rw [HW.out]; rfl)) (vint HE.out.symm), rfl⟩

set_option maxRecDepth 100000 in
set_option maxHeartbeats 1000000 in
theorem refTol_any (A : Option Addr) (B n c : Nat) (vs : List Int) (w : World) (h : RI w B A n vs) (hn : n ≤ 17592186044416) :
    Calls Try.prog 34 #[.slice A n c] w fun e w' => e = .returned (.tuple #[.int .i64 (tolE vs : Nat), .int .i64 (chkE vs)]) ∧ w = w' := by
  have hl := h.len
  subst hl
  rcases chkE_01 vs with ⟨he, hok⟩ | ⟨he, hbad⟩
  · have h16 := hok.2.1
    have p1 := two_pow_le vs.length h16
    have HP := hide (nat_pow_cast vs.length)
    have HT : Hid (tolE vs = tol vs) := by show _ = _; unfold tolE; rw [if_pos he]
    have HE := hide he
    clear he
    go_enter Try.func34, Try.ntmps34
    go_wp2_with (go_at_call 26; refine (refCheck_any _ B _ _ vs _ h hn).mono ?_; rintro e w' ⟨rfl, rfl⟩; rw [HE.out])
    go_loop [6, 7] (fun t i => ∃ k : Nat, (k : Int) ≤ 2 ^ vs.length ∧ i = .int .i64 k ∧ t = .int .i64 (minTo vs vs.length k : Nat)) (fun _ i => 65536 - (intOf i).toNat)
    case atStart => exact ⟨0, by omega, rfl, by simp [minTo]⟩
    case round =>
      obtain ⟨k, hk, rfl, rfl⟩ := hrel
      have hm := minTo_16 vs vs.length k (by omega)
      by_cases hlt : (k : Int) < 2 ^ vs.length
      · have hpop : pop k ≤ 16 := popTo_le k 16
        have hsub : Hid ((2 : Int) ^ vs.length - 1 - k = ((allOf vs.length - k : Nat) : Int)) := by
          show _ = _
          have := HP.out
          unfold allOf
          omega
        have hal : allOf vs.length - k < 9223372036854775808 := by have := allOf_lt vs.length h16; omega
        cases hq : winsB vs (allOf vs.length - k)
        · have HQ := hide hq
          by_cases hc : pop k < minTo vs vs.length k
          · have hc' : decide (pop k < minTo vs vs.length k) = true := by simpa using hc
            have HW : Hid (minTo vs vs.length (k + 1) = pop k) := by show _ = _; rw [minTo, if_pos ⟨hq, hc⟩]
            clear hq
            go_wp2_with (first | (go_at_call 48; rw [hsub.out]; refine (wins_any _ _ B _ _ vs _ h hal hok).mono ?_; rintro e w' ⟨rfl, rfl⟩; rw [HQ.out]) | (go_at_call 61; refine (size_any k _ (by omega)).mono ?_; rintro e w' ⟨rfl, rfl⟩))
            go_round
            case rel => exact ⟨k + 1, by omega, by go_num, by rw [HW.out]⟩
            case measure => simp [intOf]; omega
          · have hc' : decide (pop k < minTo vs vs.length k) = false := by simpa using hc
            have hc2 : minTo vs vs.length k ≤ pop k := by omega
            have HW : Hid (minTo vs vs.length (k + 1) = minTo vs vs.length k) := by show _ = _; rw [minTo, if_neg (fun q => hc q.2)]
            clear hc hq
            go_wp2_with (first | (go_at_call 48; rw [hsub.out]; refine (wins_any _ _ B _ _ vs _ h hal hok).mono ?_; rintro e w' ⟨rfl, rfl⟩; rw [HQ.out]) | (go_at_call 61; refine (size_any k _ (by omega)).mono ?_; rintro e w' ⟨rfl, rfl⟩))
            go_round
            case rel => exact ⟨k + 1, by omega, by go_num, by rw [HW.out]⟩
            case measure => simp [intOf]; omega
        · have HW : Hid (minTo vs vs.length (k + 1) = minTo vs vs.length k) := by show _ = _; rw [minTo, if_neg (fun q => by rw [hq] at q; simp at q)]
          have HQ := hide hq
          clear hq
          go_wp2_with (first | (go_at_call 48; rw [hsub.out]; refine (wins_any _ _ B _ _ vs _ h hal hok).mono ?_; rintro e w' ⟨rfl, rfl⟩; rw [HQ.out]) | (go_at_call 61; refine (size_any k _ (by omega)).mono ?_; rintro e w' ⟨rfl, rfl⟩))
          go_round
          case rel => exact ⟨k + 1, by omega, by go_num, by rw [HW.out]⟩
          case measure => simp [intOf]; omega
      · have hk2 : k = 2 ^ vs.length := by have := HP.out; omega
        have HR : Hid (((minTo vs vs.length k : Nat) : Int) - 1 = ((tolE vs : Nat) : Int)) := by
          show _ = _
          have h1 := minTo_pos vs hok
          rw [HT.out, hk2]
          unfold tol
          omega
        clear hk2
        go_wp2
        go_ret2
        exact ⟨ret2_ (vint HR.out) (vint HE.out.symm), rfl⟩
  · have HW : Hid (tolE vs = 0) := by show _ = _; unfold tolE; rw [if_neg (by rw [he]; decide)]
    have HE := hide he
    clear he
    go_enter Try.func34, Try.ntmps34
    go_wp2_with (go_at_call 26; refine (refCheck_any _ B _ _ vs _ h hn).mono ?_; rintro e w' ⟨rfl, rfl⟩; rw [HE.out])
    go_ret2
    exact ⟨ret2_ (vint (by rw [HW.out]; rfl)) (vint HE.out.symm), rfl⟩

set_option maxRecDepth 100000 in
set_option maxHeartbeats 1000000 in
theorem counts_walk (A : Option Addr) (n c : Nat) (vs : List Int) (w : World) (h : RI w w.heap.size A n vs) (hn : n * 8 ≤ 140737488351232) :
    Calls Try.prog 10 #[.slice A n c] w fun e w' => e = .returned (.bool true) ∧ Below w.heap.size w w' := by
  have hl := hide h.len
  go_enter Try.func10, Try.ntmps10
  go_wp2_with fail
  refine (lent_any A n c vs _ h hn).mono ?_
  rintro e w1 ⟨g1, cap1, rfl, hown1, hb1⟩
  have R1 : RI w1 w1.heap.size (some ⟨g1, 0, none⟩) (n + 64) (vs ++ marks 64) := Reads.of_own hown1
  have k1 := (own_cap' hown1)
  go_wp2_with fail
  refine (winning_any _ _ _ vs _ (RI.front R1 hl.out) (by omega)).mono ?_
  rintro e w2 ⟨rfl, hb2⟩
  have H2 := hb1.trans (hb2.mono hb1.size)
  have R2 := Reads.below R1 hb2
  go_wp2_with fail
  refine (tolerance_any _ _ _ vs _ (Reads.more (RI.front R2 hl.out) hb2.size) (by omega)).mono ?_
  rintro e w3 ⟨rfl, hb3⟩
  have H3 := H2.trans (hb3.mono H2.size)
  have R3 := Reads.below (Reads.more R2 hb2.size) hb3
  have V3 := Reads.below h H3
  go_wp2_with fail
  refine (refWinning_any _ _ _ _ vs _ V3 (by omega)).mono ?_
  rintro e w4 ⟨rfl, rfl⟩
  go_wp2_with fail
  refine (refTol_any _ _ _ _ vs _ V3 (by omega)).mono ?_
  rintro e w5 ⟨rfl, rfl⟩
  go_wp2_with (first | (go_at_call 17; refine (num_any _ _).mono ?_; rintro e w' ⟨rfl, rfl⟩) | (go_at_call 27; refine (kept_true _ _ _ _ _ _ _ vs _ R3 k1 V3 (by omega)).mono ?_; rintro e w' ⟨rfl, m, rfl⟩))
  go_ret
  exact ⟨rfl, below_drewN H3 _⟩
end Go.Proofs.Yteckffndboiknaa
