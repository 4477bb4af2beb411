/-
  Contract of the program's Winning; QuorumHalf, the walk.
-/
import Derived.Test.YteckffndboiknaaQuorate
import Derived.Test.YteckffndboiknaaPlainC
import Derived.Test.YteckffndboiknaaFit
set_option linter.unusedVariables false
namespace Go.Proofs.Yteckffndboiknaa
open Go.RowKit Go.WideShapes Go.ChangeShapes Q

theorem nat_pow_cast (n : Nat) : ((2 ^ n : Nat) : Int) = (2 : Int) ^ n := by rw [Int.natCast_pow]; rfl

set_option maxRecDepth 100000 in
set_option maxHeartbeats 1000000 in
theorem winning_ok (A : Option Addr) (n c : Nat) (vs : List Int) (w : World) (h : RI w w.heap.size A n vs) (hok : Ok vs) :
    Calls Try.prog 19 #[.slice A n c] w fun e w' => e = .returned (.tuple #[.int .i64 (winTo vs (2 ^ n) : Nat), .int .i64 0]) ∧ Below w.heap.size w w' := by
  have hl := h.len
  subst hl
  have h16 := hok.2.1
  have p1 := two_pow_le vs.length h16
  have HP := hide (nat_pow_cast vs.length)
  go_enter Try.func19, Try.ntmps19
  go_wp2_with fail
  refine (count_all A _ c vs _ h (by omega)).mono ?_
  rintro e w1 (⟨b, rfl, _, hbal, hb⟩ | ⟨rfl, hbad, hb⟩)
  · go_wp2_with fail
    go_loop [6, 19] (fun t i => ∃ k : Nat, (k : Int) ≤ 2 ^ vs.length ∧ i = .int .i64 k ∧ t = .int .i64 (winTo vs k : Nat)) (fun _ i => 65536 - (intOf i).toNat)
    case atStart => exact ⟨0, by omega, rfl, rfl⟩
    case round =>
      obtain ⟨k, hk, rfl, rfl⟩ := hrel
      have hc := countTo_le (winsB vs) k
      have hc' : winTo vs k ≤ k := hc
      clear hc
      by_cases hlt : (k : Int) < 2 ^ vs.length
      · go_wp2_with fail
        refine (quorate_any k _ b vs _ hbal hok (by omega)).mono ?_
        rintro e w' ⟨rfl, rfl⟩
        cases hq : winsB vs k
        · have HW : Hid (winTo vs (k + 1) = winTo vs k) := by show _ = _; unfold winTo; rw [countTo, hq]; rfl
          clear hq
          go_wp2_with fail
          go_round
          case rel => exact ⟨k + 1, by omega, by go_num, by rw [HW.out]⟩
          case measure => simp [intOf]; omega
        · have HW : Hid (winTo vs (k + 1) = winTo vs k + 1) := by show _ = _; unfold winTo; rw [countTo, hq]; rfl
          clear hq
          go_wp2_with fail
          go_round
          case rel => exact ⟨k + 1, by omega, by go_num, by rw [HW.out]; go_num⟩
          case measure => simp [intOf]; omega
      · have he : k = 2 ^ vs.length := by have := HP.out; omega
        have HE := hide he
        clear he
        go_wp2_with fail
        go_ret2
        exact ⟨ret2_ (vint (by rw [← HE.out])) rfl, hb⟩
  · exact absurd hok hbad

theorem half_walk (A : Option Addr) (n c : Nat) (vs : List Int) (w : World) (h : RI w w.heap.size A n vs) (hn : n ≤ 17592186044416) :
    Calls Try.prog 4 #[.slice A n c] w fun e w' => e = .returned (.bool true) ∧ Below w.heap.size w w' := by
  go_enter Try.func4, Try.ntmps4
  go_wp2_with fail
  refine (fit_any A n c vs _ h hn).mono ?_
  rintro e w1 ⟨A1, k1, c1, fs, rfl, R1, hc1, hok, hb1⟩
  have hl := R1.len
  subst hl
  have h16 := hok.2.1
  go_wp2_with fail
  refine (copied_any A1 _ c1 fs _ R1 (by omega)).mono ?_
  rintro e w2 ⟨rfl, rfl⟩
  have R2 : RI (w1.alloc (.cells (ints fs).toArray 3)) (w1.alloc (.cells (ints fs).toArray 3)).heap.size (some ⟨w1.heap.size, 0, none⟩) fs.length fs := Reads.of_own (own_of_alloc w1 3 (ints fs) fs.length (ints_len fs) (by unfold maxLen; omega))
  go_wp2_with fail
  refine (winning_ok _ _ _ fs _ R2 hok).mono ?_
  rintro e w3 ⟨rfl, hb3⟩
  have HH := half fs hok
  have p1 := two_pow_le fs.length h16
  have HP := nat_pow_cast fs.length
  have he : ((2 * ((winTo fs (2 ^ fs.length) : Nat) : Int)) == 2 ^ fs.length) = true := by
    rw [beq_iff_eq]; omega
  have hw : ((winTo fs (2 ^ fs.length) : Nat) : Int) ≤ 65536 := by omega
  clear HH HP
  go_wp2_with fail
  go_ret
  exact ⟨rfl, hb1.trans ((((Below.refl w1.heap.size w1).alloc (Nat.le_refl _) _).trans (hb3.mono (by simp))).mono hb1.size)⟩
end Go.Proofs.Yteckffndboiknaa
