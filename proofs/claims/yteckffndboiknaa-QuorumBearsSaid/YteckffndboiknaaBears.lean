/-
  QuorumBears, the walk.
-/
import Derived.Test.YteckffndboiknaaTol
import Derived.Test.YteckffndboiknaaMeet
set_option linter.unusedVariables false
namespace Go.Proofs.Yteckffndboiknaa
open Go.RowKit Go.WideShapes Go.ChangeShapes Q

/-- Has one of the first k sets just tol + 1 nodes, and are the others not quorate? -/
def brk (vs : List Int) : Nat → Bool
  | 0 => false
  | k + 1 => brk vs k || (Nat.beq (pop k) (tol vs + 1) && !winsB vs (allOf vs.length - k))
theorem brk_of (vs : List Int) (g : Nat) (h1 : pop g = tol vs + 1) (h2 : winsB vs (allOf vs.length - g) = false) : ∀ k, g < k → brk vs k = true := by
  intro k
  induction k with
  | zero => intro h; omega
  | succ k ih =>
    intro hg
    rw [brk]
    by_cases e : g = k
    · subst e; rw [h1, h2]; simp
    · rw [ih (by omega)]; rfl

set_option maxRecDepth 100000 in
set_option maxHeartbeats 1000000 in
theorem bears_walk (A : Option Addr) (n c : Nat) (vs : List Int) (x y : Int) (w : World) (h : RI w w.heap.size A n vs) (hn : n ≤ 17592186044416) :
    Calls Try.prog 11 #[.agg #[.slice A n c, .int .i64 x, .int .i64 y]] w fun e w' => e = .returned (.bool true) ∧ Below w.heap.size w w' := by
  have H0 : Below w.heap.size w (w.alloc (.cells #[.slice A n c, .int .i64 x, .int .i64 y] 38)) := (Below.refl _ _).alloc (Nat.le_refl _) _
  go_enter Try.func11, Try.ntmps11
  go_wp2_with fail
  refine (fit_any A n c vs _ ((Reads.below h H0).more H0.size) hn).mono ?_
  rintro e w1 ⟨A1, k1, c1, fs, rfl, R1, hc1, hok, hb1⟩
  have H1 := H0.trans (hb1.mono H0.size)
  have hl := R1.len
  subst hl
  have h16 := hok.2.1
  go_upto_if 15 with (fail)
  go_cut [3] (fun v wx => ∃ A2 c2 gs, v = .slice A2 gs.length c2 ∧ RI wx wx.heap.size A2 gs.length gs ∧ gs.length ≤ c2 ∧ Ok gs ∧ Below w.heap.size w wx)
  case first =>
    by_cases h9 : 9 < fs.length
    · obtain ⟨ad, had, _⟩ := R1.2 (by omega)
      subst had
      have R9 := R1.take (m := 9) (by omega)
      go_wp2_with fail
      refine (fit_any _ 9 c1 (fs.take 9) _ R9 (by omega)).mono ?_
      rintro e w2 ⟨A2, k2, c2, gs, rfl, R2, hc2, hok2, hb2⟩
      have hl2 := R2.len
      subst hl2
      go_wp2_with fail
      go_meet
      exact ⟨A2, c2, gs, rfl, R2, hc2, hok2, H1.trans (hb2.mono H1.size)⟩
    · go_wp2_with fail
      go_meet
      exact ⟨A1, c1, fs, rfl, R1, hc1, hok, H1⟩
  case rest =>
    obtain ⟨A2, c2, gs, rfl, R2, hc2, hok2, H2⟩ := hcut
    clear hok R1 hc1 h16 H1 hb1 h H0
    have h16 := hok2.2.1
    have p1 := two_pow_le gs.length h16
    have ht := tol_lt gs hok2
    have dt1 : decide (((tol gs : Nat) : Int) < 0) = false := by rw [decide_eq_false_iff_not]; omega
    have dt2 : decide (gs.length ≤ tol gs) = false := by rw [decide_eq_false_iff_not]; omega
    go_wp2_with fail
    refine (copied_any A2 _ c2 gs _ R2 (by omega)).mono ?_
    rintro e w3 ⟨rfl, rfl⟩
    have H3 : Below wc.heap.size wc (wc.alloc (.cells (ints gs).toArray 3)) := (Below.refl _ _).alloc (Nat.le_refl _) _
    have R3 : RI (wc.alloc (.cells (ints gs).toArray 3)) (wc.alloc (.cells (ints gs).toArray 3)).heap.size (some ⟨wc.heap.size, 0, none⟩) gs.length gs := Reads.of_own (own_of_alloc wc 3 (ints gs) gs.length (ints_len gs) (by unfold maxLen; omega))
    go_wp2_with fail
    refine (tol_ok _ _ _ gs _ R3 hok2).mono ?_
    rintro e w4 ⟨rfl, hb4⟩
    have H4 := H3.trans (hb4.mono H3.size)
    have HI : Hid (∀ (X : Int) (W : World), Below wc.heap.size wc W → 0 ≤ X → X < 2 ^ gs.length → Calls Try.prog 21 #[.slice A2 gs.length c2, .int .i64 X] W fun e w' => e = .returned (.bool (winsI gs X)) ∧ Below wc.heap.size wc w') := by
      intro X W hW h0 h1
      refine (lwins_I X A2 wc.heap.size _ c2 gs W (Reads.below R2 hW) hW.size hok2 h0 h1).mono ?_
      rintro e w' ⟨rfl, hb⟩
      exact ⟨rfl, hW.trans (hb.mono hW.size)⟩
    have HP := hide (nat_pow_cast gs.length)
    have HO := hide hok2
    clear R2 R3 H3 hb4 hok2
    go_wp2_with fail
    go_loopw [7, 8] (fun br g wr => ∃ k : Nat, (k : Int) ≤ 2 ^ gs.length ∧ g = .int .i64 k ∧ br = .bool (brk gs k) ∧ Below wc.heap.size wc wr) (fun _ g _ => 65536 - (intOf g).toNat)
    case atStart => exact ⟨0, by omega, rfl, rfl, H4⟩
    case round =>
      obtain ⟨k, hk, rfl, rfl, hcur⟩ := hrel
      have hpop : pop k ≤ 16 := popTo_le k 16
      by_cases hlt : (k : Int) < 2 ^ gs.length
      · have hk2 : k < 2 ^ gs.length := by have := HP.out; omega
        have wk : winsI gs (2 ^ gs.length - 1 - k) = winsB gs (allOf gs.length - k) := by
          have e : (2 : Int) ^ gs.length - 1 - k = ((allOf gs.length - k : Nat) : Int) := by have := HP.out; unfold allOf; omega
          rw [e]; unfold winsI; rw [Int.toNat_natCast]
        by_cases hle : pop k ≤ tol gs
        · have hw := tol_bears gs HO.out k hk2 hle
          rw [hw] at wk
          have HB : Hid (brk gs (k + 1) = brk gs k) := by
            show _ = _
            rw [brk, hw]; simp
          clear hw hk2
          have he : (((pop k : Nat) : Int) == ((tol gs : Nat) : Int) + 1) = false := by rw [beq_eq_false_iff_ne]; omega
          cases hbk : brk gs k
          all_goals
            have HK := hide hbk
            rw [hbk] at HB
            clear hbk
            go_wp2_with (first | (go_at_call 35; refine (lbits_any k _ (by omega)).mono ?_; rintro e w' ⟨rfl, rfl⟩) | (go_at_call 21; refine (HI.out _ _ hcur (by omega) (by omega)).mono ?_; rintro e w' ⟨rfl, hcur⟩))
            go_roundw
            case rel => exact ⟨k + 1, by omega, by go_num, by rw [HB.out]; first | done | rfl, hcur⟩
            case measure => simp [intOf]; omega
        · have hle' : decide (((pop k : Nat)) ≤ (tol gs : Nat)) = false := by simpa using hle
          have hgt : tol gs < pop k := by omega
          clear hle
          cases hbk : brk gs k
          · by_cases heq : pop k = tol gs + 1
            · have he : (((pop k : Nat) : Int) == ((tol gs : Nat) : Int) + 1) = true := by rw [beq_iff_eq]; omega
              cases hw : winsB gs (allOf gs.length - k)
              all_goals
                have HB : Hid (brk gs (k + 1) = !winsB gs (allOf gs.length - k)) := by
                  show _ = _
                  rw [brk, hbk, heq]; simp
                rw [hw] at wk HB
                clear hw heq hk2 hbk
                go_wp2_with (first | (go_at_call 35; refine (lbits_any k _ (by omega)).mono ?_; rintro e w' ⟨rfl, rfl⟩) | (go_at_call 21; refine (HI.out _ _ hcur (by omega) (by omega)).mono ?_; rintro e w' ⟨rfl, hcur⟩))
                go_roundw
                case rel => exact ⟨k + 1, by omega, by go_num, by rw [HB.out]; first | done | rfl, hcur⟩
                case measure => simp [intOf]; omega
            · have he : (((pop k : Nat) : Int) == ((tol gs : Nat) : Int) + 1) = false := by rw [beq_eq_false_iff_ne]; omega
              have HB : Hid (brk gs (k + 1) = false) := by
                show _ = _
                rw [brk, hbk, show Nat.beq (pop k) (tol gs + 1) = false from by cases hbb : Nat.beq (pop k) (tol gs + 1) <;> first | rfl | exact absurd (Nat.eq_of_beq_eq_true hbb) heq]; simp
              clear heq hk2 wk hbk
              go_wp2_with (first | (go_at_call 35; refine (lbits_any k _ (by omega)).mono ?_; rintro e w' ⟨rfl, rfl⟩) | (go_at_call 21; refine (HI.out _ _ hcur (by omega) (by omega)).mono ?_; rintro e w' ⟨rfl, hcur⟩))
              go_roundw
              case rel => exact ⟨k + 1, by omega, by go_num, by rw [HB.out]; first | done | rfl, hcur⟩
              case measure => simp [intOf]; omega
          · have HB : Hid (brk gs (k + 1) = true) := by
              show _ = _
              rw [brk, hbk]; rfl
            clear hk2 wk
            go_wp2_with (first | (go_at_call 35; refine (lbits_any k _ (by omega)).mono ?_; rintro e w' ⟨rfl, rfl⟩) | (go_at_call 21; refine (HI.out _ _ hcur (by omega) (by omega)).mono ?_; rintro e w' ⟨rfl, hcur⟩))
            go_roundw
            case rel => exact ⟨k + 1, by omega, by go_num, by rw [HB.out]; first | done | rfl, hcur⟩
            case measure => simp [intOf]; omega
      · have hk2 : k = 2 ^ gs.length := by have := HP.out; omega
        have HB : Hid (brk gs k = true) := by
          show _ = _
          obtain ⟨g, g1, g2, g3⟩ := tol_breaks gs HO.out
          exact brk_of gs g g2 g3 k (by omega)
        clear hk2
        go_wp2_with fail
        go_ret
        exact ⟨ret_bool HB.out, H2.trans (hcur.mono H2.size)⟩
end Go.Proofs.Yteckffndboiknaa
