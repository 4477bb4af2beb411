/-
  Contracts of the program's count (a ballot made of votes).
-/
import Derived.Test.YteckffndboiknaaLent
set_option linter.unusedVariables false
namespace Go.Proofs.Yteckffndboiknaa
open Go.RowKit Go.WideShapes Go.ChangeShapes Q

/-- A ballot in memory: its votes in a row of its own, the sum, the lowest node that votes. -/
def Ballot (w : World) (base b : Nat) (vs : List Int) : Prop :=
  ∃ g cap, Blk w b 110 #[.slice (some ⟨g, 0, none⟩) vs.length cap, .int .i64 (tot vs), .int .i64 (fst vs)] ∧ base ≤ b ∧ base ≤ g ∧ w.ownsRow base 3 1 (.slice (some ⟨g, 0, none⟩) vs.length cap) vs.length (ints vs)

theorem count_short (A : Option Addr) (n c : Nat) (w : World) (hn : n < 1 ∨ 16 < n) (hm : n ≤ 17592186044416) :
    Calls Try.prog 43 #[.slice A n c] w fun e w' => e = .returned (.tuple #[.pointer none, .int .i64 110]) ∧ w = w' := by
  rcases hn with hn | hn
  · go_enter Try.func43, Try.ntmps43
    go_wp2
    go_ret2
    exact ⟨rfl, rfl⟩
  · have h1 : ¬ n < 1 := by omega
    go_enter Try.func43, Try.ntmps43
    go_wp2
    go_ret2
    exact ⟨rfl, rfl⟩

set_option maxRecDepth 100000 in
set_option maxHeartbeats 1000000 in
theorem count_any (A : Option Addr) (n c : Nat) (vs : List Int) (w : World) (h : RI w w.heap.size A n vs) (hn1 : 1 ≤ n) (hn : n ≤ 16) :
    Calls Try.prog 43 #[.slice A n c] w fun e w' => (∃ b, e = .returned (.tuple #[.pointer (some ⟨b, 0, none⟩), .int .i64 0]) ∧ Ok vs ∧ Ballot w' w.heap.size b vs ∧ Below w.heap.size w w') ∨ (e = .returned (.tuple #[.pointer none, .int .i64 110]) ∧ ¬ Ok vs ∧ Below w.heap.size w w') := by
  obtain ⟨i0, hi, hz0, hz1, hz2⟩ := info_parts info3
  have hl := h.len
  subst hl
  go_enter Try.func43, Try.ntmps43
  go_wp2_with (at_builtin; refine wpList_append_any _ rfl _ _ _ rfl w.heap.size 3 i0 _ 1 8 Try.underlying32 hi hz0 hz1 hz2 rfl (by omega) (.slice none 0 0) 0 [] rfl (World.ownsRow_nil _ _ _ _) w.heap.size A vs.length c (ints vs) rfl h (fun u hu => by simp [ints] at hu; obtain ⟨x, _, rfl⟩ := hu; rfl) (by unfold maxLen; omega) (by omega) (Nat.le_refl _) ?_; intro v1 w1 hown1 hg1 hat1; obtain ⟨g, cap, hv1, hgb, hgl⟩ := hown1.form (by omega); have hbw1 : Below w.heap.size w w1 := (Below.refl _ _).grown hg1 (Nat.le_refl _) (by simp [Value.ownBlock]); simp only [Nat.zero_add, List.nil_append] at hown1 hv1; rw [hv1] at hown1 ⊢; clear hv1 hat1 hg1)
  have hn2 : 0 < vs.length := by omega
  go_loopw [21] (fun i wr => ∃ k : Nat, k ≤ vs.length ∧ i = .int .i64 k ∧ Hid (Fine vs k) ∧ wr = w1.alloc (.cells #[.slice (some ⟨g, 0, none⟩) vs.length cap, .int .i64 (sumTo vs k), .int .i64 (fstTo vs k)] 110)) (fun i _ => vs.length - (intOf i).toNat)
  case atStart => exact ⟨0, Nat.zero_le _, rfl, Fine.zero vs, rfl⟩
  case round =>
    obtain ⟨k, hk, rfl, hfine, rfl⟩ := hrel
    have b1 := sumTo_bound vs k hfine.out k (Nat.le_refl _)
    have b2 := fstTo_lt vs k
    have b3 := fstTo_ge vs k
    by_cases hlt : k < vs.length
    · obtain ⟨ad, rfl, hb, hc⟩ := h.at_ hlt
      have hc' : ∀ o, (w1.alloc o).cell? (ad.add k) = some (.int .i64 (nth vs k)) := fun o => (World.cell?_alloc_lt w1 o _ (by rw [block_of_add]; have := hbw1.size; omega)).trans ((hbw1.cell (by rw [block_of_add]; exact hb)).trans hc)
      clear hc
      by_cases v0 : nth vs k < 0
      · have hbad := hide (not_ok_at hlt (.inl v0))
        go_wp2
        go_ret2
        exact .inr ⟨rfl, hbad.out, hbw1.alloc hbw1.size _⟩
      · by_cases v9 : 9 < nth vs k
        · have hbad := hide (not_ok_at hlt (.inr v9))
          go_wp2
          go_ret2
          exact .inr ⟨rfl, hbad.out, hbw1.alloc hbw1.size _⟩
        · have hf := hide (hfine.out.succ (by omega) (by omega))
          by_cases vz : 0 < nth vs k
          · by_cases vf : fstTo vs k < 0
            · have hF : Hid (fstTo vs (k + 1) = k) := by show _ = _; rw [fstTo, if_pos ⟨vf, vz⟩]
              go_wp2
              go_roundw
              case rel => exact ⟨k + 1, by omega, by go_num, hf, by rw [hF.out]; rfl⟩
              case measure => simp [intOf]; omega
            · have hF : Hid (fstTo vs (k + 1) = fstTo vs k) := by show _ = _; rw [fstTo, if_neg (by omega)]
              have vf' : 0 ≤ fstTo vs k := by omega
              clear vf
              go_wp2
              go_roundw
              case rel => exact ⟨k + 1, by omega, by go_num, hf, by rw [hF.out]; rfl⟩
              case measure => simp [intOf]; omega
          · have hF : Hid (fstTo vs (k + 1) = fstTo vs k) := by show _ = _; rw [fstTo, if_neg (by omega)]
            have vz' : decide (0 < nth vs k) = false := by simp; omega
            clear vz
            go_wp2
            go_roundw
            case rel => exact ⟨k + 1, by omega, by go_num, hf, by rw [hF.out]; rfl⟩
            case measure => simp [intOf]; omega
    · obtain rfl : k = vs.length := by omega
      by_cases hz : sumTo vs vs.length = 0
      · have hbad := hide (not_ok_sum (vs := vs) hz)
        have hz' : (sumTo vs vs.length == 0) = true := by simp [hz]
        clear hz
        go_wp2
        go_ret2
        exact .inr ⟨rfl, hbad.out, hbw1.alloc hbw1.size _⟩
      · have hok := hide (ok_mk (vs := vs) (by omega) (by omega) hfine.out hz)
        have hz' : (sumTo vs vs.length == 0) = false := by simp [hz]
        clear hz
        go_wp2
        go_ret2
        refine .inl ⟨w1.heap.size, rfl, hok.out, ⟨g, cap, ?_, hbw1.size, hgb, hown1.alloc _⟩, hbw1.alloc hbw1.size _⟩
        have e : ((fst vs : Nat) : Int) = fstTo vs vs.length := by
          have := fstTo_nonneg vs hok.out
          unfold fst; omega
        rw [e]
        exact Blk.new _ _ _
end Go.Proofs.Yteckffndboiknaa
