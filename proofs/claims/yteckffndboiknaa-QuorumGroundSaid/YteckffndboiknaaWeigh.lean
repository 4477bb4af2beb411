/-
  Contracts of the program's weigh, quorate, Check, pack, Quorate.
-/
import Derived.Test.YteckffndboiknaaCount
set_option linter.unusedVariables false
namespace Go.Proofs.Yteckffndboiknaa
open Go.RowKit Go.WideShapes Go.ChangeShapes Q

theorem add_at0 (g k : Nat) : (⟨g, 0, none⟩ : Addr).add k = ⟨g, k, none⟩ := by
  unfold Addr.add
  split
  · rename_i h0; subst h0; rfl
  · simp
theorem Ballot.below {w w' : World} {base b : Nat} {vs : List Int} (h : Ballot w base b vs) (hb : Below w.heap.size w w') : Ballot w' base b vs := by
  obtain ⟨g, cap, h1, h2, h3, h4⟩ := h
  refine ⟨g, cap, h1.below hb h1.lt, h2, h3, ?_⟩
  obtain ⟨h5, h6⟩ := h4
  refine ⟨h5, ?_⟩
  rcases h6 with ⟨h6, _⟩ | ⟨g', cap', cur, e, hg, hh, r⟩
  · cases h6
  · refine .inr ⟨g', cap', cur, e, hg, ?_, r⟩
    have hlt : g' < w.heap.size := Blk.lt (t := 3) (cs := cur) hh
    exact (hb.block g' hlt).trans hh

/-- How a set stands: 0: less than half, 1: just half, 2: more. -/
def verd (vs : List Int) (s : Nat) : Int := if tot vs < 2 * wt vs s then 2 else if 2 * wt vs s = tot vs then 1 else 0

set_option maxRecDepth 100000 in
set_option maxHeartbeats 1000000 in
theorem weigh_any (s : Nat) (base b : Nat) (vs : List Int) (w : World) (h : Ballot w base b vs) (hok : Ok vs) (hs : s < 18446744073709551616) :
    Calls Try.prog 67 #[.pointer (some ⟨b, 0, none⟩), .int .u64 s] w fun e w' => e = .returned (.int .i64 (verd vs s)) ∧ w = w' := by
  obtain ⟨g, cap, hblk, h2, h3, hown⟩ := h
  have h := show RI w w.heap.size (some ⟨g, 0, none⟩) vs.length vs from Reads.of_own hown
  have h16 := hok.2.1
  have hv := hok.2.2.1
  have hb := wtTo_bound vs s _ hv
  have hw2 : 0 ≤ tot vs ∧ tot vs ≤ 144 := by
    have := sumTo_bound vs _ hv _ (Nat.le_refl _)
    unfold tot; omega
  have HV := hide hv
  have HB := hide hb
  have c0 := hblk.cell 0
  have c1 := hblk.cell 1
  simp only [List.getElem?_toArray, List.getElem?_cons_zero, List.getElem?_cons_succ] at c0 c1
  clear hv hb hblk hown
  go_enter Try.func67, Try.ntmps67
  go_wp2
  go_loop [5, 14] (fun t i => ∃ k : Nat, k ≤ vs.length ∧ i = .int .i64 k ∧ t = .int .i64 (wtTo vs s k)) (fun _ i => vs.length - (intOf i).toNat)
  case atStart => exact ⟨0, Nat.zero_le _, rfl, rfl⟩
  case round =>
    obtain ⟨k, hk, rfl, rfl⟩ := hrel
    have b1 := HB.out k hk
    by_cases hlt : k < vs.length
    · obtain ⟨ad, had, _, hc⟩ := h.at_ hlt
      obtain rfl : (⟨g, 0, none⟩ : Addr) = ad := by injection had
      rw [add_at0] at hc
      have v1 := HV.out k hlt
      have hbit := and_one_u64_bit s k hs
      clear had
      cases hq : s.testBit k
      all_goals
        rw [hq] at hbit
        go_wp2
        go_round
        case rel => exact ⟨k + 1, by omega, by go_num, by simp [wtTo, hq]⟩
        case measure => simp [intOf]; omega
    · obtain rfl : k = vs.length := by omega
      clear h
      by_cases d1 : tot vs < 2 * wtTo vs s vs.length
      · have HE : Hid (verd vs s = 2) := by show _ = _; unfold verd wt; rw [if_pos d1]
        go_wp2
        go_ret
        exact ⟨ret_int HE.out.symm, rfl⟩
      · by_cases d2 : 2 * wtTo vs s vs.length = tot vs
        · have HE : Hid (verd vs s = 1) := by show _ = _; unfold verd wt; rw [if_neg d1, if_pos d2]
          have d2' : (2 * wtTo vs s vs.length == tot vs) = true := by simp [d2]
          have d1' : decide (tot vs < 2 * wtTo vs s vs.length) = false := by simp; omega
          clear d1 d2
          go_wp2
          go_ret
          exact ⟨ret_int HE.out.symm, rfl⟩
        · have HE : Hid (verd vs s = 0) := by show _ = _; unfold verd wt; rw [if_neg d1, if_neg d2]
          have d2' : (2 * wtTo vs s vs.length == tot vs) = false := by simp [d2]
          have d1' : decide (tot vs < 2 * wtTo vs s vs.length) = false := by simp; omega
          clear d1 d2
          go_wp2
          go_ret
          exact ⟨ret_int HE.out.symm, rfl⟩

set_option maxRecDepth 100000 in
theorem quorate_any (s : Nat) (base b : Nat) (vs : List Int) (w : World) (h : Ballot w base b vs) (hok : Ok vs) (hs : s < 18446744073709551616) :
    Calls Try.prog 44 #[.pointer (some ⟨b, 0, none⟩), .int .u64 s] w fun e w' => e = .returned (.bool (winsB vs s)) ∧ w = w' := by
  obtain ⟨g, cap, hblk, _⟩ := id h
  have c2 := hblk.cell 2
  simp only [List.getElem?_toArray, List.getElem?_cons_zero, List.getElem?_cons_succ] at c2
  have hf := fst_lt vs hok
  have h16 := hok.2.1
  have hbit := and_one_u64_bit s (fst vs) hs
  clear hblk
  by_cases d1 : tot vs < 2 * wt vs s
  · have HE : Hid (verd vs s = 2) := by show _ = _; unfold verd; rw [if_pos d1]
    have HW : Hid (winsB vs s = true) := by show _ = _; simp [winsB, d1]
    clear d1
    go_enter Try.func44, Try.ntmps44
    go_wp2_with (go_at_call 67; refine (weigh_any s base b vs _ h hok hs).mono ?_; rintro e w' ⟨rfl, rfl⟩; rw [HE.out])
    go_ret
    exact ⟨ret_bool HW.out.symm, rfl⟩
  · by_cases d2 : 2 * wt vs s = tot vs
    · have HE : Hid (verd vs s = 1) := by show _ = _; unfold verd; rw [if_neg d1, if_pos d2]
      have HW : Hid (winsB vs s = s.testBit (fst vs)) := by show _ = _; simp [winsB, d2]
      clear d1 d2
      go_enter Try.func44, Try.ntmps44
      go_wp2_with (go_at_call 67; refine (weigh_any s base b vs _ h hok hs).mono ?_; rintro e w' ⟨rfl, rfl⟩; rw [HE.out])
      go_ret
      exact ⟨ret_bool HW.out.symm, rfl⟩
    · have HE : Hid (verd vs s = 0) := by show _ = _; unfold verd; rw [if_neg d1, if_neg d2]
      have HW : Hid (winsB vs s = false) := by show _ = _; simp [winsB, d1, d2]
      clear d1 d2
      go_enter Try.func44, Try.ntmps44
      go_wp2_with (go_at_call 67; refine (weigh_any s base b vs _ h hok hs).mono ?_; rintro e w' ⟨rfl, rfl⟩; rw [HE.out])
      go_ret
      exact ⟨ret_bool HW.out.symm, rfl⟩
end Go.Proofs.Yteckffndboiknaa
