/-
  Contract of Wire.sound. (Printed by wip/tools/mksound.py.)
-/
import Derived.Test.YtkkckinnhkpcmaaWtake
set_option linter.unusedVariables false
set_option linter.unusedSimpArgs false
namespace Go.Proofs.Ytkkckinnhkpcmaa
open Go.RowKit Go.WideShapes Go.ChangeShapes Q

set_option maxRecDepth 100000 in
set_option maxHeartbeats 2000000 in
theorem wsound (w : World) (o : Nat → Nat) (wb W Sp n : Nat) (g : Gw) (x : Wr) (h : WireAt w o wb W Sp g x) (hI : Inv W Sp n x) (hn : n ≤ 5000) :
    Calls Try.prog 35 #[.pointer (some ⟨wb, 0, none⟩)] w fun e w' => e = .returned (.bool true) ∧ ∃ m, w' = w.drewN m := by
  have HW := hide h
  have HI := hide hI
  have hnum := h.nums
  clear h hI
  go_enter Try.func35, Try.ntmps35
  go_wp2_with fail
  go_loopw [3] (fun i wr => ∃ k : Nat, k ≤ 2 ∧ i = .int .i64 k ∧ ∃ m, wr = w.drewN m) (fun i _ => 2 - (intOf i).toNat)
  case atStart => exact ⟨0, by omega, rfl, 0, rfl⟩
  case round =>
    obtain ⟨k, hk, rfl, m, rfl⟩ := hrel
    by_cases h2 : k = 2
    · subst h2
      go_wp2
      go_ret
      exact ⟨rfl, _, rfl⟩
    · have hk2 : k = 0 ∨ k = 1 := by omega
      rcases hk2 with rfl | rfl
      · clear hk h2
        all_goals
          obtain ⟨p0, q0, hh⟩ := HI.out 0 1 rfl
          have e1 := hh.outLen
          have e2 := hh.oLen
          have e3 := hh.pq
          have e4 := hh.room
          have e5 := hh.cP
          have HW2 := hide (HW.out.quiet ((St.refl (fun _ => False) w).drewN m))
          have HSN : ∀ n', Hid (Calls Try.prog 32 #[.pointer (some ⟨g.m 0, 0, none⟩), .int .i64 5] ((w.drewN m).drewN n') fun r w' => r = .returned (.int .i64 ((x.P 0).length : Int)) ∧ ∃ k, w' = ((w.drewN m).drewN n').drewN k) := fun n' =>
            (HW2.out.quiet ((St.refl (fun _ => False) _).drewN n')).sent HI.out hn (s := 0) (by omega) (p := 5) rfl
          have HWA : ∀ n', Hid (Calls Try.prog 20 #[.pointer (some ⟨g.m 0, 0, none⟩), .int .i64 5] ((w.drewN m).drewN n') fun r w' => r = .returned (.int .i64 ((x.st 0).out.length : Int)) ∧ (w.drewN m).drewN n' = w') := fun n' =>
            (HW2.out.quiet ((St.refl (fun _ => False) _).drewN n')).waiting HI.out hn (s := 0) (by omega) (p := 5) rfl
          have HRM : ∀ n', Hid (Calls Try.prog 24 #[.pointer (some ⟨g.m 0, 0, none⟩), .int .i64 5] ((w.drewN m).drewN n') fun r w' => r = .returned (.int .i64 ((Sp : Int) - ((x.st 0).out.length : Int))) ∧ ∃ k, w' = ((w.drewN m).drewN n').drewN k) := fun n' =>
            (HW2.out.quiet ((St.refl (fun _ => False) _).drewN n')).room HI.out hn (s := 0) (by omega) (p := 5) rfl
          have kM : (w.drewN m).cell? ⟨wb, 0, none⟩ = some (.pointer (some ⟨g.m 0, 0, none⟩)) := HW2.out.cellM 0 (by omega)
          have kN : (w.drewN m).cell? ⟨wb, 3, none⟩ = some (.int .i64 Sp) := HW2.out.cellN.2
          obtain ⟨Ao, co, vso, hvo, _, _, hco⟩ := BRow.val (HW2.out.row 1 1 (by omega) (by omega))
          have fO : (w.drewN m).cell? ⟨wb, 7, none⟩ = some (g.row 1 1) := HW2.out.cellR 1 1 (by omega) (by omega)
          rw [hvo] at fO
          obtain ⟨a, ha⟩ : ∃ a, a = (x.P 0).length := ⟨_, rfl⟩
          obtain ⟨b, hb⟩ : ∃ b, b = (x.st 0).out.length := ⟨_, rfl⟩
          obtain ⟨c, hc⟩ : ∃ c, c = (x.O 1).length := ⟨_, rfl⟩
          rw [← ha] at HSN e1 e5
          rw [← hb] at HWA HRM e1 e4
          rw [← hc] at fO hco e2
          obtain ⟨W0, hW0⟩ : ∃ W0, W0 = w.drewN m := ⟨_, rfl⟩
          rw [← hW0] at HSN HWA HRM kM kN fO ⊢
          have HW0 := hide hW0
          clear hh ha hb hc hvo hW0
          have hsp := hnum.2.2
          have wr1 : IntKind.i64.wrap ((a : Int) - (b : Int)) = (a : Int) - (b : Int) := IntWalk.i64_in _ (by constructor <;> omega)
          have wr2 : IntKind.i64.wrap ((Sp : Int) - (b : Int)) = (Sp : Int) - (b : Int) := IntWalk.i64_in _ (by constructor <;> omega)
          have wz0 : IntKind.i64.wrap 0 = 0 := by kernel_rfl
          have wz1 : IntKind.i64.wrap 1 = 1 := by kernel_rfl
          have d1 : decide ((c : Int) < (a : Int) - (b : Int)) = false := by rw [decide_eq_false_iff_not]; omega
          have d2 : decide ((a : Int) - (b : Int) < 0) = false := by rw [decide_eq_false_iff_not]; omega
          have d3 : decide (Sp < b) = false := by rw [decide_eq_false_iff_not]; omega
          have d4 : decide ((Sp : Int) < (b : Int)) = false := by rw [decide_eq_false_iff_not]; omega
          clear e1 e2 e3 e4 e5
          go_wp2_with (go_at_call 21; refine (pid1 _).mono ?_; rintro e w' ⟨rfl, rfl⟩)
          go_quiet ((first | (go_at_call 32; exact Calls.quiet_of ((HSN _).out)) | (go_at_call 20; exact quiet_left ((HWA _).out))))
          go_wp2_with fail
          go_quiet ((first | (go_at_call 20; exact quiet_add_left ((HWA _).out)) | (go_at_call 24; exact quiet_add ((HRM _).out))))
          go_wp2
          go_roundw
          case rel =>
            refine ⟨1, by omega, by go_num, ?_⟩
            rw [HW0.out]
            simp only [World.drewN_drewN]
            exact ⟨_, rfl⟩
          case measure => simp [intOf]
      · clear hk h2
        all_goals
          obtain ⟨p0, q0, hh⟩ := HI.out 1 0 rfl
          have e1 := hh.outLen
          have e2 := hh.oLen
          have e3 := hh.pq
          have e4 := hh.room
          have e5 := hh.cP
          have HW2 := hide (HW.out.quiet ((St.refl (fun _ => False) w).drewN m))
          have HSN : ∀ n', Hid (Calls Try.prog 32 #[.pointer (some ⟨g.m 1, 0, none⟩), .int .i64 2] ((w.drewN m).drewN n') fun r w' => r = .returned (.int .i64 ((x.P 1).length : Int)) ∧ ∃ k, w' = ((w.drewN m).drewN n').drewN k) := fun n' =>
            (HW2.out.quiet ((St.refl (fun _ => False) _).drewN n')).sent HI.out hn (s := 1) (by omega) (p := 2) rfl
          have HWA : ∀ n', Hid (Calls Try.prog 20 #[.pointer (some ⟨g.m 1, 0, none⟩), .int .i64 2] ((w.drewN m).drewN n') fun r w' => r = .returned (.int .i64 ((x.st 1).out.length : Int)) ∧ (w.drewN m).drewN n' = w') := fun n' =>
            (HW2.out.quiet ((St.refl (fun _ => False) _).drewN n')).waiting HI.out hn (s := 1) (by omega) (p := 2) rfl
          have HRM : ∀ n', Hid (Calls Try.prog 24 #[.pointer (some ⟨g.m 1, 0, none⟩), .int .i64 2] ((w.drewN m).drewN n') fun r w' => r = .returned (.int .i64 ((Sp : Int) - ((x.st 1).out.length : Int))) ∧ ∃ k, w' = ((w.drewN m).drewN n').drewN k) := fun n' =>
            (HW2.out.quiet ((St.refl (fun _ => False) _).drewN n')).room HI.out hn (s := 1) (by omega) (p := 2) rfl
          have kM : (w.drewN m).cell? ⟨wb, 1, none⟩ = some (.pointer (some ⟨g.m 1, 0, none⟩)) := HW2.out.cellM 1 (by omega)
          have kN : (w.drewN m).cell? ⟨wb, 3, none⟩ = some (.int .i64 Sp) := HW2.out.cellN.2
          obtain ⟨Ao, co, vso, hvo, _, _, hco⟩ := BRow.val (HW2.out.row 1 0 (by omega) (by omega))
          have fO : (w.drewN m).cell? ⟨wb, 6, none⟩ = some (g.row 1 0) := HW2.out.cellR 1 0 (by omega) (by omega)
          rw [hvo] at fO
          obtain ⟨a, ha⟩ : ∃ a, a = (x.P 1).length := ⟨_, rfl⟩
          obtain ⟨b, hb⟩ : ∃ b, b = (x.st 1).out.length := ⟨_, rfl⟩
          obtain ⟨c, hc⟩ : ∃ c, c = (x.O 0).length := ⟨_, rfl⟩
          rw [← ha] at HSN e1 e5
          rw [← hb] at HWA HRM e1 e4
          rw [← hc] at fO hco e2
          obtain ⟨W0, hW0⟩ : ∃ W0, W0 = w.drewN m := ⟨_, rfl⟩
          rw [← hW0] at HSN HWA HRM kM kN fO ⊢
          have HW0 := hide hW0
          clear hh ha hb hc hvo hW0
          have hsp := hnum.2.2
          have wr1 : IntKind.i64.wrap ((a : Int) - (b : Int)) = (a : Int) - (b : Int) := IntWalk.i64_in _ (by constructor <;> omega)
          have wr2 : IntKind.i64.wrap ((Sp : Int) - (b : Int)) = (Sp : Int) - (b : Int) := IntWalk.i64_in _ (by constructor <;> omega)
          have wz0 : IntKind.i64.wrap 0 = 0 := by kernel_rfl
          have wz1 : IntKind.i64.wrap 1 = 1 := by kernel_rfl
          have d1 : decide ((c : Int) < (a : Int) - (b : Int)) = false := by rw [decide_eq_false_iff_not]; omega
          have d2 : decide ((a : Int) - (b : Int) < 0) = false := by rw [decide_eq_false_iff_not]; omega
          have d3 : decide (Sp < b) = false := by rw [decide_eq_false_iff_not]; omega
          have d4 : decide ((Sp : Int) < (b : Int)) = false := by rw [decide_eq_false_iff_not]; omega
          clear e1 e2 e3 e4 e5
          go_wp2_with (go_at_call 21; refine (pid0 _).mono ?_; rintro e w' ⟨rfl, rfl⟩)
          go_quiet ((first | (go_at_call 32; exact Calls.quiet_of ((HSN _).out)) | (go_at_call 20; exact quiet_left ((HWA _).out))))
          go_wp2_with fail
          go_quiet ((first | (go_at_call 20; exact quiet_add_left ((HWA _).out)) | (go_at_call 24; exact quiet_add ((HRM _).out))))
          go_wp2
          go_roundw
          case rel =>
            refine ⟨2, by omega, by go_num, ?_⟩
            rw [HW0.out]
            simp only [World.drewN_drewN]
            exact ⟨_, rfl⟩
          case measure => simp [intOf]
end Go.Proofs.Ytkkckinnhkpcmaa
