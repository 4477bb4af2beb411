/-
  The reference's CheckConfig by contract.
-/
import Derived.Test.YtcibcmfaebbhnaaGreatDoorZCfgW
set_option linter.unusedVariables false
namespace Go.Proofs.YtcibcmfaebbhnaaGreatDoor
open Go.RowKit Go.WideShapes Go.ChangeShapes Q
set_option maxRecDepth 100000 in
theorem rcheck_bad0 (nd wn bs st cp rm fl : Int) (vs : List Int) (A : Option Addr) (n k : Nat) (w : World) (b : nd < 1) :
    Calls Tryz.prog 26 #[cfgV ⟨nd, wn, bs, st, cp, rm, fl, vs⟩ A n k] w fun e w' => e = .returned (.int .i64 22) ∧ w.alloc (cfgO ⟨nd, wn, bs, st, cp, rm, fl, vs⟩ A n k) = w' := by
  unfold cfgV cfgO
  go_enter Tryz.func26, Tryz.ntmps26
  go_wp2
  go_ret
  exact ⟨rfl, rfl⟩
set_option maxRecDepth 100000 in
theorem rcheck_bad1 (nd wn bs st cp rm fl : Int) (vs : List Int) (A : Option Addr) (n k : Nat) (w : World) (l0 : 1 ≤ nd) (b : 16 < nd) :
    Calls Tryz.prog 26 #[cfgV ⟨nd, wn, bs, st, cp, rm, fl, vs⟩ A n k] w fun e w' => e = .returned (.int .i64 22) ∧ w.alloc (cfgO ⟨nd, wn, bs, st, cp, rm, fl, vs⟩ A n k) = w' := by
  unfold cfgV cfgO
  go_enter Tryz.func26, Tryz.ntmps26
  go_wp2
  go_ret
  exact ⟨rfl, rfl⟩
set_option maxRecDepth 100000 in
theorem rcheck_bad2 (nd wn bs st cp rm fl : Int) (vs : List Int) (A : Option Addr) (n k : Nat) (w : World) (l0 : 1 ≤ nd) (u0 : nd ≤ 16) (b : wn < 1) :
    Calls Tryz.prog 26 #[cfgV ⟨nd, wn, bs, st, cp, rm, fl, vs⟩ A n k] w fun e w' => e = .returned (.int .i64 22) ∧ w.alloc (cfgO ⟨nd, wn, bs, st, cp, rm, fl, vs⟩ A n k) = w' := by
  unfold cfgV cfgO
  go_enter Tryz.func26, Tryz.ntmps26
  go_wp2
  go_ret
  exact ⟨rfl, rfl⟩
set_option maxRecDepth 100000 in
theorem rcheck_bad3 (nd wn bs st cp rm fl : Int) (vs : List Int) (A : Option Addr) (n k : Nat) (w : World) (l0 : 1 ≤ nd) (u0 : nd ≤ 16) (l1 : 1 ≤ wn) (b : 8 < wn) :
    Calls Tryz.prog 26 #[cfgV ⟨nd, wn, bs, st, cp, rm, fl, vs⟩ A n k] w fun e w' => e = .returned (.int .i64 22) ∧ w.alloc (cfgO ⟨nd, wn, bs, st, cp, rm, fl, vs⟩ A n k) = w' := by
  unfold cfgV cfgO
  go_enter Tryz.func26, Tryz.ntmps26
  go_wp2
  go_ret
  exact ⟨rfl, rfl⟩
set_option maxRecDepth 100000 in
theorem rcheck_bad4 (nd wn bs st cp rm fl : Int) (vs : List Int) (A : Option Addr) (n k : Nat) (w : World) (l0 : 1 ≤ nd) (u0 : nd ≤ 16) (l1 : 1 ≤ wn) (u1 : wn ≤ 8) (b : cp < 1) :
    Calls Tryz.prog 26 #[cfgV ⟨nd, wn, bs, st, cp, rm, fl, vs⟩ A n k] w fun e w' => e = .returned (.int .i64 22) ∧ w.alloc (cfgO ⟨nd, wn, bs, st, cp, rm, fl, vs⟩ A n k) = w' := by
  unfold cfgV cfgO
  go_enter Tryz.func26, Tryz.ntmps26
  go_wp2
  go_ret
  exact ⟨rfl, rfl⟩
set_option maxRecDepth 100000 in
theorem rcheck_bad5 (nd wn bs st cp rm fl : Int) (vs : List Int) (A : Option Addr) (n k : Nat) (w : World) (l0 : 1 ≤ nd) (u0 : nd ≤ 16) (l1 : 1 ≤ wn) (u1 : wn ≤ 8) (l2 : 1 ≤ cp) (b : 64 < cp) :
    Calls Tryz.prog 26 #[cfgV ⟨nd, wn, bs, st, cp, rm, fl, vs⟩ A n k] w fun e w' => e = .returned (.int .i64 22) ∧ w.alloc (cfgO ⟨nd, wn, bs, st, cp, rm, fl, vs⟩ A n k) = w' := by
  unfold cfgV cfgO
  go_enter Tryz.func26, Tryz.ntmps26
  go_wp2
  go_ret
  exact ⟨rfl, rfl⟩
set_option maxRecDepth 100000 in
theorem rcheck_bad6 (nd wn bs st cp rm fl : Int) (vs : List Int) (A : Option Addr) (n k : Nat) (w : World) (l0 : 1 ≤ nd) (u0 : nd ≤ 16) (l1 : 1 ≤ wn) (u1 : wn ≤ 8) (l2 : 1 ≤ cp) (u2 : cp ≤ 64) (b : bs < 1) :
    Calls Tryz.prog 26 #[cfgV ⟨nd, wn, bs, st, cp, rm, fl, vs⟩ A n k] w fun e w' => e = .returned (.int .i64 22) ∧ w.alloc (cfgO ⟨nd, wn, bs, st, cp, rm, fl, vs⟩ A n k) = w' := by
  unfold cfgV cfgO
  go_enter Tryz.func26, Tryz.ntmps26
  go_wp2
  go_ret
  exact ⟨rfl, rfl⟩
set_option maxRecDepth 100000 in
theorem rcheck_bad7 (nd wn bs st cp rm fl : Int) (vs : List Int) (A : Option Addr) (n k : Nat) (w : World) (l0 : 1 ≤ nd) (u0 : nd ≤ 16) (l1 : 1 ≤ wn) (u1 : wn ≤ 8) (l2 : 1 ≤ cp) (u2 : cp ≤ 64) (l3 : 1 ≤ bs) (b : cp < bs) :
    Calls Tryz.prog 26 #[cfgV ⟨nd, wn, bs, st, cp, rm, fl, vs⟩ A n k] w fun e w' => e = .returned (.int .i64 22) ∧ w.alloc (cfgO ⟨nd, wn, bs, st, cp, rm, fl, vs⟩ A n k) = w' := by
  unfold cfgV cfgO
  go_enter Tryz.func26, Tryz.ntmps26
  go_wp2
  go_ret
  exact ⟨rfl, rfl⟩
set_option maxRecDepth 100000 in
theorem rcheck_bad8 (nd wn bs st cp rm fl : Int) (vs : List Int) (A : Option Addr) (n k : Nat) (w : World) (l0 : 1 ≤ nd) (u0 : nd ≤ 16) (l1 : 1 ≤ wn) (u1 : wn ≤ 8) (l2 : 1 ≤ cp) (u2 : cp ≤ 64) (l3 : 1 ≤ bs) (u3 : bs ≤ cp) (b : st < 1) :
    Calls Tryz.prog 26 #[cfgV ⟨nd, wn, bs, st, cp, rm, fl, vs⟩ A n k] w fun e w' => e = .returned (.int .i64 22) ∧ w.alloc (cfgO ⟨nd, wn, bs, st, cp, rm, fl, vs⟩ A n k) = w' := by
  unfold cfgV cfgO
  go_enter Tryz.func26, Tryz.ntmps26
  go_wp2
  go_ret
  exact ⟨rfl, rfl⟩
set_option maxRecDepth 100000 in
theorem rcheck_bad9 (nd wn bs st cp rm fl : Int) (vs : List Int) (A : Option Addr) (n k : Nat) (w : World) (l0 : 1 ≤ nd) (u0 : nd ≤ 16) (l1 : 1 ≤ wn) (u1 : wn ≤ 8) (l2 : 1 ≤ cp) (u2 : cp ≤ 64) (l3 : 1 ≤ bs) (u3 : bs ≤ cp) (l4 : 1 ≤ st) (b : cp < st) :
    Calls Tryz.prog 26 #[cfgV ⟨nd, wn, bs, st, cp, rm, fl, vs⟩ A n k] w fun e w' => e = .returned (.int .i64 22) ∧ w.alloc (cfgO ⟨nd, wn, bs, st, cp, rm, fl, vs⟩ A n k) = w' := by
  unfold cfgV cfgO
  go_enter Tryz.func26, Tryz.ntmps26
  go_wp2
  go_ret
  exact ⟨rfl, rfl⟩
set_option maxRecDepth 100000 in
theorem rcheck_bad10 (nd wn bs st cp rm fl : Int) (vs : List Int) (A : Option Addr) (n k : Nat) (w : World) (l0 : 1 ≤ nd) (u0 : nd ≤ 16) (l1 : 1 ≤ wn) (u1 : wn ≤ 8) (l2 : 1 ≤ cp) (u2 : cp ≤ 64) (l3 : 1 ≤ bs) (u3 : bs ≤ cp) (l4 : 1 ≤ st) (u4 : st ≤ cp) (b : rm < 1) :
    Calls Tryz.prog 26 #[cfgV ⟨nd, wn, bs, st, cp, rm, fl, vs⟩ A n k] w fun e w' => e = .returned (.int .i64 22) ∧ w.alloc (cfgO ⟨nd, wn, bs, st, cp, rm, fl, vs⟩ A n k) = w' := by
  unfold cfgV cfgO
  go_enter Tryz.func26, Tryz.ntmps26
  go_wp2
  go_ret
  exact ⟨rfl, rfl⟩
set_option maxRecDepth 100000 in
theorem rcheck_bad11 (nd wn bs st cp rm fl : Int) (vs : List Int) (A : Option Addr) (n k : Nat) (w : World) (l0 : 1 ≤ nd) (u0 : nd ≤ 16) (l1 : 1 ≤ wn) (u1 : wn ≤ 8) (l2 : 1 ≤ cp) (u2 : cp ≤ 64) (l3 : 1 ≤ bs) (u3 : bs ≤ cp) (l4 : 1 ≤ st) (u4 : st ≤ cp) (l5 : 1 ≤ rm) (b : 20000 < rm) :
    Calls Tryz.prog 26 #[cfgV ⟨nd, wn, bs, st, cp, rm, fl, vs⟩ A n k] w fun e w' => e = .returned (.int .i64 22) ∧ w.alloc (cfgO ⟨nd, wn, bs, st, cp, rm, fl, vs⟩ A n k) = w' := by
  unfold cfgV cfgO
  go_enter Tryz.func26, Tryz.ntmps26
  go_wp2
  go_ret
  exact ⟨rfl, rfl⟩
set_option maxRecDepth 100000 in
theorem rcheck_bad12 (nd wn bs st cp rm fl : Int) (vs : List Int) (A : Option Addr) (n k : Nat) (w : World) (l0 : 1 ≤ nd) (u0 : nd ≤ 16) (l1 : 1 ≤ wn) (u1 : wn ≤ 8) (l2 : 1 ≤ cp) (u2 : cp ≤ 64) (l3 : 1 ≤ bs) (u3 : bs ≤ cp) (l4 : 1 ≤ st) (u4 : st ≤ cp) (l5 : 1 ≤ rm) (u5 : rm ≤ 20000) (b : fl < 0) :
    Calls Tryz.prog 26 #[cfgV ⟨nd, wn, bs, st, cp, rm, fl, vs⟩ A n k] w fun e w' => e = .returned (.int .i64 22) ∧ w.alloc (cfgO ⟨nd, wn, bs, st, cp, rm, fl, vs⟩ A n k) = w' := by
  unfold cfgV cfgO
  go_enter Tryz.func26, Tryz.ntmps26
  go_wp2
  go_ret
  exact ⟨rfl, rfl⟩
set_option maxRecDepth 100000 in
theorem rcheck_bad13 (nd wn bs st cp rm fl : Int) (vs : List Int) (A : Option Addr) (n k : Nat) (w : World) (l0 : 1 ≤ nd) (u0 : nd ≤ 16) (l1 : 1 ≤ wn) (u1 : wn ≤ 8) (l2 : 1 ≤ cp) (u2 : cp ≤ 64) (l3 : 1 ≤ bs) (u3 : bs ≤ cp) (l4 : 1 ≤ st) (u4 : st ≤ cp) (l5 : 1 ≤ rm) (u5 : rm ≤ 20000) (l6 : 0 ≤ fl) (b : 4611686018427387904 < fl) :
    Calls Tryz.prog 26 #[cfgV ⟨nd, wn, bs, st, cp, rm, fl, vs⟩ A n k] w fun e w' => e = .returned (.int .i64 22) ∧ w.alloc (cfgO ⟨nd, wn, bs, st, cp, rm, fl, vs⟩ A n k) = w' := by
  unfold cfgV cfgO
  go_enter Tryz.func26, Tryz.ntmps26
  go_wp2
  go_ret
  exact ⟨rfl, rfl⟩
set_option maxRecDepth 100000 in
theorem rcheck_bad14 (nd wn bs st cp rm fl : Int) (vs : List Int) (A : Option Addr) (n k : Nat) (w : World) (l0 : 1 ≤ nd) (u0 : nd ≤ 16) (l1 : 1 ≤ wn) (u1 : wn ≤ 8) (l2 : 1 ≤ cp) (u2 : cp ≤ 64) (l3 : 1 ≤ bs) (u3 : bs ≤ cp) (l4 : 1 ≤ st) (u4 : st ≤ cp) (l5 : 1 ≤ rm) (u5 : rm ≤ 20000) (l6 : 0 ≤ fl) (u6 : fl ≤ 4611686018427387904) (b : ((n : Int) != nd) = true) :
    Calls Tryz.prog 26 #[cfgV ⟨nd, wn, bs, st, cp, rm, fl, vs⟩ A n k] w fun e w' => e = .returned (.int .i64 22) ∧ w.alloc (cfgO ⟨nd, wn, bs, st, cp, rm, fl, vs⟩ A n k) = w' := by
  unfold cfgV cfgO
  go_enter Tryz.func26, Tryz.ntmps26
  go_wp2
  go_ret
  exact ⟨rfl, rfl⟩
set_option maxRecDepth 100000 in
set_option maxHeartbeats 1000000 in
theorem rcheck_late (nd wn bs st cp rm fl : Int) (vs : List Int) (A : Option Addr) (n k : Nat) (w : World) (h : RI w w.heap.size A n vs) (hn : n ≤ 16) (l0 : 1 ≤ nd) (u0 : nd ≤ 16) (l1 : 1 ≤ wn) (u1 : wn ≤ 8) (l2 : 1 ≤ cp) (u2 : cp ≤ 64) (l3 : 1 ≤ bs) (u3 : bs ≤ cp) (l4 : 1 ≤ st) (u4 : st ≤ cp) (l5 : 1 ≤ rm) (u5 : rm ≤ 20000) (l6 : 0 ≤ fl) (u6 : fl ≤ 4611686018427387904) (b : ((n : Int) != nd) = false) :
    Calls Tryz.prog 26 #[cfgV ⟨nd, wn, bs, st, cp, rm, fl, vs⟩ A n k] w fun e w' => e = .returned (.int .i64 (Cfg.err ⟨nd, wn, bs, st, cp, rm, fl, vs⟩)) ∧ w.alloc (cfgO ⟨nd, wn, bs, st, cp, rm, fl, vs⟩ A n k) = w' := by
  have hl := h.len
  subst hl
  have HC : Hid (VFine vs vs.length → sumOf vs vs.length ≠ 0 → Cfg.err ⟨nd, wn, bs, st, cp, rm, fl, vs⟩ = 0) := fun hv hs =>
    Cfg.err_ok ⟨⟨l0, u0⟩, ⟨l1, u1⟩, ⟨l2, u2⟩, ⟨l3, u3⟩, ⟨l4, u4⟩, ⟨l5, u5⟩, ⟨l6, u6⟩, by simpa using b, hv, hs⟩
  have HB : Hid (∀ j, j < vs.length → nth vs j < 0 ∨ 9 < nth vs j → Cfg.err ⟨nd, wn, bs, st, cp, rm, fl, vs⟩ = 22) := fun j hj hb =>
    Cfg.err_bad fun hok => by
      have q : 0 ≤ nth vs j ∧ nth vs j ≤ 9 := hok.fine j hj
      omega
  have HZ : Hid (sumOf vs vs.length = 0 → Cfg.err ⟨nd, wn, bs, st, cp, rm, fl, vs⟩ = 22) := fun hz => Cfg.err_bad fun hok => hok.sum hz
  unfold cfgV cfgO
  go_enter Tryz.func26, Tryz.ntmps26
  go_wp2
  clear l0 u0 l1 u1 l2 u2 l3 u3 l4 u4 l5 u5 l6 u6 b
  go_loop [3, 4] (fun t i => ∃ k : Nat, k ≤ vs.length ∧ i = .int .i64 k ∧ t = .int .i64 (sumOf vs k) ∧ Hid (VFine vs k)) (fun _ i => vs.length - (intOf i).toNat)
  case atStart => exact ⟨0, Nat.zero_le _, rfl, rfl, VFine.zero vs⟩
  case round =>
    obtain ⟨k, hk, rfl, rfl, hfine⟩ := hrel
    have b1 := sumOf_bound hfine.out k (Nat.le_refl _)
    by_cases hlt : k < vs.length
    · obtain ⟨ad, rfl, hb, hc⟩ := h.at_ hlt
      have hc' : ∀ o, (w.alloc o).cell? (ad.add k) = some (.int .i64 (nth vs k)) := fun o => (World.cell?_alloc_lt w o _ (by rw [block_of_add]; exact hb)).trans hc
      clear hc
      by_cases v0 : nth vs k < 0
      · have he := hide (HB.out k hlt (.inl v0))
        go_wp2
        go_ret
        exact ⟨ret_int he.out.symm, rfl⟩
      · by_cases v9 : 9 < nth vs k
        · have he := hide (HB.out k hlt (.inr v9))
          go_wp2
          go_ret
          exact ⟨ret_int he.out.symm, rfl⟩
        · have hf := hide (hfine.out.succ (by omega) (by omega))
          go_wp2
          go_round
          case rel => exact ⟨k + 1, by omega, by go_num, rfl, hf⟩
          case measure => simp [intOf]; omega
    · obtain rfl : k = vs.length := by omega
      by_cases hz : sumOf vs vs.length = 0
      · have hb := hide (HZ.out hz)
        have hz' : (sumOf vs vs.length == 0) = true := by simp [hz]
        clear hz
        go_wp2
        go_ret
        exact ⟨ret_int hb.out.symm, rfl⟩
      · have hb := hide (HC.out hfine.out hz)
        have hz' : (sumOf vs vs.length == 0) = false := by simp [hz]
        clear hz
        go_wp2
        go_ret
        exact ⟨ret_int hb.out.symm, rfl⟩
/-- The reference's CheckConfig, every configuration. -/
theorem rcheck_any (nd wn bs st cp rm fl : Int) (vs : List Int) (A : Option Addr) (n k : Nat) (w : World) (h : RI w w.heap.size A n vs) (hn : n ≤ 17592186044416) :
    Calls Tryz.prog 26 #[cfgV ⟨nd, wn, bs, st, cp, rm, fl, vs⟩ A n k] w fun e w' => e = .returned (.int .i64 (Cfg.err ⟨nd, wn, bs, st, cp, rm, fl, vs⟩)) ∧ w.alloc (cfgO ⟨nd, wn, bs, st, cp, rm, fl, vs⟩ A n k) = w' := by
  have hl := h.len
  have bad : ¬ Cfg.Ok ⟨nd, wn, bs, st, cp, rm, fl, vs⟩ → Cfg.err ⟨nd, wn, bs, st, cp, rm, fl, vs⟩ = 22 := Cfg.err_bad
  rcases Int.lt_or_le nd 1 with b | l0
  · rw [bad (fun hok => by have q : 1 ≤ nd ∧ nd ≤ 16 := hok.nodes; omega)]; exact rcheck_bad0 nd wn bs st cp rm fl vs A n k w b
  rcases Int.lt_or_le 16 nd with b | u0
  · rw [bad (fun hok => by have q : 1 ≤ nd ∧ nd ≤ 16 := hok.nodes; omega)]; exact rcheck_bad1 nd wn bs st cp rm fl vs A n k w l0 b
  rcases Int.lt_or_le wn 1 with b | l1
  · rw [bad (fun hok => by have q : 1 ≤ wn ∧ wn ≤ 8 := hok.window; omega)]; exact rcheck_bad2 nd wn bs st cp rm fl vs A n k w l0 u0 b
  rcases Int.lt_or_le 8 wn with b | u1
  · rw [bad (fun hok => by have q : 1 ≤ wn ∧ wn ≤ 8 := hok.window; omega)]; exact rcheck_bad3 nd wn bs st cp rm fl vs A n k w l0 u0 l1 b
  rcases Int.lt_or_le cp 1 with b | l2
  · rw [bad (fun hok => by have q : 1 ≤ cp ∧ cp ≤ 64 := hok.cap; omega)]; exact rcheck_bad4 nd wn bs st cp rm fl vs A n k w l0 u0 l1 u1 b
  rcases Int.lt_or_le 64 cp with b | u2
  · rw [bad (fun hok => by have q : 1 ≤ cp ∧ cp ≤ 64 := hok.cap; omega)]; exact rcheck_bad5 nd wn bs st cp rm fl vs A n k w l0 u0 l1 u1 l2 b
  rcases Int.lt_or_le bs 1 with b | l3
  · rw [bad (fun hok => by have q : 1 ≤ bs ∧ bs ≤ cp := hok.base; omega)]; exact rcheck_bad6 nd wn bs st cp rm fl vs A n k w l0 u0 l1 u1 l2 u2 b
  rcases Int.lt_or_le cp bs with b | u3
  · rw [bad (fun hok => by have q : 1 ≤ bs ∧ bs ≤ cp := hok.base; omega)]; exact rcheck_bad7 nd wn bs st cp rm fl vs A n k w l0 u0 l1 u1 l2 u2 l3 b
  rcases Int.lt_or_le st 1 with b | l4
  · rw [bad (fun hok => by have q : 1 ≤ st ∧ st ≤ cp := hok.step; omega)]; exact rcheck_bad8 nd wn bs st cp rm fl vs A n k w l0 u0 l1 u1 l2 u2 l3 u3 b
  rcases Int.lt_or_le cp st with b | u4
  · rw [bad (fun hok => by have q : 1 ≤ st ∧ st ≤ cp := hok.step; omega)]; exact rcheck_bad9 nd wn bs st cp rm fl vs A n k w l0 u0 l1 u1 l2 u2 l3 u3 l4 b
  rcases Int.lt_or_le rm 1 with b | l5
  · rw [bad (fun hok => by have q : 1 ≤ rm ∧ rm ≤ 20000 := hok.room; omega)]; exact rcheck_bad10 nd wn bs st cp rm fl vs A n k w l0 u0 l1 u1 l2 u2 l3 u3 l4 u4 b
  rcases Int.lt_or_le 20000 rm with b | u5
  · rw [bad (fun hok => by have q : 1 ≤ rm ∧ rm ≤ 20000 := hok.room; omega)]; exact rcheck_bad11 nd wn bs st cp rm fl vs A n k w l0 u0 l1 u1 l2 u2 l3 u3 l4 u4 l5 b
  rcases Int.lt_or_le fl 0 with b | l6
  · rw [bad (fun hok => by have q : 0 ≤ fl ∧ fl ≤ 4611686018427387904 := hok.floor; omega)]; exact rcheck_bad12 nd wn bs st cp rm fl vs A n k w l0 u0 l1 u1 l2 u2 l3 u3 l4 u4 l5 u5 b
  rcases Int.lt_or_le 4611686018427387904 fl with b | u6
  · rw [bad (fun hok => by have q : 0 ≤ fl ∧ fl ≤ 4611686018427387904 := hok.floor; omega)]; exact rcheck_bad13 nd wn bs st cp rm fl vs A n k w l0 u0 l1 u1 l2 u2 l3 u3 l4 u4 l5 u5 l6 b
  cases b : ((n : Int) != nd)
  · have hn' : n ≤ 16 := by simp at b; omega
    exact rcheck_late nd wn bs st cp rm fl vs A n k w h hn' l0 u0 l1 u1 l2 u2 l3 u3 l4 u4 l5 u5 l6 u6 b
  · rw [bad (fun hok => by have q : (vs.length : Int) = nd := hok.len; simp at b; omega)]; exact rcheck_bad14 nd wn bs st cp rm fl vs A n k w l0 u0 l1 u1 l2 u2 l3 u3 l4 u4 l5 u5 l6 u6 b
end Go.Proofs.YtcibcmfaebbhnaaGreatDoor
