/-
  A configuration: what the program's CheckConfig and the reference's answer: 0 where all numbers are in their ranges, else 22. The program's CheckConfig by contract: a number is out of its range.
-/
import Derived.Test.YtcibcmfaebbhnaaDoorZOnly
import Derived.Test.YtcibcmfaebbhnaaDoorRows
namespace Go.Proofs.YtcibcmfaebbhnaaDoor
open Go.RowKit Go.WideShapes Go.ChangeShapes Q

/-- Is a number within two others? -/
def inB (v lo hi : Int) : Bool := decide (lo ≤ v) && decide (v ≤ hi)
theorem inB_true {v lo hi : Int} (h : inB v lo hi = true) : lo ≤ v ∧ v ≤ hi := by
  unfold inB at h
  simp only [Bool.and_eq_true, decide_eq_true_eq] at h
  exact h
theorem inB_false {v lo hi : Int} (h : inB v lo hi = false) : v < lo ∨ hi < v := by
  unfold inB at h
  simp only [Bool.and_eq_false_iff, decide_eq_false_iff_not] at h
  omega
theorem inB_mk {v lo hi : Int} (h1 : lo ≤ v) (h2 : v ≤ hi) : inB v lo hi = true := by unfold inB; simp [h1, h2]
theorem inB_lo {v lo hi : Int} (h : v < lo) : inB v lo hi = false := by
  unfold inB
  simp only [Bool.and_eq_false_iff, decide_eq_false_iff_not]
  omega
theorem inB_hi {v lo hi : Int} (h : hi < v) : inB v lo hi = false := by
  unfold inB
  simp only [Bool.and_eq_false_iff, decide_eq_false_iff_not]
  omega

/-- The numbers of a configuration, and its votes. -/
structure Cfg where
  nodes : Int
  window : Int
  base : Int
  step : Int
  cap : Int
  room : Int
  floor : Int
  votes : List Int

def sumOf (vs : List Int) : Nat → Int
  | 0 => 0
  | k + 1 => sumOf vs k + nth vs k
def VFine (vs : List Int) (k : Nat) : Prop := ∀ j, j < k → 0 ≤ nth vs j ∧ nth vs j ≤ 9
theorem VFine.zero (vs : List Int) : VFine vs 0 := fun _ h => absurd h (by omega)
theorem VFine.succ {vs : List Int} {k : Nat} (h : VFine vs k) (h0 : 0 ≤ nth vs k) (h9 : nth vs k ≤ 9) : VFine vs (k + 1) := by
  intro j hj
  by_cases e : j = k
  · subst e; exact ⟨h0, h9⟩
  · exact h j (by omega)
theorem sumOf_bound {vs : List Int} {n : Nat} (h : VFine vs n) : ∀ k, k ≤ n → 0 ≤ sumOf vs k ∧ sumOf vs k ≤ 9 * k := by
  intro k
  induction k with
  | zero => intro _; simp [sumOf]
  | succ k ih =>
    intro hk
    have := ih (by omega)
    have hv := h k (by omega)
    rw [sumOf]
    omega

/-- A configuration that may be. -/
structure Cfg.Ok (c : Cfg) : Prop where
  nodes : 1 ≤ c.nodes ∧ c.nodes ≤ 16
  window : 1 ≤ c.window ∧ c.window ≤ 8
  cap : 1 ≤ c.cap ∧ c.cap ≤ 64
  base : 1 ≤ c.base ∧ c.base ≤ c.cap
  step : 1 ≤ c.step ∧ c.step ≤ c.cap
  room : 1 ≤ c.room ∧ c.room ≤ 20000
  floor : 0 ≤ c.floor ∧ c.floor ≤ 4611686018427387904
  len : (c.votes.length : Int) = c.nodes
  fine : VFine c.votes c.votes.length
  sum : sumOf c.votes c.votes.length ≠ 0
open Classical in
noncomputable def Cfg.err (c : Cfg) : Int := if c.Ok then 0 else 22
theorem Cfg.err_ok {c : Cfg} (h : c.Ok) : c.err = 0 := by unfold Cfg.err; rw [if_pos h]
theorem Cfg.err_bad {c : Cfg} (h : ¬ c.Ok) : c.err = 22 := by unfold Cfg.err; rw [if_neg h]

/-- The floor's bound, behind a name. -/
def topFloor : Int := 4611686018427387904

/-- Which number is the first that is out of its range, in the order of the text. -/
theorem Cfg.ways (c : Cfg) : inB c.nodes 1 16 = false ∨ (inB c.nodes 1 16 = true ∧ (inB c.window 1 8 = false ∨ (inB c.window 1 8 = true ∧ (inB c.cap 1 64 = false ∨ (inB c.cap 1 64 = true ∧ (inB c.base 1 c.cap = false ∨ (inB c.base 1 c.cap = true ∧
    (inB c.step 1 c.cap = false ∨ (inB c.step 1 c.cap = true ∧ (inB c.room 1 20000 = false ∨ (inB c.room 1 20000 = true ∧ (inB c.floor 0 4611686018427387904 = false ∨ (inB c.floor 0 4611686018427387904 = true ∧
    ((((c.votes.length : Int) == c.nodes) = false) ∨ (((c.votes.length : Int) == c.nodes) = true))))))))))))))) := by
  cases inB c.nodes 1 16 <;> cases inB c.window 1 8 <;> cases inB c.cap 1 64 <;> cases inB c.base 1 c.cap <;> cases inB c.step 1 c.cap <;> cases inB c.room 1 20000 <;> cases inB c.floor 0 4611686018427387904 <;> cases ((c.votes.length : Int) == c.nodes) <;> simp

theorem within_any (v lo hi : Int) (w : World) :
    Calls Tryd.prog 68 #[.int .i64 v, .int .i64 lo, .int .i64 hi] w fun e w' => e = .returned (.bool (inB v lo hi)) ∧ w = w' := by
  by_cases h1 : lo ≤ v
  · by_cases h2 : v ≤ hi
    · have HB := hide (inB_mk h1 h2)
      go_enter Tryd.func68, Tryd.ntmps68
      go_wp2
      go_ret
      exact ⟨ret_bool (by rw [HB.out]), rfl⟩
    · have HB := hide (inB_hi (v := v) (lo := lo) (hi := hi) (by omega))
      go_enter Tryd.func68, Tryd.ntmps68
      go_wp2
      go_ret
      exact ⟨ret_bool (by rw [HB.out]), rfl⟩
  · have HB := hide (inB_lo (v := v) (lo := lo) (hi := hi) (by omega))
    have d : decide (lo ≤ v) = false := by simp; omega
    go_enter Tryd.func68, Tryd.ntmps68
    go_wp2
    go_ret
    exact ⟨ret_bool HB.out.symm, rfl⟩
end Go.Proofs.YtcibcmfaebbhnaaDoor
set_option linter.unusedVariables false
namespace Go.Proofs.YtcibcmfaebbhnaaDoor
open Go.RowKit Go.WideShapes Go.ChangeShapes Q

def cfgV (c : Cfg) (A : Option Addr) (n cp : Nat) : Value := .agg #[.int .i64 c.nodes, .int .i64 c.window, .int .i64 c.base, .int .i64 c.step, .int .i64 c.cap, .int .i64 c.room, .int .i64 c.floor, .slice A n cp]
def cfgO (c : Cfg) (A : Option Addr) (n cp : Nat) : Obj := .cells #[.int .i64 c.nodes, .int .i64 c.window, .int .i64 c.base, .int .i64 c.step, .int .i64 c.cap, .int .i64 c.room, .int .i64 c.floor, .slice A n cp] 44

set_option maxRecDepth 100000 in
set_option maxHeartbeats 400000 in
theorem check_bad1 (nd wn bs st cp rm fl : Int) (vs : List Int) (A : Option Addr) (n k : Nat) (w : World) (h1 : inB nd 1 16 = false) :
    Calls Tryd.prog 37 #[cfgV ⟨nd, wn, bs, st, cp, rm, fl, vs⟩ A n k] w fun e w' => e = .returned (.int .i64 22) ∧ w.alloc (cfgO ⟨nd, wn, bs, st, cp, rm, fl, vs⟩ A n k) = w' := by
  unfold cfgV cfgO
  go_enter Tryd.func37, Tryd.ntmps37
  go_wp2_with (go_at_call 68; refine (within_any _ _ _ _).mono ?_; rintro e w' ⟨rfl, rfl⟩)
  go_ret
  exact ⟨rfl, rfl⟩
set_option maxRecDepth 100000 in
set_option maxHeartbeats 400000 in
theorem check_bad2 (nd wn bs st cp rm fl : Int) (vs : List Int) (A : Option Addr) (n k : Nat) (w : World) (h1 : inB nd 1 16 = true) (h2 : inB wn 1 8 = false) :
    Calls Tryd.prog 37 #[cfgV ⟨nd, wn, bs, st, cp, rm, fl, vs⟩ A n k] w fun e w' => e = .returned (.int .i64 22) ∧ w.alloc (cfgO ⟨nd, wn, bs, st, cp, rm, fl, vs⟩ A n k) = w' := by
  unfold cfgV cfgO
  go_enter Tryd.func37, Tryd.ntmps37
  go_wp2_with (go_at_call 68; refine (within_any _ _ _ _).mono ?_; rintro e w' ⟨rfl, rfl⟩)
  go_ret
  exact ⟨rfl, rfl⟩
set_option maxRecDepth 100000 in
set_option maxHeartbeats 400000 in
theorem check_bad3 (nd wn bs st cp rm fl : Int) (vs : List Int) (A : Option Addr) (n k : Nat) (w : World) (h1 : inB nd 1 16 = true) (h2 : inB wn 1 8 = true) (h3 : inB cp 1 64 = false) :
    Calls Tryd.prog 37 #[cfgV ⟨nd, wn, bs, st, cp, rm, fl, vs⟩ A n k] w fun e w' => e = .returned (.int .i64 22) ∧ w.alloc (cfgO ⟨nd, wn, bs, st, cp, rm, fl, vs⟩ A n k) = w' := by
  unfold cfgV cfgO
  go_enter Tryd.func37, Tryd.ntmps37
  go_wp2_with (go_at_call 68; refine (within_any _ _ _ _).mono ?_; rintro e w' ⟨rfl, rfl⟩)
  go_ret
  exact ⟨rfl, rfl⟩
set_option maxRecDepth 100000 in
set_option maxHeartbeats 400000 in
theorem check_bad4 (nd wn bs st cp rm fl : Int) (vs : List Int) (A : Option Addr) (n k : Nat) (w : World) (h1 : inB nd 1 16 = true) (h2 : inB wn 1 8 = true) (h3 : inB cp 1 64 = true) (h4 : inB bs 1 cp = false) :
    Calls Tryd.prog 37 #[cfgV ⟨nd, wn, bs, st, cp, rm, fl, vs⟩ A n k] w fun e w' => e = .returned (.int .i64 22) ∧ w.alloc (cfgO ⟨nd, wn, bs, st, cp, rm, fl, vs⟩ A n k) = w' := by
  unfold cfgV cfgO
  go_enter Tryd.func37, Tryd.ntmps37
  go_wp2_with (go_at_call 68; refine (within_any _ _ _ _).mono ?_; rintro e w' ⟨rfl, rfl⟩)
  go_ret
  exact ⟨rfl, rfl⟩
set_option maxRecDepth 100000 in
set_option maxHeartbeats 400000 in
theorem check_bad5 (nd wn bs st cp rm fl : Int) (vs : List Int) (A : Option Addr) (n k : Nat) (w : World) (h1 : inB nd 1 16 = true) (h2 : inB wn 1 8 = true) (h3 : inB cp 1 64 = true) (h4 : inB bs 1 cp = true) (h5 : inB st 1 cp = false) :
    Calls Tryd.prog 37 #[cfgV ⟨nd, wn, bs, st, cp, rm, fl, vs⟩ A n k] w fun e w' => e = .returned (.int .i64 22) ∧ w.alloc (cfgO ⟨nd, wn, bs, st, cp, rm, fl, vs⟩ A n k) = w' := by
  unfold cfgV cfgO
  go_enter Tryd.func37, Tryd.ntmps37
  go_wp2_with (go_at_call 68; refine (within_any _ _ _ _).mono ?_; rintro e w' ⟨rfl, rfl⟩)
  go_ret
  exact ⟨rfl, rfl⟩
set_option maxRecDepth 100000 in
set_option maxHeartbeats 400000 in
theorem check_bad6 (nd wn bs st cp rm fl : Int) (vs : List Int) (A : Option Addr) (n k : Nat) (w : World) (h1 : inB nd 1 16 = true) (h2 : inB wn 1 8 = true) (h3 : inB cp 1 64 = true) (h4 : inB bs 1 cp = true) (h5 : inB st 1 cp = true) (h6 : inB rm 1 20000 = false) :
    Calls Tryd.prog 37 #[cfgV ⟨nd, wn, bs, st, cp, rm, fl, vs⟩ A n k] w fun e w' => e = .returned (.int .i64 22) ∧ w.alloc (cfgO ⟨nd, wn, bs, st, cp, rm, fl, vs⟩ A n k) = w' := by
  unfold cfgV cfgO
  go_enter Tryd.func37, Tryd.ntmps37
  go_wp2_with (go_at_call 68; refine (within_any _ _ _ _).mono ?_; rintro e w' ⟨rfl, rfl⟩)
  go_ret
  exact ⟨rfl, rfl⟩
set_option maxRecDepth 100000 in
set_option maxHeartbeats 400000 in
theorem check_bad7 (nd wn bs st cp rm fl : Int) (vs : List Int) (A : Option Addr) (n k : Nat) (w : World) (h1 : inB nd 1 16 = true) (h2 : inB wn 1 8 = true) (h3 : inB cp 1 64 = true) (h4 : inB bs 1 cp = true) (h5 : inB st 1 cp = true) (h6 : inB rm 1 20000 = true) (h7 : inB fl 0 4611686018427387904 = false) :
    Calls Tryd.prog 37 #[cfgV ⟨nd, wn, bs, st, cp, rm, fl, vs⟩ A n k] w fun e w' => e = .returned (.int .i64 22) ∧ w.alloc (cfgO ⟨nd, wn, bs, st, cp, rm, fl, vs⟩ A n k) = w' := by
  unfold cfgV cfgO
  go_enter Tryd.func37, Tryd.ntmps37
  go_wp2_with (go_at_call 68; refine (within_any _ _ _ _).mono ?_; rintro e w' ⟨rfl, rfl⟩)
  go_ret
  exact ⟨rfl, rfl⟩
set_option maxRecDepth 100000 in
set_option maxHeartbeats 400000 in
theorem check_bad8 (nd wn bs st cp rm fl : Int) (vs : List Int) (A : Option Addr) (n k : Nat) (w : World) (h1 : inB nd 1 16 = true) (h2 : inB wn 1 8 = true) (h3 : inB cp 1 64 = true) (h4 : inB bs 1 cp = true) (h5 : inB st 1 cp = true) (h6 : inB rm 1 20000 = true) (h7 : inB fl 0 4611686018427387904 = true) (h8 : ((n : Int) == nd) = false) :
    Calls Tryd.prog 37 #[cfgV ⟨nd, wn, bs, st, cp, rm, fl, vs⟩ A n k] w fun e w' => e = .returned (.int .i64 22) ∧ w.alloc (cfgO ⟨nd, wn, bs, st, cp, rm, fl, vs⟩ A n k) = w' := by
  unfold cfgV cfgO
  go_enter Tryd.func37, Tryd.ntmps37
  go_wp2_with (go_at_call 68; refine (within_any _ _ _ _).mono ?_; rintro e w' ⟨rfl, rfl⟩)
  go_ret
  exact ⟨rfl, rfl⟩
end Go.Proofs.YtcibcmfaebbhnaaDoor
