/-
  The program's CheckConfig by contract: a number is out of its range.
-/
import Derived.Test.YtkcjfiifajjpiaaCfg
set_option linter.unusedVariables false
namespace Go.Proofs.Ytkcjfiifajjpiaa
open Go.RowKit Go.WideShapes Go.ChangeShapes Q

def cfgV (c : Cfg) (A : Option Addr) (n cp : Nat) : Value := .agg #[.int .i64 c.nodes, .int .i64 c.window, .int .i64 c.base, .int .i64 c.step, .int .i64 c.cap, .int .i64 c.room, .int .i64 c.floor, .slice A n cp]
def cfgO (c : Cfg) (A : Option Addr) (n cp : Nat) : Obj := .cells #[.int .i64 c.nodes, .int .i64 c.window, .int .i64 c.base, .int .i64 c.step, .int .i64 c.cap, .int .i64 c.room, .int .i64 c.floor, .slice A n cp] 24

set_option maxRecDepth 100000 in
set_option maxHeartbeats 400000 in
theorem check_bad1 (nd wn bs st cp rm fl : Int) (vs : List Int) (A : Option Addr) (n k : Nat) (w : World) (h1 : inB nd 1 16 = false) :
    Calls Try.prog 25 #[cfgV ⟨nd, wn, bs, st, cp, rm, fl, vs⟩ A n k] w fun e w' => e = .returned (.int .i64 22) ∧ w.alloc (cfgO ⟨nd, wn, bs, st, cp, rm, fl, vs⟩ A n k) = w' := by
  unfold cfgV cfgO
  go_enter Try.func25, Try.ntmps25
  go_wp2_with (go_at_call 34; refine (within_any _ _ _ _).mono ?_; rintro e w' ⟨rfl, rfl⟩)
  go_ret
  exact ⟨rfl, rfl⟩
set_option maxRecDepth 100000 in
set_option maxHeartbeats 400000 in
theorem check_bad2 (nd wn bs st cp rm fl : Int) (vs : List Int) (A : Option Addr) (n k : Nat) (w : World) (h1 : inB nd 1 16 = true) (h2 : inB wn 1 8 = false) :
    Calls Try.prog 25 #[cfgV ⟨nd, wn, bs, st, cp, rm, fl, vs⟩ A n k] w fun e w' => e = .returned (.int .i64 22) ∧ w.alloc (cfgO ⟨nd, wn, bs, st, cp, rm, fl, vs⟩ A n k) = w' := by
  unfold cfgV cfgO
  go_enter Try.func25, Try.ntmps25
  go_wp2_with (go_at_call 34; refine (within_any _ _ _ _).mono ?_; rintro e w' ⟨rfl, rfl⟩)
  go_ret
  exact ⟨rfl, rfl⟩
set_option maxRecDepth 100000 in
set_option maxHeartbeats 400000 in
theorem check_bad3 (nd wn bs st cp rm fl : Int) (vs : List Int) (A : Option Addr) (n k : Nat) (w : World) (h1 : inB nd 1 16 = true) (h2 : inB wn 1 8 = true) (h3 : inB cp 1 64 = false) :
    Calls Try.prog 25 #[cfgV ⟨nd, wn, bs, st, cp, rm, fl, vs⟩ A n k] w fun e w' => e = .returned (.int .i64 22) ∧ w.alloc (cfgO ⟨nd, wn, bs, st, cp, rm, fl, vs⟩ A n k) = w' := by
  unfold cfgV cfgO
  go_enter Try.func25, Try.ntmps25
  go_wp2_with (go_at_call 34; refine (within_any _ _ _ _).mono ?_; rintro e w' ⟨rfl, rfl⟩)
  go_ret
  exact ⟨rfl, rfl⟩
set_option maxRecDepth 100000 in
set_option maxHeartbeats 400000 in
theorem check_bad4 (nd wn bs st cp rm fl : Int) (vs : List Int) (A : Option Addr) (n k : Nat) (w : World) (h1 : inB nd 1 16 = true) (h2 : inB wn 1 8 = true) (h3 : inB cp 1 64 = true) (h4 : inB bs 1 cp = false) :
    Calls Try.prog 25 #[cfgV ⟨nd, wn, bs, st, cp, rm, fl, vs⟩ A n k] w fun e w' => e = .returned (.int .i64 22) ∧ w.alloc (cfgO ⟨nd, wn, bs, st, cp, rm, fl, vs⟩ A n k) = w' := by
  unfold cfgV cfgO
  go_enter Try.func25, Try.ntmps25
  go_wp2_with (go_at_call 34; refine (within_any _ _ _ _).mono ?_; rintro e w' ⟨rfl, rfl⟩)
  go_ret
  exact ⟨rfl, rfl⟩
set_option maxRecDepth 100000 in
set_option maxHeartbeats 400000 in
theorem check_bad5 (nd wn bs st cp rm fl : Int) (vs : List Int) (A : Option Addr) (n k : Nat) (w : World) (h1 : inB nd 1 16 = true) (h2 : inB wn 1 8 = true) (h3 : inB cp 1 64 = true) (h4 : inB bs 1 cp = true) (h5 : inB st 1 cp = false) :
    Calls Try.prog 25 #[cfgV ⟨nd, wn, bs, st, cp, rm, fl, vs⟩ A n k] w fun e w' => e = .returned (.int .i64 22) ∧ w.alloc (cfgO ⟨nd, wn, bs, st, cp, rm, fl, vs⟩ A n k) = w' := by
  unfold cfgV cfgO
  go_enter Try.func25, Try.ntmps25
  go_wp2_with (go_at_call 34; refine (within_any _ _ _ _).mono ?_; rintro e w' ⟨rfl, rfl⟩)
  go_ret
  exact ⟨rfl, rfl⟩
set_option maxRecDepth 100000 in
set_option maxHeartbeats 400000 in
theorem check_bad6 (nd wn bs st cp rm fl : Int) (vs : List Int) (A : Option Addr) (n k : Nat) (w : World) (h1 : inB nd 1 16 = true) (h2 : inB wn 1 8 = true) (h3 : inB cp 1 64 = true) (h4 : inB bs 1 cp = true) (h5 : inB st 1 cp = true) (h6 : inB rm 1 20000 = false) :
    Calls Try.prog 25 #[cfgV ⟨nd, wn, bs, st, cp, rm, fl, vs⟩ A n k] w fun e w' => e = .returned (.int .i64 22) ∧ w.alloc (cfgO ⟨nd, wn, bs, st, cp, rm, fl, vs⟩ A n k) = w' := by
  unfold cfgV cfgO
  go_enter Try.func25, Try.ntmps25
  go_wp2_with (go_at_call 34; refine (within_any _ _ _ _).mono ?_; rintro e w' ⟨rfl, rfl⟩)
  go_ret
  exact ⟨rfl, rfl⟩
set_option maxRecDepth 100000 in
set_option maxHeartbeats 400000 in
theorem check_bad7 (nd wn bs st cp rm fl : Int) (vs : List Int) (A : Option Addr) (n k : Nat) (w : World) (h1 : inB nd 1 16 = true) (h2 : inB wn 1 8 = true) (h3 : inB cp 1 64 = true) (h4 : inB bs 1 cp = true) (h5 : inB st 1 cp = true) (h6 : inB rm 1 20000 = true) (h7 : inB fl 0 4611686018427387904 = false) :
    Calls Try.prog 25 #[cfgV ⟨nd, wn, bs, st, cp, rm, fl, vs⟩ A n k] w fun e w' => e = .returned (.int .i64 22) ∧ w.alloc (cfgO ⟨nd, wn, bs, st, cp, rm, fl, vs⟩ A n k) = w' := by
  unfold cfgV cfgO
  go_enter Try.func25, Try.ntmps25
  go_wp2_with (go_at_call 34; refine (within_any _ _ _ _).mono ?_; rintro e w' ⟨rfl, rfl⟩)
  go_ret
  exact ⟨rfl, rfl⟩
set_option maxRecDepth 100000 in
set_option maxHeartbeats 400000 in
theorem check_bad8 (nd wn bs st cp rm fl : Int) (vs : List Int) (A : Option Addr) (n k : Nat) (w : World) (h1 : inB nd 1 16 = true) (h2 : inB wn 1 8 = true) (h3 : inB cp 1 64 = true) (h4 : inB bs 1 cp = true) (h5 : inB st 1 cp = true) (h6 : inB rm 1 20000 = true) (h7 : inB fl 0 4611686018427387904 = true) (h8 : ((n : Int) == nd) = false) :
    Calls Try.prog 25 #[cfgV ⟨nd, wn, bs, st, cp, rm, fl, vs⟩ A n k] w fun e w' => e = .returned (.int .i64 22) ∧ w.alloc (cfgO ⟨nd, wn, bs, st, cp, rm, fl, vs⟩ A n k) = w' := by
  unfold cfgV cfgO
  go_enter Try.func25, Try.ntmps25
  go_wp2_with (go_at_call 34; refine (within_any _ _ _ _).mono ?_; rintro e w' ⟨rfl, rfl⟩)
  go_ret
  exact ⟨rfl, rfl⟩
end Go.Proofs.Ytkcjfiifajjpiaa
