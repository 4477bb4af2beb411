/-
  Contract of the reference's State.after, all cases. (Printed by wip/tools/mkafter.py.)
-/
import Derived.Test.YtkcjfiifajjpiaaRAftA
import Derived.Test.YtkcjfiifajjpiaaRAftB
import Derived.Test.YtkcjfiifajjpiaaRAftC
import Derived.Test.YtkcjfiifajjpiaaRAftD
import Derived.Test.YtkcjfiifajjpiaaRAftE
import Derived.Test.YtkcjfiifajjpiaaRAftF
set_option linter.unusedVariables false
set_option linter.unusedSimpArgs false
namespace Go.Proofs.Ytkcjfiifajjpiaa
open Go.RowKit Go.WideShapes Go.ChangeShapes Q

set_option maxRecDepth 100000 in
set_option maxHeartbeats 2000000 in
theorem after_any (n c B : Nat) (y : Net) (ek ea eb en c1 c2 c3 c4 : Int) (vb k1 k2 k3 : Value) (A : Option Addr) (m : Nat) (zs : List Int) (w : World) (hr : RI w B A m zs) (hBw : B ≤ w.heap.size) (hn : n ≤ 16) (hm : m ≤ 140737488351232) :
    Calls Try.prog 37 #[.agg (stC n y), .agg #[.int .i64 ek, .int .i64 ea, .int .i64 eb, .int .i64 en, vb, .int .i64 c1, .int .i64 c2, .int .i64 c3, .int .i64 c4, k1, k2, k3, .slice A m c]] w fun e w' => e = .returned (.agg (stC n (playN n y ek ea eb en zs))) ∧ St (fun _ => False) w w' := by
  by_cases e5 : ek = 5
  · subst e5; exact after_5 n c B y ea eb en c1 c2 c3 c4 vb k1 k2 k3 A m zs w hr hBw hn hm
  by_cases e7 : ek = 7
  · subst e7; exact after_7 n c B y ea eb en c1 c2 c3 c4 vb k1 k2 k3 A m zs w hr hBw hn hm
  by_cases e6 : ek = 6
  · subst e6; exact after_6 n c B y ea eb en c1 c2 c3 c4 vb k1 k2 k3 A m zs w hr hBw hn hm
  by_cases e18 : ek = 18
  · subst e18; exact after_18 n c B y ea eb en c1 c2 c3 c4 vb k1 k2 k3 A m zs w hr hBw hn hm
  by_cases e8 : ek = 8
  · subst e8; exact after_8 n c B y ea eb en c1 c2 c3 c4 vb k1 k2 k3 A m zs w hr hBw hn hm
  by_cases e9 : ek = 9
  · subst e9; exact after_9 n c B y ea eb en c1 c2 c3 c4 vb k1 k2 k3 A m zs w hr hBw hn hm
  by_cases e10 : ek = 10
  · subst e10; exact after_10 n c B y ea eb en c1 c2 c3 c4 vb k1 k2 k3 A m zs w hr hBw hn hm
  by_cases e11 : ek = 11
  · subst e11; exact after_11 n c B y ea eb en c1 c2 c3 c4 vb k1 k2 k3 A m zs w hr hBw hn hm
  exact after_o n c B y ek ea eb en c1 c2 c3 c4 vb k1 k2 k3 A m zs w hr hBw hn hm e5 e7 e6 e18 e8 e9 e10 e11
end Go.Proofs.Ytkcjfiifajjpiaa
