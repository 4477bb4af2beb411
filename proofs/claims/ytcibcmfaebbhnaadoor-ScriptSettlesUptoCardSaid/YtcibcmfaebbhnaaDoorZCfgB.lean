/-
  The reference's ParseEvent. The reference's first: the line that says which form this is. The program's CheckConfig by contract: a number is out of its range.
-/
import Derived.Deep.LoopGhost
import Derived.Deep.WholeRow
import Derived.Test.YtcibcmfaebbhnaaDoorZWdo
import Derived.Test.YtcibcmfaebbhnaaDoorZCfp
set_option linter.unusedVariables false
set_option linter.unusedSimpArgs false
namespace Go.Proofs.YtcibcmfaebbhnaaDoor
open Go.RowKit Go.WideShapes Go.ChangeShapes Q
/-- The words of a line are no more, and none is longer, than its bytes. -/
theorem wds_sz {nl : Bool} : ∀ (n : Nat) (l : List UInt8), l.length ≤ n → ∀ ws, wordsG nl l = some ws → ws.length ≤ l.length ∧ ∀ d ∈ ws, d.1.length ≤ l.length
  | n, [], hn, ws, h => by
    rw [wds_nil] at h
    obtain rfl := Option.some.inj h
    exact ⟨by simp, fun d hd => by cases hd⟩
  | 0, c :: r, hn, ws, h => by simp at hn
  | n + 1, c :: r, hn, ws, h => by
    have hr : r.length ≤ n := by simpa using hn
    by_cases hb : blk c = true
    · rw [wds_blank r hb] at h
      have := wds_sz n r hr ws h
      refine ⟨by simp; omega, fun d hd => ?_⟩
      have := this.2 d hd
      simp
      omega
    by_cases hq : c.toNat = 34
    · rw [wds_str r hq] at h
      cases hu : unq r with
      | none => rw [hu] at h; cases h
      | some p =>
        obtain ⟨b, t⟩ := p
        rw [hu] at h
        simp only at h
        split at h
        · obtain ⟨l2, h2, rfl⟩ := Option.map_eq_some_iff.1 h
          have h3 := unq_lt _ r (Nat.le_refl _) b t hu
          have h4 := unq_len _ r (Nat.le_refl _) b t hu
          have h5 := wds_sz n t (by omega) l2 h2
          refine ⟨by simp; omega, fun d hd => ?_⟩
          rcases List.mem_cons.1 hd with rfl | hd
          · simp only [List.length_cons]; omega
          · have := h5.2 d hd
            simp only [List.length_cons]; omega
        · cases h
    · have hbf : blk c = false := by simpa using hb
      by_cases hp : plnB nl c = true
      · rw [wds_run r hp] at h
        split at h
        · obtain ⟨l2, h2, rfl⟩ := Option.map_eq_some_iff.1 h
          have h3 := drop_len (plnB nl) r
          have h4 : (r.takeWhile (plnB nl)).length ≤ r.length := (List.takeWhile_sublist _).length_le
          have h5 := wds_sz n _ (by omega) l2 h2
          refine ⟨by simp; omega, fun d hd => ?_⟩
          rcases List.mem_cons.1 hd with rfl | hd
          · simp only [List.length_cons]; omega
          · have := h5.2 d hd
            simp only [List.length_cons]; omega
        · cases h
      · rw [wds_stop r hbf hq (by simpa using hp)] at h
        cases h
section
variable {P : Program}
/-- A whole struct stored into the block that was made last. -/
theorem wpList_store_fresh {ops : Array Oper} {rest : List Oper} {o : Oper} {a : Act} {w : World} {Q : Exit → Act → World → Prop} (hgd : o.guard = none) (ty : TypeId) (x y : Operand) (ho : o.op = .store ty x y) (c c' : Array Value)
    (hx : a.eval x = .pointer (some ⟨w.heap.size, 0, none⟩)) (hy : a.eval y = .agg c') (hi : (P.info? ty).map (·.size) = some c'.size) (hz : c.size = c'.size) (h1 : c'.all (·.oneCell') = true)
    (h : wpList P ops Q rest (a.put o.dst undef) (w.alloc (.cells c' ty))) : wpList P ops Q (o :: rest) a (w.alloc (.cells c ty)) := by
  refine wpList_plain hgd fun K hK => ?_
  unfold Oper.wp execOp
  simp only [ho, hx, hy, run_storeAt_new w ty c c' hi hz h1, Sem.run_bind, Sem.run_pure, Result.andThen_ok]
  exact hK _ _ h
end
theorem evp_out {w W : World} {r b : Nat} {m : Em} {Z : Array Value} {f : Ev} (hr : w.heap.size ≤ r) (hZ : Blk W r 29 Z) (ht : EmU W b m) (hl : Below w.heap.size w W) (h1 : m.ev = f) :
    EvP f b w (.returned (.agg m.cs)) (W.setRow r m.cs) := by
  have hW := only_setRow W r m.cs
  exact ⟨m, rfl, h1, ht.far hZ (by decide) (by decide) hW, hl.trans (hW.below hl.size (fun k hk e => by omega))⟩
end Go.Proofs.YtcibcmfaebbhnaaDoor
set_option linter.unusedVariables false
set_option linter.unusedSimpArgs false
namespace Go.Proofs.YtcibcmfaebbhnaaDoor
open Go.RowKit Go.WideShapes Go.ChangeShapes Q
/-- Two plain words: quorate and 1. -/
def firB : List Wd → Bool
  | [a, b] => !a.2 && !b.2 && (a.1 == [113, 117, 111, 114, 97, 116, 101]) && (b.1 == [49])
  | _ => false
def firstB (l : List UInt8) : Bool := match wordsG true l with
  | some ws => firB ws
  | none => false
end Go.Proofs.YtcibcmfaebbhnaaDoor
set_option linter.unusedVariables false
namespace Go.Proofs.YtcibcmfaebbhnaaDoor
open Go.RowKit Go.WideShapes Go.ChangeShapes Q
def cfgV (c : Cfg) (A : Option Addr) (n cp : Nat) : Value := .agg #[.int .i64 c.nodes, .int .i64 c.window, .int .i64 c.base, .int .i64 c.step, .int .i64 c.cap, .int .i64 c.room, .int .i64 c.floor, .slice A n cp]
def cfgO (c : Cfg) (A : Option Addr) (n cp : Nat) : Obj := .cells #[.int .i64 c.nodes, .int .i64 c.window, .int .i64 c.base, .int .i64 c.step, .int .i64 c.cap, .int .i64 c.room, .int .i64 c.floor, .slice A n cp] 44
set_option maxRecDepth 100000 in
set_option maxHeartbeats 400000 in
theorem check_bad1 (nd wn bs st cp rm fl : Int) (vs : List Int) (A : Option Addr) (n k : Nat) (w : World) (h1 : inB nd 1 16 = false) :
    Calls Tryd.prog 37 #[cfgV ⟨nd, wn, bs, st, cp, rm, fl, vs⟩ A n k] w fun e w' => e = .returned (.int .i64 22) ∧ w.alloc (cfgO ⟨nd, wn, bs, st, cp, rm, fl, vs⟩ A n k) = w' := by
  unfold cfgV cfgO
  go_enter Tryd.func37, Tryd.ntmps37
  go_wp2_with (go_at_call 68; refine (within_any _ _ _ _).mono ?_; rintro e w' ⟨rfl, rfl⟩)
  go_ret
  exact ⟨rfl, rfl⟩
set_option maxRecDepth 100000 in
set_option maxHeartbeats 400000 in
theorem check_bad2 (nd wn bs st cp rm fl : Int) (vs : List Int) (A : Option Addr) (n k : Nat) (w : World) (h1 : inB nd 1 16 = true) (h2 : inB wn 1 8 = false) :
    Calls Tryd.prog 37 #[cfgV ⟨nd, wn, bs, st, cp, rm, fl, vs⟩ A n k] w fun e w' => e = .returned (.int .i64 22) ∧ w.alloc (cfgO ⟨nd, wn, bs, st, cp, rm, fl, vs⟩ A n k) = w' := by
  unfold cfgV cfgO
  go_enter Tryd.func37, Tryd.ntmps37
  go_wp2_with (go_at_call 68; refine (within_any _ _ _ _).mono ?_; rintro e w' ⟨rfl, rfl⟩)
  go_ret
  exact ⟨rfl, rfl⟩
set_option maxRecDepth 100000 in
set_option maxHeartbeats 400000 in
theorem check_bad3 (nd wn bs st cp rm fl : Int) (vs : List Int) (A : Option Addr) (n k : Nat) (w : World) (h1 : inB nd 1 16 = true) (h2 : inB wn 1 8 = true) (h3 : inB cp 1 64 = false) :
    Calls Tryd.prog 37 #[cfgV ⟨nd, wn, bs, st, cp, rm, fl, vs⟩ A n k] w fun e w' => e = .returned (.int .i64 22) ∧ w.alloc (cfgO ⟨nd, wn, bs, st, cp, rm, fl, vs⟩ A n k) = w' := by
  unfold cfgV cfgO
  go_enter Tryd.func37, Tryd.ntmps37
  go_wp2_with (go_at_call 68; refine (within_any _ _ _ _).mono ?_; rintro e w' ⟨rfl, rfl⟩)
  go_ret
  exact ⟨rfl, rfl⟩
set_option maxRecDepth 100000 in
set_option maxHeartbeats 400000 in
theorem check_bad4 (nd wn bs st cp rm fl : Int) (vs : List Int) (A : Option Addr) (n k : Nat) (w : World) (h1 : inB nd 1 16 = true) (h2 : inB wn 1 8 = true) (h3 : inB cp 1 64 = true) (h4 : inB bs 1 cp = false) :
    Calls Tryd.prog 37 #[cfgV ⟨nd, wn, bs, st, cp, rm, fl, vs⟩ A n k] w fun e w' => e = .returned (.int .i64 22) ∧ w.alloc (cfgO ⟨nd, wn, bs, st, cp, rm, fl, vs⟩ A n k) = w' := by
  unfold cfgV cfgO
  go_enter Tryd.func37, Tryd.ntmps37
  go_wp2_with (go_at_call 68; refine (within_any _ _ _ _).mono ?_; rintro e w' ⟨rfl, rfl⟩)
  go_ret
  exact ⟨rfl, rfl⟩
set_option maxRecDepth 100000 in
set_option maxHeartbeats 400000 in
theorem check_bad5 (nd wn bs st cp rm fl : Int) (vs : List Int) (A : Option Addr) (n k : Nat) (w : World) (h1 : inB nd 1 16 = true) (h2 : inB wn 1 8 = true) (h3 : inB cp 1 64 = true) (h4 : inB bs 1 cp = true) (h5 : inB st 1 cp = false) :
    Calls Tryd.prog 37 #[cfgV ⟨nd, wn, bs, st, cp, rm, fl, vs⟩ A n k] w fun e w' => e = .returned (.int .i64 22) ∧ w.alloc (cfgO ⟨nd, wn, bs, st, cp, rm, fl, vs⟩ A n k) = w' := by
  unfold cfgV cfgO
  go_enter Tryd.func37, Tryd.ntmps37
  go_wp2_with (go_at_call 68; refine (within_any _ _ _ _).mono ?_; rintro e w' ⟨rfl, rfl⟩)
  go_ret
  exact ⟨rfl, rfl⟩
set_option maxRecDepth 100000 in
set_option maxHeartbeats 400000 in
theorem check_bad6 (nd wn bs st cp rm fl : Int) (vs : List Int) (A : Option Addr) (n k : Nat) (w : World) (h1 : inB nd 1 16 = true) (h2 : inB wn 1 8 = true) (h3 : inB cp 1 64 = true) (h4 : inB bs 1 cp = true) (h5 : inB st 1 cp = true) (h6 : inB rm 1 20000 = false) :
    Calls Tryd.prog 37 #[cfgV ⟨nd, wn, bs, st, cp, rm, fl, vs⟩ A n k] w fun e w' => e = .returned (.int .i64 22) ∧ w.alloc (cfgO ⟨nd, wn, bs, st, cp, rm, fl, vs⟩ A n k) = w' := by
  unfold cfgV cfgO
  go_enter Tryd.func37, Tryd.ntmps37
  go_wp2_with (go_at_call 68; refine (within_any _ _ _ _).mono ?_; rintro e w' ⟨rfl, rfl⟩)
  go_ret
  exact ⟨rfl, rfl⟩
set_option maxRecDepth 100000 in
set_option maxHeartbeats 400000 in
theorem check_bad7 (nd wn bs st cp rm fl : Int) (vs : List Int) (A : Option Addr) (n k : Nat) (w : World) (h1 : inB nd 1 16 = true) (h2 : inB wn 1 8 = true) (h3 : inB cp 1 64 = true) (h4 : inB bs 1 cp = true) (h5 : inB st 1 cp = true) (h6 : inB rm 1 20000 = true) (h7 : inB fl 0 4611686018427387904 = false) :
    Calls Tryd.prog 37 #[cfgV ⟨nd, wn, bs, st, cp, rm, fl, vs⟩ A n k] w fun e w' => e = .returned (.int .i64 22) ∧ w.alloc (cfgO ⟨nd, wn, bs, st, cp, rm, fl, vs⟩ A n k) = w' := by
  unfold cfgV cfgO
  go_enter Tryd.func37, Tryd.ntmps37
  go_wp2_with (go_at_call 68; refine (within_any _ _ _ _).mono ?_; rintro e w' ⟨rfl, rfl⟩)
  go_ret
  exact ⟨rfl, rfl⟩
set_option maxRecDepth 100000 in
set_option maxHeartbeats 400000 in
theorem check_bad8 (nd wn bs st cp rm fl : Int) (vs : List Int) (A : Option Addr) (n k : Nat) (w : World) (h1 : inB nd 1 16 = true) (h2 : inB wn 1 8 = true) (h3 : inB cp 1 64 = true) (h4 : inB bs 1 cp = true) (h5 : inB st 1 cp = true) (h6 : inB rm 1 20000 = true) (h7 : inB fl 0 4611686018427387904 = true) (h8 : ((n : Int) == nd) = false) :
    Calls Tryd.prog 37 #[cfgV ⟨nd, wn, bs, st, cp, rm, fl, vs⟩ A n k] w fun e w' => e = .returned (.int .i64 22) ∧ w.alloc (cfgO ⟨nd, wn, bs, st, cp, rm, fl, vs⟩ A n k) = w' := by
  unfold cfgV cfgO
  go_enter Tryd.func37, Tryd.ntmps37
  go_wp2_with (go_at_call 68; refine (within_any _ _ _ _).mono ?_; rintro e w' ⟨rfl, rfl⟩)
  go_ret
  exact ⟨rfl, rfl⟩
end Go.Proofs.YtcibcmfaebbhnaaDoor
