/-
  A configuration in memory. The reference's config: the second and the third line. (Printed by wip/tools/mkcnf.py.) The program's CheckConfig by contract.
-/
import Derived.Test.YtcibcmfaebbhnaaDoorZCfp
import Derived.Test.YtcibcmfaebbhnaaDoorZCfgB
set_option linter.unusedVariables false
set_option linter.unusedSimpArgs false
namespace Go.Proofs.YtcibcmfaebbhnaaDoor
open Go.RowKit Go.WideShapes Go.ChangeShapes Q
/-- A configuration's cells: its votes lie at A. -/
def cfC (c : Cfg) (A : Option Addr) (k : Nat) : Array Value := #[.int .i64 c.nodes, .int .i64 c.window, .int .i64 c.base, .int .i64 c.step, .int .i64 c.cap, .int .i64 c.room, .int .i64 c.floor, .slice A c.votes.length k]
theorem cf_size (c : Cfg) (A : Option Addr) (k : Nat) : (cfC c A k).size = 8 := rfl
theorem cf_all (c : Cfg) (A : Option Addr) (k : Nat) : (cfC c A k).all (·.oneCell') = true := by simp [cfC, Value.oneCell']
theorem ld44 (cs : Array Value) (h : cs.size = 8) : (Tryd.prog.info? 44).map (·.size) = some cs.size := by rw [h]; kernel_rfl
theorem cput (Z cs : Array Value) (h : Z.size = 8) (hc : cs.size = 8) : putAt Z 0 cs = cs := by
  unfold putAt
  have h1 : Z.toList.drop (0 + cs.size) = [] := List.drop_eq_nil_of_le (by rw [hc, Array.length_toList, h]; omega)
  rw [h1]
  simp
/-- Any block's cells, as a load of the whole wants them. -/
theorem box_all {w : World} {g : Nat} {t : TypeId} {cs : Array Value} (h : Blk w g t cs) : ∀ j v, cs[j]? = some v → w.cell? ((⟨g, 0, none⟩ : Addr).add j) = some v := by
  intro j v hv
  have e2 : (⟨g, 0, none⟩ : Addr).add j = ⟨g, j, none⟩ := by
    unfold Addr.add
    split
    · rename_i h0; subst h0; rfl
    · simp
  rw [e2, h.cell j, hv]
theorem run_load44 {w : World} {g : Nat} {cs : Array Value} (h : Blk w g 44 cs) (hc : cs.size = 8) : (loadVar 44 ⟨g, 0, none⟩).run Tryd.prog w = .ok (.agg cs) w := run_load_at w ⟨g, 0, none⟩ 44 cs _ Tryd.underlying44 rfl (ld44 _ hc) (box_all h)
/-- A configuration, and a value beside it, as a result. -/
theorem results_44b {w : World} {g : Nat} {cs : Array Value} {fn : Func} {p u : Tmp} (h : fn.results = #[.cell p 44, .tmp u]) (tmps : Array Value) (hp : tmps.getD p undef = .pointer (some ⟨g, 0, none⟩)) (hb : Blk w g 44 cs) (hc : cs.size = 8) {v : Value} (hv : tmps.getD u undef = v) : (results fn tmps).run Tryd.prog w = .ok (.tuple #[.agg cs, v]) w := by
  rw [results_cell_tmp h, hp, hv]
  have h1 := run_load44 hb hc
  simp [Result.andThen, asAddr, h1]
/-- The votes are the call's own. -/
structure CfU (w : World) (b : Nat) (c : Cfg) (A : Option Addr) (k : Nat) : Prop where
  own : w.ownsRow b 3 1 (.slice A c.votes.length k) c.votes.length (ints c.votes)
  hv : c.votes.length ≤ 16
section
variable {w w' : World} {b b' g : Nat} {t : TypeId} {cs : Array Value} {c : Cfg} {A : Option Addr} {k : Nat}
theorem CfU.step (h : CfU w b c A k) (hb : Below w.heap.size w w') : CfU w' b c A k := ⟨own_step h.own hb, h.hv⟩
theorem CfU.base (h : CfU w b c A k) (hb : b' ≤ b) : CfU w b' c A k := ⟨own_base h.own hb, h.hv⟩
theorem CfU.zero (w : World) (b : Nat) (k : Nat) : CfU w b Cfg.zero none 0 := ⟨World.ownsRow_nil _ _ _ _, Nat.zero_le _⟩
theorem CfU.far (h : CfU w b c A k) (hg : Blk w g t cs) (h2 : t ≠ 3) (ho : Only (fun q => q = g) w w') : CfU w' b c A k := by
  refine ⟨own_apart h.own ho ?_, h.hv⟩
  intro k hk hq
  subst hq
  exact ⟨t, cs, hg, h2⟩
theorem CfU.push {b' n s : Nat} {e : TypeId} {v : Value} {xs : List Value} (h : CfU w b c A k) (h' : w.ownsRow b' e s v n xs) (h3 : e ≠ 3) (hg : w.grownBy w' v.ownBlock) : CfU w' b c A k :=
  ⟨own_kept h.own h' (fun e => h3 e.symm) hg, h.hv⟩
theorem CfU.reads (h : CfU w b c A k) : RI w w.heap.size A c.votes.length c.votes := Reads.of_own h.own
end
/-- What a reading of a configuration gives: one, or none. -/
def CnfP (f : Option Cfg) (w : World) (e : Ending) (w' : World) : Prop := ∃ (c : Cfg) (A : Option Addr) (k : Nat) (ok : Bool), e = .returned (.tuple #[.agg (cfC c A k), .bool ok]) ∧ CfU w' w.heap.size c A k ∧ Below w.heap.size w w' ∧ (ok = true → f = some c) ∧ (ok = false → f = none)
theorem cset_votes (c : Cfg) (A A' : Option Addr) (k k' : Nat) (l : List Int) : (cfC c A k).setIfInBounds 7 (.slice A' l.length k') = cfC { c with votes := l } A' k' := rfl
end Go.Proofs.YtcibcmfaebbhnaaDoor
set_option linter.unusedVariables false
set_option linter.unusedSimpArgs false
namespace Go.Proofs.YtcibcmfaebbhnaaDoor
open Go.RowKit Go.WideShapes Go.ChangeShapes Q
theorem cfgP_pair {l m : List Wd} (h : pairP cfNames l = none) : cfgP l m = none := by
  unfold cfgP
  rw [h]
theorem cfgP_len {l m : List Wd} (h : ¬ (2 ≤ m.length ∧ m.length ≤ 17)) : cfgP l m = none := by
  unfold cfgP
  split
  · rename_i v vs _
    split
    · rename_i h1
      exact absurd ⟨by simp; omega, by simp; omega⟩ h
    · rfl
  · rfl
theorem cfgP_name {l : List Wd} {v : Wd} {vs : List Wd} (h : ¬ (v.2 = false ∧ v.1 = votes8)) : cfgP l (v :: vs) = none := by
  unfold cfgP
  split
  · rename_i v' vs' _ he
    injection he with h1 h2
    subst h1 h2
    split
    · rename_i h1
      exact absurd ⟨h1.1, h1.2.1⟩ h
    · rfl
  · rfl
theorem cfgP_good {l : List Wd} {v : Wd} {vs : List Wd} {a b c d e f g : Int} (hp : pairP cfNames l = some [a, b, c, d, e, f, g]) (h : v.2 = false ∧ v.1 = votes8) (h2 : 1 ≤ vs.length ∧ vs.length ≤ 16) : cfgP l (v :: vs) = (votP vs).map (fun l => ⟨a, b, c, d, e, f, g, l⟩) := by
  unfold cfgP
  rw [hp]
  exact if_pos ⟨h.1, h.2, h2.1, h2.2⟩
end Go.Proofs.YtcibcmfaebbhnaaDoor
set_option linter.unusedVariables false
namespace Go.Proofs.YtcibcmfaebbhnaaDoor
open Go.RowKit Go.WideShapes Go.ChangeShapes Q
set_option maxRecDepth 100000 in
set_option maxHeartbeats 1000000 in
theorem check_late (nd wn bs st cp rm fl : Int) (vs : List Int) (A : Option Addr) (n k : Nat) (w : World) (h : RI w w.heap.size A n vs) (hn : n ≤ 16)
    (h1 : inB nd 1 16 = true) (h2 : inB wn 1 8 = true) (h3 : inB cp 1 64 = true) (h4 : inB bs 1 cp = true) (h5 : inB st 1 cp = true) (h6 : inB rm 1 20000 = true) (h7 : inB fl 0 4611686018427387904 = true) (h8 : ((n : Int) == nd) = true) :
    Calls Tryd.prog 37 #[cfgV ⟨nd, wn, bs, st, cp, rm, fl, vs⟩ A n k] w fun e w' => e = .returned (.int .i64 (Cfg.err ⟨nd, wn, bs, st, cp, rm, fl, vs⟩)) ∧ w.alloc (cfgO ⟨nd, wn, bs, st, cp, rm, fl, vs⟩ A n k) = w' := by
  have hl := h.len
  subst hl
  have HC : Hid (VFine vs vs.length → sumOf vs vs.length ≠ 0 → Cfg.err ⟨nd, wn, bs, st, cp, rm, fl, vs⟩ = 0) := fun hv hs =>
    Cfg.err_ok ⟨inB_true h1, inB_true h2, inB_true h3, inB_true h4, inB_true h5, inB_true h6, inB_true h7, by simpa using h8, hv, hs⟩
  have HB : Hid (∀ j, j < vs.length → inB (nth vs j) 0 9 = false → Cfg.err ⟨nd, wn, bs, st, cp, rm, fl, vs⟩ = 22) := fun j hj hb =>
    Cfg.err_bad fun hok => by
      have q : 0 ≤ nth vs j ∧ nth vs j ≤ 9 := hok.fine j hj
      have := inB_false hb
      omega
  have HZ : Hid (sumOf vs vs.length = 0 → Cfg.err ⟨nd, wn, bs, st, cp, rm, fl, vs⟩ = 22) := fun hz => Cfg.err_bad fun hok => hok.sum hz
  unfold cfgV cfgO
  go_enter Tryd.func37, Tryd.ntmps37
  go_wp2_with (go_at_call 68; refine (within_any _ _ _ _).mono ?_; rintro e w' ⟨rfl, rfl⟩)
  clear h1 h2 h3 h4 h5 h6 h7 h8
  go_loop [5, 67] (fun t i => ∃ k : Nat, k ≤ vs.length ∧ i = .int .i64 k ∧ t = .int .i64 (sumOf vs k) ∧ Hid (VFine vs k)) (fun _ i => vs.length - (intOf i).toNat)
  case atStart => exact ⟨0, Nat.zero_le _, rfl, rfl, VFine.zero vs⟩
  case round =>
    obtain ⟨k, hk, rfl, rfl, hfine⟩ := hrel
    have b1 := sumOf_bound hfine.out k (Nat.le_refl _)
    by_cases hlt : k < vs.length
    · obtain ⟨ad, rfl, hb, hc⟩ := h.at_ hlt
      have hc' : ∀ o, (w.alloc o).cell? (ad.add k) = some (.int .i64 (nth vs k)) := fun o => (World.cell?_alloc_lt w o _ (by rw [block_of_add]; exact hb)).trans hc
      cases hv : inB (nth vs k) 0 9
      · have he := hide (HB.out k hlt hv)
        go_wp2_with (go_at_call 68; refine (within_any _ _ _ _).mono ?_; rintro e w' ⟨rfl, rfl⟩)
        go_ret
        exact ⟨ret_int he.out.symm, rfl⟩
      · have hf := hide (hfine.out.succ (inB_true hv).1 (inB_true hv).2)
        have v1 := inB_true hv
        go_wp2_with (go_at_call 68; refine (within_any _ _ _ _).mono ?_; rintro e w' ⟨rfl, rfl⟩)
        go_round
        case rel => exact ⟨k + 1, by omega, by go_num, rfl, hf⟩
        case measure => simp [intOf]; omega
    · obtain rfl : k = vs.length := by omega
      by_cases hz : sumOf vs vs.length = 0
      · have hb := hide (HZ.out hz)
        have hz' : (sumOf vs vs.length == 0) = true := by simp [hz]
        clear hz
        go_wp2
        go_ret
        exact ⟨ret_int hb.out.symm, rfl⟩
      · have hb := hide (HC.out hfine.out hz)
        have hz' : (sumOf vs vs.length == 0) = false := by simp [hz]
        go_wp2
        go_ret
        exact ⟨ret_int hb.out.symm, rfl⟩
/-- The program's CheckConfig, every configuration. -/
theorem check_any (nd wn bs st cp rm fl : Int) (vs : List Int) (A : Option Addr) (n k : Nat) (w : World) (h : RI w w.heap.size A n vs) (hn : n ≤ 17592186044416) :
    Calls Tryd.prog 37 #[cfgV ⟨nd, wn, bs, st, cp, rm, fl, vs⟩ A n k] w fun e w' => e = .returned (.int .i64 (Cfg.err ⟨nd, wn, bs, st, cp, rm, fl, vs⟩)) ∧ w.alloc (cfgO ⟨nd, wn, bs, st, cp, rm, fl, vs⟩ A n k) = w' := by
  have hl := h.len
  have bad : ¬ Cfg.Ok ⟨nd, wn, bs, st, cp, rm, fl, vs⟩ → Cfg.err ⟨nd, wn, bs, st, cp, rm, fl, vs⟩ = 22 := Cfg.err_bad
  cases h1 : inB nd 1 16
  · rw [bad (fun hok => by have q : 1 ≤ nd ∧ nd ≤ 16 := hok.nodes; have := inB_false h1; omega)]; exact check_bad1 nd wn bs st cp rm fl vs A n k w h1
  cases h2 : inB wn 1 8
  · rw [bad (fun hok => by have q : 1 ≤ wn ∧ wn ≤ 8 := hok.window; have := inB_false h2; omega)]; exact check_bad2 nd wn bs st cp rm fl vs A n k w h1 h2
  cases h3 : inB cp 1 64
  · rw [bad (fun hok => by have q : 1 ≤ cp ∧ cp ≤ 64 := hok.cap; have := inB_false h3; omega)]; exact check_bad3 nd wn bs st cp rm fl vs A n k w h1 h2 h3
  cases h4 : inB bs 1 cp
  · rw [bad (fun hok => by have q : 1 ≤ bs ∧ bs ≤ cp := hok.base; have := inB_false h4; omega)]; exact check_bad4 nd wn bs st cp rm fl vs A n k w h1 h2 h3 h4
  cases h5 : inB st 1 cp
  · rw [bad (fun hok => by have q : 1 ≤ st ∧ st ≤ cp := hok.step; have := inB_false h5; omega)]; exact check_bad5 nd wn bs st cp rm fl vs A n k w h1 h2 h3 h4 h5
  cases h6 : inB rm 1 20000
  · rw [bad (fun hok => by have q : 1 ≤ rm ∧ rm ≤ 20000 := hok.room; have := inB_false h6; omega)]; exact check_bad6 nd wn bs st cp rm fl vs A n k w h1 h2 h3 h4 h5 h6
  cases h7 : inB fl 0 4611686018427387904
  · rw [bad (fun hok => by have q : 0 ≤ fl ∧ fl ≤ 4611686018427387904 := hok.floor; have := inB_false h7; omega)]; exact check_bad7 nd wn bs st cp rm fl vs A n k w h1 h2 h3 h4 h5 h6 h7
  cases h8 : ((n : Int) == nd)
  · rw [bad (fun hok => by have q : (vs.length : Int) = nd := hok.len; simp at h8; omega)]; exact check_bad8 nd wn bs st cp rm fl vs A n k w h1 h2 h3 h4 h5 h6 h7 h8
  have h16 := inB_true h1
  have hn' : n ≤ 16 := by simp at h8; omega
  exact check_late nd wn bs st cp rm fl vs A n k w h hn' h1 h2 h3 h4 h5 h6 h7 h8
end Go.Proofs.YtcibcmfaebbhnaaDoor
