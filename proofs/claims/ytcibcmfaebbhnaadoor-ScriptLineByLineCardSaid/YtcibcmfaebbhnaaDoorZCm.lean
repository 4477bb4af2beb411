/-
  The reference's header: the names of a configuration's numbers. A configuration in memory.
-/
import Derived.Test.YtcibcmfaebbhnaaDoorZCfp
import Derived.Test.YtcibcmfaebbhnaaDoorZBas
import Derived.Test.YtcibcmfaebbhnaaDoorZFir
import Derived.Test.YtcibcmfaebbhnaaDoorZCfgB
set_option linter.unusedVariables false
set_option linter.unusedSimpArgs false
namespace Go.Proofs.YtcibcmfaebbhnaaDoor
open Go.RowKit Go.WideShapes Go.ChangeShapes Q

/-- Each name, and an empty text behind it. -/
def hdrV : Array Value := (cfNames.flatMap fun n => [Value.string (S n), Value.string ⟨#[]⟩]).toArray
set_option maxRecDepth 100000 in
set_option maxHeartbeats 2000000 in
theorem header_ref (w : World) : Calls Tryd.prog 44 #[] w fun e w' => e = .returned (.slice (some ⟨w.heap.size, 0, none⟩) 14 14) ∧ w' = w.alloc (.cells hdrV 9) := by
  go_enter Tryd.func44, Tryd.ntmps44
  go_wp2_with fail
  go_ret
  exact ⟨rfl, rfl⟩
theorem hdrV_at : ∀ k n, cfNames[k]? = some n → hdrV[2 * k]? = some (.string (S n)) := by
  intro k n h
  match k, h with
  | 0, h => obtain rfl := Option.some.inj h; rfl
  | 1, h => obtain rfl := Option.some.inj h; rfl
  | 2, h => obtain rfl := Option.some.inj h; rfl
  | 3, h => obtain rfl := Option.some.inj h; rfl
  | 4, h => obtain rfl := Option.some.inj h; rfl
  | 5, h => obtain rfl := Option.some.inj h; rfl
  | 6, h => obtain rfl := Option.some.inj h; rfl
  | k + 7, h => simp [cfNames] at h
end Go.Proofs.YtcibcmfaebbhnaaDoor
set_option linter.unusedVariables false
set_option linter.unusedSimpArgs false
namespace Go.Proofs.YtcibcmfaebbhnaaDoor
open Go.RowKit Go.WideShapes Go.ChangeShapes Q

/-- A configuration's cells: its votes lie at A. -/
def cfC (c : Cfg) (A : Option Addr) (k : Nat) : Array Value := #[.int .i64 c.nodes, .int .i64 c.window, .int .i64 c.base, .int .i64 c.step, .int .i64 c.cap, .int .i64 c.room, .int .i64 c.floor, .slice A c.votes.length k]
theorem cfC_V (c : Cfg) (A : Option Addr) (k : Nat) : cfgV c A c.votes.length k = .agg (cfC c A k) := rfl
theorem cf_size (c : Cfg) (A : Option Addr) (k : Nat) : (cfC c A k).size = 8 := rfl
theorem cf_all (c : Cfg) (A : Option Addr) (k : Nat) : (cfC c A k).all (·.oneCell') = true := by simp [cfC, Value.oneCell']
theorem ld44 (cs : Array Value) (h : cs.size = 8) : (Tryd.prog.info? 44).map (·.size) = some cs.size := by rw [h]; kernel_rfl
theorem cput (Z cs : Array Value) (h : Z.size = 8) (hc : cs.size = 8) : putAt Z 0 cs = cs := by
  unfold putAt
  have h1 : Z.toList.drop (0 + cs.size) = [] := List.drop_eq_nil_of_le (by rw [hc, Array.length_toList, h]; omega)
  rw [h1]
  simp
/-- Any block's cells, as a load of the whole wants them. -/
theorem box_all {w : World} {g : Nat} {t : TypeId} {cs : Array Value} (h : Blk w g t cs) : ∀ j v, cs[j]? = some v → w.cell? ((⟨g, 0, none⟩ : Addr).add j) = some v := by
  intro j v hv
  have e2 : (⟨g, 0, none⟩ : Addr).add j = ⟨g, j, none⟩ := by
    unfold Addr.add
    split
    · rename_i h0; subst h0; rfl
    · simp
  rw [e2, h.cell j, hv]
theorem run_load44 {w : World} {g : Nat} {cs : Array Value} (h : Blk w g 44 cs) (hc : cs.size = 8) : (loadVar 44 ⟨g, 0, none⟩).run Tryd.prog w = .ok (.agg cs) w := run_load_at w ⟨g, 0, none⟩ 44 cs _ Tryd.underlying44 rfl (ld44 _ hc) (box_all h)
/-- A configuration, and a value beside it, as a result. -/
theorem results_44b {w : World} {g : Nat} {cs : Array Value} {fn : Func} {p u : Tmp} (h : fn.results = #[.cell p 44, .tmp u]) (tmps : Array Value) (hp : tmps.getD p undef = .pointer (some ⟨g, 0, none⟩)) (hb : Blk w g 44 cs) (hc : cs.size = 8) {v : Value} (hv : tmps.getD u undef = v) : (results fn tmps).run Tryd.prog w = .ok (.tuple #[.agg cs, v]) w := by
  rw [results_cell_tmp h, hp, hv]
  have h1 := run_load44 hb hc
  simp [Result.andThen, asAddr, h1]
/-- The votes are the call's own. -/
structure CfU (w : World) (b : Nat) (c : Cfg) (A : Option Addr) (k : Nat) : Prop where
  own : w.ownsRow b 3 1 (.slice A c.votes.length k) c.votes.length (ints c.votes)
  hv : c.votes.length ≤ 16
section
variable {w w' : World} {b b' g : Nat} {t : TypeId} {cs : Array Value} {c : Cfg} {A : Option Addr} {k : Nat}
theorem CfU.step (h : CfU w b c A k) (hb : Below w.heap.size w w') : CfU w' b c A k := ⟨own_step h.own hb, h.hv⟩
theorem CfU.base (h : CfU w b c A k) (hb : b' ≤ b) : CfU w b' c A k := ⟨own_base h.own hb, h.hv⟩
theorem CfU.zero (w : World) (b : Nat) (k : Nat) : CfU w b Cfg.zero none 0 := ⟨World.ownsRow_nil _ _ _ _, Nat.zero_le _⟩
theorem CfU.far (h : CfU w b c A k) (hg : Blk w g t cs) (h2 : t ≠ 3) (ho : Only (fun q => q = g) w w') : CfU w' b c A k := by
  refine ⟨own_apart h.own ho ?_, h.hv⟩
  intro k hk hq
  subst hq
  exact ⟨t, cs, hg, h2⟩
theorem CfU.push {b' n s : Nat} {e : TypeId} {v : Value} {xs : List Value} (h : CfU w b c A k) (h' : w.ownsRow b' e s v n xs) (h3 : e ≠ 3) (hg : w.grownBy w' v.ownBlock) : CfU w' b c A k :=
  ⟨own_kept h.own h' (fun e => h3 e.symm) hg, h.hv⟩
theorem CfU.reads (h : CfU w b c A k) : RI w w.heap.size A c.votes.length c.votes := Reads.of_own h.own
end
/-- What a reading of a configuration gives: one, or none. -/
def CnfP (f : Option Cfg) (w : World) (e : Ending) (w' : World) : Prop := ∃ (c : Cfg) (A : Option Addr) (k : Nat) (ok : Bool), e = .returned (.tuple #[.agg (cfC c A k), .bool ok]) ∧ CfU w' w.heap.size c A k ∧ Below w.heap.size w w' ∧ (ok = true → f = some c) ∧ (ok = false → f = none)
theorem cnf_no {w W : World} {g : Nat} {Z : Array Value} (f : Option Cfg) (hr : w.heap.size ≤ g) (hZ : Blk W g 44 Z) (hl : Below w.heap.size w W) (h : f = none) :
    CnfP f w (.returned (.tuple #[.agg (cfC Cfg.zero none 0), .bool false])) (W.setRow g (cfC Cfg.zero none 0)) := by
  have hW := only_setRow W g (cfC Cfg.zero none 0)
  exact ⟨Cfg.zero, none, 0, false, rfl, CfU.zero _ _ 0, hl.trans (hW.below hl.size (fun k hk e => by omega)), (fun h => by cases h), fun _ => h⟩
theorem cnf_yes {w W : World} {g : Nat} {Z : Array Value} {f : Option Cfg} {c : Cfg} {A : Option Addr} {k : Nat} (hr : w.heap.size ≤ g) (hZ : Blk W g 44 Z) (hl : Below w.heap.size w W) (hu : CfU W w.heap.size c A k) (h : f = some c) :
    CnfP f w (.returned (.tuple #[.agg (cfC c A k), .bool true])) (W.setRow g (cfC c A k)) := by
  have hW := only_setRow W g (cfC c A k)
  exact ⟨c, A, k, true, rfl, hu.far hZ (by decide) hW, hl.trans (hW.below hl.size (fun k hk e => by omega)), (fun _ => h), fun h => by cases h⟩
theorem cset_votes (c : Cfg) (A A' : Option Addr) (k k' : Nat) (l : List Int) : (cfC c A k).setIfInBounds 7 (.slice A' l.length k') = cfC { c with votes := l } A' k' := rfl
/-- The header's names, in the order in which they lie. -/
def hdrL : List (List UInt8) := cfNames.flatMap fun n => [n, []]
theorem hdrL_len : hdrL.length = 14 := rfl
theorem hdr_cell (i : Nat) (hi : i < 14) : ∃ n, hdrL[i]? = some n ∧ hdrV[i]? = some (.string (S n)) := by
  match i, hi with
  | 0, _ => exact ⟨_, rfl, rfl⟩
  | 1, _ => exact ⟨_, rfl, rfl⟩
  | 2, _ => exact ⟨_, rfl, rfl⟩
  | 3, _ => exact ⟨_, rfl, rfl⟩
  | 4, _ => exact ⟨_, rfl, rfl⟩
  | 5, _ => exact ⟨_, rfl, rfl⟩
  | 6, _ => exact ⟨_, rfl, rfl⟩
  | 7, _ => exact ⟨_, rfl, rfl⟩
  | 8, _ => exact ⟨_, rfl, rfl⟩
  | 9, _ => exact ⟨_, rfl, rfl⟩
  | 10, _ => exact ⟨_, rfl, rfl⟩
  | 11, _ => exact ⟨_, rfl, rfl⟩
  | 12, _ => exact ⟨_, rfl, rfl⟩
  | 13, _ => exact ⟨_, rfl, rfl⟩
theorem hdrL_even {q : Nat} {n : List UInt8} (h : cfNames[q]? = some n) : hdrL[2 * q]? = some n := by
  match q, h with
  | 0, h => obtain rfl := Option.some.inj h; rfl
  | 1, h => obtain rfl := Option.some.inj h; rfl
  | 2, h => obtain rfl := Option.some.inj h; rfl
  | 3, h => obtain rfl := Option.some.inj h; rfl
  | 4, h => obtain rfl := Option.some.inj h; rfl
  | 5, h => obtain rfl := Option.some.inj h; rfl
  | 6, h => obtain rfl := Option.some.inj h; rfl
  | q + 7, h => simp [cfNames] at h
theorem names_at {q : Nat} (h : q < 7) : ∃ n, cfNames[q]? = some n := ⟨_, List.getElem?_eq_getElem (by exact h)⟩
/-- A place of the second line is as it should be. -/
def Chk (ws : List Wd) (i : Nat) : Prop := ∀ d n, ws[i]? = some d → hdrL[i]? = some n → (i % 2 = 0 → d.2 = false ∧ d.1 = n) ∧ (i % 2 = 1 → 0 ≤ wcntZ d)
/-- One place is not as it should be. -/
theorem chk_bad {ws : List Wd} {i : Nat} (hl : ws.length = 14) (hi : i < 14) (h : ¬ Chk ws i) : pairP cfNames ws = none := by
  obtain ⟨n, hn⟩ := names_at (q := i / 2) (by omega)
  obtain ⟨a, ha⟩ : ∃ a, ws[2 * (i / 2)]? = some a := ⟨_, List.getElem?_eq_getElem (by omega)⟩
  obtain ⟨b, hb⟩ : ∃ b, ws[2 * (i / 2) + 1]? = some b := ⟨_, List.getElem?_eq_getElem (by omega)⟩
  refine pair_bad cfNames ws (i / 2) n a b hn ha hb (fun hg => h (fun d n' hd hn' => ?_))
  refine ⟨fun he => ?_, fun ho => ?_⟩
  · have e : i = 2 * (i / 2) := by omega
    rw [e] at hd hn'
    obtain rfl := Option.some.inj (ha.symm.trans hd)
    obtain rfl := Option.some.inj ((hdrL_even hn).symm.trans hn')
    exact hg.1
  · have e : i = 2 * (i / 2) + 1 := by omega
    rw [e] at hd
    obtain rfl := Option.some.inj (hb.symm.trans hd)
    exact hg.2
/-- All places are: the counts. -/
theorem chk_all {ws : List Wd} (hl : ws.length = 14) (h : ∀ i, i < 14 → Chk ws i) : ∃ d1 d3 d5 d7 d9 d11 d13, ws[1]? = some d1 ∧ ws[3]? = some d3 ∧ ws[5]? = some d5 ∧ ws[7]? = some d7 ∧ ws[9]? = some d9 ∧ ws[11]? = some d11 ∧ ws[13]? = some d13 ∧
    pairP cfNames ws = some [wcntZ d1, wcntZ d3, wcntZ d5, wcntZ d7, wcntZ d9, wcntZ d11, wcntZ d13] := by
  obtain ⟨vs, h1, h2, h3⟩ := pair_good cfNames ws hl (fun q n a b hn ha hb => by
    have hq : q < 7 := by
      rcases Nat.lt_or_ge q 7 with h | h
      · exact h
      · rw [List.getElem?_eq_none (by exact h)] at hn; cases hn
    obtain ⟨n2, hn2, _⟩ := hdr_cell (2 * q + 1) (by omega)
    exact ⟨(h (2 * q) (by omega) a n ha (hdrL_even hn)).1 (by omega), (h (2 * q + 1) (by omega) b n2 hb hn2).2 (by omega)⟩)
  have hg : ∀ k, k < 14 → ∃ d, ws[k]? = some d := fun k hk => ⟨_, List.getElem?_eq_getElem (by omega)⟩
  obtain ⟨d1, e1⟩ := hg 1 (by decide)
  obtain ⟨d3, e3⟩ := hg 3 (by decide)
  obtain ⟨d5, e5⟩ := hg 5 (by decide)
  obtain ⟨d7, e7⟩ := hg 7 (by decide)
  obtain ⟨d9, e9⟩ := hg 9 (by decide)
  obtain ⟨d11, e11⟩ := hg 11 (by decide)
  obtain ⟨d13, e13⟩ := hg 13 (by decide)
  refine ⟨d1, d3, d5, d7, d9, d11, d13, e1, e3, e5, e7, e9, e11, e13, ?_⟩
  have k0 := h3 0 d1 e1
  have k1 := h3 1 d3 e3
  have k2 := h3 2 d5 e5
  have k3 := h3 3 d7 e7
  have k4 := h3 4 d9 e9
  have k5 := h3 5 d11 e11
  have k6 := h3 6 d13 e13
  rw [h1]
  match vs, h2 with
  | [v0, v1, v2, v3, v4, v5, v6], _ =>
    simp at k0 k1 k2 k3 k4 k5 k6
    rw [k0, k1, k2, k3, k4, k5, k6]
  | [], h2 => cases h2
  | [_], h2 => cases h2
  | [_, _], h2 => cases h2
  | [_, _, _], h2 => cases h2
  | [_, _, _, _], h2 => cases h2
  | [_, _, _, _, _], h2 => cases h2
  | [_, _, _, _, _, _], h2 => cases h2
  | _ :: _ :: _ :: _ :: _ :: _ :: _ :: _ :: _, h2 => exact absurd h2 (by simp [cfNames])
/-- Votes: one is none. -/
theorem vot_bad : ∀ (ws : List Wd) (k : Nat) (d : Wd), ws[k]? = some d → wcnt d = none → votP ws = none
  | w :: ws, 0, d, h, hn => by
    obtain rfl : w = d := by simpa using h
    rw [votP, hn]
  | w :: ws, k + 1, d, h, hn => by
    have ih := vot_bad ws k d (by simpa using h) hn
    rw [votP]
    cases wcnt w with
    | none => rfl
    | some x => simp only [ih, Option.map_none]
  | [], k, _, h, _ => by simp at h
end Go.Proofs.YtcibcmfaebbhnaaDoor
