/-
  Contract of newNet.
-/
import Derived.Test.YtkcjfiifajjpiaaNet
import Derived.Test.YtkcjfiifajjpiaaRows
import Derived.Deep.CutBlock
set_option linter.unusedVariables false
set_option linter.unusedSimpArgs false
namespace Go.Proofs.Ytkcjfiifajjpiaa
open Go.RowKit Go.WideShapes Go.ChangeShapes Q

theorem info_parts {P : Program} {t : TypeId} {z : Value} {a b : Nat} (h : (P.info? t).map (fun i => (i.zero, i.size, i.bytes)) = some (some z, a, b)) : ∃ i, P.info? t = some i ∧ i.zero = some z ∧ i.size = a ∧ i.bytes = b := by
  cases hi : P.info? t with
  | none => rw [hi] at h; cases h
  | some i =>
    rw [hi] at h
    simp only [Option.map_some, Option.some.injEq, Prod.mk.injEq] at h
    exact ⟨i, rfl, h.1, h.2.1, h.2.2⟩
theorem made_one (z : Value) (n : Nat) (hz : z.cells = #[z]) : madeCells z.cells n = tab n fun _ => z := by
  rw [hz, ← tab_rep]
  unfold madeCells
  apply Array.ext
  · simp
  · intro i h1 h2
    simp [Nat.mod_one]
theorem made_two (n : Nat) : madeCells (Value.cells (.agg #[.bool false, .int .i64 0])) (n * 2) = tab (n * 2) (wires (fun _ => false) fun _ => 0) := by
  unfold madeCells
  apply Array.ext
  · simp [tab_size]
  · intro i h1 h2
    have h3 : i < n * 2 := by simpa [tab_size] using h2
    have h4 := tab_get (n * 2) (wires (fun _ => false) fun _ => 0) i h3
    rw [Array.getElem?_eq_getElem h2] at h4
    injection h4 with h4
    rw [h4]
    simp only [Value.cells, Array.getElem_ofFn, wires]
    rcases Nat.mod_two_eq_zero_or_one i with e | e
    · simp [e]
    · simp [e]
theorem info4 : (Try.prog.info? 4).map (fun i => (i.zero, i.size, i.bytes)) = some (some (.bool false), 1, 1) := by kernel_rfl
theorem info80 : (Try.prog.info? 80).map (fun i => (i.zero, i.size, i.bytes)) = some (some (.slice none 0 0), 1, 24) := by kernel_rfl
theorem info82 : (Try.prog.info? 82).map (fun i => (i.zero, i.size, i.bytes)) = some (some (.agg #[.bool false, .int .i64 0]), 2, 16) := by kernel_rfl
theorem make58 (n : Nat) (hn : n ≤ 20000) (w : World) : (Instr.makeSlice 58 (.int .i64 (n : Int)) (.int .i64 (n : Int))).run Try.prog w = .ok (.slice (some ⟨w.heap.size, 0, none⟩) n n) (w.alloc (.cells (tab n (bools fun _ => false)) 4)) := by
  obtain ⟨i0, hi, hz0, hz1, hz2⟩ := info_parts info4
  have h := run_make_rowN (P := Try.prog) 58 4 i0 (.bool false) Try.underlying58 hi hz0 .i64 .i64 n n (Nat.le_refl _) (by rw [hz2]; omega) (by omega) w
  rw [h, hz1, Nat.mul_one, made_one _ _ rfl]
  rfl
theorem make77 (n : Nat) (hn : n ≤ 20000) (w : World) : (Instr.makeSlice 77 (.int .i64 (n : Int)) (.int .i64 (n : Int))).run Try.prog w = .ok (.slice (some ⟨w.heap.size, 0, none⟩) n n) (w.alloc (.cells (tab n fun _ => .slice none 0 0) 80)) := by
  obtain ⟨i0, hi, hz0, hz1, hz2⟩ := info_parts info80
  have h := run_make_rowN (P := Try.prog) 77 80 i0 (.slice none 0 0) Try.underlying77 hi hz0 .i64 .i64 n n (Nat.le_refl _) (by rw [hz2]; omega) (by omega) w
  rw [h, hz1, Nat.mul_one, made_one _ _ rfl]
theorem make80 (n : Nat) (hn : n ≤ 20000) (w : World) : (Instr.makeSlice 80 (.int .i64 (n : Int)) (.int .i64 (n : Int))).run Try.prog w = .ok (.slice (some ⟨w.heap.size, 0, none⟩) n n) (w.alloc (.cells (tab (n * 2) (wires (fun _ => false) fun _ => 0)) 82)) := by
  obtain ⟨i0, hi, hz0, hz1, hz2⟩ := info_parts info82
  have h := run_make_rowN (P := Try.prog) 80 82 i0 (.agg #[.bool false, .int .i64 0]) Try.underlying80 hi hz0 .i64 .i64 n n (Nat.le_refl _) (by rw [hz2]; omega) (by omega) w
  rw [h, hz1, made_two]

section
variable {w : World} {o0 o1 o2 o3 : Obj} {c : Array Value} {t : TypeId}
theorem cell_alloc {p : Addr} {v : Value} (h : w.cell? p = some v) (o : Obj) : (w.alloc o).cell? p = some v := (World.cell?_alloc_lt w o p (World.block_lt_of_cell? w p h)).trans h
theorem al0 : Blk ((((w.alloc (.cells c t)).alloc o1).alloc o2).alloc o3).drew w.heap.size t c := ((((Blk.new w t c).alloc o1).alloc o2).alloc o3).drew
theorem al1 : Blk ((((w.alloc o0).alloc (.cells c t)).alloc o2).alloc o3).drew (w.heap.size + 1) t c := (((Blk.new' (w.alloc o0) t c _ (by simp)).alloc o2).alloc o3).drew
theorem al2 : Blk ((((w.alloc o0).alloc o1).alloc (.cells c t)).alloc o3).drew (w.heap.size + 1 + 1) t c := ((Blk.new' ((w.alloc o0).alloc o1) t c _ (by simp)).alloc o3).drew
theorem al3 : Blk ((((w.alloc o0).alloc o1).alloc o2).alloc (.cells c t)).drew (w.heap.size + 1 + 1 + 1) t c := (Blk.new' (((w.alloc o0).alloc o1).alloc o2) t c _ (by simp)).drew
end
/-- The head, up, left and the row of rows stand. -/
structure NetPre (w : World) (B n : Nat) (nb ub lb pb : Nat) : Prop where
  head : Blk w nb 79 #[sl ub n, sl lb n, sl pb n]
  up : Blk w ub 4 (tab n (bools fun _ => false))
  left : Blk w lb 4 (tab n (bools fun _ => false))
  path : Blk w pb 80 (tab n fun _ => .slice none 0 0)
  ul : ub ≠ lb
  n0 : B ≤ nb
  u0 : B ≤ ub
  l0 : B ≤ lb
  p0 : B ≤ pb

/-- k rows stand, the last of them with j delays. -/
structure Mid (w : World) (B n nb ub lb pb : Nat) (row : Nat → Nat) (u k j : Nat) : Prop where
  head : Blk w nb 79 #[sl ub n, sl lb n, sl pb n]
  up : Blk w ub 4 (tab n (bools fun i => decide (i < u)))
  left : Blk w lb 4 (tab n (bools fun _ => false))
  path : Blk w pb 80 (tab n fun i => if i < k then sl (row i) n else .slice none 0 0)
  wire : ∀ i, i < k → Blk w (row i) 82 (tab (n * 2) (wires (fun _ => false) fun q => if i + 1 = k ∧ j ≤ q then 0 else 1))
  inj : ∀ i i', i < k → i' < k → row i = row i' → i = i'
  ul : ub ≠ lb
  n0 : B ≤ nb
  u0 : B ≤ ub
  l0 : B ≤ lb
  p0 : B ≤ pb
  r0 : ∀ i, i < k → B ≤ row i
section
variable {w w' : World} {B n nb ub lb pb k j u : Nat} {row : Nat → Nat}
theorem Mid.setUp (h : Mid w B n nb ub lb pb row k k j) : Mid (w.setCell ⟨ub, k, none⟩ (.bool true)) B n nb ub lb pb row (k + 1) k j :=
  ⟨h.head.far (Blk.ne_ h.head h.up (by decide)) _, by
    have := h.up.set_ k (.bool true)
    rw [bools_set] at this
    rw [tab_congr (g := bools (up1 (fun i => decide (i < k)) k true)) fun i _ => by unfold bools up1; by_cases e : i = k <;> simp [e] <;> omega]
    exact this, h.left.far (fun e => h.ul e.symm) _, h.path.far (Blk.ne_ h.path h.up (by decide)) _,
    fun i hi => (h.wire i hi).far (Blk.ne_ (h.wire i hi) h.up (by decide)) _, h.inj, h.ul, h.n0, h.u0, h.l0, h.p0, h.r0⟩
theorem Mid.quiet (h : Mid w B n nb ub lb pb row u k j) (hs : St (fun _ => False) w w') : Mid w' B n nb ub lb pb row u k j :=
  ⟨h.head.st hs (fun e => e), h.up.st hs (fun e => e), h.left.st hs (fun e => e), h.path.st hs (fun e => e), fun i hi => (h.wire i hi).st hs (fun e => e), h.inj, h.ul, h.n0, h.u0, h.l0, h.p0, h.r0⟩
/-- One row more. -/
theorem Mid.row_ (h : Mid w B n nb ub lb pb row (k + 1) k n) {r : Nat} (hr : Blk w r 82 (tab (n * 2) (wires (fun _ => false) fun _ => 0))) (hB : B ≤ r) (hne : ∀ i, i < k → row i ≠ r) :
    Mid (w.setCell ⟨pb, k, none⟩ (sl r n)) B n nb ub lb pb (fun i => if i = k then r else row i) (k + 1) (k + 1) 0 :=
  ⟨h.head.far (Blk.ne_ h.head h.path (by decide)) _, h.up.far (Blk.ne_ h.up h.path (by decide)) _, h.left.far (Blk.ne_ h.left h.path (by decide)) _, by
    have := h.path.set_ k (sl r n)
    rw [tab_set] at this
    rw [tab_congr fun i _ => show (if i < k + 1 then sl (if i = k then r else row i) n else .slice none 0 0) = (if i = k then sl r n else if i < k then sl (row i) n else .slice none 0 0) by
      by_cases e : i = k
      · subst e; rw [if_pos (by omega), if_pos rfl, if_pos rfl]
      · rw [if_neg e, if_neg e]
        by_cases e2 : i < k
        · rw [if_pos (by omega), if_pos e2]
        · rw [if_neg (by omega), if_neg e2]]
    exact this, fun i hi => by
    by_cases e : i = k
    · subst e
      rw [if_pos rfl]
      rw [tab_congr fun q _ => show wires (fun _ => false) (fun q => if i + 1 = i + 1 ∧ 0 ≤ q then 0 else 1) q = wires (fun _ => false) (fun _ => 0) q by unfold wires; simp]
      exact hr.far (Blk.ne_ hr h.path (by decide)) _
    · have hi' : i < k := by omega
      have hw := h.wire i hi'
      rw [if_neg e]
      rw [wires_congr (c' := fun _ => false) (d' := fun q => if i + 1 = k ∧ n ≤ q then 0 else 1) (fun _ _ => rfl) (fun q hq => by
        show (if _ then (0 : Int) else 1) = if _ then 0 else 1
        rw [if_neg (by omega), if_neg (by omega)])]
      exact hw.far (Blk.ne_ hw h.path (by decide)) _,
    fun i i' hi hi' e => by
      by_cases e1 : i = k
      · by_cases e2 : i' = k
        · omega
        · simp only [e1, e2, if_true, if_false] at e
          exact absurd e.symm (hne i' (by omega))
      · by_cases e2 : i' = k
        · simp only [e1, e2, if_true, if_false] at e
          exact absurd e (hne i (by omega))
        · simp only [e1, e2, if_false] at e
          exact h.inj i i' (by omega) (by omega) e,
    h.ul, h.n0, h.u0, h.l0, h.p0, fun i hi => by
      by_cases e1 : i = k
      · simp only [e1, if_true]; exact hB
      · simp only [e1, if_false]; exact h.r0 i (by omega)⟩
/-- One delay more. -/
theorem Mid.one (h : Mid w B n nb ub lb pb row u (k + 1) j) : Mid (w.setCell ⟨row k, j * 2 + 1, none⟩ (.int .i64 1)) B n nb ub lb pb row u (k + 1) (j + 1) := by
  have hr := h.wire k (by omega)
  refine ⟨h.head.far (Blk.ne_ h.head hr (by decide)) _, h.up.far (Blk.ne_ h.up hr (by decide)) _, h.left.far (Blk.ne_ h.left hr (by decide)) _, h.path.far (Blk.ne_ h.path hr (by decide)) _, fun i hi => ?_, h.inj, h.ul, h.n0, h.u0, h.l0, h.p0, h.r0⟩
  by_cases e : i = k
  · subst e
    have := hr.set_ (j * 2 + 1) (.int .i64 1)
    rw [wires_set_dly] at this
    rw [wires_congr (c' := fun _ => false) (d' := up1 (fun q => if i + 1 = i + 1 ∧ j ≤ q then 0 else 1) j 1) (fun _ _ => rfl) (fun q hq => by
      unfold up1
      show (if _ then (0 : Int) else 1) = if _ then (1 : Int) else if _ then 0 else 1
      by_cases e3 : q = j
      · rw [if_pos e3, if_neg (by omega)]
      · rw [if_neg e3]
        by_cases e4 : j ≤ q
        · rw [if_pos ⟨rfl, by omega⟩, if_pos ⟨rfl, e4⟩]
        · rw [if_neg (by omega), if_neg (by omega)])]
    exact this
  · have hw := h.wire i hi
    rw [wires_congr (c' := fun _ => false) (d' := fun q => if i + 1 = k + 1 ∧ j ≤ q then 0 else 1) (fun _ _ => rfl) (fun q hq => by
      show (if _ then (0 : Int) else 1) = if _ then (0 : Int) else 1
      rw [if_neg (by omega), if_neg (by omega)])]
    exact hw.far (fun e' => e (h.inj i k hi (by omega) e')) _
def net0 : Net := ⟨fun _ => true, fun _ => false, fun _ _ => false, fun _ _ => 1⟩
theorem Mid.done (h : Mid w B n nb ub lb pb row n n n) : NetAt w (fun q => B ≤ q) n ⟨nb, ub, lb, pb, row⟩ net0 :=
  ⟨h.head, by
    have := h.up
    rw [tab_congr (g := bools net0.up) fun i hi => by unfold bools net0; simp [hi]] at this
    exact this, h.left, by
    have := h.path
    rw [tab_congr (g := fun p => sl (row p) n) fun i hi => by simp [hi]] at this
    exact this, fun i hi => by
    have := h.wire i hi
    show Blk w (row i) 82 (tab (n * 2) (wires (fun _ => false) fun _ => 1))
    rw [wires_congr (c' := fun _ => false) (d' := fun _ => 1) (fun _ _ => rfl) (fun q hq => by
      show (if _ then (0 : Int) else 1) = 1
      rw [if_neg (by omega)])] at this
    exact this, h.ul, h.inj, h.n0, h.u0, h.l0, h.p0, h.r0⟩
end
theorem NetPre.mid {w : World} {B n nb ub lb pb : Nat} (h : NetPre w B n nb ub lb pb) : Mid w B n nb ub lb pb (fun _ => 0) 0 0 n :=
  ⟨h.head, by
    rw [tab_congr (g := bools fun _ => false) fun i _ => by unfold bools; simp]
    exact h.up, h.left, by
    rw [tab_congr (g := fun _ => .slice none 0 0) fun i _ => by simp]
    exact h.path, fun i hi => absurd hi (by omega), fun i _ hi => absurd hi (by omega), h.ul, h.n0, h.u0, h.l0, h.p0, fun i hi => absurd hi (by omega)⟩

set_option maxRecDepth 100000 in
set_option maxHeartbeats 1000000 in
theorem newnet_any (n : Nat) (w : World) (hn : n ≤ 16) :
    Calls Try.prog 30 #[.int .i64 n] w fun e w' => ∃ L, e = .returned (.pointer (some ⟨L.nb, 0, none⟩)) ∧ NetAt w' (fun q => w.heap.size ≤ q) n L net0 ∧ St (fun _ => False) w w' := by
  have hm3 := hide (make80 n (by omega))
  have hm1 := make58 n (by omega)
  have hm2 := make77 n (by omega)
  go_enter Try.func30, Try.ntmps30
  go_upto_region 1 with fail
  go_cut [3] (fun v wx => ∃ nb ub lb pb, v = .pointer (some ⟨nb, 0, none⟩) ∧ NetPre wx w.heap.size n nb ub lb pb ∧ St (fun _ => False) w wx)
  case first =>
    go_region_with (simp only [hm1, hm2])
    all_goals
      go_wp2_with fail
      go_meet
      refine ⟨?_, ?_, ?_, ?_, ?_, ⟨?_, ?_, ?_, ?_, ?_, ?_, ?_, ?_, ?_⟩, ?_⟩
      rotate_left 4
      · rfl
      · with_reducible exact al3
      · first | with_reducible exact al0 | with_reducible exact al1 | with_reducible exact al2
      · first | with_reducible exact al0 | with_reducible exact al1 | with_reducible exact al2
      · first | with_reducible exact al0 | with_reducible exact al1 | with_reducible exact al2
      · omega
      · omega
      · omega
      · omega
      · omega
      · exact (((((St.refl _ w).alloc _).alloc _).alloc _).alloc _).drew
  case rest =>
    obtain ⟨nb, ub, lb, pb, rfl, hpre, hs0⟩ := hcut
    clear hm1 hm2
    have HM := hide hpre.mid
    have HS := hide hs0
    obtain ⟨w0, hw0⟩ : ∃ w0, w0 = wc := ⟨_, rfl⟩
    rw [← hw0] at HM HS ⊢
    clear hw0 hpre hs0
    go_wp2_with fail
    go_loopw [15] (fun i wr => ∃ (k : Nat) (row : Nat → Nat), k ≤ n ∧ i = .int .i64 k ∧ Hid (Mid wr w.heap.size n nb ub lb pb row k k n) ∧ Hid (St (fun _ => False) w wr)) (fun i _ => n - (intOf i).toNat)
    case atStart => exact ⟨0, _, Nat.zero_le _, rfl, HM, HS⟩
    case round =>
      obtain ⟨k, row, hk, rfl, hm, hs⟩ := hrel
      clear HM HS
      by_cases hlt : k < n
      · have i0 : (0 : Int) ≤ (k : Int) := by omega
        have i1 : (k : Int) < (n : Int) := by omega
        have c0 : wr.cell? ⟨nb, 0, none⟩ = some (sl ub n) := hm.out.head.cell 0
        have f0 := hm.out.up.frozen k
        have u0 : wr.cell? ⟨ub, k, none⟩ = some (.bool (decide (k < k))) := by rw [hm.out.up.cell, tab_get _ _ _ hlt]; rfl
        go_upto_region 6 with fail
        generalize hgw : World.setCell _ _ _ = w1
        have HM1 : Hid (Mid w1 w.heap.size n nb ub lb pb row (k + 1) k n) := by rw [← hgw]; exact hm.out.setUp
        have HS1 : Hid (St (fun _ => False) w w1) := by
          rw [← hgw]
          exact hs.out.setCell hm.out.up (by unfold Num35; decide) (fun h => absurd h (by have := hm.out.u0; omega)) _
        clear hgw c0 f0 u0
        have hmk := hm3.out
        have hb2 : w1.cell? ⟨nb, 2, none⟩ = some (sl pb n) := HM1.out.head.cell 2
        have f1 := HM1.out.path.frozen k
        have v1 : w1.cell? ⟨pb, k, none⟩ = some (.slice none 0 0) := by rw [HM1.out.path.cell, tab_get _ _ _ hlt, if_neg (by omega)]
        have hb2a : (w1.alloc (.cells (tab (n * 2) (wires (fun _ => false) fun _ => 0)) 82)).cell? ⟨nb, 2, none⟩ = some (sl pb n) := cell_alloc hb2 _
        have v1a : (w1.alloc (.cells (tab (n * 2) (wires (fun _ => false) fun _ => 0)) 82)).cell? ⟨pb, k, none⟩ = some (.slice none 0 0) := cell_alloc v1 _
        have f1a := (HM1.out.path.alloc (.cells (tab (n * 2) (wires (fun _ => false) fun _ => 0)) 82)).frozen k
        go_region_with (simp only [hmk])
        all_goals
          generalize hgw : World.drew _ = w2
          have HR : ∃ row' : Nat → Nat, Mid w2 w.heap.size n nb ub lb pb row' (k + 1) (k + 1) 0 := by
            rw [← hgw]
            exact ⟨_, ((HM1.out.quiet ((St.refl _ w1).alloc _)).row_ (Blk.new w1 82 _) HS1.out.size (fun i hi e => by have := (HM1.out.wire i hi).lt; omega)).quiet (St.refl _ _).drew⟩
          have HS2 : Hid (St (fun _ => False) w w2) := by
            rw [← hgw]
            exact ((HS1.out.alloc _).setCell (HM1.out.path.alloc _) (by unfold Num35; decide) (fun h => absurd h (by have := HM1.out.p0; omega)) _).drew
          obtain ⟨row', hm2⟩ := HR
          have HM2 := hide hm2
          generalize w1.heap.size = rb
          clear hgw hmk hb2 f1 v1 hb2a v1a f1a hm2 HM1 HS1 hm hs
          go_wp2_with fail
          go_loopw [33] (fun i wq => ∃ j : Nat, j ≤ n ∧ i = .int .i64 j ∧ Hid (Mid wq w.heap.size n nb ub lb pb row' (k + 1) (k + 1) j) ∧ Hid (St (fun _ => False) w wq)) (fun i _ => n - (intOf i).toNat)
          case atStart => exact ⟨0, Nat.zero_le _, rfl, HM2, HS2⟩
          case round =>
            obtain ⟨j, hj, rfl, hm, hs⟩ := hrel
            clear HM2 HS2
            by_cases hjl : j < n
            · have j0 : (0 : Int) ≤ (j : Int) := by omega
              have j1 : (j : Int) < (n : Int) := by omega
              have c2 : wr.cell? ⟨nb, 2, none⟩ = some (sl pb n) := hm.out.head.cell 2
              have c3 : wr.cell? ⟨pb, k, none⟩ = some (sl (row' k) n) := by rw [hm.out.path.cell, tab_get _ _ _ hlt, if_pos (by omega)]
              have f1 := (hm.out.wire k (by omega)).frozen (j * 2 + 1)
              obtain ⟨v, u1⟩ : ∃ v, wr.cell? ⟨row' k, j * 2 + 1, none⟩ = some (.int .i64 v) := by
                rw [(hm.out.wire k (by omega)).cell, tab_get _ _ _ (by omega), wires_dly]
                exact ⟨_, rfl⟩
              go_wp2_with fail
              generalize hgw : World.setCell _ _ _ = w3
              have HM3 : Hid (Mid w3 w.heap.size n nb ub lb pb row' (k + 1) (k + 1) (j + 1)) := by rw [← hgw]; exact hm.out.one
              have HS3 : Hid (St (fun _ => False) w w3) := by
                rw [← hgw]
                exact hs.out.setCell (hm.out.wire k (by omega)) (by unfold Num35; decide) (fun h => absurd h (by have := hm.out.r0 k (by omega); omega)) _
              clear hgw c2 c3 f1 u1
              go_roundw
              case rel => first | exact ⟨j + 1, by omega, by go_num, HM3, HS3⟩ | ((repeat apply Exists.intro); exact ⟨⟨j + 1, by omega, by go_num, HM3, HS3⟩, rfl⟩)
              case measure => simp [intOf]; omega
            · obtain rfl : j = n := by omega
              go_wp2_with fail
              go_roundw
              case rel => first | exact ⟨k + 1, row', by omega, by go_num, hm, hs⟩ | ((repeat apply Exists.intro); exact ⟨⟨k + 1, row', by omega, by go_num, hm, hs⟩, rfl⟩)
              case measure => simp [intOf]; omega
      · obtain rfl : k = n := by omega
        go_wp2_with fail
        go_ret
        exact ⟨⟨nb, ub, lb, pb, row⟩, rfl, hm.out.done, hs.out⟩
end Go.Proofs.Ytkcjfiifajjpiaa
