/-
  Contract of net.play. (Printed by wip/tools/mkplay.py.)
-/
import Derived.Test.YtkcjfiifajjpiaaAlone
set_option linter.unusedVariables false
set_option linter.unusedSimpArgs false
namespace Go.Proofs.Ytkcjfiifajjpiaa
open Go.RowKit Go.WideShapes Go.ChangeShapes Q

instance (n : Nat) (a b : Int) : Decidable (isPath n a b) := by unfold isPath; infer_instance
/-- Is it a node? -/
def isNode (n : Nat) (a : Int) : Bool := decide (0 ≤ a) && decide (a < n)
theorem isNode_nat {n : Nat} {a : Int} (h : isNode n a = true) : ∃ i : Nat, a = (i : Int) ∧ i < n := by
  simp [isNode] at h
  exact ⟨a.toNat, by omega, by omega⟩
theorem isPath_nat {n : Nat} {a b : Int} (h : isPath n a b) : ∃ i j : Nat, a = (i : Int) ∧ b = (j : Int) ∧ i < n ∧ j < n ∧ i ≠ j := by
  obtain ⟨h1, h2, h3, h4, h5⟩ := h
  exact ⟨a.toNat, b.toNat, by omega, by omega, by omega, by omega, by omega⟩
/-- What one event makes of a net (sides: the numbers of its list). -/
def playN (n : Nat) (x : Net) (k a b m : Int) (zs : List Int) : Net :=
  if k = 5 ∨ k = 7 then (if isNode n a = true ∧ (k = 5 ∨ 0 ≤ m) then { x with up := up1 x.up a.toNat false } else x)
  else if k = 6 then (if isNode n a = true ∧ x.up a.toNat = false then { x with up := up1 x.up a.toNat true, left := up1 x.left a.toNat false } else x)
  else if k = 18 then (if isNode n a = true ∧ x.up a.toNat = true then { x with left := up1 x.left a.toNat true } else x)
  else if k = 8 ∨ k = 9 then (if isPath n a b then { x with cut := up2 x.cut a.toNat b.toNat (decide (k = 8)) } else x)
  else if k = 10 then (if isPath n a b ∧ 1 ≤ m ∧ m ≤ 16 then { x with dly := up2 x.dly a.toNat b.toNat m } else x)
  else if k = 11 then splitN n x zs else x
def pathV (n : Nat) (L : Lay) (a b : Int) : Value := .pointer (if isPath n a b then some ⟨L.row a.toNat, b.toNat * 2, none⟩ else none)

set_option maxRecDepth 100000 in
set_option maxHeartbeats 2000000 in
theorem play_any (n c B : Nat) (L : Lay) (x : Net) (S : Nat → Prop) (ek ea eb en c1 c2 c3 c4 : Int) (vb k1 k2 k3 : Value) (A : Option Addr) (m : Nat) (zs : List Int) (w : World) (h : NetAt w S n L x) (hr : RI w B A m zs) (hBw : B ≤ w.heap.size) (hB : ∀ q, S q → B ≤ q) (hn : n ≤ 16) (hm : m ≤ 140737488351232) :
    Calls Try.prog 32 #[.pointer (some ⟨L.nb, 0, none⟩), .agg #[.int .i64 ek, .int .i64 ea, .int .i64 eb, .int .i64 en, vb, .int .i64 c1, .int .i64 c2, .int .i64 c3, .int .i64 c4, k1, k2, k3, .slice A m c]] w fun e w' => e = .returned (.tuple #[]) ∧ NetAt w' S n L (playN n x ek ea eb en zs) ∧ St S w w' := by
  have H0 : St (fun _ => False) w (w.alloc (.cells #[.int .i64 ek, .int .i64 ea, .int .i64 eb, .int .i64 en, vb, .int .i64 c1, .int .i64 c2, .int .i64 c3, .int .i64 c4, k1, k2, k3, .slice A m c] 45)) := (St.refl _ w).alloc _
  have B0 := Blk.new w 45 #[.int .i64 ek, .int .i64 ea, .int .i64 eb, .int .i64 en, vb, .int .i64 c1, .int .i64 c2, .int .i64 c3, .int .i64 c4, k1, k2, k3, .slice A m c]
  have N0 := h.quiet H0
  have R0 := hr.st H0 (fun q e => e.elim)
  have HB := hide (And.intro hB (Nat.le_trans hBw H0.size))
  clear h hr hB hBw
  go_enter Try.func32, Try.ntmps32
  go_upto_region 1 with fail
  obtain ⟨w0, hw0⟩ : ∃ w0, w0 = w.alloc (.cells #[.int .i64 ek, .int .i64 ea, .int .i64 eb, .int .i64 en, vb, .int .i64 c1, .int .i64 c2, .int .i64 c3, .int .i64 c4, k1, k2, k3, .slice A m c] 45) := ⟨_, rfl⟩
  rw [← hw0] at H0 B0 N0 R0 HB ⊢
  have HS0 := hide H0
  have HN0 := hide N0
  have HR0 := hide R0
  have HB0 := hide B0
  clear hw0 H0 N0 R0 B0
  go_cut [4] (fun s4 wx => s4 = pathV n L ea eb ∧ St (fun _ => False) w0 wx)
  case first =>
    by_cases hp : isPath n ea eb
    · have HP : Hid (pathV n L ea eb = .pointer (some ⟨L.row ea.toNat, eb.toNat * 2, none⟩)) := by unfold pathV; rw [if_pos hp]; exact rfl
      obtain ⟨i, j, rfl, rfl, hi, hj, hij⟩ := isPath_nat hp
      have HW := hide (wire_yes n i j L x S ek en c1 c2 c3 c4 vb k1 k2 k3 (.slice A m c) w0 HN0.out hi hj hij hn)
      obtain ⟨z0, z1, z2, z3, z4, z5, z6, z7, z8, z9, z10, z11, z12⟩ := m13 HB0.out
      clear hp
      go_wp2_with ((go_at_call 40; refine HW.out.mono ?_; rintro e w1 ⟨rfl, hs1⟩; have HS1 := hide hs1; clear hs1))
      go_meet
      exact ⟨by rw [HP.out]; simp, HS1.out⟩
    · have HP : Hid (pathV n L ea eb = .pointer none) := by unfold pathV; rw [if_neg hp]; exact rfl
      have HW := hide (wire_no n L x S ek ea eb en c1 c2 c3 c4 vb k1 k2 k3 (.slice A m c) w0 HN0.out hp hn)
      obtain ⟨z0, z1, z2, z3, z4, z5, z6, z7, z8, z9, z10, z11, z12⟩ := m13 HB0.out
      clear hp
      go_wp2_with ((go_at_call 40; refine HW.out.mono ?_; rintro e w1 ⟨rfl, hs1⟩; have HS1 := hide hs1; clear hs1))
      go_meet
      exact ⟨HP.out.symm, HS1.out⟩
  case rest =>
   obtain ⟨rfl, hs1⟩ := hcut
   generalize hv4 : pathV n L ea eb = v4
   have HV4 := hide hv4
   clear hv4
   obtain ⟨wa, hwa⟩ : ∃ wa, wa = wc := ⟨_, rfl⟩
   rw [← hwa] at hs1 ⊢
   clear hwa
   have HSA := hide hs1
   clear hs1
   go_upto_region 2 with fail
   go_cut [5] (fun s5 wx => s5 = .bool (isNode n ea) ∧ St (fun _ => False) w0 wx)
   case first =>
    have x1 := HSA.out.only.cell (HB0.out.cell 1) (fun e => e)
    have y0 := HSA.out.only.cell HN0.out.c0 (fun e => e)
    have hcase : ea < 0 ∨ (0 ≤ ea ∧ (n : Int) ≤ ea) ∨ (0 ≤ ea ∧ ea < (n : Int)) := by omega
    rcases hcase with h1 | ⟨h1, h2⟩ | ⟨h1, h2⟩
    · have d1 : decide ((0 : Int) ≤ ea) = false := decide_eq_false (by omega)
      have HND : Hid (isNode n ea = false) := by show _ = _; unfold isNode; rw [d1]; rfl
      clear h1
      go_wp2_with fail
      go_quiet (fail)
      go_wp2_with fail
      go_meet
      exact ⟨by rw [HND.out], HSA.out.drewN _⟩
    · have d1 : decide ((0 : Int) ≤ ea) = true := decide_eq_true h1
      have d2 : decide (ea < (n : Int)) = false := decide_eq_false (by omega)
      have HND : Hid (isNode n ea = false) := by show _ = _; unfold isNode; rw [d1, d2]; rfl
      clear h1 h2
      go_wp2_with fail
      go_quiet (fail)
      go_wp2_with fail
      go_meet
      exact ⟨by rw [HND.out], HSA.out.drewN _⟩
    · have d1 : decide ((0 : Int) ≤ ea) = true := decide_eq_true h1
      have d2 : decide (ea < (n : Int)) = true := decide_eq_true h2
      have HND : Hid (isNode n ea = true) := by show _ = _; unfold isNode; rw [d1, d2]; rfl
      clear h1 h2
      go_wp2_with fail
      go_quiet (fail)
      go_wp2_with fail
      go_meet
      exact ⟨by rw [HND.out], HSA.out.drewN _⟩
   case rest =>
    obtain ⟨rfl, hs1⟩ := hcut
    obtain ⟨w1, hw1⟩ : ∃ w1, w1 = wc := ⟨_, rfl⟩
    rw [← hw1] at hs1 ⊢
    clear hw1 HSA
    rw [← HV4.out]
    clear HV4 v4
    obtain ⟨z0, z1, z2, z3, z4, z5, z6, z7, z8, z9, z10, z11, z12⟩ := m13 (HB0.out.st hs1 (fun e => e))
    have HN := hide (HN0.out.quiet hs1)
    have HS : Hid (St S w w1) := (HS0.out.trans hs1).mono fun _ _ e => e.elim
    have HR := hide (HR0.out.st hs1 (fun q e => e.elim))
    have HSZ := hide hs1.size
    have HBX := hide (HB0.out.st hs1 (fun e => e))
    clear z4 z5 z6 z7 z8 z9 z10 z11 hs1 HN0 HR0 HS0 HB0
    by_cases e5 : ek = 5
    · subst e5
      cases hnd : isNode n ea with
      | true =>
        have HE : Hid (playN n x 5 ea eb en zs = { x with up := up1 x.up ea.toNat false }) := by
          show _ = _
          unfold playN
          rw [if_pos (by decide), if_pos ⟨hnd, by exact .inl rfl⟩]
        generalize hv4 : pathV n L ea eb = v4
        clear hv4
        obtain ⟨i, rfl, hi⟩ := isNode_nat hnd
        have i0 : (0 : Int) ≤ (i : Int) := by omega
        have i1 : (i : Int) < (n : Int) := by omega
        have y0 := HN.out.c0
        have y1 := HN.out.c1
        have yu := HN.out.cu hi
        have yl := HN.out.cl hi
        have fu := HN.out.up.frozen i
        have fl := HN.out.left.frozen i
        have et : ((i : Int)).toNat = i := by simp
        rw [et] at HE
        clear et
        clear hnd y1 yl fl
        go_wp2_with fail
        go_still_tail 7, (by kernel_rfl)
        change wpList _ _ _ _ _ w1.drew
        go_wp2_with fail
        generalize hgw : World.setCell _ _ _ = w2
        have HN2 : Hid (NetAt w2 S n L { x with up := up1 x.up i false }) := by rw [← hgw]; exact (HN.out).setUp i _
        have HS2 : Hid (St S w w2) := by
          rw [← hgw]
          exact (HS.out).setCell (HN.out).up (by unfold Num35; decide) (fun _ => HN.out.su) _
        first | refine bodyPost_end (results_none rfl _ _ _) rfl ?_ | refine bodyPost_ret (results_none rfl _ _ _) rfl ?_
        exact ⟨rfl, by rw [HE.out]; exact HN2.out.quiet (St.refl _ _).drew, HS2.out.drew⟩
      | false =>
        have HE : Hid (playN n x 5 ea eb en zs = x) := by
          show _ = _
          unfold playN
          rw [if_pos (by decide), if_neg (by rintro ⟨hh, _⟩; rw [hnd] at hh; cases hh)]
        generalize hv4 : pathV n L ea eb = v4
        clear hv4
        clear hnd
        go_wp2_with fail
        first | refine bodyPost_end (results_none rfl _ _ _) rfl ?_ | refine bodyPost_ret (results_none rfl _ _ _) rfl ?_
        exact ⟨rfl, by rw [HE.out]; exact HN.out, HS.out⟩
    · by_cases e7 : ek = 7
      · subst e7
        cases hnd : isNode n ea with
        | true =>
          by_cases hm0 : 0 ≤ en
          · have HE : Hid (playN n x 7 ea eb en zs = { x with up := up1 x.up ea.toNat false }) := by
              show _ = _
              unfold playN
              rw [if_pos (by decide), if_pos ⟨hnd, by exact .inr hm0⟩]
            have dm : decide ((0 : Int) ≤ en) = true := decide_eq_true hm0
            clear hm0
            generalize hv4 : pathV n L ea eb = v4
            clear hv4
            obtain ⟨i, rfl, hi⟩ := isNode_nat hnd
            have i0 : (0 : Int) ≤ (i : Int) := by omega
            have i1 : (i : Int) < (n : Int) := by omega
            have y0 := HN.out.c0
            have y1 := HN.out.c1
            have yu := HN.out.cu hi
            have yl := HN.out.cl hi
            have fu := HN.out.up.frozen i
            have fl := HN.out.left.frozen i
            have et : ((i : Int)).toNat = i := by simp
            rw [et] at HE
            clear et
            clear hnd y1 yl fl
            go_wp2_with fail
            go_still_tail 7, (by kernel_rfl)
            change wpList _ _ _ _ _ w1.drew
            go_wp2_with fail
            generalize hgw : World.setCell _ _ _ = w2
            have HN2 : Hid (NetAt w2 S n L { x with up := up1 x.up i false }) := by rw [← hgw]; exact (HN.out).setUp i _
            have HS2 : Hid (St S w w2) := by
              rw [← hgw]
              exact (HS.out).setCell (HN.out).up (by unfold Num35; decide) (fun _ => HN.out.su) _
            first | refine bodyPost_end (results_none rfl _ _ _) rfl ?_ | refine bodyPost_ret (results_none rfl _ _ _) rfl ?_
            exact ⟨rfl, by rw [HE.out]; exact HN2.out.quiet (St.refl _ _).drew, HS2.out.drew⟩
          · have HE : Hid (playN n x 7 ea eb en zs = x) := by
              show _ = _
              unfold playN
              rw [if_pos (by decide), if_neg (by rintro ⟨_, hh⟩; omega)]
            have dm : decide ((0 : Int) ≤ en) = false := decide_eq_false hm0
            clear hm0
            generalize hv4 : pathV n L ea eb = v4
            clear hv4
            clear hnd
            go_wp2_with fail
            first | refine bodyPost_end (results_none rfl _ _ _) rfl ?_ | refine bodyPost_ret (results_none rfl _ _ _) rfl ?_
            exact ⟨rfl, by rw [HE.out]; exact HN.out, HS.out⟩
        | false =>
          have HE : Hid (playN n x 7 ea eb en zs = x) := by
            show _ = _
            unfold playN
            rw [if_pos (by decide), if_neg (by rintro ⟨hh, _⟩; rw [hnd] at hh; cases hh)]
          generalize hv4 : pathV n L ea eb = v4
          clear hv4
          clear hnd
          go_wp2_with fail
          first | refine bodyPost_end (results_none rfl _ _ _) rfl ?_ | refine bodyPost_ret (results_none rfl _ _ _) rfl ?_
          exact ⟨rfl, by rw [HE.out]; exact HN.out, HS.out⟩
      · by_cases e6 : ek = 6
        · subst e6
          cases hnd : isNode n ea with
          | true =>
            cases hup : x.up ea.toNat with
            | false =>
              have HE : Hid (playN n x 6 ea eb en zs = { x with up := up1 x.up ea.toNat true, left := up1 x.left ea.toNat false }) := by
                show _ = _
                unfold playN
                rw [if_neg (by decide), if_pos (by decide), if_pos ⟨hnd, hup⟩]
              generalize hv4 : pathV n L ea eb = v4
              clear hv4
              obtain ⟨i, rfl, hi⟩ := isNode_nat hnd
              have i0 : (0 : Int) ≤ (i : Int) := by omega
              have i1 : (i : Int) < (n : Int) := by omega
              have y0 := HN.out.c0
              have y1 := HN.out.c1
              have yu := HN.out.cu hi
              have yl := HN.out.cl hi
              have fu := HN.out.up.frozen i
              have fl := HN.out.left.frozen i
              have et : ((i : Int)).toNat = i := by simp
              rw [et] at HE hup
              rw [hup] at yu
              clear et
              clear hnd hup
              go_wp2_with fail
              go_quiet (fail)
              go_wp2_with fail
              obtain ⟨wq, hwq⟩ : ∃ wq, wq = w1.drewN nq := ⟨_, rfl⟩
              have HNq : Hid (NetAt wq S n L x) := by rw [hwq]; exact HN.out.quiet ((St.refl _ w1).drewN nq)
              have HSq : Hid (St S w wq) := by rw [hwq]; exact HS.out.drewN nq
              have z1q : wq.cell? ⟨w.heap.size, 1, none⟩ = some (.int .i64 (i : Int)) := by rw [hwq]; exact z1
              rw [← hwq]
              have HBXq : Hid (Blk wq w.heap.size 45 #[.int .i64 6, .int .i64 (i : Int), .int .i64 eb, .int .i64 en, vb, .int .i64 c1, .int .i64 c2, .int .i64 c3, .int .i64 c4, k1, k2, k3, .slice A m c]) := by rw [hwq]; exact HBX.out.drewN nq
              clear hwq z0 z1 z2 z3 z12 y0 y1 yu yl fu fl
              have y0 := HNq.out.c0
              have y1 := HNq.out.c1
              have yu := HNq.out.cu hi
              have yl := HNq.out.cl hi
              have fu := HNq.out.up.frozen i
              have fl := HNq.out.left.frozen i
              have n0 : L.nb ≠ L.ub := Blk.ne_ HNq.out.head HNq.out.up (by decide)
              have n1 : L.nb ≠ L.lb := Blk.ne_ HNq.out.head HNq.out.left (by decide)
              have nbx : w.heap.size ≠ L.ub := Blk.ne_ HBXq.out HNq.out.up (by decide)
              have nby : w.heap.size ≠ L.lb := Blk.ne_ HBXq.out HNq.out.left (by decide)
              have yl2 : (wq.setCell ⟨L.ub, i, none⟩ (.bool true)).cell? ⟨L.lb, i, none⟩ = some (.bool (x.left i)) := (HNq.out.setUp i true).cl hi
              have fl2 : (wq.setCell ⟨L.ub, i, none⟩ (.bool true)).frozen? ⟨L.lb, i, none⟩ = false := (HNq.out.setUp i true).left.frozen i
              have yu2 : (wq.setCell ⟨L.lb, i, none⟩ (.bool false)).cell? ⟨L.ub, i, none⟩ = some (.bool (x.up i)) := cell_set HNq.out.ul yu
              have fu2 : (wq.setCell ⟨L.lb, i, none⟩ (.bool false)).frozen? ⟨L.ub, i, none⟩ = false := (HNq.out.setLeft i false).up.frozen i
              have hSd : (fun V : World => V.cell? ⟨L.nb, 0, none⟩ = some (sl L.ub n) ∧ V.cell? ⟨L.nb, 1, none⟩ = some (sl L.lb n) ∧ V.cell? ⟨w.heap.size, 1, none⟩ = some (.int .i64 (i : Int))) wq.drew := ⟨y0, y1, z1q⟩
              have hSa : (fun V : World => V.cell? ⟨L.nb, 0, none⟩ = some (sl L.ub n) ∧ V.cell? ⟨L.nb, 1, none⟩ = some (sl L.lb n) ∧ V.cell? ⟨w.heap.size, 1, none⟩ = some (.int .i64 (i : Int))) (wq.setCell ⟨L.ub, i, none⟩ (.bool true)).drew := ⟨cell_set n0 y0, cell_set n0 y1, cell_set nbx z1q⟩
              have hSb : (fun V : World => V.cell? ⟨L.nb, 0, none⟩ = some (sl L.ub n) ∧ V.cell? ⟨L.nb, 1, none⟩ = some (sl L.lb n) ∧ V.cell? ⟨w.heap.size, 1, none⟩ = some (.int .i64 (i : Int))) (wq.setCell ⟨L.lb, i, none⟩ (.bool false)).drew := ⟨cell_set n1 y0, cell_set n1 y1, cell_set nby z1q⟩
              have hSc : (fun V : World => V.cell? ⟨L.nb, 0, none⟩ = some (sl L.ub n) ∧ V.cell? ⟨L.nb, 1, none⟩ = some (sl L.lb n) ∧ V.cell? ⟨w.heap.size, 1, none⟩ = some (.int .i64 (i : Int))) ((wq.setCell ⟨L.ub, i, none⟩ (.bool true)).setCell ⟨L.lb, i, none⟩ (.bool false)).drew := ⟨cell_set n1 (cell_set n0 y0), cell_set n1 (cell_set n0 y1), cell_set nby (cell_set nbx z1q)⟩
              have hSe : (fun V : World => V.cell? ⟨L.nb, 0, none⟩ = some (sl L.ub n) ∧ V.cell? ⟨L.nb, 1, none⟩ = some (sl L.lb n) ∧ V.cell? ⟨w.heap.size, 1, none⟩ = some (.int .i64 (i : Int))) ((wq.setCell ⟨L.lb, i, none⟩ (.bool false)).setCell ⟨L.ub, i, none⟩ (.bool true)).drew := ⟨cell_set n0 (cell_set n1 y0), cell_set n0 (cell_set n1 y1), cell_set nbx (cell_set nby z1q)⟩
              have HF1 : Hid (NetAt ((wq.setCell ⟨L.ub, i, none⟩ (.bool true)).setCell ⟨L.lb, i, none⟩ (.bool false)).drew S n L { x with up := up1 x.up i true, left := up1 x.left i false } ∧ St S w ((wq.setCell ⟨L.ub, i, none⟩ (.bool true)).setCell ⟨L.lb, i, none⟩ (.bool false)).drew) :=
                ⟨((HNq.out.setUp i true).setLeft i false).quiet (St.refl _ _).drew, ((HSq.out.setCell HNq.out.up (by unfold Num35; decide) (fun _ => HN.out.su) _).setCell (HNq.out.setUp i true).left (by unfold Num35; decide) (fun _ => HN.out.sl_) _).drew⟩
              have HF2 : Hid (NetAt ((wq.setCell ⟨L.lb, i, none⟩ (.bool false)).setCell ⟨L.ub, i, none⟩ (.bool true)).drew S n L { x with up := up1 x.up i true, left := up1 x.left i false } ∧ St S w ((wq.setCell ⟨L.lb, i, none⟩ (.bool false)).setCell ⟨L.ub, i, none⟩ (.bool true)).drew) :=
                ⟨((HNq.out.setLeft i false).setUp i true).quiet (St.refl _ _).drew, ((HSq.out.setCell HNq.out.left (by unfold Num35; decide) (fun _ => HN.out.sl_) _).setCell (HNq.out.setLeft i false).up (by unfold Num35; decide) (fun _ => HN.out.su) _).drew⟩
              go_region_held3 (fun V : World => V.cell? ⟨L.nb, 0, none⟩ = some (sl L.ub n) ∧ V.cell? ⟨L.nb, 1, none⟩ = some (sl L.lb n) ∧ V.cell? ⟨w.heap.size, 1, none⟩ = some (.int .i64 (i : Int)))
                (first | with_reducible exact hSd | with_reducible exact hSa | with_reducible exact hSb | with_reducible exact hSc | with_reducible exact hSe)
                (fail)
              all_goals
                go_wp2_with fail
                first | refine bodyPost_end (results_none rfl _ _ _) rfl ?_ | refine bodyPost_ret (results_none rfl _ _ _) rfl ?_
                first | exact ⟨rfl, by rw [HE.out]; exact HF1.out.1, HF1.out.2⟩ | exact ⟨rfl, by rw [HE.out]; exact HF2.out.1, HF2.out.2⟩
            | true =>
              have HE : Hid (playN n x 6 ea eb en zs = x) := by
                show _ = _
                unfold playN
                rw [if_neg (by decide), if_pos (by decide), if_neg (by rintro ⟨_, hh⟩; rw [hup] at hh; cases hh)]
              generalize hv4 : pathV n L ea eb = v4
              clear hv4
              obtain ⟨i, rfl, hi⟩ := isNode_nat hnd
              have i0 : (0 : Int) ≤ (i : Int) := by omega
              have i1 : (i : Int) < (n : Int) := by omega
              have y0 := HN.out.c0
              have y1 := HN.out.c1
              have yu := HN.out.cu hi
              have yl := HN.out.cl hi
              have fu := HN.out.up.frozen i
              have fl := HN.out.left.frozen i
              have et : ((i : Int)).toNat = i := by simp
              rw [et] at hup
              rw [hup] at yu
              clear et
              clear hnd hup y1 yl fl fu
              go_wp2_with fail
              go_quiet (fail)
              go_wp2_with fail
              first | refine bodyPost_end (results_none rfl _ _ _) rfl ?_ | refine bodyPost_ret (results_none rfl _ _ _) rfl ?_
              exact ⟨rfl, by rw [HE.out]; exact HN.out.quiet ((St.refl _ w1).drewN _), HS.out.drewN _⟩
          | false =>
            have HE : Hid (playN n x 6 ea eb en zs = x) := by
              show _ = _
              unfold playN
              rw [if_neg (by decide), if_pos (by decide), if_neg (by rintro ⟨hh, _⟩; rw [hnd] at hh; cases hh)]
            generalize hv4 : pathV n L ea eb = v4
            clear hv4
            clear hnd
            go_wp2_with fail
            go_quiet (fail)
            go_wp2_with fail
            first | refine bodyPost_end (results_none rfl _ _ _) rfl ?_ | refine bodyPost_ret (results_none rfl _ _ _) rfl ?_
            exact ⟨rfl, by rw [HE.out]; exact HN.out.quiet ((St.refl _ w1).drewN _), HS.out.drewN _⟩
        · by_cases e18 : ek = 18
          · subst e18
            cases hnd : isNode n ea with
            | true =>
              cases hup : x.up ea.toNat with
              | true =>
                have HE : Hid (playN n x 18 ea eb en zs = { x with left := up1 x.left ea.toNat true }) := by
                  show _ = _
                  unfold playN
                  rw [if_neg (by decide), if_neg (by decide), if_pos (by decide), if_pos ⟨hnd, hup⟩]
                generalize hv4 : pathV n L ea eb = v4
                clear hv4
                obtain ⟨i, rfl, hi⟩ := isNode_nat hnd
                have i0 : (0 : Int) ≤ (i : Int) := by omega
                have i1 : (i : Int) < (n : Int) := by omega
                have y0 := HN.out.c0
                have y1 := HN.out.c1
                have yu := HN.out.cu hi
                have yl := HN.out.cl hi
                have fu := HN.out.up.frozen i
                have fl := HN.out.left.frozen i
                have et : ((i : Int)).toNat = i := by simp
                rw [et] at HE hup
                rw [hup] at yu
                clear et
                clear hnd hup
                go_wp2_with fail
                go_quiet (fail)
                go_wp2_with fail
                obtain ⟨wq, hwq⟩ : ∃ wq, wq = w1.drewN nq := ⟨_, rfl⟩
                have HNq : Hid (NetAt wq S n L x) := by rw [hwq]; exact HN.out.quiet ((St.refl _ w1).drewN nq)
                have HSq : Hid (St S w wq) := by rw [hwq]; exact HS.out.drewN nq
                have z1q : wq.cell? ⟨w.heap.size, 1, none⟩ = some (.int .i64 (i : Int)) := by rw [hwq]; exact z1
                rw [← hwq]
                clear hwq z0 z1 z2 z3 z12 y0 y1 yu yl fu fl
                have y0 := HNq.out.c0
                have y1 := HNq.out.c1
                have yu := HNq.out.cu hi
                have yl := HNq.out.cl hi
                have fu := HNq.out.up.frozen i
                have fl := HNq.out.left.frozen i
                go_still_tail 7, (by kernel_rfl)
                change wpList _ _ _ _ _ wq.drew
                go_wp2_with fail
                generalize hgw : World.setCell _ _ _ = w2
                have HN2 : Hid (NetAt w2 S n L { x with left := up1 x.left i true }) := by rw [← hgw]; exact HNq.out.setLeft i true
                have HS2 : Hid (St S w w2) := by
                  rw [← hgw]
                  exact HSq.out.setCell HNq.out.left (by unfold Num35; decide) (fun _ => HN.out.sl_) _
                first | refine bodyPost_end (results_none rfl _ _ _) rfl ?_ | refine bodyPost_ret (results_none rfl _ _ _) rfl ?_
                exact ⟨rfl, by rw [HE.out]; exact HN2.out.quiet (St.refl _ _).drew, HS2.out.drew⟩
              | false =>
                have HE : Hid (playN n x 18 ea eb en zs = x) := by
                  show _ = _
                  unfold playN
                  rw [if_neg (by decide), if_neg (by decide), if_pos (by decide), if_neg (by rintro ⟨_, hh⟩; rw [hup] at hh; cases hh)]
                generalize hv4 : pathV n L ea eb = v4
                clear hv4
                obtain ⟨i, rfl, hi⟩ := isNode_nat hnd
                have i0 : (0 : Int) ≤ (i : Int) := by omega
                have i1 : (i : Int) < (n : Int) := by omega
                have y0 := HN.out.c0
                have y1 := HN.out.c1
                have yu := HN.out.cu hi
                have yl := HN.out.cl hi
                have fu := HN.out.up.frozen i
                have fl := HN.out.left.frozen i
                have et : ((i : Int)).toNat = i := by simp
                rw [et] at hup
                rw [hup] at yu
                clear et
                clear hnd hup y1 yl fl fu
                go_wp2_with fail
                go_quiet (fail)
                go_wp2_with fail
                first | refine bodyPost_end (results_none rfl _ _ _) rfl ?_ | refine bodyPost_ret (results_none rfl _ _ _) rfl ?_
                exact ⟨rfl, by rw [HE.out]; exact HN.out.quiet ((St.refl _ w1).drewN _), HS.out.drewN _⟩
            | false =>
              have HE : Hid (playN n x 18 ea eb en zs = x) := by
                show _ = _
                unfold playN
                rw [if_neg (by decide), if_neg (by decide), if_pos (by decide), if_neg (by rintro ⟨hh, _⟩; rw [hnd] at hh; cases hh)]
              generalize hv4 : pathV n L ea eb = v4
              clear hv4
              clear hnd
              go_wp2_with fail
              go_quiet (fail)
              go_wp2_with fail
              first | refine bodyPost_end (results_none rfl _ _ _) rfl ?_ | refine bodyPost_ret (results_none rfl _ _ _) rfl ?_
              exact ⟨rfl, by rw [HE.out]; exact HN.out.quiet ((St.refl _ w1).drewN _), HS.out.drewN _⟩
          · by_cases e8 : ek = 8
            · subst e8
              by_cases hp : isPath n ea eb
              · have HE : Hid (playN n x 8 ea eb en zs = { x with cut := up2 x.cut ea.toNat eb.toNat true }) := by
                  show _ = _
                  unfold playN
                  rw [if_neg (by decide), if_neg (by decide), if_neg (by decide), if_pos (by decide), if_pos hp]
                  rfl
                obtain ⟨i, j, rfl, rfl, hi, hj, hij⟩ := isPath_nat hp
                rw [show pathV n L (i : Int) (j : Int) = .pointer (some ⟨L.row i, j * 2, none⟩) by unfold pathV; rw [if_pos hp]; simp]
                have yc := HN.out.cc hi hj
                have yd := HN.out.cd hi hj
                have fc := (HN.out.wire i hi).frozen (j * 2)
                have fd := (HN.out.wire i hi).frozen (j * 2 + 1)
                have et : ((i : Int)).toNat = i := by simp
                have et2 : ((j : Int)).toNat = j := by simp
                rw [et, et2] at HE
                clear et et2 hp
                generalize hv5 : isNode n _ = v5
                clear hv5
                clear yd fd
                go_wp2_with fail
                generalize hgw : World.setCell _ _ _ = w2
                have HN2 : Hid (NetAt w2 S n L { x with cut := up2 x.cut i j true }) := by rw [← hgw]; exact HN.out.setCut hi j _
                have HS2 : Hid (St S w w2) := by
                  rw [← hgw]
                  exact HS.out.setCell (HN.out.wire i hi) (by unfold Num35; decide) (fun _ => HN.out.sr i hi) _
                first | refine bodyPost_end (results_none rfl _ _ _) rfl ?_ | refine bodyPost_ret (results_none rfl _ _ _) rfl ?_
                exact ⟨rfl, by rw [HE.out]; exact HN2.out, HS2.out⟩
              · have HE : Hid (playN n x 8 ea eb en zs = x) := by
                  show _ = _
                  unfold playN
                  rw [if_neg (by decide), if_neg (by decide), if_neg (by decide), if_pos (by decide), if_neg hp]
                rw [show pathV n L ea eb = .pointer none by unfold pathV; rw [if_neg hp]]
                clear hp
                generalize hv5 : isNode n _ = v5
                clear hv5
                go_wp2_with fail
                first | refine bodyPost_end (results_none rfl _ _ _) rfl ?_ | refine bodyPost_ret (results_none rfl _ _ _) rfl ?_
                exact ⟨rfl, by rw [HE.out]; exact HN.out, HS.out⟩
            · by_cases e9 : ek = 9
              · subst e9
                by_cases hp : isPath n ea eb
                · have HE : Hid (playN n x 9 ea eb en zs = { x with cut := up2 x.cut ea.toNat eb.toNat false }) := by
                    show _ = _
                    unfold playN
                    rw [if_neg (by decide), if_neg (by decide), if_neg (by decide), if_pos (by decide), if_pos hp]
                    rfl
                  obtain ⟨i, j, rfl, rfl, hi, hj, hij⟩ := isPath_nat hp
                  rw [show pathV n L (i : Int) (j : Int) = .pointer (some ⟨L.row i, j * 2, none⟩) by unfold pathV; rw [if_pos hp]; simp]
                  have yc := HN.out.cc hi hj
                  have yd := HN.out.cd hi hj
                  have fc := (HN.out.wire i hi).frozen (j * 2)
                  have fd := (HN.out.wire i hi).frozen (j * 2 + 1)
                  have et : ((i : Int)).toNat = i := by simp
                  have et2 : ((j : Int)).toNat = j := by simp
                  rw [et, et2] at HE
                  clear et et2 hp
                  generalize hv5 : isNode n _ = v5
                  clear hv5
                  clear yd fd
                  go_wp2_with fail
                  generalize hgw : World.setCell _ _ _ = w2
                  have HN2 : Hid (NetAt w2 S n L { x with cut := up2 x.cut i j false }) := by rw [← hgw]; exact HN.out.setCut hi j _
                  have HS2 : Hid (St S w w2) := by
                    rw [← hgw]
                    exact HS.out.setCell (HN.out.wire i hi) (by unfold Num35; decide) (fun _ => HN.out.sr i hi) _
                  first | refine bodyPost_end (results_none rfl _ _ _) rfl ?_ | refine bodyPost_ret (results_none rfl _ _ _) rfl ?_
                  exact ⟨rfl, by rw [HE.out]; exact HN2.out, HS2.out⟩
                · have HE : Hid (playN n x 9 ea eb en zs = x) := by
                    show _ = _
                    unfold playN
                    rw [if_neg (by decide), if_neg (by decide), if_neg (by decide), if_pos (by decide), if_neg hp]
                  rw [show pathV n L ea eb = .pointer none by unfold pathV; rw [if_neg hp]]
                  clear hp
                  generalize hv5 : isNode n _ = v5
                  clear hv5
                  go_wp2_with fail
                  first | refine bodyPost_end (results_none rfl _ _ _) rfl ?_ | refine bodyPost_ret (results_none rfl _ _ _) rfl ?_
                  exact ⟨rfl, by rw [HE.out]; exact HN.out, HS.out⟩
              · by_cases e10 : ek = 10
                · subst e10
                  by_cases hp : isPath n ea eb
                  · by_cases h1 : 1 ≤ en
                    · by_cases h2 : en ≤ 16
                      · have HE : Hid (playN n x 10 ea eb en zs = { x with dly := up2 x.dly ea.toNat eb.toNat en }) := by
                          show _ = _
                          unfold playN
                          rw [if_neg (by decide), if_neg (by decide), if_neg (by decide), if_neg (by decide), if_pos (by decide), if_pos ⟨hp, h1, h2⟩]
                        have d1 : decide ((1 : Int) ≤ en) = true := decide_eq_true h1
                        have d2 : decide (en ≤ (16 : Int)) = true := decide_eq_true h2
                        clear h1 h2
                        obtain ⟨i, j, rfl, rfl, hi, hj, hij⟩ := isPath_nat hp
                        rw [show pathV n L (i : Int) (j : Int) = .pointer (some ⟨L.row i, j * 2, none⟩) by unfold pathV; rw [if_pos hp]; simp]
                        have yc := HN.out.cc hi hj
                        have yd := HN.out.cd hi hj
                        have fc := (HN.out.wire i hi).frozen (j * 2)
                        have fd := (HN.out.wire i hi).frozen (j * 2 + 1)
                        have et : ((i : Int)).toNat = i := by simp
                        have et2 : ((j : Int)).toNat = j := by simp
                        rw [et, et2] at HE
                        clear et et2 hp
                        generalize hv5 : isNode n _ = v5
                        clear hv5
                        clear yc fc
                        go_wp2_with fail
                        generalize hgw : World.setCell _ _ _ = w2
                        have HN2 : Hid (NetAt w2 S n L { x with dly := up2 x.dly i j en }) := by rw [← hgw]; exact HN.out.setDly hi j _
                        have HS2 : Hid (St S w w2) := by
                          rw [← hgw]
                          exact HS.out.setCell (HN.out.wire i hi) (by unfold Num35; decide) (fun _ => HN.out.sr i hi) _
                        first | refine bodyPost_end (results_none rfl _ _ _) rfl ?_ | refine bodyPost_ret (results_none rfl _ _ _) rfl ?_
                        exact ⟨rfl, by rw [HE.out]; exact HN2.out, HS2.out⟩
                      · have HE : Hid (playN n x 10 ea eb en zs = x) := by
                          show _ = _
                          unfold playN
                          rw [if_neg (by decide), if_neg (by decide), if_neg (by decide), if_neg (by decide), if_pos (by decide), if_neg (by rintro ⟨_, _, hh⟩; exact h2 hh)]
                        have d1 : decide ((1 : Int) ≤ en) = true := decide_eq_true h1
                        have d2 : decide (en ≤ (16 : Int)) = false := decide_eq_false h2
                        clear h1 h2
                        obtain ⟨i, j, rfl, rfl, hi, hj, hij⟩ := isPath_nat hp
                        rw [show pathV n L (i : Int) (j : Int) = .pointer (some ⟨L.row i, j * 2, none⟩) by unfold pathV; rw [if_pos hp]; simp]
                        clear hp
                        generalize hv5 : isNode n _ = v5
                        clear hv5
                        go_wp2_with fail
                        first | refine bodyPost_end (results_none rfl _ _ _) rfl ?_ | refine bodyPost_ret (results_none rfl _ _ _) rfl ?_
                        exact ⟨rfl, by rw [HE.out]; exact HN.out, HS.out⟩
                    · have HE : Hid (playN n x 10 ea eb en zs = x) := by
                        show _ = _
                        unfold playN
                        rw [if_neg (by decide), if_neg (by decide), if_neg (by decide), if_neg (by decide), if_pos (by decide), if_neg (by rintro ⟨_, hh, _⟩; exact h1 hh)]
                      have d1 : decide ((1 : Int) ≤ en) = false := decide_eq_false h1
                      clear h1
                      obtain ⟨i, j, rfl, rfl, hi, hj, hij⟩ := isPath_nat hp
                      rw [show pathV n L (i : Int) (j : Int) = .pointer (some ⟨L.row i, j * 2, none⟩) by unfold pathV; rw [if_pos hp]; simp]
                      clear hp
                      generalize hv5 : isNode n _ = v5
                      clear hv5
                      go_wp2_with fail
                      first | refine bodyPost_end (results_none rfl _ _ _) rfl ?_ | refine bodyPost_ret (results_none rfl _ _ _) rfl ?_
                      exact ⟨rfl, by rw [HE.out]; exact HN.out, HS.out⟩
                  · have HE : Hid (playN n x 10 ea eb en zs = x) := by
                      show _ = _
                      unfold playN
                      rw [if_neg (by decide), if_neg (by decide), if_neg (by decide), if_neg (by decide), if_pos (by decide), if_neg (by rintro ⟨hh, _⟩; exact hp hh)]
                    rw [show pathV n L ea eb = .pointer none by unfold pathV; rw [if_neg hp]]
                    clear hp
                    generalize hv5 : isNode n _ = v5
                    clear hv5
                    go_wp2_with fail
                    first | refine bodyPost_end (results_none rfl _ _ _) rfl ?_ | refine bodyPost_ret (results_none rfl _ _ _) rfl ?_
                    exact ⟨rfl, by rw [HE.out]; exact HN.out, HS.out⟩
                · by_cases e11 : ek = 11
                  · subst e11
                    have HE : Hid (playN n x 11 ea eb en zs = splitN n x zs) := by
                      show _ = _
                      unfold playN
                      rw [if_neg (by decide), if_neg (by decide), if_neg (by decide), if_neg (by decide), if_neg (by decide), if_pos (by decide)]
                    generalize hv4 : pathV n L ea eb = v4
                    clear hv4
                    generalize hv5 : isNode n ea = v5
                    clear hv5
                    have HSP := hide (split_any n c B L x S A m zs w1 HN.out HR.out (Nat.le_trans HB.out.2 HSZ.out) HB.out.1 hn hm)
                    go_wp2_with (go_at_call 41; refine HSP.out.mono ?_; rintro e w2 ⟨rfl, hn2, hs2⟩)
                    first | refine bodyPost_end (results_none rfl _ _ _) rfl ?_ | refine bodyPost_ret (results_none rfl _ _ _) rfl ?_
                    exact ⟨rfl, by rw [HE.out]; exact hn2, HS.out.trans hs2⟩
                  · have HE : Hid (playN n x ek ea eb en zs = x) := by
                      show _ = _
                      unfold playN
                      rw [if_neg (by omega), if_neg (by omega), if_neg (by omega), if_neg (by omega), if_neg (by omega), if_neg (by omega)]
                    have q5 : (ek == 5) = false := by simpa using e5
                    have q7 : (ek == 7) = false := by simpa using e7
                    have q6 : (ek == 6) = false := by simpa using e6
                    have q18 : (ek == 18) = false := by simpa using e18
                    have q8 : (ek == 8) = false := by simpa using e8
                    have q9 : (ek == 9) = false := by simpa using e9
                    have q10 : (ek == 10) = false := by simpa using e10
                    have q11 : (ek == 11) = false := by simpa using e11
                    clear e5 e7 e6 e18 e8 e9 e10 e11
                    generalize hv4 : pathV n L ea eb = v4
                    clear hv4
                    generalize hv5 : isNode n ea = v5
                    clear hv5
                    go_wp2_with fail
                    first | refine bodyPost_end (results_none rfl _ _ _) rfl ?_ | refine bodyPost_ret (results_none rfl _ _ _) rfl ?_
                    exact ⟨rfl, by rw [HE.out]; exact HN.out, HS.out⟩
end Go.Proofs.Ytkcjfiifajjpiaa
