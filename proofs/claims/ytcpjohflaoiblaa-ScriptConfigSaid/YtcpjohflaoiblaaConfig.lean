/-
  ScriptConfig, the walk.
-/
import Derived.Test.YtcpjohflaoiblaaCfgR
import Derived.Test.YtcpjohflaoiblaaOnly
set_option linter.unusedVariables false
namespace Go.Proofs.Ytcpjohflaoiblaa
open Go.RowKit Go.WideShapes Go.ChangeShapes Q

theorem info3 : (Try.prog.info? 3).map (fun i => (i.zero, i.size, i.bytes)) = some (some (.int .i64 0), 1, 8) := by kernel_rfl
theorem num_any (e0 : Int) (w : World) : Calls Try.prog 4 #[.int .i64 e0] w fun e w' => e = .returned (.int .i64 e0) ∧ w = w' := by
  go_enter Try.func4, Try.ntmps4
  go_wp2
  go_ret
  exact ⟨rfl, rfl⟩
theorem ints_one (vs : List Int) : ∀ u ∈ ints vs, u.oneCell' = true := by
  intro u hu
  simp [ints] at hu
  obtain ⟨x, _, rfl⟩ := hu
  rfl
theorem apart_one {w : World} {p : Nat} {t e : TypeId} {cs : Array Value} (h : Blk w p t cs) (hne : t ≠ e) : Apart w (fun k => k = p) e := fun k _ hk => by
  subst hk; exact ⟨t, cs, h, hne⟩
theorem Only.set1 {w w1 : World} {p : Nat} (h : Only (fun k => k = p) w w1) (i : Nat) (u : Value) : Only (fun k => k = p) w (w1.setCell ⟨p, i, none⟩ u) := h.setCell (p := ⟨p, i, none⟩) (fun _ => rfl) u
theorem blk8 {w : World} {g : Nat} {t : TypeId} {a0 a1 a2 a3 a4 a5 a6 a7 : Value} (h : Blk w g t #[a0, a1, a2, a3, a4, a5, a6, a7]) : w.cell? ⟨g, 0, none⟩ = some a0 ∧ w.cell? ⟨g, 1, none⟩ = some a1 ∧ w.cell? ⟨g, 2, none⟩ = some a2 ∧ w.cell? ⟨g, 3, none⟩ = some a3 ∧
    w.cell? ⟨g, 4, none⟩ = some a4 ∧ w.cell? ⟨g, 5, none⟩ = some a5 ∧ w.cell? ⟨g, 6, none⟩ = some a6 ∧ w.cell? ⟨g, 7, none⟩ = some a7 := by
  refine ⟨?_, ?_, ?_, ?_, ?_, ?_, ?_, ?_⟩ <;> rw [h.cell] <;> rfl
theorem b8_0 {w : World} {p : Nat} {t : TypeId} {a0 a1 a2 a3 a4 a5 a6 a7 u : Value} (hb : Blk w p t #[a0, a1, a2, a3, a4, a5, a6, a7]) : Blk (w.setCell ⟨p, 0, none⟩ u) p t #[u, a1, a2, a3, a4, a5, a6, a7] := hb.set_ 0 u
theorem b8_1 {w : World} {p : Nat} {t : TypeId} {a0 a1 a2 a3 a4 a5 a6 a7 u : Value} (hb : Blk w p t #[a0, a1, a2, a3, a4, a5, a6, a7]) : Blk (w.setCell ⟨p, 1, none⟩ u) p t #[a0, u, a2, a3, a4, a5, a6, a7] := hb.set_ 1 u
theorem b8_2 {w : World} {p : Nat} {t : TypeId} {a0 a1 a2 a3 a4 a5 a6 a7 u : Value} (hb : Blk w p t #[a0, a1, a2, a3, a4, a5, a6, a7]) : Blk (w.setCell ⟨p, 2, none⟩ u) p t #[a0, a1, u, a3, a4, a5, a6, a7] := hb.set_ 2 u
theorem b8_3 {w : World} {p : Nat} {t : TypeId} {a0 a1 a2 a3 a4 a5 a6 a7 u : Value} (hb : Blk w p t #[a0, a1, a2, a3, a4, a5, a6, a7]) : Blk (w.setCell ⟨p, 3, none⟩ u) p t #[a0, a1, a2, u, a4, a5, a6, a7] := hb.set_ 3 u
theorem b8_4 {w : World} {p : Nat} {t : TypeId} {a0 a1 a2 a3 a4 a5 a6 a7 u : Value} (hb : Blk w p t #[a0, a1, a2, a3, a4, a5, a6, a7]) : Blk (w.setCell ⟨p, 4, none⟩ u) p t #[a0, a1, a2, a3, u, a5, a6, a7] := hb.set_ 4 u
theorem b8_5 {w : World} {p : Nat} {t : TypeId} {a0 a1 a2 a3 a4 a5 a6 a7 u : Value} (hb : Blk w p t #[a0, a1, a2, a3, a4, a5, a6, a7]) : Blk (w.setCell ⟨p, 5, none⟩ u) p t #[a0, a1, a2, a3, a4, u, a6, a7] := hb.set_ 5 u
theorem b8_6 {w : World} {p : Nat} {t : TypeId} {a0 a1 a2 a3 a4 a5 a6 a7 u : Value} (hb : Blk w p t #[a0, a1, a2, a3, a4, a5, a6, a7]) : Blk (w.setCell ⟨p, 6, none⟩ u) p t #[a0, a1, a2, a3, a4, a5, u, a7] := hb.set_ 6 u
theorem b8_7 {w : World} {p : Nat} {t : TypeId} {a0 a1 a2 a3 a4 a5 a6 a7 u : Value} (hb : Blk w p t #[a0, a1, a2, a3, a4, a5, a6, a7]) : Blk (w.setCell ⟨p, 7, none⟩ u) p t #[a0, a1, a2, a3, a4, a5, a6, u] := hb.set_ 7 u

set_option maxRecDepth 100000 in
set_option maxHeartbeats 8000000 in
theorem config_walk (nd wn bs st cp rm fl : Int) (A : Option Addr) (n c : Nat) (vs : List Int) (w : World) (h : RI w w.heap.size A n vs) (hn : n * 8 ≤ 140737488351232) :
    Calls Try.prog 3 #[cfgV ⟨nd, wn, bs, st, cp, rm, fl, vs⟩ A n c] w fun e w' => e = .returned (.bool true) ∧ Below w.heap.size w w' := by
  obtain ⟨i0, hi, hz0, hz1, hz2⟩ := info_parts info3
  have H0 : Below w.heap.size w (w.alloc (cfgO ⟨nd, wn, bs, st, cp, rm, fl, vs⟩ A n c)) := (Below.refl _ w).alloc (Nat.le_refl _) _
  have B0 : Blk (w.alloc (cfgO ⟨nd, wn, bs, st, cp, rm, fl, vs⟩ A n c)) w.heap.size 24 #[.int .i64 nd, .int .i64 wn, .int .i64 bs, .int .i64 st, .int .i64 cp, .int .i64 rm, .int .i64 fl, .slice A n c] := Blk.new _ _ _
  have V0 : Reads (w.alloc (cfgO ⟨nd, wn, bs, st, cp, rm, fl, vs⟩ A n c)) w.heap.size 1 A n (ints vs) := Reads.below h H0
  unfold cfgV
  unfold cfgO at H0 B0 V0
  go_enter Try.func3, Try.ntmps3
  go_wp2
  obtain ⟨w0, hw0⟩ : ∃ w0, w0 = w.alloc (.cells #[.int .i64 nd, .int .i64 wn, .int .i64 bs, .int .i64 st, .int .i64 cp, .int .i64 rm, .int .i64 fl, .slice A n c] 24) := ⟨_, rfl⟩
  rw [← hw0] at H0 B0 V0 ⊢
  clear hw0
  have hs0 := H0.size
  have hsl : w.heap.size < w0.heap.size := B0.lt
  have HB0 := hide B0
  go_cut [3] (fun p wx => ∃ (g : Nat) (A1 : Option Addr) (c1 : Nat), p = .pointer (some ⟨g, 0, none⟩) ∧ Blk wx g 24 #[.int .i64 nd, .int .i64 wn, .int .i64 bs, .int .i64 st, .int .i64 cp, .int .i64 rm, .int .i64 fl, .slice A1 n c1] ∧ Blk wx w.heap.size 24 #[.int .i64 nd, .int .i64 wn, .int .i64 bs, .int .i64 st, .int .i64 cp, .int .i64 rm, .int .i64 fl, .slice A n c] ∧ Reads wx wx.heap.size 1 A1 n (ints vs) ∧ Below w.heap.size w wx)
  case first =>
    go_region_held3 (fun W => W.cell? ⟨w.heap.size, 0, none⟩ = some (.int .i64 nd) ∧ W.cell? ⟨w.heap.size, 1, none⟩ = some (.int .i64 wn) ∧ W.cell? ⟨w.heap.size, 2, none⟩ = some (.int .i64 bs) ∧ W.cell? ⟨w.heap.size, 3, none⟩ = some (.int .i64 st) ∧ W.cell? ⟨w.heap.size, 4, none⟩ = some (.int .i64 cp) ∧ W.cell? ⟨w.heap.size, 5, none⟩ = some (.int .i64 rm) ∧ W.cell? ⟨w.heap.size, 6, none⟩ = some (.int .i64 fl) ∧ W.cell? ⟨w.heap.size, 7, none⟩ = some (.slice A n c))
      ((refine blk8 (t := 24) ?_; repeat (first | with_reducible exact HB1.out | with_reducible exact HB0.out | with_reducible refine Blk.drew ?_ | with_reducible refine Blk.alloc ?_ _ | (with_reducible refine Blk.far ?_ ?_ _; rotate_left; (first | omega | (simp; done) | (simp; omega))))))
      (first
        | ((refine step_append_any _ (by rfl) (.tmp 18) (.tmp 20) _ (by rfl) w0.heap.size 3 i0 _ 1 8 Try.underlying22 hi hz0 hz1 hz2 (by rfl) (by omega) (.slice (some ⟨w0.heap.size, 0, none⟩) 0 0) 0 [] (by rfl) ?_ w.heap.size A n c (ints vs) (by rfl) ?_ (ints_one vs) ?_ ?_ ?_ ?_; (refine own_none ?_ ?_; (repeat (first | with_reducible exact Blk.new' _ _ _ _ (by simp) | with_reducible refine Blk.drew ?_ | with_reducible refine Blk.alloc ?_ _)); (first | exact Nat.le_refl _ | omega)); (repeat (first | with_reducible exact V0 | with_reducible refine Reads.drew ?_ | (with_reducible refine Reads.alloc ?_ (by first | omega | (simp; done) | (simp; omega)) _))); (unfold maxLen; omega); omega; (simp <;> omega); intro v1 w1 hown1 hg1 hat1; obtain ⟨A1, c1, hv1, R1, _⟩ := own_val hown1; simp only [Nat.zero_add, List.nil_append] at hown1 hv1 R1; rw [hv1] at hown1 ⊢; clear hv1; have hk1 := (fun (g : Nat) (t : TypeId) (cs : Array Value) (hb : Blk _ g t cs) (hne : some g ≠ _) => Blk.grown hb hg1 hne); have HB1 : Hid (Blk w1 w.heap.size 24 #[.int .i64 nd, .int .i64 wn, .int .i64 bs, .int .i64 st, .int .i64 cp, .int .i64 rm, .int .i64 fl, .slice A n c]) := (by refine hk1 _ _ _ ?_ (by first | (simp [Value.ownBlock]; done) | (simp [Value.ownBlock]; omega)); repeat (first | with_reducible exact HB0.out | with_reducible refine Blk.drew ?_ | with_reducible refine Blk.alloc ?_ _)); have G1 : Below w0.heap.size w0 w1 := (by refine Below.grown ?_ hg1 (by first | omega | (simp; done) | (simp; omega)) (by first | (simp [Value.ownBlock]; done) | (simp [Value.ownBlock]; omega)); repeat (first | with_reducible exact Below.refl _ _ | with_reducible refine Below.drew ?_ | with_reducible refine Below.alloc ?_ (by simp) _)); have hs1 := G1.size; refine (show Hid (Blk w1 (w0.heap.size + 1) 24 #[.int .i64 0, .int .i64 0, .int .i64 0, .int .i64 0, .int .i64 0, .int .i64 0, .int .i64 0, .slice none 0 0]) → _ from fun HI1 => ?_) ?_; rotate_left; (refine hk1 _ _ _ ?_ ?_); (repeat (first | with_reducible exact Blk.new' _ _ _ _ (by simp) | with_reducible refine Blk.drew ?_ | with_reducible refine Blk.alloc ?_ _)); (simp [Value.ownBlock] <;> omega); obtain ⟨z0, z1, z2, z3, z4, z5, z6, z7⟩ := blk8 HI1.out; have f0 := Blk.frozen HI1.out 0; have f1 := Blk.frozen HI1.out 1; have f2 := Blk.frozen HI1.out 2; have f3 := Blk.frozen HI1.out 3; have f4 := Blk.frozen HI1.out 4; have f5 := Blk.frozen HI1.out 5; have f6 := Blk.frozen HI1.out 6; have f7 := Blk.frozen HI1.out 7))
        | ((refine step_append_any _ (by rfl) (.tmp 18) (.tmp 20) _ (by rfl) w0.heap.size 3 i0 _ 1 8 Try.underlying22 hi hz0 hz1 hz2 (by rfl) (by omega) (.slice (some ⟨w0.heap.size + 1, 0, none⟩) 0 0) 0 [] (by rfl) ?_ w.heap.size A n c (ints vs) (by rfl) ?_ (ints_one vs) ?_ ?_ ?_ ?_; (refine own_none ?_ ?_; (repeat (first | with_reducible exact Blk.new' _ _ _ _ (by simp) | with_reducible refine Blk.drew ?_ | with_reducible refine Blk.alloc ?_ _)); (first | exact Nat.le_refl _ | omega)); (repeat (first | with_reducible exact V0 | with_reducible refine Reads.drew ?_ | (with_reducible refine Reads.alloc ?_ (by first | omega | (simp; done) | (simp; omega)) _))); (unfold maxLen; omega); omega; (simp <;> omega); intro v1 w1 hown1 hg1 hat1; obtain ⟨A1, c1, hv1, R1, _⟩ := own_val hown1; simp only [Nat.zero_add, List.nil_append] at hown1 hv1 R1; rw [hv1] at hown1 ⊢; clear hv1; have hk1 := (fun (g : Nat) (t : TypeId) (cs : Array Value) (hb : Blk _ g t cs) (hne : some g ≠ _) => Blk.grown hb hg1 hne); have HB1 : Hid (Blk w1 w.heap.size 24 #[.int .i64 nd, .int .i64 wn, .int .i64 bs, .int .i64 st, .int .i64 cp, .int .i64 rm, .int .i64 fl, .slice A n c]) := (by refine hk1 _ _ _ ?_ (by first | (simp [Value.ownBlock]; done) | (simp [Value.ownBlock]; omega)); repeat (first | with_reducible exact HB0.out | with_reducible refine Blk.drew ?_ | with_reducible refine Blk.alloc ?_ _)); have G1 : Below w0.heap.size w0 w1 := (by refine Below.grown ?_ hg1 (by first | omega | (simp; done) | (simp; omega)) (by first | (simp [Value.ownBlock]; done) | (simp [Value.ownBlock]; omega)); repeat (first | with_reducible exact Below.refl _ _ | with_reducible refine Below.drew ?_ | with_reducible refine Below.alloc ?_ (by simp) _)); have hs1 := G1.size; refine (show Hid (Blk w1 (w0.heap.size) 24 #[.int .i64 0, .int .i64 0, .int .i64 0, .int .i64 0, .int .i64 0, .int .i64 0, .int .i64 0, .slice none 0 0]) → _ from fun HI1 => ?_) ?_; rotate_left; (refine hk1 _ _ _ ?_ ?_); (repeat (first | with_reducible exact Blk.new' _ _ _ _ (by simp) | with_reducible refine Blk.drew ?_ | with_reducible refine Blk.alloc ?_ _)); (simp [Value.ownBlock] <;> omega); obtain ⟨z0, z1, z2, z3, z4, z5, z6, z7⟩ := blk8 HI1.out; have f0 := Blk.frozen HI1.out 0; have f1 := Blk.frozen HI1.out 1; have f2 := Blk.frozen HI1.out 2; have f3 := Blk.frozen HI1.out 3; have f4 := Blk.frozen HI1.out 4; have f5 := Blk.frozen HI1.out 5; have f6 := Blk.frozen HI1.out 6; have f7 := Blk.frozen HI1.out 7))
        | ((refine step_append_any _ (by rfl) (.tmp 18) (.tmp 20) _ (by rfl) w0.heap.size 3 i0 _ 1 8 Try.underlying22 hi hz0 hz1 hz2 (by rfl) (by omega) (.slice (some ⟨w0.heap.size, 0, none⟩) 0 0) 0 [] (by rfl) ?_ w.heap.size A n c (ints vs) (by rfl) ?_ (ints_one vs) ?_ ?_ ?_ ?_; (refine own_none ?_ ?_; (repeat (first | with_reducible exact Blk.new' _ _ _ _ (by simp) | with_reducible refine Blk.drew ?_ | with_reducible refine Blk.alloc ?_ _)); (first | exact Nat.le_refl _ | omega)); (repeat (first | with_reducible exact V0 | with_reducible refine Reads.drew ?_ | (with_reducible refine Reads.alloc ?_ (by first | omega | (simp; done) | (simp; omega)) _))); (unfold maxLen; omega); omega; (simp <;> omega); intro v1 w1 hown1 hg1 hat1; obtain ⟨A1, c1, hv1, R1, _⟩ := own_val hown1; simp only [Nat.zero_add, List.nil_append] at hown1 hv1 R1; rw [hv1] at hown1 ⊢; clear hv1; have hk1 := (fun (g : Nat) (t : TypeId) (cs : Array Value) (hb : Blk _ g t cs) (hne : some g ≠ _) => Blk.grown hb hg1 hne); have HB1 : Hid (Blk w1 w.heap.size 24 #[.int .i64 nd, .int .i64 wn, .int .i64 bs, .int .i64 st, .int .i64 cp, .int .i64 rm, .int .i64 fl, .slice A n c]) := (by refine hk1 _ _ _ ?_ (by first | (simp [Value.ownBlock]; done) | (simp [Value.ownBlock]; omega)); repeat (first | with_reducible exact HB0.out | with_reducible refine Blk.drew ?_ | with_reducible refine Blk.alloc ?_ _)); have G1 : Below w0.heap.size w0 w1 := (by refine Below.grown ?_ hg1 (by first | omega | (simp; done) | (simp; omega)) (by first | (simp [Value.ownBlock]; done) | (simp [Value.ownBlock]; omega)); repeat (first | with_reducible exact Below.refl _ _ | with_reducible refine Below.drew ?_ | with_reducible refine Below.alloc ?_ (by simp) _)); have hs1 := G1.size)))
    · have O1 := hide hown1
      have HH := hide (H0.trans (G1.mono hs0))
      have R1 := hide R1
      clear hown1 hk1 G1 hg1 hat1
      go_wp2_with fail
      go_meet
      refine ⟨_, A1, c1, rfl, ?_, ?_, ?_, ?_⟩
      · repeat (first | with_reducible exact Blk.new' _ _ _ _ (by simp) | with_reducible refine Blk.drew ?_)
      · repeat (first | with_reducible exact HB1.out | with_reducible refine Blk.drew ?_ | with_reducible refine Blk.alloc ?_ _)
      · exact Reads.of_own (O1.out.alloc _)
      · repeat (first | with_reducible exact HH.out | with_reducible refine Below.drew ?_ | with_reducible refine Below.alloc ?_ (by omega) _)
    · have O1 := hide hown1
      have HH := hide (H0.trans (G1.mono hs0))
      clear hown1 R1 hk1 G1 hg1 hat1
      go_wp2_with fail
      go_meet
      refine ⟨w0.heap.size + 1, A1, c1, rfl, b8_7 (b8_6 (b8_5 (b8_4 (b8_3 (b8_2 (b8_1 (b8_0 HI1.out))))))), ?_, ?_, ?_⟩
      · repeat (first | with_reducible exact HB1.out | (with_reducible refine Blk.far ?_ ?_ _; rotate_left; (simp <;> omega)))
      · refine Reads.of_own (own_apart (F := fun k => k = w0.heap.size + 1) O1.out ?_ (apart_one HI1.out (by decide)))
        repeat (first | with_reducible exact Only.refl _ _ | with_reducible refine Only.set1 ?_ _ _)
      · repeat (first | with_reducible exact HH.out | (with_reducible refine Below.setCell ?_ ?_ _; rotate_left; (show w.heap.size ≤ w0.heap.size + 1; omega)))
    · have O1 := hide hown1
      have HH := hide (H0.trans (G1.mono hs0))
      clear hown1 R1 hk1 G1 hg1 hat1
      go_wp2_with fail
      go_meet
      refine ⟨w0.heap.size, A1, c1, rfl, b8_7 (b8_6 (b8_5 (b8_4 (b8_3 (b8_2 (b8_1 (b8_0 HI1.out))))))), ?_, ?_, ?_⟩
      · repeat (first | with_reducible exact HB1.out | (with_reducible refine Blk.far ?_ ?_ _; rotate_left; (simp <;> omega)))
      · refine Reads.of_own (own_apart (F := fun k => k = w0.heap.size) O1.out ?_ (apart_one HI1.out (by decide)))
        repeat (first | with_reducible exact Only.refl _ _ | with_reducible refine Only.set1 ?_ _ _)
      · repeat (first | with_reducible exact HH.out | (with_reducible refine Below.setCell ?_ ?_ _; rotate_left; (show w.heap.size ≤ w0.heap.size; omega)))
  case rest =>
    obtain ⟨g, A1, c1, rfl, Bg, Bx, R1, H1⟩ := hcut
    obtain ⟨k0, k1, k2, k3, k4, k5, k6, k7⟩ := blk8 Bx
    obtain ⟨l0, l1, l2, l3, l4, l5, l6, l7⟩ := blk8 Bg
    have hgl := Bg.lt
    have hxl := Bx.lt
    have V1 : RI wc wc.heap.size A n vs := (Reads.below h H1).more H1.size
    have HBg := hide Bg
    have HBx := hide Bx
    have hn' : n ≤ 17592186044416 := by omega
    clear Bg Bx HB0 V0 H0
    go_wp2
    go_region_held3 (fun W => (W.cell? ⟨g, 0, none⟩ = some (.int .i64 nd) ∧ W.cell? ⟨g, 1, none⟩ = some (.int .i64 wn) ∧ W.cell? ⟨g, 2, none⟩ = some (.int .i64 bs) ∧ W.cell? ⟨g, 3, none⟩ = some (.int .i64 st) ∧ W.cell? ⟨g, 4, none⟩ = some (.int .i64 cp) ∧ W.cell? ⟨g, 5, none⟩ = some (.int .i64 rm) ∧ W.cell? ⟨g, 6, none⟩ = some (.int .i64 fl) ∧ W.cell? ⟨g, 7, none⟩ = some (.slice A1 n c1)) ∧
        (W.cell? ⟨w.heap.size, 0, none⟩ = some (.int .i64 nd) ∧ W.cell? ⟨w.heap.size, 1, none⟩ = some (.int .i64 wn) ∧ W.cell? ⟨w.heap.size, 2, none⟩ = some (.int .i64 bs) ∧ W.cell? ⟨w.heap.size, 3, none⟩ = some (.int .i64 st) ∧ W.cell? ⟨w.heap.size, 4, none⟩ = some (.int .i64 cp) ∧ W.cell? ⟨w.heap.size, 5, none⟩ = some (.int .i64 rm) ∧ W.cell? ⟨w.heap.size, 6, none⟩ = some (.int .i64 fl) ∧ W.cell? ⟨w.heap.size, 7, none⟩ = some (.slice A n c)))
      ((refine ⟨blk8 (t := 24) ?_, blk8 (t := 24) ?_⟩ <;> (repeat (first | with_reducible exact HBg.out | with_reducible exact HBx.out | with_reducible refine Blk.drew ?_ | with_reducible refine Blk.alloc ?_ _))))
      (first
        | ((go_at_call 5; refine (check_any nd wn bs st cp rm fl vs A1 n c1 _ (Reads.drew R1) hn').mono ?_; rintro e w' ⟨rfl, rfl⟩; unfold cfgO))
        | ((go_at_call 4; refine (num_any _ _).mono ?_; rintro e w' ⟨rfl, rfl⟩))
        | ((go_at_call 6; refine (rcheck_any nd wn bs st cp rm fl vs A n c _ ((Reads.alloc (Reads.drew V1) (Nat.le_refl _) _).more (by simp)) hn').mono ?_; rintro e w' ⟨rfl, rfl⟩; unfold cfgO)))
    go_wp2
    go_ret
    refine ⟨rfl, ?_⟩
    repeat (first | with_reducible exact H1 | with_reducible refine Below.drew ?_ | (with_reducible refine Below.alloc ?_ ?_ _; rotate_left; (first | omega | (simp <;> omega))))
end Go.Proofs.Ytcpjohflaoiblaa
