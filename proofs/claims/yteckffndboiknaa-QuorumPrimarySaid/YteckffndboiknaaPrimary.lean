/-
  QuorumPrimary, the walk.
-/
import Derived.Test.YteckffndboiknaaLife
set_option linter.unusedVariables false
namespace Go.Proofs.Yteckffndboiknaa
open Go.RowKit Go.WideShapes Go.ChangeShapes Q

theorem reads_blk {w : World} {g : Nat} {t : TypeId} {cs : Array Value} {n : Nat} {xs : List Value} (h : Blk w g t cs) (hn : cs.size = n) (hx : cs.toList = xs) : Reads w (g + 1) 1 (some ⟨g, 0, none⟩) n xs := by
  subst hn hx
  refine ⟨by simp, fun _ => ⟨_, rfl, Nat.lt_succ_self g, fun j u hu => ?_⟩⟩
  have ea : (⟨g, 0, none⟩ : Addr).add j = ⟨g, j, none⟩ := by
    unfold Addr.add
    split
    · rename_i h0; subst h0; rfl
    · simp
  rw [ea, h.cell]
  simpa using hu
theorem life_k (K : Nat) (A G M : Option Addr) (n c m d q r : Nat) (vs gs ns : List Int) (w : World) (h : RI w w.heap.size A n vs) (hg : RI w w.heap.size G m gs) (hns : RI w w.heap.size M q ns) (hok : Ok vs) (hm : m ≤ 17592186044416) (hq : q ≤ 17592186044416) (hK : min ns.length 40 = K) :
    Calls Try.prog 31 #[.slice A n c, .slice G m d, .slice M q r] w fun e w' => ∃ A c, e = .returned (.tuple #[.slice A (selTo vs ns K).length c, .bool true]) ∧ RI w' w'.heap.size A (selTo vs ns K).length (selTo vs ns K) ∧ Below w.heap.size w w' := by
  subst hK
  exact (life_any A G M n c m d q r vs gs ns w h hg hns hok hm hq).mono fun e w' ⟨A, c, he, hr, _, hb⟩ => ⟨A, c, he, hr, hb⟩
theorem ints_cons (x : Int) (l : List Int) : ints (x :: l) = .int .i64 x :: ints l := rfl

set_option maxRecDepth 100000 in
set_option maxHeartbeats 8000000 in
theorem primary_walk (A G M O : Option Addr) (n c m d q r u e : Nat) (vs gs ns os : List Int) (w : World) (h : RI w w.heap.size A n vs) (hg : RI w w.heap.size G m gs) (hns : RI w w.heap.size M q ns) (hos : RI w w.heap.size O u os) (hn : n ≤ 17592186044416) (hm : m ≤ 17592186044416) (hq : q * 8 ≤ 140737488351232) (hu : u * 8 ≤ 140737488351232) :
    Calls Try.prog 8 #[.agg #[.slice A n c, .slice G m d, .slice M q r, .slice O u e]] w fun e w' => e = .returned (.bool true) ∧ Below w.heap.size w w' := by
  obtain ⟨i0, hi, hz0, hz1, hz2⟩ := info_parts info3
  have hql := hns.len
  subst hql
  have hul := hos.len
  subst hul
  have H0 : Below w.heap.size w (w.alloc (.cells #[.slice A n c, .slice G m d, .slice M ns.length r, .slice O os.length e] 69)) := (Below.refl _ w).alloc (Nat.le_refl _) _
  have B0 : Blk (w.alloc (.cells #[.slice A n c, .slice G m d, .slice M ns.length r, .slice O os.length e] 69)) w.heap.size 69 #[.slice A n c, .slice G m d, .slice M ns.length r, .slice O os.length e] := Blk.new _ _ _
  go_enter Try.func8, Try.ntmps8
  go_wp2_with fail
  obtain ⟨w0, hw0⟩ : ∃ w0, w0 = w.alloc (.cells #[.slice A n c, .slice G m d, .slice M ns.length r, .slice O os.length e] 69) := ⟨_, rfl⟩
  rw [← hw0] at H0 B0 ⊢
  clear hw0
  have hs0 := H0.size
  refine (fit_any A n c vs w0 (Reads.more (Reads.below h H0) hs0) hn).mono ?_
  rintro e' w1 ⟨A1, k1, c1, fs, rfl, R1, hc1, hok, hb1⟩
  have hl1 := R1.len
  subst hl1
  have hs1 := hb1.size
  have B1 := B0.below hb1 B0.lt
  have H1 := H0.trans (hb1.mono hs0)
  have hbox : w.heap.size < w1.heap.size := B1.lt
  have h16 := hok.2.1
  have hf1 := hok.1
  have hal := allOf_lt fs.length h16
  clear H0 B0 hb1
  go_upto_region 3 with (fail)
  rw [allOf_wrap fs.length h16]
  obtain ⟨al, hAL⟩ : ∃ al : Nat, al = allOf fs.length := ⟨_, rfl⟩
  rw [← hAL] at hal ⊢
  have HAL := hide hAL
  clear hAL
  have HAW := hide (selTo_last (vs := fs) (ns := ns ++ [(al : Int)]) hok (k := ns.length) (by rw [nth_last, HAL.out]))
  have hs1' : w.heap.size ≤ w1.heap.size := by omega
  go_cut [5, 6] (fun a5 a6 wx => ∃ A c, a5 = .slice A (selTo fs (ns ++ [(al : Int)]) (min (ns.length + 1) 40)).length c ∧ a6 = .bool true ∧ RI wx wx.heap.size A (selTo fs (ns ++ [(al : Int)]) (min (ns.length + 1) 40)).length (selTo fs (ns ++ [(al : Int)]) (min (ns.length + 1) 40)) ∧ Below w1.heap.size w1 wx)
  case first =>
    obtain ⟨k0, k1, k2, k3⟩ := blk4 B1
    have HB1 := hide B1
    have RG : RI w1 w1.heap.size G m gs := (Reads.below hg H1).more (by omega)
    have RN : Reads w1 w1.heap.size 1 M ns.length (ints ns) := (Reads.below hns H1).more (by omega)
    go_region_held3 (fun W => W.cell? ⟨w.heap.size, 0, none⟩ = some (.slice A n c) ∧ W.cell? ⟨w.heap.size, 1, none⟩ = some (.slice G m d) ∧ W.cell? ⟨w.heap.size, 2, none⟩ = some (.slice M ns.length r) ∧ W.cell? ⟨w.heap.size, 3, none⟩ = some (.slice O os.length e))
      ((refine blk4 (t := 69) ?_; repeat (first | with_reducible exact HB5.out | with_reducible exact HB3.out | with_reducible exact HB2.out | with_reducible exact HB1.out | with_reducible refine Blk.drew ?_ | with_reducible refine Blk.alloc ?_ _)))
      (first
        | ((refine step_append_any _ (by rfl) (.tmp 23) (.tmp 25) _ (by rfl) w1.heap.size 3 i0 _ 1 8 Try.underlying32 hi hz0 hz1 hz2 (by rfl) (by omega) (.slice (some ⟨w1.heap.size, 0, none⟩) 0 0) 0 [] (by rfl) ?_ w1.heap.size M ns.length r (ints ns) (by rfl) ?_ (ints_one' ns) ?_ ?_ ?_ ?_; (refine own_none ?_ ?_; (repeat (first | with_reducible exact Blk.new' _ _ _ _ (by simp) | with_reducible refine Blk.drew ?_ | with_reducible refine Blk.alloc ?_ _)); (first | exact Nat.le_refl _ | omega)); (repeat (first | with_reducible exact RN | with_reducible refine Reads.drew ?_ | (with_reducible refine Reads.alloc ?_ (by simp <;> omega) _))); (unfold maxLen; omega); omega; (simp <;> omega); intro v2 w2 hown2 hg2 hat2; obtain ⟨A2, c2, hv2, _, _⟩ := own_val hown2; simp only [Nat.zero_add, List.nil_append] at hown2 hv2; rw [hv2] at hown2 ⊢; clear hv2; have hk2 := (fun (g : Nat) (t : TypeId) (cs : Array Value) (hb : Blk _ g t cs) (hne : some g ≠ _) => Blk.grown hb hg2 hne); have HB2 : Hid (Blk w2 w.heap.size 69 #[.slice A n c, .slice G m d, .slice M ns.length r, .slice O os.length e]) := (by refine hk2 _ _ _ ?_ (by simp [Value.ownBlock]; omega); repeat (first | with_reducible exact HB1.out | with_reducible refine Blk.drew ?_ | with_reducible refine Blk.alloc ?_ _)); have G2 : Below w1.heap.size w1 w2 := (by refine Below.grown ?_ hg2 (by simp <;> omega) (by simp [Value.ownBlock] <;> omega); repeat (first | with_reducible exact Below.refl _ _ | with_reducible refine Below.drew ?_ | with_reducible refine Below.alloc ?_ (by simp) _))))
        | ((refine step_append_any _ (by rfl) (.tmp 23) (.tmp 25) _ (by rfl) w1.heap.size 3 i0 _ 1 8 Try.underlying32 hi hz0 hz1 hz2 (by rfl) (by omega) (.slice (some ⟨w1.heap.size + 1, 0, none⟩) 0 0) 0 [] (by rfl) ?_ w1.heap.size M ns.length r (ints ns) (by rfl) ?_ (ints_one' ns) ?_ ?_ ?_ ?_; (refine own_none ?_ ?_; (repeat (first | with_reducible exact Blk.new' _ _ _ _ (by simp) | with_reducible refine Blk.drew ?_ | with_reducible refine Blk.alloc ?_ _)); (first | exact Nat.le_refl _ | omega)); (repeat (first | with_reducible exact RN | with_reducible refine Reads.drew ?_ | (with_reducible refine Reads.alloc ?_ (by simp <;> omega) _))); (unfold maxLen; omega); omega; (simp <;> omega); intro v2 w2 hown2 hg2 hat2; obtain ⟨A2, c2, hv2, _, _⟩ := own_val hown2; simp only [Nat.zero_add, List.nil_append] at hown2 hv2; rw [hv2] at hown2 ⊢; clear hv2; have hk2 := (fun (g : Nat) (t : TypeId) (cs : Array Value) (hb : Blk _ g t cs) (hne : some g ≠ _) => Blk.grown hb hg2 hne); have HB2 : Hid (Blk w2 w.heap.size 69 #[.slice A n c, .slice G m d, .slice M ns.length r, .slice O os.length e]) := (by refine hk2 _ _ _ ?_ (by simp [Value.ownBlock]; omega); repeat (first | with_reducible exact HB1.out | with_reducible refine Blk.drew ?_ | with_reducible refine Blk.alloc ?_ _)); have G2 : Below w1.heap.size w1 w2 := (by refine Below.grown ?_ hg2 (by simp <;> omega) (by simp [Value.ownBlock] <;> omega); repeat (first | with_reducible exact Below.refl _ _ | with_reducible refine Below.drew ?_ | with_reducible refine Below.alloc ?_ (by simp) _))))
        | ((refine step_append_any _ (by rfl) (.tmp 26) (.tmp 28) _ (by rfl) w1.heap.size 3 i0 _ 1 8 Try.underlying32 hi hz0 hz1 hz2 (by rfl) (by omega) (.slice A2 ns.length c2) ns.length (ints ns) (by rfl) ?_ (w2.heap.size + 1) (some ⟨w2.heap.size, 0, none⟩) 1 1 (ints [(al : Int)]) (by rfl) ?_ (ints_one' _) ?_ ?_ ?_ ?_; (first | exact hown2 | exact hown2.alloc _); (refine reads_blk (t := 3) (cs := #[.int .i64 al]) ?_ rfl rfl; (repeat (first | with_reducible exact Blk.new' _ _ _ _ (by simp) | with_reducible refine Blk.drew ?_ | with_reducible refine Blk.alloc ?_ _ | refine hk2 _ _ _ ?_ (by simp [Value.ownBlock])))); (unfold maxLen; omega); omega; (have := G2.size; (simp <;> omega)); intro v4 w4 hown4 hg4 hat4; obtain ⟨A4, c4, hv4, R4, hc4⟩ := own_val hown4; rw [hv4]; clear hv4; have HB3 : Hid (Blk w4 w.heap.size 69 #[.slice A n c, .slice G m d, .slice M ns.length r, .slice O os.length e]) := (by refine Blk.grown ?_ hg4 (own_blk_ne hown2 HB2.out (by decide)).symm; repeat (first | with_reducible exact HB2.out | with_reducible refine Blk.drew ?_ | with_reducible refine Blk.alloc ?_ _)); have G4 : Below w1.heap.size w1 w4 := (by refine Below.grown ?_ hg4 (by have := G2.size; simp <;> omega) (fun k hk => (hown2.lt k hk).1); repeat (first | with_reducible exact G2 | with_reducible refine Below.drew ?_ | with_reducible refine Below.alloc ?_ (by have := G2.size; simp <;> omega) _))))
        | ((refine step_append_any _ (by rfl) (.tmp 26) (.tmp 28) _ (by rfl) w1.heap.size 3 i0 _ 1 8 Try.underlying32 hi hz0 hz1 hz2 (by rfl) (by omega) (.slice A2 ns.length c2) ns.length (ints ns) (by rfl) ?_ (w1.heap.size + 1 + 1) (some ⟨w1.heap.size + 1, 0, none⟩) 1 1 (ints [(al : Int)]) (by rfl) ?_ (ints_one' _) ?_ ?_ ?_ ?_; (first | exact hown2 | exact hown2.alloc _); (refine reads_blk (t := 3) (cs := #[.int .i64 al]) ?_ rfl rfl; (repeat (first | with_reducible exact Blk.new' _ _ _ _ (by simp) | with_reducible refine Blk.drew ?_ | with_reducible refine Blk.alloc ?_ _ | refine hk2 _ _ _ ?_ (by simp [Value.ownBlock])))); (unfold maxLen; omega); omega; (have := G2.size; (simp <;> omega)); intro v4 w4 hown4 hg4 hat4; obtain ⟨A4, c4, hv4, R4, hc4⟩ := own_val hown4; rw [hv4]; clear hv4; have HB3 : Hid (Blk w4 w.heap.size 69 #[.slice A n c, .slice G m d, .slice M ns.length r, .slice O os.length e]) := (by refine Blk.grown ?_ hg4 (own_blk_ne hown2 HB2.out (by decide)).symm; repeat (first | with_reducible exact HB2.out | with_reducible refine Blk.drew ?_ | with_reducible refine Blk.alloc ?_ _)); have G4 : Below w1.heap.size w1 w4 := (by refine Below.grown ?_ hg4 (by have := G2.size; simp <;> omega) (fun k hk => (hown2.lt k hk).1); repeat (first | with_reducible exact G2 | with_reducible refine Below.drew ?_ | with_reducible refine Below.alloc ?_ (by have := G2.size; simp <;> omega) _))))
        | ((refine step_append_any _ (by rfl) (.tmp 26) (.tmp 28) _ (by rfl) w1.heap.size 3 i0 _ 1 8 Try.underlying32 hi hz0 hz1 hz2 (by rfl) (by omega) (.slice A2 ns.length c2) ns.length (ints ns) (by rfl) ?_ (w1.heap.size + 1) (some ⟨w1.heap.size, 0, none⟩) 1 1 (ints [(al : Int)]) (by rfl) ?_ (ints_one' _) ?_ ?_ ?_ ?_; (first | exact hown2 | exact hown2.alloc _); (refine reads_blk (t := 3) (cs := #[.int .i64 al]) ?_ rfl rfl; (repeat (first | with_reducible exact Blk.new' _ _ _ _ (by simp) | with_reducible refine Blk.drew ?_ | with_reducible refine Blk.alloc ?_ _ | refine hk2 _ _ _ ?_ (by simp [Value.ownBlock])))); (unfold maxLen; omega); omega; (have := G2.size; (simp <;> omega)); intro v4 w4 hown4 hg4 hat4; obtain ⟨A4, c4, hv4, R4, hc4⟩ := own_val hown4; rw [hv4]; clear hv4; have HB3 : Hid (Blk w4 w.heap.size 69 #[.slice A n c, .slice G m d, .slice M ns.length r, .slice O os.length e]) := (by refine Blk.grown ?_ hg4 (own_blk_ne hown2 HB2.out (by decide)).symm; repeat (first | with_reducible exact HB2.out | with_reducible refine Blk.drew ?_ | with_reducible refine Blk.alloc ?_ _)); have G4 : Below w1.heap.size w1 w4 := (by refine Below.grown ?_ hg4 (by have := G2.size; simp <;> omega) (fun k hk => (hown2.lt k hk).1); repeat (first | with_reducible exact G2 | with_reducible refine Below.drew ?_ | with_reducible refine Below.alloc ?_ (by have := G2.size; simp <;> omega) _))))
        | ((go_at_call 31; refine (life_k (min (ns.length + 1) 40) A1 G A4 fs.length c1 m d (ns.length + 1) c4 fs gs (ns ++ [(al : Int)]) _ ((Reads.below R1 G4).more G4.size) ((Reads.below RG G4).more G4.size) (by rw [← ints_append] at R4; exact R4) hok hm (by omega) (by simp)).mono ?_; rintro e5 w5 ⟨A5, c5, rfl, R5, hb5⟩; have HB5 := hide (Blk.below HB3.out hb5 (Blk.lt HB3.out)))))
    all_goals
      have hout := hide (G4.trans (hb5.mono G4.size))
      clear hb5 G4 G2 hg2 hg4 hat2 hat4 hk2
      go_wp2_with fail
      go_meet
      exact ⟨A5, c5, rfl, rfl, R5, hout.out⟩
  case rest =>
    obtain ⟨A5, c5, rfl, rfl, R5, hb5⟩ := hcut
    have hs5 := hb5.size
    have B5 := B1.below hb5 B1.lt
    have H5 := H1.trans (hb5.mono hs1')
    have R1' := (Reads.below R1 hb5).more hs5
    have RG : RI wc wc.heap.size G m gs := (Reads.below hg H5).more H5.size
    have RO : Reads wc wc.heap.size 1 O os.length (ints os) := (Reads.below hos H5).more H5.size
    clear B1 H1 R1 hb5
    obtain ⟨k0, k1, k2, k3⟩ := blk4 B5
    have HB5 := hide B5
    have hbx5 := B5.lt
    go_upto_region 4 with (fail)
    go_cut [7, 8] (fun a7 a8 wx => ∃ A c, a7 = .slice A (selTo fs ((al : Int) :: os) (min (os.length + 1) 40)).length c ∧ a8 = .bool true ∧ RI wx wx.heap.size A (selTo fs ((al : Int) :: os) (min (os.length + 1) 40)).length (selTo fs ((al : Int) :: os) (min (os.length + 1) 40)) ∧ Below wc.heap.size wc wx)
    case first =>
      go_region_held3 (fun W => W.cell? ⟨w.heap.size, 0, none⟩ = some (.slice A n c) ∧ W.cell? ⟨w.heap.size, 1, none⟩ = some (.slice G m d) ∧ W.cell? ⟨w.heap.size, 2, none⟩ = some (.slice M ns.length r) ∧ W.cell? ⟨w.heap.size, 3, none⟩ = some (.slice O os.length e))
        ((refine blk4 (t := 69) ?_; repeat (first | with_reducible exact HB7.out | with_reducible exact HB6.out | with_reducible exact HB5.out | with_reducible refine Blk.drew ?_ | with_reducible refine Blk.alloc ?_ _)))
        (first
          | ((refine step_append_any _ (by rfl) (.tmp 38) (.tmp 40) _ (by rfl) wc.heap.size 3 i0 _ 1 8 Try.underlying32 hi hz0 hz1 hz2 (by rfl) (by omega) (.slice (some ⟨wc.heap.size, 0, none⟩) 1 1) 1 (ints [(al : Int)]) (by rfl) ?_ wc.heap.size O os.length e (ints os) (by rfl) ?_ (ints_one' os) ?_ ?_ ?_ ?_; exact own_of_alloc wc 3 (ints [(al : Int)]) 1 rfl (by unfold maxLen; omega); (repeat (first | with_reducible exact RO | with_reducible refine Reads.drew ?_ | (with_reducible refine Reads.alloc ?_ (by simp) _))); (unfold maxLen; omega); omega; (simp <;> omega); intro v6 w6 hown6 hg6 hat6; obtain ⟨A6, c6, hv6, R6, _⟩ := own_val hown6; rw [hv6]; clear hv6; have HB6 : Hid (Blk w6 w.heap.size 69 #[.slice A n c, .slice G m d, .slice M ns.length r, .slice O os.length e]) := (by refine Blk.grown ?_ hg6 (by simp [Value.ownBlock]; omega); repeat (first | with_reducible exact HB5.out | with_reducible refine Blk.drew ?_ | with_reducible refine Blk.alloc ?_ _)); have G6 : Below wc.heap.size wc w6 := (by refine Below.grown ?_ hg6 (by simp) (by simp [Value.ownBlock]); repeat (first | with_reducible exact Below.refl _ _ | with_reducible refine Below.drew ?_ | with_reducible refine Below.alloc ?_ (by simp) _))))
          | ((go_at_call 31; refine (life_k (min (os.length + 1) 40) A1 G A6 fs.length c1 m d (1 + os.length) c6 fs gs ((al : Int) :: os) _ ((Reads.below R1' G6).more G6.size) ((Reads.below RG G6).more G6.size) (by exact R6) hok hm (by omega) (by simp)).mono ?_; rintro e7 w7 ⟨A7, c7, rfl, R7, hb7⟩; have HB7 := hide (Blk.below HB6.out hb7 (Blk.lt HB6.out)))))
      have hout := hide (G6.trans (hb7.mono G6.size))
      go_wp2_with fail
      go_meet
      exact ⟨A7, c7, rfl, rfl, R7, hout.out⟩
    case rest =>
      obtain ⟨A7, c7, rfl, rfl, R7, hb7⟩ := hcut
      have B7 := B5.below hb7 B5.lt
      have H7 := hide (H5.trans (hb7.mono H5.size))
      have R5' : RI wc wc.heap.size A5 _ _ := (Reads.below R5 hb7).more hb7.size
      obtain ⟨a, ha⟩ : ∃ a, a = selTo fs (ns ++ [(al : Int)]) (min (ns.length + 1) 40) := ⟨_, rfl⟩
      obtain ⟨b, hb⟩ : ∃ b, b = selTo fs ((al : Int) :: os) (min (os.length + 1) 40) := ⟨_, rfl⟩
      rw [← ha] at R5'
      rw [← hb] at R7
      rw [← ha, ← hb]
      have ham : Hid (∀ x, x ∈ a → ∃ s : Nat, x = (s : Int) ∧ s < 2 ^ fs.length ∧ winsB fs s = true) := fun x hx => selTo_mem fs _ hok _ x (by rw [← ha]; exact hx)
      have hbm : Hid (∀ x, x ∈ b → ∃ s : Nat, x = (s : Int) ∧ s < 2 ^ fs.length ∧ winsB fs s = true) := fun x hx => selTo_mem fs _ hok _ x (by rw [← hb]; exact hx)
      have hal' : a.length ≤ 40 := by rw [ha]; have := selTo_len fs (ns ++ [(al : Int)]) (min (ns.length + 1) 40); omega
      have hbl' : b.length ≤ 40 := by rw [hb]; have := selTo_len fs ((al : Int) :: os) (min (os.length + 1) 40); omega
      have hb0 : 0 < b.length ∧ nth b 0 = (al : Int) := by
        obtain ⟨k, hk⟩ : ∃ k, min (os.length + 1) 40 = k + 1 := ⟨min (os.length + 1) 40 - 1, by omega⟩
        obtain ⟨l, hl⟩ := selTo_first (vs := fs) (ns := (al : Int) :: os) hok (by rw [nth_cons_zero, HAL.out]) k
        rw [hb, hk, hl, HAL.out]
        exact ⟨by simp, rfl⟩
      have haq : ns.length < 40 → ∃ q, a.length = q + 1 ∧ nth a q = (al : Int) := fun h40 => by
        have e : min (ns.length + 1) 40 = ns.length + 1 := by omega
        rw [e, HAW.out] at ha
        refine ⟨(selTo fs (ns ++ [(al : Int)]) ns.length).length, by rw [ha]; simp, ?_⟩
        rw [ha, nth_last, HAL.out]
      have HAQ := hide haq
      clear haq ha hb B5 H5 R5 hb7 hs5 R1' RG RO HB5 hbx5 k0 k1 k2 k3 HAW HAL hal
      obtain ⟨hb0, hb1⟩ := hb0
      obtain ⟨ab, rfl, hab, hcb⟩ := R7.at_ hb0
      rw [hb1] at hcb
      have hcb0 : wc.cell? ab = some (.int .i64 al) := by simpa [Addr.add] using hcb
      obtain ⟨k0, k1, k2, k3⟩ := blk4 B7
      have hbn : ¬ b = [] := by rintro rfl; simp at hb0
      have db : (((b.length : Nat) : Int) == 0) = false := by rw [beq_eq_false_iff_ne]; omega
      have HB1 := hide hb1
      clear hb1
      by_cases h40 : ns.length < 40
      · have d40 : decide ((ns.length : Int) < 40) = true := by rw [decide_eq_true_eq]; omega
        obtain ⟨q, hq, hlast⟩ := HAQ.out h40
        obtain ⟨aa, rfl, haa, hca⟩ := R5'.at_ (k := q) (by omega)
        rw [hlast] at hca
        have han : ¬ a = [] := by rintro rfl; simp at hq
        have da : (((a.length : Nat) : Int) == 0) = false := by rw [beq_eq_false_iff_ne]; omega
        have q0 : (0 : Int) ≤ (q : Int) := by omega
        have q1 : (q : Int) < ((a.length : Nat) : Int) := by omega
        have q2 : ((a.length : Nat) : Int) - 1 = (q : Int) := by omega
        clear h40 hq hlast
        skip
        go_wp2
        go_loopw [9] (fun iv wr => ∃ (i m : Nat), i ≤ a.length ∧ iv = .int .i64 i ∧ wr = wc.drewN m) (fun iv _ => a.length - (intOf iv).toNat)
        case atStart => exact ⟨0, 0, by omega, rfl, rfl⟩
        case round =>
          obtain ⟨i, m0, hia, rfl, rfl⟩ := hrel
          by_cases hi1 : i < a.length
          · obtain ⟨aa', haa', _, hci⟩ := R5'.at_ hi1
            obtain ⟨sa, hsa, hsa1, hsa2⟩ := ham.out (nth a i) (by rw [nth, List.getD, List.getElem?_eq_getElem hi1]; exact List.getElem_mem hi1)
            rw [hsa] at hci
            clear hsa
            obtain rfl : aa = aa' := by injection haa'
            clear haa'
            go_wp2
            go_loopw [10] (fun jv wq => ∃ (j m : Nat), j ≤ b.length ∧ jv = .int .i64 j ∧ wq = wc.drewN m) (fun jv _ => b.length - (intOf jv).toNat)
            case atStart => exact ⟨0, _, by omega, rfl, rfl⟩
            case round =>
              obtain ⟨j, m1, hjb, rfl, rfl⟩ := hrel
              by_cases hj1 : j < b.length
              · obtain ⟨bb', hbb', _, hcj⟩ := R7.at_ hj1
                obtain ⟨sb, hsb, hsb1, hsb2⟩ := hbm.out (nth b j) (by rw [nth, List.getD, List.getElem?_eq_getElem hj1]; exact List.getElem_mem hj1)
                rw [hsb] at hcj
                clear hsb
                obtain rfl : ab = bb' := by injection hbb'
                clear hbb'
                have h2p := two_pow_lt fs.length h16
                have hnz := wins_and hok hsa2 hsb2
                have hbits := i64_and_nat sa sb (by omega) (by omega)
                have hz : (((sa &&& sb : Nat) : Int) == 0) = false := by simpa using hnz
                have i0 : (0 : Int) ≤ (i : Nat) := by omega
                have i1 : ((i : Nat) : Int) < ((a.length : Nat) : Int) := by omega
                have j0 : (0 : Int) ≤ (j : Nat) := by omega
                have j1 : ((j : Nat) : Int) < ((b.length : Nat) : Int) := by omega
                clear hnz h2p hsa2 hsb2
                go_wp2
                go_quiet (fail)
                go_wp2
                go_roundw
                case rel => exact ⟨j + 1, _, by omega, by go_num, rfl⟩
                case measure => simp [intOf]; omega
              · obtain rfl : j = b.length := by omega
                go_wp2
                go_roundw
                case rel => exact ⟨i + 1, _, by omega, by go_num, rfl⟩
                case measure => simp [intOf]; omega
          · obtain rfl : i = a.length := by omega
            go_wp2
            go_ret
            exact ⟨rfl, below_drewN H7.out _⟩
      · have d40 : decide ((ns.length : Int) < 40) = false := by rw [decide_eq_false_iff_not]; omega
        clear h40
        go_wp2
        go_loopw [9] (fun iv wr => ∃ (i m : Nat), i ≤ a.length ∧ iv = .int .i64 i ∧ wr = wc.drewN m) (fun iv _ => a.length - (intOf iv).toNat)
        case atStart => exact ⟨0, 0, by omega, rfl, rfl⟩
        case round =>
          obtain ⟨i, m0, hia, rfl, rfl⟩ := hrel
          by_cases hi1 : i < a.length
          · obtain ⟨aa', haa', _, hci⟩ := R5'.at_ hi1
            obtain ⟨sa, hsa, hsa1, hsa2⟩ := ham.out (nth a i) (by rw [nth, List.getD, List.getElem?_eq_getElem hi1]; exact List.getElem_mem hi1)
            rw [hsa] at hci
            clear hsa
            subst haa'
            go_wp2
            go_loopw [10] (fun jv wq => ∃ (j m : Nat), j ≤ b.length ∧ jv = .int .i64 j ∧ wq = wc.drewN m) (fun jv _ => b.length - (intOf jv).toNat)
            case atStart => exact ⟨0, _, by omega, rfl, rfl⟩
            case round =>
              obtain ⟨j, m1, hjb, rfl, rfl⟩ := hrel
              by_cases hj1 : j < b.length
              · obtain ⟨bb', hbb', _, hcj⟩ := R7.at_ hj1
                obtain ⟨sb, hsb, hsb1, hsb2⟩ := hbm.out (nth b j) (by rw [nth, List.getD, List.getElem?_eq_getElem hj1]; exact List.getElem_mem hj1)
                rw [hsb] at hcj
                clear hsb
                obtain rfl : ab = bb' := by injection hbb'
                clear hbb'
                have h2p := two_pow_lt fs.length h16
                have hnz := wins_and hok hsa2 hsb2
                have hbits := i64_and_nat sa sb (by omega) (by omega)
                have hz : (((sa &&& sb : Nat) : Int) == 0) = false := by simpa using hnz
                have i0 : (0 : Int) ≤ (i : Nat) := by omega
                have i1 : ((i : Nat) : Int) < ((a.length : Nat) : Int) := by omega
                have j0 : (0 : Int) ≤ (j : Nat) := by omega
                have j1 : ((j : Nat) : Int) < ((b.length : Nat) : Int) := by omega
                clear hnz h2p hsa2 hsb2
                go_wp2
                go_quiet (fail)
                go_wp2
                go_roundw
                case rel => exact ⟨j + 1, _, by omega, by go_num, rfl⟩
                case measure => simp [intOf]; omega
              · obtain rfl : j = b.length := by omega
                go_wp2
                go_roundw
                case rel => exact ⟨i + 1, _, by omega, by go_num, rfl⟩
                case measure => simp [intOf]; omega
          · obtain rfl : i = a.length := by omega
            go_wp2
            go_ret
            exact ⟨rfl, below_drewN H7.out _⟩
end Go.Proofs.Yteckffndboiknaa
