/-
  The reference's SameScript: two scripts that say the same.
-/
import Derived.StillTailTactics
import Derived.Test.YtcibcmfaebbhnaaDoorZSev
set_option linter.unusedVariables false
set_option linter.unusedSimpArgs false
namespace Go.Proofs.YtcibcmfaebbhnaaDoor
open Go.RowKit Go.WideShapes Go.ChangeShapes Q
theorem emCells_at : ∀ (l : List Em) (k : Nat) (i : Nat) (m : Em), l[k]? = some m → i < 13 → (emCells l)[k * 13 + i]? = m.cs[i]?
  | [], k, i, m, h, hi => by simp at h
  | a :: l, 0, i, m, h, hi => by
    have ha : a.cs.toList.length = 13 := by rw [Array.length_toList, em_size]
    obtain rfl : a = m := by simpa using h
    rw [show 0 * 13 + i = i by omega]
    show (a.cs.toList ++ emCells l)[i]? = _
    rw [List.getElem?_append_left (by omega), Array.getElem?_toList]
  | a :: l, k + 1, i, m, h, hi => by
    have ha : a.cs.toList.length = 13 := by rw [Array.length_toList, em_size]
    show (a.cs.toList ++ emCells l)[(k + 1) * 13 + i]? = _
    rw [List.getElem?_append_right (by omega), ha, show (k + 1) * 13 + i - 13 = k * 13 + i by omega]
    exact emCells_at l k i m (by simpa using h) hi
theorem ems_at {w : World} {B n k : Nat} {A : Option Addr} {l : List Em} (h : Reads w B 13 A n (emCells l)) (hn : l.length = n) (hk : k < n) :
    ∃ b off m, A = some ⟨b, off, none⟩ ∧ b < B ∧ l[k]? = some m ∧ ∀ j v, m.cs[j]? = some v → w.cell? ((⟨b, off + k * 13, none⟩ : Addr).add j) = some v := by
  obtain ⟨ad, e, hb, hc⟩ := h.2 (by omega)
  have hm : l[k]? = some (l[k]'(by omega)) := List.getElem?_eq_getElem _
  obtain ⟨b, off, spot⟩ := ad
  have hm0 : l[0]? = some (l[0]'(by omega)) := List.getElem?_eq_getElem _
  have h0 := emCells_at l 0 0 _ hm0 (by omega)
  have hs : spot = none := by
    have hz : (emCells l)[0]? = some ((l[0]'(by omega)).cs[0]'(by rw [em_size]; omega)) := by rw [Nat.zero_mul] at h0; rw [h0]; rfl
    have := World.cell?_spot (hc _ _ hz)
    simpa [Addr.add] using this
  subst hs
  refine ⟨b, off, _, e, hb, hm, fun j v hv => ?_⟩
  have hj : j < 13 := by have := (Array.getElem?_eq_some_iff.1 hv).1; rw [em_size] at this; exact this
  have h1 := emCells_at l k j _ hm hj
  have h3 := hc _ _ (h1.trans hv)
  rw [← h3]
  congr 1
  unfold Addr.add
  split
  · rename_i hz; subst hz; split
    · rename_i h0; simp [h0]
    · simp
  · split
    · omega
    · simp; omega
theorem EmIn.more {w : World} {B B' : Nat} {m : Em} (h : EmIn w B m) (hB : B ≤ B') : EmIn w B' m := ⟨Reads.more h.sid hB, Reads.more h.body hB, h.hs, h.hb⟩
theorem EmIn.drew {w : World} {B : Nat} {m : Em} (h : EmIn w B m) : EmIn w.drew B m := ⟨Reads.drew h.sid, Reads.drew h.body, h.hs, h.hb⟩
set_option maxRecDepth 100000 in
set_option maxHeartbeats 4000000 in
theorem same_at9 (nd wn bs st cp rm fl : Int) (vs : List Int) (A A' Ae Ae' : Option Addr) (k k' ke ke' : Nat) (ms ms' : List Em) (w : World) (h : SmIn w w.heap.size ⟨⟨nd, wn, bs, st, cp, rm, fl, vs⟩, A, k, Ae, ke, ms⟩) (h' : SmIn w w.heap.size ⟨⟨nd, wn, bs, st, cp, rm, fl, vs⟩, A', k', Ae', ke', ms'⟩) (he : ms.map Em.ev = ms'.map Em.ev) :
    Calls Tryd.prog 18 #[.agg (Sm.cs ⟨⟨nd, wn, bs, st, cp, rm, fl, vs⟩, A, k, Ae, ke, ms⟩), .agg (Sm.cs ⟨⟨nd, wn, bs, st, cp, rm, fl, vs⟩, A', k', Ae', ke', ms'⟩)] w fun e w' => e = .returned (.bool true) ∧ Below w.heap.size w w' := by
  have H := hide h
  have H' := hide h'
  have HE := hide he
  have hml : ms'.length = ms.length := by have := congrArg List.length he; simpa using this.symm
  obtain ⟨n, hn⟩ : ∃ n, n = ms.length := ⟨_, rfl⟩
  obtain ⟨vn, hvn⟩ : ∃ vn, vn = vs.length := ⟨_, rfl⟩
  have HN : Hid (ms.length = n ∧ ms'.length = n ∧ vs.length = vn) := ⟨hn.symm, by omega, hvn.symm⟩
  have hvb : vn ≤ 17592186044416 := by rw [hvn]; exact h.hv
  have hnb : n ≤ 17592186044416 := by rw [hn]; exact h.hn
  simp only [Sm.cs]
  rw [hml, ← hn, ← hvn]
  clear h h' he hml hn hvn
  go_enter Tryd.func18, Tryd.ntmps18
  go_upto_region 3 with fail
  generalize hW : World.alloc (World.alloc (World.alloc (World.alloc w _) _) _) _ = W
  have hb : Below w.heap.size w W := by
    rw [← hW]
    exact ((((Below.refl _ _).alloc (Nat.le_refl _) _).alloc (by simp) _).alloc (by simp; omega) _).alloc (by simp; omega) _
  have HB := hide hb
  have HX2 : Hid (Blk W w.heap.size 47 #[.int .i64 nd, .int .i64 wn, .int .i64 bs, .int .i64 st, .int .i64 cp, .int .i64 rm, .int .i64 fl, .slice A vn k, .slice Ae n ke]) := by
    show Blk _ _ _ _
    rw [← hW]
    exact (((Blk.new _ _ _).alloc _).alloc _).alloc _
  have HX3 : Hid (Blk W (w.heap.size + 1) 47 #[.int .i64 nd, .int .i64 wn, .int .i64 bs, .int .i64 st, .int .i64 cp, .int .i64 rm, .int .i64 fl, .slice A' vn k', .slice Ae' n ke']) := by
    show Blk _ _ _ _
    rw [← hW]
    exact ((Blk.new' _ _ _ _ (by simp)).alloc _).alloc _
  have HX5 : Hid (Blk W (w.heap.size + 2) 44 #[.int .i64 nd, .int .i64 wn, .int .i64 bs, .int .i64 st, .int .i64 cp, .int .i64 rm, .int .i64 fl, .slice A vn k]) := by
    show Blk _ _ _ _
    rw [← hW]
    exact (Blk.new' _ _ _ _ (by simp)).alloc _
  have HX6 : Hid (Blk W (w.heap.size + 3) 44 #[.int .i64 nd, .int .i64 wn, .int .i64 bs, .int .i64 st, .int .i64 cp, .int .i64 rm, .int .i64 fl, .slice A' vn k']) := by
    show Blk _ _ _ _
    rw [← hW]
    exact Blk.new' _ _ _ _ (by simp)
  clear hW hb
  have k0 : W.cell? ⟨w.heap.size + 2, 0, none⟩ = some (.int .i64 nd) := HX5.out.cell 0
  have k1 : W.cell? ⟨w.heap.size + 2, 1, none⟩ = some (.int .i64 wn) := HX5.out.cell 1
  have k2 : W.cell? ⟨w.heap.size + 2, 2, none⟩ = some (.int .i64 bs) := HX5.out.cell 2
  have k3 : W.cell? ⟨w.heap.size + 2, 3, none⟩ = some (.int .i64 st) := HX5.out.cell 3
  have k4 : W.cell? ⟨w.heap.size + 2, 4, none⟩ = some (.int .i64 cp) := HX5.out.cell 4
  have k5 : W.cell? ⟨w.heap.size + 2, 5, none⟩ = some (.int .i64 rm) := HX5.out.cell 5
  have k6 : W.cell? ⟨w.heap.size + 2, 6, none⟩ = some (.int .i64 fl) := HX5.out.cell 6
  have k7 : W.cell? ⟨w.heap.size + 2, 7, none⟩ = some (.slice A vn k) := HX5.out.cell 7
  have l0 : W.cell? ⟨w.heap.size + 3, 0, none⟩ = some (.int .i64 nd) := HX6.out.cell 0
  have l1 : W.cell? ⟨w.heap.size + 3, 1, none⟩ = some (.int .i64 wn) := HX6.out.cell 1
  have l2 : W.cell? ⟨w.heap.size + 3, 2, none⟩ = some (.int .i64 bs) := HX6.out.cell 2
  have l3 : W.cell? ⟨w.heap.size + 3, 3, none⟩ = some (.int .i64 st) := HX6.out.cell 3
  have l4 : W.cell? ⟨w.heap.size + 3, 4, none⟩ = some (.int .i64 cp) := HX6.out.cell 4
  have l5 : W.cell? ⟨w.heap.size + 3, 5, none⟩ = some (.int .i64 rm) := HX6.out.cell 5
  have l6 : W.cell? ⟨w.heap.size + 3, 6, none⟩ = some (.int .i64 fl) := HX6.out.cell 6
  have l7 : W.cell? ⟨w.heap.size + 3, 7, none⟩ = some (.slice A' vn k') := HX6.out.cell 7
  have m8 : W.cell? ⟨w.heap.size, 8, none⟩ = some (.slice Ae n ke) := HX2.out.cell 8
  have m9 : W.cell? ⟨w.heap.size + 1, 8, none⟩ = some (.slice Ae' n ke') := HX3.out.cell 8
  go_upto_region 8 with fail
  clear k0 k1 k2 k3 k4 k5 k6 k7 l0 l1 l2 l3 l4 l5 l6 l7 m8 m9
  go_loopw [7] (fun i wr => ∃ j q : Nat, j ≤ vn ∧ i = .int .i64 j ∧ wr = W.drewN q) (fun i _ => vn - (intOf i).toNat)
  case atStart => exact ⟨0, 0, Nat.zero_le _, rfl, rfl⟩
  case round =>
    obtain ⟨j, q, hj, rfl, rfl⟩ := hrel
    have j0 : (0 : Int) ≤ (j : Int) := by omega
    have k7 : (W.drewN q).cell? ⟨w.heap.size + 2, 7, none⟩ = some (.slice A vn k) := HX5.out.cell 7
    have l7 : (W.drewN q).cell? ⟨w.heap.size + 3, 7, none⟩ = some (.slice A' vn k') := HX6.out.cell 7
    by_cases hlt : j < vn
    · have js : (j : Int) < (vn : Int) := by omega
      have hv : vs.length = vn := HN.out.2.2
      have r1 : RI W w.heap.size A vn vs := by have := Reads.below H.out.vot HB.out; rw [← hv]; exact this
      have r2 : RI W w.heap.size A' vn vs := by have := Reads.below H'.out.vot HB.out; rw [← hv]; exact this
      obtain ⟨ad, rfl, _, c1⟩ := r1.at_ hlt
      obtain ⟨ad', rfl, _, c2⟩ := r2.at_ hlt
      obtain ⟨x, hx⟩ : ∃ x, x = nth vs j := ⟨_, rfl⟩
      rw [← hx] at c1 c2
      clear r1 r2 hv hx
      have k7 : W.cell? ⟨w.heap.size + 2, 7, none⟩ = some (.slice (some ad) vn k) := k7
      have l7 : W.cell? ⟨w.heap.size + 3, 7, none⟩ = some (.slice (some ad') vn k') := l7
      go_wp2_with fail
      go_quiet (fail)
      go_wp2_with fail
      go_roundw
      case rel => exact ⟨j + 1, _, by omega, by go_num, rfl⟩
      case measure => simp [intOf]; omega
    · have js : ¬ (j : Int) < (vn : Int) := by omega
      clear hlt
      go_upto_region 13 with fail
      obtain ⟨W2, hW2⟩ : ∃ W2, W2 = W.drewN q := ⟨_, rfl⟩
      have hb2 : Below w.heap.size w W2 := by rw [hW2]; exact below_drewN HB.out q
      have HB2 := hide hb2
      have HY2 : Hid (Blk W2 w.heap.size 47 #[.int .i64 nd, .int .i64 wn, .int .i64 bs, .int .i64 st, .int .i64 cp, .int .i64 rm, .int .i64 fl, .slice A vn k, .slice Ae n ke]) := by show Blk _ _ _ _; rw [hW2]; exact HX2.out
      have HY3 : Hid (Blk W2 (w.heap.size + 1) 47 #[.int .i64 nd, .int .i64 wn, .int .i64 bs, .int .i64 st, .int .i64 cp, .int .i64 rm, .int .i64 fl, .slice A' vn k', .slice Ae' n ke']) := by show Blk _ _ _ _; rw [hW2]; exact HX3.out
      rw [← hW2]
      clear hW2 hb2 k7 l7 js HX2 HX3 HX5 HX6 HB
      have hs2 : w.heap.size + 1 < W2.heap.size := HY3.out.lt
      go_loopw [8] (fun i wr => ∃ j : Nat, j ≤ n ∧ i = .int .i64 j ∧ Hid (Below W2.heap.size W2 wr)) (fun i _ => n - (intOf i).toNat)
      case atStart => exact ⟨0, Nat.zero_le _, rfl, Below.refl _ _⟩
      case round =>
        obtain ⟨j, hj, rfl, hbr⟩ := hrel
        have j0 : (0 : Int) ≤ (j : Int) := by omega
        have HBW := hide (HB2.out.trans (hbr.out.mono HB2.out.size))
        have m8 : wr.cell? ⟨w.heap.size, 8, none⟩ = some (.slice Ae n ke) := (hbr.out.cell (p := ⟨w.heap.size, 8, none⟩) (by show w.heap.size < _; omega)).trans (HY2.out.cell 8)
        by_cases hlt : j < n
        · have js : (j : Int) < (n : Int) := by omega
          have m9 : wr.cell? ⟨w.heap.size + 1, 8, none⟩ = some (.slice Ae' n ke') := (hbr.out.cell (p := ⟨w.heap.size + 1, 8, none⟩) (by show w.heap.size + 1 < _; omega)).trans (HY3.out.cell 8)
          have hsr : w.heap.size ≤ wr.heap.size := HBW.out.size
          obtain ⟨b, off, m, rfl, _, hm, qc⟩ := ems_at (w := wr) (B := w.heap.size) (n := n) (k := j) (A := Ae) (l := ms) (by have := Reads.below H.out.row HBW.out; rw [HN.out.1] at this; exact this) HN.out.1 hlt
          obtain ⟨b', off', m', rfl, _, hm', rc⟩ := ems_at (w := wr) (B := w.heap.size) (n := n) (k := j) (A := Ae') (l := ms') (by have := Reads.below H'.out.row HBW.out; rw [HN.out.2.1] at this; exact this) HN.out.2.1 hlt
          have hev : m.ev = m'.ev := by
            have h1 := congrArg (fun l => l[j]?) HE.out
            simp only [List.getElem?_map, hm, hm'] at h1
            exact Option.some.inj h1
          have HSM : Hid (Calls Tryd.prog 10 #[.agg m.cs, .agg m'.cs] wr.drew fun e w' => e = .returned (.bool true) ∧ Below wr.heap.size wr.drew w') :=
            same_true wr.drew (((H.out.ent m (List.mem_of_getElem? hm)).below HBW.out).more hsr).drew (((H'.out.ent m' (List.mem_of_getElem? hm')).below HBW.out).more hsr).drew hev
          have HQ := hide qc
          have HR := hide rc
          clear hm hm' hev qc rc
          go_upto_region 15 with fail
          refine wp_region_still_tail 10 (by kernel_rfl) (by kernel_rfl) ?_
          simp only [List.take_succ_cons, List.take_zero, List.drop_succ_cons, List.drop_zero]
          still_step
          still_step
          still_step
          still_step
          refine still_load_at (by rfl) 29 (.tmp 104) rfl ⟨b, off + j * 13, none⟩ (by rfl) m.cs _ Tryd.underlying29 rfl (ld29 _ (em_size _)) HQ.out ?_
          still_step
          still_step
          still_step
          still_step
          refine still_load_at (by rfl) 29 (.tmp 109) rfl ⟨b', off' + j * 13, none⟩ (by rfl) m'.cs _ Tryd.underlying29 rfl (ld29 _ (em_size _)) HR.out ?_
          try refine wpStill_nil ?_
          change wpList _ _ _ _ _ wr.drew
          go_wp2_with (go_at_call 10; refine HSM.out.mono ?_; rintro e w2 ⟨rfl, hb2⟩; have HB3 := hide hb2; clear hb2)
          have HBN : Hid (Below W2.heap.size W2 w2) := (below_drewN hbr.out 1).trans (HB3.out.mono hbr.out.size)
          go_roundw
          case rel => exact ⟨j + 1, by omega, by go_num, HBN⟩
          case measure => simp [intOf]; omega
        · have js : ¬ (j : Int) < (n : Int) := by omega
          clear hlt
          go_wp2_with fail
          go_ret
          exact ⟨rfl, HBW.out⟩
/-- Two scripts that say the same. -/
theorem same_scripts {s s' : Sm} (w : World) (h : SmIn w w.heap.size s) (h' : SmIn w w.heap.size s') (he : s.sc = s'.sc) :
    Calls Tryd.prog 18 #[.agg s.cs, .agg s'.cs] w fun e w' => e = .returned (.bool true) ∧ Below w.heap.size w w' := by
  obtain ⟨⟨nd, wn, bs, st, cp, rm, fl, vs⟩, A, k, Ae, ke, ms⟩ := s
  obtain ⟨c', A', k', Ae', ke', ms'⟩ := s'
  injection he with h1 h2
  simp only at h1 h2
  subst h1
  exact same_at9 nd wn bs st cp rm fl vs A A' Ae Ae' k k' ke ke' ms ms' w h h' h2
end Go.Proofs.YtcibcmfaebbhnaaDoor
