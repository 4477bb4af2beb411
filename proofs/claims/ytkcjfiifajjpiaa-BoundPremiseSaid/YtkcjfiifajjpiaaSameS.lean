/-
  Contract of quorateref02.SameScript for two scripts that are alike.
-/
import Derived.Test.YtkcjfiifajjpiaaSame
import Derived.StillTailTactics
set_option linter.unusedVariables false
set_option linter.unusedSimpArgs false
namespace Go.Proofs.Ytkcjfiifajjpiaa
open Go.RowKit Go.WideShapes Go.ChangeShapes Q

theorem same_at {l l' : List El} (h : l.map El.plain = l'.map El.plain) {k : Nat} {x y : El} (hx : l[k]? = some x) (hy : l'[k]? = some y) : x.plain = y.plain := by
  have := congrArg (fun z => z[k]?) h
  simpa [hx, hy] using this

set_option maxRecDepth 100000 in
set_option maxHeartbeats 4000000 in
theorem samesc_any (a0 a1 a2 a3 a4 a5 a6 : Int) (vs : List Int) (l1 l2 : List El) (V1 V2 E1 E2 : Option Addr) (k1 k2 f1 f2 B1 B2 : Nat) (w : World)
    (hv1 : RI w B1 V1 vs.length vs) (hv2 : RI w B2 V2 vs.length vs) (he1 : EvsIn w B1 E1 l1) (he2 : EvsIn w B2 E2 l2) (hl : l1.map El.plain = l2.map El.plain) (hvl : vs.length ≤ 140737488351232) (hel : l1.length ≤ 140737488351232) :
    Calls Try.prog 27 #[.agg #[.int .i64 a0, .int .i64 a1, .int .i64 a2, .int .i64 a3, .int .i64 a4, .int .i64 a5, .int .i64 a6, .slice V1 vs.length k1, .slice E1 l1.length f1],
      .agg #[.int .i64 a0, .int .i64 a1, .int .i64 a2, .int .i64 a3, .int .i64 a4, .int .i64 a5, .int .i64 a6, .slice V2 vs.length k2, .slice E2 l2.length f2]] w
      fun e w' => e = .returned (.bool true) ∧ St (fun _ => False) w w' := by
  have hlen : l1.length = l2.length := by simpa using congrArg List.length hl
  rw [← hlen]
  obtain ⟨n, hn⟩ : ∃ n, n = vs.length := ⟨_, rfl⟩
  obtain ⟨m, hm⟩ : ∃ m, m = l1.length := ⟨_, rfl⟩
  rw [← hn] at hv1 hv2 hvl ⊢
  rw [← hm] at hel hlen ⊢
  have HM := hide hm
  have HLEN := hide hlen
  have HL := hide hl
  have HN := hide hn
  obtain ⟨o1, ho1⟩ : ∃ o : Obj, o = .cells #[.int .i64 a0, .int .i64 a1, .int .i64 a2, .int .i64 a3, .int .i64 a4, .int .i64 a5, .int .i64 a6, .slice V1 n k1, .slice E1 m f1] 33 := ⟨_, rfl⟩
  obtain ⟨o2, ho2⟩ : ∃ o : Obj, o = .cells #[.int .i64 a0, .int .i64 a1, .int .i64 a2, .int .i64 a3, .int .i64 a4, .int .i64 a5, .int .i64 a6, .slice V2 n k2, .slice E2 m f2] 33 := ⟨_, rfl⟩
  obtain ⟨o3, ho3⟩ : ∃ o : Obj, o = .cells #[.int .i64 a0, .int .i64 a1, .int .i64 a2, .int .i64 a3, .int .i64 a4, .int .i64 a5, .int .i64 a6, .slice V1 n k1] 24 := ⟨_, rfl⟩
  obtain ⟨o4, ho4⟩ : ∃ o : Obj, o = .cells #[.int .i64 a0, .int .i64 a1, .int .i64 a2, .int .i64 a3, .int .i64 a4, .int .i64 a5, .int .i64 a6, .slice V2 n k2] 24 := ⟨_, rfl⟩
  have H0 : St (fun _ => False) w ((((w.alloc o1).alloc o2).alloc o3).alloc o4) := ((((St.refl _ w).alloc _).alloc _).alloc _).alloc _
  have P1 : Blk ((((w.alloc o1).alloc o2).alloc o3).alloc o4) w.heap.size 33 _ := (((ho1 ▸ Blk.new w 33 #[.int .i64 a0, .int .i64 a1, .int .i64 a2, .int .i64 a3, .int .i64 a4, .int .i64 a5, .int .i64 a6, .slice V1 n k1, .slice E1 m f1] : Blk (w.alloc o1) _ _ _).alloc o2).alloc o3).alloc o4
  have P2 : Blk ((((w.alloc o1).alloc o2).alloc o3).alloc o4) (w.heap.size + 1) 33 _ := ((ho2 ▸ Blk.new' (w.alloc o1) 33 #[.int .i64 a0, .int .i64 a1, .int .i64 a2, .int .i64 a3, .int .i64 a4, .int .i64 a5, .int .i64 a6, .slice V2 n k2, .slice E2 m f2] (w.heap.size + 1) (by simp) : Blk ((w.alloc o1).alloc o2) _ _ _).alloc o3).alloc o4
  have P3 : Blk ((((w.alloc o1).alloc o2).alloc o3).alloc o4) (w.heap.size + 1 + 1) 24 _ := (ho3 ▸ Blk.new' ((w.alloc o1).alloc o2) 24 #[.int .i64 a0, .int .i64 a1, .int .i64 a2, .int .i64 a3, .int .i64 a4, .int .i64 a5, .int .i64 a6, .slice V1 n k1] (w.heap.size + 1 + 1) (by simp) : Blk (((w.alloc o1).alloc o2).alloc o3) _ _ _).alloc o4
  have P4 : Blk ((((w.alloc o1).alloc o2).alloc o3).alloc o4) (w.heap.size + 1 + 1 + 1) 24 _ := (ho4 ▸ Blk.new' (((w.alloc o1).alloc o2).alloc o3) 24 #[.int .i64 a0, .int .i64 a1, .int .i64 a2, .int .i64 a3, .int .i64 a4, .int .i64 a5, .int .i64 a6, .slice V2 n k2] (w.heap.size + 1 + 1 + 1) (by simp) : Blk ((((w.alloc o1).alloc o2).alloc o3).alloc o4) _ _ _)
  have HV1 := hide (hv1.st H0 (fun q e => e.elim))
  have HV2 := hide (hv2.st H0 (fun q e => e.elim))
  have HE1 := hide (he1.st H0 (fun q e => e.elim))
  have HE2 := hide (he2.st H0 (fun q e => e.elim))
  clear hv1 hv2 he1 he2 hl hm hn hlen
  go_enter Try.func27, Try.ntmps27
  go_upto_region 3 with fail
  rw [← ho1, ← ho2, ← ho3, ← ho4]
  obtain ⟨w0, hw0⟩ : ∃ w0, w0 = ((((w.alloc o1).alloc o2).alloc o3).alloc o4) := ⟨_, rfl⟩
  rw [← hw0] at H0 P1 P2 P3 P4 HV1 HV2 HE1 HE2 ⊢
  have HS0 := hide H0
  clear hw0 H0 ho1 ho2 ho3 ho4
  have HP1 := hide P1
  have HP2 := hide P2
  obtain ⟨y0, y1, y2, y3, y4, y5, y6, y7⟩ : w0.cell? ⟨w.heap.size + 1 + 1, 0, none⟩ = some (.int .i64 a0) ∧ w0.cell? ⟨w.heap.size + 1 + 1, 1, none⟩ = some (.int .i64 a1) ∧ w0.cell? ⟨w.heap.size + 1 + 1, 2, none⟩ = some (.int .i64 a2) ∧ w0.cell? ⟨w.heap.size + 1 + 1, 3, none⟩ = some (.int .i64 a3) ∧ w0.cell? ⟨w.heap.size + 1 + 1, 4, none⟩ = some (.int .i64 a4) ∧ w0.cell? ⟨w.heap.size + 1 + 1, 5, none⟩ = some (.int .i64 a5) ∧ w0.cell? ⟨w.heap.size + 1 + 1, 6, none⟩ = some (.int .i64 a6) ∧ w0.cell? ⟨w.heap.size + 1 + 1, 7, none⟩ = some (.slice V1 n k1) :=
    ⟨P3.cell 0, P3.cell 1, P3.cell 2, P3.cell 3, P3.cell 4, P3.cell 5, P3.cell 6, P3.cell 7⟩
  obtain ⟨z0, z1, z2, z3, z4, z5, z6, z7⟩ : w0.cell? ⟨w.heap.size + 1 + 1 + 1, 0, none⟩ = some (.int .i64 a0) ∧ w0.cell? ⟨w.heap.size + 1 + 1 + 1, 1, none⟩ = some (.int .i64 a1) ∧ w0.cell? ⟨w.heap.size + 1 + 1 + 1, 2, none⟩ = some (.int .i64 a2) ∧ w0.cell? ⟨w.heap.size + 1 + 1 + 1, 3, none⟩ = some (.int .i64 a3) ∧ w0.cell? ⟨w.heap.size + 1 + 1 + 1, 4, none⟩ = some (.int .i64 a4) ∧ w0.cell? ⟨w.heap.size + 1 + 1 + 1, 5, none⟩ = some (.int .i64 a5) ∧ w0.cell? ⟨w.heap.size + 1 + 1 + 1, 6, none⟩ = some (.int .i64 a6) ∧ w0.cell? ⟨w.heap.size + 1 + 1 + 1, 7, none⟩ = some (.slice V2 n k2) :=
    ⟨P4.cell 0, P4.cell 1, P4.cell 2, P4.cell 3, P4.cell 4, P4.cell 5, P4.cell 6, P4.cell 7⟩
  have p8 : w0.cell? ⟨w.heap.size, 8, none⟩ = some (.slice E1 m f1) := P1.cell 8
  have q8 : w0.cell? ⟨w.heap.size + 1, 8, none⟩ = some (.slice E2 m f2) := P2.cell 8
  clear P1 P2 P3 P4
  go_wp2_with fail
  go_loopw [7] (fun i wr => ∃ k : Nat, k ≤ n ∧ i = .int .i64 k ∧ ∃ q, wr = w0.drewN q) (fun i _ => n - (intOf i).toNat)
  case atStart => exact ⟨0, Nat.zero_le _, rfl, 0, rfl⟩
  case round =>
    obtain ⟨k, hk, rfl, q, rfl⟩ := hrel
    by_cases hlt : k < n
    · obtain ⟨ad1, rfl, _, hc1⟩ := HV1.out.at_ hlt
      obtain ⟨ad2, rfl, _, hc2⟩ := HV2.out.at_ hlt
      have h0 : (0 : Int) ≤ k := by omega
      have h1 : (k : Int) < n := by omega
      clear y0 y1 y2 y3 y4 y5 y6 z0 z1 z2 z3 z4 z5 z6 p8 q8
      go_wp2
      go_quiet (fail)
      go_wp2
      go_roundw
      case rel => exact ⟨k + 1, by omega, by go_num, _, rfl⟩
      case measure => simp [intOf]; omega
    · obtain rfl : k = n := by omega
      go_wp2
      clear y0 y1 y2 y3 y4 y5 y6 z0 z1 z2 z3 z4 z5 z6 y7 z7 p8 q8
      have HSQ : Hid (St (fun _ => False) w0 (w0.drewN q)) := (St.refl _ w0).drewN q
      go_loopw [8] (fun i wr => ∃ j : Nat, j ≤ m ∧ i = .int .i64 j ∧ Hid (St (fun _ => False) w0 wr)) (fun i _ => m - (intOf i).toNat)
      case atStart => exact ⟨0, Nat.zero_le _, rfl, HSQ⟩
      case round =>
        obtain ⟨j, hj, rfl, hs⟩ := hrel
        clear HSQ
        have p8 : wr.cell? ⟨w.heap.size, 8, none⟩ = some (.slice E1 m f1) := (HP1.out.st hs.out (fun e => e)).cell 8
        have q8 : wr.cell? ⟨w.heap.size + 1, 8, none⟩ = some (.slice E2 m f2) := (HP2.out.st hs.out (fun e => e)).cell 8
        by_cases hlt : j < m
        · have g1 := HE1.out.st hs.out (fun q e => e.elim)
          have g2 := HE2.out.st hs.out (fun q e => e.elim)
          obtain ⟨x, b, off, hx, rfl, _, hgx, r0, r1, r2, r3, r4, r5, r6, r7, r8, r9, r10, r11, r12⟩ := g1.at_ (k := j) (by rw [← HM.out]; exact hlt)
          obtain ⟨y, b', off', hy, rfl, _, hgy, t0, t1, t2, t3, t4, t5, t6, t7, t8, t9, t10, t11, t12⟩ := g2.at_ (k := j) (by rw [← HLEN.out]; exact hlt)
          have HC : Hid (∀ W, St (fun _ => False) wr W → Calls Try.prog 35 #[x.agg, y.agg] W fun e w' => e = .returned (.bool true) ∧ St (fun _ => False) W w') := fun W hW =>
            sameev_any x y (same_at HL.out hx hy) B1 B2 W ⟨hgx.1.st hW (fun q e => e.elim), hgx.2.1, Reads.st hgx.2.2.1 hW (fun q _ e => e), hgx.2.2.2⟩ ⟨hgy.1.st hW (fun q e => e.elim), hgy.2.1, Reads.st hgy.2.2.1 hW (fun q _ e => e), hgy.2.2.2⟩
          have HCD := hide (HC.out wr.drew ((St.refl _ wr).drew))
          have h0 : (0 : Int) ≤ j := by omega
          have h1 : (j : Int) < m := by omega
          unfold El.agg at HCD
          unfold El.body at r4 t4
          unfold El.sides at r12 t12
          clear g1 g2 hgx hgy HC
          go_upto_region 15 with fail
          go_still_tail 10, (by kernel_rfl)
          change wpList _ _ _ _ _ wr.drew
          go_wp2_with (go_at_call 35; refine HCD.out.mono ?_; rintro e w4 ⟨rfl, st4⟩; have ST4 := hide st4; clear st4)
          have HR := hide ((hs.out.drew).trans ST4.out)
          go_roundw
          case rel => exact ⟨j + 1, by omega, by go_num, HR⟩
          case measure => simp [intOf]; omega
        · obtain rfl : j = m := by omega
          go_wp2
          go_ret
          exact ⟨rfl, HS0.out.trans hs.out⟩
end Go.Proofs.Ytkcjfiifajjpiaa
