/-
  Contract of Wire.turn beside blocks that are another's (N). (Printed by wip/tools/mkturnn.py from Turn and Fifo.)
-/
import Derived.Test.YtkkckinnhkpcmaaTurn
set_option linter.unusedVariables false
set_option linter.unusedSimpArgs false
namespace Go.Proofs.Ytkkckinnhkpcmaa
open Go.RowKit Go.WideShapes Go.ChangeShapes Q

/-- A wire; since w what is N's has not turned, and is not its. -/
def MadeN (w : World) (N : Nat → Prop) (wb W Sp : Nat) (x : Wr) (wr : World) : Prop := ∃ o g, WireAt wr o wb W Sp g x ∧ St (fun q => ¬ N q) w wr ∧ ∀ q, q < w.heap.size → N q → o q = 0
theorem MadeN.step {w wr w' : World} {N : Nat → Prop} {wb W Sp : Nat} {y : Wr} {o : Nat → Nat} {g : Gw} (h1 : St (fun q => ¬ N q) w wr) (h2 : ∀ q, q < w.heap.size → N q → o q = 0) (h : WStep wr o wb W Sp g y w') : MadeN w N wb W Sp y w' := by
  obtain ⟨o', g', a, b, c, _⟩ := h
  exact ⟨o', g', a, h1.trans' b fun q hq hn hN => hn (h2 q hq hN), fun q hq hN => (c q (Nat.lt_of_lt_of_le hq h1.size)).trans (h2 q hq hN)⟩
theorem MadeN.quiet {w wr w' : World} {N : Nat → Prop} {wb W Sp : Nat} {x : Wr} (h : MadeN w N wb W Sp x wr) (hs : St (fun _ => False) wr w') : MadeN w N wb W Sp x w' := by
  obtain ⟨o, g, a, b, c⟩ := h
  exact ⟨o, g, a.quiet hs, b.trans (hs.mono fun _ _ e => e.elim), c⟩
section
variable {w wr : World} {N : Nat → Prop} {wb W Sp n : Nat} {x : Wr}
/-- A piece that has just been laid is pushed. -/
theorem MadeN.pushLit (h : MadeN w N wb W Sp x wr) (hI : Inv W Sp n x) (hn : n < 5000) {s : Nat} (hs : s < 2) (bs : List Int) (hb : bs.length ≤ 20) :
    Calls Try.prog 17 #[.pointer (some ⟨wb, 0, none⟩), .int .i64 (s : Int), .slice (some ⟨wr.heap.size, 0, none⟩) bs.length bs.length] (wr.alloc (.cells (byts bs).toArray 5)) fun e w' => e = .returned (.bool true) ∧ MadeN w N wb W Sp (pushS Sp x s bs) w' := by
  obtain ⟨o, g, hA, hst, ho⟩ := h
  have hs1 : St (fun _ => False) wr (wr.alloc (.cells (byts bs).toArray 5)) := (St.refl _ wr).alloc _
  have hr := reads_blk (cs := byts bs) (Blk.new wr 5 (byts bs).toArray) (Nat.le_refl _)
  rw [byts_len, List.take_of_length_le (by rw [byts_len]; omega)] at hr
  refine ((hA.quiet hs1).push' hI hn hs hr (Nat.le_refl _) (by omega) fun _ ad e => ?_).mono fun e w' hh => ⟨hh.1, MadeN.step (hst.trans (hs1.mono fun _ _ e => e.elim)) ho hh.2⟩
  injection e with e
  rw [← e]
  exact hA.lim _ (Nat.le_refl _)
theorem MadeN.show_ (h : MadeN w N wb W Sp x wr) (hI : Inv W Sp n x) (hn : n < 5000) (hW : W ≤ 5) {s : Nat} (hs : s < 2) : Calls Try.prog 18 #[.pointer (some ⟨wb, 0, none⟩), .int .i64 (s : Int)] wr fun e w' => e = .returned (.bool true) ∧ MadeN w N wb W Sp (showS W x s) w' := by
  obtain ⟨o, g, hA, hst, ho⟩ := h
  exact (hA.show' hI hn hW hs).mono fun e w' hh => ⟨hh.1, MadeN.step hst ho hh.2⟩
theorem MadeN.owe (h : MadeN w N wb W Sp x wr) (hI : Inv W Sp n x) (hn : n < 5000) {s : Nat} (hs : s < 2) : Calls Try.prog 42 #[.pointer (some ⟨wb, 0, none⟩), .int .i64 (s : Int)] wr fun e w' => e = .returned (.bool true) ∧ MadeN w N wb W Sp (oweS x s) w' := by
  obtain ⟨o, g, hA, hst, ho⟩ := h
  exact (hA.owe' hI hn hs).mono fun e w' hh => ⟨hh.1, MadeN.step hst ho hh.2⟩
theorem MadeN.carry (h : MadeN w N wb W Sp x wr) (hI : Inv W Sp n x) (hn : n < 5000) {s : Nat} (hs : s < 2) {k : Int} (h0 : -9223372036854775808 ≤ k) (h1 : k ≤ 9223372036854775807) :
    Calls Try.prog 19 #[.pointer (some ⟨wb, 0, none⟩), .int .i64 (s : Int), .int .i64 k] wr fun e w' => e = .returned (.bool true) ∧ MadeN w N wb W Sp (carryS x s (1 - s) k) w' := by
  obtain ⟨o, g, hA, hst, ho⟩ := h
  exact (hA.carry' hI hn hs h0 h1).mono fun e w' hh => ⟨hh.1, MadeN.step hst ho hh.2⟩
theorem MadeN.answer (h : MadeN w N wb W Sp x wr) (hI : Inv W Sp n x) (hn : n < 5000) {s : Nat} (hs : s < 2) {k : Int} (h0 : -9223372036854775808 ≤ k) (h1 : k ≤ 9223372036854775807) :
    Calls Try.prog 43 #[.pointer (some ⟨wb, 0, none⟩), .int .i64 (s : Int), .int .i64 k] wr fun e w' => e = .returned (.bool true) ∧ MadeN w N wb W Sp (answerS x s (1 - s) k) w' := by
  obtain ⟨o, g, hA, hst, ho⟩ := h
  exact (hA.answer' hI hn hs h0 h1).mono fun e w' hh => ⟨hh.1, MadeN.step hst ho hh.2⟩
/-- The slice of what came out at a side. -/
theorem MadeN.outAt (h : MadeN w N wb W Sp x wr) {s : Nat} (hs : s < 2) : ∃ A c, wr.cell? ⟨wb, 6 + s, none⟩ = some (.slice A (x.O s).length c) ∧ (x.O s).length ≤ c := by
  obtain ⟨o, g, hA, hst, ho⟩ := h
  obtain ⟨A, c, vs, hv, _, _, hc⟩ := BRow.val (hA.row 1 s (by omega) hs)
  refine ⟨A, c, ?_, hc⟩
  rw [← hv]
  exact hA.cellR 1 s (by omega) hs
end
section
variable {w wr : World} {N : Nat → Prop} {wb W Sp n : Nat} {x : Wr}
/-- What the network holds from a side is let go. -/
theorem MadeN.clear (h : MadeN w N wb W Sp x wr) {s : Nat} (hs : s < 2) {i j : Nat} (hi : i = 8 + s) (hj : j = 10 + s) :
    MadeN w N wb W Sp (clearS x s) ((wr.setCell ⟨wb, i, none⟩ (.slice none 0 0)).setCell ⟨wb, j, none⟩ (.slice none 0 0)) := by
  obtain ⟨o, g, hA, hst, ho⟩ := h
  have h1 : WStep wr o wb W Sp g { x with F := upd x.F s [] } (wr.setCell ⟨wb, i, none⟩ (.slice none 0 0)) := by
    refine hA.rowset (k := 2) (s := s) (by omega) hs (St.refl _ wr) (y := { x with F := upd x.F s [] }) rfl (rows_F rfl rfl rfl fun q hq => ?_) ?_ (by omega)
    · show upd x.F s [] q = x.F q
      rw [upd_ne _ _ _ _ hq]
    · show FRow _ _ _ (frs (upd x.F s [] s))
      rw [upd_same]
      exact FRow.nil _ _
  have h2 := h1.trans fun o' g' hA' => by
    refine hA'.rowset (k := 3) (s := s) (by omega) hs (St.refl _ _) (y := clearS x s) (v := .slice none 0 0) rfl (rows_A rfl rfl rfl fun q hq => ?_) ?_ (i := j) (by omega)
    · show upd x.A s [] q = x.A q
      rw [upd_ne _ _ _ _ hq]
    · show ARow _ _ _ (upd x.A s [] s)
      rw [upd_same]
      exact ARow.nil _ _
  exact MadeN.step hst ho h2
/-- The wire's head, for a store. -/
theorem MadeN.head (h : MadeN w N wb W Sp x wr) : ∃ v8 v9 v10 v11, wr.cell? ⟨wb, 8, none⟩ = some v8 ∧ wr.cell? ⟨wb, 9, none⟩ = some v9 ∧ wr.cell? ⟨wb, 10, none⟩ = some v10 ∧ wr.cell? ⟨wb, 11, none⟩ = some v11 ∧
    ∀ k, wr.frozen? ⟨wb, k, none⟩ = false := by
  obtain ⟨o, g, hA, hst, ho⟩ := h
  exact ⟨_, _, _, _, hA.cellR 2 0 (by omega) (by omega), hA.cellR 2 1 (by omega) (by omega), hA.cellR 3 0 (by omega) (by omega), hA.cellR 3 1 (by omega) (by omega), fun k => hA.head.frozen k⟩
/-- The slice of what the network holds of frames. -/
theorem MadeN.frAt (h : MadeN w N wb W Sp x wr) {s : Nat} (hs : s < 2) : ∃ A c, wr.cell? ⟨wb, 8 + s, none⟩ = some (.slice A (x.F s).length c) := by
  obtain ⟨o, g, hA, hst, ho⟩ := h
  have hr : FRow wr _ (g.row 2 s) (frs (x.F s)) := hA.row 2 s (by omega) hs
  obtain ⟨vs, r1, _, _⟩ := hr
  obtain ⟨A, c, e, _, _⟩ := own_val r1
  have hl : (frs (x.F s)).length = (x.F s).length := by simp [frs]
  rw [hl] at e
  refine ⟨A, c, ?_⟩
  rw [← e]
  exact hA.cellR 2 s (by omega) hs
end
set_option maxRecDepth 100000 in
set_option maxHeartbeats 2000000 in
theorem turnN_any (w w1 : World) (N : Nat → Prop) (wb W Sp n : Nat) (x : Wr) (h : MadeN w N wb W Sp x w1) (hI : Inv W Sp n x) (hn : n + 10 < 5000) (hW5 : W ≤ 5) :
    Calls Try.prog 22 #[.pointer (some ⟨wb, 0, none⟩)] w1 fun e w' => e = .returned (.bool true) ∧ MadeN w N wb W Sp (turnS W x) w' := by
  have H := hide h
  have hIo : ∀ k, k ≤ 2 → Inv W Sp (n + k) (outT W x k) := fun k hk => by
    match k, hk with
    | 0, _ => exact hI
    | 1, _ => exact hI.halfT (by omega) hW5
    | 2, _ => exact (hI.halfT (by omega) hW5).halfT (by omega) hW5
  clear h hI
  go_enter Try.func22, Try.ntmps22
  go_wp2_with fail
  go_loopw [3] (fun i wr => ∃ k : Nat, k ≤ 2 ∧ i = .int .i64 k ∧ Hid (MadeN w N wb W Sp (outT W x k) wr)) (fun i _ => 2 - (intOf i).toNat)
  case atStart => exact ⟨0, by omega, rfl, H⟩
  case round =>
    obtain ⟨k, hk, rfl, hm⟩ := hrel
    obtain ⟨wo, hwo⟩ : ∃ wo, wo = wr := ⟨_, rfl⟩
    rw [← hwo] at hm ⊢
    clear hwo
    by_cases h2 : k = 2
    · subst h2
      clear hk
      obtain ⟨z, hz⟩ : ∃ z, z = outT W x 2 := ⟨_, rfl⟩
      have hIa : ∀ k, k ≤ 2 → Inv W Sp (n + 2 + k) (outA z k) := fun k hk => by
        have h0 := hIo 2 (by omega)
        rw [← hz] at h0
        match k, hk with
        | 0, _ => exact h0
        | 1, _ => exact h0.ansT (by omega)
        | 2, _ => exact (h0.ansT (by omega)).ansT (by omega)
      have HZ : Hid (MadeN w N wb W Sp (outA z 0) wo) := by rw [hz]; exact hm.out
      have HZE := hide hz
      clear hz hm
      go_wp2_with fail
      go_loopw [5] (fun i wq => ∃ k : Nat, k ≤ 2 ∧ i = .int .i64 k ∧ Hid (MadeN w N wb W Sp (outA z k) wq)) (fun i _ => 2 - (intOf i).toNat)
      case atStart => exact ⟨0, by omega, rfl, HZ⟩
      case round =>
        obtain ⟨k, hk, rfl, hm⟩ := hrel
        by_cases h2 : k = 2
        · subst h2
          go_wp2
          go_ret
          have e1 : outA z 2 = turnS W x := by rw [HZE.out]; rfl
          rw [← e1]
          exact ⟨rfl, hm.out⟩
        · have hk2 : k = 0 ∨ k = 1 := by omega
          clear h2
          rcases hk2 with rfl | rfl
          · clear hk
            have HOW := hide (hm.out.owe (hIa 0 (by omega)) (by omega) (s := 0) (by omega))
            have HAN : ∀ V, MadeN w N wb W Sp (oweS (outA z 0) 0) V → Hid (Calls Try.prog 43 #[.pointer (some ⟨wb, 0, none⟩), .int .i64 0, .int .i64 0] V fun e w' => e = .returned (.bool true) ∧ MadeN w N wb W Sp (outA z 1) w') := fun V hV =>
              hV.answer ((hIa 0 (by omega)).owe 0 (by omega)) (by omega) (s := 0) (by omega) (k := 0) (by omega) (by omega)
            clear hm
            go_wp2_with (first | (go_at_call 42; refine HOW.out.mono ?_; rintro e w4 ⟨rfl, hm4⟩; have HM4 := hide hm4; clear hm4) | (go_at_call 43; refine (HAN w4 HM4.out).out.mono ?_; rintro e w5 ⟨rfl, hm5⟩; have HM5 := hide hm5; clear hm5))
            go_roundw
            case rel => first | exact ⟨1, by omega, by go_num, HM5⟩ | ((repeat apply Exists.intro); exact ⟨⟨1, by omega, by go_num, HM5⟩, rfl⟩)
            case measure => simp [intOf]
          · clear hk
            have HOW := hide (hm.out.owe (hIa 1 (by omega)) (by omega) (s := 1) (by omega))
            have HAN : ∀ V, MadeN w N wb W Sp (oweS (outA z 1) 1) V → Hid (Calls Try.prog 43 #[.pointer (some ⟨wb, 0, none⟩), .int .i64 1, .int .i64 0] V fun e w' => e = .returned (.bool true) ∧ MadeN w N wb W Sp (outA z 2) w') := fun V hV =>
              hV.answer ((hIa 1 (by omega)).owe 1 (by omega)) (by omega) (s := 1) (by omega) (k := 0) (by omega) (by omega)
            clear hm
            go_wp2_with (first | (go_at_call 42; refine HOW.out.mono ?_; rintro e w4 ⟨rfl, hm4⟩; have HM4 := hide hm4; clear hm4) | (go_at_call 43; refine (HAN w4 HM4.out).out.mono ?_; rintro e w5 ⟨rfl, hm5⟩; have HM5 := hide hm5; clear hm5))
            go_roundw
            case rel => first | exact ⟨2, by omega, by go_num, HM5⟩ | ((repeat apply Exists.intro); exact ⟨⟨2, by omega, by go_num, HM5⟩, rfl⟩)
            case measure => simp [intOf]
    · have hk2 : k = 0 ∨ k = 1 := by omega
      clear h2
      rcases hk2 with rfl | rfl
      · clear hk
        have hhead := hm.out.head
        obtain ⟨v8, v9, v10, v11, e8, e9, e10, e11, ef⟩ := hhead
        have f8 := ef 8
        have f10 := ef 10
        clear ef e9 e11
        have hcl := hm.out.clear (s := 0) (by omega) (i := 8) (j := 10) rfl rfl
        have HCL := hide hcl
        obtain ⟨y, hy⟩ : ∃ y, y = showS W (clearS (outT W x 0) 0) 0 := ⟨_, rfl⟩
        have hIy : Inv W Sp (n + 0 + 1) y := by rw [hy]; exact ((hIo 0 (by omega)).clear 0).show_ 0 (by omega) hW5
        have hyF : (y.F 0).length ≤ 5 := by
          rw [hy]
          show (upd (clearS (outT W x 0) 0).F 0 ((clearS (outT W x 0) 0).F 0 ++ shown W ((clearS (outT W x 0) 0).st 0)) 0).length ≤ 5
          rw [upd_same]
          show ((upd (outT W x 0).F 0 [] 0) ++ shown W ((clearS (outT W x 0) 0).st 0)).length ≤ 5
          rw [upd_same, List.length_append, shown_len]
          simp
          omega
        have HSH := hide (hcl.show_ ((hIo 0 (by omega)).clear 0) (by omega) hW5 (s := 0) (by omega))
        rw [← hy] at HSH
        have HY := hide hy
        have HIY := hide hIy
        obtain ⟨nf, hnf⟩ : ∃ nf, nf = (y.F 0).length := ⟨_, rfl⟩
        rw [← hnf] at hyF
        have HNF := hide hnf
        clear hcl hy hIy hnf hm
        go_wp2_with (go_at_call 18; refine HSH.out.mono ?_; rintro e w3 ⟨rfl, hm3⟩; have HM3 := hide hm3; clear hm3)
        clear f8 f10 e8 e10
        go_loopw [4] (fun i wq => ∃ j : Nat, j ≤ nf ∧ i = .int .i64 j ∧ Hid (MadeN w N wb W Sp (carryK y 0 j) wq)) (fun i _ => nf - (intOf i).toNat)
        case atStart => exact ⟨0, Nat.zero_le _, rfl, HM3.out⟩
        case round =>
          obtain ⟨j, hj, rfl, hmj⟩ := hrel
          obtain ⟨Af, cf, ff⟩ := hmj.out.frAt (s := 0) (by omega)
          rw [carryK_F, ← HNF.out] at ff
          by_cases hjl : j < nf
          · have HCA := hide (hmj.out.carry (HIY.out.carryK (by omega) j) (by omega) (s := 0) (by omega) (k := (j : Int)) (by omega) (by omega))
            rw [← carryK_succ] at HCA
            have ff' : _ = _ := ff
            clear hmj
            go_wp2_with (go_at_call 19; refine HCA.out.mono ?_; rintro e w4 ⟨rfl, hm4⟩; have HM4 := hide hm4; clear hm4)
            go_roundw
            case rel => first | exact ⟨j + 1, by omega, by go_num, HM4⟩ | ((repeat apply Exists.intro); exact ⟨⟨j + 1, by omega, by go_num, HM4⟩, rfl⟩)
            case measure => simp [intOf]; omega
          · obtain rfl : j = nf := by omega
            have hnext : MadeN w N wb W Sp (outT W x 1) wr := by
              have e1 : carryK y 0 j = outT W x 1 := by rw [HNF.out, HY.out]; rfl
              rw [← e1]
              exact hmj.out
            have HNX := hide hnext
            clear hmj hnext
            go_wp2
            go_roundw
            case rel => first | exact ⟨1, by omega, by go_num, HNX⟩ | ((repeat apply Exists.intro); exact ⟨⟨1, by omega, by go_num, HNX⟩, rfl⟩)
            case measure => simp [intOf]
      · clear hk
        have hhead := hm.out.head
        obtain ⟨v8, v9, v10, v11, e8, e9, e10, e11, ef⟩ := hhead
        have f8 := ef 9
        have f10 := ef 11
        clear ef e8 e10
        have hcl := hm.out.clear (s := 1) (by omega) (i := 9) (j := 11) rfl rfl
        have HCL := hide hcl
        obtain ⟨y, hy⟩ : ∃ y, y = showS W (clearS (outT W x 1) 1) 1 := ⟨_, rfl⟩
        have hIy : Inv W Sp (n + 1 + 1) y := by rw [hy]; exact ((hIo 1 (by omega)).clear 1).show_ 1 (by omega) hW5
        have hyF : (y.F 1).length ≤ 5 := by
          rw [hy]
          show (upd (clearS (outT W x 1) 1).F 1 ((clearS (outT W x 1) 1).F 1 ++ shown W ((clearS (outT W x 1) 1).st 1)) 1).length ≤ 5
          rw [upd_same]
          show ((upd (outT W x 1).F 1 [] 1) ++ shown W ((clearS (outT W x 1) 1).st 1)).length ≤ 5
          rw [upd_same, List.length_append, shown_len]
          simp
          omega
        have HSH := hide (hcl.show_ ((hIo 1 (by omega)).clear 1) (by omega) hW5 (s := 1) (by omega))
        rw [← hy] at HSH
        have HY := hide hy
        have HIY := hide hIy
        obtain ⟨nf, hnf⟩ : ∃ nf, nf = (y.F 1).length := ⟨_, rfl⟩
        rw [← hnf] at hyF
        have HNF := hide hnf
        clear hcl hy hIy hnf hm
        go_wp2_with (go_at_call 18; refine HSH.out.mono ?_; rintro e w3 ⟨rfl, hm3⟩; have HM3 := hide hm3; clear hm3)
        clear f8 f10 e9 e11
        go_loopw [4] (fun i wq => ∃ j : Nat, j ≤ nf ∧ i = .int .i64 j ∧ Hid (MadeN w N wb W Sp (carryK y 1 j) wq)) (fun i _ => nf - (intOf i).toNat)
        case atStart => exact ⟨0, Nat.zero_le _, rfl, HM3.out⟩
        case round =>
          obtain ⟨j, hj, rfl, hmj⟩ := hrel
          obtain ⟨Af, cf, ff⟩ := hmj.out.frAt (s := 1) (by omega)
          rw [carryK_F, ← HNF.out] at ff
          by_cases hjl : j < nf
          · have HCA := hide (hmj.out.carry (HIY.out.carryK (by omega) j) (by omega) (s := 1) (by omega) (k := (j : Int)) (by omega) (by omega))
            rw [← carryK_succ] at HCA
            have ff' : _ = _ := ff
            clear hmj
            go_wp2_with (go_at_call 19; refine HCA.out.mono ?_; rintro e w4 ⟨rfl, hm4⟩; have HM4 := hide hm4; clear hm4)
            go_roundw
            case rel => first | exact ⟨j + 1, by omega, by go_num, HM4⟩ | ((repeat apply Exists.intro); exact ⟨⟨j + 1, by omega, by go_num, HM4⟩, rfl⟩)
            case measure => simp [intOf]; omega
          · obtain rfl : j = nf := by omega
            have hnext : MadeN w N wb W Sp (outT W x 2) wr := by
              have e1 : carryK y 1 j = outT W x 2 := by rw [HNF.out, HY.out]; rfl
              rw [← e1]
              exact hmj.out
            have HNX := hide hnext
            clear hmj hnext
            go_wp2
            go_roundw
            case rel => first | exact ⟨2, by omega, by go_num, HNX⟩ | ((repeat apply Exists.intro); exact ⟨⟨2, by omega, by go_num, HNX⟩, rfl⟩)
            case measure => simp [intOf]
end Go.Proofs.Ytkkckinnhkpcmaa

