/-
  The program's ParseTrace, of a text of bounded lines. (Printed by wip/tools/mkwide.py.)
-/
import Derived.Test.YtenebkkfjalcaaaDoorZWum
import Derived.Test.YtenebkkfjalcaaaDoorZPpq
set_option linter.unusedVariables false
set_option linter.unusedSimpArgs false
namespace Go.Proofs.YtenebkkfjalcaaaDoor
open Go.RowKit Go.WideShapes Go.ChangeShapes Q
open Go.Shelf

/-- A line that is short, and read as a mark of bounded lists. -/
def LOK (q : List UInt8) : Prop := q.length ≤ 130000000 ∧ PZ (unmA q).1 1048576 1048576
/-- What the loop keeps. -/
def PPLoopW (T : List PM × Nat × Int) (E : Bool) (N : Nat) (w : World) (v5 v7 v8 : Value) (wr : World) : Prop := ∃ (n : Nat) (ms : List Mk) (r : List UInt8), v5 = .string (S r) ∧ v8 = .int .i64 n ∧ TL w wr v7 ms ∧ T = trL E n (ms.map Mk.pm) (linG [] r) ∧ (r ≠ [] → E = endsNL r) ∧ ms.length + r.length ≤ N ∧ n + r.length ≤ N + 2 ∧ (∀ q ∈ linG [] r, LOK q)

set_option maxRecDepth 100000 in
set_option maxHeartbeats 16000000 in
theorem pparse_wide (s : ByteArray) (w : World) (hs : s.size ≤ 3000000000) (hLN : ∀ r, s.data.toList = headT ++ r → ∀ q ∈ linG [] r, LOK q) (hT : Tab w) (hK : KT w) (hM : ML w) : Calls Tryd.prog 12 #[.string s] w fun e w' => TrR s.data.toList w e w' := by
  have HTB := hide hT
  have HKT := hide hK
  have HML := hide hM
  have HCP := hide (cutp_any s (S headT) w)
  cases hp : Lib.hasPrefix s.data.toList headT with
  | false =>
    have HQ : Hid (Calls Tryd.prog 22 #[.string s, .string (S headT)] w fun e w' => ∃ R, e = .returned (.tuple #[.string R, .bool false]) ∧ w = w') := by
      refine HCP.out.mono ?_
      rintro e w' ⟨he, hw⟩
      rw [S_data, hp] at he
      exact ⟨_, he, hw⟩
    have HT := hide (trace_no hp)
    clear hp HCP hT hK hM hLN
    go_enter Tryd.func12, Tryd.ntmps12
    go_wp2_with (go_at_call 22; refine HQ.out.mono ?_; rintro e w2 ⟨R, rfl, rfl⟩)
    first | refine bodyPost_end (results_tmp3 rfl _ _ _) rfl ?_ | refine bodyPost_ret (results_tmp3 rfl _ _ _) rfl ?_
    exact ⟨none, 0, [], by rw [HT.out]; rfl, by rw [HT.out]; rfl, World.ownsRow_nil _ _ _ _, (fun m hm => by cases hm), Below.refl _ _⟩
  | true =>
    have hp' := hp
    unfold Lib.hasPrefix at hp'
    obtain ⟨r0, hr0⟩ := List.isPrefixOf_iff_prefix.1 hp'
    have htr : Lib.trimPrefix s.data.toList headT = r0 := by
      unfold Lib.trimPrefix
      rw [if_pos hp, ← hr0, List.drop_left]
    have HQ : Hid (Calls Tryd.prog 22 #[.string s, .string (S headT)] w fun e w' => e = .returned (.tuple #[.string (S r0), .bool true]) ∧ w = w') := by
      refine HCP.out.mono ?_
      rintro e w' ⟨he, hw⟩
      rw [S_data, hp, htr] at he
      exact ⟨he, hw⟩
    obtain ⟨E, hE⟩ : ∃ E, E = endsNL s.data.toList := ⟨_, rfl⟩
    obtain ⟨T, hTT⟩ : ∃ T, T = traceT s.data.toList := ⟨_, rfl⟩
    have hln : r0.length ≤ s.size := by
      rw [← str_len, ← hr0]
      simp
    have HL0 : Hid (PPLoopW T E s.size w (.string (S r0)) (.slice none 0 0) (.int .i64 2) w) := by
      refine ⟨2, [], r0, rfl, rfl, ⟨⟨none, 0, rfl⟩, World.ownsRow_nil _ _ _ _, (fun m hm => by cases hm), Below.refl _ _⟩, ?_, ?_, by simpa using hln, by omega, hLN r0 hr0.symm⟩
      · rw [hTT, trace_rest hr0.symm, hE]
        rfl
      · intro hne
        rw [hE, ← hr0, ends_app hne]
    have HT := hide hTT
    obtain ⟨i48, hi48, hz48, hs48, hb48⟩ := info_parts info48
    have I48 := hide hi48
    have Z48 := hide hz48
    clear hp hp' hr0 htr HCP hT hK hM hE hTT hln hi48 hz48 hLN
    go_enter Tryd.func12, Tryd.ntmps12
    go_upto_region 6 with (go_at_call 22; refine HQ.out.mono ?_; rintro e w2 ⟨rfl, rfl⟩)
    go_loopw [5, 7, 8, 9, 10, 11, 12, 13] (fun v5 v7 v8 _ _ _ _ _ wr => PPLoopW T E s.size w v5 v7 v8 wr) (fun v5 _ _ _ _ _ _ _ _ => strLen v5)
    case atStart => exact HL0.out
    case round =>
      clear HL0
      unfold PPLoopW at hrel
      obtain ⟨n, ms, r, rfl, rfl, htl, hTJ, hEJ, hb1, hb2, hLNr⟩ := hrel
      have HLNR := hide hLNr
      clear hLNr
      have HTL := hide htl
      have HTJ := hide hTJ
      have HEJ := hide hEJ
      obtain ⟨Av, cv, hv⟩ := htl.val
      subst hv
      have hsw : w.heap.size ≤ wr.heap.size := htl.low.size
      clear htl hTJ hEJ
      have n0 : (0 : Int) ≤ (n : Int) := by omega
      have n1 : n ≤ 3000000002 := by omega
      cases hr : r with
      | nil =>
        have HTE : Hid (T = (ms.map Mk.pm, 0, 0)) := by
          show _ = _
          rw [HTJ.out, hr]
          rfl
        have hse : (S ([] : List UInt8)).toList = [] := by rw [ByteArray.toList_eq]; rfl
        clear hr
        go_wp2_with fail
        first | refine bodyPost_end (results_tmp3 rfl _ _ _) rfl ?_ | refine bodyPost_ret (results_tmp3 rfl _ _ _) rfl ?_
        refine ⟨Av, cv, ms, ?_, ?_, HTL.out.row, HTL.out.ent, HTL.out.low⟩
        · rw [← HT.out, HTE.out]
          rfl
        · rw [← HT.out, HTE.out]
      | cons x0 rest0 =>
        have hne : r ≠ [] := by rw [hr]; exact List.cons_ne_nil _ _
        obtain ⟨RS, hRS⟩ : ∃ RS, RS = S r := ⟨_, rfl⟩
        rw [← hr]
        rw [← hRS]
        have hrt : RS.toList = r := by rw [hRS, ByteArray.toList_eq, S_data]
        have q1 : ¬ RS.toList = [] := by rw [hrt]; exact hne
        have q2 : (RS.toList == ([] : List UInt8)) = false := by rw [beq_eq_false_iff_ne]; exact q1
        have q3 : RS.toList.isEmpty = false := by rw [hrt]; cases r with | nil => exact absurd rfl hne | cons _ _ => rfl
        have HCU := hide (scut_any RS (S [10]) wr (by rw [hRS, S_size]; omega) (HML.out.below HTL.out.low))
        rw [S_data, show RS.data.toList = r from by rw [hRS]; rfl] at HCU
        have HE1 := hide (HEJ.out hne)
        have HNE := hide hne
        have HRS := hide hRS
        clear hr hrt hne hRS
        rcases cut10 r with ⟨a, b, hab, hfr, hc⟩ | ⟨hfr, hc⟩
        · rw [hc] at HCU
          have hlen : a.length + 1 + b.length = r.length := by rw [hab]; simp; omega
          have HLN : Hid (linG [] r = a :: linG [] b) := by
            show _ = _
            rw [hab, lin_line a b hfr]
          have HEB : Hid (b ≠ [] → E = endsNL b) := fun hb => by
            rw [HE1.out, hab, show a ++ 10 :: b = (a ++ [10]) ++ b by simp, ends_app hb]
          have HEE : Hid (b = [] → E = true) := fun hb => by
            rw [HE1.out, hab, hb, ends_nl]
          have HLA : Hid (LOK a) := HLNR.out a (by rw [HLN.out]; exact List.mem_cons_self)
          have HLB : Hid (∀ q ∈ linG [] b, LOK q) := fun q hq => HLNR.out q (by rw [HLN.out]; exact List.mem_cons_of_mem _ hq)
          clear hc hab hfr
          have HUM := fun k => hide (Wide.unmark_wide (S a) (wr.drewN k) (by rw [S_size]; exact HLA.out.1) (by rw [S_data]; exact HLA.out.2) (HTB.out.below (below_drewN HTL.out.low k)) (HKT.out.below (below_drewN HTL.out.low k)))
          have HUMM := hide HUM
          clear HUM
          go_upto_region 9 with (go_at_call 23; refine HCU.out.mono ?_; rintro e w2 ⟨rfl, k, rfl⟩)
          have HTL2 := hide (HTL.out.step (below_drewN (Below.refl wr.heap.size wr) k))
          refine wp_region_lit ?_
          refine wpList_value rfl (.string (S a)) (by go_simp) ?_
          try simp only [Act.put, List.setIfInBounds_toArray, List.set_cons_zero, List.set_cons_succ]
          refine wpList_step (fun K hK => ?_)
          rw [if_pos (by rfl)]
          go_simp
          go_at_call 24
          refine (HUMM.out k).out.mono ?_
          rintro e w3 ⟨m', bo, rfl, hmu, hb3, hyes, hno⟩
          have HTL3 := hide (HTL2.out.step hb3)
          have HMU := hide (hmu.base (show w.heap.size ≤ (wr.drewN k).heap.size from hsw))
          have HY := hide hyes
          have HNO := hide hno
          have hsw3 : w.heap.size ≤ w3.heap.size := HTL3.out.low.size
          refine hK _ _ ?_
          clear hK K hmu hb3 hyes hno
          try simp only [Act.put, List.setIfInBounds_toArray, List.set_cons_zero, List.set_cons_succ]
          refine wpList_value rfl (.tuple #[.agg m'.cs, .bool bo]) (by go_simp) ?_
          try simp only [Act.put, List.setIfInBounds_toArray, List.set_cons_zero, List.set_cons_succ]
          refine wpList_value rfl (.agg m'.cs) (by go_simp) ?_
          try simp only [Act.put, List.setIfInBounds_toArray, List.set_cons_zero, List.set_cons_succ]
          refine wpList_value rfl (.bool bo) (by go_simp) ?_
          try simp only [Act.put, List.setIfInBounds_toArray, List.set_cons_zero, List.set_cons_succ]
          refine wpList_step (fun K hK => ?_)
          rw [if_pos (by rfl)]
          go_simp
          refine hK _ _ ?_
          clear hK K
          refine wpList_store_fresh rfl 48 (.tmp 12) (.tmp 34) rfl _ m'.cs rfl rfl (ld48 _ (mk_size _)) rfl (cs_all m') ?_
          try simp only [Act.put, List.setIfInBounds_toArray, List.set_cons_zero, List.set_cons_succ]
          obtain ⟨W3, hW3⟩ : ∃ W3, W3 = World.alloc w3 (.cells m'.cs 48) := ⟨_, rfl⟩
          have HBX : Hid (Blk W3 w3.heap.size 48 m'.cs) := by
            show Blk _ _ _ _
            rw [hW3]
            exact Blk.new _ _ _
          have HB33 : Below w3.heap.size w3 W3 := by rw [hW3]; exact (Below.refl _ _).alloc (Nat.le_refl _) _
          have HTL4 := hide (HTL3.out.step HB33)
          have HMU4 := hide (HMU.out.step HB33)
          have hsw4 : w.heap.size ≤ W3.heap.size := HTL4.out.low.size
          rw [← hW3]
          clear hW3 HB33 HTL3 HMU HTL2
          cases bo with
          | false =>
            have HTE : Hid (T = ([], n, 23)) := by
              show _ = _
              have h1 := good_no (HNO.out rfl)
              rw [S_data] at h1
              rw [HTJ.out, HLN.out, trL_no h1]
            clear HY HNO
            go_wp2_with fail
            first | refine bodyPost_end (results_tmp3 rfl _ _ _) rfl ?_ | refine bodyPost_ret (results_tmp3 rfl _ _ _) rfl ?_
            refine ⟨none, 0, [], ?_, ?_, World.ownsRow_nil _ _ _ _, (fun m hm => by cases hm), HTL4.out.low⟩
            · rw [← HT.out, HTE.out]
              rfl
            · rw [← HT.out, HTE.out]
              rfl
          | true =>
            have HTN : Hid (T = trL E (n + 1) ((ms ++ [m']).map Mk.pm) (linG [] b)) := by
              show _ = _
              have h1 := good_yes (HY.out rfl)
              rw [S_data] at h1
              rw [HTJ.out, HLN.out, trL_yes h1 ?_, List.map_append]
              · rfl
              · rintro ⟨h2, h3⟩
                have := HEE.out (lin_nil h2)
                rw [h3] at this
                cases this
            clear HY HNO
            have HLX : Hid (∀ (g4 c4 : Nat) (W4 : World), W4.ownsRow w.heap.size 48 26 (.slice (some ⟨g4, 0, none⟩) (ms.length + 1) c4) (ms.length + 1) (mkCells ms ++ m'.cs.toList) → (W3.alloc (.cells m'.cs 48)).grownBy W4 (Value.slice Av ms.length cv).ownBlock → Below w.heap.size W3 W4 → PPLoopW T E s.size w (.string (S b)) (.slice (some ⟨g4, 0, none⟩) (ms.length + 1) c4) (.int .i64 ((n : Int) + 1)) W4) := by
              intro g4 c4 W4 hown4 hgr4 hb4
              have hrowA := own_step HTL4.out.row ((Below.refl W3.heap.size W3).alloc (Nat.le_refl _) (.cells m'.cs 48))
              refine ⟨n + 1, ms ++ [m'], b, rfl, by go_num, ⟨⟨_, c4, by rw [List.length_append]; rfl⟩, ?_, ?_, HTL4.out.low.trans hb4⟩, HTN.out, HEB.out, by simp; omega, by omega, HLB.out⟩
              · rw [mkCells_snoc, List.length_append]
                exact hown4
              · intro x hx
                rcases List.mem_append.1 hx with hx | hx
                · exact ((HTL4.out.ent x hx).step ((Below.refl _ _).alloc (Nat.le_refl _) _)).push hrowA hgr4
                · obtain rfl : x = m' := by simpa using hx
                  exact (HMU4.out.step ((Below.refl _ _).alloc (Nat.le_refl _) _)).push hrowA hgr4
            have HSZ : Hid ((S b).size < RS.size) := by
              show _ < _
              rw [HRS.out, S_size, S_size]
              omega
            go_upto_region 12 with fail
            refine wp_region_lit ?_
            refine wpList_value rfl (.slice Av ms.length cv) (by go_simp) ?_
            refine wpList_value rfl (.agg m'.cs) (ex_load 48 (.tmp 12) rfl _ rfl m'.cs _ Tryd.underlying48 rfl (ld48 _ (mk_size _)) (box_all HBX.out)) ?_
            simp only [Act.put, List.setIfInBounds_toArray, List.set_cons_zero, List.set_cons_succ]
            refine wpList_one48 rfl (.tmp 44) rfl m' rfl ?_
            simp only [Act.put, List.setIfInBounds_toArray, List.set_cons_zero, List.set_cons_succ]
            refine wpList_push (W := W3) (cs := m'.cs) rfl (.tmp 43) (.tmp 45) 22 rfl w.heap.size 48 i48 _ 26 288 Tryd.underlying22 I48.out Z48.out hs48 hb48 rfl (by omega) (.slice Av ms.length cv) ms.length (mkCells ms) rfl HTL4.out.row 1 1 rfl rfl (cs_one m') (by omega) (by unfold maxLen; omega) (by omega) hsw4 ?_
            intro g4 c4 W4 hown4 hgr4 hb4 _ _ _
            have HL4 := hide (HLX.out g4 c4 W4 hown4 hgr4 hb4)
            clear hown4 hgr4 hb4
            simp only [Act.put, List.setIfInBounds_toArray, List.set_cons_zero, List.set_cons_succ]
            go_wp2_with fail
            go_roundw
            case rel => first | exact HL4.out | exact ⟨_, _, _, _, _, _, _, _, HL4.out, rfl, rfl, rfl, rfl, rfl, rfl, rfl, rfl⟩
            case measure =>
              have := HSZ.out
              simp only [strLen]
              exact this
        · rw [hc] at HCU
          have HLN : Hid (linG [] r = [r]) := lin_last r hfr HNE.out
          have HEF : Hid (E = false) := by
            show _ = _
            rw [HE1.out, ends_last hfr]
          have HTE : Hid (T = ([], n, 23)) := by
            show _ = _
            rw [HTJ.out, HLN.out, trL_cut rfl HEF.out]
          have HLA : Hid (LOK r) := HLNR.out r (by rw [HLN.out]; exact List.mem_cons_self)
          clear hc hfr
          have HUM := fun k => hide (Wide.unmark_wide (S r) (wr.drewN k) (by rw [S_size]; exact HLA.out.1) (by rw [S_data]; exact HLA.out.2) (HTB.out.below (below_drewN HTL.out.low k)) (HKT.out.below (below_drewN HTL.out.low k)))
          have HUMM := hide HUM
          clear HUM
          go_upto_region 9 with (go_at_call 23; refine HCU.out.mono ?_; rintro e w2 ⟨rfl, k, rfl⟩)
          have HTL2 := hide (HTL.out.step (below_drewN (Below.refl wr.heap.size wr) k))
          refine wp_region_lit ?_
          refine wpList_value rfl (.string (S r)) (by go_simp) ?_
          try simp only [Act.put, List.setIfInBounds_toArray, List.set_cons_zero, List.set_cons_succ]
          refine wpList_step (fun K hK => ?_)
          rw [if_pos (by rfl)]
          go_simp
          go_at_call 24
          refine (HUMM.out k).out.mono ?_
          rintro e w3 ⟨m', bo, rfl, hmu, hb3, hyes, hno⟩
          have HTL3 := hide (HTL2.out.step hb3)
          refine hK _ _ ?_
          clear hK K hmu hb3 hyes hno
          try simp only [Act.put, List.setIfInBounds_toArray, List.set_cons_zero, List.set_cons_succ]
          refine wpList_value rfl (.tuple #[.agg m'.cs, .bool bo]) (by go_simp) ?_
          try simp only [Act.put, List.setIfInBounds_toArray, List.set_cons_zero, List.set_cons_succ]
          refine wpList_value rfl (.agg m'.cs) (by go_simp) ?_
          try simp only [Act.put, List.setIfInBounds_toArray, List.set_cons_zero, List.set_cons_succ]
          refine wpList_value rfl (.bool bo) (by go_simp) ?_
          try simp only [Act.put, List.setIfInBounds_toArray, List.set_cons_zero, List.set_cons_succ]
          refine wpList_step (fun K hK => ?_)
          rw [if_pos (by rfl)]
          go_simp
          refine hK _ _ ?_
          clear hK K
          refine wpList_store_fresh rfl 48 (.tmp 12) (.tmp 34) rfl _ m'.cs rfl rfl (ld48 _ (mk_size _)) rfl (cs_all m') ?_
          try simp only [Act.put, List.setIfInBounds_toArray, List.set_cons_zero, List.set_cons_succ]
          obtain ⟨W3, hW3⟩ : ∃ W3, W3 = World.alloc w3 (.cells m'.cs 48) := ⟨_, rfl⟩
          have HB33 : Below w3.heap.size w3 W3 := by rw [hW3]; exact (Below.refl _ _).alloc (Nat.le_refl _) _
          have HTL4 := hide (HTL3.out.step HB33)
          rw [← hW3]
          clear hW3 HB33 HTL3 HTL2
          go_wp2_with fail
          first | refine bodyPost_end (results_tmp3 rfl _ _ _) rfl ?_ | refine bodyPost_ret (results_tmp3 rfl _ _ _) rfl ?_
          refine ⟨none, 0, [], ?_, ?_, World.ownsRow_nil _ _ _ _, (fun m hm => by cases hm), HTL4.out.low⟩
          · rw [← HT.out, HTE.out]
            rfl
          · rw [← HT.out, HTE.out]
            rfl
end Go.Proofs.YtenebkkfjalcaaaDoor
