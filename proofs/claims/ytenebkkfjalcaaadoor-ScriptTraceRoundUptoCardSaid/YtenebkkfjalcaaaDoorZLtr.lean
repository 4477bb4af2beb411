/-
  The law ScriptTraceRound, walked: writable marks are written and read back as they are; others are refused.
-/
import Derived.Test.YtenebkkfjalcaaaDoorZRpl
import Derived.Test.YtenebkkfjalcaaaDoorZPpq
set_option linter.unusedVariables false
set_option linter.unusedSimpArgs false
namespace Go.Proofs.YtenebkkfjalcaaaDoor
open Go.RowKit Go.WideShapes Go.ChangeShapes Q

/-- What the loop keeps: are all marks so far writable? -/
def TRLoop (l : List Mk) (w : World) (v i : Value) (wr : World) : Prop := ∃ j : Nat, j ≤ l.length ∧ v = .bool ((l.take j).all wrB) ∧ i = .int .i64 j ∧ Below w.heap.size w wr
theorem all_take {l : List Mk} {j : Nat} {m : Mk} (h : l[j]? = some m) : (l.take (j + 1)).all wrB = ((l.take j).all wrB && wrB m) := by
  obtain ⟨hj, e⟩ := List.getElem?_eq_some_iff.1 h
  rw [List.take_succ_eq_append_getElem hj, List.all_append, e]
  simp
/-- The text of no marks or of refused ones, against the empty text. -/
theorem empty_eq : ((⟨#[]⟩ : ByteArray) == (⟨#[]⟩ : ByteArray)) = true := rfl

set_option maxRecDepth 100000 in
set_option maxHeartbeats 4000000 in
theorem round_any (A : Option Addr) (n c : Nat) (l : List Mk) (bs : List Nat) (w : World) (h : MsIn w w.heap.size A n l) (hn : n ≤ 1048576) (hB : MkB bs l) (hs : bs.sum ≤ 1048576) (hT : Tab w) (hK : KT w) (hM : ML w) :
    Calls Tryd.prog 5 #[.slice A n c] w fun e w' => e = .returned (.bool true) ∧ Below w.heap.size w w' := by
  have H := hide h
  have HT := hide hT
  have HKT := hide hK
  have HML := hide hM
  have hll : l.length = n := h.len
  have HLL := hide hll
  have HZ : Hid (∀ m ∈ l, MkZ m) := fun m hm => by
    obtain ⟨b, hb, hz⟩ := hB.all hs m hm
    exact hz.z hb
  have HLE : Hid (∀ m ∈ l, m.ms.length = m.nm ∧ m.ts.length = m.nt ∧ m.bd.length = m.nb) := fun m hm => mk_lens (h.ent m hm)
  have HRT : Hid (l.all wrB = true → (outL l).length ≤ 3000000000 ∧ traceT (outL l) = (l.map Mk.pm, 0, 0) ∧ ∀ r, outL l = headT ++ r → ∀ q ∈ linG [] r, LOK q) := fun hw => round_text hB hs (by omega) (fun m hm => ⟨(HLE.out m hm).1, (HLE.out m hm).2.1⟩) hw
  have HL1 : Hid (TRLoop l w (.bool true) (.int .i64 0) w) := ⟨0, Nat.zero_le _, rfl, rfl, Below.refl _ _⟩
  clear h hT hK hM hB hs hll
  go_enter Tryd.func5, Tryd.ntmps5
  go_upto_region 3 with fail
  go_loopw [3, 4] (fun v i wr => TRLoop l w v i wr) (fun _ i _ => n - (intOf i).toNat)
  case atStart => exact HL1.out
  case round =>
    clear HL1
    unfold TRLoop at hrel
    obtain ⟨j, hj, rfl, rfl, hb⟩ := hrel
    have HBB := hide hb
    have hjn : j ≤ n := by rw [← HLL.out]; exact hj
    clear hb hj
    have k0 : (0 : Int) ≤ (j : Int) := by omega
    by_cases hlt : j < n
    · obtain ⟨b, off, m, rfl, hbB, hm, hin, qc⟩ := (H.out.below HBB.out).at_ hlt
      have HQ := hide (cells_add qc)
      have HAT := hide (all_take hm)
      have HIN := hide (hin.more HBB.out.size)
      clear hm hin qc hbB
      have kn : (j : Int) < (n : Int) := by omega
      obtain ⟨F, hF⟩ : ∃ F, F = (l.take j).all wrB := ⟨_, rfl⟩
      rw [← hF] at HAT ⊢
      have HF := hide hF
      clear hF
      cases F with
      | false =>
        have HLF : Hid (TRLoop l w (.bool false) (.int .i64 ((j : Int) + 1)) wr) := ⟨j + 1, by have := HLL.out; omega, by rw [HAT.out]; rfl, by go_num, HBB.out⟩
        go_wp2_with fail
        go_roundw
        case rel => first | exact HLF.out | exact ⟨_, _, HLF.out, rfl, rfl⟩
        case measure => simp [intOf]; omega
      | true =>
        have HW : Hid (Calls Tryd.prog 14 #[.agg m.cs] wr fun e w' => e = .returned (.bool (wrB m)) ∧ Below wr.heap.size wr w') := rwritable_any m wr HIN.out
        obtain ⟨G, hG⟩ : ∃ G, G = wrB m := ⟨_, rfl⟩
        rw [← hG] at HW HAT
        clear hG
        go_upto_region 5 with fail
        refine wp_region_lit ?_
        iterate 5
          refine wpList_step (fun K hK => ?_)
          rw [if_pos (by rfl)]
          go_simp
          refine hK _ _ ?_
          clear hK K
          try simp only [Act.put, List.setIfInBounds_toArray, List.set_cons_zero, List.set_cons_succ]
        refine wpList_step (fun K hK => one_value (by rfl) (.agg m.cs) (ex_load 48 (.tmp 20) rfl ⟨b, off + j * 26, none⟩ rfl m.cs _ Tryd.underlying48 rfl (ld48 _ (mk_size _)) HQ.out) (hK _ _ ?_))
        clear hK K
        try simp only [Act.put, List.setIfInBounds_toArray, List.set_cons_zero, List.set_cons_succ]
        refine wpList_step (fun K hK => ?_)
        rw [if_pos (by rfl)]
        go_simp
        go_at_call 14
        refine HW.out.mono ?_
        rintro e w8 ⟨rfl, hb8⟩
        have HLT : Hid (TRLoop l w (.bool G) (.int .i64 ((j : Int) + 1)) w8) := ⟨j + 1, by have := HLL.out; omega, by rw [HAT.out]; rfl, by go_num, HBB.out.trans (hb8.mono HBB.out.size)⟩
        clear hb8
        refine hK _ _ ?_
        clear hK K
        try simp only [Act.put, List.setIfInBounds_toArray, List.set_cons_zero, List.set_cons_succ]
        go_wp2_with fail
        go_roundw
        case rel => first | exact HLT.out | exact ⟨_, _, HLT.out, rfl, rfl⟩
        case measure => simp [intOf]; omega
    · have kn : ¬ (j : Int) < (n : Int) := by omega
      obtain rfl : j = n := by omega
      clear hlt
      have HFT : Hid ((l.take j).all wrB = l.all wrB) := by
        show _ = _
        rw [List.take_of_length_le (by rw [HLL.out]; exact Nat.le_refl _)]
      rw [HFT.out]
      obtain ⟨F, hF⟩ : ∃ F, F = l.all wrB := ⟨_, rfl⟩
      rw [← hF]
      have HF := hide hF
      clear hF
      have H7 := hide (marksOf_any A j c l wr ((H.out.below HBB.out).more HBB.out.size) hn)
      have HP8 : Hid (∀ A' c' l' w1, MsIn w1 w1.heap.size A' j l' → SameC l l' → Below w.heap.size w w1 → Calls Tryd.prog 8 #[.slice A' j c'] w1 fun e w' => e = .returned (.tuple #[.string (S (resT l)), .int .i64 (resN l)]) ∧ Below w1.heap.size w1 w') := fun A' c' l' w1 hi hsm hbw => by
        have := pprint_any A' j c' l' w1 hi (hsm.sz HZ.out) hn (HT.out.below hbw) (HKT.out.below hbw)
        rw [same_T hsm, same_N hsm] at this
        exact this
      cases F with
      | false =>
        have HP9 : Hid (∀ A' c' l' w1, MsIn w1 w1.heap.size A' j l' → SameC l l' → Below w.heap.size w w1 → Calls Tryd.prog 8 #[.slice A' j c'] w1 fun e w' => e = .returned (.tuple #[.string { data := #[] }, .int .i64 23]) ∧ Below w1.heap.size w1 w') := fun A' c' l' w1 hi hsm hbw => by
          have := HP8.out A' c' l' w1 hi hsm hbw
          unfold resT resN at this
          rw [← HF.out] at this
          exact this
        clear HP8
        go_upto_region 7 with (first | (go_at_call 7; refine H7.out.mono ?_; rintro e w1 ⟨A', c', l', rfl, hsame, hin, hb⟩; have HSA := hide hsame; have HIN := hide hin; have HB1 := hide (HBB.out.trans (hb.mono HBB.out.size)); clear hsame hin hb) | (go_at_call 8; refine (HP9.out _ _ _ _ HIN.out HSA.out HB1.out).mono ?_; rintro e w2 ⟨rfl, hb⟩; have HB2 := hide (HB1.out.trans (hb.mono HB1.out.size)); clear hb))
        go_wp2_with fail
        go_ret
        exact ⟨rfl, HB2.out⟩
      | true =>
        have hrt := HRT.out HF.out.symm
        obtain ⟨X, hX⟩ : ∃ X, X = S (outL l) := ⟨_, rfl⟩
        have HP9 : Hid (∀ A' c' l' w1, MsIn w1 w1.heap.size A' j l' → SameC l l' → Below w.heap.size w w1 → Calls Tryd.prog 8 #[.slice A' j c'] w1 fun e w' => e = .returned (.tuple #[.string X, .int .i64 0]) ∧ Below w1.heap.size w1 w') := fun A' c' l' w1 hi hsm hbw => by
          have := HP8.out A' c' l' w1 hi hsm hbw
          unfold resT resN at this
          rw [← HF.out] at this
          rw [hX]
          exact this
        have hml : (l.map Mk.pm).length = j := by rw [List.length_map, HLL.out]
        have HPX : Hid (∀ W, Below w.heap.size w W → Calls Tryd.prog 12 #[.string X] W fun e w' => ∃ A3 c3 ms3, e = .returned (.tuple #[.slice A3 j c3, .int .i64 0, .int .i64 0]) ∧ ms3.map Mk.pm = l.map Mk.pm ∧ MsIn w' w'.heap.size A3 j ms3 ∧ Below W.heap.size W w' ∧ (∀ m ∈ ms3, m.ms.length = m.nm ∧ m.ts.length = m.nt ∧ m.bd.length = m.nb)) := fun W hb => by
          have hd : X.data.toList = outL l := by rw [hX]; rfl
          have := pparse_wide X W (by rw [hX, S_size]; exact hrt.1) (fun r hr => by rw [hd] at hr; exact hrt.2.2 r hr) (HT.out.below hb) (HKT.out.below hb) (HML.out.below hb)
          refine this.mono ?_
          intro e w' hh
          have := hh.q
          rw [hd, hrt.2.1] at this
          obtain ⟨A3, c3, ms3, h1, h2, h3, h4, h5⟩ := this
          rw [hml] at h1 h3
          exact ⟨A3, c3, ms3, h1, h2, h3, h4, h5⟩
        clear HP8 hX hrt hml HRT
        go_upto_region 7 with (first | (go_at_call 7; refine H7.out.mono ?_; rintro e w1 ⟨A', c', l', rfl, hsame, hin, hb⟩; have HSA := hide hsame; have HIN := hide hin; have HB1 := hide (HBB.out.trans (hb.mono HBB.out.size)); clear hsame hin hb) | (go_at_call 8; refine (HP9.out _ _ _ _ HIN.out HSA.out HB1.out).mono ?_; rintro e w2 ⟨rfl, hb⟩; have HB2 := hide (HB1.out.trans (hb.mono HB1.out.size)); clear hb))
        go_upto_region 10 with (go_at_call 12; refine (HPX.out _ HB2.out).mono ?_; rintro e w3 ⟨A3, c3, ms3, rfl, hpm, hin, hb, hlen⟩; have HB3 := hide (HB2.out.trans (hb.mono HB2.out.size)); have HPM := hide hpm; have HI3 := hide hin; have HL3 := hide hlen; clear hb hpm hin hlen)
        have HS : Hid (Calls Tryd.prog 11 #[.slice A3 j c3, .slice A j c] w3 fun e w' => e = .returned (.bool true) ∧ Below w3.heap.size w3 w') :=
          sameMarks_true A3 A j c3 c ms3 l w3 HI3.out ((H.out.below HB3.out).more HB3.out.size) (same_of HPM.out HL3.out HLE.out) (by omega)
        go_wp2_with (go_at_call 11; refine HS.out.mono ?_; rintro e w4 ⟨rfl, hb4⟩; have HB4 := hide (HB3.out.trans (hb4.mono HB3.out.size)); clear hb4)
        go_ret
        exact ⟨rfl, HB4.out⟩
end Go.Proofs.YtenebkkfjalcaaaDoor
