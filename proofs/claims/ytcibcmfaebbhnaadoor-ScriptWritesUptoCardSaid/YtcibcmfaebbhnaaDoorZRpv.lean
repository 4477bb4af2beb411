/-
  The reference's PrintEvent. (Printed by wip/tools/mkrpv.py.)
-/
import Derived.Test.YtcibcmfaebbhnaaDoorZWri
import Derived.Test.YtcibcmfaebbhnaaDoorZWpa
import Derived.Test.YtcibcmfaebbhnaaDoorZSfu
set_option linter.unusedVariables false
set_option linter.unusedSimpArgs false
namespace Go.Proofs.YtcibcmfaebbhnaaDoor
open Go.RowKit Go.WideShapes Go.ChangeShapes Q
theorem line_sz {m : Em} (ho : EvOk m) (hb : m.bd.length = m.nb) (hn : m.sd.length = m.ns) : (lineT m.ev).length ≤ 30000000 := by
  have hbk := ho.bulk
  have hit : (Lib.itoa m.a).length ≤ 21 := itoa_sz ho.a
  have hq : ∀ x : ByteArray, x.size ≤ 1048576 → (quoteL x.data.toList).length ≤ 4194400 := fun x hx => by
    have := quote_sz x.data.toList
    rw [str_len] at this
    omega
  unfold lineT lineW
  split
  · rw [cat_join]
    split
    · rename_i h4 hop
      have hop' : 1 ≤ m.op ∧ m.op ≤ 9 := hop
      unfold askW
      refine Nat.le_trans (cat_sz 4194400 _ _ ?_) ?_
      · intro p hp
        have e : opL.getD (m.ev.op.toNat - 1) [] = opW m.op.toNat := by
          obtain ⟨i, hi⟩ : ∃ i, m.op.toNat = i + 1 := ⟨m.op.toNat - 1, by omega⟩
          show opL.getD (m.op.toNat - 1) [] = opW m.op.toNat
          rw [hi]
          rfl
        have hw : (opW m.op.toNat).length ≤ 6 := by
          have : ∀ i : Fin 10, (opW i.val).length ≤ 6 := by decide +kernel
          exact this ⟨m.op.toNat, by omega⟩
        rw [e] at hp
        have h1 := hq m.key (by omega)
        have h2 := hq m.val (by omega)
        have h3 := hq m.old (by omega)
        simp only [List.mem_cons, List.mem_append] at hp
        rcases hp with rfl | rfl | rfl | hp | hp
        · exact Nat.le_trans hit (by omega)
        · omega
        · exact h1
        · split at hp
          · obtain rfl : p = quoteL m.val.data.toList := List.mem_singleton.1 hp
            exact h2
          · simp at hp
        · split at hp
          · obtain rfl : p = quoteL m.old.data.toList := List.mem_singleton.1 hp
            exact h3
          · simp at hp
      · have : ∀ (a b : List (List UInt8)), a.length ≤ 1 → b.length ≤ 1 → (a ++ b).length ≤ 2 := fun a b h1 h2 => by simp; omega
        have h1 := this (if m.ev.val ≠ [] ∨ m.ev.old ≠ [] then [quoteL m.ev.val] else []) (if m.ev.old ≠ [] then [quoteL m.ev.old] else []) (by split <;> simp) (by split <;> simp)
        simp only [List.length_cons, List.length_nil] at h1 ⊢
        omega
    · have e : (cat [100, 111] (Lib.itoa m.a :: [])).length ≤ 100 := by
        simp [cat]
        omega
      exact Nat.le_trans e (by omega)
  · split
    · rw [cat_join]
      refine Nat.le_trans (cat_sz 21 _ _ ?_) ?_
      · intro p hp
        obtain ⟨x, hx, rfl⟩ := List.mem_map.1 hp
        exact itoa_sz (ho.sd x hx)
      · have e : m.ev.sd.length = m.ns := hn
        simp only [List.length_cons, List.length_nil, List.length_map, e]
        omega
    · split
      · rename_i f hf
        rw [cat_join]
        obtain ⟨j, hj⟩ := List.mem_iff_getElem?.1 (List.mem_of_find?_eq_some hf)
        have hs := form_sz hj
        refine Nat.le_trans (cat_sz 4194400 _ _ ?_) ?_
        · intro p hp
          obtain ⟨c, _, rfl⟩ := List.mem_map.1 hp
          exact lt_sz ho hb c
        · rw [List.length_map]
          omega
      · exact Nat.le_trans (Nat.le_of_eq rfl) (Nat.zero_le _)
theorem writ_sz {m : Em} (ho : EvOk m) (hb : m.bd.length = m.nb) (hn : m.sd.length = m.ns) : (writT m.ev).length ≤ 30000000 := by
  unfold writT
  split
  · simp
  · exact line_sz ho hb hn
/-- What comes out of writing an event. -/
def RprP (nodes : Int) (f : Ev) (w : World) (e : Ending) (w' : World) : Prop := e = .returned (.tuple #[.string (S (printE nodes f).1), .int .i64 (printE nodes f).2]) ∧ Below w.heap.size w w'
theorem rpr_out {nodes : Int} {f : Ev} {w w' : World} {x : List UInt8} {y : Int} (h : printE nodes f = (x, y)) (hb : Below w.heap.size w w') : RprP nodes f w (.returned (.tuple #[.string (S x), .int .i64 y])) w' := by
  unfold RprP
  rw [h]
  exact ⟨rfl, hb⟩
set_option maxRecDepth 100000 in
set_option maxHeartbeats 3000000 in
theorem rprint_ev (m : Em) (nodes : Int) (w : World) (h : EmIn w w.heap.size m) (ho : EvOk m) :
    Calls Tryd.prog 14 #[.agg m.cs, .int .i64 nodes] w fun e w' => RprP nodes m.ev w e w' := by
  obtain ⟨T, hT⟩ : ∃ T, T = writT m.ev := ⟨_, rfl⟩
  have HTS : Hid (T.length ≤ 30000000) := by
    show _ ≤ _
    rw [hT]
    exact writ_sz ho h.nb_len (RI.len h.sid)
  have HWR : Hid (∀ W, Below w.heap.size w W → Calls Tryd.prog 34 #[.agg m.cs] W fun e w' => e = .returned (.string (S T)) ∧ Below W.heap.size W w') := fun W hb => by
    rw [hT]
    exact written_any m W ((h.below hb).up hb.size) ho
  have HIN := hide h
  have HT := hide hT
  clear h ho hT
  by_cases hlo : nodes < 1
  · have HR : Hid (printE nodes m.ev = ([], 1)) := by
      show _ = _
      unfold printE
      rw [if_neg (fun h => by omega)]
    go_enter Tryd.func14, Tryd.ntmps14
    go_wp2_with fail
    refine bodyPost_ret (results_tmp2 rfl _ _ _) rfl ?_
    exact rpr_out HR.out ((Below.refl _ _).alloc (Nat.le_refl _) _)
  by_cases hhi : 16 < nodes
  · have HR : Hid (printE nodes m.ev = ([], 1)) := by
      show _ = _
      unfold printE
      rw [if_neg (fun h => by omega)]
    go_enter Tryd.func14, Tryd.ntmps14
    go_wp2_with fail
    refine bodyPost_ret (results_tmp2 rfl _ _ _) rfl ?_
    exact rpr_out HR.out ((Below.refl _ _).alloc (Nat.le_refl _) _)
  have HN : Hid (1 ≤ nodes ∧ nodes ≤ 16) := by
    show _ ∧ _
    omega
  have HPE : Hid (∀ W, Calls Tryd.prog 11 #[.string (S T), .int .i64 nodes] W fun e w' => EvP (lineE nodes T) W.heap.size W e w') := fun W => rparse_ev (S T) nodes W (by rw [S_size]; exact HTS.out)
  go_enter Tryd.func14, Tryd.ntmps14
  go_upto_region 1 with fail
  generalize hW1 : World.alloc w _ = W1
  have HB1 : Hid (Below w.heap.size w W1) := by
    show Below _ _ _
    rw [← hW1]
    exact (Below.refl _ _).alloc (Nat.le_refl _) _
  have HX1 : Hid (Blk W1 w.heap.size 29 m.cs) := by
    show Blk _ _ _ _
    rw [← hW1]
    exact Blk.new _ _ _
  clear hW1
  go_upto_region 3 with fail
  refine wp_region_lit ?_
  refine wpList_value rfl (.agg m.cs) (ex_load 29 (.tmp 2) rfl _ rfl m.cs _ Tryd.underlying29 rfl (ld29 _ (em_size _)) (ebox_all HX1.out)) ?_
  try simp only [Act.put, List.setIfInBounds_toArray, List.set_cons_zero, List.set_cons_succ]
  refine wpList_step (fun K hK => ?_)
  rw [if_pos (by rfl)]
  go_simp
  go_at_call 34
  refine (HWR.out _ HB1.out).mono ?_
  rintro e w2 ⟨rfl, hb2⟩
  have HX2 := hide (HX1.out.below hb2 HX1.out.lt)
  have HB2 := hide (HB1.out.trans (hb2.mono HB1.out.size))
  refine hK _ _ ?_
  clear hK K hb2
  try simp only [Act.put, List.setIfInBounds_toArray, List.set_cons_zero, List.set_cons_succ]
  go_upto_region 4 with fail
  refine wp_region_lit ?_
  refine wpList_value rfl (.string (S T)) (by go_simp) ?_
  try simp only [Act.put, List.setIfInBounds_toArray, List.set_cons_zero, List.set_cons_succ]
  refine wpList_value rfl (.int .i64 nodes) (by go_simp) ?_
  try simp only [Act.put, List.setIfInBounds_toArray, List.set_cons_zero, List.set_cons_succ]
  refine wpList_step (fun K hK => ?_)
  rw [if_pos (by rfl)]
  go_simp
  go_at_call 11
  refine (HPE.out _).mono ?_
  rintro e w3 ⟨m2, rfl, hev, ht, hb3⟩
  have HX3 := hide (HX2.out.below hb3 HX2.out.lt)
  have HB3 := hide (HB2.out.trans (hb3.mono HB2.out.size))
  have HM2 := hide ht
  have HEV := hide hev
  refine hK _ _ ?_
  clear hK K hb3 ht hev
  try simp only [Act.put, List.setIfInBounds_toArray, List.set_cons_zero, List.set_cons_succ]
  refine wpList_step (fun K hK => ?_)
  rw [if_pos (by rfl)]
  go_simp
  refine hK _ _ ?_
  clear hK K
  try simp only [Act.put, List.setIfInBounds_toArray, List.set_cons_zero, List.set_cons_succ]
  refine wpList_store_fresh rfl 29 (.tmp 7) (.tmp 18) rfl _ m2.cs rfl rfl (ld29 _ (em_size _)) rfl (ecs_all m2) ?_
  try simp only [Act.put, List.setIfInBounds_toArray, List.set_cons_zero, List.set_cons_succ]
  obtain ⟨W4, hW4⟩ : ∃ W4, W4 = w3.alloc (.cells m2.cs 29) := ⟨_, rfl⟩
  have hb4 : Below w3.heap.size w3 W4 := by rw [hW4]; exact (Below.refl _ _).alloc (Nat.le_refl _) _
  have HB4 := hide (HB3.out.trans (hb4.mono HB3.out.size))
  have HM4 := hide (HM2.out.step hb4)
  have HX4 := hide (HX3.out.below hb4 HX3.out.lt)
  have HE4 : Hid (Blk W4 w3.heap.size 29 m2.cs) := by show Blk _ _ _ _; rw [hW4]; exact Blk.new _ _ _
  have HSM := hide (same_full m2 m W4 HM4.out.inn ((HIN.out.below HB4.out).up HB4.out.size))
  rw [← hW4]
  clear hW4 hb4 HM2
  go_upto_region 5 with fail
  by_cases hte : T = []
  · have HR : Hid (printE nodes m.ev = ([], 24)) := by
      show _ = _
      unfold printE
      rw [if_pos HN.out, if_neg (fun h => h.1 (by rw [← HT.out]; exact hte))]
    have hse : S T = ⟨#[]⟩ := by rw [hte]; rfl
    rw [hse]
    go_wp2_with fail
    refine bodyPost_ret (results_tmp2 rfl _ _ _) rfl ?_
    exact rpr_out HR.out HB4.out
  · have t1 : ¬ (S T).toList = [] := by rw [ByteArray.toList_eq, S_data]; exact hte
    have t2 : ((S T).toList == []) = false := by simpa using t1
    refine wp_region_lit ?_
    refine wpList_value rfl (.string (S T)) (by go_simp) ?_
    try simp only [Act.put, List.setIfInBounds_toArray, List.set_cons_zero, List.set_cons_succ]
    refine wpList_value rfl (.bool false) (by go_simp) ?_
    try simp only [Act.put, List.setIfInBounds_toArray, List.set_cons_zero, List.set_cons_succ]
    refine wpList_value rfl (.bool false) (by go_simp) ?_
    try simp only [Act.put, List.setIfInBounds_toArray, List.set_cons_zero, List.set_cons_succ]
    refine wpList_step (fun K hK => one_value (by rfl) (.agg m2.cs) (ex_load 29 (.tmp 7) rfl _ rfl m2.cs _ Tryd.underlying29 rfl (ld29 _ (em_size _)) (ebox_all HE4.out)) (hK _ _ ?_))
    clear hK K
    try simp only [Act.put, List.setIfInBounds_toArray, List.set_cons_zero, List.set_cons_succ]
    refine wpList_step (fun K hK => one_value (by rfl) (.agg m.cs) (ex_load 29 (.tmp 2) rfl _ rfl m.cs _ Tryd.underlying29 rfl (ld29 _ (em_size _)) (ebox_all HX4.out)) (hK _ _ ?_))
    clear hK K
    try simp only [Act.put, List.setIfInBounds_toArray, List.set_cons_zero, List.set_cons_succ]
    refine wpList_step (fun K hK => ?_)
    rw [if_pos (by rfl)]
    go_simp
    go_at_call 10
    refine HSM.out.mono ?_
    rintro e w5 ⟨r, rfl, hr, hb5⟩
    have HB5 := hide (HB4.out.trans (hb5.mono HB4.out.size))
    have HRR := hide hr
    refine hK _ _ ?_
    clear hK K hb5 hr
    try simp only [Act.put, List.setIfInBounds_toArray, List.set_cons_zero, List.set_cons_succ]
    cases r with
    | false =>
      have HR : Hid (printE nodes m.ev = ([], 24)) := by
        show _ = _
        unfold printE
        rw [if_pos HN.out, if_neg (fun h => by
          rw [← HT.out] at h
          exact absurd (HRR.out.2 (HEV.out.trans h.2)) (by decide))]
      go_wp2_with fail
      refine bodyPost_ret (results_tmp2 rfl _ _ _) rfl ?_
      exact rpr_out HR.out HB5.out
    | true =>
      have HR : Hid (printE nodes m.ev = (T, 0)) := by
        show _ = _
        unfold printE
        rw [if_pos HN.out, ← HT.out, if_pos ⟨hte, HEV.out.symm.trans (HRR.out.1 rfl)⟩]
      go_wp2_with fail
      refine bodyPost_ret (results_tmp2 rfl _ _ _) rfl ?_
      exact rpr_out HR.out HB5.out
end Go.Proofs.YtcibcmfaebbhnaaDoor
