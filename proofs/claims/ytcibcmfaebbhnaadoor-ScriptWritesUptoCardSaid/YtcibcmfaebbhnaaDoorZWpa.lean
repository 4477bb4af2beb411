/-
  The reference's ParseEvent.
-/
import Derived.Deep.WholeRow
import Derived.Test.YtcibcmfaebbhnaaDoorZWev
import Derived.Test.YtcibcmfaebbhnaaDoorZWrw
set_option linter.unusedVariables false
set_option linter.unusedSimpArgs false
namespace Go.Proofs.YtcibcmfaebbhnaaDoor
open Go.RowKit Go.WideShapes Go.ChangeShapes Q
/-- The words of a line are no more, and none is longer, than its bytes. -/
theorem wds_sz {nl : Bool} : ∀ (n : Nat) (l : List UInt8), l.length ≤ n → ∀ ws, wordsG nl l = some ws → ws.length ≤ l.length ∧ ∀ d ∈ ws, d.1.length ≤ l.length
  | n, [], hn, ws, h => by
    rw [wds_nil] at h
    obtain rfl := Option.some.inj h
    exact ⟨by simp, fun d hd => by cases hd⟩
  | 0, c :: r, hn, ws, h => by simp at hn
  | n + 1, c :: r, hn, ws, h => by
    have hr : r.length ≤ n := by simpa using hn
    by_cases hb : blk c = true
    · rw [wds_blank r hb] at h
      have := wds_sz n r hr ws h
      refine ⟨by simp; omega, fun d hd => ?_⟩
      have := this.2 d hd
      simp
      omega
    by_cases hq : c.toNat = 34
    · rw [wds_str r hq] at h
      cases hu : unq r with
      | none => rw [hu] at h; cases h
      | some p =>
        obtain ⟨b, t⟩ := p
        rw [hu] at h
        simp only at h
        split at h
        · obtain ⟨l2, h2, rfl⟩ := Option.map_eq_some_iff.1 h
          have h3 := unq_lt _ r (Nat.le_refl _) b t hu
          have h4 := unq_len _ r (Nat.le_refl _) b t hu
          have h5 := wds_sz n t (by omega) l2 h2
          refine ⟨by simp; omega, fun d hd => ?_⟩
          rcases List.mem_cons.1 hd with rfl | hd
          · simp only [List.length_cons]; omega
          · have := h5.2 d hd
            simp only [List.length_cons]; omega
        · cases h
    · have hbf : blk c = false := by simpa using hb
      by_cases hp : plnB nl c = true
      · rw [wds_run r hp] at h
        split at h
        · obtain ⟨l2, h2, rfl⟩ := Option.map_eq_some_iff.1 h
          have h3 := drop_len (plnB nl) r
          have h4 : (r.takeWhile (plnB nl)).length ≤ r.length := (List.takeWhile_sublist _).length_le
          have h5 := wds_sz n _ (by omega) l2 h2
          refine ⟨by simp; omega, fun d hd => ?_⟩
          rcases List.mem_cons.1 hd with rfl | hd
          · simp only [List.length_cons]; omega
          · have := h5.2 d hd
            simp only [List.length_cons]; omega
        · cases h
      · rw [wds_stop r hbf hq (by simpa using hp)] at h
        cases h
section
variable {P : Program}
/-- A whole struct stored into the block that was made last. -/
theorem wpList_store_fresh {ops : Array Oper} {rest : List Oper} {o : Oper} {a : Act} {w : World} {Q : Exit → Act → World → Prop} (hgd : o.guard = none) (ty : TypeId) (x y : Operand) (ho : o.op = .store ty x y) (c c' : Array Value)
    (hx : a.eval x = .pointer (some ⟨w.heap.size, 0, none⟩)) (hy : a.eval y = .agg c') (hi : (P.info? ty).map (·.size) = some c'.size) (hz : c.size = c'.size) (h1 : c'.all (·.oneCell') = true)
    (h : wpList P ops Q rest (a.put o.dst undef) (w.alloc (.cells c' ty))) : wpList P ops Q (o :: rest) a (w.alloc (.cells c ty)) := by
  refine wpList_plain hgd fun K hK => ?_
  unfold Oper.wp execOp
  simp only [ho, hx, hy, run_storeAt_new w ty c c' hi hz h1, Sem.run_bind, Sem.run_pure, Result.andThen_ok]
  exact hK _ _ h
end
theorem evp_out {w W : World} {r b : Nat} {m : Em} {Z : Array Value} {f : Ev} (hr : w.heap.size ≤ r) (hZ : Blk W r 29 Z) (ht : EmU W b m) (hl : Below w.heap.size w W) (h1 : m.ev = f) :
    EvP f b w (.returned (.agg m.cs)) (W.setRow r m.cs) := by
  have hW := only_setRow W r m.cs
  exact ⟨m, rfl, h1, ht.far hZ (by decide) (by decide) hW, hl.trans (hW.below hl.size (fun k hk e => by omega))⟩
/-- The reference's event, whatever the words' row. -/
theorem event_row {w : World} {base : Nat} {A : Option Addr} {c : Nat} {ws : List Wd} (nodes : Int) (h : w.ownsRow base 106 2 (.slice A ws.length c) ws.length (rwc ws)) (hlm : ws.length ≤ 90000000) (hz : ∀ d ∈ ws, d.1.length ≤ 100000000) (hn : 1 ≤ nodes ∧ nodes ≤ 16) :
    Calls Tryd.prog 31 #[.slice A ws.length c, .int .i64 nodes] w fun e w' => EvB (eventE nodes.toNat ws) w.heap.size w e w' := by
  by_cases h0 : ws = []
  · subst h0
    exact event_nil A c nodes w
  · obtain ⟨g, cap, hv, _, hlt⟩ := h.form (List.length_pos_iff.2 h0)
    injection hv with e1 e2 e3
    subst e1 e3
    exact event_any g c ws nodes w (RWd.of_own h hlt) hlm hz hn
set_option maxRecDepth 100000 in
set_option maxHeartbeats 3000000 in
theorem rparse_ev (s : ByteArray) (nodes : Int) (w : World) (hs : s.size ≤ 30000000) :
    Calls Tryd.prog 11 #[.string s, .int .i64 nodes] w fun e w' => EvP (lineE nodes s.data.toList) w.heap.size w e w' := by
  have HWD : Hid (∀ W, Calls Tryd.prog 30 #[.string s] W fun e w' => WdsP 106 rwc (wordsG true s.data.toList) W e w') := fun W => words_ref s W (by omega)
  have HSZ : Hid (∀ ws, wordsG true s.data.toList = some ws → ws.length ≤ 90000000 ∧ ∀ d ∈ ws, d.1.length ≤ 100000000) := fun ws h => by
    have := wds_sz _ _ (Nat.le_refl _) ws h
    rw [str_len] at this
    exact ⟨by omega, fun d hd => by have := this.2 d hd; omega⟩
  go_enter Tryd.func11, Tryd.ntmps11
  go_upto_region 1 with fail
  generalize hW1 : World.alloc w _ = W1
  obtain ⟨Z, hZs, hZ⟩ : ∃ Z : Array Value, Z.size = 13 ∧ Blk W1 w.heap.size 29 Z := by
    rw [← hW1]
    exact ⟨_, rfl, Blk.new _ _ _⟩
  have HB : Hid (Below w.heap.size w W1) := by
    show Below _ _ _
    rw [← hW1]
    exact (Below.refl _ _).alloc (Nat.le_refl _) _
  clear hW1
  go_upto_region 2 with (go_at_call 30; refine (HWD.out _).mono ?_; rintro e w2 ⟨A, c, ws, ok, rfl, hrow, hb2, h1, h2⟩; have HO := hide hrow; have HB2 := hide (HB.out.trans (hb2.mono HB.out.size)); have HZ2 := hide (hZ.below hb2 hZ.lt); have H1 := hide h1; have H2 := hide h2; clear hrow hb2 h1 h2)
  clear hZ
  cases ok with
  | false =>
    have HR : Hid (lineE nodes s.data.toList = Ev.zero) := by
      show _ = _
      unfold lineE
      rw [H2.out rfl]
      split <;> rfl
    go_wp2_with (refine wpList_put_at rfl 29 (.tmp 4) (.tmp 24) rfl (w.heap.size) 0 Em.zero.cs rfl rfl 29 Z HZ2.out (ld29 _ (em_size _)) (by rw [em_size, hZs]; omega) (ecs_all Em.zero) _ (eput_zero Z hZs Em.zero) ?_)
    refine bodyPost_ret (results_29 rfl _ rfl (HZ2.out.row _)) rfl ?_
    exact evp_out (Nat.le_refl _) HZ2.out (EmU.zero _ _) HB2.out (zero_ev.trans HR.out.symm)
  | true =>
    by_cases hlo : nodes < 1
    · have HR : Hid (lineE nodes s.data.toList = Ev.zero) := by
        show _ = _
        unfold lineE
        rw [if_neg (fun h => by omega)]
      go_wp2_with (refine wpList_put_at rfl 29 (.tmp 4) (.tmp 24) rfl (w.heap.size) 0 Em.zero.cs rfl rfl 29 Z HZ2.out (ld29 _ (em_size _)) (by rw [em_size, hZs]; omega) (ecs_all Em.zero) _ (eput_zero Z hZs Em.zero) ?_)
      refine bodyPost_ret (results_29 rfl _ rfl (HZ2.out.row _)) rfl ?_
      exact evp_out (Nat.le_refl _) HZ2.out (EmU.zero _ _) HB2.out (zero_ev.trans HR.out.symm)
    by_cases hhi : 16 < nodes
    · have HR : Hid (lineE nodes s.data.toList = Ev.zero) := by
        show _ = _
        unfold lineE
        rw [if_neg (fun h => by omega)]
      go_wp2_with (refine wpList_put_at rfl 29 (.tmp 4) (.tmp 24) rfl (w.heap.size) 0 Em.zero.cs rfl rfl 29 Z HZ2.out (ld29 _ (em_size _)) (by rw [em_size, hZs]; omega) (ecs_all Em.zero) _ (eput_zero Z hZs Em.zero) ?_)
      refine bodyPost_ret (results_29 rfl _ rfl (HZ2.out.row _)) rfl ?_
      exact evp_out (Nat.le_refl _) HZ2.out (EmU.zero _ _) HB2.out (zero_ev.trans HR.out.symm)
    have hn : 1 ≤ nodes ∧ nodes ≤ 16 := by omega
    have HR : Hid (lineE nodes s.data.toList = (eventE nodes.toNat ws).getD Ev.zero) := by
      show _ = _
      unfold lineE
      rw [if_pos hn, H1.out rfl]
    have HEV := hide (event_row nodes HO.out (HSZ.out ws (H1.out rfl)).1 (HSZ.out ws (H1.out rfl)).2 hn)
    obtain ⟨TE, hTE⟩ : ∃ TE, TE = eventE nodes.toNat ws := ⟨_, rfl⟩
    rw [← hTE] at HEV HR
    clear hTE
    go_upto_region 4 with fail
    refine wp_region_lit ?_
    refine wpList_value rfl (.slice A ws.length c) (by go_simp) ?_
    refine wpList_value rfl (.int .i64 nodes) (by go_simp) ?_
    try simp only [Act.put, List.setIfInBounds_toArray, List.set_cons_zero, List.set_cons_succ]
    refine wpList_step (fun K hK => ?_)
    rw [if_pos (by rfl)]
    go_simp
    go_at_call 31
    refine HEV.out.mono ?_
    rintro e w3 ⟨m, good, rfl, ht, hb3, h1, h2⟩
    have HT := hide (ht.base HB2.out.size)
    have HB3 := hide (HB2.out.trans (hb3.mono HB2.out.size))
    have HZ3 := hide (HZ2.out.below hb3 HZ2.out.lt)
    have H3 := hide h1
    have H4 := hide h2
    clear ht hb3 h1 h2
    refine hK _ _ ?_
    clear hK K
    try simp only [Act.put, List.setIfInBounds_toArray, List.set_cons_zero, List.set_cons_succ]
    refine wpList_value rfl (.tuple #[.agg m.cs, .bool good]) (by go_simp) ?_
    try simp only [Act.put, List.setIfInBounds_toArray, List.set_cons_zero, List.set_cons_succ]
    refine wpList_value rfl (.agg m.cs) (by go_simp) ?_
    try simp only [Act.put, List.setIfInBounds_toArray, List.set_cons_zero, List.set_cons_succ]
    refine wpList_value rfl (.bool good) (by go_simp) ?_
    try simp only [Act.put, List.setIfInBounds_toArray, List.set_cons_zero, List.set_cons_succ]
    refine wpList_step (fun K hK => ?_)
    rw [if_pos (by rfl)]
    go_simp
    refine hK _ _ ?_
    clear hK K
    refine wpList_store_fresh rfl 29 (.tmp 7) (.tmp 29) rfl _ m.cs rfl rfl (ld29 _ (em_size _)) rfl (ecs_all m) ?_
    try simp only [Act.put, List.setIfInBounds_toArray, List.set_cons_zero, List.set_cons_succ]
    obtain ⟨W4, hW4⟩ : ∃ W4, W4 = w3.alloc (.cells m.cs 29) := ⟨_, rfl⟩
    have HBX : Hid (Blk W4 w3.heap.size 29 m.cs) := by
      show Blk _ _ _ _
      rw [hW4]
      exact Blk.new _ _ _
    have hb4 : Below w3.heap.size w3 W4 := by rw [hW4]; exact (Below.refl _ _).alloc (Nat.le_refl _) _
    have HT4 := hide (HT.out.step hb4)
    have HB4 := hide (HB3.out.trans (hb4.mono HB3.out.size))
    have HZ4 := hide (HZ3.out.below hb4 HZ3.out.lt)
    rw [← hW4]
    clear hW4 hb4 HT HZ3
    cases good with
    | false =>
      have HR2 : Hid (lineE nodes s.data.toList = Ev.zero) := by
        show _ = _
        rw [HR.out, H4.out rfl]
        rfl
      go_wp2_with (refine wpList_put_at rfl 29 (.tmp 4) (.tmp 33) rfl (w.heap.size) 0 Em.zero.cs rfl rfl 29 Z HZ4.out (ld29 _ (em_size _)) (by rw [em_size, hZs]; omega) (ecs_all Em.zero) _ (eput_zero Z hZs Em.zero) ?_)
      refine bodyPost_ret (results_29 rfl _ rfl (HZ4.out.row _)) rfl ?_
      exact evp_out (Nat.le_refl _) HZ4.out (EmU.zero _ _) HB4.out (zero_ev.trans HR2.out.symm)
    | true =>
      have HR2 : Hid (m.ev = lineE nodes s.data.toList) := by
        show _ = _
        rw [HR.out, H3.out rfl]
        rfl
      go_upto_region 7 with fail
      refine wp_region_lit ?_
      refine wpList_value rfl (.agg m.cs) (ex_load 29 (.tmp 7) rfl _ rfl m.cs _ Tryd.underlying29 rfl (ld29 _ (em_size _)) (ebox_all HBX.out)) ?_
      simp only [Act.put, List.setIfInBounds_toArray, List.set_cons_zero, List.set_cons_succ]
      go_wp2_with (refine wpList_put_at rfl 29 (.tmp 4) (.tmp 34) rfl (w.heap.size) 0 m.cs rfl rfl 29 Z HZ4.out (ld29 _ (em_size _)) (by rw [em_size, hZs]; omega) (ecs_all m) _ (eput_zero Z hZs m) ?_)
      refine bodyPost_ret (results_29 rfl _ rfl (HZ4.out.row _)) rfl ?_
      exact evp_out (Nat.le_refl _) HZ4.out HT4.out HB4.out HR2.out
end Go.Proofs.YtcibcmfaebbhnaaDoor
