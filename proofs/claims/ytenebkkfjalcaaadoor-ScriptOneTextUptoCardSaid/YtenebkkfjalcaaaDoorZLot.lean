/-
  The law ScriptOneText, walked: what is read as a trace is written as the same text; traces join line by line.
-/
import Derived.Test.YtenebkkfjalcaaaDoorZPpg
import Derived.Test.YtenebkkfjalcaaaDoorZOtp
import Derived.Test.YtenebkkfjalcaaaDoorZMoo
import Derived.Test.YtenebkkfjalcaaaDoorZLrt
set_option linter.unusedVariables false
set_option linter.unusedSimpArgs false
namespace Go.Proofs.YtenebkkfjalcaaaDoor
open Go.RowKit Go.WideShapes Go.ChangeShapes Q

section
variable {P : Program} (w : World)
/-- An append whose guard holds. -/
theorem wpList_append_w {ops : Array Oper} {rest : List Oper} {o : Oper} {a : Act} {Q : Exit → Act → World → Prop} (hw : Region.wanted o (yielded ops a.tmps) = true) (s x : Operand) (t : TypeId)
    (ho : o.op = .call { callee := .builtin .append, args := #[s, x], argTypes := #[t, t] })
    (base : Nat) (e : TypeId) (i : TypeInfo) (z : Value) (size bytes : Nat) (ht : P.underlying t = some (.slice e)) (hi : P.info? e = some i) (hz : i.zero = some z)
    (hsize : i.size = size) (hby : i.bytes = bytes) (hzs : z.cells.size = size) (hsz : 0 < size)
    (v : Value) (n : Nat) (xs : List Value) (hs : a.eval s = v) (hown : w.ownsRow base e size v n xs)
    (B : Nat) (A : Option Addr) (m c : Nat) (news : List Value) (hx : a.eval x = .slice A m c) (hr : Reads w B size A m news) (h1 : ∀ u ∈ news, u.oneCell' = true)
    (h63 : n + m ≤ maxLen) (hbytes : (n + m) * bytes ≤ 140737488355328) (hbase : base ≤ w.heap.size)
    (h : ∀ v' w', w'.ownsRow base e size v' (n + m) (xs ++ news) → w.grownBy w' v.ownBlock → (v'.ownBlock = v.ownBlock ∨ v'.ownBlock = some w.heap.size) → wpList P ops Q rest (a.put o.dst v') w') : wpList P ops Q (o :: rest) a w :=
  wpList_step fun K hK => by
    rw [if_pos hw]
    exact wp_append_any w s x t ho base e i z size bytes ht hi hz hsize hby hzs hsz v n xs hs hown B A m c news hx hr h1 h63 hbytes hbase fun v' w' h2 h3 h4 => hK _ _ (h v' w' h2 h3 h4)
end
theorem mk_lens {m : Mk} {w : World} {B : Nat} (h : MkIn w B m) : m.ms.length = m.nm ∧ m.ts.length = m.nt ∧ m.bd.length = m.nb := by
  refine ⟨RS.len h.mem, RI.len h.tr, ?_⟩
  have := Reads.len_ h.body
  simpa [Lib.byteCells] using this
theorem mkCells_app (a b : List Mk) : mkCells (a ++ b) = mkCells a ++ mkCells b := by simp [mkCells]
theorem mkCells_one (l : List Mk) : ∀ u ∈ mkCells l, u.oneCell' = true := by
  intro u hu
  unfold mkCells at hu
  rw [List.mem_flatMap] at hu
  obtain ⟨m, _, h⟩ := hu
  exact cs_one m u h
/-- Behind an append onto a row of the call's own, what lay below stays. -/
theorem grown_low {w w4 w6 w7 : World} {A : Option Addr} {n c : Nat} {xs : List Value} (hg : w6.grownBy w7 (Value.slice A n c).ownBlock) (ho : w6.ownsRow w4.heap.size 48 26 (.slice A n c) n xs) (h46 : w4.heap.size ≤ w6.heap.size) (h4 : w.heap.size ≤ w4.heap.size) : Below w.heap.size w6 w7 :=
  (Below.refl w.heap.size w6).grown hg (Nat.le_trans h4 h46) (fun k hk => Nat.le_trans h4 (ho.lt k hk).1)
/-- The marks twice, one behind the other, and the marks read of the text twice. -/
theorem same_join {L : List PM} {N2 c5 c7 : Nat} {w4 w5 w6 w7 : World} {A4 A5 A7 : Option Addr} {ms2 ms4 l5 l6 : List Mk} (h2 : ms2.map Mk.pm = L) (h4 : ms4.map Mk.pm = L ++ L) (hl4 : ∀ m ∈ ms4, m.ms.length = m.nm ∧ m.ts.length = m.nt ∧ m.bd.length = m.nb)
    (h5 : SameC ms2 l5) (h6 : SameC ms2 l6) (hi : MsIn w4 w4.heap.size A4 N2 ms4) (hb46 : Below w4.heap.size w4 w6) (ho : w6.ownsRow w4.heap.size 48 26 (.slice A5 L.length c5) L.length (mkCells l5)) (hm5 : ∀ m ∈ l5, MkT w6 w4.heap.size m) (hm6 : ∀ m ∈ l6, MkT w6 w5.heap.size m)
    (h7 : w7.ownsRow w4.heap.size 48 26 (.slice A7 N2 c7) N2 (mkCells l5 ++ mkCells l6)) (hg : w6.grownBy w7 (Value.slice A5 L.length c5).ownBlock) :
    ∀ (c c' : Nat), N2 ≤ 2097152 → Calls Tryd.prog 11 #[.slice A4 N2 c, .slice A7 N2 c'] w7 fun e w' => e = .returned (.bool true) ∧ Below w7.heap.size w7 w' := by
  intro c c' hN
  have hb47 : Below w4.heap.size w4 w7 := hb46.trans ((Below.refl w4.heap.size w6).grown hg hb46.size (fun k hk => (ho.lt k hk).1))
  have e5 := same_map h5 Mk.pm (fun _ _ _ _ _ _ _ => rfl)
  have e6 := same_map h6 Mk.pm (fun _ _ _ _ _ _ _ => rfl)
  have hent : ∀ m ∈ l5 ++ l6, MkIn w7 w7.heap.size m := fun m hm => by
    rcases List.mem_append.1 hm with hm | hm
    · exact ((hm5 m hm).push ho hg).inn
    · exact ((hm6 m hm).push ho hg).inn
  refine sameMarks_true A4 A7 N2 c c' ms4 (l5 ++ l6) w7 ((hi.below hb47).more hb47.size) ⟨by rw [mkCells_app]; exact Reads.of_own h7, hent⟩ (same_of ?_ hl4 fun m hm => mk_lens (hent m hm)) (by omega)
  rw [h4, List.map_append, e5, e6, h2]
theorem parse_q {s : ByteArray} {L : List PM} {n : Nat} {c : Int} (h : traceT s.data.toList = (L, n, c)) {w : World} (hs : s.size ≤ 4000000) (hLN : ∀ q ∈ linG [] s.data.toList, q.length ≤ 1048576) (hT : Tab w) (hK : KT w) (hM : ML w) :
    Calls Tryd.prog 12 #[.string s] w fun e w' => TrQ L (n : Int) c w e w' := by
  refine (pparse_gen s w hs hLN hT hK hM).mono ?_
  intro e w' hh
  have := hh.q
  rw [h] at this
  exact this

set_option maxRecDepth 100000 in
set_option maxHeartbeats 16000000 in
theorem one_any (s : ByteArray) (w : World) (hs : s.size ≤ 1048576) (hT : Tab w) (hK : KT w) (hM : ML w) :
    Calls Tryd.prog 6 #[.string s] w fun e w' => e = .returned (.bool true) ∧ Below w.heap.size w w' := by
  have HT := hide hT
  have HKT := hide hK
  have HML := hide hM
  have HLN : Hid (∀ q ∈ linG [] s.data.toList, q.length ≤ 1048576) := fun q hq => by
    have := lin_sz s.data.toList [] q hq
    rw [List.length_nil, str_len] at this
    omega
  have HTOP : Hid (Calls Tryd.prog 12 #[.string (S headT)] w fun e w' => TrQ [] 0 0 w e w') :=
    parse_q (s := S headT) (L := []) (n := 0) (c := 0) (by have := trace_marks (L := []) (fun p hp => by cases hp); exact this) (by rw [S_size]; decide) (fun q hq => by
      have := lin_sz (S headT).data.toList [] q hq
      rw [S_data, List.length_nil] at this
      have h2 : headT.length = 16 := rfl
      omega) hT hK hM
  have HPX : Hid (∀ W, Below w.heap.size w W → ∀ L n c, traceT s.data.toList = (L, n, c) → Calls Tryd.prog 12 #[.string s] W fun e w' => TrQ L (n : Int) c W e w') := fun W hb L n c h => parse_q h (by omega) HLN.out (hT.below hb) (hK.below hb) (hM.below hb)
  clear hT hK hM
  rcases trace_cases s.data.toList with h1 | ⟨j, hj, h1⟩ | ⟨L, h1, h2, h3⟩
  · have HP2 : Hid (∀ W, Below w.heap.size w W → Calls Tryd.prog 12 #[.string s] W fun e w' => TrQ [] 0 21 W e w') := fun W hb => HPX.out W hb [] 0 21 h1
    clear h1 HPX
    go_enter Tryd.func6, Tryd.ntmps6
    go_upto_region 5 with (go_at_call 12; refine HTOP.out.mono ?_; rintro e w1 ⟨A, c, ms, rfl, _, _, hb, _⟩; have HB1 := hide hb; clear hb)
    go_wp2_with (go_at_call 12; refine (HP2.out _ HB1.out).mono ?_; rintro e w2 ⟨A2, c2, ms2, rfl, _, _, hb, _⟩; have HB2 := hide (HB1.out.trans (hb.mono HB1.out.size)); clear hb)
    go_ret
    exact ⟨rfl, HB2.out⟩
  · have HP2 : Hid (∀ W, Below w.heap.size w W → Calls Tryd.prog 12 #[.string s] W fun e w' => TrQ [] (j : Int) 23 W e w') := fun W hb => HPX.out W hb [] j 23 h1
    have j1 : (1 : Int) < (j : Int) := by omega
    clear h1 HPX
    go_enter Tryd.func6, Tryd.ntmps6
    go_upto_region 5 with (go_at_call 12; refine HTOP.out.mono ?_; rintro e w1 ⟨A, c, ms, rfl, _, _, hb, _⟩; have HB1 := hide hb; clear hb)
    go_wp2_with (go_at_call 12; refine (HP2.out _ HB1.out).mono ?_; rintro e w2 ⟨A2, c2, ms2, rfl, _, _, hb, _⟩; have HB2 := hide (HB1.out.trans (hb.mono HB1.out.size)); clear hb)
    go_ret
    exact ⟨rfl, HB2.out⟩
  · have HP2 : Hid (∀ W, Below w.heap.size w W → Calls Tryd.prog 12 #[.string s] W fun e w' => TrQ L 0 0 W e w') := fun W hb => HPX.out W hb L 0 0 h1
    obtain ⟨R, hR⟩ : ∃ R, R = L.flatMap lnP := ⟨_, rfl⟩
    rw [← hR] at h2
    have hsl : s.size = 16 + R.length := by rw [← str_len, h2]; simp [headT]; omega
    have hLl : L.length ≤ 1048576 := by
      have := marks_count L
      rw [← hR] at this
      omega
    have HZ : Hid (∀ p ∈ L, PZ p 1048576 1048576) := fun p hp => by
      have e1 := ok_sz (p := p) (s := lineL p.toMk) ⟨(h3 p hp).1, rfl⟩
      have e2 := mem_len_le hp
      rw [← hR] at e2
      exact e1.mono (by omega) (by omega)
    have HW : Hid (∀ p ∈ L, wrB p.toMk = true) := fun p hp => (h3 p hp).1
    obtain ⟨X, hX⟩ : ∃ X, X = S R := ⟨_, rfl⟩
    have hxx : s.extract 16 s.size = X := by
      rw [hX]
      apply bytes_inj
      rw [sub_list, List.take_of_length_le (by rw [str_len]; exact Nat.le_refl _), h2, S_data]
      rfl
    have hsm : ¬ 9223372036854775807 < s.size + X.size := by rw [hX, S_size]; omega
    have e2 : s ++ X = S (s.data.toList ++ R) := by rw [hX, ← S_append, S_self]
    obtain ⟨N2, hN2⟩ : ∃ N2, N2 = (L ++ L).length := ⟨_, rfl⟩
    have HP3 : Hid (∀ W, Below w.heap.size w W → Calls Tryd.prog 12 #[.string (s ++ X)] W fun e w' => ∃ A cap ms, e = .returned (.tuple #[.slice A N2 cap, .int .i64 0, .int .i64 0]) ∧ ms.map Mk.pm = L ++ L ∧ MsIn w' w'.heap.size A N2 ms ∧ Below W.heap.size W w' ∧ (∀ m ∈ ms, m.ms.length = m.nm ∧ m.ts.length = m.nt ∧ m.bd.length = m.nb)) := fun W hb => by
      have h4 : (S (s.data.toList ++ R)).data.toList = headT ++ (L ++ L).flatMap lnP := by rw [S_data, h2, List.flatMap_append, ← hR, List.append_assoc]
      have h5 : ∀ p ∈ L ++ L, OkL p := fun p hp => by
        rcases List.mem_append.1 hp with hp | hp <;> exact h3 p hp
      rw [e2, hN2]
      refine parse_q (L := L ++ L) (n := 0) (c := 0) (by rw [h4]; exact trace_marks h5) (by rw [S_size, List.length_append, str_len]; omega) (fun q hq => ?_) (HT.out.below hb) (HKT.out.below hb) (HML.out.below hb)
      rw [h4, head_lines, lin_marks _ h5] at hq
      rcases List.mem_cons.1 hq with rfl | hq
      · decide
      · obtain ⟨p, hp, rfl⟩ := List.mem_map.1 hq
        have hp' : p ∈ L := by rcases List.mem_append.1 hp with hp | hp <;> exact hp
        have e4 := mem_len_le hp'
        rw [← hR] at e4
        omega
    have HN2 : Hid (N2 = L.length + L.length) := by show _ = _; rw [hN2, List.length_append]
    have HTX : Hid (s.data.toList = headT ++ L.flatMap lnP) := by show _ = _; rw [h2, hR]
    have hN3 : N2 ≤ 2097152 := by rw [HN2.out]; omega
    have x16 : (16 : Int) ≤ (s.size : Int) := by omega
    obtain ⟨i48, hi48, hz48, hs48, hb48⟩ := info_parts info48
    have I48 := hide hi48
    have Z48 := hide hz48
    clear h1 HPX h2 hR hX e2 hN2 h3 hsl hi48 hz48
    go_enter Tryd.func6, Tryd.ntmps6
    go_upto_region 5 with (go_at_call 12; refine HTOP.out.mono ?_; rintro e w1 ⟨A, c, ms, rfl, _, _, hb, _⟩; have HB1 := hide hb; clear hb)
    go_upto_region 8 with (go_at_call 12; refine (HP2.out _ HB1.out).mono ?_; rintro e w2 ⟨A2, c2, ms2, rfl, hpm, hin, hb, hlen⟩; have HB2 := hide (HB1.out.trans (hb.mono HB1.out.size)); have HPM := hide hpm; have HIN := hide hin; have HLE := hide hlen; clear hb hpm hin hlen)
    have HPR : Hid (Calls Tryd.prog 8 #[.slice A2 L.length c2] w2 fun e w' => e = .returned (.tuple #[.string s, .int .i64 0]) ∧ Below w2.heap.size w2 w') := by
      have hmz : ∀ m ∈ ms2, MkZ m := fun m hm => by
        have hp : m.pm ∈ L := by rw [← HPM.out]; exact List.mem_map_of_mem hm
        exact mkZ_of (HZ.out _ hp) (HLE.out m hm).1 (HLE.out m hm).2.1 (HLE.out m hm).2.2 (Nat.le_refl _) (Nat.le_refl _)
      have hall : ms2.all wrB = true := by
        rw [List.all_eq_true]
        intro m hm
        have hp : m.pm ∈ L := by rw [← HPM.out]; exact List.mem_map_of_mem hm
        exact HW.out _ hp
      have := pprint_any A2 L.length c2 ms2 w2 HIN.out hmz hLl (HT.out.below HB2.out) (HKT.out.below HB2.out)
      unfold resT resN at this
      rw [if_pos hall, if_pos hall, out_marks ms2 (fun m hm => ⟨(HLE.out m hm).1, (HLE.out m hm).2.1⟩), HPM.out, ← HTX.out, S_self] at this
      exact this
    go_upto_region 11 with (go_at_call 8; refine HPR.out.mono ?_; rintro e w3 ⟨rfl, hb⟩; have HB3 := hide (HB2.out.trans (hb.mono HB2.out.size)); have HIN3 := hide ((HIN.out.below hb).more hb.size); clear hb)
    go_upto_region 12 with (go_at_call 12; refine (HP3.out _ HB3.out).mono ?_; rintro e w4 ⟨A4, c4, ms4, rfl, hpm, hin, hb, hlen⟩; have HB4 := hide (HB3.out.trans (hb.mono HB3.out.size)); have HIN4 := hide ((HIN3.out.below hb).more hb.size); have HPM4 := hide hpm; have HI4 := hide hin; have HLE4 := hide hlen; clear hb hpm hin hlen)
    have H7 := hide (marksOf_own A2 L.length c2 ms2 w4 HIN4.out hLl)
    refine wp_region_lit ?_
    refine wpList_step (fun K hK => ?_)
    rw [if_pos (by rfl)]
    go_simp
    refine hK _ _ ?_
    clear hK K
    try simp only [Act.put, List.setIfInBounds_toArray, List.set_cons_zero, List.set_cons_succ]
    refine wpList_step (fun K hK => ?_)
    rw [if_pos (by rfl)]
    go_simp
    refine hK _ _ ?_
    clear hK K
    try simp only [Act.put, List.setIfInBounds_toArray, List.set_cons_zero, List.set_cons_succ]
    refine wpList_step (fun K hK => ?_)
    rw [if_pos (by rfl)]
    go_simp
    refine hK _ _ ?_
    clear hK K
    try simp only [Act.put, List.setIfInBounds_toArray, List.set_cons_zero, List.set_cons_succ]
    refine wpList_step (fun K hK => ?_)
    rw [if_pos (by rfl)]
    go_simp
    refine hK _ _ ?_
    clear hK K
    try simp only [Act.put, List.setIfInBounds_toArray, List.set_cons_zero, List.set_cons_succ]
    refine wpList_step (fun K hK => ?_)
    rw [if_pos (by rfl)]
    go_simp
    refine hK _ _ ?_
    clear hK K
    try simp only [Act.put, List.setIfInBounds_toArray, List.set_cons_zero, List.set_cons_succ]
    refine wpList_step (fun K hK => ?_)
    rw [if_pos (by rfl)]
    go_simp
    refine hK _ _ ?_
    clear hK K
    try simp only [Act.put, List.setIfInBounds_toArray, List.set_cons_zero, List.set_cons_succ]
    refine wpList_step (fun K hK => ?_)
    rw [if_pos (by rfl)]
    go_simp
    refine hK _ _ ?_
    clear hK K
    try simp only [Act.put, List.setIfInBounds_toArray, List.set_cons_zero, List.set_cons_succ]
    refine wpList_step (fun K hK => ?_)
    rw [if_pos (by rfl)]
    go_simp
    refine hK _ _ ?_
    clear hK K
    try simp only [Act.put, List.setIfInBounds_toArray, List.set_cons_zero, List.set_cons_succ]
    refine wpList_step (fun K hK => ?_)
    rw [if_pos (by rfl)]
    go_simp
    refine hK _ _ ?_
    clear hK K
    try simp only [Act.put, List.setIfInBounds_toArray, List.set_cons_zero, List.set_cons_succ]
    refine wpList_step (fun K hK => ?_)
    rw [if_pos (by rfl)]
    go_simp
    go_at_call 7
    refine H7.out.mono ?_
    rintro e w5 ⟨A5, c5, l5, rfl, hsame, hin, hb, hown, hmt⟩
    have HSA5 := hide hsame
    have HB5 := hide (HB4.out.trans (hb.mono HB4.out.size))
    have HIN5 := hide ((HIN4.out.below hb).more hb.size)
    have HI5 := hide ((HI4.out.below hb).more hb.size)
    have HO5 := hide hown
    have HM5 := hide hmt
    have H7b := hide (marksOf_own A2 L.length c2 ms2 w5 HIN5.out hLl)
    have hw45 := hb.size
    have HW45 := hide hb
    clear hsame hin hb hown hmt
    refine hK _ _ ?_
    clear hK K
    try simp only [Act.put, List.setIfInBounds_toArray, List.set_cons_zero, List.set_cons_succ]
    refine wpList_step (fun K hK => ?_)
    rw [if_pos (by rfl)]
    go_simp
    refine hK _ _ ?_
    clear hK K
    try simp only [Act.put, List.setIfInBounds_toArray, List.set_cons_zero, List.set_cons_succ]
    refine wpList_step (fun K hK => ?_)
    rw [if_pos (by rfl)]
    go_simp
    go_at_call 7
    refine H7b.out.mono ?_
    rintro e w6 ⟨A6, c6, l6, rfl, hsame, hin, hb, hown, hmt⟩
    have HSA6 := hide hsame
    have HB6 := hide (HB5.out.trans (hb.mono HB5.out.size))
    have HI6 := hide ((HI5.out.below hb).more hb.size)
    have HO6 := hide (own_step HO5.out hb)
    have HM6 : Hid (∀ m ∈ l5, MkT w6 w4.heap.size m) := (fun m hm => (HM5.out m hm).step hb)
    have HMM := hide hmt
    have HMI := hide hin
    have hw46 : w4.heap.size ≤ w6.heap.size := Nat.le_trans hw45 hb.size
    have HW46 := hide (HW45.out.trans (hb.mono hw45))
    clear hsame hin hb hown hmt
    refine hK _ _ ?_
    clear hK K
    try simp only [Act.put, List.setIfInBounds_toArray, List.set_cons_zero, List.set_cons_succ]
    refine wpList_append_w _ (by rfl) (.tmp 94) (.tmp 96) 22 rfl w4.heap.size 48 i48 _ 26 288 Tryd.underlying22 I48.out Z48.out hs48 hb48 rfl (by omega) (.slice A5 L.length c5) L.length (mkCells l5) rfl HO6.out w6.heap.size A6 L.length c6 (mkCells l6) rfl HMI.out.row (mkCells_one _) (by unfold maxLen; omega) (by omega) hw46 ?_
    intro v7 w7 hown7 hgr7 _
    rw [← HN2.out] at hown7
    obtain ⟨A7, c7, rfl⟩ := own_slice' hown7
    have HO7 := hide hown7
    have HG7 := hide hgr7
    have HS7 := hide (same_join HPM.out HPM4.out HLE4.out HSA5.out HSA6.out HI4.out HW46.out HO6.out HM6.out HMM.out HO7.out HG7.out)
    have HB7 := hide (HB6.out.trans (grown_low HG7.out HO6.out hw46 HB4.out.size))
    clear hown7 hgr7
    try simp only [Act.put, List.setIfInBounds_toArray, List.set_cons_zero, List.set_cons_succ]
    refine wpList_step (fun K hK => ?_)
    rw [if_pos (by rfl)]
    go_simp
    go_at_call 11
    refine (HS7.out c4 c7 hN3).mono ?_
    rintro e w8 ⟨rfl, hb8⟩
    have HB8 := hide (HB7.out.trans (hb8.mono HB7.out.size))
    clear hb8
    refine hK _ _ ?_
    clear hK K
    try simp only [Act.put, List.setIfInBounds_toArray, List.set_cons_zero, List.set_cons_succ]
    refine wpList_step (fun K hK => ?_)
    rw [if_pos (by rfl)]
    go_simp
    refine hK _ _ ?_
    clear hK K
    try simp only [Act.put, List.setIfInBounds_toArray, List.set_cons_zero, List.set_cons_succ]
    refine wpList_step (fun K hK => ?_)
    rw [if_pos (by rfl)]
    go_simp
    refine hK _ _ ?_
    clear hK K
    try simp only [Act.put, List.setIfInBounds_toArray, List.set_cons_zero, List.set_cons_succ]
    go_wp2_with fail
    go_ret
    exact ⟨rfl, HB8.out⟩
end Go.Proofs.YtenebkkfjalcaaaDoor
