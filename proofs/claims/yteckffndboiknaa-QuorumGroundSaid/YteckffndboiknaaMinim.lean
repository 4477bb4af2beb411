/-
  Contract of the program's Minimal.
-/
import Derived.Test.YteckffndboiknaaSortW
set_option linter.unusedVariables false
set_option linter.unusedSimpArgs false
namespace Go.Proofs.Yteckffndboiknaa
open Go.RowKit Go.WideShapes Go.ChangeShapes Q

open Classical in
/-- What Minimal lists. -/
noncomputable def minR (vs : List Int) : List (List Int) := if Ok vs then minL vs else []
theorem minR_ok {vs : List Int} (h : Ok vs) : minR vs = minL vs := if_pos h
theorem minR_bad {vs : List Int} (h : ¬ Ok vs) : minR vs = [] := if_neg h
/-- No block of numbers, no ballot turned. -/
def K3 (w w' : World) : Prop := ∀ g t cs, (t = 3 ∨ t = 110) → Blk w g t cs → Blk w' g t cs
theorem EnAt.keep {w w' : World} {base : Nat} {e : En} (h : EnAt w base e) (hk : K3 w w') : EnAt w' base e := by
  refine ⟨h.1, ?_⟩
  rcases h.2 with h0 | ⟨g, cap, cur, e1, e2, hg, rest⟩
  · exact .inl h0
  · exact .inr ⟨g, cap, cur, e1, e2, hk g 3 cur (.inl rfl) hg, rest⟩
theorem Ballot.keep {w w' : World} {base b : Nat} {vs : List Int} (h : Ballot w base b vs) (hk : K3 w w') : Ballot w' base b vs := by
  obtain ⟨g, cap, h1, h2, h3, h4⟩ := h
  refine ⟨g, cap, hk _ _ _ (.inr rfl) h1, h2, h3, h4.1, ?_⟩
  rcases h4.2 with h0 | ⟨g, cap, cur, e1, e2, hg, rest⟩
  · exact .inl h0
  · exact .inr ⟨g, cap, cur, e1, e2, hk g 3 cur (.inl rfl) hg, rest⟩
theorem own_ne {w : World} {base : Nat} {e t : TypeId} {size n g : Nat} {v : Value} {xs : List Value} {cs : Array Value} (ho : w.ownsRow base e size v n xs) (hb : Blk w g t cs) (ht : t ≠ e) : some g ≠ v.ownBlock := by
  intro h
  rcases ho.2 with ⟨rfl, _⟩ | ⟨g', cap, cur, rfl, _, hg, _⟩
  · cases h
  · have : g = g' := by simpa [Value.ownBlock] using h
    subst this
    exact Blk.ne_ hb (t' := e) hg ht rfl
theorem K3.grown {w w' : World} {base n : Nat} {v : Value} {xs : List Value} {o : Obj} (h : w.ownsRow base 32 1 v n xs) (hg : (w.alloc o).grownBy w' v.ownBlock) : K3 w w' := by
  intro g t cs ht hb
  exact (hb.alloc o).grown hg (own_ne h hb (by rcases ht with rfl | rfl <;> decide))
theorem K3.cell {w : World} {a i : Nat} {t : TypeId} {cs : Array Value} (hb : Blk w a t cs) (ht : t ≠ 3 ∧ t ≠ 110) (u : Value) : K3 w (w.setCell ⟨a, i, none⟩ u) := by
  intro g t' cs' ht' h
  exact h.far (p := ⟨a, i, none⟩) (Blk.ne_ h hb (by rcases ht' with e | e <;> rw [e] <;> intro e' <;> first | exact ht.1 e'.symm | exact ht.2 e'.symm)) u
theorem LL.push {w w' : World} {base : Nat} {v v' : Value} {es : List En} (h : LL w base v es) {x : En} (hx : EnAt w base x) (hf : ∀ e ∈ es, e.g ≠ x.g) (h16 : x.l.length ≤ 16)
    (hown : w'.ownsRow base 32 1 v' (es.length + 1) (es.map En.v ++ #[x.v].toList)) (hg : (w.alloc (.cells #[x.v] 32)).grownBy w' v.ownBlock) : LL w' base v' (es ++ [x]) := by
  have hk := K3.grown h.row hg
  refine ⟨?_, fun e he => ?_, ?_, fun e he => ?_⟩
  · rw [List.length_append, List.map_append]; exact hown
  · rcases List.mem_append.1 he with he | he
    · exact (h.ent e he).keep hk
    · obtain rfl := List.mem_singleton.1 he
      exact hx.keep hk
  · rw [List.map_append, List.nodup_append]
    refine ⟨h.nd, by simp, fun a ha b hb => ?_⟩
    obtain ⟨e, he, rfl⟩ := List.mem_map.1 ha
    simp at hb
    subst hb
    exact hf e he
  · rcases List.mem_append.1 he with he | he
    · exact h.sh e he
    · obtain rfl := List.mem_singleton.1 he
      exact h16
theorem LL.cell {w : World} {base a i : Nat} {t : TypeId} {cs : Array Value} {v u : Value} {es : List En} (h : LL w base v es) (hb : Blk w a t cs) (ht : t ≠ 3 ∧ t ≠ 110 ∧ t ≠ 32) : LL (w.setCell ⟨a, i, none⟩ u) base v es := by
  refine ⟨?_, fun e he => (h.ent e he).keep (K3.cell hb ⟨ht.1, ht.2.1⟩ u), h.nd, h.sh⟩
  refine own_only h.row ((Only.refl (fun k => k = a) w).setCell (p := ⟨a, i, none⟩) (fun _ => rfl) u) (fun g hg e => ?_)
  exact own_ne h.row hb ht.2.2 (by rw [hg, e])
theorem minSets_len (vs : List Int) (k : Nat) : (minSets vs k).length ≤ k := by
  unfold minSets
  exact Nat.le_trans (List.length_filter_le _ _) (by simp)
theorem min_pos {vs : List Int} (hok : Ok vs) {k : Nat} (hk : k < 2 ^ vs.length) (h : minB vs k = true) : 0 < (listTo k vs.length).length := by
  rcases Nat.eq_zero_or_pos (listTo k vs.length).length with h0 | h0
  · exfalso
    have h1 := pack_list k vs.length hk
    rw [List.eq_nil_of_length_eq_zero h0] at h1
    have h2 : pack [] vs.length = some 0 := rfl
    rw [h2] at h1
    injection h1 with h1
    subst h1
    unfold minB at h
    rw [wins_zero vs hok] at h
    cases h
  · exact h0

set_option maxRecDepth 100000 in
set_option maxHeartbeats 4000000 in
theorem minimal_prog (A : Option Addr) (n c : Nat) (vs : List Int) (w : World) (h : RI w w.heap.size A n vs) (hn : n ≤ 17592186044416) :
    Calls Try.prog 36 #[.slice A n c] w fun e w' => ∃ v es, e = .returned (.tuple #[v, .int .i64 (chkE vs)]) ∧ LL w' w.heap.size v es ∧ es.map En.l = minR vs ∧ Below w.heap.size w w' := by
  have hl := h.len
  obtain ⟨base, hbase⟩ : ∃ b, b = w.heap.size := ⟨_, rfl⟩
  have HCT := hide (count_all A n c vs w h hn)
  rw [← hbase] at HCT ⊢
  have HBASE := hide hbase
  have HLEN := hide hl
  obtain ⟨i3, hi3, hz3, hs3, hb3⟩ := info_parts info3
  have I3 := hide hi3
  obtain ⟨i32, hi32, hz32, hs32, hb32⟩ := info_parts info32
  have I32 := hide hi32
  clear hl hbase h hi3 hi32
  go_enter Try.func36, Try.ntmps36
  go_wp2_with fail
  refine HCT.out.mono ?_
  rintro e w1 (⟨b, rfl, hok, hbal, hb⟩ | ⟨rfl, hbad, hb⟩)
  · have HE := hide (chkE_ok hok)
    have HOK := hide hok
    have h16 := hok.2.1
    rw [HLEN.out] at h16
    have p1 := two_pow_le n h16
    have HP := hide (nat_pow_cast' n)
    have HP2 := hide (two_pow_lt n h16)
    have s1 := hb.size
    have HS1 := hide hb
    have HBAL := hide hbal
    clear hok hbal hb HCT
    go_upto_region 5 with fail
    have HBX : Below w1.heap.size w1 (w1.alloc (.cells #[.slice none 0 0] 76)) := (Below.refl _ _).alloc (Nat.le_refl _) _
    have HAx : Blk (w1.alloc (.cells #[.slice none 0 0] 76)) w1.heap.size 76 #[.slice none 0 0] := Blk.new _ _ _
    obtain ⟨w2, hw2⟩ : ∃ w2, w2 = w1.alloc (.cells #[.slice none 0 0] 76) := ⟨_, rfl⟩
    obtain ⟨a, ha⟩ : ∃ a, a = w1.heap.size := ⟨_, rfl⟩
    rw [← hw2, ← ha] at HBX HAx
    rw [← hw2, ← ha]
    have HA0 := hide HAx
    have HBAL0 := hide (HBAL.out.below (ha ▸ HBX))
    have hba : base ≤ a := by have := HBASE.out; omega
    have HBEL0 := hide (HS1.out.trans (HBX.mono (by have := HBASE.out; omega)))
    clear hw2 ha HBX HAx HBAL HS1 s1
    go_upto_region 6 with fail
    go_loopw [21] (fun i wr => ∃ (k : Nat) (v : Value) (es : List En), (k : Int) ≤ 2 ^ n ∧ i = .int .i64 k ∧ Hid (Blk wr a 76 #[v]) ∧ Hid (LL wr base v es) ∧ Hid (es.map En.l = (minSets vs k).map fun m => listTo m n) ∧ Hid (Ballot wr base b vs) ∧ Hid (Below base w wr)) (fun i _ => 65536 - (intOf i).toNat)
    case atStart => exact ⟨0, .slice none 0 0, [], by omega, rfl, HA0, LL.nil _ _, rfl, HBAL0, HBEL0⟩
    case round =>
      obtain ⟨k, v, es, hk, rfl, hA, hL, hM, hB, hbl⟩ := hrel
      clear HA0 HBAL0 HBEL0
      have hbr : base ≤ wr.heap.size := by have := hbl.out.size; have := HBASE.out; omega
      by_cases hlt : (k : Int) < 2 ^ n
      · have hk2 : k < 2 ^ n := by have := HP.out; omega
        have hk16 : k < 65536 := Nat.lt_of_lt_of_le hk2 HP2.out
        have HMI := hide (minimal_any k base b vs wr hB.out HOK.out hk16)
        have HSU := hide (minSets_succ vs k)
        have HPOS := hide (fun h => min_pos HOK.out (k := k) (by rw [HLEN.out]; exact hk2) h)
        rw [HLEN.out] at HPOS
        have HK2 := hide hk2
        clear hk2
        cases hq : minB vs k with
        | false =>
          rw [hq] at HMI HSU
          have HM2 : Hid (es.map En.l = (minSets vs (k + 1)).map fun m => listTo m n) := by show _ = _; rw [HSU.out, if_neg (by simp)]; exact hM.out
          clear hq
          go_wp2_with (go_at_call 62; refine HMI.out.mono ?_; rintro e w' ⟨rfl, rfl⟩)
          go_roundw
          case rel => exact ⟨k + 1, v, es, by omega, by go_num, hA, hL, HM2, hB, hbl⟩
          case measure => simp [intOf]; omega
        | true =>
          have hpos := HPOS.out hq
          rw [hq] at HMI HSU
          have hbit := fun j => and_one_i64 k j (by omega)
          have HBIT := hide hbit
          clear hq hbit
          go_wp2_with (go_at_call 62; refine HMI.out.mono ?_; rintro e w' ⟨rfl, rfl⟩)
          obtain ⟨wo, hwo⟩ : ∃ wo, wo = wr := ⟨_, rfl⟩
          rw [← hwo] at hA hL hB hbl hbr ⊢
          clear hwo HMI
          obtain ⟨bI, hbI⟩ : ∃ bI, bI = wo.heap.size := ⟨_, rfl⟩
          have HBI := hide hbI
          clear hbI
          go_loopw [8, 31] (fun v8 i wy => ∃ j : Nat, j ≤ n ∧ i = .int .i64 j ∧ Hid (wy.ownsRow bI 3 1 v8 (listTo k j).length (ints (listTo k j))) ∧ Hid (Below bI wo wy)) (fun _ i _ => n - (intOf i).toNat)
          case atStart => exact ⟨0, Nat.zero_le _, rfl, World.ownsRow_nil _ _ _ _, Below.refl _ _⟩
          case round =>
            obtain ⟨j, hj, rfl, ho, hbe⟩ := hrel
            have hll := listTo_len k j
            have hsz : bI ≤ wr.heap.size := by have := hbe.out.size; have := HBI.out; omega
            by_cases hjl : j < n
            · have hb1 := HBIT.out j
              have ij0 : (0 : Int) ≤ (j : Int) := by omega
              have ijn : (j : Int) < (n : Int) := by omega
              cases hq2 : k.testBit j
              · rw [hq2] at hb1
                have HL2 : Hid (listTo k (j + 1) = listTo k j) := by show _ = _; rw [listTo, hq2]; rfl
                clear hq2
                go_wp2_with fail
                go_roundw
                case rel => exact ⟨j + 1, by omega, by go_num, by rw [HL2.out]; exact ho, hbe⟩
                case measure => simp [intOf]; omega
              · rw [hq2] at hb1
                have HL2 : Hid (listTo k (j + 1) = listTo k j ++ [(j : Int)]) := by show _ = _; rw [listTo, hq2]; rfl
                clear hq2
                go_wp2_with (at_builtin; refine wpList_push rfl (.tmp 39) (.tmp 41) _ rfl bI 3 i3 _ 1 8 Try.underlying32 I3.out hz3 hs3 hb3 rfl (by omega) _ _ _ rfl ho.out 1 1 #[.int .i64 (j : Int)] rfl rfl (by simp [Value.oneCell']) (by omega) (by unfold maxLen; omega) (by omega) hsz ?_; intro g' cap' wz hown1 _ hb1 _ _ _; have HO1 := hide hown1; have HB1 := hide (hbe.out.trans hb1); clear hown1 hb1)
                have hown2 : Hid (wz.ownsRow bI 3 1 (.slice (some ⟨g', 0, none⟩) ((listTo k j).length + 1) cap') (listTo k (j + 1)).length (ints (listTo k (j + 1)))) := by
                  rw [HL2.out, ints_append, List.length_append, List.length_singleton]; exact HO1.out
                go_roundw
                case rel => exact ⟨j + 1, by omega, by go_num, hown2, HB1⟩
                case measure => simp [intOf]; omega
            · obtain rfl : j = n := by omega
              obtain ⟨g, cap, cur, rfl, hgb, _, hgc, _, _, _⟩ := own_some ho.out hpos
              obtain ⟨L, hLd⟩ : ∃ L, L = listTo k j := ⟨_, rfl⟩
              rw [← hLd] at ho hpos hll hgc ⊢
              have hbe' : Below wo.heap.size wo wr := by rw [← HBI.out]; exact hbe.out
              have hAy := hA.out.below hbe' hA.out.lt
              have hLy := hide (hL.out.below hbe')
              have hBy := hide (hB.out.below hbe')
              have hbl2 := hide (hbl.out.trans (hbe'.mono (by have := HBI.out; omega)))
              have hxa : EnAt wr base ⟨g, cap, L⟩ := own_base' ho.out (by have := HBI.out; omega)
              have hxf : ∀ e ∈ es, e.g ≠ (⟨g, cap, L⟩ : En).g := fun e he h => by
                have h1 := (hL.out.ent e he).lt.2
                have h2 : e.g = g := h
                have := HBI.out
                omega
              have hx16 : L.length ≤ 16 := by omega
              have hesl : es.length ≤ k := by
                have := congrArg List.length hM.out
                rw [List.length_map, List.length_map] at this
                have h2 := minSets_len vs k
                omega
              have hM2 : (es ++ [(⟨g, cap, L⟩ : En)]).map En.l = (minSets vs (k + 1)).map fun m => listTo m j := by
                rw [HSU.out, if_pos trivial, List.map_append, List.map_append, hM.out, hLd]
                rfl
              have HM2 := hide hM2
              have HX := hide (And.intro hxa (And.intro hxf hx16))
              have hbw : base ≤ wr.heap.size := by have := HBI.out; omega
              have c0 : wr.cell? ⟨a, 0, none⟩ = some v := hAy.cell 0
              have HAy := hide hAy
              clear hxa hxf hx16 hAy hbe' hpos hL hB hA hbl hLd hM hM2 ho
              go_upto_region 17 with (at_builtin; refine wpList_push rfl (.tmp 44) (.tmp 46) _ rfl base 32 i32 _ 1 24 Try.underlying76 I32.out hz32 hs32 hb32 rfl (by omega) v es.length _ rfl hLy.out.row 1 1 #[.slice (some ⟨g, 0, none⟩) L.length cap] rfl rfl (by simp [Value.oneCell']) (by omega) (by unfold maxLen; omega) (by omega) hbw ?_; intro g7 c7 wz hown hg hbz _ _ _; have HLZ := hide (hLy.out.push (x := ⟨g, cap, L⟩) HX.out.1 HX.out.2.1 HX.out.2.2 hown hg); have HAZ := hide ((HAy.out.alloc _).grown hg (own_ne hLy.out.row HAy.out (by decide))); have HBZ := hide (hBy.out.keep (K3.grown hLy.out.row hg)); have HBLZ := hide (hbl2.out.trans hbz); have c0' := HAZ.out.cell 0; have f0 := HAZ.out.frozen 0; clear hown hg hbz c0)
              have HA2 := hide (HAZ.out.set_ 0 (.slice (some ⟨g7, 0, none⟩) (es.length + 1) c7))
              have HL2 := hide (HLZ.out.cell (i := 0) (u := .slice (some ⟨g7, 0, none⟩) (es.length + 1) c7) HAZ.out (by decide))
              have HB2 := hide (HBZ.out.keep (K3.cell (i := 0) HAZ.out (by decide) (.slice (some ⟨g7, 0, none⟩) (es.length + 1) c7)))
              have HBL2 : Hid (Below base w (wz.setCell ⟨a, 0, none⟩ (.slice (some ⟨g7, 0, none⟩) (es.length + 1) c7))) := HBLZ.out.trans (((Only.refl (fun q => q = a) wz).setCell (p := ⟨a, 0, none⟩) (fun _ => rfl) _).below (by have := HBLZ.out.size; have := HBASE.out; omega) (fun q hq e => by omega))
              clear c0' f0
              go_wp2_with fail
              go_roundw
              case rel => exact ⟨k + 1, .slice (some ⟨g7, 0, none⟩) (es.length + 1) c7, es ++ [⟨g, cap, L⟩], by omega, by go_num, HA2, HL2, HM2, HB2, HBL2⟩
              case measure => simp [intOf]; omega
      · have he : k = 2 ^ n := by have := HP.out; omega
        have hesl : es.length ≤ 1000000 := by
          have := congrArg List.length hM.out
          rw [List.length_map, List.length_map] at this
          have h2 := minSets_len vs k
          have := HP2.out
          omega
        have HS := hide (sort_any a v es base wr hL.out hA.out hesl hbr)
        have HM2 : Hid (es.map En.l = (minSets vs (2 ^ vs.length)).map fun m => listTo m vs.length) := by
          show _ = _
          rw [HLEN.out, ← he]
          exact hM.out
        have hc0 := hA.out.cell 0
        have c0 : wr.cell? ⟨a, 0, none⟩ = some v := hc0
        clear he hc0
        go_wp2_with (first | (go_at_call 63; refine HS.out.mono ?_; rintro e w' ⟨rfl, es', hL', hp, hso, hA', hb'⟩; have HL' := hide hL'; have HPM := hide hp; have HSO := hide hso; have HB' := hide (hbl.out.trans hb'); have c1 : w'.cell? ⟨a, 0, none⟩ = some v := hA'.cell 0; clear hL' hp hso hA' hb' c0))
        go_ret2
        refine ⟨v, es', ret2_ rfl (by rw [HE.out]; rfl), HL'.out, ?_, HB'.out⟩
        rw [minR_ok HOK.out]
        refine sorted_minL HOK.out ?_ HSO.out
        rw [← HM2.out]
        exact HPM.out.map En.l
  · have HE := hide (chkE_bad hbad)
    have HR := hide (minR_bad hbad)
    clear HCT hbad
    go_wp2_with fail
    go_ret2
    exact ⟨_, [], ret2_ rfl (by rw [HE.out]; rfl), LL.nil _ _, by rw [HR.out]; rfl, hb⟩
end Go.Proofs.Yteckffndboiknaa
