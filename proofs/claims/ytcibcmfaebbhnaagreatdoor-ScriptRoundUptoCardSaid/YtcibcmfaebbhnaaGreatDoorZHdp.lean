/-
  The program's named: a line of names, each with a count behind it. Plain: the head's three lines, as the program reads them and as the document does.
-/
import Derived.Test.YtcibcmfaebbhnaaGreatDoorZPls
import Derived.Test.YtcibcmfaebbhnaaGreatDoorZPnm
import Derived.Test.YtcibcmfaebbhnaaGreatDoorZCfgW
set_option linter.unusedVariables false
set_option linter.unusedSimpArgs false
namespace Go.Proofs.YtcibcmfaebbhnaaGreatDoor
open Go.RowKit Go.WideShapes Go.ChangeShapes Q
/-- Names as they lie in block g. -/
def NmR (W : World) (g : Nat) (ns : List (List UInt8)) : Prop := ∀ k x, ns[k]? = some x → W.cell? ⟨g, k, none⟩ = some (.string (S x))
theorem NmR.below {W W' : World} {B g : Nat} {ns : List (List UInt8)} (h : NmR W g ns) (hb : Below B W W') (hg : g < B) : NmR W' g ns := fun k x hk => (hb.cell (p := ⟨g, k, none⟩) hg).trans (h k x hk)
/-- What a line of names and counts says. -/
def namE (ns : List (List UInt8)) (t : List UInt8) : Option (List Int) := match wordsG false t with
  | some ws => pairP ns ws
  | none => none
def NamP (f : Option (List Int)) (w : World) (e : Ending) (w' : World) : Prop := ∃ (A : Option Addr) (c : Nat) (vs : List Int) (ok : Bool), e = .returned (.tuple #[.slice A vs.length c, .bool ok]) ∧ w'.ownsRow w.heap.size 3 1 (.slice A vs.length c) vs.length (ints vs) ∧ Below w.heap.size w w' ∧ (ok = true → f = some vs) ∧ (ok = false → f = none)
/-- What the loop keeps. -/
def NmJ (w : World) (ns : List (List UInt8)) (ws : List Wd) (r : Nat) (l i : Value) (wr : World) : Prop := ∃ (j : Nat) (vs : List Int) (A' : Option Addr) (c' : Nat) (Al : Option Addr) (cl : Nat), j ≤ ns.length ∧ i = .int .i64 j ∧ l = .slice Al vs.length cl ∧ vs.length = j ∧ wr.ownsRow w.heap.size 3 1 (.slice Al vs.length cl) vs.length (ints vs) ∧
  Rd wr w.heap.size r A' c' 0 (ws.drop (2 * j)) Em.zero ∧ Below w.heap.size w wr ∧ pairP ns ws = (pairP (ns.drop j) (ws.drop (2 * j))).map (vs ++ ·)
theorem pair_none1 {n : List UInt8} {ns : List (List UInt8)} {ws : List Wd} (h : ∀ d l, ws = d :: l → d.2 = true) : pairP (n :: ns) ws = none := by
  match ws with
  | [] => rfl
  | [_] => rfl
  | d :: e :: l =>
    unfold pairP
    rw [if_neg (fun hh => by have := h d _ rfl; rw [hh.1] at this; cases this)]
theorem pair_none2 {n t : List UInt8} {ns : List (List UInt8)} {ws : List Wd} (h : numP 0 4611686018427387904 ws = none) : pairP (n :: ns) ((t, false) :: ws) = none := by
  match ws with
  | [] => rfl
  | d :: l =>
    unfold pairP
    split
    · cases hd : wcnt d with
      | none => rfl
      | some x =>
        simp only [numP, hd] at h
        rw [if_pos ⟨Nat.zero_le _, wcnt_le hd⟩] at h
        cases h
    · rfl
theorem pair_none3 {n t : List UInt8} {ns : List (List UInt8)} {ws : List Wd} (h : ¬ t = n) : pairP (n :: ns) ((t, false) :: ws) = none := by
  match ws with
  | [] => rfl
  | d :: l =>
    unfold pairP
    rw [if_neg (fun hh => h hh.2)]
theorem pair_some {n : List UInt8} {ns : List (List UInt8)} {ws ws' : List Wd} {x : Nat} (h : numP 0 4611686018427387904 ws = some (x, ws')) : pairP (n :: ns) ((n, false) :: ws) = (pairP ns ws').map ((x : Int) :: ·) := by
  match ws with
  | [] => cases h
  | d :: l =>
    rw [pairP, if_pos ⟨rfl, rfl⟩]
    simp only [numP] at h
    cases hd : wcnt d with
    | none => rw [hd] at h; cases h
    | some y =>
      rw [hd] at h
      simp only at h
      split at h
      · injection h with h
        injection h with h1 h2
        subst h1 h2
        simp only
      · cases h
set_option maxRecDepth 100000 in
set_option maxHeartbeats 4000000 in
theorem named_any (s : ByteArray) (ns : List (List UInt8)) (gn cn : Nat) (w : World) (hs : s.size ≤ 30000000) (hn : ns.length ≤ 100) (hn0 : ∀ x ∈ ns, x ≠ []) (hg : gn < w.heap.size) (hr : NmR w gn ns) :
    Calls Tryz.prog 79 #[.string s, .slice (some ⟨gn, 0, none⟩) ns.length cn] w fun e w' => NamP (namE ns s.data.toList) w e w' := by
  obtain ⟨F, hF⟩ : ∃ F, F = namE ns s.data.toList := ⟨_, rfl⟩
  rw [← hF]
  have HF := hide hF
  obtain ⟨i3, hi3, hz3, hs3, hb3⟩ := info_parts info3
  have I3 := hide hi3
  have HWD : Hid (∀ W, Calls Tryz.prog 61 #[.string s] W fun e w' => WdsP 159 pwc (wordsG false s.data.toList) W e w') := fun W => split_any s W (by omega)
  have HSZ : Hid (∀ ws, wordsG false s.data.toList = some ws → ws.length ≤ 90000000 ∧ ∀ d ∈ ws, d.1.length ≤ 100000000) := fun ws h => by
    have := wds_sz _ _ (Nat.le_refl _) ws h
    rw [str_len] at this
    exact ⟨by omega, fun d hd => by have := this.2 d hd; omega⟩
  have HNR := hide hr
  have HN0 := hide hn0
  obtain ⟨N, hN⟩ : ∃ N, N = ns.length := ⟨_, rfl⟩
  rw [← hN] at hn ⊢
  have HN := hide hN
  have hw2 : IntKind.i64.wrap (2 * (N : Int)) = 2 * (N : Int) := i64_wrap _ (by omega) (by omega)
  clear hi3 hF hr hn0 hN
  go_enter Tryz.func79, Tryz.ntmps79
  go_upto_region 2 with (go_at_call 61; refine (HWD.out _).mono ?_; rintro e w2 ⟨A, c, ws, ok, rfl, hrow, hb2, h1, h2⟩; have HO := hide hrow; have HB2 := hide hb2; have H1 := hide h1; have H2 := hide h2; clear hrow hb2 h1 h2)
  have hsw2 : w.heap.size ≤ w2.heap.size := HB2.out.size
  cases ok with
  | false =>
    have HR : Hid (F = none) := by
      show _ = _
      rw [HF.out]
      unfold namE
      rw [H2.out rfl]
    go_wp2_with fail
    refine bodyPost_ret (results_tmp2 rfl _ _ _) rfl ?_
    exact ⟨none, 0, [], false, rfl, World.ownsRow_nil _ _ _ _, HB2.out, (fun h => by cases h), fun _ => HR.out⟩
  | true =>
    have HFP : Hid (F = pairP ns ws) := by
      show _ = _
      rw [HF.out]
      unfold namE
      rw [H1.out rfl]
    obtain ⟨hwl, hwz⟩ := HSZ.out ws (H1.out rfl)
    have HWZ := hide hwz
    clear hwz HF HSZ HWD
    by_cases hl : ¬ ws.length = 2 * N
    · have HR : Hid (F = none) := by show _ = _; rw [HFP.out]; exact pair_len _ _ (by rw [← HN.out]; exact hl)
      have e1 : ((ws.length : Int) == 2 * (N : Int)) = false := by rw [beq_eq_false_iff_ne]; omega
      have e2 : ((ws.length : Int) != 2 * (N : Int)) = true := by rw [bne, e1]; rfl
      have e3 : ¬ (ws.length : Int) = 2 * (N : Int) := by omega
      go_wp2_with fail
      refine bodyPost_ret (results_tmp2 rfl _ _ _) rfl ?_
      exact ⟨none, 0, [], false, rfl, World.ownsRow_nil _ _ _ _, HB2.out, (fun h => by cases h), fun _ => HR.out⟩
    · have hl := Decidable.not_not.1 hl
      have HWL := hide hl
      have e1 : ((ws.length : Int) == 2 * (N : Int)) = true := by rw [beq_iff_eq]; omega
      have e2 : ((ws.length : Int) != 2 * (N : Int)) = false := by rw [bne, e1]; rfl
      have e3 : (ws.length : Int) = 2 * (N : Int) := by omega
      have hAc : ws.length ≤ c := by
        obtain ⟨A', c', hv, _, hc⟩ := own_slice HO.out
        injection hv with e1 e2 e3
        omega
      have HRD0 : Hid (Rd (w2.alloc (.cells (rdC A ws.length c 0 Em.zero) 126)) w.heap.size w2.heap.size A c 0 ws Em.zero) :=
        ⟨Blk.new _ _ _, (PWd.of_own HO.out).step ((Below.refl _ _).alloc (Nat.le_refl _) _), hAc, EmU.zero _ _, hsw2⟩
      clear hl
      go_upto_region 4 with fail
      clear e1 e2 e3
      go_upto_region 7 with fail
      generalize hW3 : World.alloc w2 _ = W3
      have HR3 : Hid (Rd W3 w.heap.size w2.heap.size A c 0 ws Em.zero) := by
        show Rd _ _ _ _ _ _ _ _
        rw [← hW3]
        exact HRD0.out
      have HB3 : Hid (Below w.heap.size w W3) := by
        show Below _ _ _
        rw [← hW3]
        exact HB2.out.alloc hsw2 _
      obtain ⟨r, hr⟩ : ∃ r, r = w2.heap.size := ⟨_, rfl⟩
      rw [← hr] at HR3 ⊢
      clear hW3 HRD0 hAc
      have hwr : w.heap.size ≤ r := by omega
      have HL0 : Hid (NmJ w ns ws r (.slice none 0 0) (.int .i64 0) W3) := ⟨0, [], A, c, none, 0, Nat.zero_le _, rfl, rfl, rfl, World.ownsRow_nil _ _ _ _, by simpa using HR3.out, HB3.out, by simp⟩
      clear hr HR3 HO HB2 HB3
      go_loopw [9, 36] (fun l i wr => NmJ w ns ws r l i wr) (fun _ i _ => N - (intOf i).toNat)
      case atStart => exact HL0.out
      case round =>
        clear HL0
        unfold NmJ at hrel
        obtain ⟨j, vs, A', c', Al, cl, hj, rfl, rfl, hvl, hown, hrd, hb, hpp⟩ := hrel
        rw [← HN.out] at hj
        have HO := hide hown
        have HRD := hide hrd
        have HB := hide hb
        have HPP := hide hpp
        have HVL := hide hvl
        have hvb : vs.length ≤ 100 := by omega
        clear hown hrd hb hpp hvl
        have hswr : w.heap.size ≤ wr.heap.size := HB.out.size
        have j0 : (0 : Int) ≤ (j : Int) := by omega
        by_cases hlt : j < N
        · have js : (j : Int) < (N : Int) := by omega
          obtain ⟨x, hx⟩ : ∃ x, ns[j]? = some x := ⟨_, List.getElem?_eq_getElem (by rw [← HN.out]; exact hlt)⟩
          have kx := HNR.out.below HB.out hg j x hx
          have HX0 : Hid (x ≠ []) := HN0.out x (List.mem_of_getElem? hx)
          have HND : Hid (ns.drop j = x :: ns.drop (j + 1)) := by
            show _ = _
            obtain ⟨h1, h2⟩ := List.getElem?_eq_some_iff.1 hx
            rw [List.drop_eq_getElem_cons h1, h2]
          obtain ⟨Y, hY⟩ : ∃ Y, Y = S x := ⟨_, rfl⟩
          rw [← hY] at kx
          have HY := hide hY
          clear hx hY
          obtain ⟨wd, hwd⟩ : ∃ wd, wd = ws.drop (2 * j) := ⟨_, rfl⟩
          have HWD := hide hwd
          have HWDZ : Hid (wd.length ≤ 90000000 ∧ ∀ d ∈ wd, d.1.length ≤ 100000000) := by
            show _ ∧ _
            rw [hwd]
            exact ⟨by rw [List.length_drop]; omega, fun d hd => HWZ.out d (List.mem_of_mem_drop hd)⟩
          rw [← hwd] at HRD HPP
          clear hwd
          have HPL := hide (plain_any wd w.heap.size r A' c' 0 Em.zero wr HRD.out HWDZ.out.1)
          go_upto_region 10 with (go_at_call 63; refine HPL.out.mono ?_; rintro e w4 ⟨A4, c4, t, ok4, ws4, rfl, hr4, ho4, h3, h4⟩; have HR4 := hide hr4; have HB4 := hide (HB.out.trans (HRD.out.low ho4)); have HO4 := hide (own_apart HO.out ho4 (fun k hk hq => by subst hq; exact ⟨_, _, HRD.out.box, by decide⟩)); have H3 := hide h3; have H4 := hide h4; clear hr4 ho4 h3 h4)
          have HW4 : Hid (ws4.length ≤ 90000000 ∧ ∀ d ∈ ws4, d.1.length ≤ 100000000) := by
            cases ok4 with
            | true =>
              have h := H3.out rfl
              have hz := HWDZ.out
              rw [h] at hz
              exact ⟨by have := hz.1; simp at this; omega, fun d hd => hz.2 d (by simp [hd])⟩
            | false => rw [(H4.out rfl).2.1]; exact HWDZ.out
          have HNU := hide (number_any 0 4611686018427387904 ws4 w.heap.size r A4 c4 0 Em.zero w4 HR4.out HW4.out.1 HW4.out.2)
          clear kx HPL HRD HB HO
          go_upto_region 11 with (go_at_call 80; refine HNU.out.mono ?_; rintro e w5 ⟨A5, c5, v, ok5, ws5, rfl, hr5, ho5, h5, h6⟩; have HR5 := hide hr5; have HB5 := hide (HB4.out.trans (HR4.out.low ho5)); have HO5 := hide (own_apart HO4.out ho5 (fun k hk hq => by subst hq; exact ⟨_, _, HR4.out.box, by decide⟩)); have H5 := hide h5; have H6 := hide h6; clear hr5 ho5 h5 h6)
          clear HNU HR4 HB4 HO4
          obtain ⟨X, hX⟩ : ∃ X, X = S t := ⟨_, rfl⟩
          rw [← hX]
          have HXE : Hid (X.toList = Y.toList ↔ t = x) := by
            show _ ↔ _
            rw [hX, HY.out, ByteArray.toList_eq, ByteArray.toList_eq, S_data, S_data]
          clear hX
          have HNO : Hid (pairP (ns.drop j) wd = none → F = none) := fun h => by rw [HFP.out, HPP.out, h]; rfl
          by_cases hxy : ¬ X.toList = Y.toList
          · have x1 : (X.toList == Y.toList) = false := by rw [beq_eq_false_iff_ne]; exact hxy
            have HR : Hid (F = none) := by
              refine HNO.out ?_
              rw [HND.out]
              cases ok4 with
              | true =>
                rw [H3.out rfl]
                exact pair_none3 (fun h => hxy (HXE.out.2 h))
              | false => exact pair_none1 (H4.out rfl).2.2
            clear hxy
            go_wp2_with fail
            refine bodyPost_ret (results_tmp2 rfl _ _ _) rfl ?_
            exact ⟨none, 0, [], false, rfl, World.ownsRow_nil _ _ _ _, HB5.out, (fun h => by cases h), fun _ => HR.out⟩
          · have hxy := Decidable.not_not.1 hxy
            have x1 : (X.toList == Y.toList) = true := by rw [beq_iff_eq]; exact hxy
            have htx := HXE.out.1 hxy
            have HT4 : Hid (ok4 = true) := by
              cases h : ok4 with
              | true => rfl
              | false =>
                rw [h] at H4
                exact absurd (htx.symm.trans (H4.out rfl).1) HX0.out
            have HWE : Hid (wd = (x, false) :: ws4) := by show _ = _; rw [← htx]; exact H3.out HT4.out
            clear htx hxy
            cases ok5 with
            | false =>
              have HR : Hid (F = none) := by
                refine HNO.out ?_
                rw [HND.out, HWE.out]
                exact pair_none2 (H6.out rfl)
              go_wp2_with fail
              refine bodyPost_ret (results_tmp2 rfl _ _ _) rfl ?_
              exact ⟨none, 0, [], false, rfl, World.ownsRow_nil _ _ _ _, HB5.out, (fun h => by cases h), fun _ => HR.out⟩
            | true =>
              obtain ⟨y, rfl, hnp⟩ := H5.out rfl
              have HPS : Hid (pairP ns ws = (pairP (ns.drop (j + 1)) ws5).map ((vs ++ [(y : Int)]) ++ ·)) := by
                show _ = _
                rw [HPP.out, HND.out, HWE.out, pair_some hnp, Option.map_map]
                congr 1
                funext l
                simp
              have HW5 : Hid (ws5 = ws.drop (2 * (j + 1))) := by
                show _ = _
                obtain ⟨⟨d, hd⟩, _⟩ := numP_tail hnp
                have h1 : ws.drop (2 * j) = (x, false) :: d :: ws5 := by rw [← HWD.out, HWE.out, hd]
                rw [show 2 * (j + 1) = 2 * j + 2 by omega, ← List.drop_drop, h1]
                rfl
              clear hnp
              have hsw5 : w.heap.size ≤ w5.heap.size := HB5.out.size
              have HLX : Hid (∀ g8 c8 w8 o, w8.ownsRow w.heap.size 3 1 (.slice (some ⟨g8, 0, none⟩) (vs.length + 1) c8) (vs.length + 1) (ints vs ++ [.int .i64 (y : Int)]) → (w5.alloc o).grownBy w8 (Value.slice Al vs.length cl).ownBlock → Below w.heap.size w5 w8 → NmJ w ns ws r (.slice (some ⟨g8, 0, none⟩) (vs.length + 1) c8) (.int .i64 ((j : Int) + 1)) w8) := by
                intro g8 c8 w8 o hown8 hgr8 hb8
                have hrA : (w5.alloc o).ownsRow w.heap.size 3 1 (.slice Al vs.length cl) vs.length (ints vs) := own_step HO5.out ((Below.refl _ _).alloc (Nat.le_refl _) o)
                have hn1 : (vs ++ [(y : Int)]).length = vs.length + 1 := by simp
                refine ⟨j + 1, vs ++ [(y : Int)], A5, c5, some ⟨g8, 0, none⟩, c8, by rw [← HN.out]; omega, by go_num, by rw [hn1], by rw [hn1, HVL.out], ?_, ?_, HB5.out.trans hb8, by rw [HPS.out, HW5.out]⟩
                · rw [hn1]
                  have e : ints (vs ++ [(y : Int)]) = ints vs ++ [.int .i64 (y : Int)] := by simp [ints]
                  rw [e]
                  exact hown8
                · have h := HR5.out
                  rw [HW5.out] at h
                  exact ⟨(h.box.alloc o).grown hgr8 (own_ne hrA (h.box.alloc o) (by decide)), (h.wds.step ((Below.refl _ _).alloc (Nat.le_refl _) o)).grown hrA (by decide) hgr8, h.hc, EmU.zero _ _, h.hr⟩
              go_wp2_with (at_builtin; refine wpList_push (W := w5) (cs := #[.int .i64 (y : Int)]) rfl (.tmp 57) (.tmp 59) _ rfl w.heap.size 3 i3 _ 1 8 Tryz.underlying22 I3.out hz3 hs3 hb3 rfl (by omega) (.slice Al vs.length cl) vs.length _ rfl HO5.out 1 1 rfl rfl (by simp [Value.oneCell']) (by omega) (by unfold maxLen; omega) (by omega) hsw5 ?_; intro g8 c8 w8 hown8 hgr8 hb8 _ _ _; have HL9 := hide (HLX.out g8 c8 w8 _ hown8 hgr8 hb8); clear hown8 hb8 hgr8)
              go_roundw
              case rel => first | exact HL9.out | exact ⟨_, HL9.out, rfl⟩ | exact ⟨_, _, HL9.out, rfl, rfl⟩
              case measure => simp [intOf]; omega
        · have js : ¬ (j : Int) < (N : Int) := by omega
          have HR : Hid (F = some vs) := by
            show _ = _
            rw [HFP.out, HPP.out, List.drop_eq_nil_of_le (by rw [← HN.out]; omega), List.drop_eq_nil_of_le (by rw [HWL.out]; omega)]
            simp [pairP]
          clear hlt
          go_wp2_with fail
          refine bodyPost_ret (results_tmp2 rfl _ _ _) rfl ?_
          exact ⟨Al, cl, vs, true, rfl, HO.out, HB.out, (fun _ => HR.out), fun h => by cases h⟩
end Go.Proofs.YtcibcmfaebbhnaaGreatDoor
set_option linter.unusedVariables false
set_option linter.unusedSimpArgs false
namespace Go.Proofs.YtcibcmfaebbhnaaGreatDoor
open Go.RowKit Go.WideShapes Go.ChangeShapes Q
def quor : List UInt8 := [113, 117, 111, 114, 97, 116, 101]
/-- No line's end stands in a line. -/
def NoNl (x : List UInt8) : Prop := ∀ q ∈ x, ¬ q.toNat = 10
theorem lin_nonl : ∀ (l cur : List UInt8), NoNl cur → ∀ x ∈ linG cur l, NoNl x
  | [], cur, hc, x, hx => by
    rw [linG] at hx
    split at hx
    · cases hx
    · simp at hx; subst hx; exact hc
  | c :: r, cur, hc, x, hx => by
    rw [linG] at hx
    split at hx
    · rcases List.mem_cons.1 hx with h | h
      · subst h; exact hc
      · exact lin_nonl r [] (fun q hq => by cases hq) x h
    · rename_i hn
      refine lin_nonl r (cur ++ [c]) (fun q hq => ?_) x hx
      rcases List.mem_append.1 hq with h | h
      · exact hc q h
      · obtain rfl : q = c := by simpa using h
        exact hn
theorem keep_nonl {t x : List UInt8} (h : x ∈ keepL t) : NoNl x := lin_nonl t [] (fun q hq => by cases hq) x (List.mem_filter.1 h).1
theorem words_nl {x : List UInt8} (h : NoNl x) : wordsG true x = wordsG false x := (wds_nl x.length x (Nat.le_refl _)).1 h
theorem cnt_one {l : List UInt8} (h : cnt l = some 1) : l = [49] := by
  unfold cnt at h
  split at h
  · cases h
  · rename_i h0
    split at h
    · rename_i hd
      split at h
      · injection h with h
        match l, h0, hd, h with
        | [], h0, _, _ => exact absurd (.inl rfl) h0
        | [c], _, hd, h =>
          simp only [valD, List.foldl] at h
          have : isD c = true := by simpa using hd
          unfold isD at this
          have := of_decide_eq_true this
          have e : c.toNat = 49 := by omega
          rw [show c = 49 from UInt8.toNat.inj e]
        | c :: d :: r, h0, hd, h =>
          have hc : isD c = true := by simp at hd; exact hd.1
          unfold isD at hc
          have hc := of_decide_eq_true hc
          have hne : ¬ c = 48 := fun e => h0 (.inr (.inr ⟨by simp, by rw [e]; rfl⟩))
          have hn : ¬ c.toNat = 48 := fun e => hne (UInt8.toNat.inj e)
          have h2 : valD 0 (c :: d :: r) = valD (10 * (10 * 0 + (c.toNat - 48)) + (d.toNat - 48)) r := rfl
          have h3 := valD_ge r (10 * (10 * 0 + (c.toNat - 48)) + (d.toNat - 48))
          rw [h2] at h
          omega
      · cases h
    · cases h
theorem pairP_len : ∀ (ns : List (List UInt8)) (ws : List Wd) (vs : List Int), pairP ns ws = some vs → vs.length = ns.length
  | [], [], vs, h => by cases h; rfl
  | [], _ :: _, _, h => by cases h
  | _ :: _, [], _, h => by cases h
  | _ :: _, [_], _, h => by cases h
  | n :: ns, a :: b :: ws, vs, h => by
    rw [pairP] at h
    split at h
    · cases hb : wcnt b with
      | none => rw [hb] at h; cases h
      | some x =>
        rw [hb] at h
        simp only at h
        obtain ⟨l, hl, rfl⟩ := Option.map_eq_some_iff.1 h
        simp [pairP_len ns ws l hl]
    · cases h
/-- The first line: the name, and 1 as its count. -/
theorem first_nam {x : List UInt8} (h : NoNl x) : firstB x = true ↔ namE [quor] x = some [1] := by
  unfold firstB namE
  rw [words_nl h]
  cases wordsG false x with
  | none => simp
  | some ws =>
    simp only
    match ws with
    | [] => simp [firB, pairP]
    | [_] => simp [firB, pairP]
    | [a, b] =>
      have e1 : pairP [quor] [a, b] = if a.2 = false ∧ a.1 = quor then (match wcnt b with | some x => some [(x : Int)] | none => none) else none := by
        rw [pairP]
        rfl
      rw [e1]
      unfold firB
      constructor
      · intro hh
        simp only [Bool.and_eq_true, Bool.not_eq_true', beq_iff_eq] at hh
        obtain ⟨⟨⟨h1, h2⟩, h3⟩, h4⟩ := hh
        rw [if_pos ⟨h1, h3⟩]
        have : wcnt b = some 1 := by unfold wcnt; rw [h2, h4]; rfl
        rw [this]
        rfl
      · intro hh
        split at hh
        · rename_i h1
          cases hb : wcnt b with
          | none => rw [hb] at hh; cases hh
          | some z =>
            rw [hb] at hh
            simp only at hh
            injection hh with hh
            injection hh with hh _
            have hz : z = 1 := by omega
            subst hz
            unfold wcnt at hb
            split at hb
            · cases hb
            · rename_i h2
              have h3 := cnt_one hb
              simp only [Bool.and_eq_true, Bool.not_eq_true', beq_iff_eq]
              exact ⟨⟨⟨h1.1, by simpa using h2⟩, h1.2⟩, h3⟩
        · cases hh
    | a :: b :: c :: r =>
      have e1 : pairP [quor] (a :: b :: c :: r) = none := pair_len _ _ (by simp)
      rw [e1]
      simp [firB]
theorem cfgL_nam {b c : List UInt8} (hb : NoNl b) (h : namE cfNames b = none) : cfgL b c = none := by
  unfold namE at h
  unfold cfgL
  rw [words_nl hb]
  cases hw : wordsG false b with
  | none => rfl
  | some l =>
    rw [hw] at h
    simp only at h
    cases wordsG true c with
    | none => rfl
    | some m => exact cfgP_pair h
theorem cfgL_wd {b c : List UInt8} (hc : NoNl c) (h : wordsG false c = none) : cfgL b c = none := by
  unfold cfgL
  rw [words_nl hc, h]
  cases wordsG true b with
  | none => rfl
  | some l => rfl
theorem cfgL_all {b c : List UInt8} {vs : List Int} {m : List Wd} (hb : NoNl b) (hc : NoNl c) (h : namE cfNames b = some vs) (h2 : wordsG false c = some m) : ∃ l, pairP cfNames l = some vs ∧ cfgL b c = cfgP l m := by
  unfold namE at h
  cases hw : wordsG false b with
  | none => rw [hw] at h; cases h
  | some l =>
    rw [hw] at h
    refine ⟨l, h, ?_⟩
    unfold cfgL
    rw [words_nl hb, words_nl hc, hw, h2]
theorem own_txl {w : World} {base n c g k : Nat} {ls : List (List UInt8)} {x : List UInt8} (h : w.ownsRow base 9 1 (.slice (some ⟨g, 0, none⟩) n c) n (ltx ls)) (hk : ls[k]? = some x) : w.cell? ⟨g, k, none⟩ = some (.string (S x)) := by
  have := World.ownsRow.cells (g := g) h rfl k (.string (S x)) (by unfold ltx; rw [List.getElem?_map, hk]; rfl)
  have e : (⟨g, 0, none⟩ : Addr).add k = ⟨g, k, none⟩ := by
    unfold Addr.add
    split
    · rename_i h0; subst h0; rfl
    · simp
  rw [e] at this
  exact this
theorem seven {vs : List Int} (h : vs.length = 7) : ∃ a b c d e f g, vs = [a, b, c, d, e, f, g] := by
  match vs, h with
  | [a, b, c, d, e, f, g], _ => exact ⟨a, b, c, d, e, f, g, rfl⟩
/-- The head's configuration. -/
def headC (K : List (List UInt8)) : Option Cfg := (headE K).map Prod.fst
theorem headC_len {K : List (List UInt8)} (h : K.length < 3) : headC K = none := by unfold headC; rw [headE_len h]; rfl
theorem headC_first {a b c : List UInt8} {r : List (List UInt8)} (ha : NoNl a) (h : ¬ namE [quor] a = some [1]) : headC (a :: b :: c :: r) = none := by
  unfold headC
  rw [headE_cons, if_neg (fun hh => h ((first_nam ha).1 hh))]
  rfl
theorem headC_cfg {a b c : List UInt8} {r : List (List UInt8)} (ha : NoNl a) (h : namE [quor] a = some [1]) : headC (a :: b :: c :: r) = cfgL b c := by
  unfold headC
  rw [headE_cons, if_pos ((first_nam ha).2 h), Option.map_map]
  cases cfgL b c <;> rfl
theorem headE_C {K : List (List UInt8)} {c : Cfg} (h : headC K = some c) : headE K = some (c, K.drop 3) := by
  match K with
  | [] => cases h
  | [_] => cases h
  | [_, _] => cases h
  | a :: b :: d :: r =>
    unfold headC at h
    rw [headE_cons] at h ⊢
    split at h
    · rename_i hf
      rw [if_pos hf]
      cases hc : cfgL b d with
      | none => rw [hc] at h; cases h
      | some x =>
        rw [hc] at h
        simp at h
        subst h
        rfl
    · cases h
theorem headE_N {K : List (List UInt8)} (h : headC K = none) : headE K = none := by
  unfold headC at h
  simpa using h
theorem cnf_any {w W : World} {g : Nat} {Z : Array Value} {f : Option Cfg} {c : Cfg} {A : Option Addr} {k : Nat} {ok : Bool} (hr : w.heap.size ≤ g) (hZ : Blk W g 24 Z) (hl : Below w.heap.size w W) (hu : CfU W w.heap.size c A k) (h1 : ok = true → f = some c) (h2 : ok = false → f = none) :
    CnfP f w (.returned (.tuple #[.agg (cfC c A k), .bool ok])) (W.setRow g (cfC c A k)) := by
  have hW := only_setRow W g (cfC c A k)
  exact ⟨c, A, k, ok, rfl, hu.far hZ (by decide) hW, hl.trans (hW.below hl.size (fun k hk e => by omega)), h1, h2⟩
end Go.Proofs.YtcibcmfaebbhnaaGreatDoor
