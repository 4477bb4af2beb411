/-
  LinkTags, the walk. (Printed by wip/tools/mktags.py.)
-/
import Derived.Test.YtkkckinnhkpcmaaTwo
import Derived.Deep.CutBlock
set_option linter.unusedVariables false
set_option linter.unusedSimpArgs false
namespace Go.Proofs.Ytkkckinnhkpcmaa
open Go.RowKit Go.WideShapes Go.ChangeShapes Q

/-- Either of two comes next. -/
theorem wpL_both {P : Program} {ops : Array Oper} {Q : Exit → Act → World → Prop} {md : Region.Mode} {S : World → Prop} {sk : List Nat} (i j : Nat) {oi oj : Oper} {fuel : Nat} {listed : Array Bool} {a : Act} {w : World} (hr : Region.ready md ops listed = [i, j]) (hi : ops[i]? = some oi) (hj : ops[j]? = some oj)
    (h1 : ∀ K' : Act → World → Prop, (∀ a w, (sk.contains i = false → S w) → wpL P md ops Q S sk fuel (listed.setIfInBounds i true) a w → K' a w) → if Region.wanted oi (yielded ops a.tmps) = true then Oper.wp P oi a w K' Q else K' (a.put oi.dst undef) w)
    (h2 : ∀ K' : Act → World → Prop, (∀ a w, (sk.contains j = false → S w) → wpL P md ops Q S sk fuel (listed.setIfInBounds j true) a w → K' a w) → if Region.wanted oj (yielded ops a.tmps) = true then Oper.wp P oj a w K' Q else K' (a.put oj.dst undef) w) :
    wpL P md ops Q S sk (fuel + 1) listed a w := by
  refine ⟨fun h0 => (by rw [h0] at hr; cases hr), fun k hk => ?_⟩
  rw [hr] at hk
  have hk' : k = i ∨ k = j := by simpa using hk
  rcases hk' with rfl | rfl
  · exact wpOp_step hi fun K' hK => h1 K' fun a w hS hW => hK a w ⟨hS, hW⟩
  · exact wpOp_step hj fun K' hK => h2 K' fun a w hS hW => hK a w ⟨hS, hW⟩
theorem wpL_mono {P : Program} {ops : Array Oper} {Q : Exit → Act → World → Prop} {md : Region.Mode} {S S1 : World → Prop} {sk : List Nat} (hS : ∀ w, S1 w → S w) : ∀ (fuel : Nat) (listed : Array Bool) (a : Act) (w : World), wpL P md ops Q S1 sk fuel listed a w → wpL P md ops Q S sk fuel listed a w
  | 0, _, _, _, h => h
  | fuel + 1, _, _, _, h => ⟨h.1, fun i hi => wpOp_mono (fun a' w' h' => ⟨fun e => hS _ (h'.1 e), wpL_mono hS fuel _ a' w' h'.2⟩) (h.2 i hi)⟩
/-- A proof that several ways share. -/
theorem via {G : Prop} {T : World → Prop} (F : Value → Value → World → Prop) (h1 : (∀ p q V, T V → F p q V) → G) (h2 : ∀ p q V, T V → F p q V) : G := h1 h2
def tne (a b c d : Int) : Bool := !(a == 3 && (b == 2 && (c == 4 && d == 9)))
theorem tne_ne {a b c d : Int} (h : tne a b c d = true) : (⟨a, b, c, d⟩ : Tg) ≠ tg := by
  intro e
  unfold tg at e
  injection e with e1 e2 e3 e4
  subst e1; subst e2; subst e3; subst e4
  simp [tne] at h
theorem cell_of {b k : Nat} {v : Value} {w w' : World} (hs : St (fun _ => False) w w') (h : w.drew.cell? ⟨b, k, none⟩ = some v) : w'.cell? ⟨b, k, none⟩ = some v := hs.only.cell h (fun e => e)

set_option maxRecDepth 100000 in
set_option maxHeartbeats 16000000 in
theorem tags_walk (wn rn s0 s1 s2 s3 s4 : Int) (A A2 A5 : Option Addr) (n2 n5 c c2 c5 : Nat) (l : List Ai) (w : World) (h0 : -9223372036854775808 ≤ wn) (h1 : wn ≤ 9223372036854775807) (h2 : -9223372036854775808 ≤ rn) (h3 : rn ≤ 9223372036854775807)
    (hA : ActsIn w A l) (hl : l.length ≤ 140737488351232) :
    Calls Try.prog 6 #[.agg #[.int .i64 wn, .int .i64 rn, .slice A2 n2 c2, .slice A l.length c, .int .i64 s0, .int .i64 s1, .int .i64 s2, .int .i64 s3, .int .i64 s4, .slice A5 n5 c5]] w fun e w' => e = .returned (.bool true) ∧ Below w.heap.size w w' := by
  have H0 : St (fun _ => False) w (w.alloc (.cells #[.int .i64 wn, .int .i64 rn, .slice A2 n2 c2, .slice A l.length c, .int .i64 s0, .int .i64 s1, .int .i64 s2, .int .i64 s3, .int .i64 s4, .slice A5 n5 c5] 30)) := (St.refl _ w).alloc _
  have B0 := Blk.new w 30 #[.int .i64 wn, .int .i64 rn, .slice A2 n2 c2, .slice A l.length c, .int .i64 s0, .int .i64 s1, .int .i64 s2, .int .i64 s3, .int .i64 s4, .slice A5 n5 c5]
  have hA0 := hA.st H0
  obtain ⟨W, hW⟩ : ∃ W, W = wndOf wn := ⟨_, rfl⟩
  obtain ⟨Sp, hSp⟩ : ∃ Sp, Sp = spcOf wn rn := ⟨_, rfl⟩
  have hwb := wnd_b wn
  have hsb := spc_b wn rn
  rw [← hW] at hwb hsb
  rw [← hSp] at hsb
  obtain ⟨ln, hln⟩ : ∃ ln, ln = l.length := ⟨_, rfl⟩
  rw [← hln] at hl H0 B0 hA0 ⊢
  have HLN := hide hln
  clear hln
  go_enter Try.func6, Try.ntmps6
  go_wp2_with fail
  obtain ⟨w0, hw0⟩ : ∃ w0, w0 = w.alloc (.cells #[.int .i64 wn, .int .i64 rn, .slice A2 n2 c2, .slice A ln c, .int .i64 s0, .int .i64 s1, .int .i64 s2, .int .i64 s3, .int .i64 s4, .slice A5 n5 c5] 30) := ⟨_, rfl⟩
  rw [← hw0] at H0 B0 hA0 ⊢
  have hST : ∀ V, Calls Try.prog 25 #[.int .i64 wn, .int .i64 rn] V fun e w' => ∃ wb o g, e = .returned (.pointer (some ⟨wb, 0, none⟩)) ∧ WireAt w' o wb W Sp g (wr0 W) ∧ St (fun _ => False) V w' ∧ ∀ q, q < V.heap.size → o q = 0 := fun V => (started_any wn rn V h0 h1 h2 h3).mono fun e w' hh => by
    obtain ⟨wb, o, g, e1, e2, e3, e4⟩ := hh
    rw [hW, hSp]
    exact ⟨wb, o, g, e1, e2, e3, e4.own⟩
  have HST := hide hST
  have HAA := hide hA0
  have HW5 := hide (And.intro hwb hsb)
  have HI : ∀ k, Hid (Inv W Sp k (runS W Sp (l.take k))) := fun k => Inv.run hwb.1 hwb.2 l k
  have HII := hide HI
  have HH0 := hide H0
  have HB0 := hide B0
  obtain ⟨b0, b1⟩ : w0.cell? ⟨w.heap.size, 0, none⟩ = some (.int .i64 wn) ∧ w0.cell? ⟨w.heap.size, 1, none⟩ = some (.int .i64 rn) := ⟨B0.cell 0, B0.cell 1⟩
  have hW5 : W ≤ 5 := hwb.2
  clear hw0 hA hA0 H0 B0 h0 h1 h2 h3 hwb hsb hW hSp hST HI
  go_upto_block 0 with (go_at_call 25; first
    | (with_reducible refine (HST.out w0).mono ?_; rintro e w1 ⟨wb, o1, g1, rfl, hA1, hst1, ho1⟩; have d0 := hst1.only.cell b0 (fun e => e); have d1 := hst1.only.cell b1 (fun e => e); have HA1 := hide (And.intro hA1 (And.intro hst1 ho1)); clear hA1 hst1 ho1 b0 b1)
    | (with_reducible refine (HST.out w1).mono ?_; rintro e w2 ⟨vb, o2, g2, rfl, hB1, hst2, ho2⟩; have HB1 := hide (And.intro hB1 (And.intro hst2 ho2)); clear hB1 hst2 ho2 d0 d1))
  have HT2 : Hid (Two w0 wb vb W Sp (wr0 W) (wr0 W) w2) := by
    obtain ⟨a1, a2, a3⟩ := HA1.out
    obtain ⟨e1, e2, e3⟩ := HB1.out
    refine ⟨o1, g1, o2, g2, a1.quiet e2, e1, a2.trans e2, fun q hq => ⟨a3 q hq, e3 q (Nat.lt_of_lt_of_le hq a2.size)⟩, fun q => ?_⟩
    rcases Nat.lt_or_ge q w1.heap.size with hq | hq
    · exact .inr (e3 q hq)
    · exact .inl (a1.lim q hq)
  clear HA1 HB1 HST
  go_cut [] (fun wx => ∃ k : Nat, k ≤ 200 ∧ Two w0 wb vb W Sp (runS W Sp (l.take k)) (runS W Sp (l.take k)) wx)
  case first =>
    go_wp2_with fail
    go_loopw [5] (fun i wr => ∃ k : Nat, k ≤ ln ∧ k ≤ 200 ∧ i = .int .i64 k ∧ Hid (Two w0 wb vb W Sp (runS W Sp (l.take k)) (runS W Sp (l.take k)) wr)) (fun i _ => ln - (intOf i).toNat)
    case atStart => exact ⟨0, Nat.zero_le _, Nat.zero_le _, rfl, by rw [show runS W Sp (l.take 0) = wr0 W by simp [runS]]; exact HT2⟩
    case round =>
      obtain ⟨k, hk, hk4, rfl, hm⟩ := hrel
      have hb4 := HB0.out.st hm.out.st (fun e => e)
      have b3 : wr.cell? ⟨w.heap.size, 3, none⟩ = some (.slice A ln c) := hb4.cell 3
      clear hb4
      by_cases hgo : k < ln ∧ k < 200
      · obtain ⟨hlt, hl4⟩ := hgo
        obtain ⟨x, b, off, hx, rfl, hb, c0, c1, c2', c3, hg⟩ := HAA.out.at_ (k := k) (by have := HLN.out; omega)
        have hC : ∀ V, St (fun _ => False) w0 V → V.cell? ⟨b, off + k * 4, none⟩ = some (.int .i64 x.a.side) ∧ V.cell? ⟨b, off + k * 4 + 1, none⟩ = some (.int .i64 x.a.kind) ∧ V.cell? ⟨b, off + k * 4 + 2, none⟩ = some (.int .i64 x.a.n) ∧ V.cell? ⟨b, off + k * 4 + 3, none⟩ = some (.slice x.A x.a.bs.length x.c) := fun V hst => ⟨hst.only.cell c0 (fun e => e), hst.only.cell c1 (fun e => e), hst.only.cell c2' (fun e => e), hst.only.cell c3 (fun e => e)⟩
        have HC := hide hC
        clear c0 c1 c2' c3 hC
        obtain ⟨c0, c1, c2', c3⟩ := HC.out wr hm.out.st
        have hstep := runS_snoc W Sp l k x hx
        obtain ⟨x0, hx0⟩ : ∃ x0, x0 = runS W Sp (l.take k) := ⟨_, rfl⟩
        obtain ⟨x1, hx1⟩ : ∃ x1, x1 = runS W Sp (l.take (k + 1)) := ⟨_, rfl⟩
        have HI0 : Hid (Inv W Sp k x0) := by rw [hx0]; exact (HII.out k).out
        have HI1 : Hid (Inv W Sp (k + 1) x1) := by rw [hx1]; exact (HII.out (k + 1)).out
        rw [← hx0] at hm hstep
        rw [← hx1] at hstep
        have HX1 := hide hx1
        have HACT1 : Hid (Calls Try.prog 26 #[.pointer (some ⟨wb, 0, none⟩), .agg #[.int .i64 x.a.side, .int .i64 x.a.kind, .int .i64 x.a.n, .slice x.A x.a.bs.length x.c]] wr fun e w' => e = .returned (.bool true) ∧ Two w0 wb vb W Sp x1 x0 w') := by
          have hh := hm.out.act HI0.out (by omega) hW5 hg
          rw [← hstep] at hh
          exact hh
        have HA2 : Hid (∀ V, Two w0 wb vb W Sp x1 x0 V → Hid (Calls Try.prog 26 #[.pointer (some ⟨vb, 0, none⟩), .agg #[.int .i64 x.a.side, .int .i64 x.a.kind, .int .i64 x.a.n, .slice x.A x.a.bs.length x.c]] V fun e w' => e = .returned (.bool true) ∧ Two w0 wb vb W Sp x1 x1 w')) := fun V hV => by
          have hh := hV.swap.act HI0.out (by omega) hW5 hg
          rw [← hstep] at hh
          exact hh.mono fun e w' h => ⟨h.1, h.2.swap⟩
        have i0 : (0 : Int) ≤ (k : Int) := by omega
        have i1 : (k : Int) < (ln : Int) := by omega
        clear hx hg hstep hm hb hx0 hx1
        have hs01 : (k : Int).tmod 2 = 0 ∨ (k : Int).tmod 2 = 1 := by rw [Int.tmod_eq_emod_of_nonneg (by omega)]; omega
        obtain ⟨sv, hsv⟩ : ∃ sv, sv = (k : Int).tmod 2 := ⟨_, rfl⟩
        rw [← hsv] at hs01
        have hmod : (k : Int).tmod 2 = sv := hsv.symm
        have HSV := hide hs01
        have wzs : IntKind.i64.wrap sv = sv := IntWalk.i64_in _ (by constructor <;> omega)
        clear hsv hs01
        go_wp2_with ((go_at_call 26; first | (with_reducible refine HACT1.out.mono ?_; rintro e w4 ⟨rfl, hm4⟩; have HM4 := hide hm4; obtain ⟨d0, d1, d2, d3⟩ := HC.out w4 hm4.st; have b3' := (HB0.out.st hm4.st (fun e => e)).cell 3; have HACT2 := HA2.out w4 hm4; clear hm4 c0 c1 c2' c3 b3) | (with_reducible refine HACT2.out.mono ?_; rintro e w5 ⟨rfl, hm5⟩; have HM5 := hide hm5; clear hm5 d0 d1 d2 d3 b3')))
        clear hmod wzs
        obtain ⟨o1, g1, o2, g2, hA1, hB1, hst5, hown, hdis⟩ := HM5.out
        have HWA := hide hA1
        have HWB := hide hB1
        have hb5 := HB0.out.st hst5 (fun e => e)
        obtain ⟨b3, b4, b5, b6, b7, b8, b9⟩ : w5.cell? ⟨w.heap.size, 3, none⟩ = some (.slice (some ⟨b, off, none⟩) ln c) ∧ w5.cell? ⟨w.heap.size, 4, none⟩ = some (.int .i64 s0) ∧ w5.cell? ⟨w.heap.size, 5, none⟩ = some (.int .i64 s1) ∧ w5.cell? ⟨w.heap.size, 6, none⟩ = some (.int .i64 s2) ∧ w5.cell? ⟨w.heap.size, 7, none⟩ = some (.int .i64 s3) ∧ w5.cell? ⟨w.heap.size, 8, none⟩ = some (.int .i64 s4) ∧ w5.cell? ⟨w.heap.size, 9, none⟩ = some (.slice A5 n5 c5) := ⟨hb5.cell 3, hb5.cell 4, hb5.cell 5, hb5.cell 6, hb5.cell 7, hb5.cell 8, hb5.cell 9⟩
        clear hA1 hB1 hst5 hown hdis hb5
        have HBC := hide (And.intro b3 (And.intro b4 (And.intro b5 (And.intro b6 (And.intro b7 (And.intro b8 b9))))))
        clear b3 b8 b9
        go_upto_region 11 with fail
        go_cut [60] (fun c60 wx => c60 = .bool (tne s0 s1 s2 s3) ∧ St (fun _ => False) w5 wx)
        case first =>
         as_aux_lemma =>
            have hSd : (fun V : World => V.cell? ⟨w.heap.size, 4, none⟩ = some (.int .i64 s0) ∧ V.cell? ⟨w.heap.size, 5, none⟩ = some (.int .i64 s1) ∧ V.cell? ⟨w.heap.size, 6, none⟩ = some (.int .i64 s2) ∧ V.cell? ⟨w.heap.size, 7, none⟩ = some (.int .i64 s3)) w5.drew := ⟨b4, b5, b6, b7⟩
            clear b4 b5 b6 b7
            have HSD := hide hSd
            clear hSd
            by_cases e0 : s0 = 3
            · by_cases e1 : s1 = 2
              · by_cases e2 : s2 = 4
                · by_cases e3 : s3 = 9
                  · subst e0; subst e1; subst e2; subst e3
                    have hSd : (fun V : World => V.cell? ⟨w.heap.size, 4, none⟩ = some (.int .i64 3) ∧ V.cell? ⟨w.heap.size, 5, none⟩ = some (.int .i64 2) ∧ V.cell? ⟨w.heap.size, 6, none⟩ = some (.int .i64 4) ∧ V.cell? ⟨w.heap.size, 7, none⟩ = some (.int .i64 9)) w5.drew := HSD.out
                    go_region_held3 (fun V : World => V.cell? ⟨w.heap.size, 4, none⟩ = some (.int .i64 3) ∧ V.cell? ⟨w.heap.size, 5, none⟩ = some (.int .i64 2) ∧ V.cell? ⟨w.heap.size, 6, none⟩ = some (.int .i64 4) ∧ V.cell? ⟨w.heap.size, 7, none⟩ = some (.int .i64 9))
                      (first | with_reducible exact hSd | with_reducible exact hSe)
                      ((go_at_call 27; refine (tag_any _).mono ?_; rintro e w6 ⟨rfl, hs6⟩; unfold Tg.v tg; have hSe : (fun V : World => V.cell? ⟨w.heap.size, 4, none⟩ = some (.int .i64 3) ∧ V.cell? ⟨w.heap.size, 5, none⟩ = some (.int .i64 2) ∧ V.cell? ⟨w.heap.size, 6, none⟩ = some (.int .i64 4) ∧ V.cell? ⟨w.heap.size, 7, none⟩ = some (.int .i64 9)) w6 := ⟨cell_of hs6 hSd.1, cell_of hs6 hSd.2.1, cell_of hs6 hSd.2.2.1, cell_of hs6 hSd.2.2.2⟩; have HS6 := hide hs6; clear hs6))
                    go_wp2_with fail
                    go_meet
                    exact ⟨by simp [tne], (St.refl _ w5).drew.trans HS6.out⟩
                  · subst e0; subst e1; subst e2
                    have hq : (s3 == 9) = false := by simpa using e3
                    have hSd : (fun V : World => V.cell? ⟨w.heap.size, 4, none⟩ = some (.int .i64 3) ∧ V.cell? ⟨w.heap.size, 5, none⟩ = some (.int .i64 2) ∧ V.cell? ⟨w.heap.size, 6, none⟩ = some (.int .i64 4) ∧ V.cell? ⟨w.heap.size, 7, none⟩ = some (.int .i64 s3)) w5.drew := HSD.out
                    go_region_held3 (fun V : World => V.cell? ⟨w.heap.size, 4, none⟩ = some (.int .i64 3) ∧ V.cell? ⟨w.heap.size, 5, none⟩ = some (.int .i64 2) ∧ V.cell? ⟨w.heap.size, 6, none⟩ = some (.int .i64 4) ∧ V.cell? ⟨w.heap.size, 7, none⟩ = some (.int .i64 s3))
                      (first | with_reducible exact hSd | with_reducible exact hSe)
                      ((go_at_call 27; refine (tag_any _).mono ?_; rintro e w6 ⟨rfl, hs6⟩; unfold Tg.v tg; have hSe : (fun V : World => V.cell? ⟨w.heap.size, 4, none⟩ = some (.int .i64 3) ∧ V.cell? ⟨w.heap.size, 5, none⟩ = some (.int .i64 2) ∧ V.cell? ⟨w.heap.size, 6, none⟩ = some (.int .i64 4) ∧ V.cell? ⟨w.heap.size, 7, none⟩ = some (.int .i64 s3)) w6 := ⟨cell_of hs6 hSd.1, cell_of hs6 hSd.2.1, cell_of hs6 hSd.2.2.1, cell_of hs6 hSd.2.2.2⟩; have HS6 := hide hs6; clear hs6))
                    go_wp2_with fail
                    go_meet
                    exact ⟨by simp [tne, hq], (St.refl _ w5).drew.trans HS6.out⟩
                · subst e0; subst e1
                  have hq : (s2 == 4) = false := by simpa using e2
                  have hSd : (fun V : World => V.cell? ⟨w.heap.size, 4, none⟩ = some (.int .i64 3) ∧ V.cell? ⟨w.heap.size, 5, none⟩ = some (.int .i64 2) ∧ V.cell? ⟨w.heap.size, 6, none⟩ = some (.int .i64 s2) ∧ V.cell? ⟨w.heap.size, 7, none⟩ = some (.int .i64 s3)) w5.drew := HSD.out
                  go_region_held3 (fun V : World => V.cell? ⟨w.heap.size, 4, none⟩ = some (.int .i64 3) ∧ V.cell? ⟨w.heap.size, 5, none⟩ = some (.int .i64 2) ∧ V.cell? ⟨w.heap.size, 6, none⟩ = some (.int .i64 s2) ∧ V.cell? ⟨w.heap.size, 7, none⟩ = some (.int .i64 s3))
                    (first | with_reducible exact hSd | with_reducible exact hSe)
                    ((go_at_call 27; refine (tag_any _).mono ?_; rintro e w6 ⟨rfl, hs6⟩; unfold Tg.v tg; have hSe : (fun V : World => V.cell? ⟨w.heap.size, 4, none⟩ = some (.int .i64 3) ∧ V.cell? ⟨w.heap.size, 5, none⟩ = some (.int .i64 2) ∧ V.cell? ⟨w.heap.size, 6, none⟩ = some (.int .i64 s2) ∧ V.cell? ⟨w.heap.size, 7, none⟩ = some (.int .i64 s3)) w6 := ⟨cell_of hs6 hSd.1, cell_of hs6 hSd.2.1, cell_of hs6 hSd.2.2.1, cell_of hs6 hSd.2.2.2⟩; have HS6 := hide hs6; clear hs6))
                  go_wp2_with fail
                  go_meet
                  exact ⟨by simp [tne, hq], (St.refl _ w5).drew.trans HS6.out⟩
              · subst e0
                have hq : (s1 == 2) = false := by simpa using e1
                have hSd : (fun V : World => V.cell? ⟨w.heap.size, 4, none⟩ = some (.int .i64 3) ∧ V.cell? ⟨w.heap.size, 5, none⟩ = some (.int .i64 s1) ∧ V.cell? ⟨w.heap.size, 6, none⟩ = some (.int .i64 s2) ∧ V.cell? ⟨w.heap.size, 7, none⟩ = some (.int .i64 s3)) w5.drew := HSD.out
                go_region_held3 (fun V : World => V.cell? ⟨w.heap.size, 4, none⟩ = some (.int .i64 3) ∧ V.cell? ⟨w.heap.size, 5, none⟩ = some (.int .i64 s1) ∧ V.cell? ⟨w.heap.size, 6, none⟩ = some (.int .i64 s2) ∧ V.cell? ⟨w.heap.size, 7, none⟩ = some (.int .i64 s3))
                  (first | with_reducible exact hSd | with_reducible exact hSe)
                  ((go_at_call 27; refine (tag_any _).mono ?_; rintro e w6 ⟨rfl, hs6⟩; unfold Tg.v tg; have hSe : (fun V : World => V.cell? ⟨w.heap.size, 4, none⟩ = some (.int .i64 3) ∧ V.cell? ⟨w.heap.size, 5, none⟩ = some (.int .i64 s1) ∧ V.cell? ⟨w.heap.size, 6, none⟩ = some (.int .i64 s2) ∧ V.cell? ⟨w.heap.size, 7, none⟩ = some (.int .i64 s3)) w6 := ⟨cell_of hs6 hSd.1, cell_of hs6 hSd.2.1, cell_of hs6 hSd.2.2.1, cell_of hs6 hSd.2.2.2⟩; have HS6 := hide hs6; clear hs6))
                go_wp2_with fail
                go_meet
                exact ⟨by simp [tne, hq], (St.refl _ w5).drew.trans HS6.out⟩
            · have hq : (s0 == 3) = false := by simpa using e0
              have hSd : (fun V : World => V.cell? ⟨w.heap.size, 4, none⟩ = some (.int .i64 s0) ∧ V.cell? ⟨w.heap.size, 5, none⟩ = some (.int .i64 s1) ∧ V.cell? ⟨w.heap.size, 6, none⟩ = some (.int .i64 s2) ∧ V.cell? ⟨w.heap.size, 7, none⟩ = some (.int .i64 s3)) w5.drew := HSD.out
              go_region_held3 (fun V : World => V.cell? ⟨w.heap.size, 4, none⟩ = some (.int .i64 s0) ∧ V.cell? ⟨w.heap.size, 5, none⟩ = some (.int .i64 s1) ∧ V.cell? ⟨w.heap.size, 6, none⟩ = some (.int .i64 s2) ∧ V.cell? ⟨w.heap.size, 7, none⟩ = some (.int .i64 s3))
                (first | with_reducible exact hSd | with_reducible exact hSe)
                ((go_at_call 27; refine (tag_any _).mono ?_; rintro e w6 ⟨rfl, hs6⟩; unfold Tg.v tg; have hSe : (fun V : World => V.cell? ⟨w.heap.size, 4, none⟩ = some (.int .i64 s0) ∧ V.cell? ⟨w.heap.size, 5, none⟩ = some (.int .i64 s1) ∧ V.cell? ⟨w.heap.size, 6, none⟩ = some (.int .i64 s2) ∧ V.cell? ⟨w.heap.size, 7, none⟩ = some (.int .i64 s3)) w6 := ⟨cell_of hs6 hSd.1, cell_of hs6 hSd.2.1, cell_of hs6 hSd.2.2.1, cell_of hs6 hSd.2.2.2⟩; have HS6 := hide hs6; clear hs6))
              go_wp2_with fail
              go_meet
              exact ⟨by simp [tne, hq], (St.refl _ w5).drew.trans HS6.out⟩
        case rest =>
          obtain ⟨rfl, hs6⟩ := hcut
          have HS6 := hide hs6
          obtain ⟨w6, hw6⟩ : ∃ w6, w6 = wc := ⟨_, rfl⟩
          rw [← hw6] at HS6 ⊢
          clear hw6 hs6 b4 b5 b6 b7
          rcases HSV.out with rfl | rfl
          · have HKM : Hid (w5.cell? ⟨wb, 0, none⟩ = some (.pointer (some ⟨g1.m 0, 0, none⟩))) := HWA.out.cellM 0 (by omega)
            go_upto_if 60 with (fail)
            go_cut [] (fun wx => St (fun _ => False) w5 wx)
            case first =>
             as_aux_lemma =>
              cases htn : tne s0 s1 s2 s3 with
              | false =>
                go_wp2_with fail
                go_meet
                exact HS6.out
              | true =>
                have hne := tne_ne htn
                have HTK : Hid (Calls Try.prog 28 #[.pointer (some ⟨g1.m 0, 0, none⟩), .int .i64 5, .agg #[.int .i64 s0, .int .i64 s1, .int .i64 s2, .int .i64 s3, .int .i64 s4, .slice A5 n5 c5]] w6.drew fun e w' => (∃ z : Int, (z = 1 ∨ z = 40) ∧ e = .returned (.tuple #[.slice none 0 0, .int .i64 z])) ∧ St (fun _ => False) w6.drew w') :=
                  ((HWA.out.quiet HS6.out).quiet (St.refl _ w6).drew).takeT (s := 0) (by omega) (by decide) hne s4 A5 n5 c5
                have HAK : Hid (∀ V, St (fun _ => False) w6 V → Calls Try.prog 29 #[.pointer (some ⟨g1.m 0, 0, none⟩), .int .i64 5, .agg #[.int .i64 s0, .int .i64 s1, .int .i64 s2, .int .i64 s3, .int .i64 s4]] V.drew fun e w' => (∃ z : Int, (z = 1 ∨ z = 40) ∧ e = .returned (.int .i64 z)) ∧ St (fun _ => False) V.drew w') := fun V hV =>
                  ((HWA.out.quiet (HS6.out.trans hV)).quiet (St.refl _ V).drew).ackedT (s := 0) (by omega) (by decide) hne s4
                have hSd : (fun V : World => V.cell? ⟨wb, 0, none⟩ = some (.pointer (some ⟨g1.m 0, 0, none⟩)) ∧ V.cell? ⟨w.heap.size, 4, none⟩ = some (.int .i64 s0) ∧ V.cell? ⟨w.heap.size, 5, none⟩ = some (.int .i64 s1) ∧ V.cell? ⟨w.heap.size, 6, none⟩ = some (.int .i64 s2) ∧ V.cell? ⟨w.heap.size, 7, none⟩ = some (.int .i64 s3) ∧ V.cell? ⟨w.heap.size, 8, none⟩ = some (.int .i64 s4) ∧ V.cell? ⟨w.heap.size, 9, none⟩ = some (.slice A5 n5 c5)) w6.drew := by
                  obtain ⟨z3, z4, z5, z6, z7, z8, z9⟩ := HBC.out
                  have zM := HKM.out
                  exact ⟨HS6.out.only.cell zM (fun e => e), HS6.out.only.cell z4 (fun e => e), HS6.out.only.cell z5 (fun e => e), HS6.out.only.cell z6 (fun e => e), HS6.out.only.cell z7 (fun e => e), HS6.out.only.cell z8 (fun e => e), HS6.out.only.cell z9 (fun e => e)⟩
                have wzz : IntKind.i64.wrap (1 - 0) = 1 := by decide
                clear hne htn
                go_wp2_with fail
                go_region_held3 (fun V : World => V.cell? ⟨wb, 0, none⟩ = some (.pointer (some ⟨g1.m 0, 0, none⟩)) ∧ V.cell? ⟨w.heap.size, 4, none⟩ = some (.int .i64 s0) ∧ V.cell? ⟨w.heap.size, 5, none⟩ = some (.int .i64 s1) ∧ V.cell? ⟨w.heap.size, 6, none⟩ = some (.int .i64 s2) ∧ V.cell? ⟨w.heap.size, 7, none⟩ = some (.int .i64 s3) ∧ V.cell? ⟨w.heap.size, 8, none⟩ = some (.int .i64 s4) ∧ V.cell? ⟨w.heap.size, 9, none⟩ = some (.slice A5 n5 c5))
                  (first | with_reducible exact hSd | with_reducible exact hSe)
                  (first
                    | (go_at_call 21; refine (pid1 _).mono ?_; rintro e w' ⟨rfl, rfl⟩)
                    | (go_at_call 28; refine HTK.out.mono ?_; rintro e w7 ⟨⟨z, hz, rfl⟩, hs7⟩; have hSe : (fun V : World => V.cell? ⟨wb, 0, none⟩ = some (.pointer (some ⟨g1.m 0, 0, none⟩)) ∧ V.cell? ⟨w.heap.size, 4, none⟩ = some (.int .i64 s0) ∧ V.cell? ⟨w.heap.size, 5, none⟩ = some (.int .i64 s1) ∧ V.cell? ⟨w.heap.size, 6, none⟩ = some (.int .i64 s2) ∧ V.cell? ⟨w.heap.size, 7, none⟩ = some (.int .i64 s3) ∧ V.cell? ⟨w.heap.size, 8, none⟩ = some (.int .i64 s4) ∧ V.cell? ⟨w.heap.size, 9, none⟩ = some (.slice A5 n5 c5)) w7 := ⟨cell_of hs7 hSd.1, cell_of hs7 hSd.2.1, cell_of hs7 hSd.2.2.1, cell_of hs7 hSd.2.2.2.1, cell_of hs7 hSd.2.2.2.2.1, cell_of hs7 hSd.2.2.2.2.2.1, cell_of hs7 hSd.2.2.2.2.2.2⟩; have HZ := hide hz; have HS7 := hide hs7; clear hs7 hz))
                have hSf : (fun V : World => V.cell? ⟨wb, 0, none⟩ = some (.pointer (some ⟨g1.m 0, 0, none⟩)) ∧ V.cell? ⟨w.heap.size, 4, none⟩ = some (.int .i64 s0) ∧ V.cell? ⟨w.heap.size, 5, none⟩ = some (.int .i64 s1) ∧ V.cell? ⟨w.heap.size, 6, none⟩ = some (.int .i64 s2) ∧ V.cell? ⟨w.heap.size, 7, none⟩ = some (.int .i64 s3) ∧ V.cell? ⟨w.heap.size, 8, none⟩ = some (.int .i64 s4)) w7.drew := ⟨hSe.1, hSe.2.1, hSe.2.2.1, hSe.2.2.2.1, hSe.2.2.2.2.1, hSe.2.2.2.2.2.1⟩
                have HAK2 := hide (HAK.out w7 ((St.refl _ w6).drew.trans HS7.out))
                clear hSd hSe
                go_wp2_with fail
                go_region_held3 (fun V : World => V.cell? ⟨wb, 0, none⟩ = some (.pointer (some ⟨g1.m 0, 0, none⟩)) ∧ V.cell? ⟨w.heap.size, 4, none⟩ = some (.int .i64 s0) ∧ V.cell? ⟨w.heap.size, 5, none⟩ = some (.int .i64 s1) ∧ V.cell? ⟨w.heap.size, 6, none⟩ = some (.int .i64 s2) ∧ V.cell? ⟨w.heap.size, 7, none⟩ = some (.int .i64 s3) ∧ V.cell? ⟨w.heap.size, 8, none⟩ = some (.int .i64 s4))
                  (first | with_reducible exact hSf | with_reducible exact hSg)
                  (first
                    | (go_at_call 21; refine (pid1 _).mono ?_; rintro e w' ⟨rfl, rfl⟩)
                    | (go_at_call 29; refine HAK2.out.mono ?_; rintro e w8 ⟨⟨y, hy, rfl⟩, hs8⟩; have hSg : (fun V : World => V.cell? ⟨wb, 0, none⟩ = some (.pointer (some ⟨g1.m 0, 0, none⟩)) ∧ V.cell? ⟨w.heap.size, 4, none⟩ = some (.int .i64 s0) ∧ V.cell? ⟨w.heap.size, 5, none⟩ = some (.int .i64 s1) ∧ V.cell? ⟨w.heap.size, 6, none⟩ = some (.int .i64 s2) ∧ V.cell? ⟨w.heap.size, 7, none⟩ = some (.int .i64 s3) ∧ V.cell? ⟨w.heap.size, 8, none⟩ = some (.int .i64 s4)) w8 := ⟨cell_of hs8 hSf.1, cell_of hs8 hSf.2.1, cell_of hs8 hSf.2.2.1, cell_of hs8 hSf.2.2.2.1, cell_of hs8 hSf.2.2.2.2.1, cell_of hs8 hSf.2.2.2.2.2⟩; have HY := hide hy; have HS8 := hide hs8; clear hs8 hy))
                have HS := hide (((HS6.out.trans ((St.refl _ w6).drew.trans HS7.out)).trans (St.refl _ w7).drew).trans HS8.out)
                clear hSf hSg
                rcases HZ.out with rfl | rfl
                all_goals
                  rcases HY.out with rfl | rfl
                  all_goals
                    go_wp2_with ((go_at_call 15; refine (num_any _ _).mono ?_; rintro e w' ⟨rfl, rfl⟩))
                    go_meet
                    exact HS.out
            case rest =>
             as_aux_lemma =>
              have hs7 := hcut
              obtain ⟨w7, hw7⟩ : ∃ w7, w7 = wc := ⟨_, rfl⟩
              rw [← hw7] at hs7 ⊢
              clear hw7 hcut
              have HA7 := hide (HWA.out.quiet hs7)
              have HB7 := hide (HWB.out.quiet hs7)
              obtain ⟨AO, cO, AP, cP, eO, eP, HSL⟩ := Two.lists HA7.out HB7.out HI1.out (by omega) (s := 0) (by omega)
              obtain ⟨AA, cA, eA, _⟩ := own_val (show ARow w7 _ (g1.row 3 0) (x1.A 0) from HA7.out.row 3 0 (by omega) (by omega)).1
              obtain ⟨AB, cB, eB, _⟩ := own_val (show ARow w7 _ (g2.row 3 0) (x1.A 0) from HB7.out.row 3 0 (by omega) (by omega)).1
              have kM : w7.cell? ⟨wb, 0, none⟩ = some (.pointer (some ⟨g1.m 0, 0, none⟩)) := HA7.out.cellM 0 (by omega)
              have kN : w7.cell? ⟨vb, 0, none⟩ = some (.pointer (some ⟨g2.m 0, 0, none⟩)) := HB7.out.cellM 0 (by omega)
              have kO : w7.cell? ⟨wb, 6, none⟩ = some (g1.row 1 0) := HA7.out.cellR 1 0 (by omega) (by omega)
              have kP : w7.cell? ⟨vb, 6, none⟩ = some (g2.row 1 0) := HB7.out.cellR 1 0 (by omega) (by omega)
              have kA : w7.cell? ⟨wb, 10, none⟩ = some (g1.row 3 0) := HA7.out.cellR 3 0 (by omega) (by omega)
              have kB : w7.cell? ⟨vb, 10, none⟩ = some (g2.row 3 0) := HB7.out.cellR 3 0 (by omega) (by omega)
              rw [eO] at kO
              rw [eP] at kP
              rw [eA] at kA
              rw [eB] at kB
              obtain ⟨rm, hrm⟩ : ∃ rm : Int, rm = (Sp : Int) - ((x1.st 0).out.length : Int) := ⟨_, rfl⟩
              obtain ⟨gt, hgt⟩ : ∃ gt : Int, gt = ((x1.O 0).length : Int) := ⟨_, rfl⟩
              have HR1 : ∀ n', Hid (Calls Try.prog 24 #[.pointer (some ⟨g1.m 0, 0, none⟩), .int .i64 5] (w7.drewN n') fun r w' => r = .returned (.int .i64 rm) ∧ ∃ k, w' = (w7.drewN n').drewN k) := fun n' => by
                rw [hrm]
                exact (HA7.out.quiet ((St.refl (fun _ => False) w7).drewN n')).room HI1.out (by omega) (s := 0) (by omega) (p := 5) rfl
              have HR2 : ∀ n', Hid (Calls Try.prog 24 #[.pointer (some ⟨g2.m 0, 0, none⟩), .int .i64 5] (w7.drewN n') fun r w' => r = .returned (.int .i64 rm) ∧ ∃ k, w' = (w7.drewN n').drewN k) := fun n' => by
                rw [hrm]
                exact (HB7.out.quiet ((St.refl (fun _ => False) w7).drewN n')).room HI1.out (by omega) (s := 0) (by omega) (p := 5) rfl
              have HG1 : ∀ n', Hid (Calls Try.prog 30 #[.pointer (some ⟨g1.m 0, 0, none⟩), .int .i64 5] (w7.drewN n') fun r w' => r = .returned (.int .i64 gt) ∧ w7.drewN n' = w') := fun n' => by
                rw [hgt]
                exact (HA7.out.quiet ((St.refl (fun _ => False) w7).drewN n')).got HI1.out (by omega) (s := 0) (by omega) (p := 5) rfl
              have HG2 : ∀ n', Hid (Calls Try.prog 30 #[.pointer (some ⟨g2.m 0, 0, none⟩), .int .i64 5] (w7.drewN n') fun r w' => r = .returned (.int .i64 gt) ∧ w7.drewN n' = w') := fun n' => by
                rw [hgt]
                exact (HB7.out.quiet ((St.refl (fun _ => False) w7).drewN n')).got HI1.out (by omega) (s := 0) (by omega) (p := 5) rfl
              obtain ⟨na, hna⟩ : ∃ na, na = (x1.A 0).length := ⟨_, rfl⟩
              obtain ⟨no, hno⟩ : ∃ no, no = (x1.O 0).length := ⟨_, rfl⟩
              rw [← hna] at kA kB
              rw [← hno] at kO kP HSL
              have wzz : IntKind.i64.wrap (1 - 0) = 1 := by decide
              have q1 : (rm != rm) = false := by simp
              have q2 : (gt != gt) = false := by simp
              have q3 : ((na : Int) != (na : Int)) = false := by simp
              have HREL : ∀ m, Hid (Two w0 wb vb W Sp (runS W Sp (l.take (k + 1))) (runS W Sp (l.take (k + 1))) (w7.drewN m)) := fun m => by
                rw [← HX1.out]
                exact (HM5.out.quiet hs7).quiet ((St.refl (fun _ => False) w7).drewN m)
              have HRR := hide HREL
              clear hrm hgt hna hno eO eP eA eB hs7 HREL
              go_wp2_with fail
              go_quiet ((first | (go_at_call 23; exact Calls.quiet_of ((HSL.out _))) | (go_at_call 21; exact quiet_left (pid1 _)) | (go_at_call 24; first | with_reducible exact Calls.quiet_of ((HR1 _).out) | with_reducible exact Calls.quiet_of ((HR2 _).out)) | (go_at_call 30; first | with_reducible exact quiet_left ((HG1 _).out) | with_reducible exact quiet_left ((HG2 _).out))))
              go_wp2
              go_roundw
              case rel => first | exact ⟨k + 1, by omega, by omega, by go_num, (HRR.out _)⟩ | ((repeat apply Exists.intro); exact ⟨⟨k + 1, by omega, by omega, by go_num, (HRR.out _)⟩, rfl⟩)
              case measure => simp [intOf]; omega
          · have HKM : Hid (w5.cell? ⟨wb, 1, none⟩ = some (.pointer (some ⟨g1.m 1, 0, none⟩))) := HWA.out.cellM 1 (by omega)
            go_upto_if 60 with (fail)
            go_cut [] (fun wx => St (fun _ => False) w5 wx)
            case first =>
             as_aux_lemma =>
              cases htn : tne s0 s1 s2 s3 with
              | false =>
                go_wp2_with fail
                go_meet
                exact HS6.out
              | true =>
                have hne := tne_ne htn
                have HTK : Hid (Calls Try.prog 28 #[.pointer (some ⟨g1.m 1, 0, none⟩), .int .i64 2, .agg #[.int .i64 s0, .int .i64 s1, .int .i64 s2, .int .i64 s3, .int .i64 s4, .slice A5 n5 c5]] w6.drew fun e w' => (∃ z : Int, (z = 1 ∨ z = 40) ∧ e = .returned (.tuple #[.slice none 0 0, .int .i64 z])) ∧ St (fun _ => False) w6.drew w') :=
                  ((HWA.out.quiet HS6.out).quiet (St.refl _ w6).drew).takeT (s := 1) (by omega) (by decide) hne s4 A5 n5 c5
                have HAK : Hid (∀ V, St (fun _ => False) w6 V → Calls Try.prog 29 #[.pointer (some ⟨g1.m 1, 0, none⟩), .int .i64 2, .agg #[.int .i64 s0, .int .i64 s1, .int .i64 s2, .int .i64 s3, .int .i64 s4]] V.drew fun e w' => (∃ z : Int, (z = 1 ∨ z = 40) ∧ e = .returned (.int .i64 z)) ∧ St (fun _ => False) V.drew w') := fun V hV =>
                  ((HWA.out.quiet (HS6.out.trans hV)).quiet (St.refl _ V).drew).ackedT (s := 1) (by omega) (by decide) hne s4
                have hSd : (fun V : World => V.cell? ⟨wb, 1, none⟩ = some (.pointer (some ⟨g1.m 1, 0, none⟩)) ∧ V.cell? ⟨w.heap.size, 4, none⟩ = some (.int .i64 s0) ∧ V.cell? ⟨w.heap.size, 5, none⟩ = some (.int .i64 s1) ∧ V.cell? ⟨w.heap.size, 6, none⟩ = some (.int .i64 s2) ∧ V.cell? ⟨w.heap.size, 7, none⟩ = some (.int .i64 s3) ∧ V.cell? ⟨w.heap.size, 8, none⟩ = some (.int .i64 s4) ∧ V.cell? ⟨w.heap.size, 9, none⟩ = some (.slice A5 n5 c5)) w6.drew := by
                  obtain ⟨z3, z4, z5, z6, z7, z8, z9⟩ := HBC.out
                  have zM := HKM.out
                  exact ⟨HS6.out.only.cell zM (fun e => e), HS6.out.only.cell z4 (fun e => e), HS6.out.only.cell z5 (fun e => e), HS6.out.only.cell z6 (fun e => e), HS6.out.only.cell z7 (fun e => e), HS6.out.only.cell z8 (fun e => e), HS6.out.only.cell z9 (fun e => e)⟩
                have wzz : IntKind.i64.wrap (1 - 1) = 0 := by decide
                clear hne htn
                go_wp2_with fail
                go_region_held3 (fun V : World => V.cell? ⟨wb, 1, none⟩ = some (.pointer (some ⟨g1.m 1, 0, none⟩)) ∧ V.cell? ⟨w.heap.size, 4, none⟩ = some (.int .i64 s0) ∧ V.cell? ⟨w.heap.size, 5, none⟩ = some (.int .i64 s1) ∧ V.cell? ⟨w.heap.size, 6, none⟩ = some (.int .i64 s2) ∧ V.cell? ⟨w.heap.size, 7, none⟩ = some (.int .i64 s3) ∧ V.cell? ⟨w.heap.size, 8, none⟩ = some (.int .i64 s4) ∧ V.cell? ⟨w.heap.size, 9, none⟩ = some (.slice A5 n5 c5))
                  (first | with_reducible exact hSd | with_reducible exact hSe)
                  (first
                    | (go_at_call 21; refine (pid0 _).mono ?_; rintro e w' ⟨rfl, rfl⟩)
                    | (go_at_call 28; refine HTK.out.mono ?_; rintro e w7 ⟨⟨z, hz, rfl⟩, hs7⟩; have hSe : (fun V : World => V.cell? ⟨wb, 1, none⟩ = some (.pointer (some ⟨g1.m 1, 0, none⟩)) ∧ V.cell? ⟨w.heap.size, 4, none⟩ = some (.int .i64 s0) ∧ V.cell? ⟨w.heap.size, 5, none⟩ = some (.int .i64 s1) ∧ V.cell? ⟨w.heap.size, 6, none⟩ = some (.int .i64 s2) ∧ V.cell? ⟨w.heap.size, 7, none⟩ = some (.int .i64 s3) ∧ V.cell? ⟨w.heap.size, 8, none⟩ = some (.int .i64 s4) ∧ V.cell? ⟨w.heap.size, 9, none⟩ = some (.slice A5 n5 c5)) w7 := ⟨cell_of hs7 hSd.1, cell_of hs7 hSd.2.1, cell_of hs7 hSd.2.2.1, cell_of hs7 hSd.2.2.2.1, cell_of hs7 hSd.2.2.2.2.1, cell_of hs7 hSd.2.2.2.2.2.1, cell_of hs7 hSd.2.2.2.2.2.2⟩; have HZ := hide hz; have HS7 := hide hs7; clear hs7 hz))
                have hSf : (fun V : World => V.cell? ⟨wb, 1, none⟩ = some (.pointer (some ⟨g1.m 1, 0, none⟩)) ∧ V.cell? ⟨w.heap.size, 4, none⟩ = some (.int .i64 s0) ∧ V.cell? ⟨w.heap.size, 5, none⟩ = some (.int .i64 s1) ∧ V.cell? ⟨w.heap.size, 6, none⟩ = some (.int .i64 s2) ∧ V.cell? ⟨w.heap.size, 7, none⟩ = some (.int .i64 s3) ∧ V.cell? ⟨w.heap.size, 8, none⟩ = some (.int .i64 s4)) w7.drew := ⟨hSe.1, hSe.2.1, hSe.2.2.1, hSe.2.2.2.1, hSe.2.2.2.2.1, hSe.2.2.2.2.2.1⟩
                have HAK2 := hide (HAK.out w7 ((St.refl _ w6).drew.trans HS7.out))
                clear hSd hSe
                go_wp2_with fail
                go_region_held3 (fun V : World => V.cell? ⟨wb, 1, none⟩ = some (.pointer (some ⟨g1.m 1, 0, none⟩)) ∧ V.cell? ⟨w.heap.size, 4, none⟩ = some (.int .i64 s0) ∧ V.cell? ⟨w.heap.size, 5, none⟩ = some (.int .i64 s1) ∧ V.cell? ⟨w.heap.size, 6, none⟩ = some (.int .i64 s2) ∧ V.cell? ⟨w.heap.size, 7, none⟩ = some (.int .i64 s3) ∧ V.cell? ⟨w.heap.size, 8, none⟩ = some (.int .i64 s4))
                  (first | with_reducible exact hSf | with_reducible exact hSg)
                  (first
                    | (go_at_call 21; refine (pid0 _).mono ?_; rintro e w' ⟨rfl, rfl⟩)
                    | (go_at_call 29; refine HAK2.out.mono ?_; rintro e w8 ⟨⟨y, hy, rfl⟩, hs8⟩; have hSg : (fun V : World => V.cell? ⟨wb, 1, none⟩ = some (.pointer (some ⟨g1.m 1, 0, none⟩)) ∧ V.cell? ⟨w.heap.size, 4, none⟩ = some (.int .i64 s0) ∧ V.cell? ⟨w.heap.size, 5, none⟩ = some (.int .i64 s1) ∧ V.cell? ⟨w.heap.size, 6, none⟩ = some (.int .i64 s2) ∧ V.cell? ⟨w.heap.size, 7, none⟩ = some (.int .i64 s3) ∧ V.cell? ⟨w.heap.size, 8, none⟩ = some (.int .i64 s4)) w8 := ⟨cell_of hs8 hSf.1, cell_of hs8 hSf.2.1, cell_of hs8 hSf.2.2.1, cell_of hs8 hSf.2.2.2.1, cell_of hs8 hSf.2.2.2.2.1, cell_of hs8 hSf.2.2.2.2.2⟩; have HY := hide hy; have HS8 := hide hs8; clear hs8 hy))
                have HS := hide (((HS6.out.trans ((St.refl _ w6).drew.trans HS7.out)).trans (St.refl _ w7).drew).trans HS8.out)
                clear hSf hSg
                rcases HZ.out with rfl | rfl
                all_goals
                  rcases HY.out with rfl | rfl
                  all_goals
                    go_wp2_with ((go_at_call 15; refine (num_any _ _).mono ?_; rintro e w' ⟨rfl, rfl⟩))
                    go_meet
                    exact HS.out
            case rest =>
             as_aux_lemma =>
              have hs7 := hcut
              obtain ⟨w7, hw7⟩ : ∃ w7, w7 = wc := ⟨_, rfl⟩
              rw [← hw7] at hs7 ⊢
              clear hw7 hcut
              have HA7 := hide (HWA.out.quiet hs7)
              have HB7 := hide (HWB.out.quiet hs7)
              obtain ⟨AO, cO, AP, cP, eO, eP, HSL⟩ := Two.lists HA7.out HB7.out HI1.out (by omega) (s := 1) (by omega)
              obtain ⟨AA, cA, eA, _⟩ := own_val (show ARow w7 _ (g1.row 3 1) (x1.A 1) from HA7.out.row 3 1 (by omega) (by omega)).1
              obtain ⟨AB, cB, eB, _⟩ := own_val (show ARow w7 _ (g2.row 3 1) (x1.A 1) from HB7.out.row 3 1 (by omega) (by omega)).1
              have kM : w7.cell? ⟨wb, 1, none⟩ = some (.pointer (some ⟨g1.m 1, 0, none⟩)) := HA7.out.cellM 1 (by omega)
              have kN : w7.cell? ⟨vb, 1, none⟩ = some (.pointer (some ⟨g2.m 1, 0, none⟩)) := HB7.out.cellM 1 (by omega)
              have kO : w7.cell? ⟨wb, 7, none⟩ = some (g1.row 1 1) := HA7.out.cellR 1 1 (by omega) (by omega)
              have kP : w7.cell? ⟨vb, 7, none⟩ = some (g2.row 1 1) := HB7.out.cellR 1 1 (by omega) (by omega)
              have kA : w7.cell? ⟨wb, 11, none⟩ = some (g1.row 3 1) := HA7.out.cellR 3 1 (by omega) (by omega)
              have kB : w7.cell? ⟨vb, 11, none⟩ = some (g2.row 3 1) := HB7.out.cellR 3 1 (by omega) (by omega)
              rw [eO] at kO
              rw [eP] at kP
              rw [eA] at kA
              rw [eB] at kB
              obtain ⟨rm, hrm⟩ : ∃ rm : Int, rm = (Sp : Int) - ((x1.st 1).out.length : Int) := ⟨_, rfl⟩
              obtain ⟨gt, hgt⟩ : ∃ gt : Int, gt = ((x1.O 1).length : Int) := ⟨_, rfl⟩
              have HR1 : ∀ n', Hid (Calls Try.prog 24 #[.pointer (some ⟨g1.m 1, 0, none⟩), .int .i64 2] (w7.drewN n') fun r w' => r = .returned (.int .i64 rm) ∧ ∃ k, w' = (w7.drewN n').drewN k) := fun n' => by
                rw [hrm]
                exact (HA7.out.quiet ((St.refl (fun _ => False) w7).drewN n')).room HI1.out (by omega) (s := 1) (by omega) (p := 2) rfl
              have HR2 : ∀ n', Hid (Calls Try.prog 24 #[.pointer (some ⟨g2.m 1, 0, none⟩), .int .i64 2] (w7.drewN n') fun r w' => r = .returned (.int .i64 rm) ∧ ∃ k, w' = (w7.drewN n').drewN k) := fun n' => by
                rw [hrm]
                exact (HB7.out.quiet ((St.refl (fun _ => False) w7).drewN n')).room HI1.out (by omega) (s := 1) (by omega) (p := 2) rfl
              have HG1 : ∀ n', Hid (Calls Try.prog 30 #[.pointer (some ⟨g1.m 1, 0, none⟩), .int .i64 2] (w7.drewN n') fun r w' => r = .returned (.int .i64 gt) ∧ w7.drewN n' = w') := fun n' => by
                rw [hgt]
                exact (HA7.out.quiet ((St.refl (fun _ => False) w7).drewN n')).got HI1.out (by omega) (s := 1) (by omega) (p := 2) rfl
              have HG2 : ∀ n', Hid (Calls Try.prog 30 #[.pointer (some ⟨g2.m 1, 0, none⟩), .int .i64 2] (w7.drewN n') fun r w' => r = .returned (.int .i64 gt) ∧ w7.drewN n' = w') := fun n' => by
                rw [hgt]
                exact (HB7.out.quiet ((St.refl (fun _ => False) w7).drewN n')).got HI1.out (by omega) (s := 1) (by omega) (p := 2) rfl
              obtain ⟨na, hna⟩ : ∃ na, na = (x1.A 1).length := ⟨_, rfl⟩
              obtain ⟨no, hno⟩ : ∃ no, no = (x1.O 1).length := ⟨_, rfl⟩
              rw [← hna] at kA kB
              rw [← hno] at kO kP HSL
              have wzz : IntKind.i64.wrap (1 - 1) = 0 := by decide
              have q1 : (rm != rm) = false := by simp
              have q2 : (gt != gt) = false := by simp
              have q3 : ((na : Int) != (na : Int)) = false := by simp
              have HREL : ∀ m, Hid (Two w0 wb vb W Sp (runS W Sp (l.take (k + 1))) (runS W Sp (l.take (k + 1))) (w7.drewN m)) := fun m => by
                rw [← HX1.out]
                exact (HM5.out.quiet hs7).quiet ((St.refl (fun _ => False) w7).drewN m)
              have HRR := hide HREL
              clear hrm hgt hna hno eO eP eA eB hs7 HREL
              go_wp2_with fail
              go_quiet ((first | (go_at_call 23; exact Calls.quiet_of ((HSL.out _))) | (go_at_call 21; exact quiet_left (pid0 _)) | (go_at_call 24; first | with_reducible exact Calls.quiet_of ((HR1 _).out) | with_reducible exact Calls.quiet_of ((HR2 _).out)) | (go_at_call 30; first | with_reducible exact quiet_left ((HG1 _).out) | with_reducible exact quiet_left ((HG2 _).out))))
              go_wp2
              go_roundw
              case rel => first | exact ⟨k + 1, by omega, by omega, by go_num, (HRR.out _)⟩ | ((repeat apply Exists.intro); exact ⟨⟨k + 1, by omega, by omega, by go_num, (HRR.out _)⟩, rfl⟩)
              case measure => simp [intOf]; omega
      · have hk' : k = ln ∨ (k < ln ∧ k = 200) := by omega
        rcases hk' with rfl | ⟨hlt, rfl⟩
        all_goals
          go_wp2_with fail
          go_meet
          exact ⟨_, hk4, hm.out⟩
  case rest =>
      obtain ⟨k, hk4, hmm⟩ := hcut
      have hm := hide hmm
      clear hmm
      obtain ⟨wr, hwr⟩ : ∃ wr, wr = wc := ⟨_, rfl⟩
      rw [← hwr] at hm ⊢
      clear hwr
      obtain ⟨x, hx⟩ : ∃ x, x = runS W Sp (l.take k) := ⟨_, rfl⟩
      have HX : Hid (Inv W Sp k x) := by rw [hx]; exact (HII.out k).out
      rw [← hx] at hm
      obtain ⟨o1, g1, o2, g2, hA1, hB1, hst1, hown, hdis⟩ := hm.out
      have hI4 := HX.out.push 0 (by omega) [8]
      have hI5 := hI4.turn hW5
      obtain ⟨xp, hxp⟩ : ∃ xp, xp = pushS Sp x 0 [8] := ⟨_, rfl⟩
      rw [← hxp] at hI4 hI5
      obtain ⟨x5, hx5⟩ : ∃ x5, x5 = turnS W xp := ⟨_, rfl⟩
      rw [← hx5] at hI5
      have HP1 : ∀ V b, St (fun _ => False) wr V → Blk V b 5 #[.int .u8 8] → wr.heap.size ≤ b → Hid (Calls Try.prog 17 #[.pointer (some ⟨wb, 0, none⟩), .int .i64 0, .slice (some ⟨b, 0, none⟩) 1 1] V fun e w' => e = .returned (.bool true) ∧ WStep V o1 wb W Sp g1 xp w') := fun V b hV hb hle => by
        rw [hxp]
        exact (hA1.quiet hV).pushOne HX.out (by omega) hb (hA1.lim b hle)
      have HP2 : ∀ V w5 V1 b, St (fun _ => False) wr V → WStep V o1 wb W Sp g1 xp w5 → St (fun _ => False) w5 V1 → Blk V1 b 5 #[.int .u8 8] → wr.heap.size ≤ b → Hid (Calls Try.prog 17 #[.pointer (some ⟨vb, 0, none⟩), .int .i64 0, .slice (some ⟨b, 0, none⟩) 1 1] V1 fun e w' => e = .returned (.bool true) ∧ Two w0 wb vb W Sp xp xp w') := fun V w5 V1 b hV h5 h51 hb hle => by
        have hBV := hB1.quiet hV
        have hB5 : WireAt V1 o2 vb W Sp g2 x := by
          obtain ⟨o', g', a, b', c, _⟩ := h5
          exact (hBV.off (b'.mono fun q _ hq => (hdis q).resolve_left hq)).quiet h51
        refine Calls.mono (hB5.pushOne HX.out (by omega) hb (hB1.lim b hle)) fun e w' hh => ⟨hh.1, ?_⟩
        have h2 := hh.2
        rw [← hxp] at h2
        exact two_both hA1 hB1 hst1 hown hdis hV h5 h51 h2
      have HTB : ∀ V, Two w0 wb vb W Sp xp xp V → Hid (Calls Try.prog 22 #[.pointer (some ⟨wb, 0, none⟩)] V fun e w' => e = .returned (.bool true) ∧ Two w0 wb vb W Sp x5 xp w') := fun V hV => by
        rw [hx5]
        exact hV.turn hI4 (by omega) hW5
      have HTC : ∀ V, Two w0 wb vb W Sp x5 xp V → Hid (Calls Try.prog 22 #[.pointer (some ⟨vb, 0, none⟩)] V fun e w' => e = .returned (.bool true) ∧ Two w0 wb vb W Sp x5 x5 w') := fun V hV => by
        have hh := hV.swap.turn hI4 (by omega) hW5
        rw [← hx5] at hh
        exact hh.mono fun e w' h => ⟨h.1, h.2.swap⟩
      have hEND : ∀ V, Two w0 wb vb W Sp x5 x5 V → ∃ AO cO AP cP nl, V.cell? ⟨wb, 7, none⟩ = some (.slice AO nl cO) ∧ V.cell? ⟨vb, 7, none⟩ = some (.slice AP nl cP) ∧ Hid (Calls Try.prog 23 #[.slice AO nl cO, .slice AP nl cP] V fun r w' => r = .returned (.bool true) ∧ ∃ k, w' = V.drewN k) := fun V hV => by
        obtain ⟨o, g, o', g', hA, hB, hst, _, _⟩ := hV
        obtain ⟨AO, cO, AP, cP, eO, eP, HSL⟩ := Two.lists hA hB hI5 (by omega) (s := 1) (by omega)
        have kO : V.cell? ⟨wb, 7, none⟩ = some (g.row 1 1) := hA.cellR 1 1 (by omega) (by omega)
        have kP : V.cell? ⟨vb, 7, none⟩ = some (g'.row 1 1) := hB.cellR 1 1 (by omega) (by omega)
        rw [eO] at kO
        rw [eP] at kP
        exact ⟨AO, cO, AP, cP, _, kO, kP, HSL.out 0⟩
      have HE := hide hEND
      have HSZ : ∀ V w5, St (fun _ => False) wr V → WStep V o1 wb W Sp g1 xp w5 → wr.heap.size ≤ w5.heap.size := fun V w5 hV h5 => by
        obtain ⟨o', g', a, b, c, _⟩ := h5
        exact Nat.le_trans hV.size b.size
      have HSY : ∀ c : Obj, wr.heap.size ≤ (wr.drew.alloc c).heap.size := fun c => ((St.refl (fun _ => False) wr).drew.alloc c).size
      clear hm hA1 hB1 hst1 hown hdis hx hxp hx5 hEND hI4 hI5
      have D1 : St (fun _ => False) wr (wr.alloc (.cells #[.int .u8 8] 5)).drew := ((St.refl (fun _ => False) wr).alloc _).drew
      have D2 : St (fun _ => False) wr ((wr.alloc (.cells #[.int .u8 8] 5)).alloc (.cells #[.int .u8 8] 5)).drew := (((St.refl (fun _ => False) wr).alloc _).alloc _).drew
      have B1 : Blk (wr.alloc (.cells #[.int .u8 8] 5)).drew wr.heap.size 5 #[.int .u8 8] := (Blk.new wr 5 _).drew
      have B12 : Blk ((wr.alloc (.cells #[.int .u8 8] 5)).alloc (.cells #[.int .u8 8] 5)).drew wr.heap.size 5 #[.int .u8 8] := ((Blk.new wr 5 _).alloc _).drew
      have B22 : Blk ((wr.alloc (.cells #[.int .u8 8] 5)).alloc (.cells #[.int .u8 8] 5)).drew (wr.alloc (.cells #[.int .u8 8] 5)).heap.size 5 #[.int .u8 8] := (Blk.new (wr.alloc (.cells #[.int .u8 8] 5)) 5 _).drew
      have L1 : wr.heap.size ≤ wr.heap.size := Nat.le_refl _
      have es : (wr.alloc (.cells #[.int .u8 8] 5)).heap.size = wr.heap.size + 1 := by simp
      have B23 : Blk ((wr.alloc (.cells #[.int .u8 8] 5)).alloc (.cells #[.int .u8 8] 5)).drew (wr.heap.size + 1) 5 #[.int .u8 8] := by rw [← es]; exact B22
      have L3 : wr.heap.size ≤ wr.heap.size + 1 := Nat.le_succ _
      clear es
      have L2 : wr.heap.size ≤ (wr.alloc (.cells #[.int .u8 8] 5)).heap.size := ((St.refl (fun _ => False) wr).alloc (.cells #[.int .u8 8] 5)).size
      go_wp2_with fail
      refine wp_region_L [] (fun _ => True) (by kernel_rfl) ?_
      refine wpL_take 0 (oi := ⟨some 196, _, _, _, _, _⟩) (v := ?_) rfl (by kernel_rfl) (by kernel_rfl) (by kernel_rfl) (by kernel_rfl) (fun _ _ _ h => h) (Or.inl ⟨by rfl, ?_⟩) trivial ?_
      rotate_left
      · intro V _
        go_simp
        try with_reducible rfl
      try simp only [Act.put, List.setIfInBounds_toArray, List.set_cons_zero, List.set_cons_succ]
      refine wpL_take 3 (oi := ⟨some 199, _, _, _, _, _⟩) (v := ?_) rfl (by kernel_rfl) (by kernel_rfl) (by kernel_rfl) (by kernel_rfl) (fun _ _ _ h => h) (Or.inl ⟨by rfl, ?_⟩) trivial ?_
      rotate_left
      · intro V _
        go_simp
        try with_reducible rfl
      try simp only [Act.put, List.setIfInBounds_toArray, List.set_cons_zero, List.set_cons_succ]
      refine via (T := fun V => Two w0 wb vb W Sp xp xp V) ?F (fun HTAIL => ?main) ?tail
      case main =>
        refine wpL_both 1 4 (by kernel_rfl) rfl rfl (fun K hK => ?_) (fun K hK => ?_)
        · rw [if_pos (by rfl)]
          go_simp
          refine hK _ _ (fun _ => trivial) ?_
          clear hK K
          try simp only [Act.put, List.setIfInBounds_toArray, List.set_cons_zero, List.set_cons_succ]
          refine wpL_both 2 4 (by kernel_rfl) rfl rfl (fun K hK => ?_) (fun K hK => ?_)
          · rw [if_pos (by rfl)]
            go_simp
            go_at_call 17
            with_reducible refine (HP1 _ _ D1 B1 L1).out.mono ?_
            rintro e w5 ⟨rfl, h5⟩
            refine hK _ _ (fun _ => trivial) ?_
            clear hK K
            try simp only [Act.put, List.setIfInBounds_toArray, List.set_cons_zero, List.set_cons_succ]
            refine wpL_one 4 (by kernel_rfl) rfl (fun K hK => ?_)
            rw [if_pos (by rfl)]
            go_simp
            refine hK _ _ (fun _ => trivial) ?_
            clear hK K
            try simp only [Act.put, List.setIfInBounds_toArray, List.set_cons_zero, List.set_cons_succ]
            refine wpL_one 5 (by kernel_rfl) rfl (fun K hK => ?_)
            rw [if_pos (by rfl)]
            go_simp
            go_at_call 17
            with_reducible refine (HP2 _ _ _ _ D1 h5 ((St.refl (fun _ => False) w5).alloc (.cells #[.int .u8 8] 5)) (Blk.new w5 5 #[.int .u8 8]) (HSZ _ _ D1 h5)).out.mono ?_
            rintro e w6 ⟨rfl, hm6⟩
            refine hK _ _ (fun _ => trivial) ?_
            clear hK K
            try simp only [Act.put, List.setIfInBounds_toArray, List.set_cons_zero, List.set_cons_succ]
            generalize hp : Value.slice (some ⟨_, 0, none⟩) 1 1 = p
            generalize hq : Value.slice (some ⟨w5.heap.size, 0, none⟩) 1 1 = q
            clear hp hq
            exact HTAIL p q w6 hm6
          · rw [if_pos (by rfl)]
            go_simp
            refine hK _ _ (fun _ => trivial) ?_
            clear hK K
            try simp only [Act.put, List.setIfInBounds_toArray, List.set_cons_zero, List.set_cons_succ]
            refine wpL_one 2 (by kernel_rfl) rfl (fun K hK => ?_)
            rw [if_pos (by rfl)]
            go_simp
            go_at_call 17
            with_reducible refine (HP1 _ _ D2 B12 L1).out.mono ?_
            rintro e w5 ⟨rfl, h5⟩
            refine hK _ _ (fun _ => trivial) ?_
            clear hK K
            try simp only [Act.put, List.setIfInBounds_toArray, List.set_cons_zero, List.set_cons_succ]
            refine wpL_one 5 (by kernel_rfl) rfl (fun K hK => ?_)
            rw [if_pos (by rfl)]
            go_simp
            go_at_call 17
            with_reducible refine (HP2 _ _ _ _ D2 h5 (St.refl (fun _ => False) w5) (h5.byt5 B23) L3).out.mono ?_
            rintro e w6 ⟨rfl, hm6⟩
            refine hK _ _ (fun _ => trivial) ?_
            clear hK K
            try simp only [Act.put, List.setIfInBounds_toArray, List.set_cons_zero, List.set_cons_succ]
            exact HTAIL _ _ _ hm6
        · rw [if_pos (by rfl)]
          go_simp
          refine hK _ _ (fun _ => trivial) ?_
          clear hK K
          try simp only [Act.put, List.setIfInBounds_toArray, List.set_cons_zero, List.set_cons_succ]
          refine wpL_one 1 (by kernel_rfl) rfl (fun K hK => ?_)
          rw [if_pos (by rfl)]
          go_simp
          refine hK _ _ (fun _ => trivial) ?_
          clear hK K
          try simp only [Act.put, List.setIfInBounds_toArray, List.set_cons_zero, List.set_cons_succ]
          refine wpL_one 2 (by kernel_rfl) rfl (fun K hK => ?_)
          rw [if_pos (by rfl)]
          go_simp
          go_at_call 17
          with_reducible refine (HP1 _ _ D2 B23 L3).out.mono ?_
          rintro e w5 ⟨rfl, h5⟩
          refine hK _ _ (fun _ => trivial) ?_
          clear hK K
          try simp only [Act.put, List.setIfInBounds_toArray, List.set_cons_zero, List.set_cons_succ]
          refine wpL_one 5 (by kernel_rfl) rfl (fun K hK => ?_)
          rw [if_pos (by rfl)]
          go_simp
          go_at_call 17
          with_reducible refine (HP2 _ _ _ _ D2 h5 (St.refl (fun _ => False) w5) (h5.byt5 B12) L1).out.mono ?_
          rintro e w6 ⟨rfl, hm6⟩
          refine hK _ _ (fun _ => trivial) ?_
          clear hK K
          try simp only [Act.put, List.setIfInBounds_toArray, List.set_cons_zero, List.set_cons_succ]
          exact HTAIL _ _ _ hm6
      case tail =>
        as_aux_lemma =>
          intro p q V hV
          have HB6 := HTB V hV
          clear hV
          refine wpL_take 6 (oi := ⟨some 202, _, _, _, _, _⟩) (v := ?_) rfl (by kernel_rfl) (by kernel_rfl) (by kernel_rfl) (by kernel_rfl) (fun _ _ _ h => h) (Or.inl ⟨by rfl, ?_⟩) trivial ?_
          rotate_left
          · intro V _
            go_simp
            try with_reducible rfl
          try simp only [Act.put, List.setIfInBounds_toArray, List.set_cons_zero, List.set_cons_succ]
          refine wpL_take 7 (oi := ⟨some 203, _, _, _, _, _⟩) (v := ?_) rfl (by kernel_rfl) (by kernel_rfl) (by kernel_rfl) (by kernel_rfl) (fun _ _ _ h => h) (Or.inl ⟨by rfl, ?_⟩) trivial ?_
          rotate_left
          · intro V _
            go_simp
            try with_reducible rfl
          try simp only [Act.put, List.setIfInBounds_toArray, List.set_cons_zero, List.set_cons_succ]
          refine wpL_take 8 (oi := ⟨some 204, _, _, _, _, _⟩) (v := ?_) rfl (by kernel_rfl) (by kernel_rfl) (by kernel_rfl) (by kernel_rfl) (fun _ _ _ h => h) (Or.inl ⟨by rfl, ?_⟩) trivial ?_
          rotate_left
          · intro V _
            go_simp
            try with_reducible rfl
          try simp only [Act.put, List.setIfInBounds_toArray, List.set_cons_zero, List.set_cons_succ]
          refine wpL_one 9 (by kernel_rfl) rfl (fun K hK => ?_)
          rw [if_pos (by rfl)]
          go_simp
          go_at_call 22
          refine HB6.out.mono ?_
          rintro e w7 ⟨rfl, hm7⟩
          have HB7 := HTC w7 hm7
          clear hm7
          refine hK _ _ (fun _ => trivial) ?_
          clear hK K
          try simp only [Act.put, List.setIfInBounds_toArray, List.set_cons_zero, List.set_cons_succ]
          refine wpL_take 10 (oi := ⟨some 206, _, _, _, _, _⟩) (v := ?_) rfl (by kernel_rfl) (by kernel_rfl) (by kernel_rfl) (by kernel_rfl) (fun _ _ _ h => h) (Or.inl ⟨by rfl, ?_⟩) trivial ?_
          rotate_left
          · intro V _
            go_simp
            try with_reducible rfl
          try simp only [Act.put, List.setIfInBounds_toArray, List.set_cons_zero, List.set_cons_succ]
          refine wpL_take 11 (oi := ⟨some 207, _, _, _, _, _⟩) (v := ?_) rfl (by kernel_rfl) (by kernel_rfl) (by kernel_rfl) (by kernel_rfl) (fun _ _ _ h => h) (Or.inl ⟨by rfl, ?_⟩) trivial ?_
          rotate_left
          · intro V _
            go_simp
            try with_reducible rfl
          try simp only [Act.put, List.setIfInBounds_toArray, List.set_cons_zero, List.set_cons_succ]
          refine wpL_take 12 (oi := ⟨some 208, _, _, _, _, _⟩) (v := ?_) rfl (by kernel_rfl) (by kernel_rfl) (by kernel_rfl) (by kernel_rfl) (fun _ _ _ h => h) (Or.inl ⟨by rfl, ?_⟩) trivial ?_
          rotate_left
          · intro V _
            go_simp
            try with_reducible rfl
          try simp only [Act.put, List.setIfInBounds_toArray, List.set_cons_zero, List.set_cons_succ]
          refine wpL_one 13 (by kernel_rfl) rfl (fun K hK => ?_)
          rw [if_pos (by rfl)]
          go_simp
          go_at_call 22
          refine HB7.out.mono ?_
          rintro e w8 ⟨rfl, hm8⟩
          obtain ⟨AO, cO, AP, cP, nl, kO, kP, HSL⟩ := HE.out w8 hm8
          have HST8 := hide hm8.st
          clear hm8
          refine hK _ _ (fun _ => trivial) ?_
          clear hK K
          try simp only [Act.put, List.setIfInBounds_toArray, List.set_cons_zero, List.set_cons_succ]
          refine wpL_mono (S1 := fun V : World => V.cell? ⟨wb, 7, none⟩ = some (.slice AO nl cO) ∧ V.cell? ⟨vb, 7, none⟩ = some (.slice AP nl cP)) (fun _ _ => trivial) _ _ _ _ ?_
          refine wpL_take 14 (oi := ⟨some 210, _, _, _, _, _⟩) (v := ?_) rfl (by kernel_rfl) (by kernel_rfl) (by kernel_rfl) (by kernel_rfl) (fun _ _ _ h => h) (Or.inl ⟨by rfl, ?_⟩) ⟨kO, kP⟩ ?_
          rotate_left
          · rintro V ⟨kO, kP⟩
            go_simp
            try with_reducible rfl
          try simp only [Act.put, List.setIfInBounds_toArray, List.set_cons_zero, List.set_cons_succ]
          refine wpL_take 15 (oi := ⟨some 211, _, _, _, _, _⟩) (v := ?_) rfl (by kernel_rfl) (by kernel_rfl) (by kernel_rfl) (by kernel_rfl) (fun _ _ _ h => h) (Or.inl ⟨by rfl, ?_⟩) ⟨kO, kP⟩ ?_
          rotate_left
          · rintro V ⟨kO, kP⟩
            go_simp
            try with_reducible rfl
          try simp only [Act.put, List.setIfInBounds_toArray, List.set_cons_zero, List.set_cons_succ]
          refine wpL_take 16 (oi := ⟨some 212, _, _, _, _, _⟩) (v := ?_) rfl (by kernel_rfl) (by kernel_rfl) (by kernel_rfl) (by kernel_rfl) (fun _ _ _ h => h) (Or.inl ⟨by rfl, ?_⟩) ⟨kO, kP⟩ ?_
          rotate_left
          · rintro V ⟨kO, kP⟩
            go_simp
            try with_reducible rfl
          try simp only [Act.put, List.setIfInBounds_toArray, List.set_cons_zero, List.set_cons_succ]
          refine wpL_take 17 (oi := ⟨some 213, _, _, _, _, _⟩) (v := ?_) rfl (by kernel_rfl) (by kernel_rfl) (by kernel_rfl) (by kernel_rfl) (fun _ _ _ h => h) (Or.inl ⟨by rfl, ?_⟩) ⟨kO, kP⟩ ?_
          rotate_left
          · rintro V ⟨kO, kP⟩
            go_simp
            try with_reducible rfl
          try simp only [Act.put, List.setIfInBounds_toArray, List.set_cons_zero, List.set_cons_succ]
          refine wpL_take 18 (oi := ⟨some 214, _, _, _, _, _⟩) (v := ?_) rfl (by kernel_rfl) (by kernel_rfl) (by kernel_rfl) (by kernel_rfl) (fun _ _ _ h => h) (Or.inl ⟨by rfl, ?_⟩) ⟨kO, kP⟩ ?_
          rotate_left
          · rintro V ⟨kO, kP⟩
            go_simp
            try with_reducible rfl
          try simp only [Act.put, List.setIfInBounds_toArray, List.set_cons_zero, List.set_cons_succ]
          refine wpL_take 19 (oi := ⟨some 215, _, _, _, _, _⟩) (v := ?_) rfl (by kernel_rfl) (by kernel_rfl) (by kernel_rfl) (by kernel_rfl) (fun _ _ _ h => h) (Or.inl ⟨by rfl, ?_⟩) ⟨kO, kP⟩ ?_
          rotate_left
          · rintro V ⟨kO, kP⟩
            go_simp
            try with_reducible rfl
          try simp only [Act.put, List.setIfInBounds_toArray, List.set_cons_zero, List.set_cons_succ]
          refine wpL_take 20 (oi := ⟨some 216, _, _, _, _, _⟩) (v := ?_) rfl (by kernel_rfl) (by kernel_rfl) (by kernel_rfl) (by kernel_rfl) (fun _ _ _ h => h) (Or.inl ⟨by rfl, ?_⟩) ⟨kO, kP⟩ ?_
          rotate_left
          · rintro V ⟨kO, kP⟩
            go_simp
            try with_reducible rfl
          try simp only [Act.put, List.setIfInBounds_toArray, List.set_cons_zero, List.set_cons_succ]
          refine wpL_take 21 (oi := ⟨some 217, _, _, _, _, _⟩) (v := ?_) rfl (by kernel_rfl) (by kernel_rfl) (by kernel_rfl) (by kernel_rfl) (fun _ _ _ h => h) (Or.inl ⟨by rfl, ?_⟩) ⟨kO, kP⟩ ?_
          rotate_left
          · rintro V ⟨kO, kP⟩
            go_simp
            try with_reducible rfl
          try simp only [Act.put, List.setIfInBounds_toArray, List.set_cons_zero, List.set_cons_succ]
          refine wpL_take 22 (oi := ⟨some 218, _, _, _, _, _⟩) (v := ?_) rfl (by kernel_rfl) (by kernel_rfl) (by kernel_rfl) (by kernel_rfl) (fun _ _ _ h => h) (Or.inl ⟨by rfl, ?_⟩) ⟨kO, kP⟩ ?_
          rotate_left
          · rintro V ⟨kO, kP⟩
            go_simp
            try with_reducible rfl
          try simp only [Act.put, List.setIfInBounds_toArray, List.set_cons_zero, List.set_cons_succ]
          refine wpL_take 23 (oi := ⟨some 219, _, _, _, _, _⟩) (v := ?_) rfl (by kernel_rfl) (by kernel_rfl) (by kernel_rfl) (by kernel_rfl) (fun _ _ _ h => h) (Or.inl ⟨by rfl, ?_⟩) ⟨kO, kP⟩ ?_
          rotate_left
          · rintro V ⟨kO, kP⟩
            go_simp
            try with_reducible rfl
          try simp only [Act.put, List.setIfInBounds_toArray, List.set_cons_zero, List.set_cons_succ]
          refine wpL_take 24 (oi := ⟨some 220, _, _, _, _, _⟩) (v := ?_) rfl (by kernel_rfl) (by kernel_rfl) (by kernel_rfl) (by kernel_rfl) (fun _ _ _ h => h) (Or.inl ⟨by rfl, ?_⟩) ⟨kO, kP⟩ ?_
          rotate_left
          · rintro V ⟨kO, kP⟩
            go_simp
            try with_reducible rfl
          try simp only [Act.put, List.setIfInBounds_toArray, List.set_cons_zero, List.set_cons_succ]
          refine wpL_take 25 (oi := ⟨some 221, _, _, _, _, _⟩) (v := ?_) rfl (by kernel_rfl) (by kernel_rfl) (by kernel_rfl) (by kernel_rfl) (fun _ _ _ h => h) (Or.inl ⟨by rfl, ?_⟩) ⟨kO, kP⟩ ?_
          rotate_left
          · rintro V ⟨kO, kP⟩
            go_simp
            try with_reducible rfl
          try simp only [Act.put, List.setIfInBounds_toArray, List.set_cons_zero, List.set_cons_succ]
          refine wpL_one 26 (by kernel_rfl) rfl (fun K hK => ?_)
          rw [if_pos (by rfl)]
          go_simp
          go_at_call 23
          refine HSL.out.mono ?_
          rintro e w9 ⟨rfl, nn, rfl⟩
          refine hK _ _ (fun _ => ⟨kO, kP⟩) ?_
          clear hK K
          try simp only [Act.put, List.setIfInBounds_toArray, List.set_cons_zero, List.set_cons_succ]
          refine wpL_take 27 (oi := ⟨some 223, _, _, _, _, _⟩) (v := ?_) rfl (by kernel_rfl) (by kernel_rfl) (by kernel_rfl) (by kernel_rfl) (fun _ _ _ h => h) (Or.inl ⟨by rfl, ?_⟩) ⟨kO, kP⟩ ?_
          rotate_left
          · rintro V ⟨kO, kP⟩
            go_simp
            try with_reducible rfl
          try simp only [Act.put, List.setIfInBounds_toArray, List.set_cons_zero, List.set_cons_succ]
          refine wpL_one 28 (by kernel_rfl) rfl (fun K hK => ?_)
          rw [if_pos (by rfl)]
          go_simp
          refine hK _ _ (fun _ => ⟨kO, kP⟩) ?_
          clear hK K
          try simp only [Act.put, List.setIfInBounds_toArray, List.set_cons_zero, List.set_cons_succ]
          refine wpL_done (by kernel_rfl) ?_ _
          go_wp2
          go_ret
          exact ⟨rfl, ((HH0.out.trans HST8.out).drewN _).only.below (Nat.le_refl _) (fun _ _ e => e)⟩
end Go.Proofs.Ytkkckinnhkpcmaa
