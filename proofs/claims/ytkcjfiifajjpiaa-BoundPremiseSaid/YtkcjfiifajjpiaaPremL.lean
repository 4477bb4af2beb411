/-
  Contract of the law's premise: the answer of bound.Premise, and that nothing handed in has turned.
-/
import Derived.Test.YtkcjfiifajjpiaaPcs
import Derived.Deep.RegionHeld3
import Derived.StillTailTactics
set_option linter.unusedVariables false
set_option linter.unusedSimpArgs false
namespace Go.Proofs.Ytkcjfiifajjpiaa
open Go.RowKit Go.WideShapes Go.ChangeShapes Q

theorem mm9 {w : World} {g : Nat} {t : TypeId} {a b c d e f h i j : Value} (hb : Blk w g t #[a, b, c, d, e, f, h, i, j]) : w.cell? ⟨g, 0, none⟩ = some a ∧ w.cell? ⟨g, 1, none⟩ = some b ∧ w.cell? ⟨g, 2, none⟩ = some c ∧ w.cell? ⟨g, 3, none⟩ = some d ∧ w.cell? ⟨g, 4, none⟩ = some e ∧ w.cell? ⟨g, 5, none⟩ = some f ∧ w.cell? ⟨g, 6, none⟩ = some h ∧ w.cell? ⟨g, 7, none⟩ = some i ∧ w.cell? ⟨g, 8, none⟩ = some j :=
  ⟨hb.cell 0, hb.cell 1, hb.cell 2, hb.cell 3, hb.cell 4, hb.cell 5, hb.cell 6, hb.cell 7, hb.cell 8⟩
theorem mm10 {w : World} {g : Nat} {t : TypeId} {a b c d e f h i j k : Value} (hb : Blk w g t #[a, b, c, d, e, f, h, i, j, k]) : w.cell? ⟨g, 0, none⟩ = some a ∧ w.cell? ⟨g, 1, none⟩ = some b ∧ w.cell? ⟨g, 2, none⟩ = some c ∧ w.cell? ⟨g, 3, none⟩ = some d ∧ w.cell? ⟨g, 4, none⟩ = some e ∧ w.cell? ⟨g, 5, none⟩ = some f ∧ w.cell? ⟨g, 6, none⟩ = some h ∧ w.cell? ⟨g, 7, none⟩ = some i ∧ w.cell? ⟨g, 8, none⟩ = some j ∧ w.cell? ⟨g, 9, none⟩ = some k :=
  ⟨hb.cell 0, hb.cell 1, hb.cell 2, hb.cell 3, hb.cell 4, hb.cell 5, hb.cell 6, hb.cell 7, hb.cell 8, hb.cell 9⟩

/-- The state of the law's premise in its first loop. -/
structure PI (w wr : World) (base g6 : Nat) (C1 C6 : Array Value) (n m j : Nat) (vs : List Int) (l l2 : List El) (V' E' : Option Addr) (v : Value) (ps : List Pc) : Prop where
  b1 : Blk wr base 35 C1
  c6 : Blk wr g6 33 C6
  ge : base ≤ g6
  ev : EvR wr base E' l2
  len : l2.length = m
  map : l2.map El.plain = l.map El.plain
  row : wr.ownsRow base 22 1 v j (ps.map Pc.val)
  plen : ps.length = j
  ps : PsAt wr ps l
  rn : RN 3 wr V' n (ints vs)
  st : St (fun q => base ≤ q) w wr

set_option maxRecDepth 100000 in
set_option maxHeartbeats 4000000 in
theorem premise_any (a0 a1 a2 a3 a4 a5 a6 : Int) (vs : List Int) (l : List El) (V E Z : Option Addr) (k f kz B : Nat) (set : List Int) (w : World)
    (hv : RI w B V vs.length vs) (he : EvsIn w B E l) (hz : RI w B Z set.length set) (hvl : vs.length * 8 ≤ 140737488351232) (hel : l.length * 160 ≤ 140737488351232) (hsl : set.length * 8 ≤ 140737488351232) (hzl : ∀ x ∈ l, x.zs.length * 8 ≤ 140737488351232) (hB : B ≤ w.heap.size) :
    Calls Try.prog 15 #[.agg #[.int .i64 a0, .int .i64 a1, .int .i64 a2, .int .i64 a3, .int .i64 a4, .int .i64 a5, .int .i64 a6, .slice V vs.length k, .slice E l.length f, .slice Z set.length kz]] w
      fun e w' => e = .returned (.tuple #[.int .i64 (premP ⟨a0, a1, a2, a3, a4, a5, a6, vs⟩ set l).1, .int .i64 (premP ⟨a0, a1, a2, a3, a4, a5, a6, vs⟩ set l).2.1, .int .i64 (premP ⟨a0, a1, a2, a3, a4, a5, a6, vs⟩ set l).2.2, .bool true]) ∧ St (fun _ => False) w w' := by
  obtain ⟨n, hn⟩ : ∃ n, n = vs.length := ⟨_, rfl⟩
  obtain ⟨m, hm⟩ : ∃ m, m = l.length := ⟨_, rfl⟩
  obtain ⟨z, hzz⟩ : ∃ z, z = set.length := ⟨_, rfl⟩
  obtain ⟨p, hp⟩ : ∃ p, p = premP ⟨a0, a1, a2, a3, a4, a5, a6, vs⟩ set l := ⟨_, rfl⟩
  obtain ⟨i22, hi22, hz22, hs22, hb22⟩ := info_parts info22
  have I22 := hide hi22
  clear hi22
  rw [← hn] at hv hvl ⊢
  rw [← hm] at hel ⊢
  rw [← hzz] at hz hsl ⊢
  rw [← hp]
  have HP := hide hp
  have HN := hide hn
  have HM := hide hm
  have HZ := hide hzz
  have HZL := hide hzl
  obtain ⟨base, hbase⟩ : ∃ b, b = w.heap.size := ⟨_, rfl⟩
  obtain ⟨o1, ho1⟩ : ∃ o : Obj, o = .cells #[.int .i64 a0, .int .i64 a1, .int .i64 a2, .int .i64 a3, .int .i64 a4, .int .i64 a5, .int .i64 a6, .slice V n k, .slice E m f, .slice Z z kz] 35 := ⟨_, rfl⟩
  have H0 : St (fun _ => False) w (w.alloc o1) := (St.refl _ w).alloc _
  have P1 : Blk (w.alloc o1) base 35 _ := ho1 ▸ Blk.new' w 35 #[.int .i64 a0, .int .i64 a1, .int .i64 a2, .int .i64 a3, .int .i64 a4, .int .i64 a5, .int .i64 a6, .slice V n k, .slice E m f, .slice Z z kz] base hbase
  have HBB := hide hB
  have HW0 := hide hbase
  have V0 := hv.st H0 (fun q e => e.elim)
  have E0 := he.st H0 (fun q e => e.elim)
  have HV := hide hv
  have HE := hide he
  have HZI := hide hz
  clear hn hm hzl hv he hB hz hzz hp
  go_enter Try.func15, Try.ntmps15
  go_upto_region 1 with fail
  rw [← ho1, ← hbase]
  obtain ⟨w0, hw0⟩ : ∃ w0, w0 = w.alloc o1 := ⟨_, rfl⟩
  rw [← hw0] at H0 P1 V0 E0 ⊢
  have HS0 := hide H0
  have HP1 := hide P1
  have hbw : base ≤ w0.heap.size := by have := H0.size; omega
  have HCP := hide (copied_any a0 a1 a2 a3 a4 a5 a6 vs l V E k f B w0 (by rw [← HN.out]; exact V0) E0 (by rw [← HN.out]; exact hvl) (by rw [← HM.out]; exact hel) HZL.out (by have := HBB.out; omega))
  rw [← HN.out, ← HM.out] at HCP
  obtain ⟨y0, y1, y2, y3, y4, y5, y6, y7, y8⟩ : w0.cell? ⟨base, 0, none⟩ = some (.int .i64 a0) ∧ w0.cell? ⟨base, 1, none⟩ = some (.int .i64 a1) ∧ w0.cell? ⟨base, 2, none⟩ = some (.int .i64 a2) ∧ w0.cell? ⟨base, 3, none⟩ = some (.int .i64 a3) ∧ w0.cell? ⟨base, 4, none⟩ = some (.int .i64 a4) ∧ w0.cell? ⟨base, 5, none⟩ = some (.int .i64 a5) ∧ w0.cell? ⟨base, 6, none⟩ = some (.int .i64 a6) ∧ w0.cell? ⟨base, 7, none⟩ = some (.slice V n k) ∧ w0.cell? ⟨base, 8, none⟩ = some (.slice E m f) :=
    ⟨P1.cell 0, P1.cell 1, P1.cell 2, P1.cell 3, P1.cell 4, P1.cell 5, P1.cell 6, P1.cell 7, P1.cell 8⟩
  clear hw0 ho1 H0 P1 V0 E0 hbase
  go_wp2_with (go_at_call 17; refine HCP.out.mono ?_; rintro e w1 ⟨V', k', E', f', l1, rfl, hrn, hev, hlen, hmap, hst⟩; have HRN := hide hrn; have HEV := hide hev; have HLEN := hide hlen; have HMAP := hide hmap; have HST := hide hst; clear hrn hev hlen hmap hst y0 y1 y2 y3 y4 y5 y6 y7 y8)
  have hst0 : St (fun _ => False) w w1 := HS0.out.trans HST.out
  have HPI : Hid (PI w (w1.alloc (.cells #[.int .i64 a0, .int .i64 a1, .int .i64 a2, .int .i64 a3, .int .i64 a4, .int .i64 a5, .int .i64 a6, .slice V' n k', .slice E' m f'] 33)) base w1.heap.size #[.int .i64 a0, .int .i64 a1, .int .i64 a2, .int .i64 a3, .int .i64 a4, .int .i64 a5, .int .i64 a6, .slice V n k, .slice E m f, .slice Z z kz] #[.int .i64 a0, .int .i64 a1, .int .i64 a2, .int .i64 a3, .int .i64 a4, .int .i64 a5, .int .i64 a6, .slice V' n k', .slice E' m f'] n m 0 vs l l1 V' E' (.slice none 0 0) []) := by
    have sa : St (fun q => base ≤ q) w1 (w1.alloc (.cells #[.int .i64 a0, .int .i64 a1, .int .i64 a2, .int .i64 a3, .int .i64 a4, .int .i64 a5, .int .i64 a6, .slice V' n k', .slice E' m f'] 33)) := (St.refl _ w1).alloc _
    have hb1 : base ≤ w1.heap.size := Nat.le_trans hbw HST.out.size
    have hev1 : EvsOwn w1 base (.slice E' l1.length f') l1 := ⟨by have := own_base HEV.out.1 hbw; rw [HLEN.out] at this ⊢; exact this, HEV.out.2⟩
    exact ⟨(HP1.out.st HST.out (fun e => e)).alloc _, Blk.new _ _ _, hb1, ((EvR.of hev1).st0 ((St.refl _ w1).alloc _)), HLEN.out, HMAP.out, World.ownsRow_nil _ _ _ _, rfl, PsAt.nil _ _, HRN.out.st (.inl rfl) sa, (hst0.mono (fun _ _ e => e.elim)).trans sa⟩
  obtain ⟨g6, hg6⟩ : ∃ g6, g6 = w1.heap.size := ⟨_, rfl⟩
  rw [← hg6] at HPI ⊢
  clear HRN HEV HLEN HMAP HST HS0 HP1 HCP hst0 hg6
  go_loopw [7, 8] (fun v i wr => ∃ (j : Nat) (l2 : List El) (ps : List Pc), j ≤ m ∧ i = .int .i64 j ∧ Hid (PI w wr base g6 #[.int .i64 a0, .int .i64 a1, .int .i64 a2, .int .i64 a3, .int .i64 a4, .int .i64 a5, .int .i64 a6, .slice V n k, .slice E m f, .slice Z z kz] #[.int .i64 a0, .int .i64 a1, .int .i64 a2, .int .i64 a3, .int .i64 a4, .int .i64 a5, .int .i64 a6, .slice V' n k', .slice E' m f'] n m j vs l l2 V' E' v ps)) (fun _ i _ => m - (intOf i).toNat)
  case atStart => exact ⟨0, l1, [], Nat.zero_le _, rfl, HPI⟩
  case round =>
    obtain ⟨j, l2, ps, hj, rfl, hI⟩ := hrel
    clear HPI
    by_cases hlt : j < m
    · have HI := hI
      have q8 : wr.cell? ⟨g6, 8, none⟩ = some (.slice E' m f') := hI.out.c6.cell 8
      obtain ⟨ge, cs, rfl, hge, hbe, hcs⟩ := hI.out.ev.row (by have := hI.out.len; omega)
      obtain ⟨x2, hx2⟩ : ∃ x2, l2[j]? = some x2 := ⟨_, List.getElem?_eq_getElem (by have := hI.out.len; omega)⟩
      have e12 : wr.cell? ⟨ge, j * 13 + 12, none⟩ = some (.slice x2.A x2.zs.length x2.c) := by
        rw [hbe.cell, hcs _ (by have := hI.out.len; omega), ecells_at l2 j x2 hx2 12 (by omega)]
        rfl
      have hown2 := hI.out.ev.own x2 (List.mem_of_getElem? hx2)
      have HPC := hide (piece_any x2.A x2.zs.length x2.c wr.heap.size x2.zs wr (hown2.1.reads (Nat.le_refl _)) hown2.2.1)
      have hEI := HE.out.st hI.out.st (fun q e => by have h1 : base ≤ q := e; have := HBB.out; have := HW0.out; omega)
      obtain ⟨x, b, off, hx, rfl, _, hg, _⟩ := hEI.at_ (k := j) (by rw [← HM.out]; exact hlt)
      have hzs : x2.zs = x.zs := (congrArg El.zs (same_at HI.out.map hx2 hx) : x2.plain.zs = x.plain.zs)
      rw [hzs] at HPC e12
      have HX := hide hx
      have HX2 := hide hx2
      have HZS := hide hzs
      have h0 : (0 : Int) ≤ j := by omega
      have h1 : (j : Int) < m := by omega
      have hbw2 : base ≤ wr.heap.size := by have := hI.out.st.size; have := HW0.out; omega
      clear hI hbe hcs hown2 hEI hx hx2 hzs hg
      go_upto_region 7 with (go_at_call 26; refine HPC.out.mono ?_; rintro e w3 ⟨gp, cp, rfl, hcp, hrn, hst⟩; have HRN3 := hide hrn; have HST3 := hide hst; have hb3 : base ≤ w3.heap.size := (by have := hst.size; omega); have HRW3 := hide (own_st0 HI.out.row hst); clear hrn hst q8 e12)
      obtain ⟨o4, ho4⟩ : ∃ o : Obj, o = .cells #[.slice (some ⟨gp, 0, none⟩) (x.zs.length + 64) cp] 22 := ⟨_, rfl⟩
      go_upto_region 8 with (at_builtin; refine wpList_push rfl (.tmp 37) (.tmp 39) _ rfl base 22 i22 _ 1 24 Try.underlying52 I22.out hz22 hs22 hb22 rfl (by omega) u7 j _ rfl HRW3.out 1 1 #[.slice (some ⟨gp, 0, none⟩) (x.zs.length + 64) cp] rfl rfl (by simp [Value.oneCell']) (by omega) (by unfold maxLen; omega) (by omega) hb3 ?_; intro gv cv w4 hown4 hg4 _ hge4 _ _; rw [← ho4] at hg4; have HO4 := hide hown4; have HG4 := hide hg4; clear hown4 hg4 hge4)
      have s34 : St (fun q => u7.ownBlock = some q) w3 w4 := ((St.refl _ w3).alloc o4).grown HG4.out (fun g e => by
        obtain ⟨hge, cs, hb⟩ := own_blk HRW3.out e
        exact ⟨⟨22, cs, hb.alloc _, not35_22⟩, fun _ => e⟩)
      have t34 : St (fun q => base ≤ q) w3 w4 := s34.mono (fun q _ e => (own_blk HRW3.out e).1)
      have hb1 := (HI.out.b1.st HST3.out (fun e => e)).st s34 (fun e => own_ne HRW3.out (HI.out.b1.st HST3.out (fun e => e)) (by decide) e.symm)
      have hb6 := (HI.out.c6.st HST3.out (fun e => e)).st s34 (fun e => own_ne HRW3.out (HI.out.c6.st HST3.out (fun e => e)) (by decide) e.symm)
      have hev3 := HI.out.ev.st0 HST3.out
      have hev4 : EvR w4 base (some ⟨ge, 0, none⟩) l2 := hev3.st s34 (fun g e e2 => by
        obtain ⟨g', cs, e3, _, hb, _⟩ := hev3.row (by have := HI.out.len; omega)
        rw [e] at e3
        injection e3 with e3
        injection e3 with e3
        subst e3
        exact own_ne HRW3.out hb (by decide) e2.symm)
      have hst4 : St (fun q => base ≤ q) w w4 := (HI.out.st.trans (HST3.out.mono (fun _ _ e => e.elim))).trans t34
      have HB1 := hide hb1
      have HB6 := hide hb6
      have HEV4 := hide hev4
      have HST4 := hide hst4
      have HT34 := hide t34
      have q8 : w4.cell? ⟨g6, 8, none⟩ = some (.slice (some ⟨ge, 0, none⟩) m f') := hb6.cell 8
      have b8 : w4.cell? ⟨base, 8, none⟩ = some (.slice (some ⟨b, off, none⟩) m f) := hb1.cell 8
      obtain ⟨g', cs, e3, hge, hbe, hcs⟩ := hev4.row (by have := HI.out.len; omega)
      injection e3 with e3
      injection e3 with e3
      subst e3
      have e12 : w4.cell? ⟨ge, j * 13 + 12, none⟩ = some (.slice x2.A x2.zs.length x2.c) := by
        rw [hbe.cell, hcs _ (by have := HI.out.len; omega), ecells_at l2 j x2 HX2.out 12 (by omega)]
        rfl
      have f12 := hbe.frozen (j * 13 + 12)
      have HBE := hide hbe
      have hEI := HE.out.st hst4 (fun q e => by have h1 : base ≤ q := e; have := HBB.out; have := HW0.out; omega)
      obtain ⟨x', b', off', hx', e3, _, hg, _, _, _, _, _, _, _, _, _, _, _, _, c12⟩ := hEI.at_ (k := j) (by rw [← HM.out]; exact hlt)
      injection e3 with e3
      injection e3 with e3 e4
      subst e3 e4
      rw [HX.out] at hx'
      injection hx' with hx'
      subst hx'
      unfold El.sides at c12
      have hcp2 : x.zs.length ≤ cp := by omega
      have hcp1 : ((x.zs.length : Nat) : Int) ≤ (cp : Int) := by omega
      have hcp0 : (0 : Int) ≤ ((x.zs.length : Nat) : Int) := by omega
      clear hb1 hb6 hev3 hev4 hst4 s34 t34 hbe hcs hEI hg ho4
      go_still_tail 15, (by kernel_rfl)
      change wpList _ _ _ _ _ w4.drew
      go_wp2_with fail
      have hrn4 := HRN3.out.st (.inl rfl) HT34.out
      rw [ints_append] at hrn4
      have hfr := hrn4.front (ints_len _)
      rw [← ints_append] at hrn4
      rw [← HZS.out] at hfr
      obtain ⟨hset, _, _⟩ := HEV4.out.set_ (c := cp) HX2.out hfr
      rw [show x2.zs.length = x.zs.length from by rw [HZS.out]] at hset
      have s45 : St (fun q => base ≤ q) w4 (w4.setCell ⟨ge, j * 13 + 12, none⟩ (.slice (some ⟨gp, 0, none⟩) x.zs.length cp)).drew := ((St.refl _ w4).setCell HBE.out not35_45 (fun _ => hge) _).drew
      have HF : Hid (PI w (w4.setCell ⟨ge, j * 13 + 12, none⟩ (.slice (some ⟨gp, 0, none⟩) x.zs.length cp)).drew base g6 #[.int .i64 a0, .int .i64 a1, .int .i64 a2, .int .i64 a3, .int .i64 a4, .int .i64 a5, .int .i64 a6, .slice V n k, .slice (some ⟨b, off, none⟩) m f, .slice Z z kz] #[.int .i64 a0, .int .i64 a1, .int .i64 a2, .int .i64 a3, .int .i64 a4, .int .i64 a5, .int .i64 a6, .slice V' n k', .slice (some ⟨ge, 0, none⟩) m f'] n m (j + 1) vs l (l2.set j { x2 with A := some ⟨gp, 0, none⟩, c := cp }) V' (some ⟨ge, 0, none⟩) (.slice (some ⟨gv, 0, none⟩) (j + 1) cv) (ps ++ [⟨gp, cp, x.zs.length⟩])) := by
        have hne1 : base ≠ ge := Blk.ne_ HB1.out HBE.out (by decide)
        have hne6 : g6 ≠ ge := Blk.ne_ HB6.out HBE.out (by decide)
        refine ⟨(HB1.out.far hne1 _).drew, (HB6.out.far hne6 _).drew, HI.out.ge, hset.st0 ((St.refl _ _).drew), ?_, ?_, ?_, ?_, ?_, ?_, HST4.out.trans s45⟩
        · rw [List.length_set]; exact HI.out.len
        · rw [map_set _ _ HX2.out]; exact HI.out.map
        · have hh := own_only HO4.out (((Only.refl (fun q => q = ge) w4).setCell (p := ⟨ge, j * 13 + 12, none⟩) (fun _ => rfl) (.slice (some ⟨gp, 0, none⟩) x.zs.length cp)).drew) (fun g hg e => by
            have := own_ne HO4.out HBE.out (by decide)
            rw [hg, e] at this
            exact this rfl)
          rw [List.map_append]
          exact hh
        · simp [HI.out.plen]
        · refine ((HI.out.ps.st HST3.out).st HT34.out).st s45 |>.snoc (by rw [HI.out.plen]; exact HX.out) rfl hcp ?_
          exact hrn4.st (.inl rfl) s45
        · exact ((HI.out.rn.st (.inl rfl) HST3.out).st (.inl rfl) HT34.out).st (.inl rfl) s45
      clear q8 b8 e12 f12 c12 hset hfr hrn4 s45
      go_roundw
      case rel => exact ⟨j + 1, _, _, by omega, by go_num, HF⟩
      case measure => simp [intOf]; omega
    · obtain rfl : j = m := by omega
      have HI := hI.out
      have hst := HI.st
      have hwB : ∀ q, base ≤ q → B ≤ q := fun q e => by have := HBB.out; have := HW0.out; omega
      have hbw2 : base ≤ wr.heap.size := by have := hst.size; have := HW0.out; omega
      have HHI := hide HI
      have HV1 := hide (HV.out.st hst hwB)
      have HPV := hide (piece_any V n k B vs wr HV1.out hvl)
      have q8 : wr.cell? ⟨g6, 8, none⟩ = some (.slice E' j f') := HI.c6.cell 8
      have b7 : wr.cell? ⟨base, 7, none⟩ = some (.slice V n k) := HI.b1.cell 7
      clear hI HI hst
      go_upto_region 10 with (go_at_call 26; refine HPV.out.mono ?_; rintro e w3 ⟨gp, cp, rfl, hcp, hrn, hst⟩; have HRN3 := hide hrn; have HST3 := hide hst; clear hrn hst q8 b7)
      have b7 : w3.cell? ⟨base, 7, none⟩ = some (.slice V n k) := (HHI.out.b1.st HST3.out (fun e => e)).cell 7
      have c7 : w3.cell? ⟨g6, 7, none⟩ = some (.slice V' n k') := (HHI.out.c6.st HST3.out (fun e => e)).cell 7
      have f7 := (HHI.out.c6.st HST3.out (fun e => e)).frozen 7
      have hcp2 : n ≤ cp := by omega
      have hcp1 : ((n : Nat) : Int) ≤ (cp : Int) := by omega
      have hcp0 : (0 : Int) ≤ ((n : Nat) : Int) := by omega
      go_upto_region 11 with fail
      have hne : base ≠ g6 := Blk.ne_ HHI.out.b1 HHI.out.c6 (by decide)
      have c6 : Blk (w3.setCell ⟨g6, 7, none⟩ (.slice (some ⟨gp, 0, none⟩) n cp)) g6 33 #[.int .i64 a0, .int .i64 a1, .int .i64 a2, .int .i64 a3, .int .i64 a4, .int .i64 a5, .int .i64 a6, .slice (some ⟨gp, 0, none⟩) n cp, .slice E' j f'] := (HHI.out.c6.st HST3.out (fun e => e)).set_ 7 _
      have d1 := (HHI.out.b1.st HST3.out (fun e => e)).far (p := ⟨g6, 7, none⟩) hne (.slice (some ⟨gp, 0, none⟩) n cp)
      have s35 : St (fun q => q = g6) w3 (w3.setCell ⟨g6, 7, none⟩ (.slice (some ⟨gp, 0, none⟩) n cp)) := St.setCell (S := fun q => q = g6) (St.refl _ w3) (HHI.out.c6.st HST3.out (fun e => e)) not35_33 (fun _ => rfl) _
      obtain ⟨w5, hw5⟩ : ∃ w5, w5 = w3.setCell ⟨g6, 7, none⟩ (.slice (some ⟨gp, 0, none⟩) n cp) := ⟨_, rfl⟩
      rw [← hw5] at c6 d1 s35 ⊢
      have t35 : St (fun q => base ≤ q) w3 w5 := s35.mono (fun q _ e => by rw [e]; exact HHI.out.ge)
      have ev3 := HHI.out.ev.st0 HST3.out
      have ev5 : EvR w5 base E' l2 := by
        refine ⟨fun hn => ?_, fun x hx => (ev3.own x hx).st t35⟩
        obtain ⟨g, cs, e, hg, hb, hc⟩ := ev3.row hn
        exact ⟨g, cs, e, hg, hb.st s35 (Blk.ne_ hb (HHI.out.c6.st HST3.out (fun e => e)) (by decide)), hc⟩
      have row5 : w5.ownsRow base 22 1 u7 j (ps.map Pc.val) := own_only (own_st0 HHI.out.row HST3.out) s35.only (fun g hg e => by
        have := own_ne (own_st0 HHI.out.row HST3.out) (HHI.out.c6.st HST3.out (fun e => e)) (by decide)
        rw [hg, e] at this
        exact this rfl)
      have hst5 : St (fun q => base ≤ q) w w5 := (HHI.out.st.trans (HST3.out.mono (fun _ _ e => e.elim))).trans t35
      have HC6 := hide c6
      have HD1 := hide d1
      have HEV5 := hide ev5
      have HROW5 := hide row5
      have HPS5 := hide ((HHI.out.ps.st HST3.out).st t35)
      have HRN5 := hide (HRN3.out.st (.inl rfl) t35)
      have HPLEN := hide HHI.out.plen
      have HLEN := hide HHI.out.len
      have HMAP := hide HHI.out.map
      have HHST5 := hide hst5
      have HZ5 := hide (HZI.out.st hst5 hwB)
      have HPZ := hide (piece_any Z z kz B set w5 HZ5.out hsl)
      have d9 : w5.cell? ⟨base, 9, none⟩ = some (.slice Z z kz) := d1.cell 9
      clear hw5 c6 d1 s35 t35 ev3 ev5 row5 hst5 b7 c7 f7 HHI HST3 HRN3 HV1 hcp0 hcp1 hcp2
      go_upto_region 12 with (go_at_call 26; refine HPZ.out.mono ?_; rintro e w6 ⟨gz, cz, rfl, hcz, hrn, hst⟩; have HRN6 := hide hrn; have HST6 := hide hst; clear hrn hst d9)
      have hst6 := HST6.out
      have c6 := HC6.out.st hst6 (fun e => e)
      have d1 := HD1.out.st hst6 (fun e => e)
      have HC6' := hide c6
      have HD1' := hide d1
      have HEV6 := hide (HEV5.out.st0 hst6)
      have HROW6 := hide (own_st0 HROW5.out hst6)
      have HPS6 := hide (HPS5.out.st hst6)
      have HRNV := hide (HRN5.out.st (.inl rfl) hst6)
      have HRNZ := HRN6
      have HHST6 := hide (HHST5.out.trans (hst6.mono (fun _ _ e => e.elim)))
      clear HC6 HD1 HEV5 HROW5 HPS5 HRN5 HRN6 HHST5 hst6 HST6 HZ5 HPV HPZ
      have hdr : St (fun _ => False) w6 w6.drew := (St.refl _ w6).drew
      have frv : RN 3 w6.drew (some ⟨gp, 0, none⟩) vs.length (ints vs) := by
        have := HRNV.out.st (.inl rfl) hdr
        rw [ints_append] at this
        rw [← HN.out]
        exact this.front (by rw [ints_len, HN.out])
      have frz : RN 3 w6.drew (some ⟨gz, 0, none⟩) set.length (ints set) := by
        have := HRNZ.out.st (.inl rfl) hdr
        rw [ints_append] at this
        rw [← HZ.out]
        exact this.front (by rw [ints_len, HZ.out])
      have HPC := hide (prem_any a0 a1 a2 a3 a4 a5 a6 vs (some ⟨gp, 0, none⟩) cp E' f' l2 (some ⟨gz, 0, none⟩) cz w6.drew.heap.size set w6.drew (frv.reads (Nat.le_refl _)) ((HEV6.out.st0 hdr).in_) (frz.reads (Nat.le_refl _)) (Nat.le_refl _) (by have := HN.out; omega) (by have := HLEN.out; omega) (by have := HZ.out; omega))
      rw [premP_same HMAP.out, ← HP.out, ← HN.out, ← HZ.out, HLEN.out] at HPC
      unfold p3 at HPC
      obtain ⟨c0, c1, c2, c3, c4, c5, c6', c7, c8⟩ := mm9 c6
      have d9 : w6.cell? ⟨base, 9, none⟩ = some (.slice Z z kz) := d1.cell 9
      have hcz2 : z ≤ cz := by omega
      have hcz1 : ((z : Nat) : Int) ≤ (cz : Int) := by omega
      have hcz0 : (0 : Int) ≤ ((z : Nat) : Int) := by omega
      clear c6 d1 frv frz hdr
      have LD0 : w6.drew.cell? ⟨g6, 0, none⟩ = some (.int .i64 a0) ∧ w6.drew.cell? ⟨g6, 1, none⟩ = some (.int .i64 a1) ∧ w6.drew.cell? ⟨g6, 2, none⟩ = some (.int .i64 a2) ∧ w6.drew.cell? ⟨g6, 3, none⟩ = some (.int .i64 a3) ∧ w6.drew.cell? ⟨g6, 4, none⟩ = some (.int .i64 a4) ∧ w6.drew.cell? ⟨g6, 5, none⟩ = some (.int .i64 a5) ∧ w6.drew.cell? ⟨g6, 6, none⟩ = some (.int .i64 a6) ∧ w6.drew.cell? ⟨g6, 7, none⟩ = some (.slice (some ⟨gp, 0, none⟩) n cp) ∧ w6.drew.cell? ⟨g6, 8, none⟩ = some (.slice E' j f') ∧ w6.drew.cell? ⟨base, 9, none⟩ = some (.slice Z z kz) := ⟨c0, c1, c2, c3, c4, c5, c6', c7, c8, d9⟩
      go_cut [12, 13, 14] (fun s12 s13 s14 wx => s12 = .int .i64 p.1 ∧ s13 = .int .i64 p.2.1 ∧ s14 = .int .i64 p.2.2 ∧ Hid (St (fun _ => False) w6 wx))
      case first =>
        go_region_held3 (fun W : World => W.cell? ⟨g6, 0, none⟩ = some (.int .i64 a0) ∧ W.cell? ⟨g6, 1, none⟩ = some (.int .i64 a1) ∧ W.cell? ⟨g6, 2, none⟩ = some (.int .i64 a2) ∧ W.cell? ⟨g6, 3, none⟩ = some (.int .i64 a3) ∧ W.cell? ⟨g6, 4, none⟩ = some (.int .i64 a4) ∧ W.cell? ⟨g6, 5, none⟩ = some (.int .i64 a5) ∧ W.cell? ⟨g6, 6, none⟩ = some (.int .i64 a6) ∧ W.cell? ⟨g6, 7, none⟩ = some (.slice (some ⟨gp, 0, none⟩) n cp) ∧ W.cell? ⟨g6, 8, none⟩ = some (.slice E' j f') ∧ W.cell? ⟨base, 9, none⟩ = some (.slice Z z kz))
          (first | with_reducible exact LD | with_reducible exact LD0)
          ((go_at_call 18; refine HPC.out.mono ?_; rintro e w7 ⟨rfl, hst⟩; have HST7 := hide (((St.refl (fun _ => False) w6).drew).trans hst); have LD := (show _ from ⟨(HC6'.out.st HST7.out (fun e => e)).cell 0, (HC6'.out.st HST7.out (fun e => e)).cell 1, (HC6'.out.st HST7.out (fun e => e)).cell 2, (HC6'.out.st HST7.out (fun e => e)).cell 3, (HC6'.out.st HST7.out (fun e => e)).cell 4, (HC6'.out.st HST7.out (fun e => e)).cell 5, (HC6'.out.st HST7.out (fun e => e)).cell 6, (HC6'.out.st HST7.out (fun e => e)).cell 7, (HC6'.out.st HST7.out (fun e => e)).cell 8, (HD1'.out.st HST7.out (fun e => e)).cell 9⟩ : w7.cell? ⟨g6, 0, none⟩ = some (.int .i64 a0) ∧ w7.cell? ⟨g6, 1, none⟩ = some (.int .i64 a1) ∧ w7.cell? ⟨g6, 2, none⟩ = some (.int .i64 a2) ∧ w7.cell? ⟨g6, 3, none⟩ = some (.int .i64 a3) ∧ w7.cell? ⟨g6, 4, none⟩ = some (.int .i64 a4) ∧ w7.cell? ⟨g6, 5, none⟩ = some (.int .i64 a5) ∧ w7.cell? ⟨g6, 6, none⟩ = some (.int .i64 a6) ∧ w7.cell? ⟨g6, 7, none⟩ = some (.slice (some ⟨gp, 0, none⟩) n cp) ∧ w7.cell? ⟨g6, 8, none⟩ = some (.slice E' j f') ∧ w7.cell? ⟨base, 9, none⟩ = some (.slice Z z kz)); clear hst))
        all_goals
          go_wp2_with fail
          go_meet
          exact ⟨rfl, rfl, rfl, HST7⟩
      case rest =>
        obtain ⟨rfl, rfl, rfl, hst⟩ := hcut
        obtain ⟨w7, hw7⟩ : ∃ w7, w7 = wc := ⟨_, rfl⟩
        rw [← hw7] at hst ⊢
        have HST7 := hst
        clear hw7 LD0 c0 c1 c2 c3 c4 c5 c6' c7 c8 d9
        have hst7 := HST7.out
        obtain ⟨c0, c1, c2, c3, c4, c5, c6, c7, c8⟩ := mm9 (HC6'.out.st hst7 (fun e => e))
        obtain ⟨d0, d1, d2, d3, d4, d5, d6, d7, d8, d9⟩ := mm10 (HD1'.out.st hst7 (fun e => e))
        have frv : RN 3 w7 (some ⟨gp, 0, none⟩) vs.length (ints vs) := by
          have := HRNV.out.st (.inl rfl) hst7
          rw [ints_append] at this
          rw [← HN.out]
          exact this.front (by rw [ints_len, HN.out])
        have hst07 : St (fun q => base ≤ q) w w7 := HHST6.out.trans (hst7.mono (fun _ _ e => e.elim))
        have HSS := hide (samesc_any a0 a1 a2 a3 a4 a5 a6 vs l2 l (some ⟨gp, 0, none⟩) V E' E cp k f' f w7.heap.size B w7 (frv.reads (Nat.le_refl _)) (by rw [← HN.out]; exact HV.out.st hst07 hwB) (HEV6.out.st0 hst7).in_ (HE.out.st hst07 hwB) HMAP.out (by have := HN.out; omega) (by have := HLEN.out; omega))
        rw [HLEN.out, ← HN.out, ← HM.out] at HSS
        clear hst7 hst07 frv hst
        go_upto_region 14 with (go_at_call 27; refine HSS.out.mono ?_; rintro e w8 ⟨rfl, hst⟩; have HST8 := hide (HST7.out.trans hst); clear hst c0 c1 c2 c3 c4 c5 c6 c7 c8 d0 d1 d2 d3 d4 d5 d6 d7 d8 d9)
        have HSA8 := hide (HHST6.out.trans (HST8.out.mono (fun _ _ e => e.elim)))
        have HKZ := hide (kept_any gz cz z kz B Z set w8 (HRNZ.out.st (.inl rfl) HST8.out) hcz (HZI.out.st HSA8.out hwB) (by omega))
        have d9 : w8.cell? ⟨base, 9, none⟩ = some (.slice Z z kz) := (HD1'.out.st HST8.out (fun e => e)).cell 9
        go_upto_region 15 with (go_at_call 28; refine HKZ.out.mono ?_; rintro e w9 ⟨rfl, q9, rfl⟩; clear d9)
        have hs9 : St (fun _ => False) w6 (w8.drewN q9) := HST8.out.drewN _
        obtain ⟨w9, hw9⟩ : ∃ w9, w9 = w8.drewN q9 := ⟨_, rfl⟩
        rw [← hw9] at hs9 ⊢
        have HST9 := hide hs9
        have HSA9 := hide (HHST6.out.trans (hs9.mono (fun _ _ e => e.elim)))
        have HKV := hide (kept_any gp cp n k B V vs w9 (HRNV.out.st (.inl rfl) hs9) hcp (HV.out.st HSA9.out hwB) (by omega))
        have d7 : w9.cell? ⟨base, 7, none⟩ = some (.slice V n k) := (HD1'.out.st hs9 (fun e => e)).cell 7
        clear hw9 hs9
        go_upto_region 17 with (go_at_call 28; refine HKV.out.mono ?_; rintro e w10 ⟨rfl, q10, rfl⟩; clear d7)
        have hs10 : St (fun _ => False) w6 (w9.drewN q10) := HST9.out.drewN _
        obtain ⟨wx, hwx⟩ : ∃ wx, wx = w9.drewN q10 := ⟨_, rfl⟩
        rw [← hwx] at hs10 ⊢
        have HSX := hide hs10
        have HSAX := hide (HHST6.out.trans (hs10.mono (fun _ _ e => e.elim)))
        have HEX := hide (HE.out.st HSAX.out hwB)
        have HPSX := hide (HPS6.out.st hs10)
        have HROWX := hide (own_st0 HROW6.out hs10)
        have d8 : wx.cell? ⟨base, 8, none⟩ = some (.slice E j f) := (HD1'.out.st hs10 (fun e => e)).cell 8
        obtain ⟨A7, c7, e7, hrd, hc7⟩ := own_val HROW6.out
        subst e7
        clear hwx hs10
        go_wp2_with fail
        go_loopw [15, 18] (fun ok i wr => ∃ i2 : Nat, i2 ≤ j ∧ i = .int .i64 i2 ∧ ok = .bool true ∧ ∃ q, wr = wx.drewN q) (fun _ i _ => j - (intOf i).toNat)
        case atStart => exact ⟨0, Nat.zero_le _, rfl, rfl, 0, rfl⟩
        case round =>
          obtain ⟨i2, hi2, rfl, rfl, q, rfl⟩ := hrel
          by_cases hlt2 : i2 < j
          · obtain ⟨g7, cap7, cur, e7, _, hg7, hc7', _, _, htk⟩ := own_some HROWX.out (by omega)
            injection e7 with e7 e8 e9
            subst e7 e9
            have B7 : Blk wx g7 22 cur := hg7
            obtain ⟨pc, hpc⟩ : ∃ pc, ps[i2]? = some pc := ⟨_, List.getElem?_eq_getElem (by rw [HPLEN.out]; exact hlt2)⟩
            have c7v : wx.cell? ⟨g7, i2, none⟩ = some (.slice (some ⟨pc.g, 0, none⟩) (pc.n + 64) pc.cap) := by
              rw [B7.cell]
              have h1 : cur[i2]? = cur.toList[i2]? := by simp
              have h2 : (cur.toList.take (j * 1))[i2]? = cur.toList[i2]? := by rw [List.getElem?_take, if_pos (by omega)]
              rw [h1, ← h2, htk, List.getElem?_map, hpc]
              rfl
            obtain ⟨x, b, off, hx, rfl, _, hg, _, _, _, _, _, _, _, _, _, _, _, _, c12⟩ := HEX.out.at_ (k := i2) (by rw [← HM.out]; exact hlt2)
            obtain ⟨hp1, hp2, hp3⟩ := HPSX.out i2 pc x hpc hx
            unfold El.sides at c12
            rw [hp1] at hp2 hp3 c7v
            have HK : ∀ a, Hid (Calls Try.prog 28 #[.slice (some ⟨pc.g, 0, none⟩) (x.zs.length + 64) pc.cap, .slice x.A x.zs.length x.c] (wx.drewN a) fun e w' => e = .returned (.bool true) ∧ ∃ m, w' = (wx.drewN a).drewN m) := fun a => kept_any pc.g pc.cap x.zs.length x.c B x.A x.zs (wx.drewN a) (hp3.st (.inl rfl) ((St.refl (fun _ => False) wx).drewN a)) hp2 (hg.1.st ((St.refl (fun _ => False) wx).drewN a) (fun q e => e.elim)) (by have := HZL.out x (List.mem_of_getElem? hx); omega)
            have h0 : (0 : Int) ≤ i2 := by omega
            have h1 : (i2 : Int) < j := by omega
            clear hg7 htk B7 hpc hx hg hp1 hp2 hp3
            go_upto_region 20 with fail
            go_quiet ((go_at_call 28; first | exact quiet_add ((HK _).out) | exact Calls.quiet_of ((HK _).out)))
            go_wp2
            go_roundw
            case rel => exact ⟨i2 + 1, by omega, by go_num, rfl, _, rfl⟩
            case measure => simp [intOf]; omega
          · obtain rfl : i2 = j := by omega
            go_wp2
            refine bodyPost_ret (results_tmp4 rfl _ _ _) rfl ?_
            exact ⟨rfl, (HSAX.out.drewN q).mono fun q' hq h => by have h1 : base ≤ q' := h; have h2 := HW0.out; omega⟩
end Go.Proofs.Ytkcjfiifajjpiaa
