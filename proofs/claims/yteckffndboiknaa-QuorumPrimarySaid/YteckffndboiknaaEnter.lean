/-
  Contract of the program's Enter.
-/
import Derived.Test.YteckffndboiknaaWatch
set_option linter.unusedVariables false
namespace Go.Proofs.Yteckffndboiknaa
open Go.RowKit Go.WideShapes Go.ChangeShapes Q

/-- What Enter answers: the watch has gone on, and nothing else has turned. -/
def EnterP (base p : Nat) (vs : List Int) (h : List Vw) (v : Vw) (w : World) (e : Ending) (w' : World) : Prop :=
  e = .returned (.tuple #[.bool (enB vs h v), .int .i64 (enE vs h v)]) ∧ Only (fun k => k = p) w w' ∧ PW w' base p vs (enH vs h v) ∧ ∀ b, Blk w p 114 (pwC b vs h) → Blk w' p 114 (pwC b vs (enH vs h v))
theorem pwC_inj {w : World} {p b b' : Nat} {vs : List Int} {h : List Vw} (h1 : Blk w p 114 (pwC b vs h)) (h2 : Blk w p 114 (pwC b' vs h)) : b' = b := by
  have e := h1.cell 0
  rw [h2.cell 0] at e
  simp [pwC] at e
  exact e

theorem b9_1 {w : World} {p : Nat} {t : TypeId} {a0 a1 a2 a3 a4 a5 a6 a7 a8 u : Value} (hb : Blk w p t #[a0, a1, a2, a3, a4, a5, a6, a7, a8]) : Blk (w.setCell ⟨p, 1, none⟩ u) p t #[a0, u, a2, a3, a4, a5, a6, a7, a8] := hb.set_ 1 u
theorem b9_2 {w : World} {p : Nat} {t : TypeId} {a0 a1 a2 a3 a4 a5 a6 a7 a8 u : Value} (hb : Blk w p t #[a0, a1, a2, a3, a4, a5, a6, a7, a8]) : Blk (w.setCell ⟨p, 2, none⟩ u) p t #[a0, a1, u, a3, a4, a5, a6, a7, a8] := hb.set_ 2 u
theorem b9_3 {w : World} {p : Nat} {t : TypeId} {a0 a1 a2 a3 a4 a5 a6 a7 a8 u : Value} (hb : Blk w p t #[a0, a1, a2, a3, a4, a5, a6, a7, a8]) : Blk (w.setCell ⟨p, 3, none⟩ u) p t #[a0, a1, a2, u, a4, a5, a6, a7, a8] := hb.set_ 3 u
theorem b9_4 {w : World} {p : Nat} {t : TypeId} {a0 a1 a2 a3 a4 a5 a6 a7 a8 u : Value} (hb : Blk w p t #[a0, a1, a2, a3, a4, a5, a6, a7, a8]) : Blk (w.setCell ⟨p, 4, none⟩ u) p t #[a0, a1, a2, a3, u, a5, a6, a7, a8] := hb.set_ 4 u
theorem b9_5 {w : World} {p : Nat} {t : TypeId} {a0 a1 a2 a3 a4 a5 a6 a7 a8 u : Value} (hb : Blk w p t #[a0, a1, a2, a3, a4, a5, a6, a7, a8]) : Blk (w.setCell ⟨p, 5, none⟩ u) p t #[a0, a1, a2, a3, a4, u, a6, a7, a8] := hb.set_ 5 u
theorem b9_6 {w : World} {p : Nat} {t : TypeId} {a0 a1 a2 a3 a4 a5 a6 a7 a8 u : Value} (hb : Blk w p t #[a0, a1, a2, a3, a4, a5, a6, a7, a8]) : Blk (w.setCell ⟨p, 6, none⟩ u) p t #[a0, a1, a2, a3, a4, a5, u, a7, a8] := hb.set_ 6 u
theorem b9_7 {w : World} {p : Nat} {t : TypeId} {a0 a1 a2 a3 a4 a5 a6 a7 a8 u : Value} (hb : Blk w p t #[a0, a1, a2, a3, a4, a5, a6, a7, a8]) : Blk (w.setCell ⟨p, 7, none⟩ u) p t #[a0, a1, a2, a3, a4, a5, a6, u, a8] := hb.set_ 7 u
theorem b9_8 {w : World} {p : Nat} {t : TypeId} {a0 a1 a2 a3 a4 a5 a6 a7 a8 u : Value} (hb : Blk w p t #[a0, a1, a2, a3, a4, a5, a6, a7, a8]) : Blk (w.setCell ⟨p, 8, none⟩ u) p t #[a0, a1, a2, a3, a4, a5, a6, a7, u] := hb.set_ 8 u
theorem Only.set1 {w w1 : World} {p : Nat} (h : Only (fun k => k = p) w w1) (i : Nat) (u : Value) : Only (fun k => k = p) w (w1.setCell ⟨p, i, none⟩ u) := h.setCell (p := ⟨p, i, none⟩) (fun _ => rfl) u

set_option maxRecDepth 100000 in
set_option maxHeartbeats 4000000 in
theorem enter_any (ep lead inc cid : Int) (ms : List (Int × Int × Int)) (A : Option Addr) (n c base p : Nat) (vs : List Int) (h : List Vw) (w : World) (hp : PW w base p vs h) (hv : RS w w.heap.size A n ms) (hn : n * 24 ≤ 140737488351232) (hh : h.length ≤ 17592186044416) :
    Calls Try.prog 59 #[.pointer (some ⟨p, 0, none⟩), vwV ⟨ep, lead, inc, cid, ms⟩ A n c] w (EnterP base p vs h ⟨ep, lead, inc, cid, ms⟩ w) := by
  obtain ⟨b, hb, hbase, hbal, hok, hho⟩ := id hp
  have h16 := hok.2.1
  have hsame : Hid (∀ b', Blk w p 114 (pwC b' vs h) → b' = b) := fun b' h' => pwC_inj hb h'
  have hcn := cntW_le vs h
  have hle := hho.lastEp
  obtain ⟨gv, capv, hbb, _⟩ := id hbal
  have H0 : Below w.heap.size w (w.alloc (vwO ⟨ep, lead, inc, cid, ms⟩ A n c)) := (Below.refl _ w).alloc (Nat.le_refl _) _
  have B0 : Blk (w.alloc (vwO ⟨ep, lead, inc, cid, ms⟩ A n c)) w.heap.size 63 #[.int .i64 ep, .int .i64 lead, .int .i64 inc, .int .i64 cid, .slice A n c] := Blk.new _ _ _
  have P0 := hp.below H0
  have V0 := (Reads.below hv H0).more H0.size
  have b0 := hb.below H0 hb.lt
  have bb0 := hbb.below H0 hbb.lt
  unfold pwC at b0
  unfold vwV
  unfold vwO at H0 B0 P0 V0 b0 bb0
  simp only at H0 B0 P0 V0 b0 bb0 ⊢
  have hpw : p < w.heap.size := hp.lt
  have ne1 : ¬ p = w.heap.size := by omega
  have ne2 : ¬ w.heap.size = p := by omega
  clear hpw
  go_enter Try.func59, Try.ntmps59
  go_wp2
  obtain ⟨w0, hw0⟩ : ∃ w0, w0 = w.alloc (.cells #[.int .i64 ep, .int .i64 lead, .int .i64 inc, .int .i64 cid, .slice A n c] 63) := ⟨_, rfl⟩
  rw [← hw0] at H0 B0 P0 V0 b0 bb0 ⊢
  clear hw0
  obtain ⟨k0, k1, k2, k3, k4⟩ := blk5 B0
  obtain ⟨m0, m1, m2, m3, m4, m5, m6, m7, m8⟩ := blk9 b0
  have v0 := bb0.cell 0
  simp only [List.getElem?_toArray, List.getElem?_cons_zero] at v0
  have hpl := P0.lt
  have hbl := bb0.lt
  have hwl := B0.lt
  have hs0 := H0.size
  have hbal0 := hbal.below H0
  have b0' := hide b0
  clear b0 bb0 hb hbb
  go_region_held3 (fun W => W.cell? ⟨w.heap.size, 0, none⟩ = some (.int .i64 ep) ∧ W.cell? ⟨w.heap.size, 1, none⟩ = some (.int .i64 lead) ∧ W.cell? ⟨w.heap.size, 2, none⟩ = some (.int .i64 inc) ∧ W.cell? ⟨w.heap.size, 3, none⟩ = some (.int .i64 cid) ∧ W.cell? ⟨w.heap.size, 4, none⟩ = some (.slice A n c) ∧ W.cell? ⟨p, 0, none⟩ = some (.pointer (some ⟨b, 0, none⟩)) ∧ W.cell? ⟨b, 0, none⟩ = some (.slice (some ⟨gv, 0, none⟩) vs.length capv))
    (first | exact ⟨k0, k1, k2, k3, k4, m0, v0⟩ | exact ⟨(hbf.cell (p := ⟨w.heap.size, 0, none⟩) hwl).trans k0, (hbf.cell (p := ⟨w.heap.size, 1, none⟩) hwl).trans k1, (hbf.cell (p := ⟨w.heap.size, 2, none⟩) hwl).trans k2, (hbf.cell (p := ⟨w.heap.size, 3, none⟩) hwl).trans k3, (hbf.cell (p := ⟨w.heap.size, 4, none⟩) hwl).trans k4, (hbf.cell (p := ⟨p, 0, none⟩) hpl).trans m0, (hbf.cell (p := ⟨b, 0, none⟩) hbl).trans v0⟩)
    ((go_at_call 75; refine (members_any ep lead inc cid ms A n c vs.length _ (Reads.drew V0) hn h16).mono ?_; rintro e w1 ⟨s, rfl, hset, hbf⟩))
  have P1 : PW w1 base p vs h := PW.below (w := w0.drew) P0 hbf
  have B1 : Blk w1 w.heap.size 63 #[.int .i64 ep, .int .i64 lead, .int .i64 inc, .int .i64 cid, .slice A n c] := Blk.below (w := w0.drew) B0 hbf hwl
  have O1 : Only (fun k => k = p) w w1 := Only.of_below (H0.trans ((Below.drew (Below.refl _ w0)).trans (hbf.mono (by exact hs0)))) (Nat.le_refl _)
  have L1 : w.heap.size ≤ w1.heap.size := O1.size
  have hb1 : Blk w1 p 114 _ := Blk.below (w := w0.drew) b0'.out hbf hpl
  have hbal1 : Ballot w1 base b vs := Ballot.below (w := w0.drew) hbal0 hbf
  clear hbf b0' hbal0 k0 k1 k2 k3 k4 m0 m1 m2 m3 m4 m5 m6 m7 m8 v0 P0 B0 V0 H0 hs0 hpl hbl hwl
  have HP1 := hide P1
  have HB1 := hide hb1
  clear P1
  obtain ⟨k0, k1, k2, k3, k4⟩ := blk5 B1
  obtain ⟨m0, m1, m2, m3, m4, m5, m6, m7, m8⟩ := blk9 hb1
  have f0 := hb1.frozen 0
  have f1 := hb1.frozen 1
  have f2 := hb1.frozen 2
  have f3 := hb1.frozen 3
  have f4 := hb1.frozen 4
  have f5 := hb1.frozen 5
  have f6 := hb1.frozen 6
  have f7 := hb1.frozen 7
  have f8 := hb1.frozen 8
  clear hb1
  cases hs : (Vw.mk ep lead inc cid ms).set vs.length with
  | none =>
    have he := hide (en_view (h := h) hs)
    simp only [Option.isSome_none]
    clear hs hset
    go_wp2
    go_ret2
    exact ⟨ret2_ (vbool he.out.2.1.symm) (vint he.out.1.symm), O1, (by rw [he.out.2.2]; exact HP1.out), fun b' h' => by rw [hsame.out b' h', he.out.2.2]; exact HB1.out⟩
  | some s' =>
    obtain rfl : s = s' := hset s' hs
    have hlt := Vw.set_lt hs
    have hs16 : s < 65536 := Nat.lt_of_lt_of_le hlt (two_pow_lt _ h16)
    simp only [Option.isSome_some]
    clear hset hlt
    by_cases hl : ep ≤ lastEp h
    · have he := hide (en_order (v := Vw.mk ep lead inc cid ms) hs hl)
      have d1 : decide (ep ≤ lastEp h) = true := by simpa using hl
      clear hs hl
      go_wp2
      go_quiet (fail)
      go_wp2
      go_ret2
      exact ⟨ret2_ (vbool he.out.2.1.symm) (vint he.out.1.symm), O1.drewN _, (by rw [he.out.2.2]; exact HP1.out), fun b' h' => by rw [hsame.out b' h', he.out.2.2]; exact Blk.drewN HB1.out _⟩
    · have he := hide (en_ok (v := Vw.mk ep lead inc cid ms) hs hl)
      have d1 : decide (ep ≤ lastEp h) = false := by simpa using hl
      have HS := hide hs
      clear hl hs
      go_wp2
      go_quiet (fail)
      have HBB : Hid (∀ W : World, Only (fun k => k = p) w1 W → Ballot W base b vs) := fun W hW => hbal1.apart hW (apart_one HB1.out (by decide)) (apart_one HB1.out (by decide))
      go_wp2_with fail
      refine (quorate_any s base b vs _ (HBB.out _ (by repeat (first | with_reducible exact Only.refl _ _ | with_reducible refine Only.set1 ?_ _ _ | with_reducible refine Only.drewN ?_ _))) hok (by omega)).mono ?_
      rintro e w' ⟨rfl, rfl⟩
      cases hq : winsB vs s
      · have HQ := hide hq
        clear hq
        go_wp2
        go_ret2
        refine ⟨ret2_ (vbool (by rw [he.out.2.1, HQ.out])) (vint he.out.1.symm), ?_, ?_, ?_⟩
        · repeat (first | with_reducible exact O1 | with_reducible refine Only.set1 ?_ _ _ | with_reducible refine Only.drewN ?_ _)
        · rw [he.out.2.2]
          refine ⟨b, ?_, hbase, HBB.out _ (by repeat (first | with_reducible exact Only.refl _ _ | with_reducible refine Only.set1 ?_ _ _ | with_reducible refine Only.drewN ?_ _)), hok, hho.snoc HS.out⟩
          have e : pwC b vs (h ++ [⟨ep, lead, inc, cid, ms⟩]) = #[.pointer (some ⟨b, 0, none⟩), .int .i64 ep, .bool false, .int .i64 (lastW vs h).1, .int .i64 (lastW vs h).2.1, .int .i64 (lastW vs h).2.2.1, .int .i64 (lastW vs h).2.2.2, .int .i64 ((h.length : Int) + 1), .int .i64 (cntW vs h)] := by
            have hw := winV_some HS.out
            rw [HQ.out] at hw
            simp [pwC, lastEp_snoc, inW_snoc, lastW_snoc, cntW_snoc, hw]
          rw [e]
          exact b9_2 (b9_7 (b9_1 (HB1.out.drewN _)))
        · intro b' h'
          rw [hsame.out b' h', he.out.2.2]
          have e : pwC b vs (h ++ [⟨ep, lead, inc, cid, ms⟩]) = #[.pointer (some ⟨b, 0, none⟩), .int .i64 ep, .bool false, .int .i64 (lastW vs h).1, .int .i64 (lastW vs h).2.1, .int .i64 (lastW vs h).2.2.1, .int .i64 (lastW vs h).2.2.2, .int .i64 ((h.length : Int) + 1), .int .i64 (cntW vs h)] := by
            have hw := winV_some HS.out
            rw [HQ.out] at hw
            simp [pwC, lastEp_snoc, inW_snoc, lastW_snoc, cntW_snoc, hw]
          rw [e]
          exact b9_2 (b9_7 (b9_1 (HB1.out.drewN _)))
      · have HQ := hide hq
        clear hq
        go_wp2
        go_ret2
        refine ⟨ret2_ (vbool (by rw [he.out.2.1, HQ.out])) (vint he.out.1.symm), ?_, ?_, ?_⟩
        · repeat (first | with_reducible exact O1 | with_reducible refine Only.set1 ?_ _ _ | with_reducible refine Only.drewN ?_ _)
        · rw [he.out.2.2]
          refine ⟨b, ?_, hbase, HBB.out _ (by repeat (first | with_reducible exact Only.refl _ _ | with_reducible refine Only.set1 ?_ _ _ | with_reducible refine Only.drewN ?_ _)), hok, hho.snoc HS.out⟩
          have e : pwC b vs (h ++ [⟨ep, lead, inc, cid, ms⟩]) = #[.pointer (some ⟨b, 0, none⟩), .int .i64 ep, .bool true, .int .i64 ep, .int .i64 lead, .int .i64 inc, .int .i64 cid, .int .i64 ((h.length : Int) + 1), .int .i64 ((cntW vs h : Int) + 1)] := by
            have hw := winV_some HS.out
            rw [HQ.out] at hw
            simp [pwC, lastEp_snoc, inW_snoc, lastW_snoc, cntW_snoc, hw]
          rw [e]
          exact b9_6 (b9_5 (b9_4 (b9_3 (b9_8 (b9_2 (b9_7 (b9_1 (HB1.out.drewN _))))))))
        · intro b' h'
          rw [hsame.out b' h', he.out.2.2]
          have e : pwC b vs (h ++ [⟨ep, lead, inc, cid, ms⟩]) = #[.pointer (some ⟨b, 0, none⟩), .int .i64 ep, .bool true, .int .i64 ep, .int .i64 lead, .int .i64 inc, .int .i64 cid, .int .i64 ((h.length : Int) + 1), .int .i64 ((cntW vs h : Int) + 1)] := by
            have hw := winV_some HS.out
            rw [HQ.out] at hw
            simp [pwC, lastEp_snoc, inW_snoc, lastW_snoc, cntW_snoc, hw]
          rw [e]
          exact b9_6 (b9_5 (b9_4 (b9_3 (b9_8 (b9_2 (b9_7 (b9_1 (HB1.out.drewN _))))))))
end Go.Proofs.Yteckffndboiknaa
