/-
  Contract of Reset with the law's tag and one peer.
-/
import Derived.Test.YtkkckinnhkpcmaaWtake
import Derived.Test.YtkkckinnhkpcmaaSparse
set_option linter.unusedVariables false
set_option linter.unusedSimpArgs false
namespace Go.Proofs.Ytkkckinnhkpcmaa
open Go.RowKit Go.WideShapes Go.ChangeShapes Q

/-- A stream that nothing has gone on with. -/
def str0 (W : Nat) : Str := ⟨1, [], 1, List.replicate W none, false⟩

theorem count_lit (v : Int) (w : World) (h : 1 ≤ v ∧ v ≤ 4611686018427387904) : Calls Try.prog 45 #[.int .i64 v] w fun r w' => r = .returned (.bool true) ∧ w = w' := by
  have hh := count_any v w
  rw [decide_eq_true h] at hh
  exact hh
/-- What a Reset leaves. -/
def ResP (m : Nat) (X : Mx) (q pb : Nat) (w w' : World) : Prop :=
  ∃ sb, St (fun k => k = m) w w' ∧ w.heap.size ≤ pb ∧ MuxAt w' m { X with t := tg, pb := pb, ps := (List.replicate X.ps.length none).set q (some sb) } ∧ StreamAt w' (fun k => w.heap.size ≤ k ∧ k ≠ pb) sb (str0 X.window)
theorem reset_mem {w wr w3 : World} {m : Nat} {X : Mx} {q pb n hb ib : Nat} (hn : n = X.ps.length) (hq : q < n) (hX : X.window ≤ X.room ∧ X.room ≤ 20000 ∧ 1 ≤ X.window ∧ X.ps.length ≤ 16) (hbm : Blk wr m 83 (muxC { X with t := tg, pb := pb, ps := List.replicate n none }))
    (hbp : Blk wr pb 72 (Array.replicate n (Value.pointer none))) (hst : St (fun k => k = m) w wr) (hs3 : St (fun _ => False) wr.drew w3) (bh : Blk w3 hb 4 (List.replicate X.window (Value.bool false)).toArray) (bi : Blk w3 ib 28 (List.replicate X.window (Value.slice none 0 0)).toArray)
    (gh : wr.drew.heap.size ≤ hb) (gi : wr.drew.heap.size ≤ ib) (hpb : w.heap.size ≤ pb) :
    ResP m X q pb w ((w3.alloc (.cells #[.int .i64 1, .slice none 0 0, .int .i64 1, .slice (some ⟨hb, 0, none⟩) X.window X.window, .slice (some ⟨ib, 0, none⟩) X.window X.window, .bool false] 80)).setCell ⟨pb, q, none⟩ (.pointer (some ⟨w3.heap.size, 0, none⟩))) := by
  have hpl : pb < wr.heap.size := hbp.lt
  have gh' : wr.heap.size ≤ hb := gh
  have gi' : wr.heap.size ≤ ib := gi
  have hsz : wr.heap.size ≤ w3.heap.size := hs3.size
  have hmp : m ≠ pb := Blk.ne_ hbm hbp (by decide)
  have m3 := (hbm.drew.st hs3 (fun e => e)).alloc (.cells #[.int .i64 1, .slice none 0 0, .int .i64 1, .slice (some ⟨hb, 0, none⟩) X.window X.window, .slice (some ⟨ib, 0, none⟩) X.window X.window, .bool false] 80)
  have p3 := (hbp.drew.st hs3 (fun e => e)).alloc (.cells #[.int .i64 1, .slice none 0 0, .int .i64 1, .slice (some ⟨hb, 0, none⟩) X.window X.window, .slice (some ⟨ib, 0, none⟩) X.window X.window, .bool false] 80)
  have s3 := Blk.new w3 80 #[.int .i64 1, .slice none 0 0, .int .i64 1, .slice (some ⟨hb, 0, none⟩) X.window X.window, .slice (some ⟨ib, 0, none⟩) X.window X.window, .bool false]
  have hw3 : St (fun k => k = m) w (w3.alloc (.cells #[.int .i64 1, .slice none 0 0, .int .i64 1, .slice (some ⟨hb, 0, none⟩) X.window X.window, .slice (some ⟨ib, 0, none⟩) X.window X.window, .bool false] 80)) :=
    (hst.trans ((St.refl (fun k => k = m) wr).drew.trans (hs3.mono fun _ _ e => e.elim))).alloc _
  refine ⟨w3.heap.size, hw3.setCell p3 (by decide) (fun hlt => absurd hlt (by omega)) _, hpb, ⟨?_, ?_, hX.1, hX.2.1, hX.2.2.1, ?_⟩, ?_⟩
  · have := m3.far (p := ⟨pb, q, none⟩) hmp (.pointer (some ⟨w3.heap.size, 0, none⟩))
    simpa [muxC, hn] using this
  · have := p3.set_ q (.pointer (some ⟨w3.heap.size, 0, none⟩))
    have e : (((List.replicate X.ps.length (none : Option Nat)).set q (some w3.heap.size)).map ptr).toArray = (Array.replicate n (Value.pointer none)).setIfInBounds q (.pointer (some ⟨w3.heap.size, 0, none⟩)) := by
      rw [hn, List.map_set, List.map_replicate, ← List.toArray_replicate, List.setIfInBounds_toArray]
      rfl
    show Blk _ pb 72 (((List.replicate X.ps.length (none : Option Nat)).set q (some w3.heap.size)).map ptr).toArray
    rw [e]
    exact this
  · simpa using hX.2.2.2
  · refine ⟨.slice none 0 0, hb, ib, List.replicate X.window (.slice none 0 0), ?_, BRow.nil _ _, ?_, ?_, ?_, by simp [Value.ownBlock], ⟨by have := hst.size; omega, by omega⟩, ⟨by have := hst.size; omega, by omega⟩, ⟨by have := hst.size; omega, by omega⟩⟩
    · have := s3.far (p := ⟨pb, q, none⟩) (by show _ ≠ pb; omega) (.pointer (some ⟨w3.heap.size, 0, none⟩))
      simpa [strC, str0] using this
    · have := (bh.alloc (.cells #[.int .i64 1, .slice none 0 0, .int .i64 1, .slice (some ⟨hb, 0, none⟩) X.window X.window, .slice (some ⟨ib, 0, none⟩) X.window X.window, .bool false] 80)).far (p := ⟨pb, q, none⟩) (by show _ ≠ pb; omega) (.pointer (some ⟨w3.heap.size, 0, none⟩))
      have e : hereC (List.replicate X.window (none : Option (List Int))) = (List.replicate X.window (Value.bool false)).toArray := by simp [hereC]
      show Blk _ hb 4 (hereC (List.replicate X.window none))
      rw [e]
      exact this
    · exact (bi.alloc (.cells #[.int .i64 1, .slice none 0 0, .int .i64 1, .slice (some ⟨hb, 0, none⟩) X.window X.window, .slice (some ⟨ib, 0, none⟩) X.window X.window, .bool false] 80)).far (p := ⟨pb, q, none⟩) (by show _ ≠ pb; omega) (.pointer (some ⟨w3.heap.size, 0, none⟩))
    · refine ⟨by simp [str0], fun k v e hv he => ?_⟩
      have hv' := List.eq_of_mem_replicate (List.mem_of_getElem? hv)
      have he' := List.eq_of_mem_replicate (List.mem_of_getElem? (show (List.replicate X.window (none : Option (List Int)))[k]? = some e from he))
      subst hv'; subst he'
      rfl
set_option maxRecDepth 100000 in
set_option maxHeartbeats 2000000 in
theorem reset_any (m : Nat) (X : Mx) (q : Nat) (pg pc : Nat) (w : World) (hm : MuxAt w m X) (hq : q < X.ps.length) (hself : (q : Int) ≠ X.self) (hp : w.cell? ⟨pg, 0, none⟩ = some (.int .i64 (q : Int))) (hpm : pg ≠ m) (hpc : 1 ≤ pc) :
    Calls Try.prog 31 #[.pointer (some ⟨m, 0, none⟩), tg.v, .slice (some ⟨pg, 0, none⟩) 1 pc] w fun e w' => ∃ pb sb, e = .returned (.int .i64 0) ∧ St (fun k => k = m) w w' ∧ w.heap.size ≤ pb ∧
      MuxAt w' m { X with t := tg, pb := pb, ps := (List.replicate X.ps.length none).set q (some sb) } ∧ StreamAt w' (fun k => w.heap.size ≤ k ∧ k ≠ pb) sb (str0 X.window) := by
  obtain ⟨p0, p1, p2, p3, p4, p5, p6, p7, p8⟩ := m9 hm.1
  have hr := hm.2.2
  unfold tg Tg.v
  have H0 : St (fun _ => False) w (w.alloc (.cells #[.int .i64 3, .int .i64 2, .int .i64 4, .int .i64 9] 27)) := (St.refl _ w).alloc _
  have M0 := hm.alloc (.cells #[.int .i64 3, .int .i64 2, .int .i64 4, .int .i64 9] 27)
  have hp0 := cell_alloc hp (.cells #[.int .i64 3, .int .i64 2, .int .i64 4, .int .i64 9] 27)
  have B0 := Blk.new w 27 #[.int .i64 3, .int .i64 2, .int .i64 4, .int .i64 9]
  have hne : w.heap.size ≠ m := Nat.ne_of_gt hm.1.lt
  clear hm hp
  go_enter Try.func31, Try.ntmps31
  go_wp2_with fail
  obtain ⟨w0, hw0⟩ : ∃ w0, w0 = w.alloc (.cells #[.int .i64 3, .int .i64 2, .int .i64 4, .int .i64 9] 27) := ⟨_, rfl⟩
  rw [← hw0] at H0 M0 hp0 B0 ⊢
  clear hw0
  obtain ⟨b0, b1, b2, b3⟩ : w0.cell? ⟨w.heap.size, 0, none⟩ = some (.int .i64 3) ∧ w0.cell? ⟨w.heap.size, 1, none⟩ = some (.int .i64 2) ∧ w0.cell? ⟨w.heap.size, 2, none⟩ = some (.int .i64 4) ∧ w0.cell? ⟨w.heap.size, 3, none⟩ = some (.int .i64 9) := ⟨B0.cell 0, B0.cell 1, B0.cell 2, B0.cell 3⟩
  obtain ⟨p0, p1, p2, p3, p4, p5, p6, p7, p8⟩ := m9 M0.1
  have f4 := M0.1.frozen 4
  have f5 := M0.1.frozen 5
  have f6 := M0.1.frozen 6
  have f7 := M0.1.frozen 7
  have f8 := M0.1.frozen 8
  have HM0 := hide M0
  have HH0 := hide H0
  obtain ⟨n, hn⟩ : ∃ n, n = X.ps.length := ⟨_, rfl⟩
  rw [← hn] at hq p0 p8
  have hn16 : n ≤ 16 := by omega
  have HN := hide hn
  have hne2 : ((q : Int) == X.self) = false := by rw [beq_eq_false_iff_ne]; exact hself
  have d1 : decide ((q : Int) ≤ -1) = false := by rw [decide_eq_false_iff_not]; omega
  have d2 : decide (n ≤ q) = false := by rw [decide_eq_false_iff_not]; omega
  have d3 : decide ((n : Int) ≤ (q : Int)) = false := by rw [decide_eq_false_iff_not]; omega
  have HR := hide hr
  clear M0 H0 B0 hn hr hself
  go_wp2_with (go_at_call 45; refine (count_lit _ _ (by omega)).mono ?_; rintro e w' ⟨rfl, rfl⟩)
  go_loop [7, 40] (fun l i => ∃ k : Nat, k ≤ 1 ∧ i = .int .i64 k ∧ (k = 0 → l = .int .i64 (-1))) (fun _ i => 1 - (intOf i).toNat)
  case atStart => exact ⟨0, by omega, rfl, fun _ => rfl⟩
  case round =>
    obtain ⟨k, hk, rfl, hl⟩ := hrel
    have hk2 : k = 0 ∨ k = 1 := by omega
    rcases hk2 with rfl | rfl
    · obtain rfl := hl rfl
      clear hk hl
      go_wp2
      go_round
      case rel => exact ⟨1, by omega, by go_num, fun h => absurd h (by omega)⟩
      case measure => simp [intOf]
    · clear hk hl
      go_upto_region 12 with fail
      generalize hgw : World.setCell (World.setCell (World.setCell (World.setCell w0 ⟨m, 4, none⟩ _) ⟨m, 5, none⟩ _) ⟨m, 6, none⟩ _) ⟨m, 7, none⟩ _ = w1
      have hb1 : Blk w1 m 83 #[.int .i64 n, .int .i64 X.self, .int .i64 X.window, .int .i64 X.room, .int .i64 3, .int .i64 2, .int .i64 4, .int .i64 9, .slice (some ⟨X.pb, 0, none⟩) n n] ∧ St (fun k => k = m) w w1 := by
        have hb0 : Blk w0 m 83 #[.int .i64 n, .int .i64 X.self, .int .i64 X.window, .int .i64 X.room, .int .i64 X.t.ep, .int .i64 X.t.lead, .int .i64 X.t.inc, .int .i64 X.t.cid, .slice (some ⟨X.pb, 0, none⟩) n n] := by
          have := HM0.out.1
          unfold muxC at this
          rw [← HN.out] at this
          exact this
        have a1 := hb0.set_ 4 (.int .i64 3)
        have a2 := a1.set_ 5 (.int .i64 2)
        have a3 := a2.set_ 6 (.int .i64 4)
        have a4 := a3.set_ 7 (.int .i64 9)
        rw [← hgw]
        refine ⟨a4, ?_⟩
        have hs0 : St (fun k => k = m) w w0 := HH0.out.mono fun _ _ e => e.elim
        exact (((hs0.setCell hb0 (by decide) (fun _ => rfl) _).setCell a1 (by decide) (fun _ => rfl) _).setCell a2 (by decide) (fun _ => rfl) _).setCell a3 (by decide) (fun _ => rfl) _
      have HB1 := hide hb1
      have hp1 : w1.cell? ⟨pg, 0, none⟩ = some (.int .i64 (q : Int)) := by
        rw [← hgw]
        exact cell_set hpm (cell_set hpm (cell_set hpm (cell_set hpm hp0)))
      clear hgw p0 p1 p2 p3 p4 p5 p6 p7 p8 f4 f5 f6 f7 f8 b0 b1 b2 b3 hp0 hb1
      obtain ⟨p0, p1, p2, p3, p4, p5, p6, p7, p8⟩ := m9 HB1.out.1
      have f8 := HB1.out.1.frozen 8
      have hmk := make81 n (by omega) w1
      rw [List.toArray_replicate] at hmk
      have hba := HB1.out.1.alloc (.cells (Array.replicate n (Value.pointer none)) 72)
      have p8a : (w1.alloc (.cells (Array.replicate n (Value.pointer none)) 72)).cell? ⟨m, 8, none⟩ = some (.slice (some ⟨X.pb, 0, none⟩) n n) := hba.cell 8
      have f8a := hba.frozen 8
      have HBA := hide hba
      clear hba
      go_wp2_with (simp only [hmk])
      generalize hgw : World.setCell _ _ _ = w2
      have hb2 : Blk w2 m 83 (muxC { X with t := tg, pb := w1.heap.size, ps := List.replicate n none }) ∧ Blk w2 w1.heap.size 72 (Array.replicate n (Value.pointer none)) ∧ St (fun k => k = m) w w2 := by
        have c1 := HBA.out.set_ 8 (.slice (some ⟨w1.heap.size, 0, none⟩) n n)
        have c2 := Blk.new w1 72 (Array.replicate n (Value.pointer none))
        have hmlt := HB1.out.1.lt
        rw [← hgw]
        refine ⟨?_, c2.far (p := ⟨m, 8, none⟩) (by show _ ≠ m; omega) _, (HB1.out.2.alloc _).setCell HBA.out (by decide) (fun _ => rfl) _⟩
        simpa [muxC, tg] using c1
      have hp2 : w2.cell? ⟨pg, 0, none⟩ = some (.int .i64 (q : Int)) := by
        rw [← hgw]
        exact cell_set hpm (cell_alloc hp1 _)
      have hge : w.heap.size ≤ w1.heap.size := HB1.out.2.size
      have hlt2 : w1.heap.size < w2.heap.size := hb2.2.1.lt
      generalize hpb : w1.heap.size = pb at *
      have HB2 := hide hb2
      clear hgw hmk p8a f8a HBA p0 p1 p2 p3 p4 p5 p6 p7 p8 f8 hp1 hb2
      go_loopw [79] (fun i wr => (i = .int .i64 0 ∧ wr = w2) ∨ (i = .int .i64 1 ∧ Hid (ResP m X q pb w wr))) (fun i _ => 1 - (intOf i).toNat)
      case atStart => exact .inl ⟨rfl, rfl⟩
      case round =>
        rcases hrel with ⟨rfl, rfl⟩ | ⟨rfl, hres⟩
        · obtain ⟨hbm, hbp, hst⟩ := HB2.out
          unfold muxC at hbm
          obtain ⟨p0, p1, p2, p3, p4, p5, p6, p7, p8⟩ := m9 hbm
          simp only [List.length_replicate] at p8
          have hsp := sparse_any X.window wr.drew HR.out.2.2.1 (by have := HR.out; omega)
          have HSP := hide hsp
          have HBX := hide (And.intro hbm (And.intro hbp hst))
          have hSd : (fun V : World => V.cell? ⟨m, 8, none⟩ = some (.slice (some ⟨pb, 0, none⟩) n n) ∧ V.cell? ⟨m, 2, none⟩ = some (.int .i64 X.window)) wr.drew := ⟨p8, p2⟩
          have hmp : m ≠ pb := Blk.ne_ hbm hbp (by decide)
          have i0 : (0 : Int) ≤ (q : Int) := by omega
          have i1 : (q : Int) < (n : Int) := by omega
          clear hsp hbm hbp hst p0 p1 p2 p3 p4 p5 p6 p7 p8
          go_wp2_with fail
          go_region_held3 (fun V : World => V.cell? ⟨m, 8, none⟩ = some (.slice (some ⟨pb, 0, none⟩) n n) ∧ V.cell? ⟨m, 2, none⟩ = some (.int .i64 X.window))
            (first | with_reducible exact hSd | with_reducible exact hS3 | with_reducible exact ⟨cell_alloc hS3.1 _, cell_alloc hS3.2 _⟩ | with_reducible exact ⟨cell_set hmp (cell_alloc hS3.1 _), cell_set hmp (cell_alloc hS3.2 _)⟩)
            ((go_at_call 50; refine HSP.out.mono ?_; rintro e w3 ⟨hb, ib, rfl, hs3, bh, bi, gh, gi⟩; have hS3 : (fun V : World => V.cell? ⟨m, 8, none⟩ = some (.slice (some ⟨pb, 0, none⟩) n n) ∧ V.cell? ⟨m, 2, none⟩ = some (.int .i64 X.window)) w3 := ⟨hs3.only.cell hSd.1 (fun e => e), hs3.only.cell hSd.2 (fun e => e)⟩; have hbq := ((HBX.out.2.1.drew.st hs3 (fun e => e)).alloc (.cells #[.int .i64 1, .slice none 0 0, .int .i64 1, .slice (some ⟨hb, 0, none⟩) X.window X.window, .slice (some ⟨ib, 0, none⟩) X.window X.window, .bool false] 80)); have kq := hbq.cell q; have fq := hbq.frozen q; simp only [Array.getElem?_replicate, hq, if_true] at kq; have HG := hide (And.intro hs3 (And.intro bh (And.intro bi (And.intro gh gi)))); clear hbq hs3 bh bi gh gi))
          obtain ⟨y1, y2, y3, y4, y5⟩ := HG.out
          have hres := reset_mem HN.out hq HR.out HBX.out.1 HBX.out.2.1 HBX.out.2.2 y1 y2 y3 y4 y5 hge
          have HRES := hide hres
          clear hres y1 y2 y3 y4 y5 hSd hS3 kq fq
          go_wp2
          go_roundw
          case rel => exact .inr ⟨by go_num, HRES⟩
          case measure => simp [intOf]
        · go_wp2
          go_ret
          obtain ⟨sb, r1, r2, r3, r4⟩ := hres.out
          exact ⟨pb, sb, rfl, r1, r2, r3, r4⟩
end Go.Proofs.Ytkkckinnhkpcmaa
