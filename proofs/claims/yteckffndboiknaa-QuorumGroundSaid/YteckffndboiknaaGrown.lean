/-
  Contract of the laws' grown.
-/
import Derived.Test.YteckffndboiknaaLeastL
set_option linter.unusedVariables false
set_option linter.unusedSimpArgs false
namespace Go.Proofs.Yteckffndboiknaa
open Go.RowKit Go.WideShapes Go.ChangeShapes Q

/-- The front of a row shows what it showed behind an append to a slice of it. -/
theorem own_pushk {w w' : World} {base base' n m : Nat} {e : TypeId} {v vg : Value} {xs ys : List Value} (hv : w.ownsRow base e 1 v n xs) (hg : w.ownsRow base' e 1 vg m ys) (hpre : ys.take n = xs) (hnm : n ≤ m)
    (hgr : w.grownBy w' vg.ownBlock) (hk : w'.ownsRow base' e 1 vg m ys) : w'.ownsRow base e 1 v n xs := by
  refine ⟨hv.1, ?_⟩
  rcases hv.2 with h0 | ⟨blk, cap, cur, rfl, hge, hc, hnc, hcm, hcs, htk⟩
  · exact .inl h0
  · refine .inr ?_
    have hlt : blk < w.heap.size := Blk.lt (t := e) (cs := cur) hc
    by_cases hb : some blk = vg.ownBlock
    · rcases hk.2 with ⟨rfl, _⟩ | ⟨g2, cap2, cur2, rfl, hge2, hc2, hnc2, hcm2, hcs2, htk2⟩
      · cases hb
      · have e1 : blk = g2 := by simpa [Value.ownBlock] using hb
        subst e1
        have hcap : cap = cap2 := by
          rcases hg.2 with ⟨h0, _⟩ | ⟨g3, cap3, cur3, h3, _, hc3, _, _, hcs3, _⟩
          · cases h0
          · injection h3 with h3 h4 h5
            injection h3 with h3
            injection h3 with h3
            subst h3 h5
            have := hc.symm.trans hc3
            injection this with this
            injection this with this
            subst this
            omega
        subst hcap
        refine ⟨blk, cap, cur2, rfl, hge, hc2, hnc, hcm, hcs2, ?_⟩
        rw [← hpre, ← htk2, List.take_take]
        congr 1
        omega
    · exact ⟨blk, cap, cur, rfl, hge, (hgr.block blk hlt hb).trans hc, hnc, hcm, hcs, htk⟩
theorem LL.drewN {w : World} {base : Nat} {v : Value} {es : List En} (h : LL w base v es) (q : Nat) : LL (w.drewN q) base v es := ⟨h.row, h.ent, h.nd, h.sh⟩
theorem own_front {w : World} {base m n : Nat} {e : TypeId} {A : Option Addr} {c : Nat} {ys : List Value} (hg : w.ownsRow base e 1 (.slice A m c) m ys) (hnm : n ≤ m) : Reads w w.heap.size 1 A n (ys.take n) := by
  have hr := Reads.of_own hg
  refine ⟨by have := hr.1; simp; omega, fun h0 => ?_⟩
  obtain ⟨ad, e1, hlt, hc⟩ := hr.2 (by omega)
  refine ⟨ad, e1, hlt, fun j u hu => hc j u ?_⟩
  rw [List.getElem?_take] at hu
  split at hu
  · exact hu
  · cases hu

set_option maxRecDepth 100000 in
set_option maxHeartbeats 2000000 in
theorem grown_true (base base' : Nat) (A A' : Option Addr) (c c' : Nat) (es es' : List En) (w : World) (h : LL w base (.slice A es.length c) es) (h' : LL w base' (.slice A' es'.length c') es') (hl : es.map En.l = es'.map En.l) (hn : es.length ≤ 100000) (hb : base ≤ w.heap.size)
    (hne : ∀ q, (Value.slice A es.length c).ownBlock = some q → (Value.slice A' es'.length c').ownBlock ≠ some q) :
    Calls Try.prog 39 #[.slice A es.length c, .slice A' es'.length c'] w fun e w' => e = .returned (.bool true) ∧ LL w' base (.slice A es.length c) es ∧ Only (fun q => (Value.slice A es.length c).ownBlock = some q) w w' := by
  obtain ⟨N, hN⟩ : ∃ N, N = es.length := ⟨_, rfl⟩
  have hN2 : es'.length = N := by have := congrArg List.length hl; rw [List.length_map, List.length_map] at this; omega
  obtain ⟨i32, hi32, hz32, hs32, hb32⟩ := info_parts info32
  have I32 := hide hi32
  have HN := hide hN
  have HN2 := hide hN2
  have HL := hide h
  have HL' := hide h'
  have HEQ := hide hl
  have HNE := hide hne
  rw [← hN] at hn HL HNE ⊢
  rw [hN2] at HL' HNE ⊢
  obtain ⟨v, hv⟩ : ∃ v, v = Value.slice A N c := ⟨_, rfl⟩
  rw [← hv] at HL HNE
  have HV := hide hv
  have HROW : Hid (w.ownsRow base 32 1 v N (es.map En.v)) := by have := HL.out.row; rw [← hN] at this; exact this
  have hcN : N ≤ c := by
    obtain ⟨A1, c1, e1, _, hc1⟩ := own_slice HROW.out
    rw [hv] at e1
    injection e1 with _ _ e1
    omega
  clear hN hN2 hi32 h h' hl hne hv
  go_enter Try.func39, Try.ntmps39
  rw [← HV.out]
  go_upto_region 3 with fail
  go_loopw [5, 6] (fun vg i wr => ∃ (j : Nat) (js : List Value), j ≤ 64 ∧ i = .int .i64 j ∧ Hid (js.length = j) ∧ Hid (wr.ownsRow base 32 1 vg (N + j) (es.map En.v ++ js)) ∧ Hid (wr.ownsRow base 32 1 v N (es.map En.v)) ∧ Hid (Only (fun q => v.ownBlock = some q) w wr) ∧ Hid (∀ q, vg.ownBlock = some q → v.ownBlock = some q ∨ w.heap.size ≤ q)) (fun _ i _ => 64 - (intOf i).toNat)
  case atStart => exact ⟨0, [], by omega, rfl, rfl, by show World.ownsRow _ _ _ _ _ _ _; rw [List.append_nil]; exact HROW.out, HROW, Only.refl _ _, fun q hq => .inl hq⟩
  case round =>
    obtain ⟨j, js, hj, rfl, hjs, hg, hv1, ho, hq⟩ := hrel
    have hbw : base ≤ wr.heap.size := by have := ho.out.size; omega
    by_cases hlt : j < 64
    · have i64_ : (j : Int) < 64 := by omega
      have HG2 := hide ((hg.out.alloc (.cells #[.int .i64 (-9)] 3)).alloc (.cells #[.slice (some ⟨wr.heap.size, 0, none⟩) 1 1] 32))
      have HV2 := hide ((hv1.out.alloc (.cells #[.int .i64 (-9)] 3)).alloc (.cells #[.slice (some ⟨wr.heap.size, 0, none⟩) 1 1] 32))
      have HO2 : Hid (Only (fun q => v.ownBlock = some q) w ((wr.alloc (.cells #[.int .i64 (-9)] 3)).alloc (.cells #[.slice (some ⟨wr.heap.size, 0, none⟩) 1 1] 32))) := (ho.out.alloc _).alloc _
      have HB2 : Hid (Blk ((wr.alloc (.cells #[.int .i64 (-9)] 3)).alloc (.cells #[.slice (some ⟨wr.heap.size, 0, none⟩) 1 1] 32)) (wr.heap.size + 1) 32 #[.slice (some ⟨wr.heap.size, 0, none⟩) 1 1]) := Blk.new' _ _ _ _ (by simp)
      have hsz : ((wr.alloc (.cells #[.int .i64 (-9)] 3)).alloc (.cells #[.slice (some ⟨wr.heap.size, 0, none⟩) 1 1] 32)).heap.size = wr.heap.size + 2 := by simp
      have HSZ := hide hsz
      have HWS := hide ho.out.size
      clear hsz hg hv1 ho
      go_wp2_with (at_builtin; refine wpList_pushk rfl (.tmp 12) (.tmp 14) _ rfl base 32 i32 _ 1 24 Try.underlying76 I32.out hz32 hs32 hb32 rfl (by omega) u5 (N + j) _ rfl HG2.out (wr.heap.size + 1) 1 1 #[.slice (some ⟨wr.heap.size, 0, none⟩) 1 1] rfl HB2.out rfl (by simp [Value.oneCell']) (by omega) (by unfold maxLen; omega) (by omega) (by rw [HSZ.out]; omega) ?_; intro g7 c7 wz hown hold hgr hor _ _; have HG3 := hide hown; have HV3 := hide (own_pushk HV2.out HG2.out (by rw [HN.out]; exact List.take_left' (by simp)) (Nat.le_add_right _ _) hgr hold); have HO3 := hide (HO2.out.trans' (G := fun q => u5.ownBlock = some q) (Only.of_grown hgr fun g e _ => e) (fun q hq1 hq2 => by rcases hq.out q hq2 with h | h; exact h; exact absurd hq1 (by omega))); have HQ3 : Hid (∀ q, (Value.slice (some ⟨g7, 0, none⟩) (N + j + 1) c7).ownBlock = some q → v.ownBlock = some q ∨ w.heap.size ≤ q) := (fun q hq1 => by have e1 : g7 = q := (by simpa [Value.ownBlock] using hq1); subst e1; rcases hor with h | h; exact hq.out _ h; right; rw [h, HSZ.out]; have := HWS.out; omega); clear hown hold hgr hor)
      have HG4 : Hid (wz.ownsRow base 32 1 (.slice (some ⟨g7, 0, none⟩) (N + j + 1) c7) (N + (j + 1)) (es.map En.v ++ (js ++ [.slice (some ⟨wr.heap.size, 0, none⟩) 1 1]))) := by
        have := HG3.out
        rw [List.append_assoc] at this
        exact this
      go_roundw
      case rel => exact ⟨j + 1, js ++ [.slice (some ⟨wr.heap.size, 0, none⟩) 1 1], by omega, by go_num, (by show _ = _; rw [List.length_append, hjs.out]; rfl), HG4, HV3, HO3, HQ3⟩
      case measure => simp [intOf]; omega
    · obtain rfl : j = 64 := by omega
      obtain ⟨Ag, cg, rfl, hrg, hcg⟩ := own_slice hg.out
      have hLw : LL wr base v es := by
        refine ⟨by have := hv1.out; rw [HN.out] at this; exact this, fun e he => ?_, HL.out.nd, HL.out.sh⟩
        obtain ⟨cs3, h3⟩ := (HL.out.ent e he).blk
        exact own_only (HL.out.ent e he) ho.out (fun q hq1 hq2 => by
          have e1 : e.g = q := by simpa [En.v, Value.ownBlock] using hq1
          subst e1
          exact own_ne HL.out.row h3 (by decide) hq2.symm)
      have hLw' : LL wr base' (.slice A' N c') es' := by
        refine ⟨own_only HL'.out.row ho.out (fun q hq1 hq2 => HNE.out q hq2 hq1), fun e he => ?_, HL'.out.nd, HL'.out.sh⟩
        obtain ⟨cs3, h3⟩ := (HL'.out.ent e he).blk
        exact own_only (HL'.out.ent e he) ho.out (fun q hq1 hq2 => by
          have e1 : e.g = q := by simpa [En.v, Value.ownBlock] using hq1
          subst e1
          exact own_ne HL.out.row h3 (by decide) hq2.symm)
      have hfr : Reads wr wr.heap.size 1 Ag N (es.map En.v) := by
        have := own_front hg.out (n := N) (by omega)
        rw [show (es.map En.v ++ js).take N = es.map En.v from by rw [HN.out]; exact List.take_left' (by simp)] at this
        exact this
      have hlr : LR wr Ag es := ⟨by rw [← HN.out]; exact hfr, fun e he => (hLw.ent e he).ri, HL.out.sh⟩
      obtain ⟨A2, c2, e2, hlr', _⟩ := hLw'.lr
      injection e2 with e2 e3 e4
      subst e2
      have HK := hide (lists_true Ag A' cg c' es es' wr hlr hlr' HEQ.out (by have := HN.out; omega))
      rw [← HN.out, HN2.out] at HK
      have HLW := hide hLw
      have hNg : N ≤ cg := by omega
      have hNg' : (N : Int) ≤ (cg : Int) := by omega
      have hN0 : (0 : Int) ≤ (N : Int) := by omega
      clear hLw hLw' hfr hlr hlr' hrg e3 e4
      rw [HV.out]
      go_wp2_with (first | (go_at_call 38; refine HK.out.mono ?_; rintro e w' ⟨rfl, q, rfl⟩))
      go_ret
      exact ⟨rfl, HLW.out.drewN q, ho.out.drewN q⟩
end Go.Proofs.Yteckffndboiknaa
