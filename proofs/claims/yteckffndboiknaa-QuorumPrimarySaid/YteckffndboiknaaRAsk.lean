/-
  Contracts of the reference's In, Last, Count.
-/
import Derived.Test.YteckffndboiknaaRWatch
set_option linter.unusedVariables false
namespace Go.Proofs.Yteckffndboiknaa
open Go.RowKit Go.WideShapes Go.ChangeShapes Q

/-- Pids, of a view that is one. -/
theorem pids_view (v : Vw) (A : Option Addr) (c N s : Nat) (w : World) (h : RS w w.heap.size A v.ms.length v.ms) (hn : v.ms.length ≤ 17592186044416) (hN : N ≤ 16) (hs : v.set N = some s) :
    Calls Try.prog 74 #[.agg #[.int .i64 v.ep, .int .i64 v.lead, .int .i64 v.inc, .int .i64 v.cid, .slice A v.ms.length c]] w fun e w' => e = .returned (.int .i64 s) ∧ Below w.heap.size w w' := by
  have := pids_any v.ep v.lead v.inc v.cid v.ms A v.ms.length c N s w h hn hN (Vw.set_pack hs)
  unfold vwV at this
  refine this.mono ?_
  rintro e w' ⟨rfl, rfl⟩
  exact ⟨rfl, (Below.refl _ _).alloc (Nat.le_refl _) _⟩
theorem set_short {v : Vw} {N s : Nat} (hN : N ≤ 16) (hs : v.set N = some s) : v.ms.length ≤ 16 := by
  have hp := Vw.set_pack hs
  obtain ⟨b0, l0, h0⟩ := pack_at hp (Nat.le_refl _)
  have := packTo_inv h0
  rw [pids_len] at this
  omega
theorem blk2 {w : World} {g : Nat} {t : TypeId} {a b : Value} (h : Blk w g t #[a, b]) : w.cell? ⟨g, 0, none⟩ = some a ∧ w.cell? ⟨g, 1, none⟩ = some b := by
  refine ⟨?_, ?_⟩ <;> rw [h.cell] <;> rfl

theorem below_drew {B : Nat} {a w : World} (h : Below B a w) : Below B a w.drew := ⟨h.os, h.tape, h.output, h.size, h.block⟩
theorem view_at {w : World} {base : Nat} {Aw : Option Addr} {vs : List Int} {L : List Ve} (RL : Reads w w.heap.size 5 Aw L.length (vcells L)) (hm : ∀ e ∈ L, w.ownsRow base 103 3 (.slice e.A e.v.ms.length e.c) e.v.ms.length (sts e.v.ms)) (hok : Ok vs) (hh : HOk vs (hist L)) {k : Nat} (hk : k < L.length) :
    ∃ (e : Ve) (s b off : Nat), Aw = some ⟨b, off, none⟩ ∧ b < w.heap.size ∧ (w.cell? ⟨b, off + k * 5, none⟩ = some (.int .i64 e.v.ep) ∧ w.cell? ⟨b, off + k * 5 + 1, none⟩ = some (.int .i64 e.v.lead) ∧ w.cell? ⟨b, off + k * 5 + 2, none⟩ = some (.int .i64 e.v.inc) ∧
      w.cell? ⟨b, off + k * 5 + 3, none⟩ = some (.int .i64 e.v.cid) ∧ w.cell? ⟨b, off + k * 5 + 4, none⟩ = some (.slice e.A e.v.ms.length e.c)) ∧ RS w w.heap.size e.A e.v.ms.length e.v.ms ∧ e.v.set vs.length = some s ∧ s < 65536 ∧ e.v.ms.length ≤ 16 ∧
      (hist L).take (k + 1) = (hist L).take k ++ [e.v] := by
  obtain ⟨b, off, hA, hab, hc⟩ := rv_at RL hk
  obtain ⟨s, hs⟩ := Option.isSome_iff_exists.1 (hh L[k].v (by unfold hist; exact List.mem_map.2 ⟨_, List.getElem_mem hk, rfl⟩))
  exact ⟨L[k], s, b, off, hA, hab, hc, Reads.of_own (hm L[k] (List.getElem_mem hk)), hs, Nat.lt_of_lt_of_le (Vw.set_lt hs) (two_pow_lt _ hok.2.1), set_short hok.2.1 hs, hist_take L k hk⟩

set_option maxRecDepth 100000 in
set_option maxHeartbeats 4000000 in
theorem in_r (base r : Nat) (g : Option Nat) (vs : List Int) (L : List Ve) (w : World) (hr : RW w base r g vs L) (hL : L.length ≤ 17592186044416) :
    Calls Try.prog 54 #[.pointer (some ⟨r, 0, none⟩)] w fun e w' => e = .returned (.bool (inW vs (hist L))) ∧ Below w.heap.size w w' := by
  obtain ⟨Av, cv, Aw, cw, hb, hbase, hv, hw, hgg, hm, hok, hh⟩ := hr
  obtain ⟨k0, k1⟩ := blk2 hb
  have hrl := hb.lt
  have h16 := hok.2.1
  have RV : RI w w.heap.size Av vs.length vs := Reads.of_own hv
  have RL := Reads.of_own hw
  clear hb hv hw
  rcases Nat.eq_zero_or_pos L.length with h0 | h0
  · obtain rfl := List.eq_nil_of_length_eq_zero h0
    go_enter Try.func54, Try.ntmps54
    go_wp2
    go_quiet (fail)
    go_wp2
    go_ret
    exact ⟨rfl, below_drewN (Below.refl _ _) _⟩
  · obtain ⟨m, hmm⟩ : ∃ m, L.length = m + 1 := ⟨L.length - 1, by omega⟩
    have hml : m < L.length := by omega
    obtain ⟨b, off, rfl, hab, q0, q1, q2, q3, q4⟩ := rv_at RL hml
    have HE := hide (hm L[m] (List.getElem_mem hml))
    have HS := hide (hh L[m].v (by unfold hist; exact List.mem_map.2 ⟨_, List.getElem_mem hml, rfl⟩))
    have HI : Hid (inW vs (hist L) = winV vs L[m].v) := by
      show _ = _
      have e := hist_take L m hml
      rw [List.take_of_length_le (by rw [hist_len]; omega)] at e
      rw [e, inW_snoc]
    obtain ⟨e, he⟩ : ∃ e, e = L[m] := ⟨_, rfl⟩
    rw [← he] at q0 q1 q2 q3 q4 HE HS HI
    have HL := hide hmm
    clear he hm hh
    obtain ⟨s, hs⟩ := Option.isSome_iff_exists.1 HS.out
    have hms := set_short h16 hs
    have hs16 : s < 65536 := Nat.lt_of_lt_of_le (Vw.set_lt hs) (two_pow_lt _ h16)
    have RM : RS w w.heap.size e.A e.v.ms.length e.v.ms := Reads.of_own HE.out
    have HW : Hid (inW vs (hist L) = winsB vs s) := by show _ = _; rw [HI.out, winV_some hs]
    have HPV := hide (pids_view e.v e.A e.c vs.length s)
    have hs := hide hs
    rw [hmm] at k1
    have m0 : (0 : Int) ≤ (m : Int) := by omega
    have m1 : (m : Int) < ((m + 1 : Nat) : Int) := by omega
    have hlc : m + 1 ≤ 17592186044416 := by omega
    clear hmm hml h0 hL RL
    go_enter Try.func54, Try.ntmps54
    go_wp2
    have wr1 : IntKind.i64.wrap (m : Int) = (m : Int) := IntWalk.i64_in _ (by constructor <;> omega)
    have m2 : (m : Int) < (m : Int) + 1 := by omega
    go_region_held3 (fun W => W.cell? ⟨r, 0, none⟩ = some (.slice Av vs.length cv) ∧ W.cell? ⟨r, 1, none⟩ = some (.slice (some ⟨b, off, none⟩) (m + 1) cw) ∧ W.cell? ⟨b, off + m * 5, none⟩ = some (.int .i64 e.v.ep) ∧ W.cell? ⟨b, off + m * 5 + 1, none⟩ = some (.int .i64 e.v.lead) ∧ W.cell? ⟨b, off + m * 5 + 2, none⟩ = some (.int .i64 e.v.inc) ∧ W.cell? ⟨b, off + m * 5 + 3, none⟩ = some (.int .i64 e.v.cid) ∧ W.cell? ⟨b, off + m * 5 + 4, none⟩ = some (.slice e.A e.v.ms.length e.c))
      (first | exact ⟨k0, k1, q0, q1, q2, q3, q4⟩ | exact ⟨(hbf.cell (p := ⟨r, 0, none⟩) hrl).trans k0, (hbf.cell (p := ⟨r, 1, none⟩) hrl).trans k1, (hbf.cell (p := ⟨b, off + m * 5, none⟩) hab).trans q0, (hbf.cell (p := ⟨b, off + m * 5 + 1, none⟩) hab).trans q1, (hbf.cell (p := ⟨b, off + m * 5 + 2, none⟩) hab).trans q2, (hbf.cell (p := ⟨b, off + m * 5 + 3, none⟩) hab).trans q3, (hbf.cell (p := ⟨b, off + m * 5 + 4, none⟩) hab).trans q4⟩)
      (first
        | ((go_at_call 74; refine (HPV.out _ (Reads.drew RM) (by omega) h16 hs.out).mono ?_; rintro e w' ⟨rfl, hbf⟩))
        | ((go_at_call 48; refine (wins_any s Av w.heap.size vs.length cv vs _ (Reads.below (Reads.drew RV) hbf) (by omega) hok).mono ?_; rintro e w' ⟨rfl, rfl⟩)))
    go_wp2
    go_ret
    exact ⟨ret_bool HW.out.symm, (below_drew (Below.refl _ w)).trans hbf⟩

set_option maxRecDepth 100000 in
set_option maxHeartbeats 4000000 in
theorem count_r (base r : Nat) (g : Option Nat) (vs : List Int) (L : List Ve) (w : World) (hr : RW w base r g vs L) (hL : L.length ≤ 17592186044416) :
    Calls Try.prog 58 #[.pointer (some ⟨r, 0, none⟩)] w fun e w' => e = .returned (.tuple #[.int .i64 L.length, .int .i64 (cntW vs (hist L))]) ∧ Below w.heap.size w w' := by
  obtain ⟨Av, cv, Aw, cw, hb, hbase, hv, hw, hgg, hm, hok, hh⟩ := hr
  have hrl := hb.lt
  have h16 := hok.2.1
  have RV : RI w w.heap.size Av vs.length vs := Reads.of_own hv
  have RL := Reads.of_own hw
  obtain ⟨k0, k1⟩ := blk2 hb
  clear hb hv hw
  go_enter Try.func58, Try.ntmps58
  go_wp2
  go_loopw [4, 5] (fun c i wr => ∃ (k : Nat), k ≤ L.length ∧ i = .int .i64 k ∧ c = .int .i64 (cntW vs ((hist L).take k)) ∧ Below w.heap.size w wr) (fun _ i _ => L.length - (intOf i).toNat)
  case atStart => exact ⟨0, Nat.zero_le _, rfl, rfl, Below.refl _ _⟩
  case round =>
    obtain ⟨k, hk, rfl, rfl, hb⟩ := hrel
    have hbs := hb.size
    have k0' := (hb.cell (p := ⟨r, 0, none⟩) hrl).trans k0
    have k1' := (hb.cell (p := ⟨r, 1, none⟩) hrl).trans k1
    have hcn : cntW vs ((hist L).take k) ≤ k := Nat.le_trans (cntW_le _ _) (by rw [List.length_take]; exact Nat.min_le_left _ _)
    by_cases hlt : k < L.length
    · obtain ⟨e, s, b, off, rfl, hab, ⟨q0, q1, q2, q3, q4⟩, RM, hs, hs16, hms, htk⟩ := view_at RL hm hok hh hlt
      have q0 := (hb.cell (p := ⟨b, off + k * 5, none⟩) hab).trans q0
      have q1 := (hb.cell (p := ⟨b, off + k * 5 + 1, none⟩) hab).trans q1
      have q2 := (hb.cell (p := ⟨b, off + k * 5 + 2, none⟩) hab).trans q2
      have q3 := (hb.cell (p := ⟨b, off + k * 5 + 3, none⟩) hab).trans q3
      have q4 := (hb.cell (p := ⟨b, off + k * 5 + 4, none⟩) hab).trans q4
      have RM' : RS wr wr.heap.size e.A e.v.ms.length e.v.ms := (Reads.below RM hb).more hbs
      have RV' : RI wr wr.heap.size Av vs.length vs := (Reads.below RV hb).more hbs
      have hrl' : r < wr.heap.size := by omega
      have hab' : b < wr.heap.size := by omega
      have HPV := hide (pids_view e.v e.A e.c vs.length s)
      have HCT : Hid (cntW vs ((hist L).take (k + 1)) = if winsB vs s = true then cntW vs ((hist L).take k) + 1 else cntW vs ((hist L).take k)) := by show _ = _; rw [htk, cntW_snoc, winV_some hs]
      have hs := hide hs
      have htk := hide htk
      have m0 : (0 : Int) ≤ (k : Int) := by omega
      have m1 : (k : Int) < (L.length : Int) := by omega
      go_wp2
      go_region_held3 (fun W => W.cell? ⟨r, 0, none⟩ = some (.slice Av vs.length cv) ∧ W.cell? ⟨r, 1, none⟩ = some (.slice (some ⟨b, off, none⟩) L.length cw) ∧ W.cell? ⟨b, off + k * 5, none⟩ = some (.int .i64 e.v.ep) ∧ W.cell? ⟨b, off + k * 5 + 1, none⟩ = some (.int .i64 e.v.lead) ∧ W.cell? ⟨b, off + k * 5 + 2, none⟩ = some (.int .i64 e.v.inc) ∧ W.cell? ⟨b, off + k * 5 + 3, none⟩ = some (.int .i64 e.v.cid) ∧ W.cell? ⟨b, off + k * 5 + 4, none⟩ = some (.slice e.A e.v.ms.length e.c))
        (first | exact ⟨k0', k1', q0, q1, q2, q3, q4⟩ | exact ⟨(hbf.cell (p := ⟨r, 0, none⟩) hrl').trans k0', (hbf.cell (p := ⟨r, 1, none⟩) hrl').trans k1', (hbf.cell (p := ⟨b, off + k * 5, none⟩) hab').trans q0, (hbf.cell (p := ⟨b, off + k * 5 + 1, none⟩) hab').trans q1, (hbf.cell (p := ⟨b, off + k * 5 + 2, none⟩) hab').trans q2, (hbf.cell (p := ⟨b, off + k * 5 + 3, none⟩) hab').trans q3, (hbf.cell (p := ⟨b, off + k * 5 + 4, none⟩) hab').trans q4⟩)
        (first
          | ((go_at_call 74; refine (HPV.out _ (Reads.drew RM') (by omega) h16 hs.out).mono ?_; rintro e w' ⟨rfl, hbf⟩))
          | ((go_at_call 48; refine (wins_any s Av wr.heap.size vs.length cv vs _ (Reads.below (Reads.drew RV') hbf) (by omega) hok).mono ?_; rintro e w' ⟨rfl, rfl⟩)))
      have hb' := hb.trans ((below_drew (Below.refl _ wr)).trans (hbf.mono (by exact hbs)))
      clear hbf hb q0 q1 q2 q3 q4 k0' k1'
      cases hq : winsB vs s
      · have HQ := hide hq
        clear hq
        go_wp2
        go_roundw
        case rel => exact ⟨k + 1, by omega, by go_num, by rw [HCT.out, HQ.out]; rfl, hb'⟩
        case measure => simp [intOf]; omega
      · have HQ := hide hq
        clear hq
        go_wp2
        go_roundw
        case rel => exact ⟨k + 1, by omega, by go_num, by rw [HCT.out, HQ.out]; rfl, hb'⟩
        case measure => simp [intOf]; omega
    · obtain rfl : k = L.length := by omega
      have e : (hist L).take L.length = hist L := List.take_of_length_le (by rw [hist_len]; exact Nat.le_refl _)
      rw [e]
      clear e hcn
      go_wp2
      go_ret2
      exact ⟨rfl, hb⟩

def idC (x : Int × Int × Int × Int) : Array Value := #[.int .i64 x.1, .int .i64 x.2.1, .int .i64 x.2.2.1, .int .i64 x.2.2.2]
theorem blk4 {w : World} {g : Nat} {t : TypeId} {a b c d : Value} (h : Blk w g t #[a, b, c, d]) : w.cell? ⟨g, 0, none⟩ = some a ∧ w.cell? ⟨g, 1, none⟩ = some b ∧ w.cell? ⟨g, 2, none⟩ = some c ∧ w.cell? ⟨g, 3, none⟩ = some d := by
  refine ⟨?_, ?_, ?_, ?_⟩ <;> rw [h.cell] <;> rfl

theorem b4_0 {w : World} {p : Nat} {t : TypeId} {a0 a1 a2 a3 u : Value} (hb : Blk w p t #[a0, a1, a2, a3]) : Blk (w.setCell ⟨p, 0, none⟩ u) p t #[u, a1, a2, a3] := hb.set_ 0 u
theorem b4_1 {w : World} {p : Nat} {t : TypeId} {a0 a1 a2 a3 u : Value} (hb : Blk w p t #[a0, a1, a2, a3]) : Blk (w.setCell ⟨p, 1, none⟩ u) p t #[a0, u, a2, a3] := hb.set_ 1 u
theorem b4_2 {w : World} {p : Nat} {t : TypeId} {a0 a1 a2 a3 u : Value} (hb : Blk w p t #[a0, a1, a2, a3]) : Blk (w.setCell ⟨p, 2, none⟩ u) p t #[a0, a1, u, a3] := hb.set_ 2 u
theorem b4_3 {w : World} {p : Nat} {t : TypeId} {a0 a1 a2 a3 u : Value} (hb : Blk w p t #[a0, a1, a2, a3]) : Blk (w.setCell ⟨p, 3, none⟩ u) p t #[a0, a1, a2, u] := hb.set_ 3 u
set_option maxRecDepth 100000 in
set_option maxHeartbeats 4000000 in
theorem last_r (base r : Nat) (g : Option Nat) (vs : List Int) (L : List Ve) (w : World) (hr : RW w base r g vs L) (hL : L.length ≤ 17592186044416) :
    Calls Try.prog 56 #[.pointer (some ⟨r, 0, none⟩)] w fun e w' => e = .returned (.agg #[.int .i64 (lastW vs (hist L)).1, .int .i64 (lastW vs (hist L)).2.1, .int .i64 (lastW vs (hist L)).2.2.1, .int .i64 (lastW vs (hist L)).2.2.2]) ∧ Below w.heap.size w w' := by
  obtain ⟨Av, cv, Aw, cw, hb, hbase, hv, hw, hgg, hm, hok, hh⟩ := hr
  have hrl := hb.lt
  have h16 := hok.2.1
  have RV : RI w w.heap.size Av vs.length vs := Reads.of_own hv
  have RL := Reads.of_own hw
  obtain ⟨k0, k1⟩ := blk2 hb
  clear hb hv hw
  go_enter Try.func56, Try.ntmps56
  go_wp2
  go_loopw [4] (fun i wr => ∃ (k : Nat), k ≤ L.length ∧ i = .int .i64 k ∧ Below w.heap.size w wr ∧ Blk wr w.heap.size 60 #[.int .i64 0, .int .i64 0, .int .i64 0, .int .i64 0] ∧ Blk wr (w.heap.size + 1) 60 (idC (lastW vs ((hist L).take k)))) (fun i _ => L.length - (intOf i).toNat)
  case atStart => exact ⟨0, Nat.zero_le _, rfl, ((Below.refl _ w).alloc (Nat.le_refl _) _).alloc (by simp) _, (Blk.new w 60 _).alloc _, Blk.new' _ _ _ _ (by simp)⟩
  case round =>
    obtain ⟨k, hk, rfl, hb, hB1, hB2⟩ := hrel
    have hB2l := hB2.lt
    have hB1l := hB1.lt
    have hbs := hb.size
    have k0' := (hb.cell (p := ⟨r, 0, none⟩) hrl).trans k0
    have k1' := (hb.cell (p := ⟨r, 1, none⟩) hrl).trans k1
    by_cases hlt : k < L.length
    · obtain ⟨e, s, b, off, rfl, hab, ⟨q0, q1, q2, q3, q4⟩, RM, hs, hs16, hms, htk⟩ := view_at RL hm hok hh hlt
      have q0 := (hb.cell (p := ⟨b, off + k * 5, none⟩) hab).trans q0
      have q1 := (hb.cell (p := ⟨b, off + k * 5 + 1, none⟩) hab).trans q1
      have q2 := (hb.cell (p := ⟨b, off + k * 5 + 2, none⟩) hab).trans q2
      have q3 := (hb.cell (p := ⟨b, off + k * 5 + 3, none⟩) hab).trans q3
      have q4 := (hb.cell (p := ⟨b, off + k * 5 + 4, none⟩) hab).trans q4
      have RM' : RS wr wr.heap.size e.A e.v.ms.length e.v.ms := (Reads.below RM hb).more hbs
      have RV' : RI wr wr.heap.size Av vs.length vs := (Reads.below RV hb).more hbs
      have hrl' : r < wr.heap.size := by omega
      have hab' : b < wr.heap.size := by omega
      have HPV := hide (pids_view e.v e.A e.c vs.length s)
      have HCT : Hid (lastW vs ((hist L).take (k + 1)) = if winsB vs s = true then (e.v.ep, e.v.lead, e.v.inc, e.v.cid) else lastW vs ((hist L).take k)) := by show _ = _; rw [htk, lastW_snoc, winV_some hs]
      have hs := hide hs
      have htk := hide htk
      have m0 : (0 : Int) ≤ (k : Int) := by omega
      have m1 : (k : Int) < (L.length : Int) := by omega
      go_wp2
      go_region_held3 (fun W => W.cell? ⟨r, 0, none⟩ = some (.slice Av vs.length cv) ∧ W.cell? ⟨r, 1, none⟩ = some (.slice (some ⟨b, off, none⟩) L.length cw) ∧ W.cell? ⟨b, off + k * 5, none⟩ = some (.int .i64 e.v.ep) ∧ W.cell? ⟨b, off + k * 5 + 1, none⟩ = some (.int .i64 e.v.lead) ∧ W.cell? ⟨b, off + k * 5 + 2, none⟩ = some (.int .i64 e.v.inc) ∧ W.cell? ⟨b, off + k * 5 + 3, none⟩ = some (.int .i64 e.v.cid) ∧ W.cell? ⟨b, off + k * 5 + 4, none⟩ = some (.slice e.A e.v.ms.length e.c))
        (first | exact ⟨k0', k1', q0, q1, q2, q3, q4⟩ | exact ⟨(hbf.cell (p := ⟨r, 0, none⟩) hrl').trans k0', (hbf.cell (p := ⟨r, 1, none⟩) hrl').trans k1', (hbf.cell (p := ⟨b, off + k * 5, none⟩) hab').trans q0, (hbf.cell (p := ⟨b, off + k * 5 + 1, none⟩) hab').trans q1, (hbf.cell (p := ⟨b, off + k * 5 + 2, none⟩) hab').trans q2, (hbf.cell (p := ⟨b, off + k * 5 + 3, none⟩) hab').trans q3, (hbf.cell (p := ⟨b, off + k * 5 + 4, none⟩) hab').trans q4⟩)
        (first
          | ((go_at_call 74; refine (HPV.out _ (Reads.drew RM') (by omega) h16 hs.out).mono ?_; rintro e w' ⟨rfl, hbf⟩))
          | ((go_at_call 48; refine (wins_any s Av wr.heap.size vs.length cv vs _ (Reads.below (Reads.drew RV') hbf) (by omega) hok).mono ?_; rintro e w' ⟨rfl, rfl⟩)))
      have hb' := hb.trans ((below_drew (Below.refl _ wr)).trans (hbf.mono (by exact hbs)))
      have hB1' := Blk.below (w := wr.drew) hB1 hbf hB1l
      have hB2' := Blk.below (w := wr.drew) hB2 hbf hB2l
      have hbs' := hbf.size
      clear hb hB1 hB2 q0 q1 q2 q3 q4 k0' k1'
      cases hq : winsB vs s
      · have HQ := hide hq
        clear hq
        go_wp2
        go_roundw
        case rel => exact ⟨k + 1, by omega, by go_num, hb', hB1', by rw [HCT.out, HQ.out]; exact hB2'⟩
        case measure => simp [intOf]; omega
      · have HQ := hide hq
        clear hq
        have f0 := hB2'.frozen 0
        have f1 := hB2'.frozen 1
        have f2 := hB2'.frozen 2
        have f3 := hB2'.frozen 3
        have HB2 := hide hB2'
        unfold idC at hB2'
        obtain ⟨z0, z1, z2, z3⟩ := blk4 hB2'
        clear hB2'
        go_wp2
        go_roundw
        case rel =>
          refine ⟨k + 1, by omega, by go_num, ?_, ?_, ?_⟩
          · repeat (first | with_reducible exact hb' | with_reducible refine Below.setCell ?_ (Nat.le_succ _) _)
          · repeat (first | with_reducible exact hB1' | with_reducible refine Blk.far ?_ (by simp) _)
          · rw [HCT.out, HQ.out]
            unfold idC
            exact b4_3 (b4_2 (b4_1 (b4_0 HB2.out)))
        case measure => simp [intOf]; omega
    · obtain rfl : k = L.length := by omega
      have e : (hist L).take L.length = hist L := List.take_of_length_le (by rw [hist_len]; exact Nat.le_refl _)
      rw [e] at hB2
      clear e
      have f0 := hB1.frozen 0
      have f1 := hB1.frozen 1
      have f2 := hB1.frozen 2
      have f3 := hB1.frozen 3
      obtain ⟨y0, y1, y2, y3⟩ := blk4 hB1
      unfold idC at hB2
      obtain ⟨z0, z1, z2, z3⟩ := blk4 hB2
      clear hB1 hB2
      go_wp2
      refine bodyPost_ret (v := .agg #[.int .i64 (lastW vs (hist L)).1, .int .i64 (lastW vs (hist L)).2.1, .int .i64 (lastW vs (hist L)).2.2.1, .int .i64 (lastW vs (hist L)).2.2.2]) (by simp [results, Try.results56, go_sem, y0, y1, y2, y3]) rfl ⟨rfl, ?_⟩
      repeat (first | with_reducible exact hb | exact Nat.le_refl w.heap.size | with_reducible refine Below.setCell ?_ ?_ _)
end Go.Proofs.Yteckffndboiknaa
