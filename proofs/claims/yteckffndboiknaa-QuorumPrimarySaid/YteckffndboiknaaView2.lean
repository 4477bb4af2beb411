/-
  Contract of the program's members: a view as a set of nodes.
-/
import Derived.Test.YteckffndboiknaaView
set_option linter.unusedVariables false
namespace Go.Proofs.Yteckffndboiknaa
open Go.RowKit Go.WideShapes Go.ChangeShapes Q

/-- What members answers. -/
def MemP (v : Vw) (N : Nat) (w : World) (e : Ending) (w' : World) : Prop :=
  ∃ s : Nat, e = .returned (.tuple #[.int .u64 s, .bool (v.set N).isSome]) ∧ (∀ b, v.set N = some b → s = b) ∧ Below w.heap.size w w'
theorem memP_none {v : Vw} {N : Nat} {w w' : World} {s : Nat} (h : v.set N = none) (hb : Below w.heap.size w w') : MemP v N w (.returned (.tuple #[.int .u64 s, .bool false])) w' :=
  ⟨s, by rw [h]; rfl, (fun b hq => by rw [h] at hq; cases hq), hb⟩
theorem memP_some {v : Vw} {N : Nat} {w w' : World} {s : Nat} (h : v.set N = some s) (hb : Below w.heap.size w w') : MemP v N w (.returned (.tuple #[.int .u64 s, .bool true])) w' :=
  ⟨s, by rw [h]; rfl, (fun b hq => by rw [h] at hq; injection hq), hb⟩
theorem pids_full {ms : List (Int × Int × Int)} {n : Nat} (h : ms.length = n) : pids (ms.take n) = pids ms := by rw [List.take_of_length_le (by omega)]

set_option maxRecDepth 100000 in
set_option maxHeartbeats 4000000 in
theorem members_any (ep lead inc cid : Int) (ms : List (Int × Int × Int)) (A : Option Addr) (n c N : Nat) (w : World) (h : RS w w.heap.size A n ms) (hn : n * 24 ≤ 140737488351232) (hN : N ≤ 16) :
    Calls Try.prog 75 #[vwV ⟨ep, lead, inc, cid, ms⟩ A n c, .int .i64 N] w (MemP ⟨ep, lead, inc, cid, ms⟩ N w) := by
  obtain ⟨i0, hi, hz0, hz1, hz2⟩ := info_parts info3
  have hl := hide h.len
  have HBX : Below w.heap.size w (w.alloc (vwO ⟨ep, lead, inc, cid, ms⟩ A n c)) := (Below.refl _ w).alloc (Nat.le_refl _) _
  have HNB : Blk (w.alloc (vwO ⟨ep, lead, inc, cid, ms⟩ A n c)) w.heap.size 63 #[.int .i64 ep, .int .i64 lead, .int .i64 inc, .int .i64 cid, .slice A n c] := Blk.new _ _ _
  unfold vwV
  unfold vwO at HBX HNB
  simp only at HBX HNB ⊢
  by_cases h1 : n < 1
  · have hs := hide (Vw.bad_len (v := Vw.mk ep lead inc cid ms) (n := N) (by show ms.length < 1; have := hl.out; omega))
    go_enter Try.func75, Try.ntmps75
    go_wp2
    go_ret2
    exact memP_none (s := 0) hs.out HBX
  have d1 : decide ((n : Int) < 1) = false := by rw [decide_eq_false_iff_not]; omega
  by_cases h2 : Whole ep
  · have d2 := wholeB_yes h2
    have h2' := hide h2
    clear h2
    go_enter Try.func75, Try.ntmps75
    go_wp2_with (go_at_call 86; refine (wholeF_any _ _).mono ?_; rintro e w' ⟨rfl, rfl⟩; rw [d2])
    go_loopw [7, 28] (fun v i wr => ∃ (k : Nat) (A1 : Option Addr) (c1 : Nat), k ≤ n ∧ i = .int .i64 k ∧ v = .slice A1 k c1 ∧ Hid (wr.ownsRow w.heap.size 3 1 (.slice A1 k c1) k (ints (pids (ms.take k)))) ∧ Hid (WholeTo ms k) ∧ Below w.heap.size w wr ∧ Blk wr w.heap.size 63 #[.int .i64 ep, .int .i64 lead, .int .i64 inc, .int .i64 cid, .slice A n c]) (fun _ i _ => n - (intOf i).toNat)
    case atStart => exact ⟨0, none, 0, Nat.zero_le _, rfl, rfl, World.ownsRow_nil _ _ _ _, WholeTo.zero _, HBX, HNB⟩
    case round =>
      obtain ⟨k, A1, c1, hk, rfl, rfl, hown, hW, hb, hB⟩ := hrel
      have hbs := hb.size
      by_cases hlt : k < n
      · obtain ⟨b, off, rfl, hab, q0, q1, q2⟩ := RS.at_ h hlt
        have q0 := (hb.cell (p := ⟨b, off + k * 3, none⟩) hab).trans q0
        have q1 := (hb.cell (p := ⟨b, off + k * 3 + 1, none⟩) hab).trans q1
        have q2 := (hb.cell (p := ⟨b, off + k * 3 + 2, none⟩) hab).trans q2
        have hkm : Hid (k < ms.length) := by show _ < _; rw [hl.out]; exact hlt
        have HSN := hide (pids_snoc ms k hkm.out)
        obtain ⟨P, hP⟩ : ∃ P, P = pidA ms k := ⟨_, rfl⟩
        obtain ⟨E, hE⟩ : ∃ E, E = epA ms k := ⟨_, rfl⟩
        obtain ⟨L, hL⟩ : ∃ L, L = lenA ms k := ⟨_, rfl⟩
        rw [← hP] at q0 HSN
        rw [← hE] at q1
        rw [← hL] at q2
        have HB : Hid (¬ (Whole E ∧ Whole L) → (Vw.mk ep lead inc cid ms).set N = none) := fun hh => by
          rw [hE, hL] at hh
          exact Vw.bad_at (v := Vw.mk ep lead inc cid ms) hkm.out hh
        have HG : Hid (Whole E → Whole L → WholeTo ms (k + 1)) := fun g3 g4 => by
          subst hE hL
          exact hW.out.succ g3 g4
        clear hP hE hL
        have H5 : Below w.heap.size w (wr.alloc (.cells #[.int .i64 P, .int .i64 E, .int .i64 L] 103)) := hb.alloc hbs _
        have B5 : Blk (wr.alloc (.cells #[.int .i64 P, .int .i64 E, .int .i64 L] 103)) w.heap.size 63 #[.int .i64 ep, .int .i64 lead, .int .i64 inc, .int .i64 cid, .slice (some ⟨b, off, none⟩) n c] := hB.alloc _
        have N5 : Blk (wr.alloc (.cells #[.int .i64 P, .int .i64 E, .int .i64 L] 103)) wr.heap.size 103 #[.int .i64 P, .int .i64 E, .int .i64 L] := Blk.new _ _ _
        have O5 : Hid ((wr.alloc (.cells #[.int .i64 P, .int .i64 E, .int .i64 L] 103)).ownsRow w.heap.size 3 1 (.slice A1 k c1) k (ints (pids (ms.take k)))) := hown.out.alloc _
        clear hown hB hW
        by_cases w1 : Whole E
        · have e1 := wholeB_yes w1
          by_cases w2 : Whole L
          · have e2 := wholeB_yes w2
            have hg := hide (HG.out w1 w2)
            clear w1 w2 HG HB
            go_wp2_with fail
            obtain ⟨w5, hw5⟩ : ∃ w5, w5 = wr.alloc (.cells #[.int .i64 P, .int .i64 E, .int .i64 L] 103) := ⟨_, rfl⟩
            rw [← hw5] at H5 B5 N5 O5 ⊢
            clear hw5 hb hbs q0 q1 q2
            obtain ⟨n0, n1, n2⟩ := blk3 N5
            have hs5 := H5.size
            go_wp2_with (first
              | (go_at_call 86; refine (wholeF_any _ _).mono ?_; rintro e w' ⟨rfl, rfl⟩; first | rw [e1] | rw [e2])
              | (at_builtin; refine wpList_push rfl _ _ _ rfl w.heap.size 3 i0 _ 1 8 Try.underlying32 hi hz0 hz1 hz2 rfl (by omega) _ k _ rfl O5.out 1 1 #[.int .i64 P] rfl rfl (by simp [Value.oneCell']) (by omega) (by unfold maxLen; omega) (by omega) hs5 ?_; intro g' cap' w6 hown6 hgr6 hb6 _ _ _))
            have hown7 : Hid (w6.ownsRow w.heap.size 3 1 (.slice (some ⟨g', 0, none⟩) (k + 1) cap') (k + 1) (ints (pids (ms.take (k + 1))))) := by
              rw [HSN.out, ints_append]
              exact hown6
            have B7 : Blk w6 w.heap.size 63 #[.int .i64 ep, .int .i64 lead, .int .i64 inc, .int .i64 cid, .slice (some ⟨b, off, none⟩) n c] := (B5.alloc _).grown hgr6 (own_blk_ne O5.out B5 (by decide)).symm
            have H7 := H5.trans hb6
            clear hown6 hgr6 hb6 H5 B5 O5 N5
            go_wp2
            go_roundw
            case rel => exact ⟨k + 1, _, cap', by omega, by go_num, rfl, hown7, hg, H7, B7⟩
            case measure => simp [intOf]; omega
          · have e2 := wholeB_no w2
            have he := hide (HB.out fun q => w2 q.2)
            clear w1 w2 HG HB
            go_wp2_with (go_at_call 86; refine (wholeF_any _ _).mono ?_; rintro e w' ⟨rfl, rfl⟩; first | rw [e1] | rw [e2])
            go_ret2
            exact memP_none (s := 0) he.out H5
        · have e1 := wholeB_no w1
          have he := hide (HB.out fun q => w1 q.1)
          clear w1 HG HB
          go_wp2_with (go_at_call 86; refine (wholeF_any _ _).mono ?_; rintro e w' ⟨rfl, rfl⟩; rw [e1])
          go_ret2
          exact memP_none (s := 0) he.out H5
      · obtain rfl : k = n := by omega
        obtain ⟨b, off, rfl, hab, q0, q1, q2⟩ := RS.at_ h (k := 0) (by omega)
        simp only [Nat.zero_mul, Nat.add_zero] at q0 q1 q2
        have R1 : RI wr wr.heap.size A1 k (pids ms) := by
          have := Reads.of_own hown.out
          rw [pids_full hl.out] at this
          exact this
        go_wp2_with fail
        refine (pack_any A1 wr.heap.size k c1 N (pids ms) wr R1 (by omega) hN).mono ?_
        rintro e w' ⟨rfl, rfl⟩
        have q0 := (hb.cell (p := ⟨b, off, none⟩) hab).trans q0
        have q1 := (hb.cell (p := ⟨b, off + 1, none⟩) hab).trans q1
        have q2 := (hb.cell (p := ⟨b, off + 2, none⟩) hab).trans q2
        have HX : Hid (∀ (X : Obj) (m : Nat), Below w.heap.size w ((wr.alloc X).drewN m)) := fun X m => below_drewN (hb.alloc (by omega) X) m
        have hb' := hb
        have hB' := hB
        have hlb : b < wr.heap.size := by have := hb.size; omega
        obtain ⟨k0, k1, k2, k3, k4⟩ := blk5 hB
        have hl1 : Hid (1 ≤ ms.length) := by show _ ≤ _; rw [hl.out]; omega
        have hWW : Hid (WholeTo ms ms.length) := by show WholeTo _ _; rw [hl.out]; exact hW.out
        cases hp : pack (pids ms) N with
        | none =>
          have hs := hide (Vw.set_none (v := Vw.mk ep lead inc cid ms) hp)
          simp only [Option.isSome_none, Option.getD_none]
          clear hp hb hB R1
          go_wp2
          go_quiet (fail)
          go_wp2
          go_ret2
          exact memP_none (s := 0) hs.out (HX.out _ _)
        | some s =>
          simp only [Option.isSome_some, Option.getD_some]
          obtain ⟨P, hP⟩ : ∃ P, P = pidA ms 0 := ⟨_, rfl⟩
          obtain ⟨E, hE⟩ : ∃ E, E = epA ms 0 := ⟨_, rfl⟩
          obtain ⟨L, hL⟩ : ∃ L, L = lenA ms 0 := ⟨_, rfl⟩
          rw [← hP] at q0
          rw [← hE] at q1
          rw [← hL] at q2
          have HB : Hid (¬ (lead = P ∧ inc = E ∧ cid = L) → (Vw.mk ep lead inc cid ms).set N = none) := fun hh => by
            subst hP hE hL
            exact Vw.bad_id (v := Vw.mk ep lead inc cid ms) hh
          have HG : Hid ((lead = P ∧ inc = E ∧ cid = L) → (Vw.mk ep lead inc cid ms).set N = some s) := fun g2 => by
            subst hP hE hL
            rw [Vw.set_sound (v := Vw.mk ep lead inc cid ms) ⟨hl1.out, h2'.out, hWW.out, g2⟩]; exact hp
          clear hP hE hL hp hb hB R1
          have H5 : Below w.heap.size w (wr.alloc (.cells #[.int .i64 lead, .int .i64 inc, .int .i64 cid] 103)) := hb'.alloc hb'.size _
          have B5 : Blk (wr.alloc (.cells #[.int .i64 lead, .int .i64 inc, .int .i64 cid] 103)) w.heap.size 63 #[.int .i64 ep, .int .i64 lead, .int .i64 inc, .int .i64 cid, .slice (some ⟨b, off, none⟩) k c] := hB'.alloc _
          have N5 : Blk (wr.alloc (.cells #[.int .i64 lead, .int .i64 inc, .int .i64 cid] 103)) wr.heap.size 103 #[.int .i64 lead, .int .i64 inc, .int .i64 cid] := Blk.new _ _ _
          have Q5 : ∀ X, (wr.alloc X).cell? ⟨b, off, none⟩ = some (.int .i64 P) ∧ (wr.alloc X).cell? ⟨b, off + 1, none⟩ = some (.int .i64 E) ∧ (wr.alloc X).cell? ⟨b, off + 2, none⟩ = some (.int .i64 L) := fun X =>
            ⟨(World.cell?_alloc_lt wr X _ hlb).trans q0, (World.cell?_alloc_lt wr X _ hlb).trans q1, (World.cell?_alloc_lt wr X _ hlb).trans q2⟩
          have Q5 := Q5 (.cells #[.int .i64 lead, .int .i64 inc, .int .i64 cid] 103)
          go_wp2
          obtain ⟨w5, hw5⟩ : ∃ w5, w5 = wr.alloc (.cells #[.int .i64 lead, .int .i64 inc, .int .i64 cid] 103) := ⟨_, rfl⟩
          rw [← hw5] at H5 B5 N5 Q5 ⊢
          clear hw5 q0 q1 q2 k0 k1 k2 k3 k4
          obtain ⟨n0, n1, n2⟩ := blk3 N5
          obtain ⟨q0, q1, q2⟩ := Q5
          obtain ⟨k0, k1, k2, k3, k4⟩ := blk5 B5
          have i0 : (0 : Int) < k := by omega
          by_cases x3 : lead = P
          · by_cases x4 : inc = E
            · by_cases x5 : cid = L
              · have he := hide (HG.out ⟨x3, x4, x5⟩)
                subst x3 x4 x5
                go_quiet (fail)
                go_wp2
                go_ret2
                exact memP_some he.out (below_drewN H5 _)
              · have d3 : (L == cid) = false := by simp [Ne.symm x5]
                have he := hide (HB.out fun q => x5 q.2.2)
                subst x3 x4
                clear x5
                go_quiet (fail)
                go_wp2
                go_ret2
                exact memP_none (s := s) he.out (below_drewN H5 _)
            · have d3 : (E == inc) = false := by simp [Ne.symm x4]
              have he := hide (HB.out fun q => x4 q.2.1)
              subst x3
              clear x4
              go_quiet (fail)
              go_wp2
              go_ret2
              exact memP_none (s := s) he.out (below_drewN H5 _)
          · have d3 : (P == lead) = false := by simp [Ne.symm x3]
            have he := hide (HB.out fun q => x3 q.1)
            clear x3
            go_quiet (fail)
            go_wp2
            go_ret2
            exact memP_none (s := s) he.out (below_drewN H5 _)
  · have d2 := wholeB_no h2
    have hs := hide (Vw.bad_ep (v := Vw.mk ep lead inc cid ms) (n := N) h2)
    clear h2
    go_enter Try.func75, Try.ntmps75
    go_wp2_with (go_at_call 86; refine (wholeF_any _ _).mono ?_; rintro e w' ⟨rfl, rfl⟩; rw [d2])
    go_ret2
    exact memP_none (s := 0) hs.out HBX
end Go.Proofs.Yteckffndboiknaa
