/-
  Contracts of the reference's Pids and Valid, of the program's members: a view as a set of nodes.
-/
import Derived.Test.YteckffndboiknaaBest
import Derived.Test.YteckffndboiknaaOnly
import Derived.Test.YteckffndboiknaaPlainW
set_option linter.unusedVariables false
namespace Go.Proofs.Yteckffndboiknaa
open Go.RowKit Go.WideShapes Go.ChangeShapes Q

/-- A view by value, and in a box. -/
def vwV (v : Vw) (A : Option Addr) (n c : Nat) : Value := .agg #[.int .i64 v.ep, .int .i64 v.lead, .int .i64 v.inc, .int .i64 v.cid, .slice A n c]
def vwO (v : Vw) (A : Option Addr) (n c : Nat) : Obj := .cells #[.int .i64 v.ep, .int .i64 v.lead, .int .i64 v.inc, .int .i64 v.cid, .slice A n c] 63

theorem RS.alloc_at {w : World} {B n k : Nat} {A : Option Addr} {l : List (Int × Int × Int)} (h : RS w w.heap.size A n l) (o : Obj) (hk : k < n) :
    ∃ b off, A = some ⟨b, off, none⟩ ∧ b < w.heap.size ∧ (w.alloc o).cell? ⟨b, off + k * 3, none⟩ = some (.int .i64 (pidA l k)) ∧ (w.alloc o).cell? ⟨b, off + k * 3 + 1, none⟩ = some (.int .i64 (epA l k)) ∧ (w.alloc o).cell? ⟨b, off + k * 3 + 2, none⟩ = some (.int .i64 (lenA l k)) := by
  obtain ⟨b, off, hA, hb, c0, c1, c2⟩ := h.at_ hk
  exact ⟨b, off, hA, hb, (World.cell?_alloc_lt w o _ hb).trans c0, (World.cell?_alloc_lt w o _ hb).trans c1, (World.cell?_alloc_lt w o _ hb).trans c2⟩

set_option maxRecDepth 100000 in
set_option maxHeartbeats 400000 in
theorem pids_any (ep lead inc cid : Int) (ms : List (Int × Int × Int)) (A : Option Addr) (n c N s : Nat) (w : World) (h : RS w w.heap.size A n ms) (hn : n ≤ 17592186044416) (hN : N ≤ 16) (hs : pack (pids ms) N = some s) :
    Calls Try.prog 74 #[vwV ⟨ep, lead, inc, cid, ms⟩ A n c] w fun e w' => e = .returned (.int .i64 s) ∧ w.alloc (vwO ⟨ep, lead, inc, cid, ms⟩ A n c) = w' := by
  have hl := hide h.len
  unfold vwV vwO
  simp only
  have HS := hide hs
  clear hs
  go_enter Try.func74, Try.ntmps74
  go_wp2
  go_loop [3, 4] (fun b i => ∃ (k b0 : Nat) (l0 : Int), k ≤ n ∧ i = .int .i64 k ∧ b = .int .i64 b0 ∧ Hid (packTo (pids ms) N k = some (b0, l0))) (fun _ i => n - (intOf i).toNat)
  case atStart => exact ⟨0, 0, -1, Nat.zero_le _, rfl, rfl, rfl⟩
  case round =>
    obtain ⟨k, b0, l0, hk, rfl, rfl, hp⟩ := hrel
    obtain ⟨i1, i2, i3, i4⟩ := packTo_inv hp.out
    have i5 : b0 < 65536 := Nat.lt_of_lt_of_le i3 (two_pow_lt _ (by omega))
    by_cases hlt : k < n
    · obtain ⟨b, off, rfl, hab, q0, q1, q2⟩ := RS.alloc_at (B := 0) h (.cells #[.int .i64 ep, .int .i64 lead, .int .i64 inc, .int .i64 cid, .slice A n c] 63) hlt
      have hst := pack_step HS.out (k := k) (by rw [pids_len]; have := hl.out; omega) hp.out
      have hb := packTo_good hp.out hst.1 hst.2
      rw [pids_at] at hb hst
      obtain ⟨q, hq⟩ : ∃ q : Nat, pidA ms k = (q : Int) := ⟨(pidA ms k).toNat, by omega⟩
      rw [or_is_add _ _ _ i3 (by omega), hq, Int.toNat_natCast] at hb
      rw [hq] at q0 hst
      have hb3 := hide hb
      have p1 := two_pow_le q (by omega)
      obtain ⟨hs1, hs2⟩ := hst
      clear hb hq i3
      go_wp2
      go_round
      case rel => exact ⟨k + 1, b0 + 2 ^ q, q, by omega, by go_num, by simp, hb3⟩
      case measure => simp [intOf]; omega
    · obtain rfl : k = n := by omega
      have hb : Hid (b0 = s) := by
        show _ = _
        have h1 := HS.out
        have h2 : packTo (pids ms) N (pids ms).length = some (b0, l0) := by rw [pids_len, hl.out]; exact hp.out
        rw [pack_full h2] at h1
        injection h1
      go_wp2
      go_ret
      exact ⟨ret_int (by rw [hb.out]), rfl⟩

theorem wholeF_any (x : Int) (w : World) : Calls Try.prog 86 #[.int .i64 x] w fun e w' => e = .returned (.bool (wholeB x)) ∧ w = w' := by
  by_cases h1 : 1 ≤ x
  · by_cases h2 : x ≤ 4611686018427387904
    · have hw : Hid (wholeB x = true) := wholeB_yes ⟨h1, h2⟩
      go_enter Try.func86, Try.ntmps86
      go_wp2
      go_ret
      exact ⟨ret_bool hw.out.symm, rfl⟩
    · have hw : Hid (wholeB x = false) := wholeB_no fun q => h2 q.2
      go_enter Try.func86, Try.ntmps86
      go_wp2
      go_ret
      exact ⟨ret_bool hw.out.symm, rfl⟩
  · have hw : Hid (wholeB x = false) := wholeB_no fun q => h1 q.1
    go_enter Try.func86, Try.ntmps86
    go_wp2
    go_ret
    exact ⟨ret_bool hw.out.symm, rfl⟩

theorem blk5 {w : World} {g : Nat} {t : TypeId} {a0 a1 a2 a3 a4 : Value} (h : Blk w g t #[a0, a1, a2, a3, a4]) : w.cell? ⟨g, 0, none⟩ = some a0 ∧ w.cell? ⟨g, 1, none⟩ = some a1 ∧ w.cell? ⟨g, 2, none⟩ = some a2 ∧ w.cell? ⟨g, 3, none⟩ = some a3 ∧ w.cell? ⟨g, 4, none⟩ = some a4 := by
  refine ⟨?_, ?_, ?_, ?_, ?_⟩ <;> rw [h.cell] <;> rfl
theorem Vw.mk_ms (ep lead inc cid : Int) (ms : List (Int × Int × Int)) : (Vw.mk ep lead inc cid ms).ms = ms := rfl

set_option maxRecDepth 100000 in
set_option maxHeartbeats 2000000 in
theorem valid_any (ep lead inc cid : Int) (ms : List (Int × Int × Int)) (A : Option Addr) (n c N : Nat) (w : World) (h : RS w w.heap.size A n ms) (hn : n ≤ 17592186044416) (hN : N ≤ 16) :
    Calls Try.prog 85 #[vwV ⟨ep, lead, inc, cid, ms⟩ A n c, .int .i64 N] w fun e w' => e = .returned (.bool ((Vw.mk ep lead inc cid ms).set N).isSome) ∧ Below w.heap.size w w' := by
  have hl := hide h.len
  have HBX : Below w.heap.size w (w.alloc (vwO ⟨ep, lead, inc, cid, ms⟩ A n c)) := (Below.refl _ w).alloc (Nat.le_refl _) _
  have HNB : Blk (w.alloc (vwO ⟨ep, lead, inc, cid, ms⟩ A n c)) w.heap.size 63 #[.int .i64 ep, .int .i64 lead, .int .i64 inc, .int .i64 cid, .slice A n c] := Blk.new _ _ _
  unfold vwV
  unfold vwO at HBX HNB
  simp only at HBX HNB ⊢
  by_cases h1 : n < 1
  · have hs : Hid (((Vw.mk ep lead inc cid ms).set N).isSome = false) := by show _ = _; rw [Vw.bad_len (by show ms.length < 1; have := hl.out; omega)]; rfl
    go_enter Try.func85, Try.ntmps85
    go_wp2
    go_ret
    exact ⟨ret_bool hs.out.symm, HBX⟩
  · have d1 : decide ((n : Int) < 1) = false := by rw [decide_eq_false_iff_not]; omega
    go_enter Try.func85, Try.ntmps85
    go_wp2
    go_loopw [5, 6] (fun l i wr => ∃ (k b0 : Nat) (l0 : Int), k ≤ n ∧ i = .int .i64 k ∧ l = .int .i64 l0 ∧ Hid (packTo (pids ms) N k = some (b0, l0)) ∧ Hid (WholeTo ms k) ∧ Below w.heap.size w wr ∧ Blk wr w.heap.size 63 #[.int .i64 ep, .int .i64 lead, .int .i64 inc, .int .i64 cid, .slice A n c]) (fun _ i _ => n - (intOf i).toNat)
    case atStart => exact ⟨0, 0, -1, Nat.zero_le _, rfl, rfl, rfl, WholeTo.zero _, HBX, HNB⟩
    case round =>
      obtain ⟨k, b0, l0, hk, rfl, rfl, hp, hW, hb, hB⟩ := hrel
      obtain ⟨k0, k1, k2, k3, k4⟩ := blk5 hB
      have hws := hB.lt
      by_cases hlt : k < n
      · obtain ⟨b, off, rfl, hab, q0, q1, q2⟩ := RS.at_ h hlt
        have q0 := (hb.cell (p := ⟨b, off + k * 3, none⟩) hab).trans q0
        have q1 := (hb.cell (p := ⟨b, off + k * 3 + 1, none⟩) hab).trans q1
        have q2 := (hb.cell (p := ⟨b, off + k * 3 + 2, none⟩) hab).trans q2
        have hkm : Hid (k < ms.length) := by show _ < _; rw [hl.out]; exact hlt
        obtain ⟨P, hP⟩ : ∃ P, P = pidA ms k := ⟨_, rfl⟩
        obtain ⟨E, hE⟩ : ∃ E, E = epA ms k := ⟨_, rfl⟩
        obtain ⟨L, hL⟩ : ∃ L, L = lenA ms k := ⟨_, rfl⟩
        rw [← hP] at q0
        rw [← hE] at q1
        rw [← hL] at q2
        have HX : Hid (∀ (X : Obj), Below w.heap.size w (wr.alloc X)) := fun X => hb.alloc (by omega) X
        have HXB : Hid (∀ (X : Obj), Blk (wr.alloc X) w.heap.size 63 #[.int .i64 ep, .int .i64 lead, .int .i64 inc, .int .i64 cid, .slice (some ⟨b, off, none⟩) n c]) := fun X => hB.alloc X
        have HB : Hid ((P ≤ l0 ∨ (N : Int) ≤ P) ∨ ¬ (Whole E ∧ Whole L) → ((Vw.mk ep lead inc cid ms).set N).isSome = false) := fun hh => by
          rcases hh with hh | hh
          · rw [Vw.bad_pid (v := Vw.mk ep lead inc cid ms) hkm.out hp.out (by rw [hP] at hh; exact hh)]; rfl
          · rw [Vw.bad_at (v := Vw.mk ep lead inc cid ms) hkm.out (by rw [hE, hL] at hh; exact hh)]; rfl
        have HG : Hid (l0 < P → P < (N : Int) → Whole E → Whole L → packTo (pids ms) N (k + 1) = some (b0 ||| 2 ^ P.toNat, P) ∧ WholeTo ms (k + 1)) := fun g1 g2 g3 g4 => by
          subst hP hE hL
          have := packTo_good hp.out (by rw [pids_at]; exact g1) (by rw [pids_at]; exact g2)
          rw [pids_at] at this
          exact ⟨this, hW.out.succ g3 g4⟩
        clear hP hE hL hB
        by_cases x1 : P ≤ l0
        · have he := hide (HB.out (.inl (.inl x1)))
          go_wp2
          go_ret
          exact ⟨ret_bool he.out.symm, HX.out _⟩
        by_cases x2 : (N : Int) ≤ P
        · have he := hide (HB.out (.inl (.inr x2)))
          go_wp2
          go_ret
          exact ⟨ret_bool he.out.symm, HX.out _⟩
        by_cases x3 : E < 1
        · have he := hide (HB.out (.inr fun q => by have := q.1.1; omega))
          go_wp2
          go_ret
          exact ⟨ret_bool he.out.symm, HX.out _⟩
        by_cases x4 : 4611686018427387904 < E
        · have he := hide (HB.out (.inr fun q => by have := q.1.2; omega))
          go_wp2
          go_ret
          exact ⟨ret_bool he.out.symm, HX.out _⟩
        by_cases x5 : L < 1
        · have he := hide (HB.out (.inr fun q => by have := q.2.1; omega))
          go_wp2
          go_ret
          exact ⟨ret_bool he.out.symm, HX.out _⟩
        by_cases x6 : 4611686018427387904 < L
        · have he := hide (HB.out (.inr fun q => by have := q.2.2; omega))
          go_wp2
          go_ret
          exact ⟨ret_bool he.out.symm, HX.out _⟩
        have hg := HG.out (by omega) (by omega) ⟨by omega, by omega⟩ ⟨by omega, by omega⟩
        have hg1 := hide hg.1
        have hg2 := hide hg.2
        clear hg HB HG hb
        go_wp2
        go_roundw
        case rel => exact ⟨k + 1, _, P, by omega, by go_num, rfl, hg1, hg2, HX.out _, HXB.out _⟩
        case measure => simp [intOf]; omega
      · obtain rfl : k = n := by omega
        obtain ⟨b, off, rfl, hab, q0, q1, q2⟩ := RS.at_ h (k := 0) (by omega)
        simp only [Nat.zero_mul, Nat.add_zero] at q0 q1 q2
        have q0 := (hb.cell (p := ⟨b, off, none⟩) hab).trans q0
        have q1 := (hb.cell (p := ⟨b, off + 1, none⟩) hab).trans q1
        have q2 := (hb.cell (p := ⟨b, off + 2, none⟩) hab).trans q2
        have hp2 : pack (pids ms) N = some b0 := pack_full (x := l0) (by rw [pids_len, hl.out]; exact hp.out)
        have hW2 : WholeTo ms ms.length := by rw [hl.out]; exact hW.out
        have hk1 : 1 ≤ ms.length := by rw [hl.out]; omega
        obtain ⟨P, hP⟩ : ∃ P, P = pidA ms 0 := ⟨_, rfl⟩
        obtain ⟨E, hE⟩ : ∃ E, E = epA ms 0 := ⟨_, rfl⟩
        obtain ⟨L, hL⟩ : ∃ L, L = lenA ms 0 := ⟨_, rfl⟩
        rw [← hP] at q0
        rw [← hE] at q1
        rw [← hL] at q2
        have HX : Hid (∀ (X : Obj), Below w.heap.size w (wr.alloc X)) := fun X => hb.alloc (by omega) X
        have HB : Hid (¬ (1 ≤ ep ∧ ep ≤ 4611686018427387904) ∨ ¬ (lead = P ∧ inc = E ∧ cid = L) → ((Vw.mk ep lead inc cid ms).set N).isSome = false) := fun hh => by
          subst hP hE hL
          rcases hh with hh | hh
          · rw [Vw.bad_ep (v := Vw.mk ep lead inc cid ms) hh]; rfl
          · rw [Vw.bad_id (v := Vw.mk ep lead inc cid ms) hh]; rfl
        have HG : Hid ((1 ≤ ep ∧ ep ≤ 4611686018427387904) → (lead = P ∧ inc = E ∧ cid = L) → ((Vw.mk ep lead inc cid ms).set N).isSome = true) := fun g1 g2 => by
          subst hP hE hL
          rw [Vw.set_sound (v := Vw.mk ep lead inc cid ms) ⟨hk1, g1, hW2, g2⟩, hp2]; rfl
        clear hP hE hL hp2 hW2 hk1 hB hb
        by_cases x1 : ep < 1
        · have he := hide (HB.out (.inl (by omega)))
          go_wp2
          go_ret
          exact ⟨ret_bool he.out.symm, HX.out _⟩
        by_cases x2 : 4611686018427387904 < ep
        · have he := hide (HB.out (.inl (by omega)))
          go_wp2
          go_ret
          exact ⟨ret_bool he.out.symm, HX.out _⟩
        by_cases x3 : lead = P
        · have d3 : (lead == P) = true := by simp [x3]
          by_cases x4 : inc = E
          · have d4 : (inc == E) = true := by simp [x4]
            by_cases x5 : cid = L
            · have d5 : (cid == L) = true := by simp [x5]
              have he := hide (HG.out (by omega) ⟨x3, x4, x5⟩)
              clear x3 x4 x5
              go_wp2
              go_ret
              exact ⟨ret_bool he.out.symm, HX.out _⟩
            · have d5 : (cid == L) = false := by simp [x5]
              have he := hide (HB.out (.inr fun q => x5 q.2.2))
              clear x3 x4 x5
              go_wp2
              go_ret
              exact ⟨ret_bool he.out.symm, HX.out _⟩
          · have d4 : (inc == E) = false := by simp [x4]
            have he := hide (HB.out (.inr fun q => x4 q.2.1))
            clear x3 x4
            go_wp2
            go_ret
            exact ⟨ret_bool he.out.symm, HX.out _⟩
        · have d3 : (lead == P) = false := by simp [x3]
          have he := hide (HB.out (.inr fun q => x3 q.1))
          clear x3
          go_wp2
          go_ret
          exact ⟨ret_bool he.out.symm, HX.out _⟩
end Go.Proofs.Yteckffndboiknaa
