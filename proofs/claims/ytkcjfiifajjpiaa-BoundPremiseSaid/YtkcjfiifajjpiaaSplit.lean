/-
  Contract of net.split.
-/
import Derived.Test.YtkcjfiifajjpiaaWire
import Derived.StillTailTactics
set_option linter.unusedVariables false
set_option linter.unusedSimpArgs false
namespace Go.Proofs.Ytkcjfiifajjpiaa
open Go.RowKit Go.WideShapes Go.ChangeShapes Q

def badSide (v : Int) : Bool := decide (v < 0) || decide (16 ≤ v)
set_option maxRecDepth 100000 in
theorem bad_any (v : Int) (w : World) : Calls Try.prog 47 #[.int .i64 v] w fun e w' => e = .returned (.bool (badSide v)) ∧ w = w' := by
  by_cases h : v < 0
  · have d1 : decide (v < 0) = true := decide_eq_true h
    go_enter Try.func47, Try.ntmps47
    go_wp2
    go_ret
    exact ⟨ret_bool (by simp [badSide, d1]), rfl⟩
  · have d1 : decide (v < 0) = false := decide_eq_false h
    go_enter Try.func47, Try.ntmps47
    go_wp2
    go_ret
    exact ⟨ret_bool (by simp [badSide, d1]), rfl⟩

/-- The first bad one. -/
def fstBad (zs : List Int) : Int := match zs.findIdx? badSide with | some k => k | none => -1
theorem fst_some {zs : List Int} {k : Nat} (hk : k < zs.length) (hb : badSide (nth zs k) = true) (ht : ∀ i, i < k → badSide (nth zs i) = false) : zs.findIdx? badSide = some k := by
  rw [List.findIdx?_eq_some_iff_getElem]
  have e : ∀ i (h : i < zs.length), nth zs i = zs[i] := fun i h => by simp [nth, List.getD, h]
  refine ⟨hk, by rw [← e k hk]; exact hb, fun i hi => ?_⟩
  rw [← e i (by omega), ht i hi]
  simp
theorem fst_none {zs : List Int} (ht : ∀ i, i < zs.length → badSide (nth zs i) = false) : zs.findIdx? badSide = none := by
  rw [List.findIdx?_eq_none_iff]
  intro x hx
  obtain ⟨i, hi, rfl⟩ := List.mem_iff_getElem.1 hx
  have := ht i hi
  simpa [nth, List.getD, hi] using this
theorem fst_ge (zs : List Int) : decide (0 ≤ fstBad zs) = zs.any badSide := by
  unfold fstBad
  cases h : zs.findIdx? badSide with
  | none =>
    rw [List.findIdx?_eq_none_iff] at h
    have : zs.any badSide = false := by rw [List.any_eq_false]; intro x hx; simp [h x hx]
    rw [this]; rfl
  | some k =>
    rw [List.findIdx?_eq_some_iff_getElem] at h
    obtain ⟨hk, hb, _⟩ := h
    have : zs.any badSide = true := List.any_eq_true.2 ⟨_, List.getElem_mem hk, hb⟩
    rw [this]
    simp

set_option maxRecDepth 100000 in
theorem index_any (n c : Nat) (A : Option Addr) (zs : List Int) (w : World) (hr : RI w w.heap.size A n zs) (hn : n ≤ 140737488351232) :
    Calls Try.prog 48 #[.slice A n c, .func (Fn.func 47) #[] #[]] w fun e w' => e = .returned (.int .i64 (fstBad zs)) ∧ w = w' := by
  have HL := hide hr.len
  go_enter Try.func48, Try.ntmps48
  go_wp2_with fail
  go_loopw [8] (fun i wr => ∃ k : Nat, k ≤ n ∧ i = .int .i64 k ∧ Hid (∀ i, i < k → badSide (nth zs i) = false) ∧ wr = w) (fun i _ => n - (intOf i).toNat)
  case atStart => exact ⟨0, Nat.zero_le _, rfl, fun i hi => absurd hi (by omega), rfl⟩
  case round =>
    obtain ⟨k, hk, rfl, ht, rfl⟩ := hrel
    by_cases hlt : k < n
    · obtain ⟨ad, rfl, _, hc⟩ := hr.at_ hlt
      have i0 : (0 : Int) ≤ (k : Int) := by omega
      have i1 : (k : Int) < (n : Int) := by omega
      have HB := hide (bad_any (nth zs k) wr)
      cases hb : badSide (nth zs k) with
      | true =>
        have HE : Hid (fstBad zs = (k : Int)) := by
          unfold fstBad
          rw [fst_some (by have := HL.out; omega) hb ht.out]
          rfl
        rw [hb] at HB
        generalize nth zs k = v at *
        clear hb
        go_wp2_with (go_at_call 47; refine HB.out.mono ?_; rintro e w' ⟨rfl, rfl⟩)
        go_ret
        exact ⟨ret_int HE.out.symm, rfl⟩
      | false =>
        have ht' : Hid (∀ i, i < k + 1 → badSide (nth zs i) = false) := fun i hi => by
          by_cases e : i = k
          · subst e; exact hb
          · exact ht.out i (by omega)
        rw [hb] at HB
        generalize nth zs k = v at *
        clear hb
        go_wp2_with (go_at_call 47; refine HB.out.mono ?_; rintro e w' ⟨rfl, rfl⟩)
        go_roundw
        case rel => exact ⟨k + 1, by omega, by go_num, ht', trivial⟩
        case measure => simp [intOf]; omega
    · obtain rfl : k = n := by omega
      have HE : Hid (fstBad zs = -1) := by
        unfold fstBad
        rw [fst_none (by rw [HL.out]; exact ht.out)]
        exact rfl
      go_wp2_with fail
      go_ret
      exact ⟨ret_int HE.out.symm, rfl⟩
set_option maxRecDepth 100000 in
theorem contains_any (n c : Nat) (A : Option Addr) (zs : List Int) (w : World) (hr : RI w w.heap.size A n zs) (hn : n ≤ 140737488351232) :
    Calls Try.prog 46 #[.slice A n c, .func (Fn.func 47) #[] #[]] w fun e w' => e = .returned (.bool (zs.any badSide)) ∧ w = w' := by
  have HI := hide (index_any n c A zs w hr hn)
  have HF := hide (fst_ge zs)
  clear hr
  generalize fstBad zs = v at *
  go_enter Try.func46, Try.ntmps46
  go_wp2_with (go_at_call 48; refine HI.out.mono ?_; rintro e w' ⟨rfl, rfl⟩)
  go_ret
  exact ⟨ret_bool HF.out, rfl⟩

/-- Rows below k, and of row k those below j. -/
def cutK (zs : List Int) (n k j : Nat) (c : Nat → Nat → Bool) : Nat → Nat → Bool := fun p q => if (p < k ∧ q < n) ∨ (p = k ∧ q < j) then (nth zs p != nth zs q) else c p q
theorem cutK_step (zs : List Int) (n k j : Nat) (c : Nat → Nat → Bool) (hj : j < n) : up2 (cutK zs n k j c) k j (nth zs k != nth zs j) = cutK zs n k (j + 1) c := by
  funext p q
  unfold up2 cutK
  by_cases e : p = k ∧ q = j
  · obtain ⟨rfl, rfl⟩ := e
    rw [if_pos ⟨rfl, rfl⟩, if_pos (.inr ⟨rfl, by omega⟩)]
  · rw [if_neg e]
    by_cases e2 : (p < k ∧ q < n) ∨ (p = k ∧ q < j)
    · rw [if_pos e2, if_pos (by omega)]
    · rw [if_neg e2, if_neg (by omega)]
theorem cutK_row (zs : List Int) (n k : Nat) (c : Nat → Nat → Bool) : cutK zs n k n c = cutK zs n (k + 1) 0 c := by
  funext p q
  unfold cutK
  by_cases e2 : (p < k ∧ q < n) ∨ (p = k ∧ q < n)
  · rw [if_pos e2, if_pos (by omega)]
  · rw [if_neg e2, if_neg (by omega)]
theorem cutK_zero (zs : List Int) (n : Nat) (c : Nat → Nat → Bool) : cutK zs n 0 0 c = c := by
  funext p q
  unfold cutK
  rw [if_neg (by omega)]
def splitN (n : Nat) (x : Net) (zs : List Int) : Net := if zs.length = n ∧ zs.any badSide = false then { x with cut := cutK zs n n 0 x.cut } else x

theorem RI.st {S : Nat → Prop} {w w' : World} {B n : Nat} {A : Option Addr} {vs : List Int} (h : RI w B A n vs) (hs : St S w w') (hB : ∀ q, S q → B ≤ q) : RI w' B A n vs :=
  Reads.st h hs fun k hk hS => by have := hB k hS; omega
theorem RI.more {w : World} {B B' n : Nat} {A : Option Addr} {vs : List Int} (h : RI w B A n vs) (hB : B ≤ B') : RI w B' A n vs := Reads.more h hB
theorem cell_set {w : World} {b i g j : Nat} {v u : Value} (hne : b ≠ g) (h : w.cell? ⟨b, i, none⟩ = some v) : (w.setCell ⟨g, j, none⟩ u).cell? ⟨b, i, none⟩ = some v := by
  have e := Below.heap_setCell w ⟨g, j, none⟩ u b hne
  exact (World.cell?_of_block e).trans h

set_option maxRecDepth 100000 in
set_option maxHeartbeats 1000000 in
theorem split_any (n c B : Nat) (L : Lay) (x : Net) (S : Nat → Prop) (A : Option Addr) (m : Nat) (zs : List Int) (w : World) (h : NetAt w S n L x) (hr : RI w B A m zs) (hBw : B ≤ w.heap.size) (hB : ∀ q, S q → B ≤ q) (hn : n ≤ 16) (hm : m ≤ 140737488351232) :
    Calls Try.prog 41 #[.pointer (some ⟨L.nb, 0, none⟩), .slice A m c] w fun e w' => e = .returned (.tuple #[]) ∧ NetAt w' S n L (splitN n x zs) ∧ St S w w' := by
  have HL := hide hr.len
  have y0 := h.c0
  by_cases hz : m = n
  · subst hz
    have d1 : ((m : Int) != (m : Int)) = false := by simp
    have HC := hide (contains_any m c A zs w (hr.more hBw) hm)
    cases hb : zs.any badSide with
    | true =>
      have HE : Hid (splitN m x zs = x) := by
        unfold splitN
        rw [if_neg (by rw [hb]; simp)]
        exact rfl
      rw [hb] at HC
      have HN := hide h
      clear hb h hr
      go_enter Try.func41, Try.ntmps41
      go_wp2_with (go_at_call 46; refine HC.out.mono ?_; rintro e w' ⟨rfl, rfl⟩)
      first | refine bodyPost_end (results_none rfl _ _ _) rfl ?_ | refine bodyPost_ret (results_none rfl _ _ _) rfl ?_
      exact ⟨rfl, by rw [HE.out]; exact HN.out, St.refl _ _⟩
    | false =>
      have HE : Hid (splitN m x zs = { x with cut := cutK zs m m 0 x.cut }) := by
        unfold splitN
        rw [if_pos ⟨HL.out, hb⟩]
        exact rfl
      rw [hb] at HC
      have y2 := h.c2
      have HN : Hid (NetAt w S m L { x with cut := cutK zs m 0 0 x.cut }) := by
        rw [cutK_zero]
        exact h
      have HR := hide hr
      have HS0 : Hid (St S w w) := St.refl _ _
      have HBB := hide hB
      clear hb h hr hB
      go_enter Try.func41, Try.ntmps41
      go_wp2_with (go_at_call 46; refine HC.out.mono ?_; rintro e w' ⟨rfl, rfl⟩)
      clear y0 y2
      go_loopw [23] (fun i wr => ∃ k : Nat, k ≤ m ∧ i = .int .i64 k ∧ Hid (NetAt wr S m L { x with cut := cutK zs m k 0 x.cut }) ∧ Hid (St S w wr)) (fun i _ => m - (intOf i).toNat)
      case atStart => exact ⟨0, Nat.zero_le _, rfl, HN, HS0⟩
      case round =>
        obtain ⟨k, hk, rfl, hn1, hs⟩ := hrel
        clear HN HS0
        by_cases hlt : k < m
        · have i0 : (0 : Int) ≤ (k : Int) := by omega
          have i1 : (k : Int) < (m : Int) := by omega
          have y2 := hn1.out.c2
          have y3 := hn1.out.cp hlt
          go_wp2_with fail
          clear y2 y3
          go_loopw [34] (fun i wr => ∃ j : Nat, j ≤ m ∧ i = .int .i64 j ∧ Hid (NetAt wr S m L { x with cut := cutK zs m k j x.cut }) ∧ Hid (St S w wr)) (fun i _ => m - (intOf i).toNat)
          case atStart => exact ⟨0, Nat.zero_le _, rfl, hn1, hs⟩
          case round =>
            obtain ⟨j, hj, rfl, hn2, hs2⟩ := hrel
            clear hn1 hs
            by_cases hjl : j < m
            · have j0 : (0 : Int) ≤ (j : Int) := by omega
              have j1 : (j : Int) < (m : Int) := by omega
              have y2 := hn2.out.c2
              have y3 := hn2.out.cp hlt
              have y4 := hn2.out.cc hlt hjl
              have f4 := (hn2.out.wire k hlt).frozen (j * 2)
              have hq := HR.out.st hs2.out HBB.out
              obtain ⟨ad, rfl, _, z1⟩ := hq.at_ hlt
              obtain ⟨ad', e', _, z2⟩ := hq.at_ hjl
              injection e' with e'
              subst e'
              clear hq
              go_wp2_with fail
              go_still_tail 19, (by kernel_rfl)
              change wpList _ _ _ _ _ wr.drew
              go_wp2_with fail
              generalize hgw : World.setCell _ _ _ = w3
              have HN3 : Hid (NetAt w3.drew S m L { x with cut := cutK zs m k (j + 1) x.cut }) := by
                rw [← hgw, ← cutK_step _ _ _ _ _ hjl]
                exact (hn2.out.setCut hlt j _).quiet (St.refl _ _).drew
              have HS3 : Hid (St S w w3.drew) := by
                rw [← hgw]
                exact (hs2.out.setCell (hn2.out.wire k hlt) (by unfold Num35; decide) (fun _ => hn2.out.sr k hlt) _).drew
              first | exact ⟨⟨j + 1, by omega, by go_num, HN3, HS3⟩, by simp [intOf]; omega⟩ | (go_roundw; case rel => exact ⟨j + 1, by omega, by go_num, HN3, HS3⟩; case measure => simp [intOf]; omega)
            · obtain rfl : j = m := by omega
              have HN3 : Hid (NetAt wr S j L { x with cut := cutK zs j (k + 1) 0 x.cut }) := by rw [← cutK_row]; exact hn2.out
              go_wp2_with fail
              go_roundw
              case rel => exact ⟨k + 1, by omega, by go_num, HN3, hs2⟩
              case measure => simp [intOf]; omega
        · obtain rfl : k = m := by omega
          go_wp2_with fail
          first | refine bodyPost_end (results_none rfl _ _ _) rfl ?_ | refine bodyPost_ret (results_none rfl _ _ _) rfl ?_
          exact ⟨rfl, by rw [HE.out]; exact hn1.out, hs.out⟩
  · have d1 : ((m : Int) != (n : Int)) = true := by simp; omega
    have HE : Hid (splitN n x zs = x) := by
      unfold splitN
      rw [if_neg (by rw [HL.out]; omega)]
      exact rfl
    have HN := hide h
    clear hz h hr
    go_enter Try.func41, Try.ntmps41
    go_wp2_with fail
    first | refine bodyPost_end (results_none rfl _ _ _) rfl ?_ | refine bodyPost_ret (results_none rfl _ _ _) rfl ?_
    exact ⟨rfl, by rw [HE.out]; exact HN.out, St.refl _ _⟩
end Go.Proofs.Ytkcjfiifajjpiaa
