/-
  Contract of Wire.act. (Printed by wip/tools/mkact.py.)
-/
import Derived.Test.YtkkckinnhkpcmaaW17a
import Derived.Test.YtkkckinnhkpcmaaW17b
import Derived.Test.YtkkckinnhkpcmaaW18a
import Derived.Test.YtkkckinnhkpcmaaW18b
import Derived.Test.YtkkckinnhkpcmaaW42a
import Derived.Test.YtkkckinnhkpcmaaW42b
import Derived.Test.YtkkckinnhkpcmaaW19a
import Derived.Test.YtkkckinnhkpcmaaW19b
import Derived.Test.YtkkckinnhkpcmaaW43a
import Derived.Test.YtkkckinnhkpcmaaW43b
set_option linter.unusedVariables false
set_option linter.unusedSimpArgs false
namespace Go.Proofs.Ytkkckinnhkpcmaa
open Go.RowKit Go.WideShapes Go.ChangeShapes Q

/-- An act of the script. -/
structure Ac where
  side : Int
  kind : Int
  n : Int
  bs : List Int
/-- Its side. -/
def Ac.s (a : Ac) : Nat := (absZ a.side % 2).toNat
theorem Ac.s_lt (a : Ac) : a.s < 2 := by
  have h0 := Int.emod_nonneg (absZ a.side) (show (2 : Int) ≠ 0 by decide)
  have h1 := Int.emod_lt_of_pos (absZ a.side) (show (0 : Int) < 2 by decide)
  unfold Ac.s
  omega
theorem Ac.s_eq (a : Ac) : absZ a.side % 2 = (a.s : Int) := by
  have h0 := Int.emod_nonneg (absZ a.side) (show (2 : Int) ≠ 0 by decide)
  unfold Ac.s
  omega
def actS (W Sp : Nat) (x : Wr) (a : Ac) : Wr :=
  if a.kind = 1 then pushS Sp x a.s a.bs else if a.kind = 2 then showS W x a.s else if a.kind = 3 then oweS x a.s
  else if a.kind = 4 then carryS x a.s (1 - a.s) a.n else if a.kind = 5 then answerS x a.s (1 - a.s) a.n else x
theorem Inv.act {W Sp n : Nat} {x : Wr} (h : Inv W Sp n x) (hW : W ≤ 5) (a : Ac) : Inv W Sp (n + 1) (actS W Sp x a) := by
  have hs := a.s_lt
  unfold actS
  split
  · exact h.push _ hs _
  · split
    · exact h.show_ _ hs hW
    · split
      · exact h.owe _ hs
      · split
        · exact (h.carry (s := a.s) (t := 1 - a.s) (by omega) _).more
        · split
          · exact (h.answer (s := a.s) (t := 1 - a.s) (by omega) _).more
          · exact h.more
section
variable {w : World} {o : Nat → Nat} {wb W Sp n : Nat} {g : Gw} {x : Wr}
theorem WireAt.push' (h : WireAt w o wb W Sp g x) (hI : Inv W Sp n x) (hn : n < 5000) {s : Nat} (hs : s < 2) {A : Option Addr} {c : Nat} {bs : List Int} (hb : Reads w w.heap.size 1 A bs.length (byts bs)) (hc : bs.length ≤ c) (hcc : c ≤ 140737488351232) (ho : 0 < bs.length → ∀ ad, A = some ad → o ad.block = 0) :
    Calls Try.prog 17 #[.pointer (some ⟨wb, 0, none⟩), .int .i64 (s : Int), .slice A bs.length c] w fun e w' => e = .returned (.bool true) ∧ WStep w o wb W Sp g (pushS Sp x s bs) w' := by
  have hs' : s = 0 ∨ s = 1 := by omega
  rcases hs' with rfl | rfl
  · exact wpush0 w o wb W Sp n g x A c bs h hI hn hb hc hcc ho
  · exact wpush1 w o wb W Sp n g x A c bs h hI hn hb hc hcc ho
theorem WireAt.show' (h : WireAt w o wb W Sp g x) (hI : Inv W Sp n x) (hn : n < 5000) (hW : W ≤ 5) {s : Nat} (hs : s < 2) :
    Calls Try.prog 18 #[.pointer (some ⟨wb, 0, none⟩), .int .i64 (s : Int)] w fun e w' => e = .returned (.bool true) ∧ WStep w o wb W Sp g (showS W x s) w' := by
  have hs' : s = 0 ∨ s = 1 := by omega
  rcases hs' with rfl | rfl
  · exact wshow0 w o wb W Sp n g x h hI hn hW
  · exact wshow1 w o wb W Sp n g x h hI hn hW
theorem WireAt.owe' (h : WireAt w o wb W Sp g x) (hI : Inv W Sp n x) (hn : n < 5000) {s : Nat} (hs : s < 2) :
    Calls Try.prog 42 #[.pointer (some ⟨wb, 0, none⟩), .int .i64 (s : Int)] w fun e w' => e = .returned (.bool true) ∧ WStep w o wb W Sp g (oweS x s) w' := by
  have hs' : s = 0 ∨ s = 1 := by omega
  rcases hs' with rfl | rfl
  · exact wowe0 w o wb W Sp n g x h hI hn
  · exact wowe1 w o wb W Sp n g x h hI hn
theorem WireAt.carry' (h : WireAt w o wb W Sp g x) (hI : Inv W Sp n x) (hn : n < 5000) {s : Nat} (hs : s < 2) {k : Int} (h0 : -9223372036854775808 ≤ k) (h1 : k ≤ 9223372036854775807) :
    Calls Try.prog 19 #[.pointer (some ⟨wb, 0, none⟩), .int .i64 (s : Int), .int .i64 k] w fun e w' => e = .returned (.bool true) ∧ WStep w o wb W Sp g (carryS x s (1 - s) k) w' := by
  have hs' : s = 0 ∨ s = 1 := by omega
  rcases hs' with rfl | rfl
  · exact wcarry0 w o wb W Sp n g x k h hI hn h0 h1
  · exact wcarry1 w o wb W Sp n g x k h hI hn h0 h1
theorem WireAt.answer' (h : WireAt w o wb W Sp g x) (hI : Inv W Sp n x) (hn : n < 5000) {s : Nat} (hs : s < 2) {k : Int} (h0 : -9223372036854775808 ≤ k) (h1 : k ≤ 9223372036854775807) :
    Calls Try.prog 43 #[.pointer (some ⟨wb, 0, none⟩), .int .i64 (s : Int), .int .i64 k] w fun e w' => e = .returned (.bool true) ∧ WStep w o wb W Sp g (answerS x s (1 - s) k) w' := by
  have hs' : s = 0 ∨ s = 1 := by omega
  rcases hs' with rfl | rfl
  · exact wanswer0 w o wb W Sp n g x k h hI hn h0 h1
  · exact wanswer1 w o wb W Sp n g x k h hI hn h0 h1
end
def acC (a : Ac) (v : Value) : Array Value := #[.int .i64 a.side, .int .i64 a.kind, .int .i64 a.n, v]

set_option maxRecDepth 100000 in
set_option maxHeartbeats 2000000 in
theorem wact (w : World) (o : Nat → Nat) (wb W Sp n : Nat) (g : Gw) (x : Wr) (a : Ac) (A : Option Addr) (c : Nat) (h : WireAt w o wb W Sp g x) (hI : Inv W Sp n x) (hn : n < 5000) (hW5 : W ≤ 5)
    (hs0 : -9223372036854775808 ≤ a.side) (hs1 : a.side ≤ 9223372036854775807) (hk0 : -9223372036854775808 ≤ a.n) (hk1 : a.n ≤ 9223372036854775807)
    (hb : Reads w w.heap.size 1 A a.bs.length (byts a.bs)) (hc : a.bs.length ≤ c) (hcc : c ≤ 140737488351232) (ho : 0 < a.bs.length → ∀ ad, A = some ad → o ad.block = 0) :
    Calls Try.prog 26 #[.pointer (some ⟨wb, 0, none⟩), .agg (acC a (.slice A a.bs.length c))] w fun e w' => e = .returned (.bool true) ∧ WStep w o wb W Sp g (actS W Sp x a) w' := by
  have hW := hide h
  have hn2 := hide hI
  obtain ⟨s, hs⟩ : ∃ s, s = a.s := ⟨_, rfl⟩
  have hsl : s < 2 := by rw [hs]; exact a.s_lt
  have hmod : absZ a.side % 2 = (s : Int) := by rw [hs]; exact a.s_eq
  obtain ⟨an, han⟩ : ∃ an, an = absZ a.side := ⟨_, rfl⟩
  have HAB : ∀ V, Hid (Calls Try.prog 39 #[.int .i64 a.side] V fun r w' => r = .returned (.int .i64 an) ∧ V = w') := fun V => by
    have hh := abs_any a.side V hs0 hs1
    rw [← han] at hh
    exact hh
  have ha0 : 0 ≤ an := by rw [han]; exact absZ_nonneg _
  have ha1 : an ≤ 9223372036854775807 := by rw [han]; exact absZ_le hs0 hs1
  rw [← han] at hmod
  have H0 : St (fun _ => False) w (w.alloc (.cells (acC a (.slice A a.bs.length c)) 52)) := (St.refl _ w).alloc _
  have B0 := Blk.new w 52 (acC a (.slice A a.bs.length c))
  unfold acC at H0 B0 ⊢
  obtain ⟨w0, hw0⟩ : ∃ w0, w0 = w.alloc (.cells #[.int .i64 a.side, .int .i64 a.kind, .int .i64 a.n, .slice A a.bs.length c] 52) := ⟨_, rfl⟩
  have hb0 : Reads w0 w0.heap.size 1 A a.bs.length (byts a.bs) := by
    rw [hw0]
    exact (hb.alloc (Nat.le_refl _) _).more (by simp)
  have HW0 : Hid (WireAt w0 o wb W Sp g x) := by rw [hw0]; exact h.quiet H0
  have HH0 : Hid (St (fun _ => False) w w0) := by rw [hw0]; exact H0
  rw [← hw0] at B0
  obtain ⟨b0, b1, b2, b3⟩ : w0.cell? ⟨w.heap.size, 0, none⟩ = some (.int .i64 a.side) ∧ w0.cell? ⟨w.heap.size, 1, none⟩ = some (.int .i64 a.kind) ∧ w0.cell? ⟨w.heap.size, 2, none⟩ = some (.int .i64 a.n) ∧ w0.cell? ⟨w.heap.size, 3, none⟩ = some (.slice A a.bs.length c) := ⟨B0.cell 0, B0.cell 1, B0.cell 2, B0.cell 3⟩
  have HP := hide (HW0.out.push' hn2.out hn hsl hb0 hc hcc ho)
  have HSH := hide (HW0.out.show' hn2.out hn hW5 hsl)
  have HOW := hide (HW0.out.owe' hn2.out hn hsl)
  have HCA := hide (HW0.out.carry' hn2.out hn hsl hk0 hk1)
  have HAN := hide (HW0.out.answer' hn2.out hn hsl hk0 hk1)
  have HFIN : ∀ y w', WStep w0 o wb W Sp g y w' → WStep w o wb W Sp g y w' := fun y w' hh => WStep.after (HH0.out.mono fun _ _ e => e.elim) (fun _ _ => rfl) ⟨rfl, rfl, rfl⟩ hh
  have HFI := hide HFIN
  have HS := hide hs
  have hACT : Hid (actS W Sp x a = if a.kind = 1 then pushS Sp x s a.bs else if a.kind = 2 then showS W x s else if a.kind = 3 then oweS x s else if a.kind = 4 then carryS x s (1 - s) a.n else if a.kind = 5 then answerS x s (1 - s) a.n else x) := by
    show _ = _
    rw [hs]
    rfl
  generalize a.kind = kd at *
  generalize a.side = sd at *
  generalize a.n = kn at *
  generalize a.bs = bs at *
  have HW00 := hide hw0
  clear hw0 hs han H0 B0 h hI hb hb0 HFIN hs0 hs1
  by_cases e1 : kd = 1
  · subst e1
    go_enter Try.func26, Try.ntmps26
    go_wp2_with fail
    rw [← HW00.out]
    go_wp2_with (first | (go_at_call 39; refine (HAB w0).out.mono ?_; rintro e w' ⟨rfl, rfl⟩) | (go_at_call 17; refine HP.out.mono ?_; rintro e w' ⟨rfl, hws⟩))
    go_ret
    refine ⟨rfl, ?_⟩
    rw [hACT.out]
    simpa using HFI.out _ _ hws
  by_cases e2 : kd = 2
  · subst e2
    go_enter Try.func26, Try.ntmps26
    go_wp2_with fail
    rw [← HW00.out]
    go_wp2_with (first | (go_at_call 39; refine (HAB w0).out.mono ?_; rintro e w' ⟨rfl, rfl⟩) | (go_at_call 18; refine HSH.out.mono ?_; rintro e w' ⟨rfl, hws⟩))
    go_ret
    refine ⟨rfl, ?_⟩
    rw [hACT.out]
    simpa using HFI.out _ _ hws
  by_cases e3 : kd = 3
  · subst e3
    go_enter Try.func26, Try.ntmps26
    go_wp2_with fail
    rw [← HW00.out]
    go_wp2_with (first | (go_at_call 39; refine (HAB w0).out.mono ?_; rintro e w' ⟨rfl, rfl⟩) | (go_at_call 42; refine HOW.out.mono ?_; rintro e w' ⟨rfl, hws⟩))
    go_ret
    refine ⟨rfl, ?_⟩
    rw [hACT.out]
    simpa using HFI.out _ _ hws
  by_cases e4 : kd = 4
  · subst e4
    go_enter Try.func26, Try.ntmps26
    go_wp2_with fail
    rw [← HW00.out]
    go_wp2_with (first | (go_at_call 39; refine (HAB w0).out.mono ?_; rintro e w' ⟨rfl, rfl⟩) | (go_at_call 19; refine HCA.out.mono ?_; rintro e w' ⟨rfl, hws⟩))
    go_ret
    refine ⟨rfl, ?_⟩
    rw [hACT.out]
    simpa using HFI.out _ _ hws
  by_cases e5 : kd = 5
  · subst e5
    go_enter Try.func26, Try.ntmps26
    go_wp2_with fail
    rw [← HW00.out]
    go_wp2_with (first | (go_at_call 39; refine (HAB w0).out.mono ?_; rintro e w' ⟨rfl, rfl⟩) | (go_at_call 43; refine HAN.out.mono ?_; rintro e w' ⟨rfl, hws⟩))
    go_ret
    refine ⟨rfl, ?_⟩
    rw [hACT.out]
    simpa using HFI.out _ _ hws
  have d1 : (kd == 1) = false := by rw [beq_eq_false_iff_ne]; exact e1
  have d2 : (kd == 2) = false := by rw [beq_eq_false_iff_ne]; exact e2
  have d3 : (kd == 3) = false := by rw [beq_eq_false_iff_ne]; exact e3
  have d4 : (kd == 4) = false := by rw [beq_eq_false_iff_ne]; exact e4
  have d5 : (kd == 5) = false := by rw [beq_eq_false_iff_ne]; exact e5
  have E := hide (And.intro e1 (And.intro e2 (And.intro e3 (And.intro e4 e5))))
  clear e1 e2 e3 e4 e5
  go_enter Try.func26, Try.ntmps26
  go_wp2_with fail
  rw [← HW00.out]
  go_wp2_with (go_at_call 39; refine (HAB w0).out.mono ?_; rintro e w' ⟨rfl, rfl⟩)
  go_ret
  refine ⟨rfl, ?_⟩
  rw [hACT.out, if_neg E.out.1, if_neg E.out.2.1, if_neg E.out.2.2.1, if_neg E.out.2.2.2.1, if_neg E.out.2.2.2.2]
  exact HFI.out _ _ (HW0.out.refl_ (St.refl _ w0))
end Go.Proofs.Ytkkckinnhkpcmaa
