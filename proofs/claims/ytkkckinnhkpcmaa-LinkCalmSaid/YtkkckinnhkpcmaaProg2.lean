/-
  How far turns bring the streams (plain).
-/
import Derived.Test.YtkkckinnhkpcmaaCalmP
set_option linter.unusedVariables false
namespace Go.Proofs.Ytkkckinnhkpcmaa
open Q

section
variable {W Sp n : Nat} {x y : Wr} {s t : Nat}
theorem takeS_owed (b : Str) (k : Int) (bs : List Int) : (takeS b k bs).owed = true := by unfold takeS; split <;> rfl
theorem takeS_first (b : Str) (k : Int) (bs : List Int) : (takeS b k bs).first = b.first ∧ (takeS b k bs).out = b.out := by unfold takeS; split <;> exact ⟨rfl, rfl⟩
theorem ackS_next (b : Str) (k : Int) : (ackS b k).next = b.next ∧ (ackS b k).owed = b.owed := by unfold ackS; split <;> exact ⟨rfl, rfl⟩
theorem ackS_out (b : Str) (k : Int) : (ackS b k).out.length ≤ b.out.length := by
  unfold ackS
  split
  · show (b.out.drop _).length ≤ _; simp
  · exact Nat.le_refl _
/-- What a carry leaves alone. -/
theorem carryS_keeps (hst : s + t = 1) (k : Int) : (carryS y s t k).st s = y.st s ∧ (carryS y s t k).P = y.P ∧ (carryS y s t k).F = y.F ∧ (carryS y s t k).A = y.A ∧
    ((carryS y s t k).st t).first = (y.st t).first ∧ ((carryS y s t k).st t).out = (y.st t).out := by
  unfold carryS
  split
  · exact ⟨rfl, rfl, rfl, rfl, rfl, rfl⟩
  · rename_i f hf
    have hne : s ≠ t := by omega
    refine ⟨upd_ne _ _ _ _ hne, rfl, rfl, rfl, ?_, ?_⟩
    · show (upd y.st t (takeS (y.st t) f.1 f.2) t).first = _
      rw [upd_same]; exact (takeS_first _ _ _).1
    · show (upd y.st t (takeS (y.st t) f.1 f.2) t).out = _
      rw [upd_same]; exact (takeS_first _ _ _).2
theorem carryK_keeps (hst : s + t = 1) : ∀ k, (carryK y s k).st s = y.st s ∧ (carryK y s k).P = y.P ∧ (carryK y s k).F = y.F ∧ (carryK y s k).A = y.A ∧
    ((carryK y s k).st t).first = (y.st t).first ∧ ((carryK y s k).st t).out = (y.st t).out
  | 0 => ⟨rfl, rfl, rfl, rfl, rfl, rfl⟩
  | k + 1 => by
    obtain ⟨a, b, c, d, e, f⟩ := carryK_keeps hst k
    obtain rfl : t = 1 - s := by omega
    rw [carryK_succ]
    obtain ⟨a', b', c', d', e', f'⟩ := carryS_keeps (y := carryK y s k) hst (k : Int)
    exact ⟨a'.trans a, b'.trans b, c'.trans c, d'.trans d, e'.trans e, f'.trans f⟩
/-- All that is shown comes: what is next goes on. -/
theorem carryK_prog (hI : Inv W Sp n y) (hst : s + t = 1) (hF : y.F s = shown W (y.st s)) : ∀ j, j ≤ (shown W (y.st s)).length →
    (y.st s).first + (j : Int) ≤ ((carryK y s j).st t).next ∧ (0 < j → ((carryK y s j).st t).owed = true)
  | 0, _ => by
    obtain ⟨p, q, h⟩ := hI s t hst
    have h1 := h.af
    have h2 := h.bn
    have h3 := h.pq
    refine ⟨?_, fun h => absurd h (by omega)⟩
    show (y.st s).first + ((0 : Nat) : Int) ≤ (y.st t).next
    omega
  | j + 1, hj => by
    obtain ⟨ih, _⟩ := carryK_prog hI hst hF j (by omega)
    obtain ⟨a, b, c, d, e, f⟩ := carryK_keeps (y := y) hst j
    have hs : s < 2 := by omega
    have hIj := hI.carryK hs j
    obtain ⟨p, q, h⟩ := hIj s t hst
    have h1 := h.af
    have h2 := h.bn
    rw [a] at h1
    have hsj : (shown W (y.st s))[j]? = some ((y.st s).first + (j : Int), (y.st s).out.getD j []) := shown_get (by omega)
    have hpk : pick ((carryK y s j).F s) (j : Int) = some ((y.st s).first + (j : Int), (y.st s).out.getD j []) := by
      rw [c, hF]
      unfold pick
      have e1 : absZ (j : Int) = (j : Int) := by unfold absZ; rw [if_neg (by omega)]
      rw [e1, Int.emod_eq_of_lt (by omega) (by omega), Int.toNat_natCast]
      exact hsj
    obtain rfl : t = 1 - s := by omega
    rw [carryK_succ]
    have e2 : carryS (carryK y s j) s (1 - s) (j : Int) = carryF (carryK y s j) (1 - s) ((y.st s).first + (j : Int), (y.st s).out.getD j []) := by
      unfold carryS
      rw [hpk]
    have hmem : ((y.st s).first + (j : Int), (y.st s).out.getD j []) ∈ (carryK y s j).F s := pick_mem hpk
    obtain ⟨jj, g1, g2, g3⟩ := h.fr _ hmem
    have hjj : jj = p + j := by simp only at g1; omega
    subst hjj
    obtain ⟨q', k1, k2, k3⟩ := h.take_ g2 g3
    have k4 := k3.bn
    have k5 := k2 (by omega)
    have e3 : (((p + j : Nat) : Int) + 1) = (y.st s).first + (j : Int) := by omega
    rw [e3] at k4
    rw [e2]
    have e4 : (carryF (carryK y s j) (1 - s) ((y.st s).first + (j : Int), (y.st s).out.getD j [])).st (1 - s) = takeS ((carryK y s j).st (1 - s)) ((y.st s).first + (j : Int)) ((y.st s).out.getD j []) := upd_same _ _ _
    rw [e4, k4]
    exact ⟨by omega, fun _ => takeS_owed _ _ _⟩
/-- Half a turn. -/
theorem halfT_prog (hI : Inv W Sp n x) (hst : s + t = 1) (hW : W ≤ 5) : (halfT W x s).st s = x.st s ∧ (halfT W x s).P = x.P ∧ (halfT W x s).A s = [] ∧ (halfT W x s).A t = x.A t ∧
    ((halfT W x s).st t).first = (x.st t).first ∧ ((halfT W x s).st t).out = (x.st t).out ∧ (x.st s).first + (Min.min W (x.st s).out.length : Nat) ≤ ((halfT W x s).st t).next ∧ (0 < Min.min W (x.st s).out.length → ((halfT W x s).st t).owed = true) := by
  have hs : s < 2 := by omega
  have hI2 := (hI.clear s).show_ s hs hW
  have hF : (showS W (clearS x s) s).F s = shown W ((showS W (clearS x s) s).st s) := by
    show upd (upd x.F s []) s ((upd x.F s [] s) ++ shown W (x.st s)) s = shown W (x.st s)
    rw [upd_same, upd_same]
    rfl
  obtain ⟨a, b, c, d, e, f⟩ := carryK_keeps (y := showS W (clearS x s) s) hst ((showS W (clearS x s) s).F s).length
  obtain ⟨g1, g2⟩ := carryK_prog hI2 hst hF ((showS W (clearS x s) s).F s).length (by rw [hF]; exact Nat.le_refl _)
  have hl : ((showS W (clearS x s) s).F s).length = Min.min W (x.st s).out.length := by
    rw [hF, shown_len]
    rfl
  refine ⟨a, b, ?_, ?_, e, f, ?_, ?_⟩
  · show (carryK _ s _).A s = []
    rw [d]
    exact upd_same _ _ _
  · show (carryK _ s _).A t = x.A t
    rw [d]
    exact upd_ne _ _ _ _ (by omega)
  · rw [hl] at g1
    unfold halfT
    rw [hl]
    exact g1
  · intro h
    unfold halfT
    rw [← hl] at h
    exact g2 h
/-- An answer. -/
theorem ansT_keeps (hst : s + t = 1) : (ansT x s).P = x.P ∧ (ansT x s).A t = x.A t ∧ ((ansT x s).st s).first = (x.st s).first ∧ ((ansT x s).st s).out = (x.st s).out ∧ ((ansT x s).st t).next = (x.st t).next ∧ ((ansT x s).st t).owed = (x.st t).owed ∧
    ((ansT x s).st t).out.length ≤ (x.st t).out.length := by
  obtain rfl : t = 1 - s := by omega
  have hne : 1 - s ≠ s := by omega
  have o1 : (oweS x s).P = x.P ∧ (oweS x s).A (1 - s) = x.A (1 - s) ∧ ((oweS x s).st s).first = (x.st s).first ∧ ((oweS x s).st s).out = (x.st s).out ∧ (oweS x s).st (1 - s) = x.st (1 - s) := by
    unfold oweS
    split
    · refine ⟨rfl, upd_ne _ _ _ _ hne, ?_, ?_, upd_ne _ _ _ _ hne⟩
      · show (upd x.st s _ s).first = _
        rw [upd_same]
      · show (upd x.st s _ s).out = _
        rw [upd_same]
    · exact ⟨rfl, rfl, rfl, rfl, rfl⟩
  obtain ⟨p1, p2, p3, p4, p5⟩ := o1
  unfold ansT answerS
  split
  · exact ⟨p1, p2, p3, p4, by rw [p5], by rw [p5], by rw [p5]; exact Nat.le_refl _⟩
  · rename_i u hu
    have e1 : (answerU (oweS x s) (1 - s) u).st s = (oweS x s).st s := upd_ne _ _ _ _ (Ne.symm hne)
    have e2 : (answerU (oweS x s) (1 - s) u).st (1 - s) = ackS (x.st (1 - s)) u := by
      show upd _ _ _ _ = _
      rw [upd_same, p5]
    refine ⟨p1, p2, by rw [e1]; exact p3, by rw [e1]; exact p4, ?_, ?_, ?_⟩
    · rw [e2]; exact (ackS_next _ _).1
    · rw [e2]; exact (ackS_next _ _).2
    · rw [e2]; exact ackS_out _ _
/-- What is owed comes: room is free. -/
theorem ansT_prog (hst : s + t = 1) (hA : x.A s = []) (ho : (x.st s).owed = true) {m : Nat} (hn : (x.st t).first + (m : Int) ≤ (x.st s).next) : ((ansT x s).st t).out.length ≤ (x.st t).out.length - m := by
  obtain rfl : t = 1 - s := by omega
  have hne : 1 - s ≠ s := by omega
  have e0 : oweS x s = { x with st := upd x.st s { x.st s with owed := false }, A := upd x.A s (x.A s ++ [(x.st s).next - 1]) } := if_pos ho
  have hpk : pick ((oweS x s).A s) 0 = some ((x.st s).next - 1) := by
    rw [e0]
    show pick (upd x.A s (x.A s ++ [(x.st s).next - 1]) s) 0 = _
    rw [upd_same, hA]
    rfl
  have e1 : ansT x s = answerU (oweS x s) (1 - s) ((x.st s).next - 1) := by
    unfold ansT answerS
    rw [hpk]
  have e2 : (oweS x s).st (1 - s) = x.st (1 - s) := by
    rw [e0]
    exact upd_ne _ _ _ _ hne
  rw [e1]
  show (upd (oweS x s).st (1 - s) (ackS ((oweS x s).st (1 - s)) ((x.st s).next - 1)) (1 - s)).out.length ≤ _
  rw [upd_same, e2]
  unfold ackS
  split
  · show ((x.st (1 - s)).out.drop _).length ≤ _
    rw [List.length_drop]
    omega
  · omega
/-- A turn brings each stream on by the window. -/
theorem turn_prog (hI : Inv W Sp n x) (hW : W ≤ 5) : (turnS W x).P = x.P ∧ ((turnS W x).st 0).out.length ≤ (x.st 0).out.length - W ∧ ((turnS W x).st 1).out.length ≤ (x.st 1).out.length - W := by
  have h1 := halfT_prog (s := 0) (t := 1) hI rfl hW
  have hI1 := hI.halfT (s := 0) (by omega) hW
  obtain ⟨a1, b1, c1, d1, e1, f1, g1, k1⟩ := h1
  obtain ⟨a2, b2, c2, d2, e2, f2, g2, k2⟩ := halfT_prog (s := 1) (t := 0) hI1 rfl hW
  obtain ⟨z, hz⟩ : ∃ z, z = halfT W (halfT W x 0) 1 := ⟨_, rfl⟩
  rw [← hz] at a2 b2 c2 d2 e2 f2 g2 k2
  have zA0 : z.A 0 = [] := d2.trans c1
  have z0f : (z.st 0).first = (x.st 0).first := by rw [e2, a1]
  have z0o : (z.st 0).out = (x.st 0).out := by rw [f2, a1]
  have z1f : (z.st 1).first = (x.st 1).first := by rw [a2, e1]
  have z1o : (z.st 1).out = (x.st 1).out := by rw [a2, f1]
  have z1n : (x.st 0).first + (Min.min W (x.st 0).out.length : Nat) ≤ (z.st 1).next := by rw [a2]; exact g1
  have z1w : 0 < Min.min W (x.st 0).out.length → (z.st 1).owed = true := fun h => by rw [a2]; exact k1 h
  have z0n : (x.st 1).first + (Min.min W (x.st 1).out.length : Nat) ≤ (z.st 0).next := by
    rw [e1, f1] at g2; exact g2
  have z0w : 0 < Min.min W (x.st 1).out.length → (z.st 0).owed = true := fun h => k2 (by rw [f1]; exact h)
  obtain ⟨m1, m2, m3, m4, m5, m6, m7⟩ := ansT_keeps (x := z) (s := 0) (t := 1) rfl
  obtain ⟨n1, n2, n3, n4, n5, n6, n7⟩ := ansT_keeps (x := ansT z 0) (s := 1) (t := 0) rfl
  have e : turnS W x = ansT (ansT z 0) 1 := by rw [hz]; rfl
  rw [e]
  refine ⟨?_, ?_, ?_⟩
  · rw [n1, m1, b2, b1]
  · by_cases hm : 0 < Min.min W (x.st 0).out.length
    · have hA1 : (ansT z 0).A 1 = [] := m2.trans c2
      have := ansT_prog (x := ansT z 0) (s := 1) (t := 0) rfl hA1 (m6.trans (z1w hm)) (m := Min.min W (x.st 0).out.length) (by rw [m3, m5, z0f]; exact z1n)
      rw [m4, z0o] at this
      omega
    · have : (x.st 0).out.length - W = (x.st 0).out.length ∨ True := .inr trivial
      rw [m4, z0o] at n7
      omega
  · rw [n4]
    by_cases hm : 0 < Min.min W (x.st 1).out.length
    · have := ansT_prog (x := z) (s := 0) (t := 1) rfl zA0 (z0w hm) (m := Min.min W (x.st 1).out.length) (by rw [z1f]; exact z0n)
      rw [z1o] at this
      omega
    · rw [z1o] at m7
      omega
/-- Turn by turn. -/
def turnsS (W : Nat) (x : Wr) : Nat → Wr
  | 0 => x
  | k + 1 => turnS W (turnsS W x k)
theorem Inv.turns (hI : Inv W Sp n x) (hW : W ≤ 5) : ∀ k, Inv W Sp (n + 4 * k) (turnsS W x k)
  | 0 => hI
  | k + 1 => (Inv.turns hI hW k).turn hW
theorem turns_prog (hI : Inv W Sp n x) (hW : W ≤ 5) : ∀ k, (turnsS W x k).P = x.P ∧ ((turnsS W x k).st 0).out.length ≤ (x.st 0).out.length - k * W ∧ ((turnsS W x k).st 1).out.length ≤ (x.st 1).out.length - k * W
  | 0 => ⟨rfl, by show _ ≤ _ - 0 * W; rw [Nat.zero_mul]; exact Nat.le_refl _, by show _ ≤ _ - 0 * W; rw [Nat.zero_mul]; exact Nat.le_refl _⟩
  | k + 1 => by
    obtain ⟨a, b, c⟩ := turns_prog hI hW k
    obtain ⟨a', b', c'⟩ := turn_prog (hI.turns hW k) hW
    rw [Nat.add_mul, Nat.one_mul]
    exact ⟨a'.trans a, by show ((turnS W (turnsS W x k)).st 0).out.length ≤ _; omega, by show ((turnS W (turnsS W x k)).st 1).out.length ≤ _; omega⟩
/-- Nothing waits: all has come out. -/
theorem Inv.all_out (hI : Inv W Sp n x) (hst : s + t = 1) (h0 : (x.st s).out.length = 0) : x.O t = x.P s := by
  obtain ⟨p, q, h⟩ := hI s t hst
  have h1 := h.outLen
  have h2 := h.pq
  have h3 := h.qP
  rw [h.oq, List.take_of_length_le (by omega)]
theorem enough {m W T : Nat} (hW : 1 ≤ W) (h : (m + W - 1) / W ≤ T) : m - T * W = 0 := by
  have h1 : m + W - 1 < ((m + W - 1) / W + 1) * W := by
    have := Nat.lt_mul_div_succ (m + W - 1) (show 0 < W by omega)
    rw [Nat.mul_comm] at this
    exact this
  have h2 : ((m + W - 1) / W + 1) * W ≤ (T + 1) * W := Nat.mul_le_mul_right W (by omega)
  simp only [Nat.add_mul, Nat.one_mul] at h1 h2
  omega
end
end Go.Proofs.Ytkkckinnhkpcmaa
