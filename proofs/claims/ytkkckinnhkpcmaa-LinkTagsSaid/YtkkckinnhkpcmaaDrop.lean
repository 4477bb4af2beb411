/-
  Contract of numbered.drop.
-/
import Derived.Test.YtkkckinnhkpcmaaSteps
set_option linter.unusedVariables false
namespace Go.Proofs.Ytkkckinnhkpcmaa
open Go.RowKit Go.WideShapes Go.ChangeShapes Q

theorem own_none_cap {w : World} {base : Nat} {e : TypeId} {size n c : Nat} {xs : List Value} (h : w.ownsRow base e size (.slice none n c) n xs) : c = 0 := by
  rcases h.2 with ⟨h, _⟩ | ⟨g, cap, cur, h, _⟩
  · injection h
  · injection h with h; cases h

/-- What drop leaves in memory. -/
theorem drop_mem {S : Nat → Prop} {w w1 : World} {sb : Nat} {x : Str} {j : Nat} {vo v' : Value} {hb ib : Nat} {is vs : List Value}
    (h1 : Blk w sb 80 (strC x.first vo x.next hb ib x.ear.length x.owed)) (h2 : BRow w S vo x.out) (h3 : Blk w hb 4 (hereC x.ear)) (h4 : Blk w ib 28 is.toArray) (h5 : Ear w is x.ear) (h6 : vo.ownBlock ≠ some ib) (h7 : S sb) (h8 : S hb) (h9 : S ib)
    (hv : Bods w vs x.out) (hown : w1.ownsRow 0 28 1 v' (x.out.length - j) (vs.drop j)) (hg : Below w.heap.size w w1) (hat : ∀ k, v'.ownBlock = some k → w.heap.size ≤ k) :
    St S w ((w1.setCell ⟨sb, 1, none⟩ v').setCell ⟨sb, 0, none⟩ (.int .i64 (x.first + j))) ∧ StreamAt ((w1.setCell ⟨sb, 1, none⟩ v').setCell ⟨sb, 0, none⟩ (.int .i64 (x.first + j))) (fun k => S k ∨ w.heap.size ≤ k) sb { x with first := x.first + j, out := x.out.drop j } := by
  have hs : St (fun _ => False) w w1 := St.of_below hg (Nat.le_refl _)
  obtain ⟨a1, a2⟩ := stream_row (out' := x.out.drop j) (S' := fun k => S k ∨ w.heap.size ≤ k) (v' := v') h1 h2 h3 h4 h5 h6 h7 h8 h9 hs (fun k _ e => e.elim) (fun k h => .inl h)
    ⟨vs.drop j, by simpa using hown, (hv.st hs).drop j, fun k hk => .inr (hat k hk)⟩ (fun e => by have := hat _ e; have := h4.lt; omega)
  obtain ⟨b1, b2⟩ := a1.set 0 (.int .i64 (x.first + j)) { x with first := x.first + j, out := x.out.drop j } rfl rfl (fun _ _ _ => rfl)
  refine ⟨a2.trans' b2 fun k hk h => ?_, b1⟩
  rcases h with h | h
  · exact h
  · omega

set_option maxRecDepth 100000 in
theorem drop_any (S : Nat → Prop) (sb : Nat) (x : Str) (j : Nat) (w : World) (h : StreamAt w S sb x) (hf : x.Fits) (hj : j ≤ x.out.length) :
    Calls Try.prog 49 #[.pointer (some ⟨sb, 0, none⟩), .int .i64 (x.first + (j : Int) - 1)] w fun e w' => e = .returned (.tuple #[]) ∧ St S w w' ∧ StreamAt w' (fun k => S k ∨ w.heap.size ≤ k) sb { x with first := x.first + j, out := x.out.drop j } := by
  obtain ⟨i0, hi, hz0, hz1, hz2⟩ := info_parts info28
  obtain ⟨vo, hb, ib, is, h1, h2, h3, h4, h5, h6, h7, h8, h9⟩ := h
  have H1 := hide h1
  have H2 := hide h2
  have H3 := hide h3
  have H4 := hide h4
  have H5 := hide h5
  obtain ⟨m0, m1, m2, m3, m4, m5⟩ := m6 h1
  obtain ⟨f0, g1, n0, n1, o1, e1⟩ := hf
  obtain ⟨vs, r1, r2, r3⟩ := id h2
  have R1 := hide r1
  have R2 := hide r2
  have hv1 := r2.one
  obtain ⟨A, c, rfl, hr, hc⟩ := own_val r1
  have f1 := h1.frozen 1
  have f0' := h1.frozen 0
  have hsl := h1.lt
  have h1dr : ∀ u ∈ vs.drop j, u.oneCell' = true := fun u hu => hv1 u (List.mem_of_mem_drop hu)
  have wr1 : IntKind.i64.wrap (x.first + (j : Int) - 1 - x.first) = (j : Int) - 1 := by rw [IntWalk.i64_in _ (by constructor <;> omega)]; omega
  have wr2 : IntKind.i64.wrap ((j : Int) - 1 + 1) = (j : Int) := by rw [IntWalk.i64_in _ (by constructor <;> omega)]; omega
  have wr3 : IntKind.i64.wrap (x.first + (j : Int) - 1 + 1) = x.first + (j : Int) := by rw [IntWalk.i64_in _ (by constructor <;> omega)]; omega
  have HC := hr.cut hj hc
  simp only [Nat.mul_one] at HC
  have HN : Hid (A = none → c = 0) := fun e => by subst e; exact own_none_cap R1.out
  clear h1 h2 h3 h4 h5 r1 r2 hv1
  by_cases hcj : c = j
  · rw [if_pos hcj] at HC
    have hn : x.out.length - j = 0 := by omega
    have HC' := hide HC
    clear HC
    go_enter Try.func49, Try.ntmps49
    go_wp2_with (at_builtin; refine wpList_append_any _ rfl _ _ _ rfl 0 28 i0 _ 1 24 Try.underlying36 hi hz0 hz1 hz2 rfl (by omega) (.slice none 0 0) 0 [] rfl (World.ownsRow_nil _ _ _ _) w.heap.size _ _ _ (vs.drop j) rfl ?_ h1dr ?_ ?_ (Nat.zero_le _) ?_; (have e := HC'.out; rw [hn] at e; exact e); (unfold maxLen; omega); omega; intro v1 w1 hown1 hg1 hat1; obtain ⟨A1, c1, hv1, _, _⟩ := own_val hown1; have HAT : Hid (∀ k, v1.ownBlock = some k → w.heap.size ≤ k) := (fun k hk => by rcases hat1 with h | h <;> rw [h] at hk <;> simp [Value.ownBlock] at hk; omega); have G1 : Below w.heap.size w w1 := (Below.refl _ w).grown hg1 (Nat.le_refl _) (by simp [Value.ownBlock]); have k6 := H1.out.below G1 hsl; obtain ⟨q0, q1, q2, q3, q4, q5⟩ := m6 k6; have fr6 := k6.frozen 1; have fr7 := k6.frozen 0; have hown1 := hide hown1; clear hg1 hat1 k6)
    have hown1 : w1.ownsRow 0 28 1 v1 (x.out.length - j) (vs.drop j) := by
      have e := hown1.out
      simpa [hn] using e
    obtain ⟨q1, q2⟩ := drop_mem H1.out H2.out H3.out H4.out H5.out h6 h7 h8 h9 R2.out hown1 G1 HAT.out
    refine bodyPost_end (results_none rfl _ _ _) rfl ?_
    simp only [Nat.add_zero] at hv1
    rw [hv1] at q1 q2
    exact ⟨rfl, q1, q2⟩
  · rw [if_neg hcj] at HC
    have HC' := hide HC
    obtain ⟨ad, rfl⟩ : ∃ ad, A = some ad := by
      cases A with
      | none => exact absurd (HN.out rfl) (by have := hc; intro e; subst e; omega)
      | some ad => exact ⟨ad, rfl⟩
    have hn := rfl (a := x.out.length - j)
    clear HC HN
    go_enter Try.func49, Try.ntmps49
    go_wp2_with (at_builtin; refine wpList_append_any _ rfl _ _ _ rfl 0 28 i0 _ 1 24 Try.underlying36 hi hz0 hz1 hz2 rfl (by omega) (.slice none 0 0) 0 [] rfl (World.ownsRow_nil _ _ _ _) w.heap.size _ _ _ (vs.drop j) rfl ?_ h1dr ?_ ?_ (Nat.zero_le _) ?_; exact HC'.out; (unfold maxLen; omega); omega; intro v1 w1 hown1 hg1 hat1; obtain ⟨A1, c1, hv1, _, _⟩ := own_val hown1; have HAT : Hid (∀ k, v1.ownBlock = some k → w.heap.size ≤ k) := (fun k hk => by rcases hat1 with h | h <;> rw [h] at hk <;> simp [Value.ownBlock] at hk; omega); have G1 : Below w.heap.size w w1 := (Below.refl _ w).grown hg1 (Nat.le_refl _) (by simp [Value.ownBlock]); have k6 := H1.out.below G1 hsl; obtain ⟨q0, q1, q2, q3, q4, q5⟩ := m6 k6; have fr6 := k6.frozen 1; have fr7 := k6.frozen 0; have hown1 := hide hown1; clear hg1 hat1 k6)
    have hown1 : w1.ownsRow 0 28 1 v1 (x.out.length - j) (vs.drop j) := by
      have e := hown1.out
      simpa [hn] using e
    obtain ⟨q1, q2⟩ := drop_mem H1.out H2.out H3.out H4.out H5.out h6 h7 h8 h9 R2.out hown1 G1 HAT.out
    refine bodyPost_end (results_none rfl _ _ _) rfl ?_
    simp only [Nat.zero_add] at hv1
    rw [hv1] at q1 q2
    exact ⟨rfl, q1, q2⟩
end Go.Proofs.Ytkkckinnhkpcmaa
