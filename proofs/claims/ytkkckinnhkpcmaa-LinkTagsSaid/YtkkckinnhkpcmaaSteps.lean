/-
  A stream's steps in memory: a cell of its head, its row of what is kept.
-/
import Derived.Test.YtkkckinnhkpcmaaAsks
set_option linter.unusedVariables false
namespace Go.Proofs.Ytkkckinnhkpcmaa
open Go.RowKit Go.WideShapes Go.ChangeShapes Q

section
variable {S G S' : Nat → Prop} {w w1 w' : World} {sb : Nat} {x : Str}
theorem apart1 {g : Nat} {t e : TypeId} {cs : Array Value} (hb : Blk w g t cs) (hne : t ≠ e) : Apart w (fun k => k = g) e := by
  rintro k hk rfl
  exact ⟨t, cs, hb, hne⟩
theorem BRow.apart {v : Value} {xs : List (List Int)} (h : BRow w S v xs) (hs : St G w w') (hA : Apart w G 28) : BRow w' S v xs := by
  obtain ⟨vs, h1, h2, h3⟩ := h
  exact ⟨vs, own_apart h1 hs.only hA, h2.st hs, h3⟩
theorem BRow.lt {v : Value} {xs : List (List Int)} (h : BRow w S v xs) : ∀ g, v.ownBlock = some g → g < w.heap.size := by
  obtain ⟨vs, h1, h2, h3⟩ := h
  exact fun g hg => (h1.lt g hg).2
theorem own_type {base : Nat} {e : TypeId} {size n : Nat} {v : Value} {xs : List Value} (h : w.ownsRow base e size v n xs) {g : Nat} (hg : v.ownBlock = some g) : ∃ cs, Blk w g e cs := by
  rcases h.2 with ⟨rfl, _⟩ | ⟨g', cap, cur, rfl, _, hh, _⟩
  · simp [Value.ownBlock] at hg
  · obtain rfl : g' = g := by simpa [Value.ownBlock] using hg
    exact ⟨cur, hh⟩
theorem StreamAt.set (h : StreamAt w S sb x) (i : Nat) (u : Value) (y : Str) (ho : y.out = x.out) (he : y.ear = x.ear)
    (hc : ∀ vo hb ib, (strC x.first vo x.next hb ib x.ear.length x.owed).setIfInBounds i u = strC y.first vo y.next hb ib y.ear.length y.owed) :
    StreamAt (w.setCell ⟨sb, i, none⟩ u) S sb y ∧ St S w (w.setCell ⟨sb, i, none⟩ u) := by
  obtain ⟨vo, hb, ib, is, h1, h2, h3, h4, h5, h6, h7, h8, h9⟩ := h
  have hs : St (fun k => k = sb) w (w.setCell ⟨sb, i, none⟩ u) := (St.refl (fun k => k = sb) w).setCell h1 (by decide) (fun _ => rfl) u
  refine ⟨⟨vo, hb, ib, is, ?_, ?_, ?_, ?_, ?_, h6, h7, h8, h9⟩, hs.mono fun k _ e => by subst e; exact h7⟩
  · rw [← hc]; exact h1.set_ i u
  · rw [ho]; exact h2.apart hs (apart1 h1 (by decide))
  · rw [he]; exact h3.apart hs.only (apart1 h1 (by decide))
  · exact h4.apart hs.only (apart1 h1 (by decide))
  · rw [he]; exact h5.st hs
/-- The row of what is kept is another one now. -/
theorem stream_row {vo v' : Value} {hb ib : Nat} {is : List Value} {out' : List (List Int)}
    (h1 : Blk w sb 80 (strC x.first vo x.next hb ib x.ear.length x.owed)) (h2 : BRow w S vo x.out) (h3 : Blk w hb 4 (hereC x.ear)) (h4 : Blk w ib 28 is.toArray) (h5 : Ear w is x.ear) (h6 : vo.ownBlock ≠ some ib) (h7 : S sb) (h8 : S hb) (h9 : S ib)
    (hs : St G w w1) (hG : ∀ k, k < w.heap.size → G k → vo.ownBlock = some k) (hS : ∀ k, S k → S' k) (hr : BRow w1 S' v' out') (hne : v'.ownBlock ≠ some ib) :
    StreamAt (w1.setCell ⟨sb, 1, none⟩ v') S' sb { x with out := out' } ∧ St S w (w1.setCell ⟨sb, 1, none⟩ v') := by
  have hvo : ∀ k, vo.ownBlock = some k → S k ∧ ∃ cs, Blk w k 28 cs := by
    obtain ⟨vs, r1, r2, r3⟩ := h2
    exact fun k hk => ⟨r3 k hk, own_type r1 hk⟩
  have hn1 : ¬ G sb := fun hg => by
    obtain ⟨_, cs, hc⟩ := hvo sb (hG sb h1.lt hg)
    exact Blk.ne_ hc h1 (by decide) rfl
  have hn2 : ¬ G hb := fun hg => by
    obtain ⟨_, cs, hc⟩ := hvo hb (hG hb h3.lt hg)
    exact Blk.ne_ hc h3 (by decide) rfl
  have hn3 : ¬ G ib := fun hg => h6 (hG ib h4.lt hg)
  have k1 := h1.st hs hn1
  have k3 := h3.st hs hn2
  have k4 := h4.st hs hn3
  have k5 := h5.st hs
  have hs2 : St (fun k => k = sb) w1 (w1.setCell ⟨sb, 1, none⟩ v') := (St.refl (fun k => k = sb) w1).setCell k1 (by decide) (fun _ => rfl) v'
  refine ⟨⟨v', hb, ib, is, k1.set_ 1 v', hr.apart hs2 (apart1 k1 (by decide)), k3.apart hs2.only (apart1 k1 (by decide)), k4.apart hs2.only (apart1 k1 (by decide)), k5.st hs2, hne, hS _ h7, hS _ h8, hS _ h9⟩, ?_⟩
  exact (hs.mono fun k hk hg => (hvo k (hG k hk hg)).1).trans' hs2 fun k _ e => by subst e; exact h7
end

theorem info28 : (Try.prog.info? 28).map (fun i => (i.zero, i.size, i.bytes)) = some (some (.slice none 0 0), 1, 24) := by kernel_rfl
theorem info_parts {t : TypeId} {z : Value} {s b : Nat} (h : (Try.prog.info? t).map (fun i => (i.zero, i.size, i.bytes)) = some (some z, s, b)) : ∃ i, Try.prog.info? t = some i ∧ i.zero = some z ∧ i.size = s ∧ i.bytes = b := by
  cases hi : Try.prog.info? t with
  | none => rw [hi] at h; cases h
  | some i => rw [hi] at h; simp at h; exact ⟨i, rfl, h.1, h.2.1, h.2.2⟩

set_option maxRecDepth 100000 in
theorem push_any (S : Nat → Prop) (sb : Nat) (x : Str) (vb : Value) (bs : List Int) (w : World) (h : StreamAt w S sb x) (hv : Bod w vb bs) (hx : x.out.length ≤ 20000) :
    Calls Try.prog 55 #[.pointer (some ⟨sb, 0, none⟩), vb] w fun e w' => e = .returned (.tuple #[]) ∧ St S w w' ∧ StreamAt w' (fun k => S k ∨ w.heap.size ≤ k) sb { x with out := x.out ++ [bs] } := by
  obtain ⟨i0, hi, hz0, hz1, hz2⟩ := info_parts info28
  obtain ⟨vo, hb, ib, is, h1, h2, h3, h4, h5, h6, h7, h8, h9⟩ := h
  have H1 := hide h1
  have H2 := hide h2
  have H3 := hide h3
  have H4 := hide h4
  have H5 := hide h5
  have HV := hide hv
  obtain ⟨m0, m1, m2, m3, m4, m5⟩ := m6 h1
  obtain ⟨vs, r1, r2, r3⟩ := id h2
  have R1 := hide r1
  have R2 := hide r2
  obtain ⟨A, c, rfl, _, _⟩ := own_val r1
  obtain ⟨Av, cv, rfl, _, _⟩ := hv.val
  have f1 := h1.frozen 1
  have hsl := h1.lt
  clear h1 h2 h3 h4 h5 hv r1 r2
  go_enter Try.func55, Try.ntmps55
  go_wp2_with (at_builtin; refine wpList_push rfl _ _ _ rfl 0 28 i0 _ 1 24 Try.underlying36 hi hz0 hz1 hz2 rfl (by omega) _ x.out.length vs rfl R1.out 1 1 #[.slice Av bs.length cv] rfl rfl (by simp [Value.oneCell']) (by omega) (by unfold maxLen; omega) (by omega) (Nat.zero_le _) ?_; intro g' cap' w6 hown6 hgr6 hb6 _ hlt6 hor6; have hne6 : some sb ≠ (Value.slice A x.out.length c).ownBlock := (fun e => own_blk_ne R1.out H1.out (by decide) e.symm); have k6 := Blk.grown (H1.out.alloc (.cells #[.slice Av bs.length cv] 28)) hgr6 hne6; obtain ⟨q0, q1, q2, q3, q4, q5⟩ := m6 k6; have fr6 := k6.frozen 1)
  refine bodyPost_end (results_none rfl _ _ _) rfl ?_
  have hs : St (fun k => (Value.slice A x.out.length c).ownBlock = some k) w w6 := by
    refine (((St.refl _ w).alloc (.cells #[.slice Av bs.length cv] 28))).grown hgr6 fun g hg => ⟨?_, fun _ => hg⟩
    obtain ⟨cs, hc⟩ := own_type (R1.out.alloc (.cells #[.slice Av bs.length cv] 28)) hg
    exact ⟨28, cs, hc, by decide⟩
  have hz := stream_row (out' := x.out ++ [bs]) (S' := fun k => S k ∨ w.heap.size ≤ k) (v' := .slice (some ⟨g', 0, none⟩) (x.out.length + 1) cap') H1.out H2.out H3.out H4.out H5.out h6 h7 h8 h9 hs (fun k _ e => e) (fun k h => .inl h) ?_ ?_
  · exact ⟨rfl, hz.2, hz.1⟩
  · refine ⟨vs ++ [.slice Av bs.length cv], by simpa using hown6, (R2.out.st hs).snoc (HV.out.st hs), fun k hk => ?_⟩
    obtain rfl : g' = k := by simpa [Value.ownBlock] using hk
    rcases hor6 with e | e
    · exact .inl (r3 _ e)
    · exact .inr (by omega)
  · intro e
    obtain rfl : g' = ib := by simpa [Value.ownBlock] using e
    rcases hor6 with e | e
    · exact h6 e
    · have := H4.out.lt
      omega
end Go.Proofs.Ytkkckinnhkpcmaa
