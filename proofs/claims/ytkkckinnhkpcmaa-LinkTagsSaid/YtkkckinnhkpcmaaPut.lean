/-
  Contract of sparse.put.
-/
import Derived.Test.YtkkckinnhkpcmaaShift
import Derived.StillTailTactics
set_option linter.unusedVariables false
namespace Go.Proofs.Ytkkckinnhkpcmaa
open Go.RowKit Go.WideShapes Go.ChangeShapes Q

/-- How many things lie ahead without a gap. -/
def lead (es : List (Option (List Int))) : Nat := (es.takeWhile (·.isSome)).length
def outs (es : List (Option (List Int))) : List (List Int) := (es.take (lead es)).filterMap id
theorem lead_le (es : List (Option (List Int))) : lead es ≤ es.length := by
  unfold lead
  exact (List.takeWhile_sublist _).length_le
theorem lead_take (es : List (Option (List Int))) : es.take (lead es) = es.takeWhile (·.isSome) := by
  unfold lead
  induction es with
  | nil => rfl
  | cons a r ih =>
    cases a with
    | none => rfl
    | some b => simp [ih]
theorem lead_here {es : List (Option (List Int))} {n : Nat} (h : n < lead es) : (es.getD n none).isSome = true := by
  have hl := lead_le es
  have e : (es.take (lead es))[n]? = some (es[n]'(by omega)) := by
    rw [List.getElem?_take, if_pos h, List.getElem?_eq_getElem (by omega)]
  rw [lead_take] at e
  have hm := List.mem_of_getElem? e
  have hp : ∀ (l : List (Option (List Int))) a, a ∈ l.takeWhile (·.isSome) → a.isSome = true := by
    intro l
    induction l with
    | nil => intro a ha; simp at ha
    | cons b r ih =>
      intro a ha
      rw [List.takeWhile_cons] at ha
      split at ha
      · rcases List.mem_cons.1 ha with rfl | ha
        · assumption
        · exact ih a ha
      · simp at ha
  have := hp es _ hm
  simpa [List.getD, List.getElem?_eq_getElem (show n < es.length by omega)] using this
theorem lead_stop {es : List (Option (List Int))} (h : lead es < es.length) : (es.getD (lead es) none).isSome = false := by
  unfold lead at h ⊢
  induction es with
  | nil => simp at h
  | cons a r ih =>
    cases a with
    | none => rfl
    | some b =>
      simp only [List.takeWhile_cons, Option.isSome_some, if_true, List.length_cons] at h ⊢
      have := ih (by omega)
      simpa using this
theorem outs_len (es : List (Option (List Int))) : (outs es).length = lead es := by
  unfold outs
  rw [lead_take]
  unfold lead
  induction es with
  | nil => rfl
  | cons a r ih =>
    cases a with
    | none => rfl
    | some b => simp [ih]

theorem outs_nil : outs [] = [] := rfl
theorem outs_none (r : List (Option (List Int))) : outs (none :: r) = [] := rfl
theorem outs_some (b : List Int) (r : List (Option (List Int))) : outs (some b :: r) = b :: outs r := by
  unfold outs
  rw [lead_take, lead_take]
  simp
theorem outs_get : ∀ (es : List (Option (List Int))) (k : Nat) (y : List Int), (outs es)[k]? = some y → es[k]? = some (some y)
  | [], k, y, h => by rw [outs_nil] at h; simp at h
  | none :: r, k, y, h => by rw [outs_none] at h; simp at h
  | some b :: r, 0, y, h => by rw [outs_some] at h; simpa using h
  | some b :: r, k + 1, y, h => by
    rw [outs_some] at h
    simp only [List.getElem?_cons_succ] at h ⊢
    exact outs_get r k y h
theorem Ear.outs {w : World} {vs : List Value} {es : List (Option (List Int))} (h : Ear w vs es) : Bods w (vs.take (lead es)) (outs es) := by
  refine ⟨by rw [outs_len, List.length_take, h.1]; exact Nat.min_eq_left (lead_le es), fun k v y hv hy => ?_⟩
  have hk : k < lead es := by
    have := (List.getElem?_eq_some_iff.1 hy).1
    rwa [outs_len] at this
  rw [List.getElem?_take, if_pos hk] at hv
  exact h.2 k v (some y) hv (outs_get es k y hy)
theorem reads_blk {w : World} {g n : Nat} {t : TypeId} {cs : List Value} (h : Blk w g t cs.toArray) (hn : n ≤ cs.length) : Reads w w.heap.size 1 (some ⟨g, 0, none⟩) n (cs.take n) := by
  refine ⟨by rw [List.length_take]; omega, fun _ => ⟨_, rfl, h.lt, fun j u hu => ?_⟩⟩
  refine blk_cells_src (n := 0) h j u ?_
  rw [List.getElem?_take] at hu
  split at hu
  · simpa using hu
  · cases hu
theorem BRow.off {S G : Nat → Prop} {w w' : World} {v : Value} {xs : List (List Int)} (h : BRow w S v xs) (hs : St G w w') (hd : ∀ k, v.ownBlock = some k → ¬ G k) : BRow w' S v xs := by
  obtain ⟨vs, h1, h2, h3⟩ := h
  exact ⟨vs, own_only h1 hs.only hd, h2.st hs, h3⟩
theorem map_shifted (es : List (Option (List Int))) (n : Nat) : (shifted (es.map fun e => Value.bool e.isSome) (.bool false) n).toArray = hereC (shifted es none n) := by
  simp [hereC, shifted]
theorem hereC_set (es : List (Option (List Int))) (i : Nat) (bs : List Int) : (hereC es).setIfInBounds i (.bool true) = hereC (es.set i (some bs)) := by
  simp [hereC, List.map_set]

/-- A thing is laid in its place. -/
theorem put_mem1 {S : Nat → Prop} {w : World} {sb : Nat} {x : Str} {i : Nat} {vo vb : Value} {bs : List Int} {hb ib : Nat} {is : List Value}
    (h1 : Blk w sb 80 (strC x.first vo x.next hb ib x.ear.length x.owed)) (h2 : BRow w S vo x.out) (h3 : Blk w hb 4 (hereC x.ear)) (h4 : Blk w ib 28 is.toArray) (h5 : Ear w is x.ear) (h6 : vo.ownBlock ≠ some ib) (h8 : S hb) (h9 : S ib) (hv : Bod w vb bs)
    {w2 : World} (e2 : w2 = ((w.drew.setCell ⟨hb, i, none⟩ (.bool true)).drew).setCell ⟨ib, i, none⟩ vb) :
    Blk w2 sb 80 (strC x.first vo x.next hb ib x.ear.length x.owed) ∧ BRow w2 S vo x.out ∧ Blk w2 hb 4 (hereC (x.ear.set i (some bs))) ∧ Blk w2 ib 28 (is.set i vb).toArray ∧ Ear w2 (is.set i vb) (x.ear.set i (some bs)) ∧ St S w w2 := by
  have s1 : St (fun k => k = hb ∨ k = ib) w w2 := by
    subst e2
    have a := (((St.refl (fun k => k = hb ∨ k = ib) w).drew).setCell (g := hb) (i := i) h3.drew (by decide) (fun _ => .inl rfl) (.bool true)).drew
    exact a.setCell (g := ib) (i := i) (t := 28) (cs := is.toArray) ((h4.drew.far (p := ⟨hb, i, none⟩) (Blk.ne_ h4 h3 (by decide)) _).drew) (by decide) (fun _ => .inr rfl) vb
  have n1 : ¬ (sb = hb ∨ sb = ib) := by
    rintro (e | e)
    · exact Blk.ne_ h1 h3 (by decide) e
    · exact Blk.ne_ h1 h4 (by decide) e
  refine ⟨h1.st s1 n1, h2.off s1 ?_, ?_, ?_, (h5.st s1).set i (hv.st s1), s1.mono fun k _ e => by rcases e with rfl | rfl <;> assumption⟩
  · intro k hk e
    obtain ⟨vs, r1, _⟩ := h2
    obtain ⟨cs, hc⟩ := own_type r1 hk
    rcases e with rfl | rfl
    · exact Blk.ne_ hc h3 (by decide) rfl
    · exact h6 hk
  · subst e2
    rw [← hereC_set]
    exact ((h3.drew.set_ i (.bool true)).drew).far (p := ⟨ib, i, none⟩) (Blk.ne_ h3 h4 (by decide)) vb
  · subst e2
    have := ((h4.drew.far (p := ⟨hb, i, none⟩) (Blk.ne_ h4 h3 (by decide)) (.bool true)).drew).set_ i vb
    simpa using this

/-- All moves to the front, and what is next goes on. -/
theorem put_mem2 {S : Nat → Prop} {w2 w3 w4 w5 : World} {sb n : Nat} {x : Str} {es : List (Option (List Int))} {vo v3 : Value} {hb ib : Nat} {is : List Value}
    (h1 : Blk w2 sb 80 (strC x.first vo x.next hb ib es.length x.owed)) (h2 : BRow w2 S vo x.out) (h3 : Blk w2 hb 4 (hereC es)) (h4 : Blk w2 ib 28 is.toArray) (h5 : Ear w2 is es) (h6 : vo.ownBlock ≠ some ib) (h7 : S sb) (h8 : S hb) (h9 : S ib) (hn : n ≤ es.length)
    (s3 : St (fun _ => False) w2 w3) (s4 : St (fun k => k = hb) w3 w4) (b4 : Blk w4 hb 4 (shifted (es.map fun e => Value.bool e.isSome) (.bool false) n).toArray) (s5 : St (fun k => k = ib) w4 w5) (b5 : Blk w5 ib 28 (shifted is (.slice none 0 0) n).toArray)
    {ys : List (List Int)} (r3 : BRow w3 (fun k => w2.heap.size ≤ k) v3 ys) :
    StreamAt (w5.setCell ⟨sb, 2, none⟩ (.int .i64 (x.next + n))) S sb { x with next := x.next + n, ear := shifted es none n } ∧ St S w2 (w5.setCell ⟨sb, 2, none⟩ (.int .i64 (x.next + n))) ∧ BRow (w5.setCell ⟨sb, 2, none⟩ (.int .i64 (x.next + n))) (fun k => w2.heap.size ≤ k) v3 ys := by
  have nb : sb ≠ hb := Blk.ne_ h1 h3 (by decide)
  have ni : sb ≠ ib := Blk.ne_ h1 h4 (by decide)
  have nh : hb ≠ ib := Blk.ne_ h3 h4 (by decide)
  have s : St (fun k => k = hb ∨ k = ib) w2 w5 := ((s3.mono (G := fun k => k = hb ∨ k = ib) fun _ _ e => e.elim).trans' s4 fun _ _ e => .inl e).trans' s5 fun _ _ e => .inr e
  have hvo : ∀ k, vo.ownBlock = some k → ¬ (k = hb ∨ k = ib) := by
    intro k hk e
    obtain ⟨vs, r1, _⟩ := h2
    obtain ⟨cs, hc⟩ := own_type r1 hk
    rcases e with rfl | rfl
    · exact Blk.ne_ hc h3 (by decide) rfl
    · exact h6 hk
  have k1 := h1.st s (fun e => e.elim nb ni)
  have k2 := h2.off s hvo
  have k3 := b4.st s5 nh
  rw [map_shifted] at k3
  have k5 := (h5.st s).shift n
  have hl : (shifted es none n).length = es.length := shifted_len _ _ _ hn
  have hat : StreamAt w5 S sb { x with ear := shifted es none n } := ⟨vo, hb, ib, _, (by show Blk w5 sb 80 (strC x.first vo x.next hb ib (shifted es none n).length x.owed); rw [hl]; exact k1), k2, k3, b5, k5, h6, h7, h8, h9⟩
  obtain ⟨a1, a2⟩ := hat.set 2 (.int .i64 (x.next + n)) { x with next := x.next + n, ear := shifted es none n } rfl rfl (fun _ _ _ => rfl)
  have hlt1 := h1.lt
  have hlt3 := h3.lt
  have hlt4 := h4.lt
  refine ⟨a1, (s.mono fun k _ e => by rcases e with rfl | rfl <;> assumption).trans a2, ?_⟩
  have s' : St (fun k => k = hb ∨ k = ib ∨ k = sb) w3 (w5.setCell ⟨sb, 2, none⟩ (.int .i64 (x.next + n))) := by
    have c := ((s4.mono (G := fun k => k = hb ∨ k = ib ∨ k = sb) fun _ _ e => .inl e).trans' s5 fun _ _ e => .inr (.inl e))
    exact c.setCell k1 (by decide) (fun _ => .inr (.inr rfl)) _
  refine r3.off s' ?_
  intro k hk e
  obtain ⟨_, _, _, r⟩ := r3
  have := r k hk
  rcases e with rfl | rfl | rfl <;> omega

set_option maxRecDepth 100000 in
set_option maxHeartbeats 1000000 in
theorem put_any (S : Nat → Prop) (sb : Nat) (x : Str) (i : Nat) (vb : Value) (bs : List Int) (w : World) (h : StreamAt w S sb x) (hf : x.Fits) (hi : i < x.ear.length) (hv : Bod w vb bs) :
    Calls Try.prog 47 #[.pointer (some ⟨sb, 2, none⟩), .int .i64 (x.next + i), vb] w fun e w' => ∃ v, e = .returned v ∧ BRow w' (fun k => w.heap.size ≤ k) v (outs (x.ear.set i (some bs))) ∧ St S w w' ∧
      StreamAt w' S sb { x with next := x.next + (lead (x.ear.set i (some bs)) : Nat), ear := shifted (x.ear.set i (some bs)) none (lead (x.ear.set i (some bs))) } := by
  obtain ⟨i0, hi0, hz0, hz1, hz2⟩ := info_parts info28
  obtain ⟨vo, hb, ib, is, h1, h2, h3, h4, h5, h6, h7, h8, h9⟩ := h
  have H1 := hide h1
  have H2 := hide h2
  have H3 := hide h3
  have H4 := hide h4
  have H5 := hide h5
  obtain ⟨m0, m1, m2, m3, m4, m5⟩ := m6 h1
  obtain ⟨f0, g1, n0, n1, o1, e1⟩ := hf
  obtain ⟨Av, cv, rfl, _, _⟩ := hv.val
  have HV := hide hv
  have c3 := ear_cell h3 hi
  have fr3 := h3.frozen i
  have wr1 : IntKind.i64.wrap (x.next + (i : Int) - x.next) = (i : Int) := by rw [IntWalk.i64_in _ (by constructor <;> omega)]; omega
  have wr2 : x.next + (i : Int) - x.next = (i : Int) := by omega
  have wr3 : IntKind.i64.wrap (i : Int) = (i : Int) := IntWalk.i64_in _ (by constructor <;> omega)
  have i1 : (0 : Int) ≤ (i : Int) := by omega
  have i2 : (i : Int) < (x.ear.length : Int) := by omega
  have hisl : is.length = x.ear.length := h5.1
  clear h1 h2 h3 h4 h5 hv
  go_enter Try.func47, Try.ntmps47
  go_wp2
  go_still_tail 11, (by kernel_rfl)
  change wpList _ _ _ _ _ w.drew
  go_wp2
  obtain ⟨w1, hw1'⟩ : ∃ w1, w1 = (w.setCell ⟨hb, i, none⟩ (.bool true)).drew := ⟨_, rfl⟩
  rw [← hw1']
  have hw1 : w1 = w.drew.setCell ⟨hb, i, none⟩ (.bool true) := hw1'
  clear hw1'
  have k1 : Blk w1 sb 80 (strC x.first vo x.next hb ib x.ear.length x.owed) := by
    rw [hw1]; exact (H1.out.drew).far (p := ⟨hb, i, none⟩) (Blk.ne_ H1.out H3.out (by decide)) _
  have k4 : Blk w1 ib 28 is.toArray := by
    rw [hw1]; exact (H4.out.drew).far (p := ⟨hb, i, none⟩) (Blk.ne_ H4.out H3.out (by decide)) _
  have HW1 := hide hw1
  clear m0 m1 m2 m3 m4 m5 c3 fr3 hw1
  obtain ⟨m0, m1, m2, m3, m4, m5⟩ := m6 k1
  have c4 : w1.cell? ⟨ib, i, none⟩ = some (is[i]'(by omega)) := by rw [k4.cell]; simp
  have fr4 := k4.frozen i
  go_still_tail 12, (by kernel_rfl)
  change wpList _ _ _ _ _ w1.drew
  go_wp2_with fail
  obtain ⟨w2, hw2'⟩ : ∃ w2, w2 = (w1.setCell ⟨ib, i, none⟩ (.slice Av bs.length cv)).drew := ⟨_, rfl⟩
  rw [← hw2']
  have hw2 : w2 = ((w.drew.setCell ⟨hb, i, none⟩ (.bool true)).drew).setCell ⟨ib, i, none⟩ (.slice Av bs.length cv) := by
    rw [hw2', HW1.out]; rfl
  clear hw2' fr4 c4 m0 m1 m2 m3 m4 m5 k1 k4
  obtain ⟨h1, h2, h3, h4, h5, hst2⟩ := put_mem1 H1.out H2.out H3.out H4.out H5.out h6 h8 h9 HV.out hw2
  clear hw2 HW1 H1 H2 H3 H4 H5 HV
  have hlen : (x.ear.set i (some bs)).length = x.ear.length := by simp
  obtain ⟨es, hes⟩ : ∃ es, es = x.ear.set i (some bs) := ⟨_, rfl⟩
  obtain ⟨is2, his⟩ : ∃ is2, is2 = is.set i (.slice Av bs.length cv) := ⟨_, rfl⟩
  rw [← hes] at h3 h5 hlen
  rw [← his] at h4 h5
  have HES := hide hes
  clear hes his hisl wr1 wr2 wr3 i1 i2
  obtain ⟨m0, m1, m2, m3, m4, m5⟩ := m6 h1
  have hc : ∀ k, k < es.length → w2.cell? ⟨hb, k, none⟩ = some (.bool (es.getD k none).isSome) := fun k hk => ear_cell h3 hk
  have HC := hide hc
  have H1 := hide h1
  have H2 := hide h2
  have H3 := hide h3
  have H4 := hide h4
  have H5 := hide h5
  clear h1 h2 h3 h4 h5 hc
  have hle := lead_le es
  obtain ⟨n, hn⟩ : ∃ n, n = lead es := ⟨_, rfl⟩
  have HHERE : Hid (∀ k, k < n → (es.getD k none).isSome = true) := fun k hk => lead_here (by rw [← hn]; exact hk)
  have HSTOP : Hid (n < es.length → (es.getD n none).isSome = false) := fun hk => by
    subst hn
    exact lead_stop hk
  rw [← hn] at hle
  have HN := hide hn
  clear hn
  go_loop [7] (fun c => ∃ k : Nat, k ≤ n ∧ c = .int .i64 k) (fun c => n - (intOf c).toNat)
  case atStart => exact ⟨0, by omega, rfl⟩
  case round =>
    obtain ⟨k, hk, rfl⟩ := hrel
    by_cases hlt : k < n
    · have ck := HC.out k (by omega)
      rw [HHERE.out k hlt] at ck
      have j1 : k < x.ear.length := by omega
      go_wp2
      go_round
      case rel => exact ⟨k + 1, by omega, by go_num⟩
      case measure => simp [intOf]; omega
    · obtain rfl : k = n := by omega
      have HRD := hide (reads_blk (n := k) H4.out (by rw [H5.out.1]; exact hle))
      have hone2 : ∀ u ∈ is2.take k, u.oneCell' = true := fun u hu => H5.out.one u (List.mem_of_mem_take hu)
      have HONE : Hid (∀ u ∈ is2, u.oneCell' = true) := H5.out.one
      have hl2 : is2.length = x.ear.length := H5.out.1.trans hlen
      have HL2 := hide hl2
      have e0 : ¬ x.ear.length = 0 := by omega
      have hle' : k ≤ x.ear.length := by omega
      have HNE : Hid (sb ≠ hb ∧ sb ≠ ib ∧ ib ≠ hb) := ⟨Blk.ne_ H1.out H3.out (by decide), Blk.ne_ H1.out H4.out (by decide), Blk.ne_ H4.out H3.out (by decide)⟩
      have hcase : (k < x.ear.length ∧ w2.cell? ⟨hb, k, none⟩ = some (.bool false)) ∨ ¬ k < x.ear.length := by
        rcases Nat.lt_or_ge k x.ear.length with h | h
        · exact .inl ⟨h, by have := HC.out k (by omega); rwa [HSTOP.out (by omega)] at this⟩
        · exact .inr (by omega)
      clear hl2 HC HSTOP HHERE hlt hk
      rcases hcase with ⟨j1, ck⟩ | j1
      all_goals
        go_wp2_with (first
          | (at_builtin; refine wpList_append_any _ rfl _ _ _ rfl 0 28 i0 _ 1 24 Try.underlying36 hi0 hz0 hz1 hz2 rfl (by omega) (.slice none 0 0) 0 [] rfl (World.ownsRow_nil _ _ _ _) w2.heap.size _ _ _ (is2.take k) rfl HRD.out hone2 ?_ ?_ (Nat.zero_le _) ?_; (unfold maxLen; omega); omega; intro v3 w3 hown3 hg3 hat3; have hst3 := hide ((St.refl (fun _ => False) w2).grown_new hg3 (fun g e => by simp [Value.ownBlock] at e)); have kk1 := H1.out.st hst3.out (fun e => e); obtain ⟨q0, q1, q2, q3, q4, q5⟩ := m6 kk1; have KK1 := hide kk1; have B3 := hide (H3.out.st hst3.out (fun e => e)); have B4 := hide (H4.out.st hst3.out (fun e => e)); have HOWN3 := hide hown3; have HAT3 := hide hat3; have HSH := hide (shift4_any hb k (es.map fun (e : Option (List Int)) => Value.bool e.isSome) w3 B3.out (by intro u hu; simp at hu; obtain ⟨a, _, rfl⟩ := hu; rfl) (by simp; omega) (by simp; omega) (by simp; omega)); clear kk1 hown3 hat3 hg3)
          | (go_at_call 56; have hsh := HSH.out; simp only [List.length_map, hlen] at hsh; refine hsh.mono ?_; clear hsh; rintro e w4 ⟨rfl, hst4, hb4⟩; have HST4 := hide hst4; have HB4 := hide hb4; have kk4 := KK1.out.st hst4 HNE.out.1; obtain ⟨r0, r1, r2, r3, r4, r5⟩ := m6 kk4; have KK4 := hide kk4; have HSH2 := hide (shift28_any ib k is2 w4 (B4.out.st hst4 HNE.out.2.2) HONE.out (by rw [HL2.out]; omega) (by rw [HL2.out]; omega) (by rw [HL2.out]; omega)); clear hst4 hb4 kk4)
          | (go_at_call 57; have hsh := HSH2.out; rw [HL2.out] at hsh; refine hsh.mono ?_; clear hsh; rintro e w5 ⟨rfl, hst5, hb5⟩; have HST5 := hide hst5; have HB5 := hide hb5; have kk5 := KK4.out.st hst5 HNE.out.2.1; obtain ⟨t0, t1, t2, t3, t4, t5⟩ := m6 kk5; have ft2 := kk5.frozen 2; clear hst5 hb5 kk5))
        go_ret
        rw [← HES.out, ← HN.out]
        have h1' : Blk w2 sb 80 (strC x.first vo x.next hb ib es.length x.owed) := by rw [hlen]; exact H1.out
        have r3 : BRow w3 (fun q => w2.heap.size ≤ q) v3 (outs es) := by
          refine ⟨is2.take k, by rw [outs_len, ← HN.out]; simpa using HOWN3.out, ?_, fun q hq => ?_⟩
          · have := (H5.out.st hst3.out).outs
            rw [← HN.out] at this
            exact this
          · rcases HAT3.out with h | h <;> rw [h] at hq <;> simp [Value.ownBlock] at hq
            omega
        obtain ⟨a, b, c⟩ := put_mem2 h1' H2.out H3.out H4.out H5.out h6 h7 h8 h9 hle hst3.out HST4.out HB4.out HST5.out HB5.out r3
        exact ⟨v3, rfl, c.mono (fun q hq => Nat.le_trans hst2.size hq), hst2.trans b, a⟩
end Go.Proofs.Ytkkckinnhkpcmaa
