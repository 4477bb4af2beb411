/-
  Plain: how long a script's text may be.
-/
import Derived.Test.YtcibcmfaebbhnaaDoorZPrb
set_option linter.unusedVariables false
set_option linter.unusedSimpArgs false
namespace Go.Proofs.YtcibcmfaebbhnaaDoor
open Go.RowKit Go.WideShapes Go.ChangeShapes Q
/-- The law's bound: 300, and 220 for each event beside its body four times. -/
def shortN (es : List Ev) : Nat := 300 + (es.map fun e => 220 + 4 * e.bd.length).sum
theorem itoa_n {x : Int} (h0 : 0 ≤ x) (h1 : x ≤ 4611686018427387904) : (Lib.itoa x).length ≤ 19 := by
  obtain ⟨n, rfl⟩ : ∃ n : Nat, x = n := ⟨x.toNat, by omega⟩
  rw [itoa_nat]
  exact dec_len19 (by omega)
theorem itoa_2 {x : Int} (h0 : 0 ≤ x) (h1 : x < 16) : (Lib.itoa x).length ≤ 2 := by
  obtain ⟨n, rfl⟩ : ∃ n : Nat, x = n := ⟨x.toNat, by omega⟩
  rw [itoa_nat]
  exact dec_len 1 n (by show n < 100; omega)
/-- Numbers of an event that was read. -/
def NumOk (e : Ev) : Prop := (0 ≤ e.a ∧ e.a ≤ 4611686018427387904) ∧ (0 ≤ e.b ∧ e.b ≤ 4611686018427387904) ∧ (0 ≤ e.n ∧ e.n ≤ 4611686018427387904)
theorem num_zero (k : Int) : NumOk { Ev.zero with kd := k } := by
  show ((0 : Int) ≤ 0 ∧ (0 : Int) ≤ 4611686018427387904) ∧ ((0 : Int) ≤ 0 ∧ (0 : Int) ≤ 4611686018427387904) ∧ ((0 : Int) ≤ 0 ∧ (0 : Int) ≤ 4611686018427387904)
  decide
theorem thing_num {nodes : Nat} {e e' : Ev} {c : Lt} {w : Wd} (hn : NumOk e) (h : thingE nodes e c w = some e') : NumOk e' := by
  obtain ⟨⟨h1, h2⟩, ⟨h3, h4⟩, ⟨h5, h6⟩⟩ := hn
  cases c <;> simp only [thingE] at h
  case T => split at h <;> cases h; exact ⟨⟨h1, h2⟩, ⟨h3, h4⟩, ⟨h5, h6⟩⟩
  case X => split at h <;> cases h; exact ⟨⟨h1, h2⟩, ⟨h3, h4⟩, ⟨h5, h6⟩⟩
  all_goals
    cases hw : wcnt w with
    | none => rw [hw] at h; cases h
    | some x =>
      have hx := wcnt_le hw
      rw [hw] at h
      simp only at h
      first
        | (split at h <;> cases h; refine ⟨⟨?_, ?_⟩, ⟨?_, ?_⟩, ⟨?_, ?_⟩⟩ <;> simp only <;> omega)
        | (cases h; refine ⟨⟨?_, ?_⟩, ⟨?_, ?_⟩, ⟨?_, ?_⟩⟩ <;> simp only <;> omega)
/-- What else an event that was read may hold. -/
def BodOk (e : Ev) : Prop := e.key.length ≤ 16 ∧ e.val.length ≤ 16 ∧ e.old.length ≤ 16 ∧ e.sd.length ≤ 16 ∧ (∀ x ∈ e.sd, 0 ≤ x ∧ x < 16) ∧ e.bd.length ≤ 40000 ∧ 0 ≤ e.op ∧ e.op ≤ 9
theorem bod_zero (k : Int) : BodOk { Ev.zero with kd := k } := ⟨Nat.zero_le _, Nat.zero_le _, Nat.zero_le _, Nat.zero_le _, fun x hx => (by cases hx), Nat.zero_le _, Int.le_refl 0, (by show (0 : Int) ≤ 9; decide)⟩
theorem thing_bod {nodes : Nat} {e e' : Ev} {c : Lt} {w : Wd} (hn : BodOk e) (h : thingE nodes e c w = some e') : BodOk e' := by
  obtain ⟨h1, h2, h3, h4, h5, h6, h7, h8⟩ := hn
  cases c <;> simp only [thingE] at h
  case T =>
    split at h
    · rename_i hc
      cases h
      exact ⟨h1, h2, h3, h4, h5, (by show w.1.length ≤ 40000; omega), h7, h8⟩
    · cases h
  case X =>
    split at h
    · rename_i hc
      cases h
      exact ⟨h1, h2, h3, h4, h5, hc.2, h7, h8⟩
    · cases h
  all_goals
    cases hw : wcnt w with
    | none => rw [hw] at h; cases h
    | some x =>
      rw [hw] at h
      simp only at h
      first
        | (split at h <;> cases h; exact ⟨h1, h2, h3, h4, h5, h6, h7, h8⟩)
        | (cases h; exact ⟨h1, h2, h3, h4, h5, h6, h7, h8⟩)
theorem opNo_le (s : List UInt8) : opNo s ≤ 9 := by
  unfold opNo
  split
  · rename_i i hi
    have := (List.findIdx?_eq_some_iff_findIdx_eq.1 hi).1
    have e : opL.length = 9 := rfl
    omega
  · exact Nat.zero_le _
theorem things_num {nodes : Nat} : ∀ (cs : List Lt) (ws : List Wd) (e e' : Ev), NumOk e → BodOk e → thingsE nodes cs ws e = some e' → NumOk e' ∧ BodOk e' ∧ e'.kd = e.kd
  | [], [], e, e', hn, hb, h => by injection h with h; subst h; exact ⟨hn, hb, rfl⟩
  | [], _ :: _, _, _, _, _, h => by cases h
  | _ :: _, [], _, _, _, _, h => by cases h
  | c :: cs, w :: ws, e, e', hn, hb, h => by
    unfold thingsE at h
    cases h1 : thingE nodes e c w with
    | none => rw [h1] at h; cases h
    | some e1 =>
      rw [h1] at h
      have := things_num cs ws e1 e' (thing_num hn h1) (thing_bod hb h1) h
      exact ⟨this.1, this.2.1, this.2.2.trans (thing_kd h1)⟩
theorem txtE_len {w : Wd} {x : List UInt8} (h : txtE w = some x) : x.length ≤ 16 := by
  unfold txtE at h
  split at h
  · rename_i h1
    injection h with h
    subst h
    exact h1.2
  · cases h
theorem txts_fit {e e' : Ev} (h1 : e.key = []) (h2 : e.val = []) (h3 : e.old = []) : ∀ {ws : List Wd}, txtsE e ws = some e' → e'.kd = e.kd ∧ e'.a = e.a ∧ e'.b = e.b ∧ e'.n = e.n ∧ e'.sd = e.sd ∧ e'.bd = e.bd ∧ e'.op = e.op ∧ e'.key.length ≤ 16 ∧ e'.val.length ≤ 16 ∧ e'.old.length ≤ 16
  | [], h => by cases h
  | [k], h => by
    simp only [txtsE] at h
    cases hk : txtE k with
    | none => rw [hk] at h; cases h
    | some x =>
      rw [hk] at h
      injection h with h
      subst h
      exact ⟨rfl, rfl, rfl, rfl, rfl, rfl, rfl, txtE_len hk, by simp [h2], by simp [h3]⟩
  | [k, v], h => by
    simp only [txtsE] at h
    cases hk : txtE k with
    | none => rw [hk] at h; cases h
    | some x =>
      cases hv : txtE v with
      | none => rw [hk, hv] at h; cases h
      | some y =>
        rw [hk, hv] at h
        injection h with h
        subst h
        exact ⟨rfl, rfl, rfl, rfl, rfl, rfl, rfl, txtE_len hk, txtE_len hv, by simp [h3]⟩
  | [k, v, o], h => by
    simp only [txtsE] at h
    cases hk : txtE k with
    | none => rw [hk] at h; cases h
    | some x =>
      cases hv : txtE v with
      | none => rw [hk, hv] at h; cases h
      | some y =>
        cases ho : txtE o with
        | none => rw [hk, hv, ho] at h; cases h
        | some z =>
          rw [hk, hv, ho] at h
          injection h with h
          subst h
          exact ⟨rfl, rfl, rfl, rfl, rfl, rfl, rfl, txtE_len hk, txtE_len hv, txtE_len ho⟩
  | _ :: _ :: _ :: _ :: _, h => by cases h
theorem sides_fit : ∀ (ws : List Wd) (l : List Int), sidesE ws = some l → l.length = ws.length ∧ ∀ x ∈ l, 0 ≤ x ∧ x < 16
  | [], l, h => by injection h with h; subst h; exact ⟨rfl, fun x hx => by cases hx⟩
  | w :: ws, l, h => by
    unfold sidesE at h
    cases hw : wcnt w with
    | none => rw [hw] at h; cases h
    | some x =>
      rw [hw] at h
      simp only at h
      split at h
      · rename_i hx
        obtain ⟨l', hl, rfl⟩ := Option.map_eq_some_iff.1 h
        have ih := sides_fit ws l' hl
        refine ⟨by simp [ih.1], fun y hy => ?_⟩
        rcases List.mem_cons.1 hy with rfl | hy
        · omega
        · exact ih.2 y hy
      · cases h
/-- What an event that was read may be. -/
structure Fit (e : Ev) : Prop where
  num : NumOk e
  bod : BodOk e
  d : e.kd = 4 → e.a < 16
theorem fit_zero : Fit Ev.zero := ⟨num_zero 0, bod_zero 0, fun h => (by cases h)⟩
theorem event_fit {nodes : Nat} (hn : nodes ≤ 16) {ws : List Wd} {e : Ev} (h : eventE nodes ws = some e) : Fit e := by
  cases ws with
  | nil => cases h
  | cons w ws =>
    rw [eventE] at h
    split at h
    · cases h
    · split at h
      · unfold doE at h
        split at h
        · rename_i p o ts
          split at h
          · rename_i x hp
            split at h
            · rename_i hc
              obtain ⟨h1, h2, h3, h4, s1, s2, s3, h5, h6, h7⟩ := txts_fit (e := { Ev.zero with kd := 4, a := x, op := opNo o.1 }) rfl rfl rfl h
              have hx := wcnt_le hp
              have ho := opNo_le o.1
              have h2' : e.a = (x : Int) := h2
              have h3' : e.b = 0 := h3
              have h4' : e.n = 0 := h4
              have s1' : e.sd = [] := s1
              have s2' : e.bd = [] := s2
              have s3' : e.op = (opNo o.1 : Nat) := s3
              refine ⟨⟨⟨?_, ?_⟩, ⟨?_, ?_⟩, ⟨?_, ?_⟩⟩, ⟨h5, h6, h7, ?_, ?_, ?_, ?_, ?_⟩, fun _ => ?_⟩
              case refine_7 => rw [s1']; exact Nat.zero_le _
              case refine_8 => rw [s1']; intro x hx; cases hx
              case refine_9 => rw [s2']; exact Nat.zero_le _
              all_goals omega
            · cases h
          · cases h
        · cases h
      · split at h
        · unfold splitE at h
          split at h
          · rename_i hl
            obtain ⟨l, hl2, rfl⟩ := Option.map_eq_some_iff.1 h
            have hs := sides_fit ws l hl2
            obtain ⟨b1, b2, b3, _, _, b6, b7, b8⟩ := bod_zero 11
            exact ⟨num_zero 11, ⟨b1, b2, b3, (by show l.length ≤ 16; omega), hs.2, b6, b7, b8⟩, fun h => (by cases h)⟩
          · cases h
        · split at h
          · rename_i f hf
            have hm := List.mem_of_find?_eq_some hf
            have hk : formL.all (fun f => decide (f.2.1 ≠ 4)) = true := by decide +kernel
            have hk2 := List.all_eq_true.1 hk f hm
            simp only [decide_eq_true_eq] at hk2
            obtain ⟨h1, h2, h3⟩ := things_num f.2.2 ws _ e (num_zero f.2.1) (bod_zero f.2.1) h
            have h3 : e.kd = f.2.1 := h3
            exact ⟨h1, h2, fun h => absurd (h3.symm.trans h) hk2⟩
          · cases h
theorem lineE_fit {n : Int} {x : List UInt8} : Fit (lineE n x) := by
  unfold lineE
  split
  · rename_i hn
    split
    · rename_i ws hw
      cases he : eventE n.toNat ws with
      | none => exact fit_zero
      | some e => exact event_fit (by omega) he
    · exact fit_zero
  · exact fit_zero
/-- An event that was read may be written. -/
theorem fit_ok {m : Em} (h : Fit m.ev) (hn : m.sd.length = m.ns) (hb : m.bd.length = m.nb) : EvOk m := by
  obtain ⟨⟨a1, a2⟩, ⟨b1, b2⟩, ⟨n1, n2⟩⟩ := h.num
  obtain ⟨k1, k2, k3, k4, k5, k6, k7, k8⟩ := h.bod
  have e1 : m.key.data.toList.length = m.key.size := str_len m.key
  have e2 : m.val.data.toList.length = m.val.size := str_len m.val
  have e3 : m.old.data.toList.length = m.old.size := str_len m.old
  have q1 : m.key.data.toList.length ≤ 16 := k1
  have q2 : m.val.data.toList.length ≤ 16 := k2
  have q3 : m.old.data.toList.length ≤ 16 := k3
  have q4 : m.sd.length ≤ 16 := k4
  have q6 : m.bd.length ≤ 40000 := k6
  have c1 : 0 ≤ m.a := a1
  have c2 : m.a ≤ 4611686018427387904 := a2
  have c3 : 0 ≤ m.b := b1
  have c4 : m.b ≤ 4611686018427387904 := b2
  have c5 : 0 ≤ m.n := n1
  have c6 : m.n ≤ 4611686018427387904 := n2
  have c7 : 0 ≤ m.op := k7
  have c8 : m.op ≤ 9 := k8
  refine ⟨⟨by omega, by omega⟩, ⟨by omega, by omega⟩, ⟨by omega, by omega⟩, fun x hx => ?_, ⟨by omega, by omega⟩, ?_⟩
  · have := k5 x hx
    exact ⟨by omega, by omega⟩
  · exact ⟨by omega, by omega, by omega, by omega, by omega⟩
theorem cat_len (x : List UInt8) : ∀ ps : List (List UInt8), (cat x ps).length = x.length + (ps.map fun p => 1 + p.length).sum
  | [] => by simp [cat]
  | p :: ps => by
    have ih := cat_len x ps
    unfold cat at ih ⊢
    rw [List.length_append] at ih
    rw [List.flatMap_cons, List.length_append, List.length_append, List.length_cons, List.map_cons, List.sum_cons]
    omega
theorem opL_len (k : Nat) : (opL.getD k []).length ≤ 6 := by
  by_cases h : k < 9
  · have : ∀ i : Fin 9, (opL.getD i.val []).length ≤ 6 := by decide +kernel
    exact this ⟨k, h⟩
  · rw [List.getD_eq_getElem?_getD, List.getElem?_eq_none (by show 9 ≤ k; omega)]
    exact Nat.zero_le _
def ltCost : Lt → Nat × Nat
  | .T => (2, 4)
  | .X => (2, 4)
  | _ => (19, 0)
theorem lt_cost {e : Ev} (h : NumOk e) : ∀ c, (ltT e c).length ≤ (ltCost c).1 + (ltCost c).2 * e.bd.length
  | .P => by have := itoa_n h.1.1 h.1.2; show (Lib.itoa e.a).length ≤ 19 + 0 * _; omega
  | .K => by have := itoa_n h.1.1 h.1.2; show (Lib.itoa e.a).length ≤ 19 + 0 * _; omega
  | .Q => by have := itoa_n h.2.1.1 h.2.1.2; show (Lib.itoa e.b).length ≤ 19 + 0 * _; omega
  | .N => by have := itoa_n h.2.2.1 h.2.2.2; show (Lib.itoa e.n).length ≤ 19 + 0 * _; omega
  | .D => by have := itoa_n h.2.2.1 h.2.2.2; show (Lib.itoa e.n).length ≤ 19 + 0 * _; omega
  | .T => by have := quote_sz e.bd; show (quoteL e.bd).length ≤ 2 + 4 * _; omega
  | .X => by have := quote_sz e.bd; show (quoteL e.bd).length ≤ 2 + 4 * _; omega
theorem lts_cost {e : Ev} (h : NumOk e) : ∀ cs : List Lt, ((cs.map (ltT e)).map fun p => 1 + p.length).sum ≤ (cs.map fun c => 1 + (ltCost c).1).sum + (cs.map fun c => (ltCost c).2).sum * e.bd.length
  | [] => by simp
  | c :: cs => by
    have ih := lts_cost h cs
    have h1 := lt_cost h c
    simp only [List.map_cons, List.sum_cons] at ih ⊢
    rw [Nat.add_mul]
    omega
theorem sum_le (M : Nat) : ∀ l : List Nat, (∀ x ∈ l, x ≤ M) → l.sum ≤ M * l.length
  | [], _ => by simp
  | x :: l, h => by
    have h1 := h x (by simp)
    have ih := sum_le M l (fun y hy => h y (by simp [hy]))
    rw [List.sum_cons, List.length_cons, Nat.mul_add]
    omega
/-- The longest line. -/
theorem lineT_len {e : Ev} (h : Fit e) : (lineT e).length ≤ 219 + 4 * e.bd.length := by
  unfold lineT lineW
  split
  · rename_i h4
    have ha := h.d h4
    obtain ⟨hk, hv, ho, _⟩ := h.bod
    have h1 := itoa_2 h.num.1.1 ha
    have q1 := quote_sz e.key
    have q2 := quote_sz e.val
    have q3 := quote_sz e.old
    have q4 := opL_len (e.op.toNat - 1)
    rw [cat_join, cat_len]
    split
    · unfold askW
      simp only [List.map_cons, List.sum_cons, List.map_append, List.sum_append, List.length_cons, List.length_nil]
      have e1 : ((if e.val ≠ [] ∨ e.old ≠ [] then [quoteL e.val] else []).map fun p => 1 + p.length).sum ≤ 67 := by
        split
        · simp only [List.map_cons, List.map_nil, List.sum_cons, List.sum_nil]; omega
        · exact Nat.zero_le _
      have e2 : ((if e.old ≠ [] then [quoteL e.old] else []).map fun p => 1 + p.length).sum ≤ 67 := by
        split
        · simp only [List.map_cons, List.map_nil, List.sum_cons, List.sum_nil]; omega
        · exact Nat.zero_le _
      omega
    · simp only [List.map_cons, List.map_nil, List.sum_cons, List.sum_nil, List.length_cons, List.length_nil]
      omega
  · split
    · rename_i h11
      obtain ⟨_, _, _, hl, hs, _⟩ := h.bod
      rw [cat_join, cat_len]
      have := sum_le 3 ((e.sd.map Lib.itoa).map fun p => 1 + p.length) (by
        intro x hx
        obtain ⟨p, hp, rfl⟩ := List.mem_map.1 hx
        obtain ⟨y, hy, rfl⟩ := List.mem_map.1 hp
        have := itoa_2 (hs y hy).1 (hs y hy).2
        omega)
      rw [List.length_map, List.length_map] at this
      simp only [List.length_cons, List.length_nil]
      omega
    · split
      · rename_i f hf
        have hm := List.mem_of_find?_eq_some hf
        have hk : formL.all (fun f => decide (f.1.length + (f.2.2.map fun c => 1 + (ltCost c).1).sum ≤ 219) && decide ((f.2.2.map fun c => (ltCost c).2).sum ≤ 4)) = true := by decide +kernel
        have hk2 := List.all_eq_true.1 hk f hm
        simp only [Bool.and_eq_true, decide_eq_true_eq] at hk2
        have hc := lts_cost h.num f.2.2
        have hm := Nat.mul_le_mul_right e.bd.length hk2.2
        rw [cat_join, cat_len]
        omega
      · exact Nat.zero_le _
theorem writ_len {n : Int} {e : Ev} (h : lineE n (writT e) = e) : (writT e).length ≤ 219 + 4 * e.bd.length := by
  have hf : Fit e := by rw [← h]; exact lineE_fit
  unfold writT
  split
  · exact Nat.zero_le _
  · exact lineT_len hf
theorem lines_short {n : Int} : ∀ (es : List Ev) (t : List UInt8), linesT n es = some t → t.length ≤ (es.map fun e => 220 + 4 * e.bd.length).sum
  | [], t, h => by
    injection h with h
    subst h
    exact Nat.zero_le _
  | e :: es, t, h => by
    rw [linesT] at h
    split at h
    · rename_i hp
      obtain ⟨t', ht, rfl⟩ := Option.map_eq_some_iff.1 h
      have ih := lines_short es t' ht
      obtain ⟨p1, p2, p3, _, _⟩ := printE_yes hp
      have h1 := writ_len p3
      rw [p1, List.map_cons, List.sum_cons, List.length_append, List.length_append, List.length_singleton]
      omega
    · cases h
theorem pairsT_len (M : Nat) : ∀ (l : List (List UInt8 × List UInt8)), (∀ p ∈ l, p.1.length + p.2.length ≤ M) → (pairsT l).length ≤ (M + 2) * l.length
  | [], _ => by simp [pairsT]
  | p :: r, h => by
    have h1 := h p (by simp)
    have ih := pairsT_len M r (fun q hq => h q (by simp [hq]))
    rw [pairsT, List.length_cons, List.length_append, List.length_cons, List.length_append, List.length_cons, Nat.mul_add]
    omega
theorem votT_len : ∀ l : List Int, (∀ v ∈ l, 0 ≤ v ∧ v ≤ 9) → (votT l).length ≤ 2 * l.length
  | [], _ => by simp [votT]
  | v :: l, h => by
    have h1 := h v (by simp)
    have ih := votT_len l (fun x hx => h x (by simp [hx]))
    have h2 := dec_len 0 v.toNat (by show v.toNat < 10; omega)
    rw [votT_cons, List.length_cons, List.length_append, List.length_cons]
    omega
theorem head_short {c : Cfg} (h : c.Ok) : (headTx c).length ≤ 300 := by
  have h1 := h.nodes
  have h2 := h.window
  have h3 := h.cap
  have h4 := h.base
  have h5 := h.step
  have h6 := h.room
  have h7 := h.floor
  have h8 := h.len
  have e1 : (headL2 c).length + 1 ≤ 189 := by
    have e := congrArg List.length (headL2_eq c)
    rw [List.length_cons] at e
    rw [e]
    refine Nat.le_trans (pairsT_len 25 _ ?_) (by rw [List.length_map]; exact Nat.le_refl _)
    intro p hp
    obtain ⟨x, hx, rfl⟩ := List.mem_map.1 hp
    have hb : x.1.length ≤ 6 ∧ x.2 ≤ 4611686018427387904 := by
      simp only [prs, List.mem_cons, List.mem_nil_iff, or_false] at hx
      rcases hx with rfl | rfl | rfl | rfl | rfl | rfl | rfl
      · refine ⟨names_len 0, ?_⟩
        simp only
        omega
      · refine ⟨names_len 1, ?_⟩
        simp only
        omega
      · refine ⟨names_len 2, ?_⟩
        simp only
        omega
      · refine ⟨names_len 3, ?_⟩
        simp only
        omega
      · refine ⟨names_len 4, ?_⟩
        simp only
        omega
      · refine ⟨names_len 5, ?_⟩
        simp only
        omega
      · refine ⟨names_len 6, ?_⟩
        simp only
        omega
    have hz : (Lib.decDigits x.2).length ≤ 19 := dec_len19 (n := x.2) (by have := hb.2; omega)
    show x.1.length + (Lib.decDigits x.2).length ≤ 25
    omega
  have e2 : (headL3 c).length ≤ 37 := by
    have := votT_len c.votes (vots_fine h)
    unfold headL3
    rw [List.length_append]
    show 5 + _ ≤ 37
    omega
  rw [headTx_eq, List.length_append, List.length_cons, List.length_append, List.length_cons, List.length_append]
  show 9 + (_ + (_ + 1) + 1) ≤ 300
  simp only [List.length_cons, List.length_nil]
  omega
/-- A text beyond its bound is beyond this one. -/
theorem print_long {s : Sc} {x : List UInt8} (h : printS s = (x, 20)) : 400000 < shortN s.es := by
  unfold printS at h
  rcases err_cases s.c with ⟨h0, hok⟩ | h0
  · rw [if_pos h0] at h
    split at h
    · cases h
    · split at h
      · cases h
      · rename_i t ht
        split at h
        · rename_i hl
          have h1 := lines_short _ _ ht
          have h2 := head_short hok
          rw [List.length_append] at hl
          unfold shortN
          omega
        · cases h
  · rw [if_neg (by rw [h0]; decide), h0] at h
    cases h
end Go.Proofs.YtcibcmfaebbhnaaDoor
