/-
  Contract of the laws' alone: each list of a list of lists has its own marks alone.
-/
import Derived.Test.YteckffndboiknaaGrown
set_option linter.unusedVariables false
set_option linter.unusedSimpArgs false
namespace Go.Proofs.Yteckffndboiknaa
open Go.RowKit Go.WideShapes Go.ChangeShapes Q

def rep (n : Nat) (x : Int) : List Int := List.replicate n x
theorem rep_len (n : Nat) (x : Int) : (rep n x).length = n := by simp [rep]
theorem rep_succ (n : Nat) (x : Int) : rep (n + 1) x = rep n x ++ [x] := by simp [rep, List.replicate_succ']
theorem rep_take (n m : Nat) (x : Int) : (ints (rep (n + m) x)).take n = ints (rep n x) := by simp [ints, rep]
theorem nth_rep {n j : Nat} {x : Int} (h : j < n) : nth (rep n x) j = x := by simp [nth, rep, h]
def mkV (k : Nat) : Int := -1000 - (k : Int)
/-- Content of a list while it is written over, j places of it. -/
def part (l : List Int) (j : Nat) (x : Int) : List Int := rep j x ++ l.drop j
theorem part_zero (l : List Int) (x : Int) : part l 0 x = l := by simp [part, rep]
theorem part_full (l : List Int) (x : Int) : part l l.length x = rep l.length x := by simp [part]
theorem part_set {l : List Int} {j : Nat} (x : Int) (hj : j < l.length) : (ints (part l j x)).set j (.int .i64 x) = ints (part l (j + 1) x) := by
  unfold part ints
  rw [rep_succ, List.map_append, List.map_append, List.map_append, List.drop_eq_getElem_cons hj, List.map_cons, List.set_append_right _ _ (by simp [rep])]
  simp [rep]
theorem nd_at {es : List En} (h : (es.map En.g).Nodup) {i k : Nat} {e e' : En} (hi : es[i]? = some e) (hk : es[k]? = some e') (hne : i ≠ k) : e.g ≠ e'.g := by
  have hp := List.pairwise_iff_getElem.1 h
  have hi2 := (List.getElem?_eq_some_iff.1 hi)
  have hk2 := (List.getElem?_eq_some_iff.1 hk)
  obtain ⟨hil, hie⟩ := hi2
  obtain ⟨hkl, hke⟩ := hk2
  rcases Nat.lt_or_ge i k with h1 | h1
  · have := hp i k (by simpa using hil) (by simpa using hkl) h1
    simpa [hie, hke] using this
  · have := hp k i (by simpa using hkl) (by simpa using hil) (by omega)
    simp [hie, hke] at this
    exact fun e => this e.symm
theorem en_block {e : En} {q : Nat} : e.v.ownBlock = some q ↔ e.g = q := by simp [En.v, Value.ownBlock]
theorem row_far {w w' : World} {base n : Nat} {v : Value} {xs : List Value} {F : Nat → Prop} (h : w.ownsRow base 32 1 v n xs) (ho : Only F w w') (hF : ∀ q, q < w.heap.size → F q → ∃ cs, Blk w q 3 cs) : w'.ownsRow base 32 1 v n xs := by
  refine own_only h ho fun q hq hf => ?_
  obtain ⟨cs, hb⟩ := hF q (own_lt h q hq) hf
  exact own_ne h hb (by decide) hq.symm

/-- The state while the lists are grown: es: the lists, written over; ms: those grown so far. -/
structure AS (w wr : World) (base bA : Nat) (v v5 : Value) (es ms : List En) : Prop where
  row : wr.ownsRow base 32 1 v es.length (es.map En.v)
  more : wr.ownsRow bA 32 1 v5 ms.length (ms.map En.v)
  ent : ∀ k e, es[k]? = some e → wr.ownsRow base 3 1 e.v e.l.length (ints (rep e.l.length (mkV k)))
  new : ∀ k m, ms[k]? = some m → wr.ownsRow base 3 1 m.v m.l.length (ints m.l) ∧ ∃ e, es[k]? = some e ∧ m.l = rep (e.l.length + 64) (mkV k) ∧ (m.g = e.g ∨ bA ≤ m.g)
  only : Only (fun q => ∃ e ∈ es, q = e.g) w wr
  big : bA ≤ wr.heap.size
  low : ∀ e ∈ es, e.g < bA
  vlow : ∀ q, v.ownBlock = some q → q < bA
  wlow : w.heap.size ≤ bA
theorem grown_only {w w' : World} {o : Obj} {u : Value} (hg : (w.alloc o).grownBy w' u.ownBlock) : Only (fun q => u.ownBlock = some q) w w' :=
  ((Only.refl (fun q => u.ownBlock = some q) w).alloc o).trans' (G := fun q => u.ownBlock = some q) (Only.of_grown hg fun g e _ => e) (fun _ _ e => e)
theorem own_blk3 {w : World} {base n : Nat} {u : Value} {xs : List Value} (h : w.ownsRow base 3 1 u n xs) {q : Nat} (hq : u.ownBlock = some q) : ∃ cs, Blk w q 3 cs := by
  rcases h.2 with ⟨rfl, _⟩ | ⟨g, cap, cur, rfl, _, hg, _⟩
  · cases hq
  · have : g = q := by simpa [Value.ownBlock] using hq
    subst this
    exact ⟨cur, hg⟩
theorem AS.grow {w wr wz : World} {base bA : Nat} {v v5 u : Value} {es ms : List En} (h : AS w wr base bA v v5 es ms) (hnd : (es.map En.g).Nodup) {i gb j : Nat} {e : En} (hi : es[i]? = some e) (hu : u.ownBlock = some gb) (hgb : gb = e.g ∨ bA ≤ gb)
    (hms : ∀ (k : Nat) (m : En), ms[k]? = some m → m.g ≠ gb) (hown : wr.ownsRow base 3 1 u (e.l.length + j) (ints (rep (e.l.length + j) (mkV i)))) {o : Obj}
    (hgr : (wr.alloc o).grownBy wz u.ownBlock) (hold : wz.ownsRow base 3 1 u (e.l.length + j) (ints (rep (e.l.length + j) (mkV i)))) : AS w wz base bA v v5 es ms := by
  have ho := grown_only hgr
  have hF : ∀ q, q < wr.heap.size → u.ownBlock = some q → ∃ cs, Blk wr q 3 cs := fun q _ hq => own_blk3 hown hq
  have hemem := List.mem_of_getElem? hi
  refine ⟨row_far h.row ho hF, row_far h.more ho hF, fun k e' hk => ?_, fun k m hk => ?_, ?_, by have := ho.size; have := h.big; omega, h.low, h.vlow, h.wlow⟩
  · by_cases hki : k = i
    · subst hki
      rw [hi] at hk
      injection hk with hk
      subst hk
      exact own_pushk ((h.ent k e hi).alloc o) (hown.alloc o) (rep_take _ _ _) (Nat.le_add_right _ _) hgr hold
    · refine own_only (h.ent k e' hk) ho fun q hq1 hq2 => ?_
      rw [en_block] at hq1
      rw [hu] at hq2
      injection hq2 with hq2
      subst hq1
      rcases hgb with e1 | e1
      · exact nd_at hnd hk hi hki (by rw [← e1, hq2])
      · have := h.low e' (List.mem_of_getElem? hk); omega
  · refine ⟨own_only (h.new k m hk).1 ho fun q hq1 hq2 => ?_, (h.new k m hk).2⟩
    rw [en_block] at hq1
    rw [hu] at hq2
    injection hq2 with hq2
    exact hms k m hk (by omega)
  · refine h.only.trans' ho fun q hq1 hq2 => ?_
    rw [hu] at hq2
    injection hq2 with hq2
    rcases hgb with e1 | e1
    · exact ⟨e, hemem, by omega⟩
    · have := h.wlow; omega
theorem AS.more_ {w wr wz : World} {base bA : Nat} {v v5 v6 : Value} {es ms : List En} (h : AS w wr base bA v v5 es ms) {m : En} {e : En} (hm : wr.ownsRow base 3 1 m.v m.l.length (ints m.l)) (he : es[ms.length]? = some e) (hl : m.l = rep (e.l.length + 64) (mkV ms.length)) (hg : m.g = e.g ∨ bA ≤ m.g)
    (hown : wz.ownsRow bA 32 1 v6 (ms.length + 1) (ms.map En.v ++ #[m.v].toList)) (hgr : (wr.alloc (.cells #[m.v] 32)).grownBy wz v5.ownBlock) : AS w wz base bA v v6 es (ms ++ [m]) := by
  have hk := K3.grown h.more hgr
  have ho := grown_only hgr
  have own3 : ∀ {n : Nat} {u : Value} {xs : List Value}, wr.ownsRow base 3 1 u n xs → wz.ownsRow base 3 1 u n xs := by
    intro n u xs h3
    refine ⟨h3.1, ?_⟩
    rcases h3.2 with h0 | ⟨g, cap, cur, e1, e2, hg, rest⟩
    · exact .inl h0
    · exact .inr ⟨g, cap, cur, e1, e2, hk g 3 cur (.inl rfl) hg, rest⟩
  refine ⟨own_only h.row ho (fun q hq1 hq2 => by have := h.vlow q hq1; have := (h.more.lt q hq2).1; omega), by rw [List.length_append, List.map_append]; exact hown, fun k e' hk' => own3 (h.ent k e' hk'), fun k m' hk' => ?_, ?_, by have := ho.size; have := h.big; omega, h.low, h.vlow, h.wlow⟩
  · rcases Nat.lt_or_ge k ms.length with h1 | h1
    · rw [List.getElem?_append_left h1] at hk'
      exact ⟨own3 (h.new k m' hk').1, (h.new k m' hk').2⟩
    · rw [List.getElem?_append_right h1] at hk'
      have h2 : k - ms.length = 0 := by
        have := (List.getElem?_eq_some_iff.1 hk').1
        simp at this
        omega
      rw [h2] at hk'
      simp at hk'
      subst hk'
      have h3 : k = ms.length := by omega
      subst h3
      exact ⟨own3 hm, e, he, hl, hg⟩
  · exact h.only.trans' ho fun q hq1 hq2 => by have := (h.more.lt q hq2).1; have := h.wlow; omega

theorem row_cell {wr : World} {base N c i : Nat} {v : Value} {A : Option Addr} {es : List En} {e : En} (h : wr.ownsRow base 32 1 v N (es.map En.v)) (hv : v = .slice A N c) (hi : es[i]? = some e) (hlt : i < N) : ∃ ad, A = some ad ∧ wr.cell? (ad.add i) = some e.v := by
  subst hv
  obtain ⟨ad, u, hA, _, hu, hc⟩ := (Reads.of_own h).at_ hlt
  rw [List.getElem?_map, hi] at hu
  injection hu with hu
  subst hu
  exact ⟨ad, hA, hc⟩
/-- What the lists show. -/
def CO (wr : World) (base : Nat) (es : List En) (f : Nat → En → List Int) : Prop := ∀ (k : Nat) (e : En), es[k]? = some e → wr.ownsRow base 3 1 e.v e.l.length (ints (f k e))
theorem CO.congr {wr : World} {base : Nat} {es : List En} {f g : Nat → En → List Int} (h : CO wr base es f) (hfg : ∀ k e, es[k]? = some e → f k e = g k e) : CO wr base es g := fun k e hk => by rw [← hfg k e hk]; exact h k e hk
theorem CO.set {wr : World} {base i j : Nat} {es : List En} {f g : Nat → En → List Int} (h : CO wr base es f) (hnd : (es.map En.g).Nodup) {e : En} (hi : es[i]? = some e) {u : Value} (hs : (ints (f i e)).set j u = ints (g i e)) (ho : ∀ k e, es[k]? = some e → k ≠ i → f k e = g k e) :
    CO (wr.setCell ⟨e.g, j, none⟩ u) base es g := by
  intro k e' hk
  by_cases hki : k = i
  · subst hki
    rw [hi] at hk
    injection hk with hk
    subst hk
    have := (World.ownsRow.stored (g := e.g) (cap := e.cap) (h k e hi) j u).1
    rw [hs] at this
    exact this
  · rw [← ho k e' hk hki]
    refine own_only (h k e' hk) ((Only.refl (fun q => q = e.g) wr).setCell (p := ⟨e.g, j, none⟩) (fun _ => rfl) u) fun q hq1 hq2 => ?_
    rw [en_block] at hq1
    exact nd_at hnd hk hi hki (by omega)

set_option maxRecDepth 100000 in
set_option maxHeartbeats 4000000 in
theorem alone_true (base : Nat) (A : Option Addr) (c : Nat) (es : List En) (w : World) (h : LL w base (.slice A es.length c) es) (hn : es.length ≤ 1000000) (hb : base ≤ w.heap.size) :
    Calls Try.prog 40 #[.slice A es.length c] w fun e w' => e = .returned (.bool true) ∧ Only (fun q => ∃ e ∈ es, q = e.g) w w' := by
  obtain ⟨N, hN⟩ : ∃ N, N = es.length := ⟨_, rfl⟩
  obtain ⟨i3, hi3, hz3, hs3, hb3⟩ := info_parts info3
  obtain ⟨i32, hi32, hz32, hs32, hb32⟩ := info_parts info32
  have I3 := hide hi3
  have I32 := hide hi32
  have HN := hide hN
  have HND := hide h.nd
  have HSH := hide h.sh
  have HL := hide h
  rw [← hN] at hn HL ⊢
  obtain ⟨v, hv⟩ : ∃ v, v = Value.slice A N c := ⟨_, rfl⟩
  rw [← hv] at HL
  have HV := hide hv
  have HROW : Hid (w.ownsRow base 32 1 v N (es.map En.v)) := by have := HL.out.row; rw [← hN] at this; exact this
  have HBLK : Hid (∀ q, q < w.heap.size → (∃ e ∈ es, q = e.g) → ∃ cs, Blk w q 3 cs) := fun q _ ⟨e, he, hq⟩ => by rw [hq]; exact (HL.out.ent e he).blk
  have HENT : Hid (CO w base es fun k e => e.l) := fun k e hk => HL.out.ent e (List.mem_of_getElem? hk)
  have HGET : Hid (∀ k, k < N → ∃ e, es[k]? = some e ∧ e.l.length ≤ 16) := fun k hk => ⟨_, List.getElem?_eq_getElem (by have := HN.out; omega), HSH.out _ (List.getElem_mem _)⟩
  clear hN hi3 hi32 h hv
  go_enter Try.func40, Try.ntmps40
  go_upto_region 2 with fail
  go_loopw [3] (fun iv wr => ∃ i : Nat, i ≤ N ∧ iv = .int .i64 i ∧ Hid (CO wr base es fun k e => if k < i then rep e.l.length (mkV k) else e.l) ∧ Hid (wr.ownsRow base 32 1 v N (es.map En.v)) ∧ Hid (Only (fun q => ∃ e ∈ es, q = e.g) w wr)) (fun iv _ => N - (intOf iv).toNat)
  case atStart => exact ⟨0, Nat.zero_le _, rfl, (HENT.out.congr fun k e hk => by rw [if_neg (by omega)]), HROW, Only.refl _ _⟩
  case round =>
    obtain ⟨i, hi, rfl, hent, hrow, ho⟩ := hrel
    by_cases hlt : i < N
    · obtain ⟨e, hie, hl16⟩ := HGET.out i hlt
      have HIE := hide hie
      have ii0 : (0 : Int) ≤ (i : Int) := by omega
      have iiN : (i : Int) < (N : Int) := by omega
      obtain ⟨wo, hwo⟩ : ∃ wo, wo = wr := ⟨_, rfl⟩
      rw [← hwo] at hent hrow ho ⊢
      have hco : Hid (CO wo base es fun k e => if k < i then rep e.l.length (mkV k) else if k = i then part e.l 0 (mkV i) else e.l) := hent.out.congr fun k e hk => by
        by_cases h1 : k < i
        · rw [if_pos h1, if_pos h1]
        · rw [if_neg h1, if_neg h1, part_zero]
          split <;> rfl
      have HIS := hide iiN
      clear hwo hie hent
      go_wp2_with fail
      go_loopw [4] (fun jv wy => ∃ j : Nat, j ≤ e.l.length ∧ jv = .int .i64 j ∧ Hid (CO wy base es fun k e => if k < i then rep e.l.length (mkV k) else if k = i then part e.l j (mkV i) else e.l) ∧ Hid (wy.ownsRow base 32 1 v N (es.map En.v)) ∧ Hid (Only (fun q => ∃ e ∈ es, q = e.g) w wy)) (fun jv _ => e.l.length - (intOf jv).toNat)
      case atStart => exact ⟨0, Nat.zero_le _, rfl, hco, hrow, ho⟩
      case round =>
        obtain ⟨j, hj, rfl, hc2, hr2, ho2⟩ := hrel
        clear hco hrow ho
        obtain ⟨ad, rfl, hcell⟩ := row_cell hr2.out HV.out HIE.out hlt
        unfold En.v at hcell
        by_cases hjl : j < e.l.length
        · have jj0 : (0 : Int) ≤ (j : Int) := by omega
          have jjN : (j : Int) < (e.l.length : Int) := by omega
          have hei := hc2.out i e HIE.out
          have hcj : wr.cell? ⟨e.g, j, none⟩ = some (.int .i64 (nth (part e.l j (mkV i)) j)) := by
            have := World.ownsRow.cellAt (g := e.g) (cap := e.cap) hei j (by omega)
            rw [this]
            simp only [if_neg (Nat.lt_irrefl i), if_true]
            have hpl : j < (part e.l j (mkV i)).length := by simp [part, rep]; omega
            simp [ints, List.getElem?_map, nth, hpl]
          have hfj := World.ownsRow.frozenAt (g := e.g) (cap := e.cap) hei j
          have HC3 : Hid (CO (wr.setCell ⟨e.g, j, none⟩ (.int .i64 (mkV i))) base es fun k e => if k < i then rep e.l.length (mkV k) else if k = i then part e.l (j + 1) (mkV i) else e.l) := by
            refine hc2.out.set HND.out HIE.out ?_ ?_
            · simp only [if_neg (Nat.lt_irrefl i), if_true]
              exact part_set _ hjl
            · intro k e' hk hki
              simp only [if_neg hki]
          have hb3 : ∃ cs, Blk wr e.g 3 cs := own_blk3 hei (en_block.2 rfl)
          obtain ⟨cs3, hb3'⟩ := hb3
          have HR3 : Hid ((wr.setCell ⟨e.g, j, none⟩ (.int .i64 (mkV i))).ownsRow base 32 1 v N (es.map En.v)) := row_far hr2.out ((Only.refl (fun q => q = e.g) wr).setCell (p := ⟨e.g, j, none⟩) (fun _ => rfl) _) (fun q _ hq => ⟨cs3, by rw [hq]; exact hb3'⟩)
          have HO3 : Hid (Only (fun q => ∃ e ∈ es, q = e.g) w (wr.setCell ⟨e.g, j, none⟩ (.int .i64 (mkV i)))) := ho2.out.setCell (p := ⟨e.g, j, none⟩) (fun _ => ⟨e, List.mem_of_getElem? HIE.out, rfl⟩) _
          unfold mkV at HC3 HR3 HO3
          clear hei hc2 hr2 ho2 hb3'
          go_wp2_with fail
          go_roundw
          case rel => exact ⟨j + 1, by omega, by go_num, HC3, HR3, HO3⟩
          case measure => simp [intOf]; omega
        · obtain hje : j = e.l.length := by omega
          have HC3 : Hid (CO wr base es fun k e => if k < i + 1 then rep e.l.length (mkV k) else e.l) := hc2.out.congr fun k e' hk => by
            by_cases h1 : k < i
            · rw [if_pos h1, if_pos (by omega)]
            · rw [if_neg h1]
              by_cases h2 : k = i
              · subst h2
                rw [HIE.out] at hk
                injection hk with hk
                subst hk
                rw [if_pos rfl, if_pos (by omega), hje, part_full]
              · rw [if_neg h2, if_neg (by omega)]
          clear hc2
          go_wp2_with fail
          go_roundw
          case rel => exact ⟨i + 1, by omega, by go_num, HC3, hr2, ho2⟩
          case measure => simp [intOf]; omega
    · obtain rfl : i = N := by omega
      obtain ⟨bA, hbA⟩ : ∃ bA, bA = wr.heap.size := ⟨_, rfl⟩
      have hsz := ho.out.size
      have HAS : Hid (AS w wr base bA v (.slice none 0 0) es []) := by
        refine ⟨by have := hrow.out; rw [HN.out] at this; exact this, World.ownsRow_nil _ _ _ _, fun k e hk => ?_, fun k m hk => by simp at hk, ho.out, by omega, fun e he => ?_, fun q hq => ?_, by omega⟩
        · have := hent.out k e hk
          dsimp only at this
          rw [if_pos (by have := (List.getElem?_eq_some_iff.1 hk).1; have := HN.out; omega)] at this
          exact this
        · have := (HL.out.ent e he).lt.2
          omega
        · have := own_lt HROW.out q hq
          omega
      have HBA := hide hbA
      have hbb : base ≤ bA := by omega
      clear hent hrow ho hbA HROW HENT HBLK hsz
      go_upto_region 10 with fail
      go_loopw [5, 6] (fun v5 iv wy => ∃ (q : Nat) (ms : List En), q ≤ i ∧ iv = .int .i64 q ∧ Hid (ms.length = q) ∧ Hid (AS w wy base bA v v5 es ms)) (fun _ iv _ => i - (intOf iv).toNat)
      case atStart => exact ⟨0, [], Nat.zero_le _, rfl, rfl, HAS⟩
      case round =>
        obtain ⟨q, ms, hq, rfl, hms, hA⟩ := hrel
        clear HAS
        by_cases hlt2 : q < i
        · obtain ⟨e, hie, hl16⟩ := HGET.out q hlt2
          have HIE := hide hie
          have ii0 : (0 : Int) ≤ (q : Int) := by omega
          have iiN : (q : Int) < (i : Int) := by omega
          have hrow : wr.ownsRow base 32 1 v i (es.map En.v) := by have := hA.out.row; rw [← HN.out] at this; exact this
          obtain ⟨ad, rfl, hcell⟩ := row_cell hrow HV.out hie hlt2
          unfold En.v at hcell
          have HM0 : Hid (∀ (k : Nat) (m : En), ms[k]? = some m → m.g ≠ e.g) := fun k m hk hme => by
            obtain ⟨e', he', _, hg⟩ := (hA.out.new k m hk).2
            have hkq : k < q := by have := (List.getElem?_eq_some_iff.1 hk).1; have := hms.out; omega
            rcases hg with h1 | h1
            · exact nd_at HND.out he' hie (by omega) (by omega)
            · have := hA.out.low e (List.mem_of_getElem? hie); omega
          have HE0 : Hid (wr.ownsRow base 3 1 (.slice (some ⟨e.g, 0, none⟩) e.l.length e.cap) (e.l.length + 0) (ints (rep (e.l.length + 0) (mkV q)))) := hA.out.ent q e hie
          clear hie hrow
          go_upto_region 14 with fail
          go_loopw [7, 8] (fun v7 jv wz => ∃ (j gb : Nat), j ≤ 64 ∧ jv = .int .i64 j ∧ Hid (AS w wz base bA v u5 es ms) ∧ Hid (v7.ownBlock = some gb) ∧ Hid (gb = e.g ∨ bA ≤ gb) ∧ Hid (∀ (k : Nat) (m : En), ms[k]? = some m → m.g ≠ gb) ∧ Hid (wz.ownsRow base 3 1 v7 (e.l.length + j) (ints (rep (e.l.length + j) (mkV q))))) (fun _ jv _ => 64 - (intOf jv).toNat)
          case atStart => exact ⟨0, e.g, by omega, rfl, hA, rfl, .inl rfl, HM0, HE0⟩
          case round =>
            obtain ⟨j, gb, hj, rfl, hA2, hgb1, hgb2, hgm, how⟩ := hrel
            have hbw : base ≤ wr.heap.size := by have := hA2.out.big; omega
            by_cases hjl : j < 64
            · have HW1 := hide (how.out.alloc (.cells #[.int .i64 (mkV q)] 3))
              have hb1 : Hid (Blk (wr.alloc (.cells #[.int .i64 (mkV q)] 3)) wr.heap.size 3 #[.int .i64 (mkV q)]) := Blk.new _ _ _
              have HSZ : Hid ((wr.alloc (.cells #[.int .i64 (mkV q)] 3)).heap.size = wr.heap.size + 1) := by show _ = _; simp
              unfold mkV at HW1 hb1 HSZ
              go_wp2_with (at_builtin; refine wpList_pushk rfl (.tmp 49) (.tmp 52) _ rfl base 3 i3 _ 1 8 Try.underlying32 I3.out hz3 hs3 hb3 rfl (by omega) u7 (e.l.length + j) _ rfl HW1.out wr.heap.size 1 1 #[.int .i64 (-1000 - (q : Int))] rfl hb1.out rfl (by simp [Value.oneCell']) (by omega) (by unfold maxLen; omega) (by omega) (by rw [HSZ.out]; omega) ?_; intro g7 c7 wz hown hold hgr hor hlz _; have HOWN := hide hown; have HA3 := hide (hA2.out.grow HND.out HIE.out hgb1.out hgb2.out hgm.out how.out hgr hold); have HG7 : Hid (g7 = e.g ∨ bA ≤ g7) := (by rcases hor with h | h; (have h2 : gb = g7 := (by have := hgb1.out; rw [this] at h; injection h)); (subst h2; exact hgb2.out); (right; rw [h, HSZ.out]; have := hA2.out.big; omega)); have HM7 : Hid (∀ (k : Nat) (m : En), ms[k]? = some m → m.g ≠ g7) := (fun k m hk => by rcases hor with h | h; (have h2 : gb = g7 := (by have := hgb1.out; rw [this] at h; injection h)); (subst h2; exact hgm.out k m hk); (intro h3; have h4 := own_lt (hA2.out.new k m hk).1 m.g (en_block.2 rfl); rw [h3, h, HSZ.out] at h4; omega)); clear hown hold hgr hor)
              have HO4 : Hid (wz.ownsRow base 3 1 (.slice (some ⟨g7, 0, none⟩) (e.l.length + j + 1) c7) (e.l.length + (j + 1)) (ints (rep (e.l.length + (j + 1)) (mkV q)))) := by
                have := HOWN.out
                rw [show e.l.length + (j + 1) = e.l.length + j + 1 by omega, rep_succ, ints_append]
                exact this
              go_roundw
              case rel => exact ⟨j + 1, g7, by omega, by go_num, HA3, rfl, HG7, HM7, HO4⟩
              case measure => simp [intOf]; omega
            · obtain rfl : j = 64 := by omega
              obtain ⟨g', cap, cur, rfl, _, _, _, _, _, _⟩ := own_some how.out (by omega)
              have hgg : g' = gb := by have := hgb1.out; simpa [Value.ownBlock] using this
              subst hgg
              have hmv : (En.v ⟨g', cap, rep (e.l.length + 64) (mkV q)⟩) = .slice (some ⟨g', 0, none⟩) (e.l.length + 64) cap := by unfold En.v; rw [rep_len]
              have HMV := hide hmv
              have HOWM : Hid (wr.ownsRow base 3 1 (En.v ⟨g', cap, rep (e.l.length + 64) (mkV q)⟩) (rep (e.l.length + 64) (mkV q)).length (ints (rep (e.l.length + 64) (mkV q)))) := by show World.ownsRow _ _ _ _ _ _ _; rw [hmv, rep_len]; exact how.out
              have hbA2 := hA2.out.big
              have hml : ms.length ≤ 1000000 := by have := hms.out; omega
              clear hmv how
              go_wp2_with (at_builtin; refine wpList_push rfl (.tmp 54) (.tmp 56) _ rfl bA 32 i32 _ 1 24 Try.underlying76 I32.out hz32 hs32 hb32 rfl (by omega) u5 ms.length (ms.map En.v) rfl hA2.out.more 1 1 #[.slice (some ⟨g', 0, none⟩) (e.l.length + 64) cap] rfl rfl (by simp [Value.oneCell']) (by omega) (by unfold maxLen; omega) (by omega) hbA2 ?_; intro g8 c8 wz hown hgr _ _ _ _; have HA4 := hide (hA2.out.more_ (m := ⟨g', cap, rep (e.l.length + 64) (mkV q)⟩) (e := e) HOWM.out (by rw [hms.out]; exact HIE.out) (by rw [hms.out]) hgb2.out (by rw [HMV.out]; exact hown) (by rw [HMV.out]; exact hgr)); clear hown hgr)
              have HMS2 : Hid ((ms ++ [(⟨g', cap, rep (e.l.length + 64) (mkV q)⟩ : En)]).length = q + 1) := by show _ = _; rw [List.length_append, hms.out]; rfl
              go_roundw
              case rel => exact ⟨q + 1, _, by omega, by go_num, HMS2, HA4⟩
              case measure => simp [intOf]; omega
        · obtain rfl : q = i := by omega
          obtain ⟨w2, hw2⟩ : ∃ w2, w2 = wr := ⟨_, rfl⟩
          rw [← hw2] at hA ⊢
          clear hw2
          obtain ⟨A5, c5, e5, hrd, _⟩ := own_slice hA.out.more
          have HRD := hide hrd
          have HROW : Hid (w2.ownsRow base 32 1 v q (es.map En.v)) := by have := hA.out.row; rw [← HN.out] at this; exact this
          subst e5
          clear hrd
          go_upto_region 19 with fail
          go_loopw [9] (fun iv wy => ∃ k : Nat, k ≤ q ∧ iv = .int .i64 k ∧ wy = w2) (fun iv _ => q - (intOf iv).toNat)
          case atStart => exact ⟨0, Nat.zero_le _, rfl, rfl⟩
          case round =>
            obtain ⟨k, hk, rfl, hwr⟩ := hrel
            obtain rfl := hwr.symm
            clear hwr
            by_cases hlt3 : k < q
            · obtain ⟨e, hie, hl16⟩ := HGET.out k hlt3
              obtain ⟨m, hkm⟩ : ∃ m, ms[k]? = some m := ⟨_, List.getElem?_eq_getElem (by have := hms.out; omega)⟩
              obtain ⟨hm1, e', hie', hml, _⟩ := hA.out.new k m hkm
              rw [hie] at hie'
              injection hie' with hie'
              subst hie'
              have kk0 : (0 : Int) ≤ (k : Int) := by omega
              have kkN : (k : Int) < (q : Int) := by omega
              obtain ⟨ad, rfl, hcell⟩ := row_cell HROW.out HV.out hie hlt3
              unfold En.v at hcell
              obtain ⟨ad5, u, rfl, _, hu5, hcell5⟩ := HRD.out.at_ (k := k) (by have := hms.out; omega)
              rw [List.getElem?_map, hkm] at hu5
              injection hu5 with hu5
              subst hu5
              unfold En.v at hcell5
              have hmll : m.l.length = e.l.length + 64 := by rw [hml, rep_len]
              rw [hmll] at hcell5
              have HME : Hid (∀ j, j < e.l.length + 64 → w2.cell? ⟨m.g, j, none⟩ = some (.int .i64 (-1000 - (k : Int)))) := fun j hj => by
                have h1 := World.ownsRow.cellAt (g := m.g) (cap := m.cap) hm1 j (by omega)
                rw [h1, hml]
                simp [ints, rep, hj, mkV]
              have HEE : Hid (∀ j, j < e.l.length → w2.cell? ⟨e.g, j, none⟩ = some (.int .i64 (-1000 - (k : Int)))) := fun j hj => by
                have h1 := World.ownsRow.cellAt (g := e.g) (cap := e.cap) (hA.out.ent k e hie) j (by omega)
                rw [h1]
                simp [ints, rep, hj, mkV]
              have hms2 : ms.length = q := hms.out
              rw [hms2]
              clear hie hkm hm1 hml hmll
              go_upto_region 23 with fail
              go_loopw [11] (fun jv wy => ∃ j : Nat, j ≤ e.l.length + 64 ∧ jv = .int .i64 j ∧ wy = w2) (fun jv _ => e.l.length + 64 - (intOf jv).toNat)
              case atStart => exact ⟨0, Nat.zero_le _, rfl, rfl⟩
              case round =>
                obtain ⟨j, hj, rfl, hwr⟩ := hrel
                obtain rfl := hwr.symm
                clear hwr
                by_cases hjl : j < e.l.length + 64
                · have jj0 : (0 : Int) ≤ (j : Int) := by omega
                  have jjN : (j : Int) < ((e.l.length + 64 : Nat) : Int) := by omega
                  have jjN2 : (j : Int) < (e.l.length : Int) + 64 := by omega
                  have cm := HME.out j hjl
                  by_cases hje : j < e.l.length
                  · have ce := HEE.out j hje
                    have jje : (j : Int) < (e.l.length : Int) := by omega
                    go_wp2_with fail
                    go_roundw
                    case rel => exact ⟨j + 1, by omega, by go_num, trivial⟩
                    case measure => simp [intOf]; omega
                  · have jje : decide ((j : Int) < (e.l.length : Int)) = false := decide_eq_false (by omega)
                    go_wp2_with fail
                    go_roundw
                    case rel => exact ⟨j + 1, by omega, by go_num, trivial⟩
                    case measure => simp [intOf]; omega
                · obtain hje : j = e.l.length + 64 := by omega
                  have jjN2 : ¬ (j : Int) < (e.l.length : Int) + 64 := by omega
                  go_wp2_with fail
                  go_roundw
                  case rel => exact ⟨k + 1, by omega, by go_num, trivial⟩
                  case measure => simp [intOf]; omega
            · obtain rfl : k = q := by omega
              go_wp2_with fail
              go_ret
              exact ⟨rfl, hA.out.only⟩
end Go.Proofs.Yteckffndboiknaa
