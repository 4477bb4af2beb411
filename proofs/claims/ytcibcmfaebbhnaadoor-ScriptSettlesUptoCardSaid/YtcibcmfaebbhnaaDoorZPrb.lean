/-
  Plain: what is written of a script is read back as the script.
-/
import Derived.Test.YtcibcmfaebbhnaaDoorZApi
import Derived.Test.YtcibcmfaebbhnaaDoorZLbp
set_option linter.unusedVariables false
set_option linter.unusedSimpArgs false
namespace Go.Proofs.YtcibcmfaebbhnaaDoor
open Go.RowKit Go.WideShapes Go.ChangeShapes Q
theorem keep_line {l : List UInt8} (h : NoNl l) (ho : overB l = false) : keepL (l ++ [10]) = [l] := by
  unfold keepL
  rw [lin_free l [] [] (fun q hq e => h q hq (by rw [e]; rfl))]
  rw [show linG [] ([] : List UInt8) = [] from rfl, List.nil_append, List.filter_cons, ho]
  rfl
theorem dec_pln (nl : Bool) (n : Nat) : Lib.decDigits n ≠ [] ∧ ∀ q ∈ Lib.decDigits n, plnB nl q = true := by
  have := itoa_plain nl (n : Int)
  rwa [itoa_nat] at this
/-- Pairs of words, a blank ahead of each. -/
def pairsT : List (List UInt8 × List UInt8) → List UInt8
  | [] => []
  | p :: r => 32 :: (p.1 ++ 32 :: (p.2 ++ pairsT r))
theorem wds_pairs : ∀ (l : List (List UInt8 × List UInt8)), (∀ p ∈ l, (p.1 ≠ [] ∧ ∀ q ∈ p.1, plnB true q = true) ∧ (p.2 ≠ [] ∧ ∀ q ∈ p.2, plnB true q = true)) →
    wordsG true (pairsT l) = some (l.flatMap fun p => [(p.1, false), (p.2, false)])
  | [], _ => wds_nil
  | p :: r, h => by
    have h1 := h p (by simp)
    have ih := wds_pairs r (fun q hq => h q (by simp [hq]))
    rw [pairsT, wds_blank _ (by rfl), wds_sep h1.1.1 h1.1.2 (by rfl)]
    have e : wordsG true (p.2 ++ pairsT r) = some ((p.2, false) :: r.flatMap fun p => [(p.1, false), (p.2, false)]) := by
      rw [wds_word h1.2.1 h1.2.2 (by
        cases r with
        | nil => exact .inl rfl
        | cons a t => exact .inr ⟨32, _, rfl, by rfl⟩), ih]
      rw [if_pos (by cases r <;> rfl)]
      rfl
    rw [e]
    rfl
/-- The names and their numbers. -/
def prs (c : Cfg) : List (List UInt8 × Nat) := [(cfNames.getD 0 [], c.nodes.toNat), (cfNames.getD 1 [], c.window.toNat), (cfNames.getD 2 [], c.base.toNat), (cfNames.getD 3 [], c.step.toNat), (cfNames.getD 4 [], c.cap.toNat), (cfNames.getD 5 [], c.room.toNat), (cfNames.getD 6 [], c.floor.toNat)]
def headL2 (c : Cfg) : List UInt8 := (List.range 7).flatMap (pairT c)
def headL3 (c : Cfg) : List UInt8 := votes8 ++ votT c.votes
theorem headTx_eq (c : Cfg) : headTx c = q1L ++ 10 :: (headL2 c ++ 10 :: (headL3 c ++ [10])) := by
  unfold headTx headL2 headL3
  show (q1L ++ [10]) ++ _ ++ (10 :: votes8) ++ _ ++ [10] = _
  simp
theorem headL2_eq (c : Cfg) : 32 :: headL2 c = pairsT ((prs c).map fun p => (p.1, Lib.decDigits p.2)) := by
  unfold headL2 prs
  have e : List.range 7 = [0, 1, 2, 3, 4, 5, 6] := by rfl
  rw [e]
  simp [pairT, pairsT, cvals, nth]
theorem names_pln (q : Nat) (h : q < 7) : cfNames.getD q [] ≠ [] ∧ ∀ c ∈ cfNames.getD q [], plnB true c = true := by
  have : (List.range 7).all (fun q => !(cfNames.getD q []).isEmpty && (cfNames.getD q []).all (plnB true)) = true := by decide +kernel
  have h2 := List.all_eq_true.1 this q (List.mem_range.2 h)
  simp only [Bool.and_eq_true, Bool.not_eq_true', List.isEmpty_eq_false_iff, List.all_eq_true] at h2
  exact h2
theorem headL2_wds (c : Cfg) : wordsG true (headL2 c) = some ((prs c).flatMap fun p => [(p.1, false), (Lib.decDigits p.2, false)]) := by
  rw [← wds_blank (nl := true) (c := 32) (headL2 c) (by rfl), headL2_eq, wds_pairs]
  · rw [List.flatMap_map]
  · intro p hp
    obtain ⟨x, hx, rfl⟩ := List.mem_map.1 hp
    refine ⟨?_, dec_pln true _⟩
    simp only [prs, List.mem_cons, List.mem_nil_iff, or_false] at hx
    rcases hx with rfl | rfl | rfl | rfl | rfl | rfl | rfl
    · exact names_pln 0 (by decide)
    · exact names_pln 1 (by decide)
    · exact names_pln 2 (by decide)
    · exact names_pln 3 (by decide)
    · exact names_pln 4 (by decide)
    · exact names_pln 5 (by decide)
    · exact names_pln 6 (by decide)
theorem pairP_of : ∀ (l : List (List UInt8 × Nat)), (∀ p ∈ l, p.2 ≤ 4611686018427387904) →
    pairP (l.map Prod.fst) (l.flatMap fun p => [(p.1, false), (Lib.decDigits p.2, false)]) = some (l.map fun p => (p.2 : Int))
  | [], _ => rfl
  | p :: r, h => by
    have ih := pairP_of r (fun q hq => h q (by simp [hq]))
    have h1 : wcnt (Lib.decDigits p.2, false) = some p.2 := by
      unfold wcnt
      exact cnt_dec (h p (by simp))
    show pairP (p.1 :: r.map Prod.fst) ((p.1, false) :: (Lib.decDigits p.2, false) :: r.flatMap _) = _
    rw [pairP, if_pos ⟨rfl, rfl⟩, h1]
    show Option.map _ _ = _
    rw [ih]
    rfl
theorem votT_cons (v : Int) (l : List Int) : votT (v :: l) = 32 :: (Lib.decDigits v.toNat ++ votT l) := by
  unfold votT
  simp
theorem wds_vots : ∀ (l : List Int) (w : List UInt8), w ≠ [] → (∀ q ∈ w, plnB true q = true) → wordsG true (w ++ votT l) = some ((w, false) :: l.map fun v => (Lib.decDigits v.toNat, false))
  | [], w, h1, h2 => by
    show wordsG true (w ++ []) = _
    rw [List.append_nil, wds_last h1 h2]
    rfl
  | v :: l, w, h1, h2 => by
    have hd := dec_pln true v.toNat
    rw [votT_cons, wds_sep h1 h2 (by rfl), wds_vots l _ hd.1 hd.2]
    rfl
theorem votP_of : ∀ (l : List Int), (∀ v ∈ l, 0 ≤ v ∧ v ≤ 9) → votP (l.map fun v => (Lib.decDigits v.toNat, false)) = some l
  | [], _ => rfl
  | v :: l, h => by
    have ih := votP_of l (fun x hx => h x (by simp [hx]))
    have hv := h v (by simp)
    have h1 : wcnt (Lib.decDigits v.toNat, false) = some v.toNat := by
      unfold wcnt
      exact cnt_dec (by omega)
    show votP ((Lib.decDigits v.toNat, false) :: l.map _) = _
    rw [votP, h1]
    show Option.map _ _ = _
    rw [ih]
    show some (((v.toNat : Nat) : Int) :: l) = _
    rw [Int.toNat_of_nonneg hv.1]
theorem vots_fine {c : Cfg} (h : c.Ok) : ∀ v ∈ c.votes, 0 ≤ v ∧ v ≤ 9 := by
  intro v hv
  obtain ⟨j, hj, rfl⟩ := List.getElem_of_mem hv
  have := h.fine j hj
  unfold nth at this
  rw [List.getD_eq_getElem?_getD, List.getElem?_eq_getElem hj] at this
  exact this
theorem headL3_wds (c : Cfg) : wordsG true (headL3 c) = some ((votes8, false) :: c.votes.map fun v => (Lib.decDigits v.toNat, false)) := wds_vots c.votes votes8 (by decide) (by decide)
theorem head_cfg {c : Cfg} (h : c.Ok) : cfgL (headL2 c) (headL3 c) = some c := by
  have hp := pairP_of (prs c) (by
    intro p hp
    have h1 := h.nodes
    have h2 := h.window
    have h3 := h.cap
    have h4 := h.base
    have h5 := h.step
    have h6 := h.room
    have h7 := h.floor
    simp only [prs, List.mem_cons, List.mem_nil_iff, or_false] at hp
    rcases hp with rfl | rfl | rfl | rfl | rfl | rfl | rfl
    all_goals simp only
    all_goals omega)
  have hn : (prs c).map Prod.fst = cfNames := rfl
  rw [hn] at hp
  have hv := votP_of c.votes (vots_fine h)
  have hl := h.len
  have hno := h.nodes
  unfold cfgL
  rw [headL2_wds, headL3_wds]
  show cfgP _ _ = _
  unfold cfgP
  rw [hp]
  show (if _ then _ else _) = _
  rw [if_pos ⟨rfl, rfl, by rw [List.length_map]; omega, by rw [List.length_map]; omega⟩, hv]
  have h2 := h.window
  have h3 := h.cap
  have h4 := h.base
  have h5 := h.step
  have h6 := h.room
  have h7 := h.floor
  obtain ⟨nd, wn, bs, st, cp, rm, fl, vs⟩ := c
  simp only [Option.map_some] at *
  congr 2 <;> omega
/-- A line that is read as words has no line's end in it. -/
theorem wds_nonl {x : List UInt8} {ws : List Wd} (h : wordsG true x = some ws) : NoNl x := by
  intro q hq e
  have := (wds_nl x.length x (Nat.le_refl _)).2 ⟨q, hq, e⟩
  rw [h] at this
  cases this
theorem overB_head {c : UInt8} {r : List UInt8} (h : 97 ≤ c.toNat) : overB (c :: r) = false := by
  show (if blk c = true then overB r else c.toNat == 35) = false
  have e1 : (c.toNat == 32) = false := by rw [beq_eq_false_iff_ne]; omega
  have e2 : (c.toNat == 9) = false := by rw [beq_eq_false_iff_ne]; omega
  have e3 : (c.toNat == 35) = false := by rw [beq_eq_false_iff_ne]; omega
  have hb : blk c = false := by unfold blk; rw [e1, e2]; rfl
  rw [hb, e3]
  rfl
theorem headL2_over (c : Cfg) : overB (headL2 c) = false := by
  unfold headL2
  have e : List.range 7 = 0 :: [1, 2, 3, 4, 5, 6] := by rfl
  rw [e, List.flatMap_cons]
  unfold pairT
  exact overB_head (c := 110) (by decide)
theorem head_keep (c : Cfg) : keepL (headTx c) = [q1L, headL2 c, headL3 c] := by
  rw [headTx_eq, keep_app q1L, keep_line (wds_nonl w1) (by rfl), keep_app (headL2 c), keep_line (wds_nonl (headL2_wds c)) (headL2_over c), keep_line (wds_nonl (headL3_wds c)) (by unfold headL3; exact overB_head (c := 118) (by decide))]
  rfl
theorem head_end (c : Cfg) : EndNl (headTx c) := .inr ⟨q1L ++ 10 :: (headL2 c ++ 10 :: headL3 c), by rw [headTx_eq]; simp⟩
/-- The first word of an event's line. -/
theorem lineW_head (e : Ev) : lineW e = [] ∨ ∃ c r rest, lineW e = (c :: r) :: rest ∧ 97 ≤ c.toNat := by
  unfold lineW
  split
  · exact .inr ⟨100, _, _, rfl, by decide⟩
  · split
    · exact .inr ⟨115, _, _, rfl, by decide⟩
    · split
      · rename_i f hf
        have hm := List.mem_of_find?_eq_some hf
        have : formL.all (fun f => match f.1 with | c :: _ => decide (97 ≤ c.toNat) | [] => false) = true := by decide +kernel
        have h2 := List.all_eq_true.1 this f hm
        cases hw : f.1 with
        | nil => rw [hw] at h2; cases h2
        | cons c r =>
          rw [hw] at h2
          exact .inr ⟨c, r, _, rfl, by simpa using h2⟩
      · exact .inl rfl
theorem lineT_head {e : Ev} (h : lineT e ≠ []) : ∃ c r, lineT e = c :: r ∧ 97 ≤ c.toNat := by
  unfold lineT at h ⊢
  rcases lineW_head e with h1 | ⟨c, r, rest, h1, h2⟩
  · rw [h1] at h
    exact absurd rfl h
  · rw [h1, Lib.join_cons]
    exact ⟨c, _, rfl, h2⟩
theorem writ_head {e : Ev} (h : writT e ≠ []) : overB (writT e) = false := by
  unfold writT at h ⊢
  split at h
  · exact absurd rfl h
  · rename_i hn
    rw [if_neg hn]
    obtain ⟨c, r, h1, h2⟩ := lineT_head h
    rw [h1]
    exact overB_head h2
theorem printE_yes {n : Int} {e : Ev} (h : (printE n e).2 = 0) : (printE n e).1 = writT e ∧ writT e ≠ [] ∧ lineE n (writT e) = e ∧ 1 ≤ n ∧ n ≤ 16 := by
  unfold printE at h ⊢
  split at h
  · rename_i hn
    split at h
    · rename_i h2
      rw [if_pos hn, if_pos h2]
      exact ⟨rfl, h2.1, h2.2, hn.1, hn.2⟩
    · cases h
  · cases h
theorem writ_zero : writT Ev.zero = [110, 111, 111, 112] := by decide +kernel
theorem writ_nonl {n : Int} {e : Ev} (h : lineE n (writT e) = e) : NoNl (writT e) := by
  by_cases hz : e = Ev.zero
  · rw [hz, writ_zero]
    unfold NoNl
    decide
  · unfold lineE at h
    split at h
    · cases hw : wordsG true (writT e) with
      | none =>
        rw [hw] at h
        exact absurd h.symm hz
      | some ws => exact wds_nonl hw
    · exact absurd h.symm hz
theorem keep_lines {n : Int} : ∀ (es : List Ev) (t : List UInt8), linesT n es = some t → keepL t = es.map writT ∧ (es.map writT).map (lineE n) = es
  | [], t, h => by
    injection h with h
    subst h
    exact ⟨rfl, rfl⟩
  | e :: es, t, h => by
    rw [linesT] at h
    split at h
    · rename_i hp
      obtain ⟨t', ht, rfl⟩ := Option.map_eq_some_iff.1 h
      obtain ⟨ih1, ih2⟩ := keep_lines es t' ht
      obtain ⟨p1, p2, p3, _, _⟩ := printE_yes hp
      rw [p1]
      refine ⟨?_, ?_⟩
      · have e1 : writT e ++ [10] ++ t' = writT e ++ 10 :: t' := by simp
        rw [e1, keep_app, keep_line (writ_nonl p3) (writ_head p2), ih1]
        rfl
      · rw [List.map_cons, List.map_cons, p3, ih2]
    · cases h
theorem err_cases (c : Cfg) : (c.err = 0 ∧ c.Ok) ∨ c.err = 22 := by
  by_cases ho : c.Ok
  · exact .inl ⟨Cfg.err_ok ho, ho⟩
  · exact .inr (Cfg.err_bad ho)
/-- What a written script's text is. -/
theorem printS_yes {s : Sc} {x : List UInt8} (h : printS s = (x, 0)) : s.c.Ok ∧ s.es.length ≤ 4000 ∧ (∃ t, linesT s.c.nodes s.es = some t ∧ x = headTx s.c ++ t) ∧ x.length ≤ 400000 := by
  unfold printS at h
  rcases err_cases s.c with ⟨h0, hok⟩ | h0
  · rw [if_pos h0] at h
    split at h
    · cases h
    · rename_i hm
      split at h
      · cases h
      · rename_i t ht
        split at h
        · cases h
        · rename_i hl
          injection h with h1 h2
          subst h1
          exact ⟨hok, by omega, ⟨t, ht, rfl⟩, by omega⟩
  · rw [if_neg (by rw [h0]; decide), h0] at h
    cases h
/-- It is read back. -/
theorem parse_print {s : Sc} {x : List UInt8} (h : printS s = (x, 0)) : parseE x = (s, (idleN s.es : Int), 0) := by
  obtain ⟨hok, hm, ⟨t, ht, rfl⟩, hl⟩ := printS_yes h
  obtain ⟨h1, h2⟩ := keep_lines s.es t ht
  unfold parseE
  rw [if_neg (by omega), keep_end (head_end s.c), head_keep, h1]
  show parseH (headE (q1L :: headL2 s.c :: headL3 s.c :: s.es.map writT)) = _
  rw [headE_cons, if_pos topJ_first, head_cfg hok]
  show (if s.c.err = 0 then _ else _) = _
  rw [if_pos (Cfg.err_ok hok), if_neg (by rw [List.length_map]; omega), h2]
end Go.Proofs.YtcibcmfaebbhnaaDoor
