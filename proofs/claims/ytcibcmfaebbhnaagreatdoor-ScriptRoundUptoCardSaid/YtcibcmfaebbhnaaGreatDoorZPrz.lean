/-
  Plain: one line more is one event more; what is passed over, and blanks at a line's ends, change nothing. Plain: what is written of a script is read back as the script. Plain: how long a script's text may be.
-/
import Derived.Test.YtcibcmfaebbhnaaGreatDoorZHdp
import Derived.Test.YtcibcmfaebbhnaaGreatDoorZSms
import Derived.Test.YtcibcmfaebbhnaaGreatDoorZPrp
set_option linter.unusedVariables false
set_option linter.unusedSimpArgs false
namespace Go.Proofs.YtcibcmfaebbhnaaGreatDoor
open Go.RowKit Go.WideShapes Go.ChangeShapes Q
/-- A text, and one behind its end of line. -/
theorem lin_app : ∀ (a cur b : List UInt8), linG cur (a ++ 10 :: b) = linG cur (a ++ [10]) ++ linG [] b
  | [], cur, b => by
    show linG cur (10 :: b) = linG cur [10] ++ linG [] b
    rw [linG, linG, if_pos (by decide), if_pos (by decide)]
    rfl
  | c :: a, cur, b => by
    rw [List.cons_append, List.cons_append, linG, linG]
    split
    · rw [lin_app a [] b]
      rfl
    · exact lin_app a _ b
theorem keep_app (a b : List UInt8) : keepL (a ++ 10 :: b) = keepL (a ++ [10]) ++ keepL b := by
  unfold keepL
  rw [lin_app, List.filter_append]
/-- A text that is empty or ends with an end of line. -/
def EndNl (x : List UInt8) : Prop := x = [] ∨ ∃ a, x = a ++ [10]
theorem keep_end {x : List UInt8} (h : EndNl x) (b : List UInt8) : keepL (x ++ b) = keepL x ++ keepL b := by
  rcases h with rfl | ⟨a, rfl⟩
  · rfl
  · rw [List.append_assoc, List.singleton_append, keep_app]
def q1L : List UInt8 := [113, 117, 111, 114, 97, 116, 101, 32, 49]
def q2L : List UInt8 := [32, 110, 111, 100, 101, 115, 32, 50, 32, 119, 105, 110, 100, 111, 119, 32, 49, 32, 98, 97, 115, 101, 32, 49, 32, 115, 116, 101, 112, 32, 49, 32, 99, 97, 112, 32, 49, 32, 114, 111, 111, 109, 32, 57, 32, 102, 108, 111, 111, 114, 32, 51, 32]
def q3L : List UInt8 := [118, 111, 116, 101, 115, 32, 48, 32, 49]
theorem w2 : wordsG true q2L = some [([110, 111, 100, 101, 115], false), ([50], false), ([119, 105, 110, 100, 111, 119], false), ([49], false), ([98, 97, 115, 101], false), ([49], false), ([115, 116, 101, 112], false), ([49], false), ([99, 97, 112], false), ([49], false), ([114, 111, 111, 109], false), ([57], false), ([102, 108, 111, 111, 114], false), ([51], false)] := by decide +kernel
theorem w3 : wordsG true q3L = some [(votes8, false), ([48], false), ([49], false)] := by decide +kernel
theorem w1 : wordsG true q1L = some [(quor, false), ([49], false)] := by decide +kernel
theorem topJ_first : firstB q1L = true := by
  unfold firstB
  rw [w1]
  rfl
end Go.Proofs.YtcibcmfaebbhnaaGreatDoor
set_option linter.unusedVariables false
set_option linter.unusedSimpArgs false
namespace Go.Proofs.YtcibcmfaebbhnaaGreatDoor
open Go.RowKit Go.WideShapes Go.ChangeShapes Q
theorem keep_line {l : List UInt8} (h : NoNl l) (ho : overB l = false) : keepL (l ++ [10]) = [l] := by
  unfold keepL
  rw [lin_free l [] [] (fun q hq e => h q hq (by rw [e]; rfl))]
  rw [show linG [] ([] : List UInt8) = [] from rfl, List.nil_append, List.filter_cons, ho]
  rfl
theorem dec_pln (nl : Bool) (n : Nat) : Lib.decDigits n ≠ [] ∧ ∀ q ∈ Lib.decDigits n, plnB nl q = true := by
  have := itoa_plain nl (n : Int)
  rwa [itoa_nat] at this
/-- Pairs of words, a blank ahead of each. -/
def pairsT : List (List UInt8 × List UInt8) → List UInt8
  | [] => []
  | p :: r => 32 :: (p.1 ++ 32 :: (p.2 ++ pairsT r))
theorem wds_pairs : ∀ (l : List (List UInt8 × List UInt8)), (∀ p ∈ l, (p.1 ≠ [] ∧ ∀ q ∈ p.1, plnB true q = true) ∧ (p.2 ≠ [] ∧ ∀ q ∈ p.2, plnB true q = true)) →
    wordsG true (pairsT l) = some (l.flatMap fun p => [(p.1, false), (p.2, false)])
  | [], _ => wds_nil
  | p :: r, h => by
    have h1 := h p (by simp)
    have ih := wds_pairs r (fun q hq => h q (by simp [hq]))
    rw [pairsT, wds_blank _ (by rfl), wds_sep h1.1.1 h1.1.2 (by rfl)]
    have e : wordsG true (p.2 ++ pairsT r) = some ((p.2, false) :: r.flatMap fun p => [(p.1, false), (p.2, false)]) := by
      rw [wds_word h1.2.1 h1.2.2 (by
        cases r with
        | nil => exact .inl rfl
        | cons a t => exact .inr ⟨32, _, rfl, by rfl⟩), ih]
      rw [if_pos (by cases r <;> rfl)]
      rfl
    rw [e]
    rfl
/-- The names and their numbers. -/
def prs (c : Cfg) : List (List UInt8 × Nat) := [(cfNames.getD 0 [], c.nodes.toNat), (cfNames.getD 1 [], c.window.toNat), (cfNames.getD 2 [], c.base.toNat), (cfNames.getD 3 [], c.step.toNat), (cfNames.getD 4 [], c.cap.toNat), (cfNames.getD 5 [], c.room.toNat), (cfNames.getD 6 [], c.floor.toNat)]
def headL2 (c : Cfg) : List UInt8 := (List.range 7).flatMap (pairT c)
def headL3 (c : Cfg) : List UInt8 := votes8 ++ votT c.votes
theorem headTx_eq (c : Cfg) : headTx c = q1L ++ 10 :: (headL2 c ++ 10 :: (headL3 c ++ [10])) := by
  unfold headTx headL2 headL3
  show (q1L ++ [10]) ++ _ ++ (10 :: votes8) ++ _ ++ [10] = _
  simp
theorem headL2_eq (c : Cfg) : 32 :: headL2 c = pairsT ((prs c).map fun p => (p.1, Lib.decDigits p.2)) := by
  unfold headL2 prs
  have e : List.range 7 = [0, 1, 2, 3, 4, 5, 6] := by rfl
  rw [e]
  simp [pairT, pairsT, cvals, nth]
theorem names_pln (q : Nat) (h : q < 7) : cfNames.getD q [] ≠ [] ∧ ∀ c ∈ cfNames.getD q [], plnB true c = true := by
  have : (List.range 7).all (fun q => !(cfNames.getD q []).isEmpty && (cfNames.getD q []).all (plnB true)) = true := by decide +kernel
  have h2 := List.all_eq_true.1 this q (List.mem_range.2 h)
  simp only [Bool.and_eq_true, Bool.not_eq_true', List.isEmpty_eq_false_iff, List.all_eq_true] at h2
  exact h2
theorem headL2_wds (c : Cfg) : wordsG true (headL2 c) = some ((prs c).flatMap fun p => [(p.1, false), (Lib.decDigits p.2, false)]) := by
  rw [← wds_blank (nl := true) (c := 32) (headL2 c) (by rfl), headL2_eq, wds_pairs]
  · rw [List.flatMap_map]
  · intro p hp
    obtain ⟨x, hx, rfl⟩ := List.mem_map.1 hp
    refine ⟨?_, dec_pln true _⟩
    simp only [prs, List.mem_cons, List.mem_nil_iff, or_false] at hx
    rcases hx with rfl | rfl | rfl | rfl | rfl | rfl | rfl
    · exact names_pln 0 (by decide)
    · exact names_pln 1 (by decide)
    · exact names_pln 2 (by decide)
    · exact names_pln 3 (by decide)
    · exact names_pln 4 (by decide)
    · exact names_pln 5 (by decide)
    · exact names_pln 6 (by decide)
theorem pairP_of : ∀ (l : List (List UInt8 × Nat)), (∀ p ∈ l, p.2 ≤ 4611686018427387904) →
    pairP (l.map Prod.fst) (l.flatMap fun p => [(p.1, false), (Lib.decDigits p.2, false)]) = some (l.map fun p => (p.2 : Int))
  | [], _ => rfl
  | p :: r, h => by
    have ih := pairP_of r (fun q hq => h q (by simp [hq]))
    have h1 : wcnt (Lib.decDigits p.2, false) = some p.2 := by
      unfold wcnt
      exact cnt_dec (h p (by simp))
    show pairP (p.1 :: r.map Prod.fst) ((p.1, false) :: (Lib.decDigits p.2, false) :: r.flatMap _) = _
    rw [pairP, if_pos ⟨rfl, rfl⟩, h1]
    show Option.map _ _ = _
    rw [ih]
    rfl
theorem votT_cons (v : Int) (l : List Int) : votT (v :: l) = 32 :: (Lib.decDigits v.toNat ++ votT l) := by
  unfold votT
  simp
theorem wds_vots : ∀ (l : List Int) (w : List UInt8), w ≠ [] → (∀ q ∈ w, plnB true q = true) → wordsG true (w ++ votT l) = some ((w, false) :: l.map fun v => (Lib.decDigits v.toNat, false))
  | [], w, h1, h2 => by
    show wordsG true (w ++ []) = _
    rw [List.append_nil, wds_last h1 h2]
    rfl
  | v :: l, w, h1, h2 => by
    have hd := dec_pln true v.toNat
    rw [votT_cons, wds_sep h1 h2 (by rfl), wds_vots l _ hd.1 hd.2]
    rfl
theorem votP_of : ∀ (l : List Int), (∀ v ∈ l, 0 ≤ v ∧ v ≤ 9) → votP (l.map fun v => (Lib.decDigits v.toNat, false)) = some l
  | [], _ => rfl
  | v :: l, h => by
    have ih := votP_of l (fun x hx => h x (by simp [hx]))
    have hv := h v (by simp)
    have h1 : wcnt (Lib.decDigits v.toNat, false) = some v.toNat := by
      unfold wcnt
      exact cnt_dec (by omega)
    show votP ((Lib.decDigits v.toNat, false) :: l.map _) = _
    rw [votP, h1]
    show Option.map _ _ = _
    rw [ih]
    show some (((v.toNat : Nat) : Int) :: l) = _
    rw [Int.toNat_of_nonneg hv.1]
theorem vots_fine {c : Cfg} (h : c.Ok) : ∀ v ∈ c.votes, 0 ≤ v ∧ v ≤ 9 := by
  intro v hv
  obtain ⟨j, hj, rfl⟩ := List.getElem_of_mem hv
  have := h.fine j hj
  unfold nth at this
  rw [List.getD_eq_getElem?_getD, List.getElem?_eq_getElem hj] at this
  exact this
theorem headL3_wds (c : Cfg) : wordsG true (headL3 c) = some ((votes8, false) :: c.votes.map fun v => (Lib.decDigits v.toNat, false)) := wds_vots c.votes votes8 (by decide) (by decide)
theorem head_cfg {c : Cfg} (h : c.Ok) : cfgL (headL2 c) (headL3 c) = some c := by
  have hp := pairP_of (prs c) (by
    intro p hp
    have h1 := h.nodes
    have h2 := h.window
    have h3 := h.cap
    have h4 := h.base
    have h5 := h.step
    have h6 := h.room
    have h7 := h.floor
    simp only [prs, List.mem_cons, List.mem_nil_iff, or_false] at hp
    rcases hp with rfl | rfl | rfl | rfl | rfl | rfl | rfl
    all_goals simp only
    all_goals omega)
  have hn : (prs c).map Prod.fst = cfNames := rfl
  rw [hn] at hp
  have hv := votP_of c.votes (vots_fine h)
  have hl := h.len
  have hno := h.nodes
  unfold cfgL
  rw [headL2_wds, headL3_wds]
  show cfgP _ _ = _
  unfold cfgP
  rw [hp]
  show (if _ then _ else _) = _
  rw [if_pos ⟨rfl, rfl, by rw [List.length_map]; omega, by rw [List.length_map]; omega⟩, hv]
  have h2 := h.window
  have h3 := h.cap
  have h4 := h.base
  have h5 := h.step
  have h6 := h.room
  have h7 := h.floor
  obtain ⟨nd, wn, bs, st, cp, rm, fl, vs⟩ := c
  simp only [Option.map_some] at *
  congr 2 <;> omega
/-- A line that is read as words has no line's end in it. -/
theorem wds_nonl {x : List UInt8} {ws : List Wd} (h : wordsG true x = some ws) : NoNl x := by
  intro q hq e
  have := (wds_nl x.length x (Nat.le_refl _)).2 ⟨q, hq, e⟩
  rw [h] at this
  cases this
theorem overB_head {c : UInt8} {r : List UInt8} (h : 97 ≤ c.toNat) : overB (c :: r) = false := by
  show (if blk c = true then overB r else c.toNat == 35) = false
  have e1 : (c.toNat == 32) = false := by rw [beq_eq_false_iff_ne]; omega
  have e2 : (c.toNat == 9) = false := by rw [beq_eq_false_iff_ne]; omega
  have e3 : (c.toNat == 35) = false := by rw [beq_eq_false_iff_ne]; omega
  have hb : blk c = false := by unfold blk; rw [e1, e2]; rfl
  rw [hb, e3]
  rfl
theorem headL2_over (c : Cfg) : overB (headL2 c) = false := by
  unfold headL2
  have e : List.range 7 = 0 :: [1, 2, 3, 4, 5, 6] := by rfl
  rw [e, List.flatMap_cons]
  unfold pairT
  exact overB_head (c := 110) (by decide)
theorem head_keep (c : Cfg) : keepL (headTx c) = [q1L, headL2 c, headL3 c] := by
  rw [headTx_eq, keep_app q1L, keep_line (wds_nonl w1) (by rfl), keep_app (headL2 c), keep_line (wds_nonl (headL2_wds c)) (headL2_over c), keep_line (wds_nonl (headL3_wds c)) (by unfold headL3; exact overB_head (c := 118) (by decide))]
  rfl
theorem head_end (c : Cfg) : EndNl (headTx c) := .inr ⟨q1L ++ 10 :: (headL2 c ++ 10 :: headL3 c), by rw [headTx_eq]; simp⟩
/-- The first word of an event's line. -/
theorem lineW_head (e : Ev) : lineW e = [] ∨ ∃ c r rest, lineW e = (c :: r) :: rest ∧ 97 ≤ c.toNat := by
  unfold lineW
  split
  · exact .inr ⟨100, _, _, rfl, by decide⟩
  · split
    · exact .inr ⟨115, _, _, rfl, by decide⟩
    · split
      · rename_i f hf
        have hm := List.mem_of_find?_eq_some hf
        have : formL.all (fun f => match f.1 with | c :: _ => decide (97 ≤ c.toNat) | [] => false) = true := by decide +kernel
        have h2 := List.all_eq_true.1 this f hm
        cases hw : f.1 with
        | nil => rw [hw] at h2; cases h2
        | cons c r =>
          rw [hw] at h2
          exact .inr ⟨c, r, _, rfl, by simpa using h2⟩
      · exact .inl rfl
theorem lineT_head {e : Ev} (h : lineT e ≠ []) : ∃ c r, lineT e = c :: r ∧ 97 ≤ c.toNat := by
  unfold lineT at h ⊢
  rcases lineW_head e with h1 | ⟨c, r, rest, h1, h2⟩
  · rw [h1] at h
    exact absurd rfl h
  · rw [h1, Lib.join_cons]
    exact ⟨c, _, rfl, h2⟩
theorem writ_head {e : Ev} (h : writT e ≠ []) : overB (writT e) = false := by
  unfold writT at h ⊢
  split at h
  · exact absurd rfl h
  · rename_i hn
    rw [if_neg hn]
    obtain ⟨c, r, h1, h2⟩ := lineT_head h
    rw [h1]
    exact overB_head h2
theorem printE_yes {n : Int} {e : Ev} (h : (printE n e).2 = 0) : (printE n e).1 = writT e ∧ writT e ≠ [] ∧ lineE n (writT e) = e ∧ 1 ≤ n ∧ n ≤ 16 := by
  unfold printE at h ⊢
  split at h
  · rename_i hn
    split at h
    · rename_i h2
      rw [if_pos hn, if_pos h2]
      exact ⟨rfl, h2.1, h2.2, hn.1, hn.2⟩
    · cases h
  · cases h
theorem writ_zero : writT Ev.zero = [110, 111, 111, 112] := by decide +kernel
theorem writ_nonl {n : Int} {e : Ev} (h : lineE n (writT e) = e) : NoNl (writT e) := by
  by_cases hz : e = Ev.zero
  · rw [hz, writ_zero]
    unfold NoNl
    decide
  · unfold lineE at h
    split at h
    · cases hw : wordsG true (writT e) with
      | none =>
        rw [hw] at h
        exact absurd h.symm hz
      | some ws => exact wds_nonl hw
    · exact absurd h.symm hz
theorem keep_lines {n : Int} : ∀ (es : List Ev) (t : List UInt8), linesT n es = some t → keepL t = es.map writT ∧ (es.map writT).map (lineE n) = es
  | [], t, h => by
    injection h with h
    subst h
    exact ⟨rfl, rfl⟩
  | e :: es, t, h => by
    rw [linesT] at h
    split at h
    · rename_i hp
      obtain ⟨t', ht, rfl⟩ := Option.map_eq_some_iff.1 h
      obtain ⟨ih1, ih2⟩ := keep_lines es t' ht
      obtain ⟨p1, p2, p3, _, _⟩ := printE_yes hp
      rw [p1]
      refine ⟨?_, ?_⟩
      · have e1 : writT e ++ [10] ++ t' = writT e ++ 10 :: t' := by simp
        rw [e1, keep_app, keep_line (writ_nonl p3) (writ_head p2), ih1]
        rfl
      · rw [List.map_cons, List.map_cons, p3, ih2]
    · cases h
theorem err_cases (c : Cfg) : (c.err = 0 ∧ c.Ok) ∨ c.err = 22 := by
  by_cases ho : c.Ok
  · exact .inl ⟨Cfg.err_ok ho, ho⟩
  · exact .inr (Cfg.err_bad ho)
/-- What a written script's text is. -/
theorem printS_yes {s : Sc} {x : List UInt8} (h : printS s = (x, 0)) : s.c.Ok ∧ s.es.length ≤ 4000 ∧ (∃ t, linesT s.c.nodes s.es = some t ∧ x = headTx s.c ++ t) ∧ x.length ≤ 400000 := by
  unfold printS at h
  rcases err_cases s.c with ⟨h0, hok⟩ | h0
  · rw [if_pos h0] at h
    split at h
    · cases h
    · rename_i hm
      split at h
      · cases h
      · rename_i t ht
        split at h
        · cases h
        · rename_i hl
          injection h with h1 h2
          subst h1
          exact ⟨hok, by omega, ⟨t, ht, rfl⟩, by omega⟩
  · rw [if_neg (by rw [h0]; decide), h0] at h
    cases h
/-- It is read back. -/
theorem parse_print {s : Sc} {x : List UInt8} (h : printS s = (x, 0)) : parseE x = (s, (idleN s.es : Int), 0) := by
  obtain ⟨hok, hm, ⟨t, ht, rfl⟩, hl⟩ := printS_yes h
  obtain ⟨h1, h2⟩ := keep_lines s.es t ht
  unfold parseE
  rw [if_neg (by omega), keep_end (head_end s.c), head_keep, h1]
  show parseH (headE (q1L :: headL2 s.c :: headL3 s.c :: s.es.map writT)) = _
  rw [headE_cons, if_pos topJ_first, head_cfg hok]
  show (if s.c.err = 0 then _ else _) = _
  rw [if_pos (Cfg.err_ok hok), if_neg (by rw [List.length_map]; omega), h2]
end Go.Proofs.YtcibcmfaebbhnaaGreatDoor
set_option linter.unusedVariables false
set_option linter.unusedSimpArgs false
namespace Go.Proofs.YtcibcmfaebbhnaaGreatDoor
open Go.RowKit Go.WideShapes Go.ChangeShapes Q
/-- The law's bound: 300, and 220 for each event beside its body four times. -/
def shortN (es : List Ev) : Nat := 300 + (es.map fun e => 220 + 4 * e.bd.length).sum
theorem itoa_n {x : Int} (h0 : 0 ≤ x) (h1 : x ≤ 4611686018427387904) : (Lib.itoa x).length ≤ 19 := by
  obtain ⟨n, rfl⟩ : ∃ n : Nat, x = n := ⟨x.toNat, by omega⟩
  rw [itoa_nat]
  exact dec_len19 (by omega)
theorem itoa_2 {x : Int} (h0 : 0 ≤ x) (h1 : x < 16) : (Lib.itoa x).length ≤ 2 := by
  obtain ⟨n, rfl⟩ : ∃ n : Nat, x = n := ⟨x.toNat, by omega⟩
  rw [itoa_nat]
  exact dec_len 1 n (by show n < 100; omega)
/-- Numbers of an event that was read. -/
def NumOk (e : Ev) : Prop := (0 ≤ e.a ∧ e.a ≤ 4611686018427387904) ∧ (0 ≤ e.b ∧ e.b ≤ 4611686018427387904) ∧ (0 ≤ e.n ∧ e.n ≤ 4611686018427387904)
theorem num_zero (k : Int) : NumOk { Ev.zero with kd := k } := by
  show ((0 : Int) ≤ 0 ∧ (0 : Int) ≤ 4611686018427387904) ∧ ((0 : Int) ≤ 0 ∧ (0 : Int) ≤ 4611686018427387904) ∧ ((0 : Int) ≤ 0 ∧ (0 : Int) ≤ 4611686018427387904)
  decide
theorem thing_num {nodes : Nat} {e e' : Ev} {c : Lt} {w : Wd} (hn : NumOk e) (h : thingE nodes e c w = some e') : NumOk e' := by
  obtain ⟨⟨h1, h2⟩, ⟨h3, h4⟩, ⟨h5, h6⟩⟩ := hn
  cases c <;> simp only [thingE] at h
  case T => split at h <;> cases h; exact ⟨⟨h1, h2⟩, ⟨h3, h4⟩, ⟨h5, h6⟩⟩
  case X => split at h <;> cases h; exact ⟨⟨h1, h2⟩, ⟨h3, h4⟩, ⟨h5, h6⟩⟩
  all_goals
    cases hw : wcnt w with
    | none => rw [hw] at h; cases h
    | some x =>
      have hx := wcnt_le hw
      rw [hw] at h
      simp only at h
      first
        | (split at h <;> cases h; refine ⟨⟨?_, ?_⟩, ⟨?_, ?_⟩, ⟨?_, ?_⟩⟩ <;> simp only <;> omega)
        | (cases h; refine ⟨⟨?_, ?_⟩, ⟨?_, ?_⟩, ⟨?_, ?_⟩⟩ <;> simp only <;> omega)
/-- What else an event that was read may hold. -/
def BodOk (e : Ev) : Prop := e.key.length ≤ 16 ∧ e.val.length ≤ 16 ∧ e.old.length ≤ 16 ∧ e.sd.length ≤ 16 ∧ (∀ x ∈ e.sd, 0 ≤ x ∧ x < 16) ∧ e.bd.length ≤ 40000 ∧ 0 ≤ e.op ∧ e.op ≤ 9
theorem bod_zero (k : Int) : BodOk { Ev.zero with kd := k } := ⟨Nat.zero_le _, Nat.zero_le _, Nat.zero_le _, Nat.zero_le _, fun x hx => (by cases hx), Nat.zero_le _, Int.le_refl 0, (by show (0 : Int) ≤ 9; decide)⟩
theorem thing_bod {nodes : Nat} {e e' : Ev} {c : Lt} {w : Wd} (hn : BodOk e) (h : thingE nodes e c w = some e') : BodOk e' := by
  obtain ⟨h1, h2, h3, h4, h5, h6, h7, h8⟩ := hn
  cases c <;> simp only [thingE] at h
  case T =>
    split at h
    · rename_i hc
      cases h
      exact ⟨h1, h2, h3, h4, h5, (by show w.1.length ≤ 40000; omega), h7, h8⟩
    · cases h
  case X =>
    split at h
    · rename_i hc
      cases h
      exact ⟨h1, h2, h3, h4, h5, hc.2, h7, h8⟩
    · cases h
  all_goals
    cases hw : wcnt w with
    | none => rw [hw] at h; cases h
    | some x =>
      rw [hw] at h
      simp only at h
      first
        | (split at h <;> cases h; exact ⟨h1, h2, h3, h4, h5, h6, h7, h8⟩)
        | (cases h; exact ⟨h1, h2, h3, h4, h5, h6, h7, h8⟩)
theorem opNo_le (s : List UInt8) : opNo s ≤ 9 := by
  unfold opNo
  split
  · rename_i i hi
    have := (List.findIdx?_eq_some_iff_findIdx_eq.1 hi).1
    have e : opL.length = 9 := rfl
    omega
  · exact Nat.zero_le _
theorem things_num {nodes : Nat} : ∀ (cs : List Lt) (ws : List Wd) (e e' : Ev), NumOk e → BodOk e → thingsE nodes cs ws e = some e' → NumOk e' ∧ BodOk e' ∧ e'.kd = e.kd
  | [], [], e, e', hn, hb, h => by injection h with h; subst h; exact ⟨hn, hb, rfl⟩
  | [], _ :: _, _, _, _, _, h => by cases h
  | _ :: _, [], _, _, _, _, h => by cases h
  | c :: cs, w :: ws, e, e', hn, hb, h => by
    unfold thingsE at h
    cases h1 : thingE nodes e c w with
    | none => rw [h1] at h; cases h
    | some e1 =>
      rw [h1] at h
      have := things_num cs ws e1 e' (thing_num hn h1) (thing_bod hb h1) h
      exact ⟨this.1, this.2.1, this.2.2.trans (thing_kd h1)⟩
theorem txtE_len {w : Wd} {x : List UInt8} (h : txtE w = some x) : x.length ≤ 16 := by
  unfold txtE at h
  split at h
  · rename_i h1
    injection h with h
    subst h
    exact h1.2
  · cases h
theorem txts_fit {e e' : Ev} (h1 : e.key = []) (h2 : e.val = []) (h3 : e.old = []) : ∀ {ws : List Wd}, txtsE e ws = some e' → e'.kd = e.kd ∧ e'.a = e.a ∧ e'.b = e.b ∧ e'.n = e.n ∧ e'.sd = e.sd ∧ e'.bd = e.bd ∧ e'.op = e.op ∧ e'.key.length ≤ 16 ∧ e'.val.length ≤ 16 ∧ e'.old.length ≤ 16
  | [], h => by cases h
  | [k], h => by
    simp only [txtsE] at h
    cases hk : txtE k with
    | none => rw [hk] at h; cases h
    | some x =>
      rw [hk] at h
      injection h with h
      subst h
      exact ⟨rfl, rfl, rfl, rfl, rfl, rfl, rfl, txtE_len hk, by simp [h2], by simp [h3]⟩
  | [k, v], h => by
    simp only [txtsE] at h
    cases hk : txtE k with
    | none => rw [hk] at h; cases h
    | some x =>
      cases hv : txtE v with
      | none => rw [hk, hv] at h; cases h
      | some y =>
        rw [hk, hv] at h
        injection h with h
        subst h
        exact ⟨rfl, rfl, rfl, rfl, rfl, rfl, rfl, txtE_len hk, txtE_len hv, by simp [h3]⟩
  | [k, v, o], h => by
    simp only [txtsE] at h
    cases hk : txtE k with
    | none => rw [hk] at h; cases h
    | some x =>
      cases hv : txtE v with
      | none => rw [hk, hv] at h; cases h
      | some y =>
        cases ho : txtE o with
        | none => rw [hk, hv, ho] at h; cases h
        | some z =>
          rw [hk, hv, ho] at h
          injection h with h
          subst h
          exact ⟨rfl, rfl, rfl, rfl, rfl, rfl, rfl, txtE_len hk, txtE_len hv, txtE_len ho⟩
  | _ :: _ :: _ :: _ :: _, h => by cases h
theorem sides_fit : ∀ (ws : List Wd) (l : List Int), sidesE ws = some l → l.length = ws.length ∧ ∀ x ∈ l, 0 ≤ x ∧ x < 16
  | [], l, h => by injection h with h; subst h; exact ⟨rfl, fun x hx => by cases hx⟩
  | w :: ws, l, h => by
    unfold sidesE at h
    cases hw : wcnt w with
    | none => rw [hw] at h; cases h
    | some x =>
      rw [hw] at h
      simp only at h
      split at h
      · rename_i hx
        obtain ⟨l', hl, rfl⟩ := Option.map_eq_some_iff.1 h
        have ih := sides_fit ws l' hl
        refine ⟨by simp [ih.1], fun y hy => ?_⟩
        rcases List.mem_cons.1 hy with rfl | hy
        · omega
        · exact ih.2 y hy
      · cases h
/-- What an event that was read may be. -/
structure Fit (e : Ev) : Prop where
  num : NumOk e
  bod : BodOk e
  d : e.kd = 4 → e.a < 16
theorem fit_zero : Fit Ev.zero := ⟨num_zero 0, bod_zero 0, fun h => (by cases h)⟩
theorem event_fit {nodes : Nat} (hn : nodes ≤ 16) {ws : List Wd} {e : Ev} (h : eventE nodes ws = some e) : Fit e := by
  cases ws with
  | nil => cases h
  | cons w ws =>
    rw [eventE] at h
    split at h
    · cases h
    · split at h
      · unfold doE at h
        split at h
        · rename_i p o ts
          split at h
          · rename_i x hp
            split at h
            · rename_i hc
              obtain ⟨h1, h2, h3, h4, s1, s2, s3, h5, h6, h7⟩ := txts_fit (e := { Ev.zero with kd := 4, a := x, op := opNo o.1 }) rfl rfl rfl h
              have hx := wcnt_le hp
              have ho := opNo_le o.1
              have h2' : e.a = (x : Int) := h2
              have h3' : e.b = 0 := h3
              have h4' : e.n = 0 := h4
              have s1' : e.sd = [] := s1
              have s2' : e.bd = [] := s2
              have s3' : e.op = (opNo o.1 : Nat) := s3
              refine ⟨⟨⟨?_, ?_⟩, ⟨?_, ?_⟩, ⟨?_, ?_⟩⟩, ⟨h5, h6, h7, ?_, ?_, ?_, ?_, ?_⟩, fun _ => ?_⟩
              case refine_7 => rw [s1']; exact Nat.zero_le _
              case refine_8 => rw [s1']; intro x hx; cases hx
              case refine_9 => rw [s2']; exact Nat.zero_le _
              all_goals omega
            · cases h
          · cases h
        · cases h
      · split at h
        · unfold splitE at h
          split at h
          · rename_i hl
            obtain ⟨l, hl2, rfl⟩ := Option.map_eq_some_iff.1 h
            have hs := sides_fit ws l hl2
            obtain ⟨b1, b2, b3, _, _, b6, b7, b8⟩ := bod_zero 11
            exact ⟨num_zero 11, ⟨b1, b2, b3, (by show l.length ≤ 16; omega), hs.2, b6, b7, b8⟩, fun h => (by cases h)⟩
          · cases h
        · split at h
          · rename_i f hf
            have hm := List.mem_of_find?_eq_some hf
            have hk : formL.all (fun f => decide (f.2.1 ≠ 4)) = true := by decide +kernel
            have hk2 := List.all_eq_true.1 hk f hm
            simp only [decide_eq_true_eq] at hk2
            obtain ⟨h1, h2, h3⟩ := things_num f.2.2 ws _ e (num_zero f.2.1) (bod_zero f.2.1) h
            have h3 : e.kd = f.2.1 := h3
            exact ⟨h1, h2, fun h => absurd (h3.symm.trans h) hk2⟩
          · cases h
theorem lineE_fit {n : Int} {x : List UInt8} : Fit (lineE n x) := by
  unfold lineE
  split
  · rename_i hn
    split
    · rename_i ws hw
      cases he : eventE n.toNat ws with
      | none => exact fit_zero
      | some e => exact event_fit (by omega) he
    · exact fit_zero
  · exact fit_zero
theorem cat_len (x : List UInt8) : ∀ ps : List (List UInt8), (cat x ps).length = x.length + (ps.map fun p => 1 + p.length).sum
  | [] => by simp [cat]
  | p :: ps => by
    have ih := cat_len x ps
    unfold cat at ih ⊢
    rw [List.length_append] at ih
    rw [List.flatMap_cons, List.length_append, List.length_append, List.length_cons, List.map_cons, List.sum_cons]
    omega
theorem opL_len (k : Nat) : (opL.getD k []).length ≤ 6 := by
  by_cases h : k < 9
  · have : ∀ i : Fin 9, (opL.getD i.val []).length ≤ 6 := by decide +kernel
    exact this ⟨k, h⟩
  · rw [List.getD_eq_getElem?_getD, List.getElem?_eq_none (by show 9 ≤ k; omega)]
    exact Nat.zero_le _
def ltCost : Lt → Nat × Nat
  | .T => (2, 4)
  | .X => (2, 4)
  | _ => (19, 0)
theorem lt_cost {e : Ev} (h : NumOk e) : ∀ c, (ltT e c).length ≤ (ltCost c).1 + (ltCost c).2 * e.bd.length
  | .P => by have := itoa_n h.1.1 h.1.2; show (Lib.itoa e.a).length ≤ 19 + 0 * _; omega
  | .K => by have := itoa_n h.1.1 h.1.2; show (Lib.itoa e.a).length ≤ 19 + 0 * _; omega
  | .Q => by have := itoa_n h.2.1.1 h.2.1.2; show (Lib.itoa e.b).length ≤ 19 + 0 * _; omega
  | .N => by have := itoa_n h.2.2.1 h.2.2.2; show (Lib.itoa e.n).length ≤ 19 + 0 * _; omega
  | .D => by have := itoa_n h.2.2.1 h.2.2.2; show (Lib.itoa e.n).length ≤ 19 + 0 * _; omega
  | .T => by have := quote_sz e.bd; show (quoteL e.bd).length ≤ 2 + 4 * _; omega
  | .X => by have := quote_sz e.bd; show (quoteL e.bd).length ≤ 2 + 4 * _; omega
theorem lts_cost {e : Ev} (h : NumOk e) : ∀ cs : List Lt, ((cs.map (ltT e)).map fun p => 1 + p.length).sum ≤ (cs.map fun c => 1 + (ltCost c).1).sum + (cs.map fun c => (ltCost c).2).sum * e.bd.length
  | [] => by simp
  | c :: cs => by
    have ih := lts_cost h cs
    have h1 := lt_cost h c
    simp only [List.map_cons, List.sum_cons] at ih ⊢
    rw [Nat.add_mul]
    omega
theorem sum_le (M : Nat) : ∀ l : List Nat, (∀ x ∈ l, x ≤ M) → l.sum ≤ M * l.length
  | [], _ => by simp
  | x :: l, h => by
    have h1 := h x (by simp)
    have ih := sum_le M l (fun y hy => h y (by simp [hy]))
    rw [List.sum_cons, List.length_cons, Nat.mul_add]
    omega
/-- The longest line. -/
theorem lineT_len {e : Ev} (h : Fit e) : (lineT e).length ≤ 219 + 4 * e.bd.length := by
  unfold lineT lineW
  split
  · rename_i h4
    have ha := h.d h4
    obtain ⟨hk, hv, ho, _⟩ := h.bod
    have h1 := itoa_2 h.num.1.1 ha
    have q1 := quote_sz e.key
    have q2 := quote_sz e.val
    have q3 := quote_sz e.old
    have q4 := opL_len (e.op.toNat - 1)
    rw [cat_join, cat_len]
    split
    · unfold askW
      simp only [List.map_cons, List.sum_cons, List.map_append, List.sum_append, List.length_cons, List.length_nil]
      have e1 : ((if e.val ≠ [] ∨ e.old ≠ [] then [quoteL e.val] else []).map fun p => 1 + p.length).sum ≤ 67 := by
        split
        · simp only [List.map_cons, List.map_nil, List.sum_cons, List.sum_nil]; omega
        · exact Nat.zero_le _
      have e2 : ((if e.old ≠ [] then [quoteL e.old] else []).map fun p => 1 + p.length).sum ≤ 67 := by
        split
        · simp only [List.map_cons, List.map_nil, List.sum_cons, List.sum_nil]; omega
        · exact Nat.zero_le _
      omega
    · simp only [List.map_cons, List.map_nil, List.sum_cons, List.sum_nil, List.length_cons, List.length_nil]
      omega
  · split
    · rename_i h11
      obtain ⟨_, _, _, hl, hs, _⟩ := h.bod
      rw [cat_join, cat_len]
      have := sum_le 3 ((e.sd.map Lib.itoa).map fun p => 1 + p.length) (by
        intro x hx
        obtain ⟨p, hp, rfl⟩ := List.mem_map.1 hx
        obtain ⟨y, hy, rfl⟩ := List.mem_map.1 hp
        have := itoa_2 (hs y hy).1 (hs y hy).2
        omega)
      rw [List.length_map, List.length_map] at this
      simp only [List.length_cons, List.length_nil]
      omega
    · split
      · rename_i f hf
        have hm := List.mem_of_find?_eq_some hf
        have hk : formL.all (fun f => decide (f.1.length + (f.2.2.map fun c => 1 + (ltCost c).1).sum ≤ 219) && decide ((f.2.2.map fun c => (ltCost c).2).sum ≤ 4)) = true := by decide +kernel
        have hk2 := List.all_eq_true.1 hk f hm
        simp only [Bool.and_eq_true, decide_eq_true_eq] at hk2
        have hc := lts_cost h.num f.2.2
        have hm := Nat.mul_le_mul_right e.bd.length hk2.2
        rw [cat_join, cat_len]
        omega
      · exact Nat.zero_le _
theorem writ_len {n : Int} {e : Ev} (h : lineE n (writT e) = e) : (writT e).length ≤ 219 + 4 * e.bd.length := by
  have hf : Fit e := by rw [← h]; exact lineE_fit
  unfold writT
  split
  · exact Nat.zero_le _
  · exact lineT_len hf
theorem lines_short {n : Int} : ∀ (es : List Ev) (t : List UInt8), linesT n es = some t → t.length ≤ (es.map fun e => 220 + 4 * e.bd.length).sum
  | [], t, h => by
    injection h with h
    subst h
    exact Nat.zero_le _
  | e :: es, t, h => by
    rw [linesT] at h
    split at h
    · rename_i hp
      obtain ⟨t', ht, rfl⟩ := Option.map_eq_some_iff.1 h
      have ih := lines_short es t' ht
      obtain ⟨p1, p2, p3, _, _⟩ := printE_yes hp
      have h1 := writ_len p3
      rw [p1, List.map_cons, List.sum_cons, List.length_append, List.length_append, List.length_singleton]
      omega
    · cases h
theorem pairsT_len (M : Nat) : ∀ (l : List (List UInt8 × List UInt8)), (∀ p ∈ l, p.1.length + p.2.length ≤ M) → (pairsT l).length ≤ (M + 2) * l.length
  | [], _ => by simp [pairsT]
  | p :: r, h => by
    have h1 := h p (by simp)
    have ih := pairsT_len M r (fun q hq => h q (by simp [hq]))
    rw [pairsT, List.length_cons, List.length_append, List.length_cons, List.length_append, List.length_cons, Nat.mul_add]
    omega
theorem votT_len : ∀ l : List Int, (∀ v ∈ l, 0 ≤ v ∧ v ≤ 9) → (votT l).length ≤ 2 * l.length
  | [], _ => by simp [votT]
  | v :: l, h => by
    have h1 := h v (by simp)
    have ih := votT_len l (fun x hx => h x (by simp [hx]))
    have h2 := dec_len 0 v.toNat (by show v.toNat < 10; omega)
    rw [votT_cons, List.length_cons, List.length_append, List.length_cons]
    omega
theorem head_short {c : Cfg} (h : c.Ok) : (headTx c).length ≤ 300 := by
  have h1 := h.nodes
  have h2 := h.window
  have h3 := h.cap
  have h4 := h.base
  have h5 := h.step
  have h6 := h.room
  have h7 := h.floor
  have h8 := h.len
  have e1 : (headL2 c).length + 1 ≤ 189 := by
    have e := congrArg List.length (headL2_eq c)
    rw [List.length_cons] at e
    rw [e]
    refine Nat.le_trans (pairsT_len 25 _ ?_) (by rw [List.length_map]; exact Nat.le_refl _)
    intro p hp
    obtain ⟨x, hx, rfl⟩ := List.mem_map.1 hp
    have hb : x.1.length ≤ 6 ∧ x.2 ≤ 4611686018427387904 := by
      simp only [prs, List.mem_cons, List.mem_nil_iff, or_false] at hx
      rcases hx with rfl | rfl | rfl | rfl | rfl | rfl | rfl
      · refine ⟨names_len 0, ?_⟩
        simp only
        omega
      · refine ⟨names_len 1, ?_⟩
        simp only
        omega
      · refine ⟨names_len 2, ?_⟩
        simp only
        omega
      · refine ⟨names_len 3, ?_⟩
        simp only
        omega
      · refine ⟨names_len 4, ?_⟩
        simp only
        omega
      · refine ⟨names_len 5, ?_⟩
        simp only
        omega
      · refine ⟨names_len 6, ?_⟩
        simp only
        omega
    have hz : (Lib.decDigits x.2).length ≤ 19 := dec_len19 (n := x.2) (by have := hb.2; omega)
    show x.1.length + (Lib.decDigits x.2).length ≤ 25
    omega
  have e2 : (headL3 c).length ≤ 37 := by
    have := votT_len c.votes (vots_fine h)
    unfold headL3
    rw [List.length_append]
    show 5 + _ ≤ 37
    omega
  rw [headTx_eq, List.length_append, List.length_cons, List.length_append, List.length_cons, List.length_append]
  show 9 + (_ + (_ + 1) + 1) ≤ 300
  simp only [List.length_cons, List.length_nil]
  omega
/-- A text beyond its bound is beyond this one. -/
theorem print_long {s : Sc} {x : List UInt8} (h : printS s = (x, 20)) : 400000 < shortN s.es := by
  unfold printS at h
  rcases err_cases s.c with ⟨h0, hok⟩ | h0
  · rw [if_pos h0] at h
    split at h
    · cases h
    · split at h
      · cases h
      · rename_i t ht
        split at h
        · rename_i hl
          have h1 := lines_short _ _ ht
          have h2 := head_short hok
          rw [List.length_append] at hl
          unfold shortN
          omega
        · cases h
  · rw [if_neg (by rw [h0]; decide), h0] at h
    cases h
end Go.Proofs.YtcibcmfaebbhnaaGreatDoor
