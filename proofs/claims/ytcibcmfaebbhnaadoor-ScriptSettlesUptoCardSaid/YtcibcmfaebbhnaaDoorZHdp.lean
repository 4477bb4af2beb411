/-
  Plain: the head's three lines, as the program reads them and as the document does.
-/
import Derived.Test.YtcibcmfaebbhnaaDoorZPna
import Derived.Test.YtcibcmfaebbhnaaDoorZCfgW
set_option linter.unusedVariables false
set_option linter.unusedSimpArgs false
namespace Go.Proofs.YtcibcmfaebbhnaaDoor
open Go.RowKit Go.WideShapes Go.ChangeShapes Q
def quor : List UInt8 := [113, 117, 111, 114, 97, 116, 101]
/-- No line's end stands in a line. -/
def NoNl (x : List UInt8) : Prop := ∀ q ∈ x, ¬ q.toNat = 10
theorem lin_nonl : ∀ (l cur : List UInt8), NoNl cur → ∀ x ∈ linG cur l, NoNl x
  | [], cur, hc, x, hx => by
    rw [linG] at hx
    split at hx
    · cases hx
    · simp at hx; subst hx; exact hc
  | c :: r, cur, hc, x, hx => by
    rw [linG] at hx
    split at hx
    · rcases List.mem_cons.1 hx with h | h
      · subst h; exact hc
      · exact lin_nonl r [] (fun q hq => by cases hq) x h
    · rename_i hn
      refine lin_nonl r (cur ++ [c]) (fun q hq => ?_) x hx
      rcases List.mem_append.1 hq with h | h
      · exact hc q h
      · obtain rfl : q = c := by simpa using h
        exact hn
theorem keep_nonl {t x : List UInt8} (h : x ∈ keepL t) : NoNl x := lin_nonl t [] (fun q hq => by cases hq) x (List.mem_filter.1 h).1
theorem words_nl {x : List UInt8} (h : NoNl x) : wordsG true x = wordsG false x := (wds_nl x.length x (Nat.le_refl _)).1 h
theorem cnt_one {l : List UInt8} (h : cnt l = some 1) : l = [49] := by
  unfold cnt at h
  split at h
  · cases h
  · rename_i h0
    split at h
    · rename_i hd
      split at h
      · injection h with h
        match l, h0, hd, h with
        | [], h0, _, _ => exact absurd (.inl rfl) h0
        | [c], _, hd, h =>
          simp only [valD, List.foldl] at h
          have : isD c = true := by simpa using hd
          unfold isD at this
          have := of_decide_eq_true this
          have e : c.toNat = 49 := by omega
          rw [show c = 49 from UInt8.toNat.inj e]
        | c :: d :: r, h0, hd, h =>
          have hc : isD c = true := by simp at hd; exact hd.1
          unfold isD at hc
          have hc := of_decide_eq_true hc
          have hne : ¬ c = 48 := fun e => h0 (.inr (.inr ⟨by simp, by rw [e]; rfl⟩))
          have hn : ¬ c.toNat = 48 := fun e => hne (UInt8.toNat.inj e)
          have h2 : valD 0 (c :: d :: r) = valD (10 * (10 * 0 + (c.toNat - 48)) + (d.toNat - 48)) r := rfl
          have h3 := valD_ge r (10 * (10 * 0 + (c.toNat - 48)) + (d.toNat - 48))
          rw [h2] at h
          omega
      · cases h
    · cases h
theorem pairP_len : ∀ (ns : List (List UInt8)) (ws : List Wd) (vs : List Int), pairP ns ws = some vs → vs.length = ns.length
  | [], [], vs, h => by cases h; rfl
  | [], _ :: _, _, h => by cases h
  | _ :: _, [], _, h => by cases h
  | _ :: _, [_], _, h => by cases h
  | n :: ns, a :: b :: ws, vs, h => by
    rw [pairP] at h
    split at h
    · cases hb : wcnt b with
      | none => rw [hb] at h; cases h
      | some x =>
        rw [hb] at h
        simp only at h
        obtain ⟨l, hl, rfl⟩ := Option.map_eq_some_iff.1 h
        simp [pairP_len ns ws l hl]
    · cases h
/-- The first line: the name, and 1 as its count. -/
theorem first_nam {x : List UInt8} (h : NoNl x) : firstB x = true ↔ namE [quor] x = some [1] := by
  unfold firstB namE
  rw [words_nl h]
  cases wordsG false x with
  | none => simp
  | some ws =>
    simp only
    match ws with
    | [] => simp [firB, pairP]
    | [_] => simp [firB, pairP]
    | [a, b] =>
      have e1 : pairP [quor] [a, b] = if a.2 = false ∧ a.1 = quor then (match wcnt b with | some x => some [(x : Int)] | none => none) else none := by
        rw [pairP]
        rfl
      rw [e1]
      unfold firB
      constructor
      · intro hh
        simp only [Bool.and_eq_true, Bool.not_eq_true', beq_iff_eq] at hh
        obtain ⟨⟨⟨h1, h2⟩, h3⟩, h4⟩ := hh
        rw [if_pos ⟨h1, h3⟩]
        have : wcnt b = some 1 := by unfold wcnt; rw [h2, h4]; rfl
        rw [this]
        rfl
      · intro hh
        split at hh
        · rename_i h1
          cases hb : wcnt b with
          | none => rw [hb] at hh; cases hh
          | some z =>
            rw [hb] at hh
            simp only at hh
            injection hh with hh
            injection hh with hh _
            have hz : z = 1 := by omega
            subst hz
            unfold wcnt at hb
            split at hb
            · cases hb
            · rename_i h2
              have h3 := cnt_one hb
              simp only [Bool.and_eq_true, Bool.not_eq_true', beq_iff_eq]
              exact ⟨⟨⟨h1.1, by simpa using h2⟩, h1.2⟩, h3⟩
        · cases hh
    | a :: b :: c :: r =>
      have e1 : pairP [quor] (a :: b :: c :: r) = none := pair_len _ _ (by simp)
      rw [e1]
      simp [firB]
theorem cfgL_nam {b c : List UInt8} (hb : NoNl b) (h : namE cfNames b = none) : cfgL b c = none := by
  unfold namE at h
  unfold cfgL
  rw [words_nl hb]
  cases hw : wordsG false b with
  | none => rfl
  | some l =>
    rw [hw] at h
    simp only at h
    cases wordsG true c with
    | none => rfl
    | some m => exact cfgP_pair h
theorem cfgL_wd {b c : List UInt8} (hc : NoNl c) (h : wordsG false c = none) : cfgL b c = none := by
  unfold cfgL
  rw [words_nl hc, h]
  cases wordsG true b with
  | none => rfl
  | some l => rfl
theorem cfgL_all {b c : List UInt8} {vs : List Int} {m : List Wd} (hb : NoNl b) (hc : NoNl c) (h : namE cfNames b = some vs) (h2 : wordsG false c = some m) : ∃ l, pairP cfNames l = some vs ∧ cfgL b c = cfgP l m := by
  unfold namE at h
  cases hw : wordsG false b with
  | none => rw [hw] at h; cases h
  | some l =>
    rw [hw] at h
    refine ⟨l, h, ?_⟩
    unfold cfgL
    rw [words_nl hb, words_nl hc, hw, h2]
theorem own_txl {w : World} {base n c g k : Nat} {ls : List (List UInt8)} {x : List UInt8} (h : w.ownsRow base 9 1 (.slice (some ⟨g, 0, none⟩) n c) n (ltx ls)) (hk : ls[k]? = some x) : w.cell? ⟨g, k, none⟩ = some (.string (S x)) := by
  have := World.ownsRow.cells (g := g) h rfl k (.string (S x)) (by unfold ltx; rw [List.getElem?_map, hk]; rfl)
  have e : (⟨g, 0, none⟩ : Addr).add k = ⟨g, k, none⟩ := by
    unfold Addr.add
    split
    · rename_i h0; subst h0; rfl
    · simp
  rw [e] at this
  exact this
theorem seven {vs : List Int} (h : vs.length = 7) : ∃ a b c d e f g, vs = [a, b, c, d, e, f, g] := by
  match vs, h with
  | [a, b, c, d, e, f, g], _ => exact ⟨a, b, c, d, e, f, g, rfl⟩
/-- The head's configuration. -/
def headC (K : List (List UInt8)) : Option Cfg := (headE K).map Prod.fst
theorem headC_len {K : List (List UInt8)} (h : K.length < 3) : headC K = none := by unfold headC; rw [headE_len h]; rfl
theorem headC_first {a b c : List UInt8} {r : List (List UInt8)} (ha : NoNl a) (h : ¬ namE [quor] a = some [1]) : headC (a :: b :: c :: r) = none := by
  unfold headC
  rw [headE_cons, if_neg (fun hh => h ((first_nam ha).1 hh))]
  rfl
theorem headC_cfg {a b c : List UInt8} {r : List (List UInt8)} (ha : NoNl a) (h : namE [quor] a = some [1]) : headC (a :: b :: c :: r) = cfgL b c := by
  unfold headC
  rw [headE_cons, if_pos ((first_nam ha).2 h), Option.map_map]
  cases cfgL b c <;> rfl
theorem headE_C {K : List (List UInt8)} {c : Cfg} (h : headC K = some c) : headE K = some (c, K.drop 3) := by
  match K with
  | [] => cases h
  | [_] => cases h
  | [_, _] => cases h
  | a :: b :: d :: r =>
    unfold headC at h
    rw [headE_cons] at h ⊢
    split at h
    · rename_i hf
      rw [if_pos hf]
      cases hc : cfgL b d with
      | none => rw [hc] at h; cases h
      | some x =>
        rw [hc] at h
        simp at h
        subst h
        rfl
    · cases h
theorem headE_N {K : List (List UInt8)} (h : headC K = none) : headE K = none := by
  unfold headC at h
  simpa using h
theorem cnf_any {w W : World} {g : Nat} {Z : Array Value} {f : Option Cfg} {c : Cfg} {A : Option Addr} {k : Nat} {ok : Bool} (hr : w.heap.size ≤ g) (hZ : Blk W g 44 Z) (hl : Below w.heap.size w W) (hu : CfU W w.heap.size c A k) (h1 : ok = true → f = some c) (h2 : ok = false → f = none) :
    CnfP f w (.returned (.tuple #[.agg (cfC c A k), .bool ok])) (W.setRow g (cfC c A k)) := by
  have hW := only_setRow W g (cfC c A k)
  exact ⟨c, A, k, ok, rfl, hu.far hZ (by decide) hW, hl.trans (hW.below hl.size (fun k hk e => by omega)), h1, h2⟩
end Go.Proofs.YtcibcmfaebbhnaaDoor
