/-
  The program's parser as a plain function. The plain law: the program's parser reads what a mark's line says. The sizes of what the parsers read, plain.
-/
import Derived.Test.YtenebkkfjalcaaaDoorZUnl
set_option linter.unusedVariables false
set_option linter.unusedSimpArgs false
namespace Go.Proofs.YtenebkkfjalcaaaDoor
open Go.RowKit Go.WideShapes Go.ChangeShapes Q

theorem nK_ge (l : List UInt8) (k : Nat) : k ≤ nK l k := by unfold nK; omega
theorem sK_ge (t l : List UInt8) (k : Nat) : k ≤ sK t l k := by unfold sK; split <;> omega
theorem unt_le (stops l : List UInt8) (k : Nat) (hk : k ≤ l.length) : k + (untL stops (l.drop k)).length ≤ l.length := by
  unfold untL
  have h1 := (List.takeWhile_sublist (fun c => decide (Lib.indexByte stops c < 0)) (l := l.drop k)).length_le
  rw [List.length_drop] at h1
  omega
theorem nK_leL {l : List UInt8} {k : Nat} (hk : k ≤ l.length) : nK l k ≤ l.length := unt_le stp l k hk
theorem sK_leL {l : List UInt8} {k : Nat} (t : List UInt8) (hk : k ≤ l.length) : sK t l k ≤ l.length := by
  unfold sK
  split
  · rename_i h
    unfold preB Lib.hasPrefix at h
    have h1 := (List.isPrefixOf_iff_prefix.1 h).length_le
    rw [List.length_drop] at h1
    omega
  · exact hk
theorem numsS_ge (l : List UInt8) : ∀ (n k : Nat) (bad : Bool), k ≤ (numsS l n k bad).2.1
  | 0, k, bad => Nat.le_refl _
  | n + 1, k, bad => by
    have h1 := sK_ge [47] l k
    have h2 := nK_ge l (sK [47] l k)
    have h3 := numsS_ge l n (nK l (sK [47] l k)) (nB l (sK [47] l k) (sB [47] l k bad))
    simp only [numsS]
    omega
theorem numsS_le (l : List UInt8) : ∀ (n k : Nat) (bad : Bool), k ≤ l.length → (numsS l n k bad).2.1 ≤ l.length
  | 0, k, bad, h => h
  | n + 1, k, bad, h => by
    simp only [numsS]
    exact numsS_le l n _ _ (nK_leL (sK_leL [47] h))
theorem numsS_len (l : List UInt8) : ∀ (n k : Nat) (bad : Bool), (numsS l n k bad).1.length = n
  | 0, k, bad => rfl
  | n + 1, k, bad => by
    simp only [numsS, List.length_cons]
    rw [numsS_len l n]
theorem numsA_ge (l : List UInt8) (n k : Nat) (bad : Bool) : k ≤ (numsA l n k bad).2.1 := by
  have h1 := nK_ge l k
  have h2 := numsS_ge l (n - 1) (nK l k) (nB l k bad)
  simp only [numsA]
  omega
theorem numsA_le (l : List UInt8) (n k : Nat) (bad : Bool) (h : k ≤ l.length) : (numsA l n k bad).2.1 ≤ l.length := by
  simp only [numsA]
  exact numsS_le l _ _ _ (nK_leL h)
theorem numsA_len (l : List UInt8) {n : Nat} (hn : 1 ≤ n) (k : Nat) (bad : Bool) : (numsA l n k bad).1.length = n := by
  simp only [numsA, List.length_cons]
  rw [numsS_len]
  omega
theorem strK_ge (l : List UInt8) (k : Nat) (hk : k ≤ l.length) : k ≤ strK l k := by
  unfold strK unqA
  by_cases h : l[k]? = some 34
  · rw [if_pos h]
    cases hu : unq (l.drop (k + 1)) with
    | none => simp
    | some p =>
      obtain ⟨b, r⟩ := p
      simp only [Option.map_some]
      have h1 := (unq_drop hu).2
      have h2 := (List.getElem?_eq_some_iff.1 h).1
      rw [List.length_drop] at h1
      omega
  · rw [if_neg h]
    simp
theorem strK_le (l : List UInt8) (k : Nat) (hk : k ≤ l.length) : strK l k ≤ l.length := by
  unfold strK unqA
  by_cases h : l[k]? = some 34
  · rw [if_pos h]
    cases hu : unq (l.drop (k + 1)) with
    | none => simpa using hk
    | some p =>
      obtain ⟨b, r⟩ := p
      simp only [Option.map_some]
      omega
  · rw [if_neg h]
    simpa using hk
/-- The string read is no longer than the text. -/
theorem unq_len : ∀ (n : Nat) (l : List UInt8), l.length ≤ n → ∀ b r, unq l = some (b, r) → b.length ≤ l.length
  | 0, l, hl, b, r, h => by
    have : l = [] := List.length_eq_zero_iff.1 (by omega)
    subst this
    rw [unq_bad (by rfl)] at h
    cases h
  | n + 1, l, hl, b, r, h => by
    cases hq : qstep l with
    | stop r1 =>
      rw [unq_stop hq] at h
      injection h with h
      injection h with h1 h2
      subst h1
      simp
    | byte b1 r1 =>
      rw [unq_byte hq] at h
      obtain ⟨p, hp, he⟩ := Option.map_eq_some_iff.1 h
      injection he with h1 h2
      have hlt := qstep_byte hq
      have := unq_len n r1 (by omega) p.1 p.2 hp
      rw [← h1, List.length_cons]
      omega
    | bad =>
      rw [unq_bad hq] at h
      cases h
theorem strT_len (l : List UInt8) (k : Nat) : (strT l k).length ≤ l.length := by
  unfold strT unqA
  by_cases h : l[k]? = some 34
  · rw [if_pos h]
    cases hu : unq (l.drop (k + 1)) with
    | none => simp
    | some p =>
      obtain ⟨b, r⟩ := p
      simp only [Option.map_some]
      have := unq_len _ _ (Nat.le_refl _) _ _ hu
      rw [List.length_drop] at this
      omega
  · rw [if_neg h]
    simp
/-- Three numbers as one member. -/
def tri3 (r : List Int) : Int × Int × Int := (nth r 0, nth r 1, nth r 2)
theorem here_lt {c : UInt8} {l : List UInt8} {k : Nat} (h : hereB c (l.drop k) = true) : k < l.length := by
  rcases Nat.lt_or_ge k l.length with h1 | h1
  · exact h1
  · rw [List.drop_eq_nil_of_le h1] at h
    exact absurd h (by simp [hereB])
/-- The members, read. -/
def memsP (l : List UInt8) (ms : List (Int × Int × Int)) (k : Nat) (bad : Bool) : List (Int × Int × Int) × Nat × Bool :=
  if bad = true then (ms, k, bad)
  else if h : hereB 44 (l.drop (numsA l 3 k bad).2.1) = true then memsP l (ms ++ [tri3 (numsA l 3 k bad).1]) ((numsA l 3 k bad).2.1 + 1) (numsA l 3 k bad).2.2
  else (ms ++ [tri3 (numsA l 3 k bad).1], (numsA l 3 k bad).2)
termination_by l.length - k
decreasing_by
  have h1 := here_lt h
  have h2 := numsA_ge l 3 k bad
  omega
/-- The numbers of a list, read. -/
def tranP (l : List UInt8) (ts : List Int) (k : Nat) (bad : Bool) : List Int × Nat × Bool :=
  if bad = true then (ts, k, bad)
  else if h : hereB 44 (l.drop (nK l k)) = true then tranP l (ts ++ [nV l k]) (nK l k + 1) (nB l k bad)
  else (ts ++ [nV l k], nK l k, nB l k bad)
termination_by l.length - k
decreasing_by
  have h1 := here_lt h
  have h2 := nK_ge l k
  omega
theorem memsP_bad (l : List UInt8) (ms : List (Int × Int × Int)) (k : Nat) : memsP l ms k true = (ms, k, true) := by rw [memsP, if_pos rfl]
theorem memsP_more {l : List UInt8} {k : Nat} (ms : List (Int × Int × Int)) (h : hereB 44 (l.drop (numsA l 3 k false).2.1) = true) :
    memsP l ms k false = memsP l (ms ++ [tri3 (numsA l 3 k false).1]) ((numsA l 3 k false).2.1 + 1) (numsA l 3 k false).2.2 := by
  rw [memsP, if_neg (by decide), dif_pos h]
theorem memsP_last {l : List UInt8} {k : Nat} (ms : List (Int × Int × Int)) (h : hereB 44 (l.drop (numsA l 3 k false).2.1) = false) :
    memsP l ms k false = (ms ++ [tri3 (numsA l 3 k false).1], (numsA l 3 k false).2) := by
  rw [memsP, if_neg (by decide), dif_neg (by rw [h]; decide)]
theorem tranP_bad (l : List UInt8) (ts : List Int) (k : Nat) : tranP l ts k true = (ts, k, true) := by rw [tranP, if_pos rfl]
theorem tranP_more {l : List UInt8} {k : Nat} (ts : List Int) (h : hereB 44 (l.drop (nK l k)) = true) :
    tranP l ts k false = tranP l (ts ++ [nV l k]) (nK l k + 1) (nB l k false) := by
  rw [tranP, if_neg (by decide), dif_pos h]
theorem tranP_last {l : List UInt8} {k : Nat} (ts : List Int) (h : hereB 44 (l.drop (nK l k)) = false) :
    tranP l ts k false = (ts ++ [nV l k], nK l k, nB l k false) := by
  rw [tranP, if_neg (by decide), dif_neg (by rw [h]; decide)]
theorem memsP_ge (l : List UInt8) (ms : List (Int × Int × Int)) (k : Nat) (bad : Bool) : k ≤ (memsP l ms k bad).2.1 := by
  induction hn : l.length - k using Nat.strongRecOn generalizing ms k bad with
  | ind n ih =>
    cases bad with
    | true => rw [memsP_bad]; exact Nat.le_refl _
    | false =>
      have h2 := numsA_ge l 3 k false
      cases h : hereB 44 (l.drop (numsA l 3 k false).2.1) with
      | true =>
        rw [memsP_more ms h]
        have h1 := here_lt h
        have := ih (l.length - ((numsA l 3 k false).2.1 + 1)) (by omega) (ms ++ [tri3 (numsA l 3 k false).1]) _ (numsA l 3 k false).2.2 rfl
        omega
      | false =>
        rw [memsP_last ms h]
        exact h2
theorem memsP_le (l : List UInt8) (ms : List (Int × Int × Int)) (k : Nat) (bad : Bool) (hk : k ≤ l.length) : (memsP l ms k bad).2.1 ≤ l.length ∧ (memsP l ms k bad).1.length + k ≤ ms.length + (memsP l ms k bad).2.1 + 1 := by
  induction hn : l.length - k using Nat.strongRecOn generalizing ms k bad with
  | ind n ih =>
    cases bad with
    | true => rw [memsP_bad]; exact ⟨hk, by simp only; omega⟩
    | false =>
      have h2 := numsA_ge l 3 k false
      have h3 := numsA_le l 3 k false hk
      cases h : hereB 44 (l.drop (numsA l 3 k false).2.1) with
      | true =>
        rw [memsP_more ms h]
        have h1 := here_lt h
        have := ih (l.length - ((numsA l 3 k false).2.1 + 1)) (by omega) (ms ++ [tri3 (numsA l 3 k false).1]) _ (numsA l 3 k false).2.2 (by omega) rfl
        rw [List.length_append, List.length_singleton] at this
        omega
      | false =>
        rw [memsP_last ms h]
        simp only [List.length_append, List.length_singleton]
        omega
theorem tranP_ge (l : List UInt8) (ts : List Int) (k : Nat) (bad : Bool) : k ≤ (tranP l ts k bad).2.1 := by
  induction hn : l.length - k using Nat.strongRecOn generalizing ts k bad with
  | ind n ih =>
    cases bad with
    | true => rw [tranP_bad]; exact Nat.le_refl _
    | false =>
      have h2 := nK_ge l k
      cases h : hereB 44 (l.drop (nK l k)) with
      | true =>
        rw [tranP_more ts h]
        have h1 := here_lt h
        have := ih (l.length - (nK l k + 1)) (by omega) (ts ++ [nV l k]) _ (nB l k false) rfl
        omega
      | false =>
        rw [tranP_last ts h]
        exact h2
theorem tranP_le (l : List UInt8) (ts : List Int) (k : Nat) (bad : Bool) (hk : k ≤ l.length) : (tranP l ts k bad).2.1 ≤ l.length ∧ (tranP l ts k bad).1.length + k ≤ ts.length + (tranP l ts k bad).2.1 + 1 := by
  induction hn : l.length - k using Nat.strongRecOn generalizing ts k bad with
  | ind n ih =>
    cases bad with
    | true => rw [tranP_bad]; exact ⟨hk, by simp only; omega⟩
    | false =>
      have h2 := nK_ge l k
      have h3 := nK_leL hk
      cases h : hereB 44 (l.drop (nK l k)) with
      | true =>
        rw [tranP_more ts h]
        have h1 := here_lt h
        have := ih (l.length - (nK l k + 1)) (by omega) (ts ++ [nV l k]) _ (nB l k false) (by omega) rfl
        rw [List.length_append, List.length_singleton] at this
        omega
      | false =>
        rw [tranP_last ts h]
        simp only [List.length_append, List.length_singleton]
        omega
/-- A slash, and a string behind it. -/
def ssK (l : List UInt8) (k : Nat) : Nat := strK l (sK [47] l k)
def ssB (l : List UInt8) (k : Nat) (bad : Bool) : Bool := sB [47] l k bad || !strOk l (sK [47] l k)
def ssT (l : List UInt8) (k : Nat) : List UInt8 := strT l (sK [47] l k)
theorem ssK_ge {l : List UInt8} {k : Nat} (hk : k ≤ l.length) : k ≤ ssK l k := Nat.le_trans (sK_ge [47] l k) (strK_ge l _ (sK_leL [47] hk))
theorem ssK_le {l : List UInt8} {k : Nat} (hk : k ≤ l.length) : ssK l k ≤ l.length := strK_le l _ (sK_leL [47] hk)
def gK (l : List UInt8) (k : Nat) : Nat := k + (untL [32] (l.drop k)).length
def gB (l : List UInt8) (k : Nat) (bad : Bool) : Bool := bad || !sgnOk (l.drop k)
def pId (l : List UInt8) (m : PM) (k : Nat) (bad : Bool) : PM × Nat × Bool := ({ m with ep := nth (numsA l 4 k bad).1 0, ld := nth (numsA l 4 k bad).1 1, ii := nth (numsA l 4 k bad).1 2, ci := nth (numsA l 4 k bad).1 3 }, (numsA l 4 k bad).2)
def pMs (l : List UInt8) (m : PM) (k : Nat) (bad : Bool) : PM × Nat × Bool := ({ m with ms := (memsP l m.ms k bad).1 }, (memsP l m.ms k bad).2)
def pTr (l : List UInt8) (m : PM) (k : Nat) (bad : Bool) : PM × Nat × Bool := ({ m with ts := (tranP l m.ts k bad).1 }, (tranP l m.ts k bad).2)
def pSe (l : List UInt8) (m : PM) (k : Nat) (bad : Bool) : PM × Nat × Bool := ({ m with se := nV l k }, nK l k, nB l k bad)
def pSq (l : List UInt8) (m : PM) (k : Nat) (bad : Bool) : PM × Nat × Bool := ({ m with sq := nV l k }, nK l k, nB l k bad)
def pPo (l : List UInt8) (m : PM) (k : Nat) (bad : Bool) : PM × Nat × Bool := ({ m with po := nV l k }, nK l k, nB l k bad)
def pN (l : List UInt8) (m : PM) (k : Nat) (bad : Bool) : PM × Nat × Bool := ({ m with n := nV l k }, nK l k, nB l k bad)
def pEr (l : List UInt8) (m : PM) (k : Nat) (bad : Bool) : PM × Nat × Bool := ({ m with er := nV l k }, nK l k, nB l k bad)
def pBd (l : List UInt8) (m : PM) (k : Nat) (bad : Bool) : PM × Nat × Bool := ({ m with bd := strT l k }, strK l k, bad || !strOk l k)
def pCmd (l : List UInt8) (m : PM) (k : Nat) (bad : Bool) : PM × Nat × Bool :=
  ({ m with cl := nth (numsA l 4 k bad).1 0, cn := nth (numsA l 4 k bad).1 1, rq := nth (numsA l 4 k bad).1 2, op := nth (numsA l 4 k bad).1 3, key := ssT l (numsA l 4 k bad).2.1, val := ssT l (ssK l (numsA l 4 k bad).2.1), old := ssT l (ssK l (ssK l (numsA l 4 k bad).2.1)) },
    ssK l (ssK l (ssK l (numsA l 4 k bad).2.1)), ssB l (ssK l (ssK l (numsA l 4 k bad).2.1)) (ssB l (ssK l (numsA l 4 k bad).2.1) (ssB l (numsA l 4 k bad).2.1 (numsA l 4 k bad).2.2)))
def pRes (l : List UInt8) (m : PM) (k : Nat) (bad : Bool) : PM × Nat × Bool :=
  ({ m with co := nV l k, rv := ssT l (nK l k), rn := sgnV (l.drop (sK [47] l (ssK l (nK l k)))) }, gK l (sK [47] l (ssK l (nK l k))), gB l (sK [47] l (ssK l (nK l k))) (sB [47] l (ssK l (nK l k)) (ssB l (nK l k) (nB l k bad))))
/-- The program's part. -/
def partP (l name : List UInt8) (m : PM) (k : Nat) (bad : Bool) : PM × Nat × Bool :=
  if name = [105, 100] then pId l m k bad
  else if name = [109, 101, 109, 98, 101, 114, 115] then pMs l m k bad
  else if name = [116, 114, 97, 110, 115] then pTr l m k bad
  else if name = [115, 101, 110, 100, 101, 114] then pSe l m k bad
  else if name = [115, 101, 113] then pSq l m k bad
  else if name = [112, 111, 115] then pPo l m k bad
  else if name = [110] then pN l m k bad
  else if name = [98, 111, 100, 121] then pBd l m k bad
  else if name = [99, 109, 100] then pCmd l m k bad
  else if name = [114, 101, 115, 117, 108, 116] then pRes l m k bad
  else if name = [101, 114, 114] then pEr l m k bad
  else (m, k, true)
theorem partP_all (Q : PM × Nat × Bool → Prop) (l name : List UInt8) (m : PM) (k : Nat) (bad : Bool) (h1 : Q (pId l m k bad)) (h2 : Q (pMs l m k bad)) (h3 : Q (pTr l m k bad)) (h4 : Q (pSe l m k bad)) (h5 : Q (pSq l m k bad)) (h6 : Q (pPo l m k bad))
    (h7 : Q (pN l m k bad)) (h8 : Q (pBd l m k bad)) (h9 : Q (pCmd l m k bad)) (h10 : Q (pRes l m k bad)) (h11 : Q (pEr l m k bad)) (h12 : Q (m, k, true)) : Q (partP l name m k bad) := by
  unfold partP
  by_cases e0 : name = [105, 100]
  · rw [if_pos e0]
    exact h1
  rw [if_neg e0]
  by_cases e1 : name = [109, 101, 109, 98, 101, 114, 115]
  · rw [if_pos e1]
    exact h2
  rw [if_neg e1]
  by_cases e2 : name = [116, 114, 97, 110, 115]
  · rw [if_pos e2]
    exact h3
  rw [if_neg e2]
  by_cases e3 : name = [115, 101, 110, 100, 101, 114]
  · rw [if_pos e3]
    exact h4
  rw [if_neg e3]
  by_cases e4 : name = [115, 101, 113]
  · rw [if_pos e4]
    exact h5
  rw [if_neg e4]
  by_cases e5 : name = [112, 111, 115]
  · rw [if_pos e5]
    exact h6
  rw [if_neg e5]
  by_cases e6 : name = [110]
  · rw [if_pos e6]
    exact h7
  rw [if_neg e6]
  by_cases e7 : name = [98, 111, 100, 121]
  · rw [if_pos e7]
    exact h8
  rw [if_neg e7]
  by_cases e8 : name = [99, 109, 100]
  · rw [if_pos e8]
    exact h9
  rw [if_neg e8]
  by_cases e9 : name = [114, 101, 115, 117, 108, 116]
  · rw [if_pos e9]
    exact h10
  rw [if_neg e9]
  by_cases e10 : name = [101, 114, 114]
  · rw [if_pos e10]
    exact h11
  rw [if_neg e10]
  exact h12
theorem partP_ge {l : List UInt8} (name : List UInt8) (m : PM) {k : Nat} (bad : Bool) (hk : k ≤ l.length) : k ≤ (partP l name m k bad).2.1 := by
  have n4 := numsA_ge l 4 k bad
  have n4l := numsA_le l 4 k bad hk
  have nk := nK_ge l k
  have nkl := nK_leL hk
  have c1 := ssK_ge n4l
  have c1l := ssK_le n4l
  have c2 := ssK_ge c1l
  have c2l := ssK_le c1l
  have c3 := ssK_ge c2l
  have d1 := ssK_ge nkl
  have d2 := sK_ge [47] l (ssK l (nK l k))
  have d3 : sK [47] l (ssK l (nK l k)) ≤ gK l (sK [47] l (ssK l (nK l k))) := by unfold gK; omega
  refine partP_all (fun r => k ≤ r.2.1) l name m k bad n4 (memsP_ge _ _ _ _) (tranP_ge _ _ _ _) nk nk nk nk (strK_ge _ _ hk) ?_ ?_ nk (Nat.le_refl _)
  · exact Nat.le_trans (Nat.le_trans (Nat.le_trans n4 c1) c2) c3
  · exact Nat.le_trans (Nat.le_trans (Nat.le_trans nk d1) d2) d3
theorem partP_le {l : List UInt8} (name : List UInt8) (m : PM) {k : Nat} (bad : Bool) (hk : k ≤ l.length) : (partP l name m k bad).2.1 ≤ l.length := by
  have n4l := numsA_le l 4 k bad hk
  have nkl := nK_leL hk
  exact partP_all (fun r => r.2.1 ≤ l.length) l name m k bad n4l (memsP_le _ _ _ _ hk).1 (tranP_le _ _ _ _ hk).1 nkl nkl nkl nkl (strK_le _ _ hk) (ssK_le (ssK_le (ssK_le n4l))) (unt_le [32] l _ (sK_leL [47] (ssK_le nkl))) nkl hk
/-- One round: a part. -/
def unmR (l : List UInt8) (m : PM) (k : Nat) : PM × Nat × Bool :=
  partP l (untL [61] (l.drop (sK [32] l k))) m (sK [61] l (sK [32] l k + (untL [61] (l.drop (sK [32] l k))).length)) (sB [61] l (sK [32] l k + (untL [61] (l.drop (sK [32] l k))).length) (sB [32] l k false))
/-- Parts, one behind the other, up to the line's end. -/
def unmP (l : List UInt8) (m : PM) (k : Nat) (bad : Bool) : PM × Nat × Bool :=
  if h : k < l.length ∧ bad = false then
    if hb : k < (unmR l m k).2.1 ∧ (unmR l m k).2.1 ≤ l.length then unmP l (unmR l m k).1 (unmR l m k).2.1 (unmR l m k).2.2 else ((unmR l m k).1, (unmR l m k).2.1, true)
  else (m, k, bad)
termination_by l.length - k
decreasing_by omega
theorem sB_bad (t l : List UInt8) (k : Nat) : sB t l k true = true := by unfold sB; split <;> rfl
theorem nB_bad (l : List UInt8) (k : Nat) : nB l k true = true := rfl
theorem numsS_bad (l : List UInt8) : ∀ (n k : Nat), (numsS l n k true).2.2 = true
  | 0, k => rfl
  | n + 1, k => by
    simp only [numsS, sB_bad, nB_bad]
    exact numsS_bad l n _
theorem numsA_bad (l : List UInt8) (n k : Nat) : (numsA l n k true).2.2 = true := by
  simp only [numsA, nB_bad]
  exact numsS_bad l _ _
theorem ssB_bad (l : List UInt8) (k : Nat) : ssB l k true = true := by unfold ssB; rw [sB_bad]; rfl
theorem gB_bad (l : List UInt8) (k : Nat) : gB l k true = true := rfl
theorem partP_bad (l name : List UInt8) (m : PM) (k : Nat) : (partP l name m k true).2.2 = true := by
  refine partP_all (fun r => r.2.2 = true) l name m k true (numsA_bad _ _ _) ?_ ?_ rfl rfl rfl rfl rfl ?_ ?_ rfl rfl
  · simp only [pMs, memsP_bad]
  · simp only [pTr, tranP_bad]
  · simp only [pCmd, numsA_bad, ssB_bad]
  · simp only [pRes, nB_bad, ssB_bad, sB_bad, gB_bad]
theorem unmP_end {l : List UInt8} {k : Nat} {bad : Bool} (m : PM) (h : ¬ (k < l.length ∧ bad = false)) : unmP l m k bad = (m, k, bad) := by rw [unmP, dif_neg h]
theorem unmP_round {l : List UInt8} {k : Nat} (m : PM) (h : k < l.length) {k1 k3 : Nat} {b1 b3 : Bool} {name : List UInt8} (e1 : sK [32] l k = k1) (e2 : sB [32] l k false = b1) (e3 : untL [61] (l.drop k1) = name)
    (e4 : sK [61] l (k1 + name.length) = k3) (e5 : sB [61] l (k1 + name.length) b1 = b3) :
    unmP l m k false = unmP l (partP l name m k3 b3).1 (partP l name m k3 b3).2.1 (partP l name m k3 b3).2.2 ∧ (k < (partP l name m k3 b3).2.1 ∨ (partP l name m k3 b3).2.2 = true) ∧ (partP l name m k3 b3).2.1 ≤ l.length := by
  have hk1 : k1 ≤ l.length := by rw [← e1]; exact sK_leL [32] (by omega)
  have hk2 : k1 + name.length ≤ l.length := by rw [← e3]; exact unt_le [61] l k1 hk1
  have hk3 : k3 ≤ l.length := by rw [← e4]; exact sK_leL [61] hk2
  have hk13 : k1 ≤ k3 := by rw [← e4]; exact Nat.le_trans (by omega) (sK_ge [61] l (k1 + name.length))
  have hle := partP_le name m b3 hk3
  have hge := partP_ge name m b3 hk3
  have hor : k < (partP l name m k3 b3).2.1 ∨ (partP l name m k3 b3).2.2 = true := by
    cases hp : preB [32] (l.drop k) with
    | true =>
      left
      unfold sK at e1
      rw [if_pos hp, List.length_singleton] at e1
      omega
    | false =>
      right
      unfold sB at e2
      rw [if_neg (by rw [hp]; decide)] at e2
      subst e2
      rw [sB_bad] at e5
      subst e5
      exact partP_bad _ _ _ _
  refine ⟨?_, hor, hle⟩
  have eR : unmR l m k = partP l name m k3 b3 := by unfold unmR; rw [e1, e2, e3, e4, e5]
  rw [unmP, dif_pos ⟨h, rfl⟩, eR]
  by_cases hb : k < (partP l name m k3 b3).2.1
  · rw [dif_pos ⟨hb, hle⟩]
  · rw [dif_neg (fun h => hb h.1)]
    have ht : (partP l name m k3 b3).2.2 = true := hor.resolve_left hb
    rw [ht, unmP_end _ (by simp)]
/-- The program's unmark, ahead of its test: what is read, and whether it is bad. -/
def unmA (l : List UInt8) : PM × Bool :=
  let k1 := nK l 0
  let b1 := nB l 0 false
  let k2 := sK [32] l k1
  let b2 := sB [32] l k1 b1
  let word := untL [32] (l.drop k2)
  let k3 := k2 + word.length
  let k4 := sK [32] l k3
  let b4 := sB [32] l k3 b2
  let k5 := nK l k4
  let b5 := nB l k4 b4
  let k6 := sK [32] l k5
  let b6 := sB [32] l k5 b5
  let r := unmP l { PM.zero with aT := nV l 0, kd := kindC word, nd := nV l k4, ic := nV l k6 } (nK l k6) (nB l k6 b6)
  (r.1, r.2.2)
end Go.Proofs.YtenebkkfjalcaaaDoor
set_option linter.unusedVariables false
set_option linter.unusedSimpArgs false
namespace Go.Proofs.YtenebkkfjalcaaaDoor
open Go.RowKit Go.WideShapes Go.ChangeShapes Q

theorem drop_app {l x r : List UInt8} {k : Nat} (h : l.drop k = x ++ r) : l.drop (k + x.length) = r := by
  rw [← List.drop_drop, h, List.drop_left]
/-- What stands behind stops the cursor. -/
def StopR (r : List UInt8) : Prop := r = [] ∨ ∃ c r', r = c :: r' ∧ ¬ Lib.indexByte stp c < 0
theorem StopR.cons {c : UInt8} (r : List UInt8) (h : ¬ Lib.indexByte stp c < 0) : StopR (c :: r) := .inr ⟨c, r, rfl, h⟩
theorem unt_at {stops a r : List UInt8} (ha : Free stops a) (hr : r = [] ∨ ∃ c r', r = c :: r' ∧ ¬ Lib.indexByte stops c < 0) : untL stops (a ++ r) = a := by
  rcases hr with rfl | ⟨c, r', rfl, hc⟩
  · rw [List.append_nil]
    exact unt_all ha
  · exact unt_stop ha hc
theorem num_at {l r : List UInt8} {k : Nat} {x : Int} (hx : Ct x) (h : l.drop k = Lib.itoa x ++ r) (hr : StopR r) (bad : Bool) : nK l k = k + (Lib.itoa x).length ∧ nV l k = x ∧ nB l k bad = bad := by
  obtain ⟨n, rfl, hn⟩ := hx
  rw [itoa_nat] at h ⊢
  have hu : untL stp (l.drop k) = Lib.decDigits n := by rw [h]; exact unt_at (free_dec n) hr
  unfold nK nV nB numV numOk
  rw [hu, cnt_dec hn]
  exact ⟨rfl, rfl, by simp⟩
theorem sep_at {l t r : List UInt8} {k : Nat} (h : l.drop k = t ++ r) (bad : Bool) : sK t l k = k + t.length ∧ sB t l k bad = bad := by
  unfold sK sB
  rw [h, pre_app]
  exact ⟨rfl, rfl⟩
theorem sep1 {c : UInt8} {l r : List UInt8} {k : Nat} (h : l.drop k = [c] ++ r) (bad : Bool) : sK [c] l k = k + 1 ∧ sB [c] l k bad = bad ∧ l.drop (k + 1) = r := by
  obtain ⟨e1, e2⟩ := sep_at h bad
  exact ⟨e1, e2, drop_app h⟩
theorem nums_at (r : List UInt8) (hr : StopR r) (l : List UInt8) (bad : Bool) : ∀ (xs : List Int) (k : Nat), (∀ x ∈ xs, Ct x) → l.drop k = (xs.flatMap fun x => 47 :: Lib.itoa x) ++ r → numsS l xs.length k bad = (xs, k + (xs.flatMap fun x => 47 :: Lib.itoa x).length, bad)
  | [], k, _, h => rfl
  | x :: xs, k, hx, h => by
    have h1 : l.drop k = [47] ++ (Lib.itoa x ++ ((xs.flatMap fun x => 47 :: Lib.itoa x) ++ r)) := by rw [h]; simp
    obtain ⟨e1, e2, h2⟩ := sep1 h1 bad
    have hst : StopR ((xs.flatMap fun x => 47 :: Lib.itoa x) ++ r) := by
      cases xs with
      | nil => exact hr
      | cons y ys => exact .inr ⟨47, _, by simp; rfl, by decide⟩
    obtain ⟨e3, e4, e5⟩ := num_at (hx x (by simp)) h2 hst bad
    have h3 := drop_app h2
    have ih := nums_at r hr l bad xs _ (fun y hy => hx y (by simp [hy])) h3
    rw [List.length_cons, numsS]
    simp only [e1, e2, e3, e4, e5, ih]
    refine Prod.ext rfl (Prod.ext ?_ rfl)
    simp only [List.flatMap_cons, List.length_append, List.length_cons]
    omega
theorem numsA_at {r : List UInt8} (hr : StopR r) {l : List UInt8} (bad : Bool) {x : Int} {xs : List Int} {k : Nat} (hx : ∀ y ∈ x :: xs, Ct y) (h : l.drop k = Lib.join ((x :: xs).map Lib.itoa) [47] ++ r) :
    numsA l (xs.length + 1) k bad = (x :: xs, k + (Lib.join ((x :: xs).map Lib.itoa) [47]).length, bad) := by
  have e : Lib.join ((x :: xs).map Lib.itoa) [47] = Lib.itoa x ++ (xs.flatMap fun x => 47 :: Lib.itoa x) := by
    rw [List.map_cons, Lib.join_cons]
    congr 1
    simp [Lib.joinTail, List.flatMap_def, List.map_map]
    rfl
  rw [e] at h ⊢
  rw [List.append_assoc] at h
  have hst : StopR ((xs.flatMap fun x => 47 :: Lib.itoa x) ++ r) := by
    cases xs with
    | nil => exact hr
    | cons y ys => exact .inr ⟨47, _, by simp; rfl, by decide⟩
  obtain ⟨e3, e4, e5⟩ := num_at (hx x (by simp)) h hst bad
  have h3 := drop_app h
  have ih := nums_at r hr l bad xs _ (fun y hy => hx y (by simp [hy])) h3
  simp only [numsA, Nat.add_sub_cancel, e3, e4, e5, ih]
  simp
  omega
theorem sl4_at {r : List UInt8} (hr : StopR r) {l : List UInt8} (bad : Bool) {a b c d : Int} {k : Nat} (h1 : Ct a) (h2 : Ct b) (h3 : Ct c) (h4 : Ct d) (h : l.drop k = sl4 a b c d ++ r) :
    numsA l 4 k bad = ([a, b, c, d], k + (sl4 a b c d).length, bad) :=
  numsA_at (xs := [b, c, d]) hr bad (fun y hy => by
    simp at hy
    rcases hy with rfl | rfl | rfl | rfl <;> assumption) h
theorem tri_at {r : List UInt8} (hr : StopR r) {l : List UInt8} (bad : Bool) {s : Int × Int × Int} {k : Nat} (h1 : Ct s.1) (h2 : Ct s.2.1) (h3 : Ct s.2.2) (h : l.drop k = triI s ++ r) :
    numsA l 3 k bad = ([s.1, s.2.1, s.2.2], k + (triI s).length, bad) :=
  numsA_at (xs := [s.2.1, s.2.2]) hr bad (fun y hy => by
    simp at hy
    rcases hy with rfl | rfl | rfl <;> assumption) h
theorem str_at {l x r : List UInt8} {k : Nat} (h : l.drop k = quoteL x ++ r) : strT l k = x ∧ strK l k = k + (quoteL x).length ∧ strOk l k = true := by
  have hk : k ≤ l.length := by
    rcases Nat.le_total k l.length with h1 | h1
    · exact h1
    · rw [List.drop_eq_nil_of_le h1] at h
      exact absurd h.symm (by simp [quoteL])
  have e : l = l.take k ++ (quoteL x ++ r) := by rw [← h, List.take_append_drop]
  have hl : (l.take k).length = k := by rw [List.length_take]; omega
  have := str_read (l.take k) x r
  rw [hl, ← e] at this
  exact this
theorem ss_at {l x r : List UInt8} {k : Nat} (h : l.drop k = [47] ++ quoteL x ++ r) (bad : Bool) : ssT l k = x ∧ ssK l k = k + ([47] ++ quoteL x).length ∧ ssB l k bad = bad := by
  rw [List.append_assoc] at h
  obtain ⟨e1, e2, h2⟩ := sep1 h bad
  obtain ⟨f1, f2, f3⟩ := str_at h2
  unfold ssT ssK ssB
  rw [e1, e2, f1, f2, f3]
  exact ⟨rfl, by simp only [List.length_append, List.length_singleton]; omega, by simp⟩
/-- Behind a part: the end, or a blank. -/
def Tl (r : List UInt8) : Prop := r = [] ∨ ∃ r', r = 32 :: r'
theorem Tl.stop {r : List UInt8} (h : Tl r) : StopR r := by
  rcases h with rfl | ⟨r', rfl⟩
  · exact .inl rfl
  · exact .inr ⟨32, r', rfl, by decide⟩
theorem Tl.here {r : List UInt8} (h : Tl r) : hereB 44 r = false := by
  rcases h with rfl | ⟨r', rfl⟩ <;> rfl
theorem tl_part (b : Bool) (nm v : List UInt8) {r : List UInt8} (h : Tl r) : Tl (partL b nm v ++ r) := by
  cases b with
  | false => exact h
  | true => exact .inr ⟨nm ++ [61] ++ v ++ r, by simp [partL]⟩
theorem mems_at {r : List UInt8} (hr : Tl r) (l : List UInt8) : ∀ (ls : List (Int × Int × Int)) (x : Int × Int × Int) (ms : List (Int × Int × Int)) (k : Nat), (∀ s ∈ x :: ls, Ct s.1 ∧ Ct s.2.1 ∧ Ct s.2.2) →
    l.drop k = Lib.join ((x :: ls).map triI) [44] ++ r → memsP l ms k false = (ms ++ (x :: ls), k + (Lib.join ((x :: ls).map triI) [44]).length, false)
  | [], x, ms, k, hx, h => by
    rw [List.map_cons, List.map_nil, Lib.join_one] at h ⊢
    obtain ⟨h1, h2, h3⟩ := hx x (by simp)
    have e := tri_at hr.stop false h1 h2 h3 h
    have hd := drop_app h
    rw [memsP_last ms (by rw [e]; simp only; rw [hd]; exact hr.here), e]
    rfl
  | y :: ls, x, ms, k, hx, h => by
    have ej : Lib.join ((x :: y :: ls).map triI) [44] = triI x ++ ([44] ++ Lib.join ((y :: ls).map triI) [44]) := by
      rw [List.map_cons, List.map_cons, Lib.join_cons, Lib.join_cons]
      simp [Lib.joinTail]
    rw [ej] at h ⊢
    rw [List.append_assoc, List.append_assoc] at h
    obtain ⟨h1, h2, h3⟩ := hx x (by simp)
    have e := tri_at (StopR.cons _ (by decide)) false h1 h2 h3 h
    have hd := drop_app h
    have hh : hereB 44 (l.drop (numsA l 3 k false).2.1) = true := by rw [e]; simp only; rw [hd]; rfl
    have hd2 := (sep1 hd false).2.2
    have ih := mems_at hr l ls y (ms ++ [tri3 (numsA l 3 k false).1]) _ (fun s hs => hx s (by simp [hs])) hd2
    rw [memsP_more ms hh]
    rw [e] at ih ⊢
    simp only at ih ⊢
    rw [ih]
    refine Prod.ext (by simp [tri3, nth]) (Prod.ext ?_ rfl)
    simp only [List.length_append, List.length_singleton]
    omega
theorem trans_at {r : List UInt8} (hr : Tl r) (l : List UInt8) : ∀ (ls : List Int) (x : Int) (ts : List Int) (k : Nat), (∀ s ∈ x :: ls, Ct s) →
    l.drop k = Lib.join ((x :: ls).map Lib.itoa) [44] ++ r → tranP l ts k false = (ts ++ (x :: ls), k + (Lib.join ((x :: ls).map Lib.itoa) [44]).length, false)
  | [], x, ts, k, hx, h => by
    rw [List.map_cons, List.map_nil, Lib.join_one] at h ⊢
    obtain ⟨e1, e2, e3⟩ := num_at (hx x (by simp)) h hr.stop false
    have hd := drop_app h
    rw [tranP_last ts (by rw [e1, hd]; exact hr.here), e1, e2, e3]
  | y :: ls, x, ts, k, hx, h => by
    have ej : Lib.join ((x :: y :: ls).map Lib.itoa) [44] = Lib.itoa x ++ ([44] ++ Lib.join ((y :: ls).map Lib.itoa) [44]) := by
      rw [List.map_cons, List.map_cons, Lib.join_cons, Lib.join_cons]
      simp [Lib.joinTail]
    rw [ej] at h ⊢
    rw [List.append_assoc, List.append_assoc] at h
    obtain ⟨e1, e2, e3⟩ := num_at (hx x (by simp)) h (StopR.cons _ (by decide)) false
    have hd := drop_app h
    have hh : hereB 44 (l.drop (nK l k)) = true := by rw [e1, hd]; rfl
    have hd2 := (sep1 hd false).2.2
    have ih := trans_at hr l ls y (ts ++ [nV l k]) _ (fun s hs => hx s (by simp [hs])) hd2
    rw [tranP_more ts hh]
    rw [e1, e3]
    rw [e2] at ih ⊢
    rw [ih]
    refine Prod.ext (by simp) (Prod.ext ?_ rfl)
    simp only [List.length_append, List.length_singleton]
    omega
theorem free_name {nm : List UInt8} (h : ∀ c ∈ nm, ¬ c.toNat = 61) : Free [61] nm := fun q hq => by
  have h1 := h q hq
  have : ¬ ((61 : UInt8) == q) = true := by
    intro e
    rw [beq_iff_eq] at e
    subst e
    exact h1 rfl
  unfold Lib.indexByte
  rw [if_neg this]
  simp [Lib.indexByte]
/-- One part of a line, read. -/
theorem part_at {l nm v r : List UInt8} {acc acc' : PM} {k : Nat} (b : Bool) (h : l.drop k = partL b nm v ++ r) (hnm : ∀ c ∈ nm, ¬ c.toNat = 61)
    (h1 : b = true → ∀ q, l.drop q = v ++ r → partP l nm acc q false = (acc', q + v.length, false)) (h0 : b = false → acc = acc') :
    unmP l acc k false = unmP l acc' (k + (partL b nm v).length) false ∧ l.drop (k + (partL b nm v).length) = r := by
  refine ⟨?_, drop_app h⟩
  cases b with
  | false =>
    rw [h0 rfl]
    rfl
  | true =>
    have e : partL true nm v ++ r = [32] ++ (nm ++ ([61] ++ (v ++ r))) := by simp [partL]
    rw [e] at h
    have hk : k < l.length := by
      rcases Nat.lt_or_ge k l.length with h1 | h1
      · exact h1
      · rw [List.drop_eq_nil_of_le h1] at h
        exact absurd h.symm (by simp)
    obtain ⟨e1, e2, d1⟩ := sep1 h false
    have e3 : untL [61] (l.drop (k + 1)) = nm := by
      rw [d1]
      exact unt_stop (free_name hnm) (by decide)
    have d2 := drop_app d1
    obtain ⟨e4, e5, d3⟩ := sep1 d2 false
    have hr := (unmP_round acc hk e1 e2 e3 e4 e5).1
    rw [hr, h1 rfl _ d3]
    simp only
    congr 1
    simp only [partL, if_true, List.length_append, List.length_singleton]
    omega
theorem pst_num {l nm r : List UInt8} {x : Int} (hx : Ct x) (hr : Tl r) {q : Nat} (h : l.drop q = Lib.itoa x ++ r) : nV l q = x ∧ nK l q = q + (Lib.itoa x).length ∧ nB l q false = false := by
  obtain ⟨e1, e2, e3⟩ := num_at hx h hr.stop false
  exact ⟨e2, e1, e3⟩
/-- A whole number, read. -/
theorem free32 (n : Nat) : Free [32] (Lib.decDigits n) := fun q hq => by
  have h := (dec_facts n).2.1
  rw [List.all_eq_true] at h
  have h1 := of_decide_eq_true (h q hq)
  have : ¬ ((32 : UInt8) == q) = true := by
    intro e
    rw [beq_iff_eq] at e
    subst e
    have : (32 : UInt8).toNat = 32 := rfl
    omega
  unfold Lib.indexByte
  rw [if_neg this]
  simp [Lib.indexByte]
theorem free32_itoa (x : Int) : Free [32] (Lib.itoa x) := by
  unfold Lib.itoa
  split
  · intro q hq
    rcases List.mem_cons.1 hq with rfl | hq
    · decide
    · exact free32 _ q hq
  · exact free32 _
theorem sgn_at {l r : List UInt8} {q : Nat} {x : Int} (h0 : -4611686018427387904 ≤ x) (h1 : x ≤ 4611686018427387904) (hr : Tl r) (h : l.drop q = Lib.itoa x ++ r) (bad : Bool) :
    sgnV (l.drop q) = x ∧ gK l q = q + (Lib.itoa x).length ∧ gB l q bad = bad := by
  have hu : untL [32] (l.drop q) = Lib.itoa x := by
    rw [h]
    refine unt_at (free32_itoa x) ?_
    rcases hr with rfl | ⟨r', rfl⟩
    · exact .inl rfl
    · exact .inr ⟨32, r', rfl, by decide⟩
  unfold gK gB sgnV sgnOk numV numOk
  rw [hu]
  refine ⟨?_, rfl, ?_⟩
  · by_cases hx : x < 0
    · have e : Lib.itoa x = 45 :: Lib.decDigits x.natAbs := by unfold Lib.itoa; rw [if_pos hx]
      rw [e, if_pos (by rfl)]
      simp only [List.drop_succ_cons, List.drop_zero]
      rw [cnt_dec (by omega)]
      simp only
      omega
    · have e : Lib.itoa x = Lib.decDigits x.toNat := by unfold Lib.itoa; rw [if_neg hx]
      rw [e, if_neg (dec_head _), cnt_dec (by omega)]
      simp only
      omega
  · by_cases hx : x < 0
    · have e : Lib.itoa x = 45 :: Lib.decDigits x.natAbs := by unfold Lib.itoa; rw [if_pos hx]
      rw [e, if_pos (by rfl)]
      simp only [List.drop_succ_cons, List.drop_zero]
      rw [cnt_dec (by omega)]
      simp only
      have : decide (0 < x.natAbs) = true := decide_eq_true (by omega)
      rw [this]
      simp
    · have e : Lib.itoa x = Lib.decDigits x.toNat := by unfold Lib.itoa; rw [if_neg hx]
      rw [e, if_neg (dec_head _), cnt_dec (by omega)]
      simp
theorem Tl.nil : Tl [] := .inl rfl
set_option maxHeartbeats 4000000 in
/-- The program reads from a mark's line what the mark says. -/
theorem unm_line {m : Mk} (hc : Cnts m) (hl1 : m.ms.length = m.nm) (hl2 : m.ts.length = m.nt) : unmA (lineL m) = (m.pm, false) := by
  have hk : ∃ k : Nat, m.kd = k ∧ 1 ≤ k ∧ k ≤ 16 := ⟨m.kd.toNat, by have := hc.kd; omega, by have := hc.kd; omega, by have := hc.kd; omega⟩
  obtain ⟨k, hk, hk1, hk2⟩ := hk
  have hko : kindOf m = kindL.getD k [] := by unfold kindOf; rw [hk, Int.toNat_natCast]
  have N : ∀ {x : Int}, x ∈ m.ns → Ct x := fun h => hc.ct h
  have her : Ct m.er := by
    obtain ⟨n, hn, hle⟩ := hc.er
    exact ⟨n, hn, by omega⟩
  have hkf : Free [32] (kindOf m) := by
    rw [hko]
    have : ∀ k : Fin 17, ∀ q ∈ kindL.getD k.val [], Lib.indexByte [32] q < 0 := by decide +kernel
    exact this ⟨k, by omega⟩
  have t0 : Tl ([] : List UInt8) := Tl.nil
  have t1 := tl_part (m.er != 0) [101, 114, 114] (Lib.itoa m.er) t0
  have t2 := tl_part (resB m) [114, 101, 115, 117, 108, 116] (resL m) t1
  have t3 := tl_part (cmdB m) [99, 109, 100] (cmdL m) t2
  have t4 := tl_part (bodyB m) [98, 111, 100, 121] (quoteL m.bd) t3
  have t5 := tl_part (m.n != 0) [110] (Lib.itoa m.n) t4
  have t6 := tl_part (m.po != 0) [112, 111, 115] (Lib.itoa m.po) t5
  have t7 := tl_part (m.sq != 0) [115, 101, 113] (Lib.itoa m.sq) t6
  have t8 := tl_part (m.se != 0) [115, 101, 110, 100, 101, 114] (Lib.itoa m.se) t7
  have t9 := tl_part (decide (0 < m.nt)) [116, 114, 97, 110, 115] (Lib.join (m.ts.map Lib.itoa) [44]) t8
  have t10 := tl_part (decide (0 < m.nm)) [109, 101, 109, 98, 101, 114, 115] (Lib.join (m.ms.map triI) [44]) t9
  have t11 := tl_part (idB m) [105, 100] (sl4 m.ep m.ld m.ii m.ci) t10
  obtain ⟨R, hR⟩ : ∃ R, R = partL (idB m) [105, 100] (sl4 m.ep m.ld m.ii m.ci) ++ (partL (decide (0 < m.nm)) [109, 101, 109, 98, 101, 114, 115] (Lib.join (m.ms.map triI) [44]) ++ (partL (decide (0 < m.nt)) [116, 114, 97, 110, 115] (Lib.join (m.ts.map Lib.itoa) [44]) ++ (partL (m.se != 0) [115, 101, 110, 100, 101, 114] (Lib.itoa m.se) ++ (partL (m.sq != 0) [115, 101, 113] (Lib.itoa m.sq) ++ (partL (m.po != 0) [112, 111, 115] (Lib.itoa m.po) ++ (partL (m.n != 0) [110] (Lib.itoa m.n) ++ (partL (bodyB m) [98, 111, 100, 121] (quoteL m.bd) ++ (partL (cmdB m) [99, 109, 100] (cmdL m) ++ (partL (resB m) [114, 101, 115, 117, 108, 116] (resL m) ++ (partL (m.er != 0) [101, 114, 114] (Lib.itoa m.er) ++ [])))))))))) := ⟨_, rfl⟩
  rw [← hR] at t11
  have hline : lineL m = Lib.itoa m.aT ++ ([32] ++ (kindOf m ++ ([32] ++ (Lib.itoa m.nd ++ ([32] ++ (Lib.itoa m.ic ++ R)))))) := by
    rw [hR]
    unfold lineL headL listsL numsL numL
    simp only [List.append_assoc, List.append_nil]
  obtain ⟨l, hl⟩ : ∃ l, l = lineL m := ⟨_, rfl⟩
  rw [← hl] at hline ⊢
  have d0 : l.drop 0 = Lib.itoa m.aT ++ ([32] ++ (kindOf m ++ ([32] ++ (Lib.itoa m.nd ++ ([32] ++ (Lib.itoa m.ic ++ R)))))) := by rw [List.drop_zero]; exact hline
  obtain ⟨a1, a2, a3⟩ := num_at (N (by simp [Mk.ns])) d0 (StopR.cons _ (by decide)) false
  have d1 := drop_app d0
  obtain ⟨b1, b2, d2⟩ := sep1 d1 false
  have hw : untL [32] (l.drop (0 + (Lib.itoa m.aT).length + 1)) = kindOf m := by
    rw [d2]
    exact unt_stop hkf (by decide)
  have d3 := drop_app d2
  obtain ⟨c1, c2, d4⟩ := sep1 d3 false
  obtain ⟨f1, f2, f3⟩ := num_at (N (by simp [Mk.ns])) d4 (StopR.cons _ (by decide)) false
  have d5 := drop_app d4
  obtain ⟨g1, g2, d6⟩ := sep1 d5 false
  obtain ⟨i1, i2, i3⟩ := num_at (N (by simp [Mk.ns])) d6 t11.stop false
  have d7 := drop_app d6
  rw [hR] at d7
  unfold unmA
  simp only [a1, a2, a3, b1, b2, hw, c1, c2, f1, f2, f3, g1, g2, i1, i2, i3]
  have hkc : kindC (kindOf m) = m.kd := by rw [hko, kind_word hk1 hk2, hk]
  rw [hkc]
  obtain ⟨K0, hK0⟩ : ∃ K0, K0 = 0 + (Lib.itoa m.aT).length + 1 + (kindOf m).length + 1 + (Lib.itoa m.nd).length + 1 + (Lib.itoa m.ic).length := ⟨_, rfl⟩
  rw [← hK0] at d7 ⊢
  clear hK0
  have ho : ({ PM.zero with aT := m.aT, kd := m.kd, nd := m.nd, ic := m.ic } : PM) = ⟨m.aT, m.kd, m.nd, m.ic, 0, 0, 0, 0, [], [], 0, 0, 0, 0, [], 0, 0, 0, 0, [], [], [], 0, [], 0, 0⟩ := rfl
  rw [ho]
  have S1 := part_at (acc := ⟨m.aT, m.kd, m.nd, m.ic, 0, 0, 0, 0, [], [], 0, 0, 0, 0, [], 0, 0, 0, 0, [], [], [], 0, [], 0, 0⟩) (acc' := ⟨m.aT, m.kd, m.nd, m.ic, m.ep, m.ld, m.ii, m.ci, [], [], 0, 0, 0, 0, [], 0, 0, 0, 0, [], [], [], 0, [], 0, 0⟩) (idB m) d7 (by decide)
    (fun _ q hq => by
      have e := sl4_at t10.stop false (N (by simp [Mk.ns])) (N (by simp [Mk.ns])) (N (by simp [Mk.ns])) (N (by simp [Mk.ns])) hq
      unfold partP
      rw [if_pos rfl]
      unfold pId
      rw [e]
      rfl)
    (fun hb => by
      unfold idB at hb
      rw [Bool.not_eq_false'] at hb
      simp only [Bool.and_eq_true, beq_iff_eq] at hb
      obtain ⟨e1, e2, e3, e4⟩ := hb
      rw [e1, e2, e3, e4])
  have S2 := part_at (acc := ⟨m.aT, m.kd, m.nd, m.ic, m.ep, m.ld, m.ii, m.ci, [], [], 0, 0, 0, 0, [], 0, 0, 0, 0, [], [], [], 0, [], 0, 0⟩) (acc' := ⟨m.aT, m.kd, m.nd, m.ic, m.ep, m.ld, m.ii, m.ci, m.ms, [], 0, 0, 0, 0, [], 0, 0, 0, 0, [], [], [], 0, [], 0, 0⟩) (decide (0 < m.nm)) S1.2 (by decide)
    (fun hb q hq => by
      have hpos := of_decide_eq_true hb
      cases hms : m.ms with
      | nil => rw [hms] at hl1; simp at hl1; omega
      | cons x ls =>
        rw [hms] at hq
        have e := mems_at t9 l ls x [] q (fun s hs => by
          rw [← hms] at hs
          obtain ⟨j, hj, rfl⟩ := List.getElem_of_mem hs
          obtain ⟨h1, h2, h3⟩ := tri_ct hc hj
          have e : m.ms.getD j (0, 0, 0) = m.ms[j] := by simp [hj]
          unfold pidA at h1
          unfold incA at h2
          unfold cidA at h3
          rw [e] at h1 h2 h3
          exact ⟨h1, h2, h3⟩) hq
        unfold partP
        rw [if_neg (by decide), if_pos rfl]
        unfold pMs
        simp only [e]
        rfl)
    (fun hb => by
      have h1 : m.ms = [] := List.length_eq_zero_iff.1 (by have := of_decide_eq_false hb; omega)
      rw [h1])
  have S3 := part_at (acc := ⟨m.aT, m.kd, m.nd, m.ic, m.ep, m.ld, m.ii, m.ci, m.ms, [], 0, 0, 0, 0, [], 0, 0, 0, 0, [], [], [], 0, [], 0, 0⟩) (acc' := ⟨m.aT, m.kd, m.nd, m.ic, m.ep, m.ld, m.ii, m.ci, m.ms, m.ts, 0, 0, 0, 0, [], 0, 0, 0, 0, [], [], [], 0, [], 0, 0⟩) (decide (0 < m.nt)) S2.2 (by decide)
    (fun hb q hq => by
      have hpos := of_decide_eq_true hb
      cases hts : m.ts with
      | nil => rw [hts] at hl2; simp at hl2; omega
      | cons x ls =>
        rw [hts] at hq
        have e := trans_at t8 l ls x [] q (fun s hs => by
          rw [← hts] at hs
          obtain ⟨j, hj, rfl⟩ := List.getElem_of_mem hs
          obtain ⟨y, ey, hy⟩ := hc.ts j hj
          refine ⟨y, ?_, hy⟩
          rw [← ey]
          simp [nth, hj]) hq
        unfold partP
        rw [if_neg (by decide), if_neg (by decide), if_pos rfl]
        unfold pTr
        simp only [e]
        rfl)
    (fun hb => by
      have h1 : m.ts = [] := List.length_eq_zero_iff.1 (by have := of_decide_eq_false hb; omega)
      rw [h1])
  have hz : ∀ {x : Int}, (x != 0) = false → x = 0 := fun {x} h => by simpa using h
  have S4 := part_at (acc := ⟨m.aT, m.kd, m.nd, m.ic, m.ep, m.ld, m.ii, m.ci, m.ms, m.ts, 0, 0, 0, 0, [], 0, 0, 0, 0, [], [], [], 0, [], 0, 0⟩) (acc' := ⟨m.aT, m.kd, m.nd, m.ic, m.ep, m.ld, m.ii, m.ci, m.ms, m.ts, m.se, 0, 0, 0, [], 0, 0, 0, 0, [], [], [], 0, [], 0, 0⟩) (m.se != 0) S3.2 (by decide)
    (fun _ q hq => by
      obtain ⟨e1, e2, e3⟩ := num_at (N (by simp [Mk.ns])) hq t7.stop false
      unfold partP
      rw [if_neg (by decide), if_neg (by decide), if_neg (by decide), if_pos rfl]
      unfold pSe
      rw [e1, e2, e3])
    (fun hb => by rw [hz hb])
  have S5 := part_at (acc := ⟨m.aT, m.kd, m.nd, m.ic, m.ep, m.ld, m.ii, m.ci, m.ms, m.ts, m.se, 0, 0, 0, [], 0, 0, 0, 0, [], [], [], 0, [], 0, 0⟩) (acc' := ⟨m.aT, m.kd, m.nd, m.ic, m.ep, m.ld, m.ii, m.ci, m.ms, m.ts, m.se, m.sq, 0, 0, [], 0, 0, 0, 0, [], [], [], 0, [], 0, 0⟩) (m.sq != 0) S4.2 (by decide)
    (fun _ q hq => by
      obtain ⟨e1, e2, e3⟩ := num_at (N (by simp [Mk.ns])) hq t6.stop false
      unfold partP
      rw [if_neg (by decide), if_neg (by decide), if_neg (by decide), if_neg (by decide), if_pos rfl]
      unfold pSq
      rw [e1, e2, e3])
    (fun hb => by rw [hz hb])
  have S6 := part_at (acc := ⟨m.aT, m.kd, m.nd, m.ic, m.ep, m.ld, m.ii, m.ci, m.ms, m.ts, m.se, m.sq, 0, 0, [], 0, 0, 0, 0, [], [], [], 0, [], 0, 0⟩) (acc' := ⟨m.aT, m.kd, m.nd, m.ic, m.ep, m.ld, m.ii, m.ci, m.ms, m.ts, m.se, m.sq, m.po, 0, [], 0, 0, 0, 0, [], [], [], 0, [], 0, 0⟩) (m.po != 0) S5.2 (by decide)
    (fun _ q hq => by
      obtain ⟨e1, e2, e3⟩ := num_at (N (by simp [Mk.ns])) hq t5.stop false
      unfold partP
      rw [if_neg (by decide), if_neg (by decide), if_neg (by decide), if_neg (by decide), if_neg (by decide), if_pos rfl]
      unfold pPo
      rw [e1, e2, e3])
    (fun hb => by rw [hz hb])
  have S7 := part_at (acc := ⟨m.aT, m.kd, m.nd, m.ic, m.ep, m.ld, m.ii, m.ci, m.ms, m.ts, m.se, m.sq, m.po, 0, [], 0, 0, 0, 0, [], [], [], 0, [], 0, 0⟩) (acc' := ⟨m.aT, m.kd, m.nd, m.ic, m.ep, m.ld, m.ii, m.ci, m.ms, m.ts, m.se, m.sq, m.po, m.n, [], 0, 0, 0, 0, [], [], [], 0, [], 0, 0⟩) (m.n != 0) S6.2 (by decide)
    (fun _ q hq => by
      obtain ⟨e1, e2, e3⟩ := num_at (N (by simp [Mk.ns])) hq t4.stop false
      unfold partP
      rw [if_neg (by decide), if_neg (by decide), if_neg (by decide), if_neg (by decide), if_neg (by decide), if_neg (by decide), if_pos rfl]
      unfold pN
      rw [e1, e2, e3])
    (fun hb => by rw [hz hb])
  have S8 := part_at (acc := ⟨m.aT, m.kd, m.nd, m.ic, m.ep, m.ld, m.ii, m.ci, m.ms, m.ts, m.se, m.sq, m.po, m.n, [], 0, 0, 0, 0, [], [], [], 0, [], 0, 0⟩) (acc' := ⟨m.aT, m.kd, m.nd, m.ic, m.ep, m.ld, m.ii, m.ci, m.ms, m.ts, m.se, m.sq, m.po, m.n, m.bd, 0, 0, 0, 0, [], [], [], 0, [], 0, 0⟩) (bodyB m) S7.2 (by decide)
    (fun _ q hq => by
      obtain ⟨e1, e2, e3⟩ := str_at hq
      unfold partP
      rw [if_neg (by decide), if_neg (by decide), if_neg (by decide), if_neg (by decide), if_neg (by decide), if_neg (by decide), if_neg (by decide), if_pos rfl]
      unfold pBd
      rw [e1, e2, e3]
      rfl)
    (fun hb => by
      unfold bodyB at hb
      have h1 : m.bd = [] := Classical.not_not.1 (of_decide_eq_false hb)
      rw [h1])
  have S9 := part_at (acc := ⟨m.aT, m.kd, m.nd, m.ic, m.ep, m.ld, m.ii, m.ci, m.ms, m.ts, m.se, m.sq, m.po, m.n, m.bd, 0, 0, 0, 0, [], [], [], 0, [], 0, 0⟩) (acc' := ⟨m.aT, m.kd, m.nd, m.ic, m.ep, m.ld, m.ii, m.ci, m.ms, m.ts, m.se, m.sq, m.po, m.n, m.bd, m.cl, m.cn, m.rq, m.op, m.key.data.toList, m.val.data.toList, m.old.data.toList, 0, [], 0, 0⟩) (cmdB m) S8.2 (by decide)
    (fun _ q hq => by
      have e : cmdL m ++ (partL (resB m) [114, 101, 115, 117, 108, 116] (resL m) ++ (partL (m.er != 0) [101, 114, 114] (Lib.itoa m.er) ++ [])) = sl4 m.cl m.cn m.rq m.op ++ ([47] ++ quoteL m.key.data.toList ++ ([47] ++ quoteL m.val.data.toList ++ ([47] ++ quoteL m.old.data.toList ++ (partL (resB m) [114, 101, 115, 117, 108, 116] (resL m) ++ (partL (m.er != 0) [101, 114, 114] (Lib.itoa m.er) ++ []))))) := by
        unfold cmdL
        simp only [List.append_assoc]
      rw [e] at hq
      have e1 := sl4_at (StopR.cons _ (by decide)) false (N (by simp [Mk.ns])) (N (by simp [Mk.ns])) (N (by simp [Mk.ns])) (N (by simp [Mk.ns])) hq
      have q1 := drop_app hq
      obtain ⟨u1, u2, u3⟩ := ss_at q1 false
      have q2 := drop_app q1
      obtain ⟨v1, v2, v3⟩ := ss_at q2 false
      have q3 := drop_app q2
      obtain ⟨x1, x2, x3⟩ := ss_at q3 false
      unfold partP
      rw [if_neg (by decide), if_neg (by decide), if_neg (by decide), if_neg (by decide), if_neg (by decide), if_neg (by decide), if_neg (by decide), if_neg (by decide), if_pos rfl]
      unfold pCmd
      simp only [e1, u1, u2, u3, v1, v2, v3, x1, x2, x3]
      refine Prod.ext rfl (Prod.ext ?_ rfl)
      simp only [cmdL, List.length_append, List.length_singleton]
      omega)
    (fun hb => by
      unfold cmdB at hb
      rw [Bool.not_eq_false'] at hb
      simp only [Bool.and_eq_true] at hb
      obtain ⟨f1, f2, f3, f4, f5, f6, f7⟩ := hb
      rw [beq_iff_eq] at f1 f2 f3 f4
      rw [f1, f2, f3, f4, empty_bytes f5, empty_bytes f6, empty_bytes f7])
  have S10 := part_at (acc := ⟨m.aT, m.kd, m.nd, m.ic, m.ep, m.ld, m.ii, m.ci, m.ms, m.ts, m.se, m.sq, m.po, m.n, m.bd, m.cl, m.cn, m.rq, m.op, m.key.data.toList, m.val.data.toList, m.old.data.toList, 0, [], 0, 0⟩) (acc' := ⟨m.aT, m.kd, m.nd, m.ic, m.ep, m.ld, m.ii, m.ci, m.ms, m.ts, m.se, m.sq, m.po, m.n, m.bd, m.cl, m.cn, m.rq, m.op, m.key.data.toList, m.val.data.toList, m.old.data.toList, m.co, m.rv.data.toList, m.rn, 0⟩) (resB m) S9.2 (by decide)
    (fun _ q hq => by
      have e : resL m ++ (partL (m.er != 0) [101, 114, 114] (Lib.itoa m.er) ++ []) = Lib.itoa m.co ++ ([47] ++ quoteL m.rv.data.toList ++ ([47] ++ (Lib.itoa m.rn ++ (partL (m.er != 0) [101, 114, 114] (Lib.itoa m.er) ++ [])))) := by
        unfold resL
        simp only [List.append_assoc]
      rw [e] at hq
      obtain ⟨e1, e2, e3⟩ := num_at (N (by simp [Mk.ns])) hq (StopR.cons _ (by decide)) false
      have q1 := drop_app hq
      obtain ⟨u1, u2, u3⟩ := ss_at q1 false
      have q2 := drop_app q1
      obtain ⟨v1, v2, q3⟩ := sep1 q2 false
      obtain ⟨x1, x2, x3⟩ := sgn_at hc.rn.1 hc.rn.2 t1 q3 false
      unfold partP
      rw [if_neg (by decide), if_neg (by decide), if_neg (by decide), if_neg (by decide), if_neg (by decide), if_neg (by decide), if_neg (by decide), if_neg (by decide), if_neg (by decide), if_pos rfl]
      unfold pRes
      simp only [e1, e2, e3, u1, u2, u3, v1, v2, x1, x2, x3]
      refine Prod.ext rfl (Prod.ext ?_ rfl)
      simp only [resL, List.length_append, List.length_singleton]
      omega)
    (fun hb => by
      unfold resB at hb
      rw [Bool.not_eq_false'] at hb
      simp only [Bool.and_eq_true] at hb
      obtain ⟨f1, f2, f3⟩ := hb
      rw [beq_iff_eq] at f1 f3
      rw [f1, empty_bytes f2, f3])
  have S11 := part_at (acc := ⟨m.aT, m.kd, m.nd, m.ic, m.ep, m.ld, m.ii, m.ci, m.ms, m.ts, m.se, m.sq, m.po, m.n, m.bd, m.cl, m.cn, m.rq, m.op, m.key.data.toList, m.val.data.toList, m.old.data.toList, m.co, m.rv.data.toList, m.rn, 0⟩) (acc' := ⟨m.aT, m.kd, m.nd, m.ic, m.ep, m.ld, m.ii, m.ci, m.ms, m.ts, m.se, m.sq, m.po, m.n, m.bd, m.cl, m.cn, m.rq, m.op, m.key.data.toList, m.val.data.toList, m.old.data.toList, m.co, m.rv.data.toList, m.rn, m.er⟩) (m.er != 0) S10.2 (by decide)
    (fun _ q hq => by
      obtain ⟨e1, e2, e3⟩ := num_at her hq t0.stop false
      unfold partP
      rw [if_neg (by decide), if_neg (by decide), if_neg (by decide), if_neg (by decide), if_neg (by decide), if_neg (by decide), if_neg (by decide), if_neg (by decide), if_neg (by decide), if_neg (by decide), if_pos rfl]
      unfold pEr
      rw [e1, e2, e3])
    (fun hb => by rw [hz hb])
  rw [S1.1, S2.1, S3.1, S4.1, S5.1, S6.1, S7.1, S8.1, S9.1, S10.1, S11.1]
  have hend := S11.2
  rw [unmP_end]
  · rfl
  · intro h
    have := List.drop_eq_nil_iff.1 hend
    omega
end Go.Proofs.YtenebkkfjalcaaaDoor
set_option linter.unusedVariables false
set_option linter.unusedSimpArgs false
namespace Go.Proofs.YtenebkkfjalcaaaDoor
open Go.RowKit Go.WideShapes Go.ChangeShapes Q

/-- Its lists have at most K entries, its texts at most L bytes. -/
structure PZ (p : PM) (K L : Nat) : Prop where
  ms : p.ms.length ≤ K
  ts : p.ts.length ≤ K
  bd : p.bd.length ≤ L
  key : p.key.length ≤ L
  val : p.val.length ≤ L
  old : p.old.length ≤ L
  rv : p.rv.length ≤ L
theorem PZ.mono {p : PM} {K L K' L' : Nat} (h : PZ p K L) (hK : K ≤ K') (hL : L ≤ L') : PZ p K' L' :=
  ⟨Nat.le_trans h.ms hK, Nat.le_trans h.ts hK, Nat.le_trans h.bd hL, Nat.le_trans h.key hL, Nat.le_trans h.val hL, Nat.le_trans h.old hL, Nat.le_trans h.rv hL⟩
theorem textL_len (l : List UInt8) : (textL l).length ≤ l.length + 1 := by
  unfold textL
  split
  · cases hu : unq (l.drop 1) with
    | none => simp
    | some p =>
      obtain ⟨b, r⟩ := p
      have := unq_len _ _ (Nat.le_refl _) _ _ hu
      rw [List.length_drop] at this
      simp only
      omega
  · simp
theorem getD_len {ps : List (List UInt8)} {n : Nat} (h : ∀ p ∈ ps, p.length ≤ n) (i : Nat) : (ps.getD i []).length ≤ n := by
  rcases Nat.lt_or_ge i ps.length with h1 | h1
  · have e : ps.getD i [] = ps[i] := by simp [h1]
    rw [e]
    exact h _ (List.getElem_mem h1)
  · have e : ps.getD i [] = [] := by simp [h1]
    rw [e]
    simp
theorem cutD_len (c : UInt8) (l : List UInt8) : ((cutL c [] l).getD []).length ≤ l.length + 1 ∧ ∀ p ∈ (cutL c [] l).getD [], p.length ≤ l.length := by
  cases h : cutL c [] l with
  | none => simp
  | some ps =>
    simp only [Option.getD_some]
    refine ⟨cut_count _ c [] l (Nat.le_refl _) ps h, fun p hp => ?_⟩
    have := cut_len _ c [] l (Nat.le_refl _) ps h p hp
    simpa using this
theorem sevL_len (c : UInt8) (l : List UInt8) : (sevL c l).length ≤ l.length + 1 := by
  unfold sevL
  have := (cutD_len c l).1
  cases h : cutL c [] l with
  | none => simp
  | some ps => rw [h] at this; simpa using this
theorem bigC_sz {p : PM} {K L : Nat} (h : PZ p K L) (name s : List UInt8) : PZ (bigC p name s) (K + s.length + 1) (L + s.length + 1) := by
  have h0 := h.mono (show K ≤ K + s.length + 1 by omega) (show L ≤ L + s.length + 1 by omega)
  have ht : ∀ i, (textL (((cutL 47 [] s).getD []).getD i [])).length ≤ L + s.length + 1 := fun i => by
    have h1 := textL_len (((cutL 47 [] s).getD []).getD i [])
    have h2 := getD_len (cutD_len 47 s).2 i
    omega
  unfold bigC
  simp only
  split
  · exact ⟨h0.ms, h0.ts, h0.bd, h0.key, h0.val, h0.old, h0.rv⟩
  · split
    · refine ⟨?_, h0.ts, h0.bd, h0.key, h0.val, h0.old, h0.rv⟩
      have h1 := (cutD_len 44 s).1
      have h2 := List.length_filterMap_le memC ((cutL 44 [] s).getD [])
      have h3 := h.ms
      simp only [List.length_append]
      omega
    · split
      · refine ⟨h0.ms, ?_, h0.bd, h0.key, h0.val, h0.old, h0.rv⟩
        have := sevL_len 44 s
        simp only
        omega
      · split
        · refine ⟨h0.ms, h0.ts, ?_, h0.key, h0.val, h0.old, h0.rv⟩
          have := textL_len s
          simp only
          omega
        · split
          · exact ⟨h0.ms, h0.ts, h0.bd, ht 4, ht 5, ht 6, h0.rv⟩
          · split
            · exact ⟨h0.ms, h0.ts, h0.bd, h0.key, h0.val, h0.old, ht 1⟩
            · exact h0
theorem name_le (w : List UInt8) : (nameC w).length ≤ w.length := (List.takeWhile_sublist _).length_le
theorem fieldC_sz {p : PM} {K L : Nat} (h : PZ p K L) (w : List UInt8) : PZ (fieldC p w) (K + w.length) (L + w.length) := by
  have h0 := h.mono (show K ≤ K + w.length by omega) (show L ≤ L + w.length by omega)
  have hn := name_le w
  unfold fieldC
  simp only
  split
  · exact h0
  · rename_i hne
    have hs : (w.drop ((nameC w).length + 1)).length + 1 ≤ w.length := by rw [List.length_drop]; omega
    split
    · exact ⟨h0.ms, h0.ts, h0.bd, h0.key, h0.val, h0.old, h0.rv⟩
    · split
      · exact ⟨h0.ms, h0.ts, h0.bd, h0.key, h0.val, h0.old, h0.rv⟩
      · split
        · exact ⟨h0.ms, h0.ts, h0.bd, h0.key, h0.val, h0.old, h0.rv⟩
        · split
          · exact ⟨h0.ms, h0.ts, h0.bd, h0.key, h0.val, h0.old, h0.rv⟩
          · split
            · exact ⟨h0.ms, h0.ts, h0.bd, h0.key, h0.val, h0.old, h0.rv⟩
            · exact (bigC_sz h _ _).mono (by omega) (by omega)
/-- The lengths of pieces, together. -/
def sumL (ps : List (List UInt8)) : Nat := (ps.map List.length).sum
theorem sumL_cons (p : List UInt8) (ps : List (List UInt8)) : sumL (p :: ps) = p.length + sumL ps := by simp [sumL]
theorem cut_sum : ∀ (n : Nat) (c : UInt8) (cur l : List UInt8), l.length ≤ n → ∀ ps, cutL c cur l = some ps → sumL ps + ps.length = cur.length + l.length + 1
  | n, c, cur, [], _, ps, h => by
    rw [cut_nil] at h
    injection h with h
    subst h
    simp [sumL]
  | 0, c, cur, q :: r, hl, ps, h => by simp at hl
  | n + 1, c, cur, q :: r, hl, ps, h => by
    simp at hl
    by_cases h34 : q.toNat = 34
    · cases hu : unq r with
      | none => rw [cut_none h34 hu] at h; cases h
      | some x =>
        obtain ⟨b, r'⟩ := x
        rw [cut_str h34 hu] at h
        have hlt := unq_lt _ r (Nat.le_refl _) _ _ hu
        have := cut_sum n c _ r' (by omega) ps h
        simp only [List.length_append, List.length_take, List.length_cons] at this ⊢
        omega
    · by_cases hc : q = c
      · rw [cut_sep h34 hc] at h
        obtain ⟨qs, hq, rfl⟩ := Option.map_eq_some_iff.1 h
        have := cut_sum n c [] r (by omega) qs hq
        simp only [sumL_cons, List.length_nil, List.length_cons] at this ⊢
        omega
      · rw [cut_byte h34 hc] at h
        have := cut_sum n c _ r (by omega) ps h
        simp only [List.length_append, List.length_cons, List.length_nil] at this ⊢
        omega
theorem fold_sz : ∀ (r : List (List UInt8)) (p : PM) (K L : Nat), PZ p K L → PZ (r.foldl fieldC p) (K + sumL r) (L + sumL r)
  | [], p, K, L, h => by simpa [sumL] using h
  | w :: r, p, K, L, h => by
    have := fold_sz r (fieldC p w) (K + w.length) (L + w.length) (fieldC_sz h w)
    rw [List.foldl_cons, sumL_cons]
    exact this.mono (by omega) (by omega)
theorem sumL_take (ps : List (List UInt8)) (j : Nat) : sumL (ps.take j) ≤ sumL ps := by
  induction ps generalizing j with
  | nil => simp [sumL]
  | cons p ps ih =>
    cases j with
    | zero => simp [sumL]
    | succ j =>
      rw [List.take_succ_cons, sumL_cons, sumL_cons]
      have := ih j
      omega
/-- What the program's part reads. -/
theorem partP_sz {p : PM} {k k3 L : Nat} (l name : List UInt8) (bad : Bool) (h : PZ p k L) (hk : k ≤ k3) (hb : bad = true ∨ k + 1 ≤ k3) (hl : k3 ≤ l.length) (hL : l.length ≤ L) : PZ (partP l name p k3 bad).1 (partP l name p k3 bad).2.1 L := by
  have hge := partP_ge name p bad hl
  have hs : ∀ q, (strT l q).length ≤ L := fun q => Nat.le_trans (strT_len l q) hL
  have hss : ∀ q, (ssT l q).length ≤ L := fun q => hs _
  have h0 := h.mono (Nat.le_trans hk hge) (Nat.le_refl L)
  have hm : (memsP l p.ms k3 bad).1.length ≤ (memsP l p.ms k3 bad).2.1 := by
    have h1 := (memsP_le l p.ms k3 bad hl).2
    have h2 := h.ms
    rcases hb with rfl | hb
    · rw [memsP_bad]; simp only; omega
    · omega
  have ht : (tranP l p.ts k3 bad).1.length ≤ (tranP l p.ts k3 bad).2.1 := by
    have h1 := (tranP_le l p.ts k3 bad hl).2
    have h2 := h.ts
    rcases hb with rfl | hb
    · rw [tranP_bad]; simp only; omega
    · omega
  have n4 := numsA_ge l 4 k3 bad
  have nk := nK_ge l k3
  refine partP_all (fun r => k ≤ r.2.1 → PZ p r.2.1 L → PZ r.1 r.2.1 L) l name p k3 bad ?_ ?_ ?_ ?_ ?_ ?_ ?_ ?_ ?_ ?_ ?_ ?_ (Nat.le_trans hk hge) h0
  · intro _ h0; exact ⟨h0.ms, h0.ts, h0.bd, h0.key, h0.val, h0.old, h0.rv⟩
  · intro _ h0; exact ⟨hm, h0.ts, h0.bd, h0.key, h0.val, h0.old, h0.rv⟩
  · intro _ h0; exact ⟨h0.ms, ht, h0.bd, h0.key, h0.val, h0.old, h0.rv⟩
  · intro _ h0; exact ⟨h0.ms, h0.ts, h0.bd, h0.key, h0.val, h0.old, h0.rv⟩
  · intro _ h0; exact ⟨h0.ms, h0.ts, h0.bd, h0.key, h0.val, h0.old, h0.rv⟩
  · intro _ h0; exact ⟨h0.ms, h0.ts, h0.bd, h0.key, h0.val, h0.old, h0.rv⟩
  · intro _ h0; exact ⟨h0.ms, h0.ts, h0.bd, h0.key, h0.val, h0.old, h0.rv⟩
  · intro _ h0; exact ⟨h0.ms, h0.ts, hs _, h0.key, h0.val, h0.old, h0.rv⟩
  · intro _ h0; exact ⟨h0.ms, h0.ts, h0.bd, hss _, hss _, hss _, h0.rv⟩
  · intro _ h0; exact ⟨h0.ms, h0.ts, h0.bd, h0.key, h0.val, h0.old, hss _⟩
  · intro _ h0; exact ⟨h0.ms, h0.ts, h0.bd, h0.key, h0.val, h0.old, h0.rv⟩
  · intro _ h0; exact h0
end Go.Proofs.YtenebkkfjalcaaaDoor
