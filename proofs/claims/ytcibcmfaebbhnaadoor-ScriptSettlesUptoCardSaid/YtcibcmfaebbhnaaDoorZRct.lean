/-
  Counts read: which texts are counts, and that what was written as a count is read as it. The reference's Quote. The reference's Count and loose.
-/
import Derived.Lib.ParseIntBCases
import Derived.Test.YtcibcmfaebbhnaaDoorZDig
import Derived.StillTailTactics
set_option linter.unusedVariables false
set_option linter.unusedSimpArgs false
namespace Go.Proofs.YtcibcmfaebbhnaaDoor
open Go.RowKit Go.WideShapes Go.ChangeShapes Q
def isD (c : UInt8) : Bool := decide (48 ≤ c.toNat ∧ c.toNat ≤ 57)
def valD (a : Nat) (l : List UInt8) : Nat := l.foldl (fun a c => 10 * a + (c.toNat - 48)) a
theorem valD_snoc (a : Nat) (l : List UInt8) (c : UInt8) : valD a (l ++ [c]) = 10 * valD a l + (c.toNat - 48) := by simp [valD]
theorem valD_ge : ∀ (l : List UInt8) (a : Nat), a ≤ valD a l
  | [], a => Nat.le_refl _
  | c :: l, a => by
    have := valD_ge l (10 * a + (c.toNat - 48))
    show a ≤ valD (10 * a + (c.toNat - 48)) l
    omega
theorem valD_app (a : Nat) (l r : List UInt8) : valD a (l ++ r) = valD (valD a l) r := by simp [valD]
/-- The count that a text is. -/
def cnt (l : List UInt8) : Option Nat :=
  if l = [] ∨ 19 < l.length ∨ (1 < l.length ∧ l.head? = some 48) then none else if l.all isD = true then (if valD 0 l ≤ 4611686018427387904 then some (valD 0 l) else none) else none
theorem cnt_le {l : List UInt8} {n : Nat} (h : cnt l = some n) : n ≤ 4611686018427387904 := by
  unfold cnt at h
  split at h
  · cases h
  · split at h
    · split at h
      · injection h with h; omega
      · cases h
    · cases h
/-- What ParseUint gives of at most 19 digits. -/
theorem parse_ok : ∀ (l : List UInt8) (a k : Nat), (∀ c ∈ l, isD c = true) → a < 10 ^ k → k + l.length ≤ 19 → Lib.parseUintM (2 ^ 64 - 1) a l = .ok (valD a l)
  | [], a, k, _, _, _ => rfl
  | c :: l, a, k, hd, ha, hk => by
    have hc : isD c = true := hd c (by simp)
    unfold isD at hc
    have hc := of_decide_eq_true hc
    rw [List.length_cons] at hk
    have h18 : 10 ^ k ≤ 10 ^ 18 := Nat.pow_le_pow_right (by omega) (by omega)
    have e18 : (10 : Nat) ^ 18 = 1000000000000000000 := by decide
    rw [Lib.parseUintM, if_pos hc, if_neg (by omega), if_neg (by omega)]
    rw [parse_ok l (a * 10 + (c.toNat - 48)) (k + 1) (fun x hx => hd x (by simp [hx])) (by rw [Nat.pow_succ]; omega) (by omega)]
    rw [Nat.mul_comm a 10]
    rfl
theorem parse_cnt {l : List UInt8} (h0 : l ≠ []) (h19 : l.length ≤ 19) (hd : l.all isD = true) : Lib.parseUintB 64 l = .ok (valD 0 l) := by
  unfold Lib.parseUintB
  rw [if_neg h0]
  exact parse_ok l 0 0 (fun c hc => by rw [List.all_eq_true] at hd; exact hd c hc) (by decide) (by omega)
/-- Digits written. -/
theorem dig_byte {d : Nat} (h : d < 10) : isD (UInt8.ofNat (48 + d)) = true ∧ (UInt8.ofNat (48 + d)).toNat - 48 = d ∧ (UInt8.ofNat (48 + d) = 48 → d = 0) := by
  have : ∀ d : Fin 10, isD (UInt8.ofNat (48 + d.val)) = true ∧ (UInt8.ofNat (48 + d.val)).toNat - 48 = d.val ∧ (UInt8.ofNat (48 + d.val) = 48 → d.val = 0) := by decide +kernel
  exact this ⟨d, h⟩
theorem dec_facts : ∀ (n : Nat), Lib.decDigits n ≠ [] ∧ (Lib.decDigits n).all isD = true ∧ valD 0 (Lib.decDigits n) = n ∧ (0 < n → (Lib.decDigits n).head? ≠ some 48) := by
  intro n
  induction n using Nat.strongRecOn with
  | ind n ih =>
    by_cases h : n < 10
    · obtain ⟨h1, h2, h3⟩ := dig_byte h
      rw [dec_lt h]
      refine ⟨List.cons_ne_nil _ _, by rw [List.all_cons, h1]; rfl, ?_, fun h0 e => ?_⟩
      · show 10 * 0 + ((UInt8.ofNat (48 + n)).toNat - 48) = n
        omega
      · have := h3 (Option.some.inj e)
        omega
    · obtain ⟨i1, i2, i3, i4⟩ := ih (n / 10) (by omega)
      obtain ⟨h1, h2, h3⟩ := dig_byte (show n % 10 < 10 by omega)
      rw [dec_ge h]
      refine ⟨by simp, by rw [List.all_append, i2, List.all_cons, h1]; rfl, by rw [valD_snoc, i3, h2]; omega, fun _ => ?_⟩
      have i4' := i4 (by omega)
      cases hq : Lib.decDigits (n / 10) with
      | nil => exact absurd hq i1
      | cons x r => rw [hq] at i4'; exact i4'
theorem cnt_dec {n : Nat} (h : n ≤ 4611686018427387904) : cnt (Lib.decDigits n) = some n := by
  obtain ⟨h1, h2, h3, h4⟩ := dec_facts n
  have hl := dec_len19 (n := n) (by omega)
  unfold cnt
  rw [if_neg, if_pos h2, h3, if_pos h]
  rintro (h' | h' | ⟨h5, h6⟩)
  · exact h1 h'
  · omega
  · rcases Nat.eq_zero_or_pos n with h0 | h0
    · subst h0
      rw [dec_lt (by omega)] at h5
      simp at h5
    · exact h4 h0 h6
end Go.Proofs.YtcibcmfaebbhnaaDoor
set_option linter.unusedVariables false
set_option linter.unusedSimpArgs false
namespace Go.Proofs.YtcibcmfaebbhnaaDoor
open Go.RowKit Go.WideShapes Go.ChangeShapes Q
theorem step_push {P : Program} (w : World) {ops : Array Oper} {o : Oper} {a : Act} {K : Act → World → Prop} {Q : Exit → Act → World → Prop} {E : Prop} (hgd : o.guard = none) (s x : Operand) (t : TypeId)
    (ho : o.op = .call { callee := .builtin .append, args := #[s, x], argTypes := #[t, t] })
    (base : Nat) (e : TypeId) (i : TypeInfo) (z : Value) (size bytes : Nat) (ht : P.underlying t = some (.slice e)) (hi : P.info? e = some i) (hz : i.zero = some z)
    (hsize : i.size = size) (hby : i.bytes = bytes) (hzs : z.cells.size = size) (hsz : 0 < size)
    (v : Value) (n : Nat) (xs : List Value) (hs : a.eval s = v) (hown : w.ownsRow base e size v n xs)
    (gx m c : Nat) (cs : Array Value) (hx : a.eval x = .slice (some ⟨gx, 0, none⟩) m c) (hb : Blk w gx e cs) (hcs : cs.size = m * size) (h1 : ∀ u ∈ cs.toList, u.oneCell' = true)
    (hm : 0 < m) (h63 : n + m ≤ maxLen) (hbytes : (n + m) * bytes ≤ 140737488355328) (hbase : base ≤ w.heap.size)
    (h : ∀ g cap w', w'.ownsRow base e size (.slice (some ⟨g, 0, none⟩) (n + m) cap) (n + m) (xs ++ cs.toList) → w.grownBy w' v.ownBlock → (v.ownBlock = some g ∨ g = w.heap.size) → g < w'.heap.size → K (a.put o.dst (.slice (some ⟨g, 0, none⟩) (n + m) cap)) w') :
    if Region.wanted o (yielded ops a.tmps) = true then Oper.wp P o a w K Q else E :=
  step_append_lies w hgd s x t ho base e i z size bytes ht hi hz hsize hby hzs hsz v n xs hs hown ⟨gx, 0, none⟩ m c cs.toList hx (by simpa using hcs) (World.news_of_block hb) h1 hm h63 hbytes hbase w.heap.size rfl h
theorem info5 : (Tryd.prog.info? 5).map (fun i => (i.zero, i.size, i.bytes)) = some (some (.int .u8 0), 1, 1) := by kernel_rfl
def hexd (n : Nat) : UInt8 := ([48, 49, 50, 51, 52, 53, 54, 55, 56, 57, 97, 98, 99, 100, 101, 102] : List UInt8).getD n 0
theorem hexd_at {q : Nat} (h : q < 16) (h' : q < ({ data := #[48, 49, 50, 51, 52, 53, 54, 55, 56, 57, 97, 98, 99, 100, 101, 102] } : ByteArray).size) : ({ data := #[48, 49, 50, 51, 52, 53, 54, 55, 56, 57, 97, 98, 99, 100, 101, 102] } : ByteArray)[q]'h' = hexd q := by
  have : ∀ q : Fin 16, ({ data := #[48, 49, 50, 51, 52, 53, 54, 55, 56, 57, 97, 98, 99, 100, 101, 102] } : ByteArray)[q.val]'(q.isLt) = hexd q.val := by decide +kernel
  exact this ⟨q, h⟩
theorem and15 {n : Nat} (h : n < 256) : bits BinOp.and IntKind.u8 (n : Int) 15 = ((n % 16 : Nat) : Int) := by
  have : ∀ n : Fin 256, bits BinOp.and IntKind.u8 (n.val : Int) 15 = ((n.val % 16 : Nat) : Int) := by decide +kernel
  exact this ⟨n, h⟩
/-- A byte in a text of its own form. -/
def qb (c : UInt8) : List UInt8 := if c.toNat = 34 ∨ c.toNat = 92 then [92, c] else if c.toNat < 32 ∨ 126 < c.toNat then [92, 120, hexd (c.toNat / 16), hexd (c.toNat % 16)] else [c]
def quoteL (l : List UInt8) : List UInt8 := [34] ++ l.flatMap qb ++ [34]
theorem qb_len (c : UInt8) : (qb c).length ≤ 4 := by unfold qb; split <;> (try split) <;> simp
theorem qbs_len (l : List UInt8) : (l.flatMap qb).length ≤ 4 * l.length := by
  induction l with
  | nil => simp
  | cons a l ih => rw [List.flatMap_cons, List.length_append, List.length_cons]; have := qb_len a; omega
theorem str_len (s : ByteArray) : s.data.toList.length = s.size := Array.length_toList
theorem qb_take {s : ByteArray} {k : Nat} (h : k < s.size) : (s.data.toList.take (k + 1)).flatMap qb = (s.data.toList.take k).flatMap qb ++ qb s[k] := by
  rw [List.take_succ_eq_append_getElem (by rw [str_len]; exact h), List.flatMap_append]
  simp
  rfl
theorem own_bytes {w : World} {base g cap : Nat} {l : List UInt8} (h : w.ownsRow base 5 1 (.slice (some ⟨g, 0, none⟩) l.length cap) l.length (Lib.byteCells l)) : ∀ j (hj : j < l.length), w.cell? ((⟨g, 0, none⟩ : Addr).add j) = some (.int .u8 (l[j].toNat : Int)) := fun j hj =>
  World.ownsRow.cells (g := g) h rfl j _ (by simp [Lib.byteCells, hj])
end Go.Proofs.YtcibcmfaebbhnaaDoor
set_option linter.unusedVariables false
set_option linter.unusedSimpArgs false
namespace Go.Proofs.YtcibcmfaebbhnaaDoor
open Go.RowKit Go.WideShapes Go.ChangeShapes Q
theorem take_snoc {s : ByteArray} {j : Nat} (h : j < s.size) : s.data.toList.take (j + 1) = s.data.toList.take j ++ [s[j]] := by
  rw [List.take_succ_eq_append_getElem (by rw [str_len]; exact h)]
  rfl
theorem valD_take_le {s : ByteArray} (j : Nat) : valD 0 (s.data.toList.take j) ≤ valD 0 s.data.toList := by
  have h : valD 0 s.data.toList = valD (valD 0 (s.data.toList.take j)) (s.data.toList.drop j) := by
    rw [← valD_app, List.take_append_drop]
  rw [h]
  exact valD_ge _ _
theorem bget {s : ByteArray} {j : Nat} (h : j < s.size) : s.data.toList[j]? = some s[j] := by
  rw [List.getElem?_eq_getElem (by rw [str_len]; exact h)]
  rfl
theorem bmem {s : ByteArray} {j : Nat} (h : j < s.size) : s[j] ∈ s.data.toList := List.mem_of_getElem? (bget h)
theorem bempty {s : ByteArray} : s.data.toList = [] ↔ s.size = 0 := by
  rw [← List.length_eq_zero_iff, str_len]
theorem bhead {s : ByteArray} (h : 0 < s.size) : s.data.toList.head? = some s[0] := by
  rw [List.head?_eq_getElem?]
  exact bget h
theorem cnt_shape {s : ByteArray} (h : s.size = 0 ∨ 19 < s.size ∨ (1 < s.size ∧ s.data.toList.head? = some 48)) : cnt s.data.toList = none := by
  unfold cnt
  rw [if_pos]
  rcases h with h | h | h
  · exact .inl (bempty.2 h)
  · exact .inr (.inl (by rw [str_len]; exact h))
  · exact .inr (.inr (by rw [str_len]; exact h))
theorem cnt_digit {s : ByteArray} {j : Nat} (h : j < s.size) (hd : isD s[j] = false) : cnt s.data.toList = none := by
  unfold cnt
  split
  · rfl
  · rw [if_neg]
    intro ha
    rw [List.all_eq_true] at ha
    rw [ha _ (bmem h)] at hd
    cases hd
theorem cnt_over {s : ByteArray} (j : Nat) (h : 4611686018427387904 < valD 0 (s.data.toList.take j)) : cnt s.data.toList = none := by
  have := valD_take_le (s := s) j
  unfold cnt
  split
  · rfl
  · split
    · rw [if_neg (by omega)]
    · rfl
theorem cnt_yes {s : ByteArray} (h0 : ¬ (s.size = 0 ∨ 19 < s.size ∨ (1 < s.size ∧ s.data.toList.head? = some 48))) (hd : s.data.toList.all isD = true) (hv : valD 0 s.data.toList ≤ 4611686018427387904) : cnt s.data.toList = some (valD 0 s.data.toList) := by
  unfold cnt
  rw [if_neg, if_pos hd, if_pos hv]
  intro h
  apply h0
  rcases h with h | h | h
  · exact .inl (bempty.1 h)
  · rw [str_len] at h; exact .inr (.inl h)
  · rw [str_len] at h; exact .inr (.inr h)
end Go.Proofs.YtcibcmfaebbhnaaDoor
