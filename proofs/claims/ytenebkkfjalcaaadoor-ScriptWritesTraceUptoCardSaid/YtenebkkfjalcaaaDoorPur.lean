/-
  Plain facts on a mark's line: its parts, joined by blanks or put one behind the other.
-/
import Derived.Test.YtenebkkfjalcaaaDoorLst
import Derived.Test.YtenebkkfjalcaaaDoorPrt
set_option linter.unusedVariables false
set_option linter.unusedSimpArgs false
namespace Go.Proofs.YtenebkkfjalcaaaDoor
open Go.RowKit Go.WideShapes Go.ChangeShapes Q

/-- A part of a line. -/
def partL (b : Bool) (nm v : List UInt8) : List UInt8 := if b = true then [32] ++ nm ++ [61] ++ v else []
theorem join_snoc (x sep : List UInt8) : ∀ (ls : List (List UInt8)), ls ≠ [] → Lib.join (ls ++ [x]) sep = Lib.join ls sep ++ sep ++ x
  | [], h => absurd rfl h
  | a :: r, _ => by
    rw [List.cons_append, Lib.join_cons, Lib.join_cons]
    simp [Lib.joinTail, List.flatten_append]
theorem join_addP (b : Bool) (ls : List (List UInt8)) (nm v : List UInt8) (h : ls ≠ []) : Lib.join (addP b ls nm v) [32] = Lib.join ls [32] ++ partL b nm v := by
  cases b with
  | false => simp [addP, partL]
  | true => rw [show addP true ls nm v = ls ++ [nm ++ [61] ++ v] from rfl, join_snoc _ _ _ h]; simp [partL]
theorem addP_ne (b : Bool) (ls : List (List UInt8)) (nm v : List UInt8) (h : ls ≠ []) : addP b ls nm v ≠ [] := by
  cases b with
  | false => exact h
  | true => simp [addP]
theorem addP_len (b : Bool) (ls : List (List UInt8)) (nm v : List UInt8) : (addP b ls nm v).length ≤ ls.length + 1 := by
  cases b <;> simp [addP]
theorem plain_part (nm : List UInt8) (n : Nat) : plainL nm n = partL (decide (n ≠ 0)) nm (Lib.decDigits n) := by
  unfold plainL partL
  by_cases h : n = 0 <;> simp [h]
theorem itoa_slash (xs : List Nat) : Lib.join (xs.map fun x : Nat => Lib.itoa (x : Int)) [47] = slashL xs := by
  unfold slashL
  rw [List.map_congr_left fun x _ => itoa_nat x]

/-- The members, each of three numbers. -/
def triI (s : Int × Int × Int) : List UInt8 := Lib.join [Lib.itoa s.1, Lib.itoa s.2.1, Lib.itoa s.2.2] [47]
def bodyB (m : Mk) : Bool := decide (m.bd ≠ [])
def idB (m : Mk) : Bool := !(m.ep == 0 && (m.ld == 0 && (m.ii == 0 && m.ci == 0)))
def cmdB (m : Mk) : Bool := !(m.cl == 0 && (m.cn == 0 && (m.rq == 0 && (m.op == 0 && (m.key == ⟨#[]⟩ && (m.val == ⟨#[]⟩ && m.old == ⟨#[]⟩))))))
def resB (m : Mk) : Bool := !(m.co == 0 && (m.rv == ⟨#[]⟩ && m.rn == 0))
def sl4 (a b c d : Int) : List UInt8 := Lib.join [Lib.itoa a, Lib.itoa b, Lib.itoa c, Lib.itoa d] [47]
def cmdL (m : Mk) : List UInt8 := sl4 m.cl m.cn m.rq m.op ++ [47] ++ quoteL m.key.data.toList ++ [47] ++ quoteL m.val.data.toList ++ [47] ++ quoteL m.old.data.toList
def resL (m : Mk) : List UInt8 := Lib.itoa m.co ++ [47] ++ quoteL m.rv.data.toList ++ [47] ++ Lib.itoa m.rn
def kindOf (m : Mk) : List UInt8 := kindL.getD m.kd.toNat []
def headL (m : Mk) : List UInt8 := Lib.itoa m.aT ++ [32] ++ kindOf m ++ [32] ++ Lib.itoa m.nd ++ [32] ++ Lib.itoa m.ic
def listsL (m : Mk) : List UInt8 := partL (idB m) [105, 100] (sl4 m.ep m.ld m.ii m.ci) ++ partL (decide (0 < m.nm)) [109, 101, 109, 98, 101, 114, 115] (Lib.join (m.ms.map triI) [44]) ++ partL (decide (0 < m.nt)) [116, 114, 97, 110, 115] (Lib.join (m.ts.map Lib.itoa) [44])
/-- A number's part. -/
def numL (nm : List UInt8) (x : Int) : List UInt8 := partL (x != 0) nm (Lib.itoa x)
def numsL (m : Mk) : List UInt8 := numL [115, 101, 110, 100, 101, 114] m.se ++ numL [115, 101, 113] m.sq ++ numL [112, 111, 115] m.po ++ numL [110] m.n
/-- A mark's line. -/
def lineL (m : Mk) : List UInt8 := headL m ++ listsL m ++ numsL m ++ partL (bodyB m) [98, 111, 100, 121] (quoteL m.bd) ++ partL (cmdB m) [99, 109, 100] (cmdL m) ++ partL (resB m) [114, 101, 115, 117, 108, 116] (resL m) ++ numL [101, 114, 114] m.er

theorem num_plain (nm : List UInt8) (n : Nat) : plainL nm n = numL nm (n : Int) := by
  rw [plain_part, numL, itoa_nat]
  congr 1
  by_cases h : n = 0 <;> simp [h]
theorem sl4_nat (a b c d : Nat) : sl4 (a : Int) b c d = slashL [a, b, c, d] := by rw [← itoa_slash]; rfl
theorem id_part (a b c d : Nat) : idL a b c d = partL (!((a : Int) == 0 && ((b : Int) == 0 && ((c : Int) == 0 && (d : Int) == 0)))) [105, 100] (sl4 (a : Int) b c d) := by
  rw [sl4_nat]
  unfold idL partL
  by_cases h : (a : Int) = 0 ∧ (b : Int) = 0 ∧ (c : Int) = 0 ∧ (d : Int) = 0
  · rw [if_pos h]
    obtain ⟨h1, h2, h3, h4⟩ := h
    simp [h1, h2, h3, h4]
  · rw [if_neg h, if_pos]
    · simp
    · rw [Bool.not_eq_true', Bool.eq_false_iff]
      intro h'
      simp only [Bool.and_eq_true, beq_iff_eq] at h'
      exact h ⟨h'.1, h'.2.1, h'.2.2.1, h'.2.2.2⟩
theorem tri_nat {l : List (Int × Int × Int)} {k x y z : Nat} (hk : k < l.length) (ex : pidA l k = x) (ey : incA l k = y) (ez : cidA l k = z) : triI l[k] = triL l k := by
  have e : l.getD k (0, 0, 0) = l[k] := by simp [hk]
  unfold triL
  rw [ex, ey, ez, ← itoa_slash]
  unfold pidA at ex
  unfold incA at ey
  unfold cidA at ez
  rw [e] at ex ey ez
  unfold triI
  rw [ex, ey, ez]
  rfl
theorem mem_part (l : List (Int × Int × Int)) (h : ∀ k, k < l.length → ∃ x y z : Nat, pidA l k = x ∧ incA l k = y ∧ cidA l k = z) : ∀ k, k ≤ l.length → memL l k = partL (decide (0 < k)) [109, 101, 109, 98, 101, 114, 115] (Lib.join ((l.take k).map triI) [44])
  | 0, _ => by simp [memL, partL]
  | k + 1, hk => by
    have ih := mem_part l h k (by omega)
    obtain ⟨x, y, z, ex, ey, ez⟩ := h k (by omega)
    rw [memL, ih, ← tri_nat (by omega) ex ey ez, List.take_succ_eq_append_getElem (by omega), List.map_append]
    by_cases h0 : k = 0
    · subst h0
      simp [partL, Lib.join_one]
    · rw [if_neg h0]
      have hne : (l.take k).map triI ≠ [] := by
        intro e
        have := congrArg List.length e
        rw [List.length_map, List.length_take, List.length_nil] at this
        omega
      rw [show [l[k]].map triI = [triI l[k]] from rfl, join_snoc _ _ _ hne]
      simp [partL, show 0 < k by omega]
theorem tra_part (l : List Int) (h : ∀ k, k < l.length → ∃ x : Nat, nth l k = x) : ∀ k, k ≤ l.length → traL l k = partL (decide (0 < k)) [116, 114, 97, 110, 115] (Lib.join ((l.take k).map Lib.itoa) [44])
  | 0, _ => by simp [traL, partL]
  | k + 1, hk => by
    have ih := tra_part l h k (by omega)
    obtain ⟨x, ex⟩ := h k (by omega)
    have e : l[k] = (x : Int) := by rw [← ex]; simp [nth, show k < l.length by omega]
    rw [traL, ih, ex, List.take_succ_eq_append_getElem (by omega), List.map_append, e, Int.toNat_natCast, ← itoa_nat]
    by_cases h0 : k = 0
    · subst h0
      simp [partL, Lib.join_one]
    · rw [if_neg h0]
      have hne : (l.take k).map Lib.itoa ≠ [] := by
        intro e
        have := congrArg List.length e
        rw [List.length_map, List.length_take, List.length_nil] at this
        omega
      rw [show [(x : Int)].map Lib.itoa = [Lib.itoa x] from rfl, join_snoc _ _ _ hne]
      simp [partL, show 0 < k by omega]

/-- The numbers of a mark that can be written are counts. -/
structure Cnts (m : Mk) : Prop where
  ns : ∀ x ∈ m.ns, ∃ n : Nat, x = n ∧ n ≤ 4611686018427387904
  ms : ∀ k, k < m.ms.length → ∃ x y z : Nat, pidA m.ms k = x ∧ incA m.ms k = y ∧ cidA m.ms k = z ∧ x ≤ 4611686018427387904 ∧ y ≤ 4611686018427387904 ∧ z ≤ 4611686018427387904
  ts : ∀ k, k < m.ts.length → ∃ x : Nat, nth m.ts k = x ∧ x ≤ 4611686018427387904
  kd : 1 ≤ m.kd ∧ m.kd ≤ 16
  rn : -4611686018427387904 ≤ m.rn ∧ m.rn ≤ 4611686018427387904
  er : ∃ n : Nat, m.er = n ∧ n ≤ 999
theorem cnts {m : Mk} (hw : wrB m = true) : Cnts m := by
  unfold wrB at hw
  rw [Bool.and_eq_true, Bool.and_eq_true, Bool.and_eq_true] at hw
  obtain ⟨⟨⟨h0, hcm⟩, hcn⟩, hct⟩ := hw
  have h0 := of_decide_eq_true h0
  unfold cntB at hcm hcn hct
  rw [List.all_eq_true] at hcm hcn hct
  refine ⟨fun x hx => okC_nat (hcn x hx), fun k hk => ?_, fun k hk => okC_nat (hct _ (by simp [nth, hk])), ⟨h0.1, h0.2.1⟩, ⟨h0.2.2.1, h0.2.2.2.1⟩, ⟨m.er.toNat, by omega, by omega⟩⟩
  unfold flat at hcm
  have hmem : ∀ u ∈ [pidA m.ms k, incA m.ms k, cidA m.ms k], okC u = true := fun u hu => hcm u (by
    rw [List.mem_flatMap]
    exact ⟨m.ms[k], List.getElem_mem hk, by simpa [pidA, incA, cidA, hk] using hu⟩)
  obtain ⟨x, ex, hx⟩ := okC_nat (hmem (pidA m.ms k) (by simp))
  obtain ⟨y, ey, hy⟩ := okC_nat (hmem (incA m.ms k) (by simp))
  obtain ⟨z, ez, hz⟩ := okC_nat (hmem (cidA m.ms k) (by simp))
  exact ⟨x, y, z, ex, ey, ez, hx, hy, hz⟩
theorem lists_part {m : Mk} (hw : Cnts m) (h1 : m.ms.length = m.nm) (h2 : m.ts.length = m.nt) : idL m.ep m.ld m.ii m.ci ++ memL m.ms m.nm ++ traL m.ts m.nt = listsL m := by
  obtain ⟨a, ea, _⟩ := hw.ns m.ep (by simp [Mk.ns])
  obtain ⟨b, eb, _⟩ := hw.ns m.ld (by simp [Mk.ns])
  obtain ⟨c, ec, _⟩ := hw.ns m.ii (by simp [Mk.ns])
  obtain ⟨d, ed, _⟩ := hw.ns m.ci (by simp [Mk.ns])
  have hm := mem_part m.ms (fun k hk => by obtain ⟨x, y, z, ex, ey, ez, _⟩ := hw.ms k hk; exact ⟨x, y, z, ex, ey, ez⟩) m.nm (by omega)
  have ht := tra_part m.ts (fun k hk => by obtain ⟨x, ex, _⟩ := hw.ts k hk; exact ⟨x, ex⟩) m.nt (by omega)
  rw [List.take_of_length_le (by omega)] at hm ht
  rw [hm, ht]
  unfold listsL idB
  rw [ea, eb, ec, ed, id_part]
/-- The sizes of a mark. -/
structure MkZ (m : Mk) : Prop where
  nm : m.nm ≤ 1048576
  nt : m.nt ≤ 1048576
  nb : m.nb ≤ 1048576
  bd : m.bd.length = m.nb
  key : m.key.size ≤ 1048576
  val : m.val.size ≤ 1048576
  old : m.old.size ≤ 1048576
  rv : m.rv.size ≤ 1048576
end Go.Proofs.YtenebkkfjalcaaaDoor
