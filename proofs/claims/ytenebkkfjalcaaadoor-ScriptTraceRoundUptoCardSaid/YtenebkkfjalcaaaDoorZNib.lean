/-
  The reference's lists. Plain facts on a mark's line: its parts, joined by blanks or put one behind the other. A list of marks in memory; the reference's SameMarks. (Printed by wip/tools/mkmarks.py.) The reference's SameMarks: a list of marks and one with the same content. A region that draws its order, walked one operation at a time; operations on texts and on whole structs as run equations. (Printed by wip/tools/mkrun.py.) Digits of a string's own form: the program's nibble, the reference's hex; what is read of what was quoted.
-/
import Derived.Test.YtenebkkfjalcaaaDoorZLs2
import Derived.Test.YtenebkkfjalcaaaDoorZLs3
import Derived.Test.YtenebkkfjalcaaaDoorZLs4
import Derived.Test.YtenebkkfjalcaaaDoorZLs5
import Derived.Test.YtenebkkfjalcaaaDoorZPrt
import Derived.Test.YtenebkkfjalcaaaDoorZSam
import Derived.StillTailTactics
import Derived.StillTail
import Derived.Test.YtenebkkfjalcaaaDoorZRead
set_option linter.unusedVariables false
namespace Go.Proofs.YtenebkkfjalcaaaDoor
open Go.RowKit Go.WideShapes Go.ChangeShapes Q

theorem lists_any (m : Mk) (w : World) (hm : MkIn w w.heap.size m) (hw : wrB m = true) :
    Calls Tryd.prog 37 #[m.v] w fun e w' => e = .returned (.string (S (idL m.ep m.ld m.ii m.ci ++ memL m.ms m.nm ++ traL m.ts m.nt))) ∧ Below w.heap.size w w' := by
  by_cases h1 : m.ep = 0
  · by_cases h2 : m.ld = 0
    · by_cases h3 : m.ii = 0
      · by_cases h4 : m.ci = 0
        · exact lists_c5 m w hm hw ⟨h1, h2, h3, h4⟩
        · exact lists_c4 m w hm hw ⟨h1, h2, h3, h4⟩
      · exact lists_c3 m w hm hw ⟨h1, h2, h3⟩
    · exact lists_c2 m w hm hw ⟨h1, h2⟩
  · exact lists_c1 m w hm hw h1
end Go.Proofs.YtenebkkfjalcaaaDoor
set_option linter.unusedVariables false
set_option linter.unusedSimpArgs false
namespace Go.Proofs.YtenebkkfjalcaaaDoor
open Go.RowKit Go.WideShapes Go.ChangeShapes Q

/-- A part of a line. -/
def partL (b : Bool) (nm v : List UInt8) : List UInt8 := if b = true then [32] ++ nm ++ [61] ++ v else []
theorem join_snoc (x sep : List UInt8) : ∀ (ls : List (List UInt8)), ls ≠ [] → Lib.join (ls ++ [x]) sep = Lib.join ls sep ++ sep ++ x
  | [], h => absurd rfl h
  | a :: r, _ => by
    rw [List.cons_append, Lib.join_cons, Lib.join_cons]
    simp [Lib.joinTail, List.flatten_append]
theorem join_addP (b : Bool) (ls : List (List UInt8)) (nm v : List UInt8) (h : ls ≠ []) : Lib.join (addP b ls nm v) [32] = Lib.join ls [32] ++ partL b nm v := by
  cases b with
  | false => simp [addP, partL]
  | true => rw [show addP true ls nm v = ls ++ [nm ++ [61] ++ v] from rfl, join_snoc _ _ _ h]; simp [partL]
theorem addP_ne (b : Bool) (ls : List (List UInt8)) (nm v : List UInt8) (h : ls ≠ []) : addP b ls nm v ≠ [] := by
  cases b with
  | false => exact h
  | true => simp [addP]
theorem addP_len (b : Bool) (ls : List (List UInt8)) (nm v : List UInt8) : (addP b ls nm v).length ≤ ls.length + 1 := by
  cases b <;> simp [addP]
theorem plain_part (nm : List UInt8) (n : Nat) : plainL nm n = partL (decide (n ≠ 0)) nm (Lib.decDigits n) := by
  unfold plainL partL
  by_cases h : n = 0 <;> simp [h]
theorem itoa_slash (xs : List Nat) : Lib.join (xs.map fun x : Nat => Lib.itoa (x : Int)) [47] = slashL xs := by
  unfold slashL
  rw [List.map_congr_left fun x _ => itoa_nat x]

/-- The members, each of three numbers. -/
def triI (s : Int × Int × Int) : List UInt8 := Lib.join [Lib.itoa s.1, Lib.itoa s.2.1, Lib.itoa s.2.2] [47]
def bodyB (m : Mk) : Bool := decide (m.bd ≠ [])
def idB (m : Mk) : Bool := !(m.ep == 0 && (m.ld == 0 && (m.ii == 0 && m.ci == 0)))
def cmdB (m : Mk) : Bool := !(m.cl == 0 && (m.cn == 0 && (m.rq == 0 && (m.op == 0 && (m.key == ⟨#[]⟩ && (m.val == ⟨#[]⟩ && m.old == ⟨#[]⟩))))))
def resB (m : Mk) : Bool := !(m.co == 0 && (m.rv == ⟨#[]⟩ && m.rn == 0))
def sl4 (a b c d : Int) : List UInt8 := Lib.join [Lib.itoa a, Lib.itoa b, Lib.itoa c, Lib.itoa d] [47]
def cmdL (m : Mk) : List UInt8 := sl4 m.cl m.cn m.rq m.op ++ [47] ++ quoteL m.key.data.toList ++ [47] ++ quoteL m.val.data.toList ++ [47] ++ quoteL m.old.data.toList
def resL (m : Mk) : List UInt8 := Lib.itoa m.co ++ [47] ++ quoteL m.rv.data.toList ++ [47] ++ Lib.itoa m.rn
def kindOf (m : Mk) : List UInt8 := kindL.getD m.kd.toNat []
def headL (m : Mk) : List UInt8 := Lib.itoa m.aT ++ [32] ++ kindOf m ++ [32] ++ Lib.itoa m.nd ++ [32] ++ Lib.itoa m.ic
def listsL (m : Mk) : List UInt8 := partL (idB m) [105, 100] (sl4 m.ep m.ld m.ii m.ci) ++ partL (decide (0 < m.nm)) [109, 101, 109, 98, 101, 114, 115] (Lib.join (m.ms.map triI) [44]) ++ partL (decide (0 < m.nt)) [116, 114, 97, 110, 115] (Lib.join (m.ts.map Lib.itoa) [44])
/-- A number's part. -/
def numL (nm : List UInt8) (x : Int) : List UInt8 := partL (x != 0) nm (Lib.itoa x)
def numsL (m : Mk) : List UInt8 := numL [115, 101, 110, 100, 101, 114] m.se ++ numL [115, 101, 113] m.sq ++ numL [112, 111, 115] m.po ++ numL [110] m.n
/-- A mark's line. -/
def lineL (m : Mk) : List UInt8 := headL m ++ listsL m ++ numsL m ++ partL (bodyB m) [98, 111, 100, 121] (quoteL m.bd) ++ partL (cmdB m) [99, 109, 100] (cmdL m) ++ partL (resB m) [114, 101, 115, 117, 108, 116] (resL m) ++ numL [101, 114, 114] m.er

theorem num_plain (nm : List UInt8) (n : Nat) : plainL nm n = numL nm (n : Int) := by
  rw [plain_part, numL, itoa_nat]
  congr 1
  by_cases h : n = 0 <;> simp [h]
theorem sl4_nat (a b c d : Nat) : sl4 (a : Int) b c d = slashL [a, b, c, d] := by rw [← itoa_slash]; rfl
theorem id_part (a b c d : Nat) : idL a b c d = partL (!((a : Int) == 0 && ((b : Int) == 0 && ((c : Int) == 0 && (d : Int) == 0)))) [105, 100] (sl4 (a : Int) b c d) := by
  rw [sl4_nat]
  unfold idL partL
  by_cases h : (a : Int) = 0 ∧ (b : Int) = 0 ∧ (c : Int) = 0 ∧ (d : Int) = 0
  · rw [if_pos h]
    obtain ⟨h1, h2, h3, h4⟩ := h
    simp [h1, h2, h3, h4]
  · rw [if_neg h, if_pos]
    · simp
    · rw [Bool.not_eq_true', Bool.eq_false_iff]
      intro h'
      simp only [Bool.and_eq_true, beq_iff_eq] at h'
      exact h ⟨h'.1, h'.2.1, h'.2.2.1, h'.2.2.2⟩
theorem tri_nat {l : List (Int × Int × Int)} {k x y z : Nat} (hk : k < l.length) (ex : pidA l k = x) (ey : incA l k = y) (ez : cidA l k = z) : triI l[k] = triL l k := by
  have e : l.getD k (0, 0, 0) = l[k] := by simp [hk]
  unfold triL
  rw [ex, ey, ez, ← itoa_slash]
  unfold pidA at ex
  unfold incA at ey
  unfold cidA at ez
  rw [e] at ex ey ez
  unfold triI
  rw [ex, ey, ez]
  rfl
theorem mem_part (l : List (Int × Int × Int)) (h : ∀ k, k < l.length → ∃ x y z : Nat, pidA l k = x ∧ incA l k = y ∧ cidA l k = z) : ∀ k, k ≤ l.length → memL l k = partL (decide (0 < k)) [109, 101, 109, 98, 101, 114, 115] (Lib.join ((l.take k).map triI) [44])
  | 0, _ => by simp [memL, partL]
  | k + 1, hk => by
    have ih := mem_part l h k (by omega)
    obtain ⟨x, y, z, ex, ey, ez⟩ := h k (by omega)
    rw [memL, ih, ← tri_nat (by omega) ex ey ez, List.take_succ_eq_append_getElem (by omega), List.map_append]
    by_cases h0 : k = 0
    · subst h0
      simp [partL, Lib.join_one]
    · rw [if_neg h0]
      have hne : (l.take k).map triI ≠ [] := by
        intro e
        have := congrArg List.length e
        rw [List.length_map, List.length_take, List.length_nil] at this
        omega
      rw [show [l[k]].map triI = [triI l[k]] from rfl, join_snoc _ _ _ hne]
      simp [partL, show 0 < k by omega]
theorem tra_part (l : List Int) (h : ∀ k, k < l.length → ∃ x : Nat, nth l k = x) : ∀ k, k ≤ l.length → traL l k = partL (decide (0 < k)) [116, 114, 97, 110, 115] (Lib.join ((l.take k).map Lib.itoa) [44])
  | 0, _ => by simp [traL, partL]
  | k + 1, hk => by
    have ih := tra_part l h k (by omega)
    obtain ⟨x, ex⟩ := h k (by omega)
    have e : l[k] = (x : Int) := by rw [← ex]; simp [nth, show k < l.length by omega]
    rw [traL, ih, ex, List.take_succ_eq_append_getElem (by omega), List.map_append, e, Int.toNat_natCast, ← itoa_nat]
    by_cases h0 : k = 0
    · subst h0
      simp [partL, Lib.join_one]
    · rw [if_neg h0]
      have hne : (l.take k).map Lib.itoa ≠ [] := by
        intro e
        have := congrArg List.length e
        rw [List.length_map, List.length_take, List.length_nil] at this
        omega
      rw [show [(x : Int)].map Lib.itoa = [Lib.itoa x] from rfl, join_snoc _ _ _ hne]
      simp [partL, show 0 < k by omega]

/-- The numbers of a mark that can be written are counts. -/
structure Cnts (m : Mk) : Prop where
  ns : ∀ x ∈ m.ns, ∃ n : Nat, x = n ∧ n ≤ 4611686018427387904
  ms : ∀ k, k < m.ms.length → ∃ x y z : Nat, pidA m.ms k = x ∧ incA m.ms k = y ∧ cidA m.ms k = z ∧ x ≤ 4611686018427387904 ∧ y ≤ 4611686018427387904 ∧ z ≤ 4611686018427387904
  ts : ∀ k, k < m.ts.length → ∃ x : Nat, nth m.ts k = x ∧ x ≤ 4611686018427387904
  kd : 1 ≤ m.kd ∧ m.kd ≤ 16
  rn : -4611686018427387904 ≤ m.rn ∧ m.rn ≤ 4611686018427387904
  er : ∃ n : Nat, m.er = n ∧ n ≤ 999
theorem cnts {m : Mk} (hw : wrB m = true) : Cnts m := by
  unfold wrB at hw
  rw [Bool.and_eq_true, Bool.and_eq_true, Bool.and_eq_true] at hw
  obtain ⟨⟨⟨h0, hcm⟩, hcn⟩, hct⟩ := hw
  have h0 := of_decide_eq_true h0
  unfold cntB at hcm hcn hct
  rw [List.all_eq_true] at hcm hcn hct
  refine ⟨fun x hx => okC_nat (hcn x hx), fun k hk => ?_, fun k hk => okC_nat (hct _ (by simp [nth, hk])), ⟨h0.1, h0.2.1⟩, ⟨h0.2.2.1, h0.2.2.2.1⟩, ⟨m.er.toNat, by omega, by omega⟩⟩
  unfold flat at hcm
  have hmem : ∀ u ∈ [pidA m.ms k, incA m.ms k, cidA m.ms k], okC u = true := fun u hu => hcm u (by
    rw [List.mem_flatMap]
    exact ⟨m.ms[k], List.getElem_mem hk, by simpa [pidA, incA, cidA, hk] using hu⟩)
  obtain ⟨x, ex, hx⟩ := okC_nat (hmem (pidA m.ms k) (by simp))
  obtain ⟨y, ey, hy⟩ := okC_nat (hmem (incA m.ms k) (by simp))
  obtain ⟨z, ez, hz⟩ := okC_nat (hmem (cidA m.ms k) (by simp))
  exact ⟨x, y, z, ex, ey, ez, hx, hy, hz⟩
theorem lists_part {m : Mk} (hw : Cnts m) (h1 : m.ms.length = m.nm) (h2 : m.ts.length = m.nt) : idL m.ep m.ld m.ii m.ci ++ memL m.ms m.nm ++ traL m.ts m.nt = listsL m := by
  obtain ⟨a, ea, _⟩ := hw.ns m.ep (by simp [Mk.ns])
  obtain ⟨b, eb, _⟩ := hw.ns m.ld (by simp [Mk.ns])
  obtain ⟨c, ec, _⟩ := hw.ns m.ii (by simp [Mk.ns])
  obtain ⟨d, ed, _⟩ := hw.ns m.ci (by simp [Mk.ns])
  have hm := mem_part m.ms (fun k hk => by obtain ⟨x, y, z, ex, ey, ez, _⟩ := hw.ms k hk; exact ⟨x, y, z, ex, ey, ez⟩) m.nm (by omega)
  have ht := tra_part m.ts (fun k hk => by obtain ⟨x, ex, _⟩ := hw.ts k hk; exact ⟨x, ex⟩) m.nt (by omega)
  rw [List.take_of_length_le (by omega)] at hm ht
  rw [hm, ht]
  unfold listsL idB
  rw [ea, eb, ec, ed, id_part]
/-- The sizes of a mark. -/
structure MkZ (m : Mk) : Prop where
  nm : m.nm ≤ 1048576
  nt : m.nt ≤ 1048576
  nb : m.nb ≤ 1048576
  bd : m.bd.length = m.nb
  key : m.key.size ≤ 1048576
  val : m.val.size ≤ 1048576
  old : m.old.size ≤ 1048576
  rv : m.rv.size ≤ 1048576
end Go.Proofs.YtenebkkfjalcaaaDoor
set_option linter.unusedVariables false
set_option linter.unusedSimpArgs false
namespace Go.Proofs.YtenebkkfjalcaaaDoor
open Go.RowKit Go.WideShapes Go.ChangeShapes Q

def mkCells (l : List Mk) : List Value := l.flatMap fun m => m.cs.toList
theorem mk_size (m : Mk) : m.cs.size = 26 := rfl
theorem mkCells_len (l : List Mk) : (mkCells l).length = l.length * 26 := by
  induction l with
  | nil => rfl
  | cons a l ih =>
    have : mkCells (a :: l) = a.cs.toList ++ mkCells l := rfl
    rw [this, List.length_append, ih, List.length_cons]
    have : a.cs.toList.length = 26 := rfl
    omega
theorem mkCells_at : ∀ (l : List Mk) (k i : Nat) (m : Mk), l[k]? = some m → i < 26 → (mkCells l)[k * 26 + i]? = m.cs[i]?
  | [], k, i, m, h, _ => by simp at h
  | a :: l, 0, i, m, h, hi => by
    simp at h
    subst h
    have : mkCells (a :: l) = a.cs.toList ++ mkCells l := rfl
    rw [this, Nat.zero_mul, Nat.zero_add, List.getElem?_append_left (by have : a.cs.toList.length = 26 := rfl; omega), Array.getElem?_toList]
  | a :: l, k + 1, i, m, h, hi => by
    have ih := mkCells_at l k i m (by simpa using h) hi
    have e : mkCells (a :: l) = a.cs.toList ++ mkCells l := rfl
    have hl : a.cs.toList.length = 26 := rfl
    rw [e, List.getElem?_append_right (by omega), hl, show (k + 1) * 26 + i - 26 = k * 26 + i by omega]
    exact ih
/-- A list of marks in memory. -/
structure MsIn (w : World) (B : Nat) (A : Option Addr) (n : Nat) (l : List Mk) : Prop where
  row : Reads w B 26 A n (mkCells l)
  ent : ∀ m ∈ l, MkIn w B m
theorem MsIn.len {w : World} {B n : Nat} {A : Option Addr} {l : List Mk} (h : MsIn w B A n l) : l.length = n := by
  have := h.row.1
  rw [mkCells_len] at this
  omega
theorem MsIn.at_ {w : World} {B n k : Nat} {A : Option Addr} {l : List Mk} (h : MsIn w B A n l) (hk : k < n) :
    ∃ b off m, A = some ⟨b, off, none⟩ ∧ b < B ∧ l[k]? = some m ∧ MkIn w B m ∧ ∀ i, i < 26 → w.cell? ⟨b, off + k * 26 + i, none⟩ = m.cs[i]? := by
  obtain ⟨ad, e, hb, hc⟩ := h.row.2 (by omega)
  have hl := h.len
  have hm : l[k]? = some (l[k]'(by omega)) := List.getElem?_eq_getElem _
  obtain ⟨b, off, spot⟩ := ad
  have hm0 : l[0]? = some (l[0]'(by omega)) := List.getElem?_eq_getElem _
  have h0 := mkCells_at l 0 0 _ hm0 (by omega)
  have hs : spot = none := by
    have hz : (mkCells l)[0]? = some ((l[0]'(by omega)).cs[0]'(by rw [mk_size]; omega)) := by rw [Nat.zero_mul] at h0; rw [h0]; rfl
    have := World.cell?_spot (hc _ _ hz)
    simpa [Addr.add] using this
  subst hs
  refine ⟨b, off, _, e, hb, hm, h.ent _ (List.mem_of_getElem? hm), fun i hi => ?_⟩
  have h1 := mkCells_at l k i _ hm hi
  have h2 : (l[k]'(by omega)).cs[i]? = some ((l[k]'(by omega)).cs[i]'(by rw [mk_size]; exact hi)) := Array.getElem?_eq_getElem _
  have h3 := hc _ _ (h1.trans h2)
  rw [h2, ← h3]
  congr 1
  unfold Addr.add
  split
  · rename_i h0; simp <;> omega
  · simp <;> omega
end Go.Proofs.YtenebkkfjalcaaaDoor
set_option linter.unusedVariables false
set_option linter.unusedSimpArgs false
namespace Go.Proofs.YtenebkkfjalcaaaDoor
open Go.RowKit Go.WideShapes Go.ChangeShapes Q

section
variable {P : Program}
theorem run_load_at (w : World) (ad : Addr) (ty : TypeId) (cs : Array Value) (d : TypeDesc) (hu : P.underlying ty = some d) (hd : (match d with | .struct _ | .array _ _ => true | _ => false) = true) (hi : (P.info? ty).map (·.size) = some cs.size)
    (h : ∀ j v, cs[j]? = some v → w.cell? (ad.add j) = some v) : (loadVar ty ad).run P w = .ok (.agg cs) w := by
  have hl : (loadCells ad cs.toList.length).run P w = .ok cs.toList.toArray w := run_loadCells_list (P := P) w ad cs.toList (fun j v hv => h j v (by simpa using hv))
  cases hq : P.info? ty with
  | none => simp [hq] at hi
  | some i =>
    have hs : i.size = cs.size := by simpa [hq] using hi
    have hagg : (isAgg ty).run P w = .ok true w := by
      unfold isAgg
      rw [Sem.run_bind, run_underlying hu w]
      cases d <;> simp_all
    simp only [Array.length_toList, Array.toArray_toList] at hl
    simp [loadVar, Sem.run_bind, hagg, sizeOf, typeInfo, hq, hs, hl]
theorem still_load_at {ops : Array Oper} {rest : List Oper} {o : Oper} {a : Act} {w : World} {Q : Act → Prop} (hw : Region.wanted o (yielded ops a.tmps) = true) (ty : TypeId) (x : Operand) (ho : o.op = .load ty x)
    (ad : Addr) (hx : a.eval x = .pointer (some ad)) (cs : Array Value) (d : TypeDesc)
    (hu : P.underlying ty = some d) (hd : (match d with | .struct _ | .array _ _ => true | _ => false) = true) (hi : (P.info? ty).map (·.size) = some cs.size) (hc : ∀ j v, cs[j]? = some v → w.cell? (ad.add j) = some v)
    (h : wpStill P ops w Q rest (a.put o.dst (.agg cs))) : wpStill P ops w Q (o :: rest) a := by
  refine wpStill_step fun K hK => ?_
  rw [if_pos hw]
  unfold Oper.still execOp
  simp only [ho, hx, Instr.loadAt, Instr.sureAddr, Sem.run_bind, Sem.run_pure, Result.andThen_ok, run_load_at w ad ty cs d hu hd hi hc, Oper.stillUpon_value]
  exact hK _ h
end
theorem ld48 (cs : Array Value) (h : cs.size = 26) : (Tryd.prog.info? 48).map (·.size) = some cs.size := by rw [h]; kernel_rfl
theorem cells_add {W : World} {b off : Nat} {m : Mk} (h : ∀ i, i < 26 → W.cell? ⟨b, off + i, none⟩ = m.cs[i]?) : ∀ j v, m.cs[j]? = some v → W.cell? ((⟨b, off, none⟩ : Addr).add j) = some v := fun j v hv => by
  have hj : j < 26 := by have := (Array.getElem?_eq_some_iff.1 hv).1; rw [mk_size] at this; exact this
  rw [← hv, ← h j hj]
  congr 1
  unfold Addr.add
  split
  · rename_i h0; simp [h0]
  · rfl
/-- The second list has the first one's content. -/
def SameC (l l' : List Mk) : Prop := l'.length = l.length ∧ ∀ (k : Nat) m m', l[k]? = some m → l'[k]? = some m' → ∃ Am cm At ct Ab cb, m' = m.at Am cm At ct Ab cb
theorem MsIn.below {w w' : World} {B n : Nat} {A : Option Addr} {l : List Mk} (h : MsIn w B A n l) (hb : Below B w w') : MsIn w' B A n l := ⟨h.row.below hb, fun m hm => (h.ent m hm).below hb⟩
theorem MkIn.drew {w : World} {B : Nat} {m : Mk} (h : MkIn w B m) : MkIn w.drew B m := ⟨Reads.drew h.mem, Reads.drew h.tr, Reads.drew h.body, h.hm, h.ht, h.hb⟩

set_option maxRecDepth 100000 in
set_option maxHeartbeats 4000000 in
theorem sameMarks_true (A A' : Option Addr) (n c c' : Nat) (l l' : List Mk) (w : World) (h : MsIn w w.heap.size A n l) (h' : MsIn w w.heap.size A' n l') (hs : SameC l l') (hn : n ≤ 10000000) :
    Calls Tryd.prog 11 #[.slice A n c, .slice A' n c'] w fun e w' => e = .returned (.bool true) ∧ Below w.heap.size w w' := by
  have H := hide h
  have H' := hide h'
  have HS := hide hs
  clear h h' hs
  go_enter Tryd.func11, Tryd.ntmps11
  go_upto_region 4 with fail
  go_loopw [5] (fun i wr => ∃ k : Nat, k ≤ n ∧ i = .int .i64 k ∧ Hid (Below w.heap.size w wr)) (fun i _ => n - (intOf i).toNat)
  case atStart => exact ⟨0, Nat.zero_le _, rfl, Below.refl _ _⟩
  case round =>
    obtain ⟨k, hk, rfl, hb⟩ := hrel
    by_cases hlt : k < n
    · obtain ⟨b, off, m, rfl, hbB, hm, hin, qc⟩ := (H.out.below hb.out).at_ hlt
      obtain ⟨b', off', m', rfl, hbB', hm', hin', rc⟩ := (H'.out.below hb.out).at_ hlt
      obtain ⟨Am', cm', At', ct', Ab', cb', hme⟩ := HS.out.2 k m m' hm hm'
      have hsw : w.heap.size ≤ wr.heap.size := hb.out.size
      have HSM : Hid (Calls Tryd.prog 21 #[.agg m.cs, .agg m'.cs] wr.drew fun e w' => e = .returned (.bool true) ∧ Below wr.heap.size wr.drew w') := by
        rw [hme]
        rw [hme] at hin'
        exact sameMark_true m Am' cm' At' ct' Ab' cb' wr.drew (hin.more hsw).drew (hin'.more hsw).drew
      have HQ := hide (cells_add qc)
      have HR := hide (cells_add rc)
      clear hm hm' hin hin' hme qc rc
      have k0 : (0 : Int) ≤ (k : Int) := by omega
      have kn : (k : Int) < (n : Int) := by omega
      go_upto_region 6 with fail
      refine wp_region_still_tail 8 (by kernel_rfl) (by kernel_rfl) ?_
      simp only [List.take_succ_cons, List.take_zero, List.drop_succ_cons, List.drop_zero]
      still_step
      still_step
      still_step
      refine still_load_at (by rfl) 48 (.tmp 19) rfl ⟨b, off + k * 26, none⟩ (by rfl) m.cs _ Tryd.underlying48 rfl (ld48 _ (mk_size _)) HQ.out ?_
      still_step
      still_step
      still_step
      refine still_load_at (by rfl) 48 (.tmp 23) rfl ⟨b', off' + k * 26, none⟩ (by rfl) m'.cs _ Tryd.underlying48 rfl (ld48 _ (mk_size _)) HR.out ?_
      try refine wpStill_nil ?_
      change wpList _ _ _ _ _ wr.drew
      go_wp2_with (go_at_call 21; refine HSM.out.mono ?_; rintro e w2 ⟨rfl, hb2⟩; have HB2 := hide hb2; clear hb2)
      have HBN : Hid (Below w.heap.size w w2) := (below_drewN hb.out 1).trans (HB2.out.mono hsw)
      go_roundw
      case rel => exact ⟨k + 1, by omega, by go_num, HBN⟩
      case measure => simp [intOf]; omega
    · have kn : ¬ (k : Int) < (n : Int) := by omega
      clear hlt
      go_wp2_with fail
      go_ret
      exact ⟨rfl, hb.out⟩
end Go.Proofs.YtenebkkfjalcaaaDoor
set_option linter.unusedVariables false
set_option linter.unusedSimpArgs false
namespace Go.Proofs.YtenebkkfjalcaaaDoor
open Go.RowKit Go.WideShapes Go.ChangeShapes Q

section
variable {P : Program} {ops : Array Oper} {Q : Exit → Act → World → Prop} {md : Region.Mode} {S : World → Prop} {sk : List Nat}
/-- Whatever order is picked from here on; behind each operation but those of sk, S holds. -/
def wpL (P : Program) (md : Region.Mode) (ops : Array Oper) (Q : Exit → Act → World → Prop) (S : World → Prop) (sk : List Nat) : Nat → Array Bool → Act → World → Prop
  | 0, listed, a, w => Region.ready md ops listed = [] ∧ Q .normal a w
  | fuel + 1, listed, a, w =>
    (Region.ready md ops listed = [] → Q .normal a w) ∧
    ∀ i ∈ Region.ready md ops listed, wpOp P ops Q i (fun a' w' => (sk.contains i = false → S w') ∧ wpL P md ops Q S sk fuel (listed.setIfInBounds i true) a' w') a w
theorem wpL_any : ∀ (fuel : Nat) (listed : Array Bool) (a : Act) (w : World), wpL P md ops Q S sk fuel listed a w → wpAny P md ops Q fuel listed a w
  | 0, _, _, _, h => h
  | fuel + 1, _, _, _, h => ⟨h.1, fun i hi => wpOp_mono (fun a' w' h' => wpL_any fuel _ a' w' h'.2) (h.2 i hi)⟩
/-- The operations of sk that are not carried out yet wait for number i. -/
def Waits (md : Region.Mode) (ops : Array Oper) (sk : List Nat) (listed : Array Bool) (i : Nat) : Prop := ∀ m ∈ sk, listed.getD m true = true ∨ Region.waitsFor md ops m i = true
theorem Waits.of {listed : Array Bool} {i : Nat} (h : sk.all (fun m => listed.getD m true || Region.waitsFor md ops m i) = true) : Waits md ops sk listed i := fun m hm => by
  have := List.all_eq_true.1 h m hm
  simpa using this
theorem Waits.not {listed : Array Bool} {i j : Nat} (h : Waits md ops sk listed i) (hr : i ∈ Region.ready md ops listed) (hj : j ∈ Region.ready md ops listed) : sk.contains j = false := by
  cases hc : sk.contains j with
  | false => rfl
  | true =>
    obtain ⟨hju, oj, hoj, hall⟩ := mem_ready.1 hj
    rcases h j (by simpa using hc) with h1 | h1
    · rw [hju] at h1; cases h1
    · obtain ⟨om, hom, e, he, hb, hon⟩ := Region.waitsFor_spec h1
      obtain rfl : oj = om := Option.some.inj (hoj.symm.trans hom)
      have h2 := hall e he hb
      rw [hon, getD_both (mem_ready.1 hr).1] at h2
      cases h2
theorem Waits.set {listed : Array Bool} {i j : Nat} (h : Waits md ops sk listed i) : Waits md ops sk (listed.setIfInBounds j true) i := fun m hm => by
  rcases h m hm with h1 | h1
  · refine .inl ?_
    by_cases e : j = m
    · subst e
      rcases Nat.lt_or_ge j listed.size with h' | h'
      · simp [h']
      · simp [h']
    · rw [getD_set_ne true e]; exact h1
  · exact .inr h1
theorem wpL_first {i : Nat} {oi : Oper} {v : Value} (hi : ops[i]? = some oi) (hsel : ∀ (j : Nat) (o : Oper) cs b, ops[j]? = some o → o.op ≠ .select cs b)
    (hQ : ∀ c a w, Q (.panic c) (a.put oi.dst v) w → Q (.panic c) a w) {T : World → Prop} {b : Bool} (hT : (b = true ∧ T = S) ∨ (b = false ∧ sk.contains i = true ∧ ∀ w, T w)) :
    ∀ (fuel : Nat) (listed : Array Bool) (a : Act) (w : World), (b = true → Waits md ops sk listed i) →
      (∀ j oj, ops[j]? = some oj → j ≠ i → listed.getD j true = false → (∀ e ∈ oj.after, Region.binds md e = true → e.on ≠ i) → oi.apart ops oj = true) →
      i ∈ Region.ready md ops listed → YieldsIf P ops T oi v a → T w →
      wpL P md ops Q S sk fuel (listed.setIfInBounds i true) (a.put oi.dst v) w → wpL P md ops Q S sk (fuel + 1) listed a w := by
  have here : ∀ w, T w → sk.contains i = false → S w := fun w hw hc => by
    rcases hT with ⟨_, h⟩ | ⟨_, h, _⟩
    · rw [← h]; exact hw
    · rw [h] at hc; cases hc
  intro fuel
  induction fuel with
  | zero =>
    intro listed a w hwait _ hr hy hS H
    refine ⟨fun h => (by rw [h] at hr; cases hr), fun j hj => ?_⟩
    by_cases hji : j = i
    · subst hji; exact hy.wpOp hi hS ⟨here w hS, H⟩
    · have := ready_mono hj hji
      rw [H.1] at this
      cases this
  | succ fuel ih =>
    intro listed a w hwait hfree hr hy hS H
    refine ⟨fun h => (by rw [h] at hr; cases hr), fun j hj => ?_⟩
    by_cases hji : j = i
    · subst hji; exact hy.wpOp hi hS ⟨here w hS, H⟩
    · have h1 := H.2 j (ready_mono hj hji)
      obtain ⟨hjun, oj, hoj, hall⟩ := mem_ready.1 hj
      have hnot : ∀ e ∈ oj.after, Region.binds md e = true → e.on ≠ i := fun e he hb heq => by
        have h1 := hall e he hb
        rw [heq, getD_both (mem_ready.1 hr).1] at h1
        cases h1
      have h2 := wpOp_putIf hoj (hfree j oj hoj hji hjun hnot) (fun cs b => hsel i oi cs b hi) (fun cs b => hsel j oj cs b hoj) hQ hy h1
      have hfree' : ∀ k ok, ops[k]? = some ok → k ≠ i → (listed.setIfInBounds j true).getD k true = false →
          (∀ e ∈ ok.after, Region.binds md e = true → e.on ≠ i) → oi.apart ops ok = true := fun k ok hk hki hun hno => by
        refine hfree k ok hk hki ?_ hno
        by_cases hjk : j = k
        · subst hjk; exact hjun
        · rw [getD_set_ne true hjk] at hun; exact hun
      have hT' : ∀ w', (sk.contains j = false → S w') → T w' := fun w' hw' => by
        rcases hT with ⟨hb, h⟩ | ⟨_, _, h⟩
        · rw [h]; exact hw' ((hwait hb).not hr hj)
        · exact h w'
      refine wpOp_mono (fun a' w' h3 => ⟨h3.2.1, ih (listed.setIfInBounds j true) a' w' (fun e => (hwait e).set) hfree' (ready_mono hr (Ne.symm hji)) h3.1 (hT' w' h3.2.1) ?_⟩) h2
      rw [Array.setIfInBounds_comm _ _ hji]
      exact h3.2.2
/-- Number i first, under S. -/
theorem wpL_take (i : Nat) {oi : Oper} {v : Value} {fuel : Nat} {listed : Array Bool} {a : Act} {w : World} (hi : ops[i]? = some oi)
    (hs : Region.noSelect ops = true) (hf : Region.free md ops listed i = true) (hr : (Region.ready md ops listed).contains i = true) (hwait : sk.all (fun m => listed.getD m true || Region.waitsFor md ops m i) = true)
    (hQ : ∀ c a w, Q (.panic c) (a.put oi.dst v) w → Q (.panic c) a w) (hy : YieldsIf P ops S oi v a) (hS : S w)
    (h : wpL P md ops Q S sk fuel (listed.setIfInBounds i true) (a.put oi.dst v) w) : wpL P md ops Q S sk (fuel + 1) listed a w :=
  wpL_first hi (Region.noSelect_spec hs) hQ (T := S) (b := true) (.inl ⟨rfl, rfl⟩) fuel listed a w (fun _ => Waits.of hwait) (Region.free_spec hi hf) (by simpa using hr) hy hS h
/-- Number i of sk first: it yields in whatever world. -/
theorem wpL_takeU (i : Nat) {oi : Oper} {v : Value} {fuel : Nat} {listed : Array Bool} {a : Act} {w : World} (hi : ops[i]? = some oi)
    (hs : Region.noSelect ops = true) (hf : Region.free md ops listed i = true) (hr : (Region.ready md ops listed).contains i = true) (hsk : sk.contains i = true)
    (hQ : ∀ c a w, Q (.panic c) (a.put oi.dst v) w → Q (.panic c) a w) (hy : YieldsIf P ops (fun _ => True) oi v a)
    (h : wpL P md ops Q S sk fuel (listed.setIfInBounds i true) (a.put oi.dst v) w) : wpL P md ops Q S sk (fuel + 1) listed a w :=
  wpL_first hi (Region.noSelect_spec hs) hQ (T := fun _ => True) (b := false) (.inr ⟨rfl, hsk, fun _ => trivial⟩) fuel listed a w (fun e => by cases e) (Region.free_spec hi hf) (by simpa using hr) hy trivial h
/-- Number i is the one that comes next. -/
theorem wpL_one (i : Nat) {o : Oper} {fuel : Nat} {listed : Array Bool} {a : Act} {w : World} (hr : Region.ready md ops listed = [i]) (ho : ops[i]? = some o)
    (h : ∀ K' : Act → World → Prop, (∀ a w, (sk.contains i = false → S w) → wpL P md ops Q S sk fuel (listed.setIfInBounds i true) a w → K' a w) → if Region.wanted o (yielded ops a.tmps) = true then Oper.wp P o a w K' Q else K' (a.put o.dst undef) w) :
    wpL P md ops Q S sk (fuel + 1) listed a w := by
  refine ⟨fun h0 => (by rw [h0] at hr; cases hr), fun j hj => ?_⟩
  rw [hr] at hj
  obtain rfl : j = i := by simpa using hj
  exact wpOp_step ho fun K' hK => h K' fun a w hS hW => hK a w ⟨hS, hW⟩
theorem wpL_done {listed : Array Bool} {a : Act} {w : World} (hr : Region.ready md ops listed = []) (h : Q .normal a w) : ∀ fuel, wpL P md ops Q S sk fuel listed a w
  | 0 => ⟨hr, h⟩
  | _ + 1 => ⟨fun _ => h, by rw [hr]; simp⟩
theorem wp_region_L (sk : List Nat) (S : World → Prop) {id : Nat} {a : Act} {w : World} (hm : P.follows .mixedOrders = true)
    (h : wpL P .any ops Q S sk ops.size (Array.replicate ops.size false) a w.drew) : (Code.region id ops true).wp P Q a w :=
  wp_region_any hm (wpL_any _ _ _ _ h)
end
/-- Either of two comes next. -/
theorem wpL_two {P : Program} {ops : Array Oper} {Q : Exit → Act → World → Prop} {md : Region.Mode} {S : World → Prop} {sk : List Nat} (i j : Nat) {oi oj : Oper} {fuel : Nat} {listed : Array Bool} {a : Act} {w : World} (hr : Region.ready md ops listed = [i, j]) (hi : ops[i]? = some oi) (hj : ops[j]? = some oj)
    (h1 : ∀ K' : Act → World → Prop, (∀ a w, (sk.contains i = false → S w) → wpL P md ops Q S sk fuel (listed.setIfInBounds i true) a w → K' a w) → if Region.wanted oi (yielded ops a.tmps) = true then Oper.wp P oi a w K' Q else K' (a.put oi.dst undef) w)
    (h2 : ∀ K' : Act → World → Prop, (∀ a w, (sk.contains j = false → S w) → wpL P md ops Q S sk fuel (listed.setIfInBounds j true) a w → K' a w) → if Region.wanted oj (yielded ops a.tmps) = true then Oper.wp P oj a w K' Q else K' (a.put oj.dst undef) w) :
    wpL P md ops Q S sk (fuel + 1) listed a w := by
  refine ⟨fun h0 => (by rw [h0] at hr; cases hr), fun k hk => ?_⟩
  rw [hr] at hk
  have hk' : k = i ∨ k = j := by simpa using hk
  rcases hk' with rfl | rfl
  · exact wpOp_step hi fun K' hK => h1 K' fun a w hS hW => hK a w ⟨hS, hW⟩
  · exact wpOp_step hj fun K' hK => h2 K' fun a w hS hW => hK a w ⟨hS, hW⟩

/-- Two texts joined, a word of our own: the walk leaves it as it is. -/
def cc (a b : List UInt8) : List UInt8 := a ++ b
theorem cc_len (a b : List UInt8) : (cc a b).length = a.length + b.length := List.length_append
section
variable {P : Program} {o : Oper} {a : Act} {V : World}
/-- Two texts joined. -/
theorem ex_cat {X Y : List UInt8} (x y : Operand) (t e : TypeId) (ho : o.op = .binOp .add t x y e) (hx : a.eval x = .string (S X)) (hy : a.eval y = .string (S Y)) (hl : X.length + Y.length ≤ 9223372036854775807) :
    (execOp a.eval o).run P V = .ok (.value (.string (S (cc X Y)))) V := by
  have h : ¬ 9223372036854775807 < (S X).size + (S Y).size := size_lim hl
  unfold execOp
  simp only [ho, hx, hy]
  simp [go_sem, h, S_append, cc]
/-- A whole struct loaded, its cells one letter. -/
theorem ex_load (ty : TypeId) (x : Operand) (ho : o.op = .load ty x) (ad : Addr) (hx : a.eval x = .pointer (some ad)) (cs : Array Value) (d : TypeDesc)
    (hu : P.underlying ty = some d) (hd : (match d with | .struct _ | .array _ _ => true | _ => false) = true) (hi : (P.info? ty).map (·.size) = some cs.size) (hc : ∀ j v, cs[j]? = some v → V.cell? (ad.add j) = some v) :
    (execOp a.eval o).run P V = .ok (.value (.agg cs)) V := by
  unfold execOp
  simp only [ho, hx, Instr.loadAt, Instr.sureAddr, Sem.run_bind, Sem.run_pure, Result.andThen_ok, run_load_at V ad ty cs d hu hd hi hc]
/-- A []byte turned into a text. -/
theorem ex_conv {B n c : Nat} {A : Option Addr} {l : List UInt8} (x : Operand) (ho : o.op = .convert 42 9 x) (hx : a.eval x = .slice A n c) (h : Reads V B 1 A n (Lib.byteCells l)) :
    (execOp a.eval o).run Tryd.prog V = .ok (.value (.string (S l))) V := by
  unfold execOp
  simp only [ho, hx, Sem.run_bind, Sem.run_pure, conv_reads h, Result.andThen_ok]
theorem wpList_value {ops : Array Oper} {rest : List Oper} {Q : Exit → Act → World → Prop} (hgd : o.guard = none) (v : Value) (he : (execOp a.eval o).run P V = .ok (.value v) V)
    (h : wpList P ops Q rest (a.put o.dst v) V) : wpList P ops Q (o :: rest) a V := by
  refine wpList_plain hgd fun K hK => ?_
  unfold Oper.wp
  rw [he]
  exact hK _ _ h
end
def idCs (m : Mk) : Array Value := #[.int .i64 m.ep, .int .i64 m.ld, .int .i64 m.ii, .int .i64 m.ci]
def cmdCs (m : Mk) : Array Value := #[.int .i64 m.cl, .int .i64 m.cn, .int .i64 m.rq, .int .i64 m.op, .string m.key, .string m.val, .string m.old]
def resCs (m : Mk) : Array Value := #[.int .i64 m.co, .string m.rv, .int .i64 m.rn]
theorem bytes_beq (s : ByteArray) : (s.toList == (⟨#[]⟩ : ByteArray).toList) = (s == ⟨#[]⟩) := by
  first | exact (beq_toListBytes _ _).symm | exact beq_toListBytes _ _ | simp [beq_toListBytes]
section
variable {o : Oper} {a : Act} {V : World}
theorem ex_neq39 (m : Mk) (x y : Operand) (ho : o.op = .binOp .neq 39 x y 39) (hx : a.eval x = .agg (idCs m)) (hy : a.eval y = .agg #[.int .i64 0, .int .i64 0, .int .i64 0, .int .i64 0]) :
    (execOp a.eval o).run Tryd.prog V = .ok (.value (.bool (idB m))) V := by
  unfold execOp idB
  simp only [ho, hx, hy, idCs]
  by_cases h1 : m.ep = 0 <;> by_cases h2 : m.ld = 0 <;> by_cases h3 : m.ii = 0 <;> by_cases h4 : m.ci = 0 <;> (go_simp; try simp [*])
theorem ex_neq44 (m : Mk) (x y : Operand) (ho : o.op = .binOp .neq 44 x y 44) (hx : a.eval x = .agg (cmdCs m)) (hy : a.eval y = .agg #[.int .i64 0, .int .i64 0, .int .i64 0, .int .i64 0, .string ⟨#[]⟩, .string ⟨#[]⟩, .string ⟨#[]⟩]) :
    (execOp a.eval o).run Tryd.prog V = .ok (.value (.bool (cmdB m))) V := by
  unfold execOp cmdB
  simp only [ho, hx, hy, cmdCs, ← bytes_beq]
  by_cases h1 : m.cl = 0
  · by_cases h2 : m.cn = 0
    · by_cases h3 : m.rq = 0
      · by_cases h4 : m.op = 0
        · by_cases h5 : m.key.toList = []
          · by_cases h6 : m.val.toList = []
            · by_cases h7 : m.old.toList = [] <;> (go_simp; try simp [*])
            · (go_simp; try simp [*])
          · (go_simp; try simp [*])
        · (go_simp; try simp [*])
      · (go_simp; try simp [*])
    · (go_simp; try simp [*])
  · (go_simp; try simp [*])
theorem ex_neq46 (m : Mk) (x y : Operand) (ho : o.op = .binOp .neq 46 x y 46) (hx : a.eval x = .agg (resCs m)) (hy : a.eval y = .agg #[.int .i64 0, .string ⟨#[]⟩, .int .i64 0]) :
    (execOp a.eval o).run Tryd.prog V = .ok (.value (.bool (resB m))) V := by
  unfold execOp resB
  simp only [ho, hx, hy, resCs, ← bytes_beq]
  by_cases h1 : m.co = 0
  · by_cases h5 : m.rv.toList = []
    · by_cases h2 : m.rn = 0 <;> (go_simp; try simp [*])
    · (go_simp; try simp [*])
  · (go_simp; try simp [*])
end
end Go.Proofs.YtenebkkfjalcaaaDoor
set_option linter.unusedVariables false
set_option linter.unusedSimpArgs false
namespace Go.Proofs.YtenebkkfjalcaaaDoor
open Go.RowKit Go.WideShapes Go.ChangeShapes Q

theorem nib_hexd {x : Nat} (h : x < 16) : nib (hexd x) = some x := by
  have : ∀ x : Fin 16, nib (hexd x.val) = some x.val := by decide +kernel
  exact this ⟨x, h⟩
theorem qstep_qb (c : UInt8) (r : List UInt8) : qstep (qb c ++ r) = .byte c r := by
  have hlt : c.toNat < 256 := c.toNat_lt
  unfold qb
  by_cases h1 : c.toNat = 34 ∨ c.toNat = 92
  · rw [if_pos h1]
    show qstep (92 :: c :: r) = _
    rw [qstep, if_neg (by decide), if_neg (by decide), if_neg (by decide), qesc, if_pos h1]
  · rw [if_neg h1]
    by_cases h2 : c.toNat < 32 ∨ 126 < c.toNat
    · rw [if_pos h2]
      show qstep (92 :: 120 :: hexd (c.toNat / 16) :: hexd (c.toNat % 16) :: r) = _
      rw [qstep, if_neg (by decide), if_neg (by decide), if_neg (by decide), qesc, if_neg (by decide), if_pos (by decide), qhex, nib_hexd (by omega), nib_hexd (by omega)]
      simp only
      congr 1
      apply UInt8.toNat_inj.1
      rw [show 16 * (c.toNat / 16) + c.toNat % 16 = c.toNat by omega]
      simp
    · rw [if_neg h2]
      show qstep (c :: r) = _
      rw [qstep, if_neg (by omega), if_neg h2, if_pos (by omega)]
theorem unq_quote (l r : List UInt8) : unq (l.flatMap qb ++ [34] ++ r) = some (l, r) := by
  induction l with
  | nil => exact unq_stop (by rfl)
  | cons c l ih =>
    rw [List.flatMap_cons, List.append_assoc, List.append_assoc, unq_byte (qstep_qb c _), ← List.append_assoc, ih]
    rfl
/-- The string that begins at a place (there must be its quote), and the place behind it. -/
def unqA (l : List UInt8) (k : Nat) : Option (List UInt8 × Nat) := if l[k]? = some 34 then (unq (l.drop (k + 1))).map fun p => (p.1, l.length - p.2.length) else none
theorem bdrop {s : ByteArray} {j : Nat} (h : j < s.size) : s.data.toList.drop j = s[j] :: s.data.toList.drop (j + 1) := by
  rw [List.drop_eq_getElem_cons (by rw [str_len]; exact h)]
  rfl
def nibZ (c : UInt8) : Int := match nib c with | some x => (x : Int) | none => -1
set_option maxRecDepth 100000 in
theorem nibble_any (c : UInt8) (w : World) : Calls Tryd.prog 87 #[.int .u8 (c.toNat : Int)] w fun e w' => e = .returned (.int .i64 (nibZ c)) ∧ w = w' := by
  have hlt : c.toNat < 256 := c.toNat_lt
  by_cases h1 : 48 ≤ c.toNat ∧ c.toNat ≤ 57
  · have hn : Hid (nibZ c = (c.toNat : Int) - 48) := by
      show _ = _
      unfold nibZ nib
      rw [if_pos h1]
      simp only
      omega
    have d1 : decide ((48 : Int) ≤ (c.toNat : Int)) = true := decide_eq_true (by omega)
    have d2 : decide ((c.toNat : Int) ≤ 57) = true := decide_eq_true (by omega)
    have k1 : (48 : Int) ≤ (c.toNat : Int) := by omega
    have k2 : (c.toNat : Int) ≤ 57 := by omega
    have hw : IntKind.u8.wrap ((c.toNat : Int) - 48) = (c.toNat : Int) - 48 := u8_wrap _ (by omega) (by omega)
    clear h1
    go_enter Tryd.func87, Tryd.ntmps87
    go_wp2_with fail
    go_ret
    refine ⟨?_, rfl⟩
    rw [hn.out]
    exact ret_int (by omega)
  · by_cases h2 : 97 ≤ c.toNat ∧ c.toNat ≤ 102
    · have hn : Hid (nibZ c = (c.toNat : Int) - 87) := by
        show _ = _
        unfold nibZ nib
        rw [if_neg h1, if_pos h2]
        simp only
        omega
      have k1 : (48 : Int) ≤ (c.toNat : Int) := by omega
      have k2 : ¬ (c.toNat : Int) ≤ 57 := by omega
      have k3 : (97 : Int) ≤ (c.toNat : Int) := by omega
      have k4 : (c.toNat : Int) ≤ 102 := by omega
      have hw : IntKind.u8.wrap ((c.toNat : Int) - 97) = (c.toNat : Int) - 97 := u8_wrap _ (by omega) (by omega)
      clear h1 h2
      go_enter Tryd.func87, Tryd.ntmps87
      go_wp2_with fail
      go_ret
      refine ⟨?_, rfl⟩
      rw [hn.out]
      exact ret_int (by omega)
    · have hn : Hid (nibZ c = -1) := by
        show _ = _
        unfold nibZ nib
        rw [if_neg h1, if_neg h2]
      have g1 : ¬ ((48 : Int) ≤ (c.toNat : Int) ∧ (c.toNat : Int) ≤ 57) := by omega
      have g2 : ¬ ((97 : Int) ≤ (c.toNat : Int) ∧ (c.toNat : Int) ≤ 102) := by omega
      clear h1 h2
      go_enter Tryd.func87, Tryd.ntmps87
      go_wp2_with fail
      all_goals try (exfalso; omega)
      all_goals go_ret
      all_goals exact ⟨by rw [hn.out]; exact ret_int rfl, rfl⟩
set_option maxRecDepth 100000 in
theorem hex_any (c : UInt8) (w : World) : Calls Tryd.prog 75 #[.int .u8 (c.toNat : Int)] w fun e w' => e = .returned (.int .i64 (nibZ c)) ∧ w = w' := by
  have hlt : c.toNat < 256 := c.toNat_lt
  by_cases h1 : 48 ≤ c.toNat ∧ c.toNat ≤ 57
  · have hn : Hid (nibZ c = (c.toNat : Int) - 48) := by
      show _ = _
      unfold nibZ nib
      rw [if_pos h1]
      simp only
      omega
    have d1 : decide ((48 : Int) ≤ (c.toNat : Int)) = true := decide_eq_true (by omega)
    have d2 : decide ((c.toNat : Int) ≤ 57) = true := decide_eq_true (by omega)
    have k1 : (48 : Int) ≤ (c.toNat : Int) := by omega
    have k2 : (c.toNat : Int) ≤ 57 := by omega
    have hw : IntKind.u8.wrap ((c.toNat : Int) - 48) = (c.toNat : Int) - 48 := u8_wrap _ (by omega) (by omega)
    clear h1
    go_enter Tryd.func75, Tryd.ntmps75
    go_wp2_with fail
    go_ret
    refine ⟨?_, rfl⟩
    rw [hn.out]
    exact ret_int (by omega)
  · by_cases h2 : 97 ≤ c.toNat ∧ c.toNat ≤ 102
    · have hn : Hid (nibZ c = (c.toNat : Int) - 87) := by
        show _ = _
        unfold nibZ nib
        rw [if_neg h1, if_pos h2]
        simp only
        omega
      have k1 : (48 : Int) ≤ (c.toNat : Int) := by omega
      have k2 : ¬ (c.toNat : Int) ≤ 57 := by omega
      have k3 : (97 : Int) ≤ (c.toNat : Int) := by omega
      have k4 : (c.toNat : Int) ≤ 102 := by omega
      have hw : IntKind.u8.wrap ((c.toNat : Int) - 97) = (c.toNat : Int) - 97 := u8_wrap _ (by omega) (by omega)
      clear h1 h2
      go_enter Tryd.func75, Tryd.ntmps75
      go_wp2_with fail
      go_ret
      refine ⟨?_, rfl⟩
      rw [hn.out]
      exact ret_int (by omega)
    · have hn : Hid (nibZ c = -1) := by
        show _ = _
        unfold nibZ nib
        rw [if_neg h1, if_neg h2]
      have g1 : ¬ ((48 : Int) ≤ (c.toNat : Int) ∧ (c.toNat : Int) ≤ 57) := by omega
      have g2 : ¬ ((97 : Int) ≤ (c.toNat : Int) ∧ (c.toNat : Int) ≤ 102) := by omega
      clear h1 h2
      go_enter Tryd.func75, Tryd.ntmps75
      go_wp2_with fail
      all_goals try (exfalso; omega)
      all_goals go_ret
      all_goals exact ⟨by rw [hn.out]; exact ret_int rfl, rfl⟩
end Go.Proofs.YtenebkkfjalcaaaDoor
