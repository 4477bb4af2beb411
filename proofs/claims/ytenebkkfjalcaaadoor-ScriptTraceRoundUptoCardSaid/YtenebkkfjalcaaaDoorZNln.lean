/-
  A mark's line: no byte below 32, and its length by the sizes of the mark.
-/
import Derived.Test.YtenebkkfjalcaaaDoorZPsz
import Derived.Test.YtenebkkfjalcaaaDoorZMka
import Derived.Test.YtenebkkfjalcaaaDoorZOtp
set_option linter.unusedVariables false
set_option linter.unusedSimpArgs false
namespace Go.Proofs.YtenebkkfjalcaaaDoor
open Go.RowKit Go.WideShapes Go.ChangeShapes Q

/-- No byte of it lies below 32. -/
def P32 (l : List UInt8) : Prop := ∀ q ∈ l, 32 ≤ q.toNat
theorem p32_nil : P32 [] := fun q hq => by cases hq
theorem p32_app {a b : List UInt8} (ha : P32 a) (hb : P32 b) : P32 (a ++ b) := fun q hq => by
  rcases List.mem_append.1 hq with h | h
  · exact ha q h
  · exact hb q h
theorem p32_all {l : List UInt8} (h : (l.all fun q => decide (32 ≤ q.toNat)) = true) : P32 l := fun q hq => by
  rw [List.all_eq_true] at h
  exact of_decide_eq_true (h q hq)
theorem p32_dec (n : Nat) : P32 (Lib.decDigits n) := fun q hq => by
  have h := (dec_facts n).2.1
  rw [List.all_eq_true] at h
  have h1 := of_decide_eq_true (h q hq)
  omega
theorem p32_itoa (x : Int) : P32 (Lib.itoa x) := by
  unfold Lib.itoa
  split
  · intro q hq
    rcases List.mem_cons.1 hq with rfl | hq
    · decide
    · exact p32_dec _ q hq
  · exact p32_dec _
theorem p32_join {ls : List (List UInt8)} {sep : List UInt8} (hs : P32 sep) (h : ∀ l ∈ ls, P32 l) : P32 (Lib.join ls sep) := by
  cases ls with
  | nil => rw [Lib.join_nil]; exact p32_nil
  | cons x r =>
    rw [Lib.join_cons]
    refine p32_app (h x (by simp)) ?_
    intro q hq
    unfold Lib.joinTail at hq
    rw [List.mem_flatten] at hq
    obtain ⟨l, hl, hq⟩ := hq
    obtain ⟨y, hy, rfl⟩ := List.mem_map.1 hl
    exact p32_app hs (h y (by simp [hy])) q hq
theorem hexd_32 (n : Nat) (h : n < 16) : 32 ≤ (hexd n).toNat := by
  have : ∀ n : Fin 16, 32 ≤ (hexd n.val).toNat := by decide +kernel
  exact this ⟨n, h⟩
theorem p32_qb (c : UInt8) : P32 (qb c) := by
  have hc := c.toNat_lt
  unfold qb
  split
  · rename_i h
    intro q hq
    rcases List.mem_cons.1 hq with rfl | hq
    · decide
    · rcases List.mem_cons.1 hq with rfl | hq
      · omega
      · cases hq
  · split
    · have h1 := hexd_32 (c.toNat / 16) (by omega)
      have h2 := hexd_32 (c.toNat % 16) (by omega)
      intro q hq
      rcases List.mem_cons.1 hq with rfl | hq
      · decide
      · rcases List.mem_cons.1 hq with rfl | hq
        · decide
        · rcases List.mem_cons.1 hq with rfl | hq
          · exact h1
          · rcases List.mem_cons.1 hq with rfl | hq
            · exact h2
            · cases hq
    · rename_i h1 h2
      intro q hq
      rcases List.mem_cons.1 hq with rfl | hq
      · omega
      · cases hq
theorem p32_quote (l : List UInt8) : P32 (quoteL l) := by
  unfold quoteL
  refine p32_app (p32_app (p32_all rfl) ?_) (p32_all rfl)
  intro q hq
  obtain ⟨c, _, hq⟩ := List.mem_flatMap.1 hq
  exact p32_qb c q hq
theorem p32_kind (m : Mk) : P32 (kindOf m) := by
  unfold kindOf
  have h : ∀ l ∈ kindL, P32 l := by
    have h1 : (kindL.all fun l => l.all fun q => decide (32 ≤ q.toNat)) = true := by decide +kernel
    rw [List.all_eq_true] at h1
    exact fun l hl => p32_all (h1 l hl)
  rcases Nat.lt_or_ge m.kd.toNat kindL.length with h1 | h1
  · have e : kindL.getD m.kd.toNat [] = kindL[m.kd.toNat] := by simp [h1]
    rw [e]
    exact h _ (List.getElem_mem h1)
  · have e : kindL.getD m.kd.toNat [] = [] := by simp [h1]
    rw [e]
    exact p32_nil
theorem p32_part {b : Bool} {nm v : List UInt8} (h1 : P32 nm) (h2 : P32 v) : P32 (partL b nm v) := by
  cases b with
  | false => exact p32_nil
  | true => exact p32_app (p32_app (p32_app (p32_all rfl) h1) (p32_all rfl)) h2
theorem p32_num {nm : List UInt8} (h : P32 nm) (x : Int) : P32 (numL nm x) := p32_part h (p32_itoa x)
theorem p32_sl4 (a b c d : Int) : P32 (sl4 a b c d) := p32_join (p32_all rfl) fun l hl => by
  simp only [List.mem_cons, List.mem_nil_iff, or_false] at hl
  rcases hl with rfl | rfl | rfl | rfl <;> exact p32_itoa _
theorem p32_tri (s : Int × Int × Int) : P32 (triI s) := p32_join (p32_all rfl) fun l hl => by
  simp only [List.mem_cons, List.mem_nil_iff, or_false] at hl
  rcases hl with rfl | rfl | rfl <;> exact p32_itoa _
theorem p32_line (m : Mk) : P32 (lineL m) := by
  unfold lineL headL listsL numsL cmdL resL
  repeat' first
    | with_reducible exact p32_itoa _
    | with_reducible exact p32_kind _
    | with_reducible exact p32_quote _
    | with_reducible exact p32_sl4 _ _ _ _
    | with_reducible apply p32_app
    | with_reducible apply p32_num
    | with_reducible apply p32_part
    | (with_reducible refine p32_join (p32_all rfl) ?_; intro l hl; obtain ⟨x, _, rfl⟩ := List.mem_map.1 hl; first | with_reducible exact p32_tri _ | with_reducible exact p32_itoa _)
    | exact p32_all rfl
theorem line_no10 (m : Mk) : ∀ q ∈ lineL m, ¬ q = 10 := fun q hq e => by
  have := p32_line m q hq
  rw [e] at this
  revert this
  decide
theorem ok_of_wr {m : Mk} (h : wrB m.pm.toMk = true) : OkL m.pm := ⟨h, line_no10 _⟩
/-- The sizes of a mark, by a bound of its own. -/
structure MkN (K : Nat) (m : Mk) : Prop where
  nm : m.nm ≤ K
  nt : m.nt ≤ K
  nb : m.nb ≤ K
  bd : m.bd.length = m.nb
  key : m.key.size ≤ K
  val : m.val.size ≤ K
  old : m.old.size ≤ K
  rv : m.rv.size ≤ K
theorem MkN.z {K : Nat} {m : Mk} (h : MkN K m) (hK : K ≤ 1048576) : MkZ m := ⟨Nat.le_trans h.nm hK, Nat.le_trans h.nt hK, Nat.le_trans h.nb hK, h.bd, Nat.le_trans h.key hK, Nat.le_trans h.val hK, Nat.le_trans h.old hK, Nat.le_trans h.rv hK⟩
theorem lists_lenN {K : Nat} {m : Mk} (h : Cnts m) (hz : MkN K m) (h1 : m.ms.length = m.nm) (h2 : m.ts.length = m.nt) : (listsL m).length ≤ 93 * K + 200 := by
  have q1 := part_len (idB m) [105, 100] (sl4 m.ep m.ld m.ii m.ci)
  have q2 := part_len (decide (0 < m.nm)) [109, 101, 109, 98, 101, 114, 115] (Lib.join (m.ms.map triI) [44])
  have q3 := part_len (decide (0 < m.nt)) [116, 114, 97, 110, 115] (Lib.join (m.ts.map Lib.itoa) [44])
  have r1 := sl4_len (a := m.ep) (b := m.ld) (c := m.ii) (d := m.ci) (h.ct (by simp [Mk.ns])) (h.ct (by simp [Mk.ns])) (h.ct (by simp [Mk.ns])) (h.ct (by simp [Mk.ns]))
  have r2 := join_le 70 (m.ms.map triI) [44] (triI_len h)
  have r3 := join_le 21 (m.ts.map Lib.itoa) [44] (fun l hl => by
    obtain ⟨s, hs, rfl⟩ := List.mem_map.1 hl
    obtain ⟨k, hk, rfl⟩ := List.getElem_of_mem hs
    obtain ⟨x, ex, hx⟩ := h.ts k hk
    refine itoa_ct ⟨x, ?_, hx⟩
    rw [← ex]
    simp [nth, hk])
  have z1 := hz.nm
  have z2 := hz.nt
  simp only [List.length_map, List.length_cons, List.length_nil] at q1 q2 q3 r2 r3
  rw [h1] at r2
  rw [h2] at r3
  unfold listsL
  simp only [List.length_append]
  omega
theorem line_lenN {K : Nat} {m : Mk} (h : Cnts m) (hz : MkN K m) (h1 : m.ms.length = m.nm) (h2 : m.ts.length = m.nt) : (lineL m).length ≤ 120 * K + 1000 := by
  have l0 := lists_lenN h hz h1 h2
  have a1 := itoa_ct (h.ct (x := m.aT) (by simp [Mk.ns]))
  have a2 := itoa_ct (h.ct (x := m.nd) (by simp [Mk.ns]))
  have a3 := itoa_ct (h.ct (x := m.ic) (by simp [Mk.ns]))
  have a4 : (kindOf m).length ≤ 7 := kindL_len _
  have b1 := num_len [115, 101, 110, 100, 101, 114] (h.ct (x := m.se) (by simp [Mk.ns]))
  have b2 := num_len [115, 101, 113] (h.ct (x := m.sq) (by simp [Mk.ns]))
  have b3 := num_len [112, 111, 115] (h.ct (x := m.po) (by simp [Mk.ns]))
  have b4 := num_len [110] (h.ct (x := m.n) (by simp [Mk.ns]))
  have b5 := num_len [101, 114, 114] (x := m.er) (by obtain ⟨n, hn, hle⟩ := h.er; exact ⟨n, hn, by omega⟩)
  have p1 := part_len (bodyB m) [98, 111, 100, 121] (quoteL m.bd)
  have p2 := part_len (cmdB m) [99, 109, 100] (cmdL m)
  have p3 := part_len (resB m) [114, 101, 115, 117, 108, 116] (resL m)
  have q0 := quote_len m.bd
  have q1 := quote_len m.key.data.toList
  have q2 := quote_len m.val.data.toList
  have q3 := quote_len m.old.data.toList
  have q4 := quote_len m.rv.data.toList
  rw [str_len] at q1 q2 q3 q4
  have z1 := hz.key
  have z2 := hz.val
  have z3 := hz.old
  have z4 := hz.rv
  have z5 := hz.bd
  have z6 := hz.nb
  have s4 := sl4_len (h.ct (x := m.cl) (by simp [Mk.ns])) (h.ct (x := m.cn) (by simp [Mk.ns])) (h.ct (x := m.rq) (by simp [Mk.ns])) (h.ct (x := m.op) (by simp [Mk.ns]))
  have r1 := itoa_ct (h.ct (x := m.co) (by simp [Mk.ns]))
  have r := h.rn
  have r2 := itoa_len m.rn (by omega) (by omega)
  unfold cmdL at p2
  unfold resL at p3
  unfold lineL headL numsL cmdL resL
  simp only [List.length_append, List.length_cons, List.length_nil] at *
  omega
/-- Sizes of marks, each of its own bound. -/
inductive MkB : List Nat → List Mk → Prop
  | nil : MkB [] []
  | cons {b : Nat} {m : Mk} {bs : List Nat} {ms : List Mk} (h : MkN b m) (ht : MkB bs ms) : MkB (b :: bs) (m :: ms)
theorem MkB.all {N : Nat} {bs : List Nat} {ms : List Mk} (h : MkB bs ms) : bs.sum ≤ N → ∀ m ∈ ms, ∃ b, b ≤ N ∧ MkN b m := by
  induction h with
  | nil => intro _ m hm; cases hm
  | cons h1 h2 ih =>
    intro hN m hm
    rw [List.sum_cons] at hN
    rcases List.mem_cons.1 hm with rfl | hm
    · exact ⟨_, by omega, h1⟩
    · exact ih (by omega) m hm
theorem MkB.len {bs : List Nat} {ms : List Mk} (h : MkB bs ms) : (∀ m ∈ ms, wrB m = true ∧ m.ms.length = m.nm ∧ m.ts.length = m.nt) → (ms.flatMap fun m => lineL m ++ [10]).length ≤ 120 * bs.sum + 1001 * ms.length := by
  induction h with
  | nil => intro _; simp
  | cons h1 h2 ih =>
    intro hw
    have h0 := hw _ List.mem_cons_self
    have h3 := line_lenN (cnts h0.1) h1 h0.2.1 h0.2.2
    have h4 := ih fun x hx => hw x (List.mem_cons_of_mem _ hx)
    rw [List.flatMap_cons, List.length_append, List.length_append, List.sum_cons, List.length_cons, List.length_cons, List.length_nil]
    omega
end Go.Proofs.YtenebkkfjalcaaaDoor
