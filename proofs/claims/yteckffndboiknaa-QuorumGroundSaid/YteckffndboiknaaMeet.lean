/-
  QuorumMeet, the walk.
-/
import Derived.Test.YteckffndboiknaaWins
set_option linter.unusedVariables false
namespace Go.Proofs.Yteckffndboiknaa
open Go.RowKit Go.WideShapes Go.ChangeShapes Q

/-- Any number cut to the first n bits. -/
theorem and_all (x : Int) (n : Nat) (hn : n ≤ 16) : ∃ a : Nat, a < 2 ^ n ∧ bits BinOp.and IntKind.i64 x (2 ^ n - 1) = (a : Int) := by
  have hm : ((2 : Int) ^ n - 1) = ((allOf n : Nat) : Int) := (allOf_cast n).symm
  have hlt := allOf_lt n hn
  refine ⟨(BitVec.ofInt 64 x).toNat &&& allOf n, Nat.and_lt_two_pow _ (by unfold allOf; have := Nat.pow_pos (n := n) (show 0 < 2 by omega); omega), ?_⟩
  rw [hm]
  show IntKind.i64.wrap ((BitVec.ofInt 64 x &&& BitVec.ofInt 64 ((allOf n : Nat) : Int)).toNat : Int) = _
  rw [BitVec.toNat_and, ofInt_i64 _ (by omega), IntKind.wrap_i64]
  have : (BitVec.ofInt 64 x).toNat &&& allOf n ≤ allOf n := Nat.and_le_right
  omega

/-- wins, over any number in range. -/
def winsI (vs : List Int) (x : Int) : Bool := winsB vs x.toNat
theorem lwins_I (x : Int) (A : Option Addr) (B n c : Nat) (vs : List Int) (w : World) (h : RI w B A n vs) (hB : B ≤ w.heap.size) (hok : Ok vs) (h0 : 0 ≤ x) (hs : x < 2 ^ n) :
    Calls Try.prog 21 #[.slice A n c, .int .i64 x] w fun e w' => e = .returned (.bool (winsI vs x)) ∧ Below w.heap.size w w' := by
  obtain ⟨s, rfl⟩ := Int.eq_ofNat_of_zero_le h0
  unfold winsI
  rw [Int.toNat_natCast]
  exact lwins_any s A B n c vs w h hB hok (by have := nat_pow_cast' n; omega)

theorem blk3 {w : World} {g : Nat} {t : TypeId} {a b c : Value} (h : Blk w g t #[a, b, c]) : w.cell? ⟨g, 0, none⟩ = some a ∧ w.cell? ⟨g, 1, none⟩ = some b ∧ w.cell? ⟨g, 2, none⟩ = some c := by
  refine ⟨?_, ?_, ?_⟩ <;> rw [h.cell] <;> rfl

set_option maxRecDepth 100000 in
set_option maxHeartbeats 1000000 in
theorem meet_walk (A : Option Addr) (n c : Nat) (vs : List Int) (x y : Int) (w : World) (h : RI w w.heap.size A n vs) (hn : n ≤ 17592186044416) :
    Calls Try.prog 5 #[.agg #[.slice A n c, .int .i64 x, .int .i64 y]] w fun e w' => e = .returned (.bool true) ∧ Below w.heap.size w w' := by
  have H0 : Below w.heap.size w (w.alloc (.cells #[.slice A n c, .int .i64 x, .int .i64 y] 38)) := (Below.refl _ _).alloc (Nat.le_refl _) _
  have B0 : Blk (w.alloc (.cells #[.slice A n c, .int .i64 x, .int .i64 y] 38)) w.heap.size 38 #[.slice A n c, .int .i64 x, .int .i64 y] := Blk.new _ _ _
  go_enter Try.func5, Try.ntmps5
  go_wp2_with fail
  refine (fit_any A n c vs _ ((Reads.below h H0).more H0.size) hn).mono ?_
  rintro e w1 ⟨A1, k1, c1, fs, rfl, R1, hc1, hok, hb1⟩
  have H1 := H0.trans (hb1.mono H0.size)
  have B1 := B0.below hb1 B0.lt
  obtain ⟨x1, y1, z1⟩ := blk3 B1
  have hl := R1.len
  subst hl
  have h16 := hok.2.1
  have p1 := two_pow_le fs.length h16
  obtain ⟨a, ha, hea⟩ := and_all x fs.length h16
  obtain ⟨b, hb, heb⟩ := and_all y fs.length h16
  have hp := nat_pow_cast' fs.length
  have ha' : (a : Int) < 2 ^ fs.length := by omega
  have hb' : (b : Int) < 2 ^ fs.length := by omega
  have ho : bits BinOp.or IntKind.i64 (a : Int) b = ((a ||| b : Nat) : Int) := i64_or_nat a b (by omega) (by omega)
  have hd : bits BinOp.and IntKind.i64 (a : Int) b = ((a &&& b : Nat) : Int) := i64_and_nat a b (by omega) (by omega)
  have hob : a ||| b < 2 ^ fs.length := Nat.or_lt_two_pow ha hb
  have ho' : ((a ||| b : Nat) : Int) < 2 ^ fs.length := by omega
  have w_all : winsI fs (2 ^ fs.length - 1) = true := by
    rw [← allOf_cast]; unfold winsI; rw [Int.toNat_natCast]; exact wins_all fs hok
  have w_zero : winsI fs 0 = false := wins_zero fs hok
  have w_cmp : winsI fs (2 ^ fs.length - 1 - a) = !winsI fs a := by
    have e : (2 : Int) ^ fs.length - 1 - a = ((2 ^ fs.length - 1 - a : Nat) : Int) := by omega
    rw [e]; unfold winsI; rw [Int.toNat_natCast, Int.toNat_natCast]
    exact wins_compl fs a _ hok (fun k hk => testBit_compl _ a k ha hk)
  have w_or : winsI fs a = true → winsI fs ((a ||| b : Nat) : Int) = true := by
    unfold winsI; rw [Int.toNat_natCast, Int.toNat_natCast]
    exact wins_mono fs a _ hok (fun k hk hk' => by rw [Nat.testBit_or, hk']; rfl)
  have w_and : winsI fs a = true → winsI fs b = true → (((a &&& b : Nat) : Int) == 0) = false := by
    unfold winsI; rw [Int.toNat_natCast, Int.toNat_natCast]
    intro q1 q2
    obtain ⟨k, hk, k1, k2⟩ := wins_meet fs a b hok q1 q2
    have : (a &&& b).testBit k = true := by rw [Nat.testBit_and, k1, k2]; rfl
    rw [beq_eq_false_iff_ne]
    intro h0
    have h0' : a &&& b = 0 := by omega
    rw [h0'] at this
    simp at this
  have hcur := Below.refl w1.heap.size w1
  have HI : Hid (∀ (X : Int) (W : World), Below w1.heap.size w1 W → 0 ≤ X → X < 2 ^ fs.length → Calls Try.prog 21 #[.slice A1 fs.length c1, .int .i64 X] W fun e w' => e = .returned (.bool (winsI fs X)) ∧ Below w1.heap.size w1 w') := by
    intro X W hW h0 h1
    refine (lwins_I X A1 w1.heap.size _ c1 fs W (Reads.below R1 hW) hW.size hok h0 h1).mono ?_
    rintro e w' ⟨rfl, hb⟩
    exact ⟨rfl, hW.trans (hb.mono hW.size)⟩
  clear hp ha hb hob R1 H0 B0 B1 h hok hb1
  cases qa : winsI fs a
  · have w_cmp' : winsI fs (2 ^ fs.length - 1 - a) = true := by rw [w_cmp, qa]; rfl
    clear w_cmp w_or w_and
    go_wp2_with (go_at_call 21; refine (HI.out _ _ hcur (by omega) (by omega)).mono ?_; rintro e w' ⟨rfl, hcur⟩)
    go_ret
    exact ⟨rfl, H1.trans (hcur.mono H1.size)⟩
  · have w_cmp' : winsI fs (2 ^ fs.length - 1 - a) = false := by rw [w_cmp, qa]; rfl
    have w_or' := w_or qa
    cases qb : winsI fs b
    · clear w_cmp w_or w_and
      go_wp2_with (go_at_call 21; refine (HI.out _ _ hcur (by omega) (by omega)).mono ?_; rintro e w' ⟨rfl, hcur⟩)
      go_ret
      exact ⟨rfl, H1.trans (hcur.mono H1.size)⟩
    · have w_and' := w_and qa qb
      clear w_cmp w_or w_and
      go_wp2_with (go_at_call 21; refine (HI.out _ _ hcur (by omega) (by omega)).mono ?_; rintro e w' ⟨rfl, hcur⟩)
      go_ret
      exact ⟨rfl, H1.trans (hcur.mono H1.size)⟩
end Go.Proofs.Yteckffndboiknaa
