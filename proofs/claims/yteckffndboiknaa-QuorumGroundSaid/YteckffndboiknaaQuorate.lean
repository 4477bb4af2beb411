/-
  Contracts of the program's Check, pack, Quorate.
-/
import Derived.Test.YteckffndboiknaaWeigh
import Derived.Test.YteckffndboiknaaRef2
set_option linter.unusedVariables false
namespace Go.Proofs.Yteckffndboiknaa
open Go.RowKit Go.WideShapes Go.ChangeShapes Q

/-- count, every list: the ballot, or the error. -/
theorem count_all (A : Option Addr) (n c : Nat) (vs : List Int) (w : World) (h : RI w w.heap.size A n vs) (hn : n ≤ 17592186044416) :
    Calls Try.prog 43 #[.slice A n c] w fun e w' => (∃ b, e = .returned (.tuple #[.pointer (some ⟨b, 0, none⟩), .int .i64 0]) ∧ Ok vs ∧ Ballot w' w.heap.size b vs ∧ Below w.heap.size w w') ∨ (e = .returned (.tuple #[.pointer none, .int .i64 110]) ∧ ¬ Ok vs ∧ Below w.heap.size w w') := by
  have hl := h.len
  by_cases h1 : 1 ≤ n ∧ n ≤ 16
  · exact count_any A n c vs w h h1.1 h1.2
  · refine (count_short A n c w (by omega) hn).mono ?_
    rintro e w' ⟨rfl, rfl⟩
    exact .inr ⟨rfl, fun hok => by have := hok.1; have := hok.2.1; omega, Below.refl _ _⟩

theorem check_any (A : Option Addr) (n c : Nat) (vs : List Int) (w : World) (h : RI w w.heap.size A n vs) (hn : n ≤ 17592186044416) :
    Calls Try.prog 23 #[.slice A n c] w fun e w' => e = .returned (.int .i64 (chkE vs)) ∧ Below w.heap.size w w' := by
  go_enter Try.func23, Try.ntmps23
  go_wp2_with fail
  refine (count_all A n c vs _ h hn).mono ?_
  rintro e w' (⟨b, rfl, hok, _, hb⟩ | ⟨rfl, hbad, hb⟩)
  · have HE := hide (chkE_ok hok)
    go_wp2
    go_ret
    exact ⟨ret_int HE.out.symm, hb⟩
  · have HE := hide (chkE_bad hbad)
    go_wp2
    go_ret
    exact ⟨ret_int HE.out.symm, hb⟩

set_option maxRecDepth 100000 in
theorem pack_any (A : Option Addr) (B m c n : Nat) (ss : List Int) (w : World) (h : RI w B A m ss) (hm : m ≤ 17592186044416) (hn : n ≤ 16) :
    Calls Try.prog 46 #[.slice A m c, .int .i64 n] w fun e w' => e = .returned (.tuple #[.int .u64 ((pack ss n).getD 0 : Nat), .bool (pack ss n).isSome]) ∧ w = w' := by
  have hl := h.len
  subst hl
  go_enter Try.func46, Try.ntmps46
  go_wp2
  go_loop [6, 7, 12] (fun b l i => ∃ (k b0 : Nat) (l0 : Int), k ≤ ss.length ∧ i = .int .i64 k ∧ b = .int .u64 b0 ∧ l = .int .i64 l0 ∧ Hid (packTo ss n k = some (b0, l0))) (fun _ _ i => ss.length - (intOf i).toNat)
  case atStart => exact ⟨0, 0, -1, Nat.zero_le _, rfl, rfl, rfl, rfl⟩
  case round =>
    obtain ⟨k, b0, l0, hk, rfl, rfl, rfl, hp⟩ := hrel
    obtain ⟨i1, i2, i3, i4⟩ := packTo_inv hp.out
    have i5 : b0 < 65536 := Nat.lt_of_lt_of_le i3 (two_pow_lt _ (by omega))
    clear i3
    by_cases hlt : k < ss.length
    · obtain ⟨ad, rfl, _, hc⟩ := h.at_ hlt
      by_cases c1 : nth ss k ≤ l0
      · have hb := hide (pack_none (packTo_bad hp.out (.inl c1)) (by omega))
        go_wp2
        go_ret2
        exact ⟨ret2_ (vint (by rw [hb.out]; rfl)) (vbool (by rw [hb.out]; rfl)), rfl⟩
      · by_cases c2 : (n : Int) ≤ nth ss k
        · have hb := hide (pack_none (packTo_bad hp.out (.inr c2)) (by omega))
          go_wp2
          go_ret2
          exact ⟨ret2_ (vint (by rw [hb.out]; rfl)) (vbool (by rw [hb.out]; rfl)), rfl⟩
        · have hb := packTo_good hp.out (by omega) (by omega)
          obtain ⟨q, hq⟩ : ∃ q : Nat, nth ss k = (q : Int) := ⟨(nth ss k).toNat, by omega⟩
          rw [hq, Int.toNat_natCast] at hb
          rw [hq] at hc c1 c2
          have hb3 := hide hb
          have p1 := two_pow_le q (by omega)
          have p2 : 2 ^ q < 18446744073709551616 := by have := two_pow_lt q (by omega); omega
          have hor : bits .or .u64 (b0 : Int) (2 ^ q) = ((b0 ||| 2 ^ q : Nat) : Int) := by
            have := u64_or_nat b0 (2 ^ q) (by omega) p2
            rw [← this, Int.natCast_pow]; rfl
          have HOR := hide hor
          clear hb hq p2 hor
          go_wp2
          go_round
          case rel => exact ⟨k + 1, b0 ||| 2 ^ q, q, by omega, by go_num, by rw [HOR.out], rfl, hb3⟩
          case measure => simp [intOf]; omega
    · obtain rfl : k = ss.length := by omega
      have hb : Hid (pack ss n = some b0) := by show _ = _; unfold pack; rw [hp.out]; rfl
      go_wp2
      go_ret2
      exact ⟨ret2_ (vint (by rw [hb.out]; rfl)) (vbool (by rw [hb.out]; rfl)), rfl⟩

theorem prog_quorate (A A' : Option Addr) (n c m d : Nat) (vs ss : List Int) (w : World) (h : RI w w.heap.size A n vs) (h' : RI w w.heap.size A' m ss) (hn : n ≤ 17592186044416) (hm : m ≤ 17592186044416) :
    Calls Try.prog 24 #[.slice A n c, .slice A' m d] w fun e w' => e = .returned (.tuple #[.bool (quoB vs ss), .int .i64 (quoE vs ss)]) ∧ Below w.heap.size w w' := by
  have hl := h.len
  subst hl
  go_enter Try.func24, Try.ntmps24
  go_wp2_with fail
  refine (count_all A _ c vs _ h hn).mono ?_
  rintro e w1 (⟨b, rfl, hok, hbal, hb⟩ | ⟨rfl, hbad, hb⟩)
  · have h1 := Reads.below h' hb
    have h16 := hok.2.1
    go_wp2_with fail
    refine (pack_any A' _ m d vs.length ss _ h1 hm h16).mono ?_
    rintro e w2 ⟨rfl, rfl⟩
    cases hp : pack ss vs.length with
    | none =>
      have q := hide (quo_none hok hp)
      simp only [Option.isSome_none, Option.getD_none]
      clear hp
      go_wp2
      go_ret2
      exact ⟨ret2_ (vbool q.out.2.symm) (vint q.out.1.symm), hb⟩
    | some s =>
      have q := hide (quo_some hok hp)
      have hs : s < 65536 := Nat.lt_of_lt_of_le (pack_lt hp) (two_pow_lt _ h16)
      simp only [Option.isSome_some, Option.getD_some]
      clear hp
      go_wp2_with fail
      refine (quorate_any s _ b vs _ hbal hok (by omega)).mono ?_
      rintro e w2 ⟨rfl, rfl⟩
      go_wp2
      go_ret2
      exact ⟨ret2_ (vbool q.out.2.symm) (vint q.out.1.symm), hb⟩
  · have q := hide (quo_bad (ss := ss) hbad)
    go_wp2
    go_ret2
    exact ⟨ret2_ (vbool q.out.2.symm) (vint q.out.1.symm), hb⟩

theorem num_any (e0 : Int) (w : World) : Calls Try.prog 17 #[.int .i64 e0] w fun e w' => e = .returned (.int .i64 e0) ∧ w = w' := by
  go_enter Try.func17, Try.ntmps17
  go_wp2
  go_ret
  exact ⟨rfl, rfl⟩
end Go.Proofs.Yteckffndboiknaa
