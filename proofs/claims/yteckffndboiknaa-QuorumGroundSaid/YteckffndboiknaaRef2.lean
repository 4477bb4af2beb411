/-
  Contracts of the reference's Bits and Quorate.
-/
import Derived.Test.YteckffndboiknaaRef
namespace Go.Proofs.Yteckffndboiknaa
open Go.RowKit Go.WideShapes Go.ChangeShapes Q

noncomputable def bitsE (ss : List Int) (n : Nat) : Int := match pack ss n with | some b => b | none => -1
theorem bitsE_none {ss : List Int} {n : Nat} (h : pack ss n = none) : bitsE ss n = -1 := by unfold bitsE; rw [h]
theorem bitsE_some {ss : List Int} {n b : Nat} (h : pack ss n = some b) : bitsE ss n = b := by unfold bitsE; rw [h]
theorem two_pow_lt (n : Nat) (h : n ≤ 16) : 2 ^ n ≤ 65536 := by
  have h1 : 2 ^ n ≤ 2 ^ 16 := Nat.pow_le_pow_right (by omega) h
  omega

set_option maxRecDepth 100000 in
theorem bits_any (A : Option Addr) (B m c n : Nat) (ss : List Int) (w : World) (h : RI w B A m ss) (hm : m ≤ 17592186044416) (hn : n ≤ 16) :
    Calls Try.prog 47 #[.slice A m c, .int .i64 n] w fun e w' => e = .returned (.int .i64 (bitsE ss n)) ∧ w = w' := by
  have hl := h.len
  subst hl
  go_enter Try.func47, Try.ntmps47
  go_wp2
  go_loop [5, 6, 7] (fun b l i => ∃ (k b0 : Nat) (l0 : Int), k ≤ ss.length ∧ i = .int .i64 k ∧ b = .int .i64 b0 ∧ l = .int .i64 l0 ∧ Hid (packTo ss n k = some (b0, l0))) (fun _ _ i => ss.length - (intOf i).toNat)
  case atStart => exact ⟨0, 0, -1, Nat.zero_le _, rfl, rfl, rfl, rfl⟩
  case round =>
    obtain ⟨k, b0, l0, hk, rfl, rfl, rfl, hp⟩ := hrel
    obtain ⟨i1, i2, i3, i4⟩ := packTo_inv hp.out
    have i5 : b0 < 65536 := Nat.lt_of_lt_of_le i3 (two_pow_lt _ (by omega))
    by_cases hlt : k < ss.length
    · obtain ⟨ad, rfl, _, hc⟩ := h.at_ hlt
      by_cases c1 : nth ss k ≤ l0
      · have hb := hide (bitsE_none (pack_none (packTo_bad hp.out (.inl c1)) (by omega)))
        go_wp2
        go_ret
        exact ⟨ret_int hb.out.symm, rfl⟩
      · by_cases c2 : (n : Int) ≤ nth ss k
        · have hb := hide (bitsE_none (pack_none (packTo_bad hp.out (.inr c2)) (by omega)))
          go_wp2
          go_ret
          exact ⟨ret_int hb.out.symm, rfl⟩
        · have hb := hide (packTo_good hp.out (by omega) (by omega))
          obtain ⟨q, hq⟩ : ∃ q : Nat, nth ss k = (q : Int) := ⟨(nth ss k).toNat, by omega⟩
          have hb2 := hb.out
          rw [or_is_add _ _ _ i3 (by omega), hq, Int.toNat_natCast] at hb2
          rw [hq] at hc c1 c2
          have hb3 := hide hb2
          clear hb hb2 hq
          have p1 := two_pow_le q (by omega)
          go_wp2
          go_round
          case rel => exact ⟨k + 1, b0 + 2 ^ q, q, by omega, by go_num, by simp, rfl, hb3⟩
          case measure => simp [intOf]; omega
    · obtain rfl : k = ss.length := by omega
      have hb := hide (bitsE_some (ss := ss) (n := n) (b := b0) (by unfold pack; rw [hp.out]; rfl))
      go_wp2
      go_ret
      exact ⟨ret_int hb.out.symm, rfl⟩

theorem refQuorate_any (A A' : Option Addr) (B n c m d : Nat) (vs ss : List Int) (w : World) (h : RI w B A n vs) (h' : RI w B A' m ss) (hn : n ≤ 17592186044416) (hm : m ≤ 17592186044416) :
    Calls Try.prog 25 #[.slice A n c, .slice A' m d] w fun e w' => e = .returned (.tuple #[.bool (quoB vs ss), .int .i64 (quoE vs ss)]) ∧ w = w' := by
  have hl := h.len
  subst hl
  rcases chkE_01 vs with ⟨he, hok⟩ | ⟨he, hbad⟩
  · have h16 := hok.2.1
    cases hp : pack ss vs.length with
    | none =>
      have q := hide (quo_none hok hp)
      have hb := bitsE_none hp
      have HE := hide he
      have HB := hide hb
      clear he hb hp
      go_enter Try.func25, Try.ntmps25
      go_wp2_with (first | (go_at_call 26; refine (refCheck_any _ B _ _ vs _ h hn).mono ?_; rintro e w' ⟨rfl, rfl⟩; rw [HE.out]) | (go_at_call 47; refine (bits_any _ B _ _ _ ss _ h' hm h16).mono ?_; rintro e w' ⟨rfl, rfl⟩; rw [HB.out]))
      go_ret2
      exact ⟨ret2_ (vbool q.out.2.symm) (vint q.out.1.symm), rfl⟩
    | some b =>
      have q := hide (quo_some hok hp)
      have hb := bitsE_some hp
      have hb2 := pack_lt hp
      have hb3 : b < 65536 := Nat.lt_of_lt_of_le hb2 (two_pow_lt _ h16)
      have HE := hide he
      have HB := hide hb
      clear he hb hp hb2
      go_enter Try.func25, Try.ntmps25
      go_wp2_with (first | (go_at_call 26; refine (refCheck_any _ B _ _ vs _ h hn).mono ?_; rintro e w' ⟨rfl, rfl⟩; rw [HE.out]) | (go_at_call 47; refine (bits_any _ B _ _ _ ss _ h' hm h16).mono ?_; rintro e w' ⟨rfl, rfl⟩; rw [HB.out]) | (go_at_call 48; refine (wins_any b _ B _ _ vs _ h (by omega) hok).mono ?_; rintro e w' ⟨rfl, rfl⟩))
      go_ret2
      exact ⟨ret2_ (vbool q.out.2.symm) (vint q.out.1.symm), rfl⟩
  · have q := hide (quo_bad (ss := ss) hbad)
    have HE := hide he
    clear he
    go_enter Try.func25, Try.ntmps25
    go_wp2_with (go_at_call 26; refine (refCheck_any _ B _ _ vs _ h hn).mono ?_; rintro e w' ⟨rfl, rfl⟩; rw [HE.out])
    go_ret2
    exact ⟨ret2_ (vbool q.out.2.symm) (vint q.out.1.symm), rfl⟩

end Go.Proofs.Yteckffndboiknaa
