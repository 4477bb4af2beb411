/-
  Digits of a string's own form: the program's nibble, the reference's hex; what is read of what was quoted.
-/
import Derived.Test.YtcibcmfaebbhnaaDoorZWds
import Derived.Test.YtcibcmfaebbhnaaDoorZRun
set_option linter.unusedVariables false
set_option linter.unusedSimpArgs false
namespace Go.Proofs.YtcibcmfaebbhnaaDoor
open Go.RowKit Go.WideShapes Go.ChangeShapes Q

theorem nib_hexd {x : Nat} (h : x < 16) : nib (hexd x) = some x := by
  have : ∀ x : Fin 16, nib (hexd x.val) = some x.val := by decide +kernel
  exact this ⟨x, h⟩
theorem qstep_qb (c : UInt8) (r : List UInt8) : qstep (qb c ++ r) = .byte c r := by
  have hlt : c.toNat < 256 := c.toNat_lt
  unfold qb
  by_cases h1 : c.toNat = 34 ∨ c.toNat = 92
  · rw [if_pos h1]
    show qstep (92 :: c :: r) = _
    rw [qstep, if_neg (by decide), if_neg (by decide), if_neg (by decide), qesc, if_pos h1]
  · rw [if_neg h1]
    by_cases h2 : c.toNat < 32 ∨ 126 < c.toNat
    · rw [if_pos h2]
      show qstep (92 :: 120 :: hexd (c.toNat / 16) :: hexd (c.toNat % 16) :: r) = _
      rw [qstep, if_neg (by decide), if_neg (by decide), if_neg (by decide), qesc, if_neg (by decide), if_pos (by decide), qhex, nib_hexd (by omega), nib_hexd (by omega)]
      simp only
      congr 1
      apply UInt8.toNat_inj.1
      rw [show 16 * (c.toNat / 16) + c.toNat % 16 = c.toNat by omega]
      simp
    · rw [if_neg h2]
      show qstep (c :: r) = _
      rw [qstep, if_neg (by omega), if_neg h2, if_pos (by omega)]
theorem unq_quote (l r : List UInt8) : unq (l.flatMap qb ++ [34] ++ r) = some (l, r) := by
  induction l with
  | nil => exact unq_stop (by rfl)
  | cons c l ih =>
    rw [List.flatMap_cons, List.append_assoc, List.append_assoc, unq_byte (qstep_qb c _), ← List.append_assoc, ih]
    rfl
/-- The string that begins at a place (there must be its quote), and the place behind it. -/
def unqA (l : List UInt8) (k : Nat) : Option (List UInt8 × Nat) := if l[k]? = some 34 then (unq (l.drop (k + 1))).map fun p => (p.1, l.length - p.2.length) else none
theorem bdrop {s : ByteArray} {j : Nat} (h : j < s.size) : s.data.toList.drop j = s[j] :: s.data.toList.drop (j + 1) := by
  rw [List.drop_eq_getElem_cons (by rw [str_len]; exact h)]
  rfl
def nibZ (c : UInt8) : Int := match nib c with | some x => (x : Int) | none => -1
set_option maxRecDepth 100000 in
theorem nibble_any (c : UInt8) (w : World) : Calls Tryd.prog 71 #[.int .u8 (c.toNat : Int)] w fun e w' => e = .returned (.int .i64 (nibZ c)) ∧ w = w' := by
  have hlt : c.toNat < 256 := c.toNat_lt
  by_cases h1 : 48 ≤ c.toNat ∧ c.toNat ≤ 57
  · have hn : Hid (nibZ c = (c.toNat : Int) - 48) := by
      show _ = _
      unfold nibZ nib
      rw [if_pos h1]
      simp only
      omega
    have d1 : decide ((48 : Int) ≤ (c.toNat : Int)) = true := decide_eq_true (by omega)
    have d2 : decide ((c.toNat : Int) ≤ 57) = true := decide_eq_true (by omega)
    have k1 : (48 : Int) ≤ (c.toNat : Int) := by omega
    have k2 : (c.toNat : Int) ≤ 57 := by omega
    have hw : IntKind.u8.wrap ((c.toNat : Int) - 48) = (c.toNat : Int) - 48 := u8_wrap _ (by omega) (by omega)
    clear h1
    go_enter Tryd.func71, Tryd.ntmps71
    go_wp2_with fail
    go_ret
    refine ⟨?_, rfl⟩
    rw [hn.out]
    exact ret_int (by omega)
  · by_cases h2 : 97 ≤ c.toNat ∧ c.toNat ≤ 102
    · have hn : Hid (nibZ c = (c.toNat : Int) - 87) := by
        show _ = _
        unfold nibZ nib
        rw [if_neg h1, if_pos h2]
        simp only
        omega
      have k1 : (48 : Int) ≤ (c.toNat : Int) := by omega
      have k2 : ¬ (c.toNat : Int) ≤ 57 := by omega
      have k3 : (97 : Int) ≤ (c.toNat : Int) := by omega
      have k4 : (c.toNat : Int) ≤ 102 := by omega
      have hw : IntKind.u8.wrap ((c.toNat : Int) - 97) = (c.toNat : Int) - 97 := u8_wrap _ (by omega) (by omega)
      clear h1 h2
      go_enter Tryd.func71, Tryd.ntmps71
      go_wp2_with fail
      go_ret
      refine ⟨?_, rfl⟩
      rw [hn.out]
      exact ret_int (by omega)
    · have hn : Hid (nibZ c = -1) := by
        show _ = _
        unfold nibZ nib
        rw [if_neg h1, if_neg h2]
      have g1 : ¬ ((48 : Int) ≤ (c.toNat : Int) ∧ (c.toNat : Int) ≤ 57) := by omega
      have g2 : ¬ ((97 : Int) ≤ (c.toNat : Int) ∧ (c.toNat : Int) ≤ 102) := by omega
      clear h1 h2
      go_enter Tryd.func71, Tryd.ntmps71
      go_wp2_with fail
      all_goals try (exfalso; omega)
      all_goals go_ret
      all_goals exact ⟨by rw [hn.out]; exact ret_int rfl, rfl⟩
set_option maxRecDepth 100000 in
theorem hex_any (c : UInt8) (w : World) : Calls Tryd.prog 74 #[.int .u8 (c.toNat : Int)] w fun e w' => e = .returned (.int .i64 (nibZ c)) ∧ w = w' := by
  have hlt : c.toNat < 256 := c.toNat_lt
  by_cases h1 : 48 ≤ c.toNat ∧ c.toNat ≤ 57
  · have hn : Hid (nibZ c = (c.toNat : Int) - 48) := by
      show _ = _
      unfold nibZ nib
      rw [if_pos h1]
      simp only
      omega
    have d1 : decide ((48 : Int) ≤ (c.toNat : Int)) = true := decide_eq_true (by omega)
    have d2 : decide ((c.toNat : Int) ≤ 57) = true := decide_eq_true (by omega)
    have k1 : (48 : Int) ≤ (c.toNat : Int) := by omega
    have k2 : (c.toNat : Int) ≤ 57 := by omega
    have hw : IntKind.u8.wrap ((c.toNat : Int) - 48) = (c.toNat : Int) - 48 := u8_wrap _ (by omega) (by omega)
    clear h1
    go_enter Tryd.func74, Tryd.ntmps74
    go_wp2_with fail
    go_ret
    refine ⟨?_, rfl⟩
    rw [hn.out]
    exact ret_int (by omega)
  · by_cases h2 : 97 ≤ c.toNat ∧ c.toNat ≤ 102
    · have hn : Hid (nibZ c = (c.toNat : Int) - 87) := by
        show _ = _
        unfold nibZ nib
        rw [if_neg h1, if_pos h2]
        simp only
        omega
      have k1 : (48 : Int) ≤ (c.toNat : Int) := by omega
      have k2 : ¬ (c.toNat : Int) ≤ 57 := by omega
      have k3 : (97 : Int) ≤ (c.toNat : Int) := by omega
      have k4 : (c.toNat : Int) ≤ 102 := by omega
      have hw : IntKind.u8.wrap ((c.toNat : Int) - 97) = (c.toNat : Int) - 97 := u8_wrap _ (by omega) (by omega)
      clear h1 h2
      go_enter Tryd.func74, Tryd.ntmps74
      go_wp2_with fail
      go_ret
      refine ⟨?_, rfl⟩
      rw [hn.out]
      exact ret_int (by omega)
    · have hn : Hid (nibZ c = -1) := by
        show _ = _
        unfold nibZ nib
        rw [if_neg h1, if_neg h2]
      have g1 : ¬ ((48 : Int) ≤ (c.toNat : Int) ∧ (c.toNat : Int) ≤ 57) := by omega
      have g2 : ¬ ((97 : Int) ≤ (c.toNat : Int) ∧ (c.toNat : Int) ≤ 102) := by omega
      clear h1 h2
      go_enter Tryd.func74, Tryd.ntmps74
      go_wp2_with fail
      all_goals try (exfalso; omega)
      all_goals go_ret
      all_goals exact ⟨by rw [hn.out]; exact ret_int rfl, rfl⟩
end Go.Proofs.YtcibcmfaebbhnaaDoor
