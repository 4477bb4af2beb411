/-
  The cursor: str, here. (Printed by wip/tools/mkstr.py.)
-/
import Derived.Test.YtenebkkfjalcaaaDoorZCur
set_option linter.unusedVariables false
set_option linter.unusedSimpArgs false
namespace Go.Proofs.YtenebkkfjalcaaaDoor
open Go.RowKit Go.WideShapes Go.ChangeShapes Q

theorem cu0 {w : World} {b k : Nat} {s : ByteArray} {bad : Bool} (h : Cu w b s k bad) : w.cell? ⟨b, 0, none⟩ = some (.string s) := Blk.cell h 0
theorem cu1 {w : World} {b k : Nat} {s : ByteArray} {bad : Bool} (h : Cu w b s k bad) : w.cell? ⟨b, 1, none⟩ = some (.int .i64 (k : Int)) := Blk.cell h 1
theorem cu2 {w : World} {b k : Nat} {s : ByteArray} {bad : Bool} (h : Cu w b s k bad) : w.cell? ⟨b, 2, none⟩ = some (.bool bad) := Blk.cell h 2
/-- What str gives: the string, the place behind it, and whether it is none. -/
def strT (l : List UInt8) (k : Nat) : List UInt8 := match unqA l k with | some (x, _) => x | none => []
def strK (l : List UInt8) (k : Nat) : Nat := match unqA l k with | some (_, e) => e | none => k
def strOk (l : List UInt8) (k : Nat) : Bool := (unqA l k).isSome

set_option maxRecDepth 100000 in
set_option maxHeartbeats 4000000 in
theorem str_any (s : ByteArray) (k b : Nat) (bad : Bool) (w : World) (h : Cu w b s k bad) (hk : k ≤ s.size) (hs : s.size ≤ 1000000000000) :
    Calls Tryd.prog 61 #[.pointer (some ⟨b, 0, none⟩)] w fun e w' => e = .returned (.string (S (strT s.data.toList k))) ∧ Cu w' b s (strK s.data.toList k) (bad || !strOk s.data.toList k) ∧ Only (fun q => q = b) w w' := by
  have H := hide h
  have hu := fun W => unquote_any s k W hs hk
  unfold uqV at hu
  unfold strT strK strOk
  cases hq : unqA s.data.toList k with
  | none =>
    rw [hq] at hu
    have HU : Hid (∀ W, Calls Tryd.prog 73 #[.string s, .int .i64 (k : Int)] W fun e w' => e = .returned (.tuple #[.string (S []), .int .i64 0, .bool false]) ∧ Below W.heap.size W w') := hu
    clear hu hq h
    go_enter Tryd.func61, Tryd.ntmps61
    go_upto_region 1 with fail
    refine wp_region_L [] (fun V => Cu V b s k bad) (by kernel_rfl) ?_
    obtain ⟨w9, hw9⟩ : ∃ w9, w9 = World.drew w := ⟨_, rfl⟩
    have HS9 : Hid (Cu w9 b s k bad) := by
      show Cu w9 b s k bad
      rw [hw9]
      exact Blk.drew H.out
    have HO9 : Hid (Only (fun q => q = b) w w9) := by
      show Only _ w w9
      rw [hw9]
      exact (Only.refl _ w).drew
    rw [← hw9]
    clear hw9
    refine wpL_take 0 (oi := ⟨some 7, _, _, _, _, _⟩) (v := ?_) rfl (by kernel_rfl) (by kernel_rfl) (by kernel_rfl) (by kernel_rfl) (fun _ _ _ h => h) (Or.inl ⟨by rfl, ?_⟩) HS9.out ?_
    rotate_left
    · intro V hV
      go_simp
      try with_reducible rfl
    try simp only [Act.put, List.setIfInBounds_toArray, List.set_cons_zero, List.set_cons_succ]
    refine wpL_take 1 (oi := ⟨some 8, _, _, _, _, _⟩) (v := ?_) rfl (by kernel_rfl) (by kernel_rfl) (by kernel_rfl) (by kernel_rfl) (fun _ _ _ h => h) (Or.inl ⟨by rfl, ?_⟩) HS9.out ?_
    rotate_left
    · intro V hV
      go_simp
      try with_reducible rfl
    try simp only [Act.put, List.setIfInBounds_toArray, List.set_cons_zero, List.set_cons_succ]
    refine wpL_take 2 (oi := ⟨some 9, _, _, _, _, _⟩) (v := ?_) rfl (by kernel_rfl) (by kernel_rfl) (by kernel_rfl) (by kernel_rfl) (fun _ _ _ h => h) (Or.inl ⟨by rfl, ?_⟩) HS9.out ?_
    rotate_left
    · intro V hV
      go_simp
      try with_reducible rfl
    try simp only [Act.put, List.setIfInBounds_toArray, List.set_cons_zero, List.set_cons_succ]
    refine wpL_take 3 (oi := ⟨some 10, _, _, _, _, _⟩) (v := ?_) rfl (by kernel_rfl) (by kernel_rfl) (by kernel_rfl) (by kernel_rfl) (fun _ _ _ h => h) (Or.inl ⟨by rfl, ?_⟩) HS9.out ?_
    rotate_left
    · intro V hV
      have k0 := cu0 hV
      go_simp
      try with_reducible rfl
    try simp only [Act.put, List.setIfInBounds_toArray, List.set_cons_zero, List.set_cons_succ]
    refine wpL_take 4 (oi := ⟨some 11, _, _, _, _, _⟩) (v := ?_) rfl (by kernel_rfl) (by kernel_rfl) (by kernel_rfl) (by kernel_rfl) (fun _ _ _ h => h) (Or.inl ⟨by rfl, ?_⟩) HS9.out ?_
    rotate_left
    · intro V hV
      go_simp
      try with_reducible rfl
    try simp only [Act.put, List.setIfInBounds_toArray, List.set_cons_zero, List.set_cons_succ]
    refine wpL_take 5 (oi := ⟨some 12, _, _, _, _, _⟩) (v := ?_) rfl (by kernel_rfl) (by kernel_rfl) (by kernel_rfl) (by kernel_rfl) (fun _ _ _ h => h) (Or.inl ⟨by rfl, ?_⟩) HS9.out ?_
    rotate_left
    · intro V hV
      go_simp
      try with_reducible rfl
    try simp only [Act.put, List.setIfInBounds_toArray, List.set_cons_zero, List.set_cons_succ]
    refine wpL_take 6 (oi := ⟨some 13, _, _, _, _, _⟩) (v := ?_) rfl (by kernel_rfl) (by kernel_rfl) (by kernel_rfl) (by kernel_rfl) (fun _ _ _ h => h) (Or.inl ⟨by rfl, ?_⟩) HS9.out ?_
    rotate_left
    · intro V hV
      go_simp
      try with_reducible rfl
    try simp only [Act.put, List.setIfInBounds_toArray, List.set_cons_zero, List.set_cons_succ]
    refine wpL_take 7 (oi := ⟨some 14, _, _, _, _, _⟩) (v := ?_) rfl (by kernel_rfl) (by kernel_rfl) (by kernel_rfl) (by kernel_rfl) (fun _ _ _ h => h) (Or.inl ⟨by rfl, ?_⟩) HS9.out ?_
    rotate_left
    · intro V hV
      have k1 := cu1 hV
      go_simp
      try with_reducible rfl
    try simp only [Act.put, List.setIfInBounds_toArray, List.set_cons_zero, List.set_cons_succ]
    refine wpL_one 8 (by kernel_rfl) rfl (fun K hK => ?_)
    rw [if_pos (by rfl)]
    go_simp
    go_at_call 73
    refine (HU.out _).mono ?_
    rintro e w2 ⟨rfl, hb2⟩
    have HS2 := hide (HS9.out.step hb2)
    have HO2 := hide (only_step HO9.out hb2)
    clear hb2
    refine hK _ _ (fun _ => HS2.out) ?_
    clear hK K
    try simp only [Act.put, List.setIfInBounds_toArray, List.set_cons_zero, List.set_cons_succ]
    refine wpL_take 9 (oi := ⟨some 6, _, _, _, _, _⟩) (v := ?_) rfl (by kernel_rfl) (by kernel_rfl) (by kernel_rfl) (by kernel_rfl) (fun _ _ _ h => h) (Or.inl ⟨by rfl, ?_⟩) HS2.out ?_
    rotate_left
    · intro V hV
      go_simp
      try with_reducible rfl
    try simp only [Act.put, List.setIfInBounds_toArray, List.set_cons_zero, List.set_cons_succ]
    refine wpL_take 10 (oi := ⟨some 16, _, _, _, _, _⟩) (v := ?_) rfl (by kernel_rfl) (by kernel_rfl) (by kernel_rfl) (by kernel_rfl) (fun _ _ _ h => h) (Or.inl ⟨by rfl, ?_⟩) HS2.out ?_
    rotate_left
    · intro V hV
      go_simp
      try with_reducible rfl
    try simp only [Act.put, List.setIfInBounds_toArray, List.set_cons_zero, List.set_cons_succ]
    refine wpL_take 11 (oi := ⟨some 17, _, _, _, _, _⟩) (v := ?_) rfl (by kernel_rfl) (by kernel_rfl) (by kernel_rfl) (by kernel_rfl) (fun _ _ _ h => h) (Or.inl ⟨by rfl, ?_⟩) HS2.out ?_
    rotate_left
    · intro V hV
      go_simp
      try with_reducible rfl
    try simp only [Act.put, List.setIfInBounds_toArray, List.set_cons_zero, List.set_cons_succ]
    refine wpL_take 12 (oi := ⟨some 18, _, _, _, _, _⟩) (v := ?_) rfl (by kernel_rfl) (by kernel_rfl) (by kernel_rfl) (by kernel_rfl) (fun _ _ _ h => h) (Or.inl ⟨by rfl, ?_⟩) HS2.out ?_
    rotate_left
    · intro V hV
      go_simp
      try with_reducible rfl
    try simp only [Act.put, List.setIfInBounds_toArray, List.set_cons_zero, List.set_cons_succ]
    refine wpL_take 13 (oi := ⟨some 3, _, _, _, _, _⟩) (v := ?_) rfl (by kernel_rfl) (by kernel_rfl) (by kernel_rfl) (by kernel_rfl) (fun _ _ _ h => h) (Or.inl ⟨by rfl, ?_⟩) HS2.out ?_
    rotate_left
    · intro V hV
      go_simp
      try with_reducible rfl
    try simp only [Act.put, List.setIfInBounds_toArray, List.set_cons_zero, List.set_cons_succ]
    refine wpL_take 14 (oi := ⟨some 4, _, _, _, _, _⟩) (v := ?_) rfl (by kernel_rfl) (by kernel_rfl) (by kernel_rfl) (by kernel_rfl) (fun _ _ _ h => h) (Or.inl ⟨by rfl, ?_⟩) HS2.out ?_
    rotate_left
    · intro V hV
      go_simp
      try with_reducible rfl
    try simp only [Act.put, List.setIfInBounds_toArray, List.set_cons_zero, List.set_cons_succ]
    refine wpL_take 15 (oi := ⟨some 5, _, _, _, _, _⟩) (v := ?_) rfl (by kernel_rfl) (by kernel_rfl) (by kernel_rfl) (by kernel_rfl) (fun _ _ _ h => h) (Or.inl ⟨by rfl, ?_⟩) HS2.out ?_
    rotate_left
    · intro V hV
      go_simp
      try with_reducible rfl
    try simp only [Act.put, List.setIfInBounds_toArray, List.set_cons_zero, List.set_cons_succ]
    refine wpL_done (by kernel_rfl) ?_ _
    have f2 := Blk.frozen HS2.out 2
    have c2 := cu2 HS2.out
    go_wp2_with fail
    go_ret
    refine ⟨rfl, ?_, HO2.out.setCell (fun _ => rfl) _⟩
    have hb : (bad || !(none : Option (List UInt8 × Nat)).isSome) = true := by cases bad <;> rfl
    first
    | (rw [hb]; exact HS2.out.bad0 true)
    | exact HS2.out.bad0 true
    | (simp; exact HS2.out.bad0 true)
  | some p =>
    obtain ⟨x, E⟩ := p
    rw [hq] at hu
    have HU : Hid (∀ W, Calls Tryd.prog 73 #[.string s, .int .i64 (k : Int)] W fun e w' => e = .returned (.tuple #[.string (S x), .int .i64 (E : Int), .bool true]) ∧ Below W.heap.size W w') := hu
    clear hu hq h
    go_enter Tryd.func61, Tryd.ntmps61
    go_upto_region 1 with fail
    refine wp_region_L [] (fun V => Cu V b s k bad) (by kernel_rfl) ?_
    obtain ⟨w9, hw9⟩ : ∃ w9, w9 = World.drew w := ⟨_, rfl⟩
    have HS9 : Hid (Cu w9 b s k bad) := by
      show Cu w9 b s k bad
      rw [hw9]
      exact Blk.drew H.out
    have HO9 : Hid (Only (fun q => q = b) w w9) := by
      show Only _ w w9
      rw [hw9]
      exact (Only.refl _ w).drew
    rw [← hw9]
    clear hw9
    refine wpL_take 0 (oi := ⟨some 7, _, _, _, _, _⟩) (v := ?_) rfl (by kernel_rfl) (by kernel_rfl) (by kernel_rfl) (by kernel_rfl) (fun _ _ _ h => h) (Or.inl ⟨by rfl, ?_⟩) HS9.out ?_
    rotate_left
    · intro V hV
      go_simp
      try with_reducible rfl
    try simp only [Act.put, List.setIfInBounds_toArray, List.set_cons_zero, List.set_cons_succ]
    refine wpL_take 1 (oi := ⟨some 8, _, _, _, _, _⟩) (v := ?_) rfl (by kernel_rfl) (by kernel_rfl) (by kernel_rfl) (by kernel_rfl) (fun _ _ _ h => h) (Or.inl ⟨by rfl, ?_⟩) HS9.out ?_
    rotate_left
    · intro V hV
      go_simp
      try with_reducible rfl
    try simp only [Act.put, List.setIfInBounds_toArray, List.set_cons_zero, List.set_cons_succ]
    refine wpL_take 2 (oi := ⟨some 9, _, _, _, _, _⟩) (v := ?_) rfl (by kernel_rfl) (by kernel_rfl) (by kernel_rfl) (by kernel_rfl) (fun _ _ _ h => h) (Or.inl ⟨by rfl, ?_⟩) HS9.out ?_
    rotate_left
    · intro V hV
      go_simp
      try with_reducible rfl
    try simp only [Act.put, List.setIfInBounds_toArray, List.set_cons_zero, List.set_cons_succ]
    refine wpL_take 3 (oi := ⟨some 10, _, _, _, _, _⟩) (v := ?_) rfl (by kernel_rfl) (by kernel_rfl) (by kernel_rfl) (by kernel_rfl) (fun _ _ _ h => h) (Or.inl ⟨by rfl, ?_⟩) HS9.out ?_
    rotate_left
    · intro V hV
      have k0 := cu0 hV
      go_simp
      try with_reducible rfl
    try simp only [Act.put, List.setIfInBounds_toArray, List.set_cons_zero, List.set_cons_succ]
    refine wpL_take 4 (oi := ⟨some 11, _, _, _, _, _⟩) (v := ?_) rfl (by kernel_rfl) (by kernel_rfl) (by kernel_rfl) (by kernel_rfl) (fun _ _ _ h => h) (Or.inl ⟨by rfl, ?_⟩) HS9.out ?_
    rotate_left
    · intro V hV
      go_simp
      try with_reducible rfl
    try simp only [Act.put, List.setIfInBounds_toArray, List.set_cons_zero, List.set_cons_succ]
    refine wpL_take 5 (oi := ⟨some 12, _, _, _, _, _⟩) (v := ?_) rfl (by kernel_rfl) (by kernel_rfl) (by kernel_rfl) (by kernel_rfl) (fun _ _ _ h => h) (Or.inl ⟨by rfl, ?_⟩) HS9.out ?_
    rotate_left
    · intro V hV
      go_simp
      try with_reducible rfl
    try simp only [Act.put, List.setIfInBounds_toArray, List.set_cons_zero, List.set_cons_succ]
    refine wpL_take 6 (oi := ⟨some 13, _, _, _, _, _⟩) (v := ?_) rfl (by kernel_rfl) (by kernel_rfl) (by kernel_rfl) (by kernel_rfl) (fun _ _ _ h => h) (Or.inl ⟨by rfl, ?_⟩) HS9.out ?_
    rotate_left
    · intro V hV
      go_simp
      try with_reducible rfl
    try simp only [Act.put, List.setIfInBounds_toArray, List.set_cons_zero, List.set_cons_succ]
    refine wpL_take 7 (oi := ⟨some 14, _, _, _, _, _⟩) (v := ?_) rfl (by kernel_rfl) (by kernel_rfl) (by kernel_rfl) (by kernel_rfl) (fun _ _ _ h => h) (Or.inl ⟨by rfl, ?_⟩) HS9.out ?_
    rotate_left
    · intro V hV
      have k1 := cu1 hV
      go_simp
      try with_reducible rfl
    try simp only [Act.put, List.setIfInBounds_toArray, List.set_cons_zero, List.set_cons_succ]
    refine wpL_one 8 (by kernel_rfl) rfl (fun K hK => ?_)
    rw [if_pos (by rfl)]
    go_simp
    go_at_call 73
    refine (HU.out _).mono ?_
    rintro e w2 ⟨rfl, hb2⟩
    have HS2 := hide (HS9.out.step hb2)
    have HO2 := hide (only_step HO9.out hb2)
    clear hb2
    refine hK _ _ (fun _ => HS2.out) ?_
    clear hK K
    try simp only [Act.put, List.setIfInBounds_toArray, List.set_cons_zero, List.set_cons_succ]
    refine wpL_take 9 (oi := ⟨some 6, _, _, _, _, _⟩) (v := ?_) rfl (by kernel_rfl) (by kernel_rfl) (by kernel_rfl) (by kernel_rfl) (fun _ _ _ h => h) (Or.inl ⟨by rfl, ?_⟩) HS2.out ?_
    rotate_left
    · intro V hV
      go_simp
      try with_reducible rfl
    try simp only [Act.put, List.setIfInBounds_toArray, List.set_cons_zero, List.set_cons_succ]
    refine wpL_take 10 (oi := ⟨some 16, _, _, _, _, _⟩) (v := ?_) rfl (by kernel_rfl) (by kernel_rfl) (by kernel_rfl) (by kernel_rfl) (fun _ _ _ h => h) (Or.inl ⟨by rfl, ?_⟩) HS2.out ?_
    rotate_left
    · intro V hV
      go_simp
      try with_reducible rfl
    try simp only [Act.put, List.setIfInBounds_toArray, List.set_cons_zero, List.set_cons_succ]
    refine wpL_take 11 (oi := ⟨some 17, _, _, _, _, _⟩) (v := ?_) rfl (by kernel_rfl) (by kernel_rfl) (by kernel_rfl) (by kernel_rfl) (fun _ _ _ h => h) (Or.inl ⟨by rfl, ?_⟩) HS2.out ?_
    rotate_left
    · intro V hV
      go_simp
      try with_reducible rfl
    try simp only [Act.put, List.setIfInBounds_toArray, List.set_cons_zero, List.set_cons_succ]
    refine wpL_take 12 (oi := ⟨some 18, _, _, _, _, _⟩) (v := ?_) rfl (by kernel_rfl) (by kernel_rfl) (by kernel_rfl) (by kernel_rfl) (fun _ _ _ h => h) (Or.inl ⟨by rfl, ?_⟩) HS2.out ?_
    rotate_left
    · intro V hV
      go_simp
      try with_reducible rfl
    try simp only [Act.put, List.setIfInBounds_toArray, List.set_cons_zero, List.set_cons_succ]
    refine wpL_take 13 (oi := ⟨some 3, _, _, _, _, _⟩) (v := ?_) rfl (by kernel_rfl) (by kernel_rfl) (by kernel_rfl) (by kernel_rfl) (fun _ _ _ h => h) (Or.inl ⟨by rfl, ?_⟩) HS2.out ?_
    rotate_left
    · intro V hV
      go_simp
      try with_reducible rfl
    try simp only [Act.put, List.setIfInBounds_toArray, List.set_cons_zero, List.set_cons_succ]
    refine wpL_take 14 (oi := ⟨some 4, _, _, _, _, _⟩) (v := ?_) rfl (by kernel_rfl) (by kernel_rfl) (by kernel_rfl) (by kernel_rfl) (fun _ _ _ h => h) (Or.inl ⟨by rfl, ?_⟩) HS2.out ?_
    rotate_left
    · intro V hV
      go_simp
      try with_reducible rfl
    try simp only [Act.put, List.setIfInBounds_toArray, List.set_cons_zero, List.set_cons_succ]
    refine wpL_take 15 (oi := ⟨some 5, _, _, _, _, _⟩) (v := ?_) rfl (by kernel_rfl) (by kernel_rfl) (by kernel_rfl) (by kernel_rfl) (fun _ _ _ h => h) (Or.inl ⟨by rfl, ?_⟩) HS2.out ?_
    rotate_left
    · intro V hV
      go_simp
      try with_reducible rfl
    try simp only [Act.put, List.setIfInBounds_toArray, List.set_cons_zero, List.set_cons_succ]
    refine wpL_done (by kernel_rfl) ?_ _
    have f1 := Blk.frozen HS2.out 1
    have c1 := cu1 HS2.out
    go_wp2_with fail
    go_ret
    refine ⟨rfl, ?_, HO2.out.setCell (fun _ => rfl) _⟩
    have hb : (bad || !(some (x, E) : Option (List UInt8 × Nat)).isSome) = bad := by cases bad <;> rfl
    first
    | (rw [hb]; exact HS2.out.set0 E)
    | exact HS2.out.set0 E
    | (simp; exact HS2.out.set0 E)
/-- Does this byte stand here? -/
def hereB (c : UInt8) (l : List UInt8) : Bool := l.head? == some c
set_option maxRecDepth 100000 in
set_option maxHeartbeats 4000000 in
theorem here_any (c : UInt8) (s : ByteArray) (k b : Nat) (bad : Bool) (w : World) (h : Cu w b s k bad) (hk : k ≤ s.size) (hs : s.size ≤ 1000000000000) :
    Calls Tryd.prog 60 #[.pointer (some ⟨b, 0, none⟩), .int .u8 (c.toNat : Int)] w fun e w' => e = .returned (.bool (hereB c (s.data.toList.drop k))) ∧ Cu w' b s k bad ∧ Only (fun q => q = b) w w' := by
  have H := hide h
  have c0 := cu0 h
  have c1 := cu1 h
  have k0 : (0 : Int) ≤ (k : Int) := by omega
  by_cases hlt : k < s.size
  · obtain ⟨q, hq⟩ : ∃ q, q = s[k] := ⟨_, rfl⟩
    have hqc := hq.symm
    have ks : (k : Int) < (s.size : Int) := by omega
    have HV : Hid (hereB c (s.data.toList.drop k) = ((q.toNat : Int) == (c.toNat : Int))) := by
      show _ = _
      unfold hereB
      rw [bdrop hlt, ← hq, List.head?_cons, Bool.eq_iff_iff, beq_iff_eq, beq_iff_eq]
      constructor
      · intro e
        rw [Option.some.inj e]
      · intro e
        rw [UInt8.toNat_inj.1 (show q.toNat = c.toNat by omega)]
    clear hq h
    go_enter Tryd.func60, Tryd.ntmps60
    go_wp2_with fail
    go_quiet (fail)
    go_wp2_with fail
    go_ret
    refine ⟨?_, H.out.drewN _, (Only.refl (fun q => q = b) w).drewN _⟩
    rw [HV.out]
    rfl
  · have ks : ¬ (k : Int) < (s.size : Int) := by omega
    have HV : Hid (hereB c (s.data.toList.drop k) = false) := by
      show _ = _
      unfold hereB
      rw [List.drop_eq_nil_of_le (by rw [str_len]; omega)]
      rfl
    clear h
    go_enter Tryd.func60, Tryd.ntmps60
    go_wp2_with fail
    go_quiet (fail)
    go_wp2_with fail
    go_ret
    refine ⟨?_, H.out.drewN _, (Only.refl (fun q => q = b) w).drewN _⟩
    rw [HV.out]
    rfl
end Go.Proofs.YtenebkkfjalcaaaDoor
