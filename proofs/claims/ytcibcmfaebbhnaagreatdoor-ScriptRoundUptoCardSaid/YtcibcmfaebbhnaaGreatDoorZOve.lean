/-
  A text's bytes from one place to another; types' sizes for lists of words. The reference's Lines. Blanks: the program's and the reference's. The reference's over: is a line passed over?
-/
import Derived.Test.YtcibcmfaebbhnaaGreatDoorZNib
import Derived.Test.YtcibcmfaebbhnaaGreatDoorZRq
import Derived.Test.YtcibcmfaebbhnaaGreatDoorZBas
set_option linter.unusedVariables false
set_option linter.unusedSimpArgs false
namespace Go.Proofs.YtcibcmfaebbhnaaGreatDoor
open Go.RowKit Go.WideShapes Go.ChangeShapes Q
/-- The bytes from a to b. -/
def sg (s : ByteArray) (a b : Nat) : List UInt8 := (s.data.toList.drop a).take (b - a)
theorem sg_ext (s : ByteArray) (a b : Nat) : s.extract a b = S (sg s a b) := by
  apply ByteArray.ext
  apply Array.toList_inj.1
  show (s.extract a b).data.toList = (s.data.toList.drop a).take (b - a)
  rw [ByteArray.data_extract, Array.toList_extract]
theorem sg_nil (s : ByteArray) (a : Nat) : sg s a a = [] := by simp [sg]
theorem sg_app {s : ByteArray} {a b : Nat} (h : a ≤ b) : s.data.toList.drop a = sg s a b ++ s.data.toList.drop b := by
  have := (List.take_append_drop (b - a) (s.data.toList.drop a)).symm
  rw [List.drop_drop, show a + (b - a) = b by omega] at this
  exact this
theorem sg_len {s : ByteArray} {a b : Nat} (h : a ≤ b) (hb : b ≤ s.size) : (sg s a b).length = b - a := by
  unfold sg
  rw [List.length_take, List.length_drop, str_len]
  omega
theorem sg_cat {s : ByteArray} {a b c : Nat} (h : a ≤ b) (hc : b ≤ c) : sg s a c = sg s a b ++ sg s b c := by
  unfold sg
  rw [show c - a = (b - a) + (c - b) by omega, List.take_add, List.drop_drop, show a + (b - a) = b by omega]
theorem sg_one {s : ByteArray} {a : Nat} (h : a < s.size) : sg s a (a + 1) = [s[a]] := by
  unfold sg
  rw [bdrop h]
  simp
theorem sg_snoc {s : ByteArray} {a b : Nat} (h : a ≤ b) (hb : b < s.size) : sg s a (b + 1) = sg s a b ++ [s[b]] := by
  rw [sg_cat h (Nat.le_succ b), sg_one hb]
theorem sg_ne {s : ByteArray} {a b : Nat} (h : a < b) (hb : b ≤ s.size) : sg s a b ≠ [] := by
  intro e
  have := sg_len (Nat.le_of_lt h) hb
  rw [e] at this
  simp at this
  omega
theorem info9 : (Tryz.prog.info? 9).map (fun i => (i.zero, i.size, i.bytes)) = some (some (.string ⟨#[]⟩), 1, 16) := by kernel_rfl
theorem info106 : (Tryz.prog.info? 165).map (fun i => (i.zero, i.size, i.bytes)) = some (some (.agg #[.bool false, .string ⟨#[]⟩]), 2, 24) := by kernel_rfl
theorem info96 : (Tryz.prog.info? 159).map (fun i => (i.zero, i.size, i.bytes)) = some (some (.agg #[.string ⟨#[]⟩, .bool false]), 2, 24) := by kernel_rfl
theorem info29 : (Tryz.prog.info? 33).map (fun i => (i.zero, i.size, i.bytes)) = some (some (.agg Em.zero.cs), 13, 160) := by kernel_rfl
theorem info3 : (Tryz.prog.info? 3).map (fun i => (i.zero, i.size, i.bytes)) = some (some (.int .i64 0), 1, 8) := by kernel_rfl
/-- A plain word is stopped by a byte that is neither plain nor a blank. -/
theorem wds_cut {nl : Bool} {w r : List UInt8} {c : UInt8} (hw : ∀ q ∈ w, plnB nl q = true) (hb : blk c = false) (hc : plnB nl c = false) (h0 : w = [] → ¬ c.toNat = 34) : wordsG nl (w ++ c :: r) = none := by
  cases w with
  | nil => exact wds_stop r hb (h0 rfl) hc
  | cons a w => exact wds_bad (by simp) hw hb hc
theorem unq_len : ∀ (n : Nat) (l : List UInt8), l.length ≤ n → ∀ b r, unq l = some (b, r) → b.length + r.length < l.length
  | 0, l, hl, b, r, h => by
    have : l = [] := List.length_eq_zero_iff.1 (by omega)
    subst this
    rw [unq_bad (by rfl)] at h
    cases h
  | n + 1, l, hl, b, r, h => by
    cases hq : qstep l with
    | stop r1 =>
      rw [unq_stop hq] at h
      injection h with h
      injection h with h1 h2
      subst h1 h2
      have := qstep_stop hq
      simp only [List.length_nil]
      omega
    | byte b1 r1 =>
      rw [unq_byte hq] at h
      obtain ⟨p, hp, he⟩ := Option.map_eq_some_iff.1 h
      injection he with h1 h2
      have hlt := qstep_byte hq
      have := unq_len n r1 (by omega) p.1 p.2 hp
      rw [← h2, ← h1]
      simp only [List.length_cons]
      omega
    | bad =>
      rw [unq_bad hq] at h
      cases h
/-- What is left behind a string. -/
theorem unq_rest {s : ByteArray} {k : Nat} {b t : List UInt8} (hk : k < s.size) (h : unq (s.data.toList.drop (k + 1)) = some (b, t)) : ∃ q, k + 1 < q ∧ q ≤ s.size ∧ s.size - t.length = q ∧ t = s.data.toList.drop q ∧ b.length < q - k ∧ ∀ x ∈ sg s (k + 1) q, Inn x := by
  obtain ⟨a, ha, hin⟩ := unq_pre _ _ (Nat.le_refl _) b t h
  have hlt := unq_lt _ _ (Nat.le_refl _) b t h
  have hl : (s.data.toList.drop (k + 1)).length = s.size - (k + 1) := by rw [List.length_drop, str_len]
  have hbl := unq_len _ _ (Nat.le_refl _) b t h
  have hla : a.length + t.length = s.size - (k + 1) := by
    rw [← hl, ha, List.length_append]
  have ht : t = s.data.toList.drop (s.size - t.length) := by
    have h1 : (s.data.toList.drop (k + 1)).drop a.length = t := by rw [ha]; simp
    rw [List.drop_drop, show k + 1 + a.length = s.size - t.length by omega] at h1
    exact h1.symm
  refine ⟨s.size - t.length, by omega, by omega, rfl, ht, by omega, ?_⟩
  intro x hx
  refine hin x ?_
  have : sg s (k + 1) (s.size - t.length) = a := by
    unfold sg
    rw [ha, show s.size - t.length - (k + 1) = a.length by omega]
    simp
  rw [this] at hx
  exact hx
end Go.Proofs.YtcibcmfaebbhnaaGreatDoor
set_option linter.unusedVariables false
set_option linter.unusedSimpArgs false
namespace Go.Proofs.YtcibcmfaebbhnaaGreatDoor
open Go.RowKit Go.WideShapes Go.ChangeShapes Q
/-- Lines as they lie. -/
def ltx (ls : List (List UInt8)) : List Value := ls.map fun l => .string (S l)
theorem ltx_app (a b : List (List UInt8)) : ltx (a ++ b) = ltx a ++ ltx b := List.map_append
/-- A text's lines: cur is the line so far. -/
def linG (cur : List UInt8) : List UInt8 → List (List UInt8)
  | [] => if cur = [] then [] else [cur]
  | c :: r => if c.toNat = 10 then cur :: linG [] r else linG (cur ++ [c]) r
end Go.Proofs.YtcibcmfaebbhnaaGreatDoor
set_option linter.unusedVariables false
set_option linter.unusedSimpArgs false
namespace Go.Proofs.YtcibcmfaebbhnaaGreatDoor
open Go.RowKit Go.WideShapes Go.ChangeShapes Q
theorem blk_val (c : UInt8) : blk c = (((c.toNat : Int) == 32) || ((c.toNat : Int) == 9)) := by
  unfold blk
  have e1 : ((c.toNat : Int) == 32) = (c.toNat == 32) := by
    by_cases h : c.toNat = 32
    · simp [h]
    · rw [beq_eq_false_iff_ne.2 h, beq_eq_false_iff_ne.2 (by omega)]
  have e2 : ((c.toNat : Int) == 9) = (c.toNat == 9) := by
    by_cases h : c.toNat = 9
    · simp [h]
    · rw [beq_eq_false_iff_ne.2 h, beq_eq_false_iff_ne.2 (by omega)]
  rw [e1, e2]
set_option maxRecDepth 100000 in
theorem blank_any (c : UInt8) (w : World) : Calls Tryz.prog 78 #[.int .u8 (c.toNat : Int)] w fun e w' => e = .returned (.bool (blk c)) ∧ w = w' := by
  have HB := hide (blk_val c)
  by_cases h : (c.toNat : Int) = 32
  · have h1 : ((c.toNat : Int) == 32) = true := by rw [h]; rfl
    go_enter Tryz.func78, Tryz.ntmps78
    go_wp2_with fail
    go_ret
    exact ⟨by rw [HB.out, h1]; rfl, rfl⟩
  · have h1 : ((c.toNat : Int) == 32) = false := beq_eq_false_iff_ne.2 h
    go_enter Tryz.func78, Tryz.ntmps78
    go_wp2_with fail
    go_ret
    exact ⟨by rw [HB.out, h1]; rfl, rfl⟩
set_option maxRecDepth 100000 in
theorem rblank_any (c : UInt8) (w : World) : Calls Tryz.prog 89 #[.int .u8 (c.toNat : Int)] w fun e w' => e = .returned (.bool (blk c)) ∧ w = w' := by
  have HB := hide (blk_val c)
  by_cases h : (c.toNat : Int) = 32
  · have h1 : ((c.toNat : Int) == 32) = true := by rw [h]; rfl
    go_enter Tryz.func89, Tryz.ntmps89
    go_wp2_with fail
    go_ret
    exact ⟨by rw [HB.out, h1]; rfl, rfl⟩
  · have h1 : ((c.toNat : Int) == 32) = false := beq_eq_false_iff_ne.2 h
    go_enter Tryz.func89, Tryz.ntmps89
    go_wp2_with fail
    go_ret
    exact ⟨by rw [HB.out, h1]; rfl, rfl⟩
end Go.Proofs.YtcibcmfaebbhnaaGreatDoor
set_option linter.unusedVariables false
set_option linter.unusedSimpArgs false
namespace Go.Proofs.YtcibcmfaebbhnaaGreatDoor
open Go.RowKit Go.WideShapes Go.ChangeShapes Q
/-- A line is passed over: its first byte that is no blank is a sharp, or it has none. -/
def overB : List UInt8 → Bool
  | [] => true
  | c :: r => if blk c = true then overB r else c.toNat == 35
end Go.Proofs.YtcibcmfaebbhnaaGreatDoor
