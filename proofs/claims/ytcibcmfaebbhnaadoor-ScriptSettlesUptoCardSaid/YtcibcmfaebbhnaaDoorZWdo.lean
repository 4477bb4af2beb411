/-
  A text's bytes from one place to another; types' sizes for lists of words. The reference's Lines. Blanks: the program's and the reference's. The reference's over: is a line passed over? The reference's splitting. The reference's doing: a line that begins with do. (Printed by wip/tools/mkwdo.py.)
-/
import Derived.Test.YtcibcmfaebbhnaaDoorZNib
import Derived.Test.YtcibcmfaebbhnaaDoorZUnq
import Derived.Test.YtcibcmfaebbhnaaDoorZCfp
import Derived.Test.YtcibcmfaebbhnaaDoorZWds
import Derived.Test.YtcibcmfaebbhnaaDoorZRct
import Derived.Test.YtcibcmfaebbhnaaDoorZEvp
set_option linter.unusedVariables false
set_option linter.unusedSimpArgs false
namespace Go.Proofs.YtcibcmfaebbhnaaDoor
open Go.RowKit Go.WideShapes Go.ChangeShapes Q
/-- The bytes from a to b. -/
def sg (s : ByteArray) (a b : Nat) : List UInt8 := (s.data.toList.drop a).take (b - a)
theorem sg_ext (s : ByteArray) (a b : Nat) : s.extract a b = S (sg s a b) := by
  apply ByteArray.ext
  apply Array.toList_inj.1
  show (s.extract a b).data.toList = (s.data.toList.drop a).take (b - a)
  rw [ByteArray.data_extract, Array.toList_extract]
theorem sg_app {s : ByteArray} {a b : Nat} (h : a ≤ b) : s.data.toList.drop a = sg s a b ++ s.data.toList.drop b := by
  have := (List.take_append_drop (b - a) (s.data.toList.drop a)).symm
  rw [List.drop_drop, show a + (b - a) = b by omega] at this
  exact this
theorem sg_len {s : ByteArray} {a b : Nat} (h : a ≤ b) (hb : b ≤ s.size) : (sg s a b).length = b - a := by
  unfold sg
  rw [List.length_take, List.length_drop, str_len]
  omega
theorem sg_cat {s : ByteArray} {a b c : Nat} (h : a ≤ b) (hc : b ≤ c) : sg s a c = sg s a b ++ sg s b c := by
  unfold sg
  rw [show c - a = (b - a) + (c - b) by omega, List.take_add, List.drop_drop, show a + (b - a) = b by omega]
theorem sg_one {s : ByteArray} {a : Nat} (h : a < s.size) : sg s a (a + 1) = [s[a]] := by
  unfold sg
  rw [bdrop h]
  simp
theorem sg_ne {s : ByteArray} {a b : Nat} (h : a < b) (hb : b ≤ s.size) : sg s a b ≠ [] := by
  intro e
  have := sg_len (Nat.le_of_lt h) hb
  rw [e] at this
  simp at this
  omega
theorem info9 : (Tryd.prog.info? 9).map (fun i => (i.zero, i.size, i.bytes)) = some (some (.string ⟨#[]⟩), 1, 16) := by kernel_rfl
theorem info96 : (Tryd.prog.info? 96).map (fun i => (i.zero, i.size, i.bytes)) = some (some (.agg #[.string ⟨#[]⟩, .bool false]), 2, 24) := by kernel_rfl
theorem info29 : (Tryd.prog.info? 29).map (fun i => (i.zero, i.size, i.bytes)) = some (some (.agg Em.zero.cs), 13, 160) := by kernel_rfl
theorem info3 : (Tryd.prog.info? 3).map (fun i => (i.zero, i.size, i.bytes)) = some (some (.int .i64 0), 1, 8) := by kernel_rfl
theorem unq_len : ∀ (n : Nat) (l : List UInt8), l.length ≤ n → ∀ b r, unq l = some (b, r) → b.length + r.length < l.length
  | 0, l, hl, b, r, h => by
    have : l = [] := List.length_eq_zero_iff.1 (by omega)
    subst this
    rw [unq_bad (by rfl)] at h
    cases h
  | n + 1, l, hl, b, r, h => by
    cases hq : qstep l with
    | stop r1 =>
      rw [unq_stop hq] at h
      injection h with h
      injection h with h1 h2
      subst h1 h2
      have := qstep_stop hq
      simp only [List.length_nil]
      omega
    | byte b1 r1 =>
      rw [unq_byte hq] at h
      obtain ⟨p, hp, he⟩ := Option.map_eq_some_iff.1 h
      injection he with h1 h2
      have hlt := qstep_byte hq
      have := unq_len n r1 (by omega) p.1 p.2 hp
      rw [← h2, ← h1]
      simp only [List.length_cons]
      omega
    | bad =>
      rw [unq_bad hq] at h
      cases h
/-- What is left behind a string. -/
theorem unq_rest {s : ByteArray} {k : Nat} {b t : List UInt8} (hk : k < s.size) (h : unq (s.data.toList.drop (k + 1)) = some (b, t)) : ∃ q, k + 1 < q ∧ q ≤ s.size ∧ s.size - t.length = q ∧ t = s.data.toList.drop q ∧ b.length < q - k ∧ ∀ x ∈ sg s (k + 1) q, Inn x := by
  obtain ⟨a, ha, hin⟩ := unq_pre _ _ (Nat.le_refl _) b t h
  have hlt := unq_lt _ _ (Nat.le_refl _) b t h
  have hl : (s.data.toList.drop (k + 1)).length = s.size - (k + 1) := by rw [List.length_drop, str_len]
  have hbl := unq_len _ _ (Nat.le_refl _) b t h
  have hla : a.length + t.length = s.size - (k + 1) := by
    rw [← hl, ha, List.length_append]
  have ht : t = s.data.toList.drop (s.size - t.length) := by
    have h1 : (s.data.toList.drop (k + 1)).drop a.length = t := by rw [ha]; simp
    rw [List.drop_drop, show k + 1 + a.length = s.size - t.length by omega] at h1
    exact h1.symm
  refine ⟨s.size - t.length, by omega, by omega, rfl, ht, by omega, ?_⟩
  intro x hx
  refine hin x ?_
  have : sg s (k + 1) (s.size - t.length) = a := by
    unfold sg
    rw [ha, show s.size - t.length - (k + 1) = a.length by omega]
    simp
  rw [this] at hx
  exact hx
end Go.Proofs.YtcibcmfaebbhnaaDoor
set_option linter.unusedVariables false
set_option linter.unusedSimpArgs false
namespace Go.Proofs.YtcibcmfaebbhnaaDoor
open Go.RowKit Go.WideShapes Go.ChangeShapes Q
/-- Lines as they lie. -/
def ltx (ls : List (List UInt8)) : List Value := ls.map fun l => .string (S l)
theorem ltx_app (a b : List (List UInt8)) : ltx (a ++ b) = ltx a ++ ltx b := List.map_append
/-- A text's lines: cur is the line so far. -/
def linG (cur : List UInt8) : List UInt8 → List (List UInt8)
  | [] => if cur = [] then [] else [cur]
  | c :: r => if c.toNat = 10 then cur :: linG [] r else linG (cur ++ [c]) r
end Go.Proofs.YtcibcmfaebbhnaaDoor
set_option linter.unusedVariables false
set_option linter.unusedSimpArgs false
namespace Go.Proofs.YtcibcmfaebbhnaaDoor
open Go.RowKit Go.WideShapes Go.ChangeShapes Q
theorem blk_val (c : UInt8) : blk c = (((c.toNat : Int) == 32) || ((c.toNat : Int) == 9)) := by
  unfold blk
  have e1 : ((c.toNat : Int) == 32) = (c.toNat == 32) := by
    by_cases h : c.toNat = 32
    · simp [h]
    · rw [beq_eq_false_iff_ne.2 h, beq_eq_false_iff_ne.2 (by omega)]
  have e2 : ((c.toNat : Int) == 9) = (c.toNat == 9) := by
    by_cases h : c.toNat = 9
    · simp [h]
    · rw [beq_eq_false_iff_ne.2 h, beq_eq_false_iff_ne.2 (by omega)]
  rw [e1, e2]
set_option maxRecDepth 100000 in
theorem blank_any (c : UInt8) (w : World) : Calls Tryd.prog 47 #[.int .u8 (c.toNat : Int)] w fun e w' => e = .returned (.bool (blk c)) ∧ w = w' := by
  have HB := hide (blk_val c)
  by_cases h : (c.toNat : Int) = 32
  · have h1 : ((c.toNat : Int) == 32) = true := by rw [h]; rfl
    go_enter Tryd.func47, Tryd.ntmps47
    go_wp2_with fail
    go_ret
    exact ⟨by rw [HB.out, h1]; rfl, rfl⟩
  · have h1 : ((c.toNat : Int) == 32) = false := beq_eq_false_iff_ne.2 h
    go_enter Tryd.func47, Tryd.ntmps47
    go_wp2_with fail
    go_ret
    exact ⟨by rw [HB.out, h1]; rfl, rfl⟩
end Go.Proofs.YtcibcmfaebbhnaaDoor
set_option linter.unusedVariables false
set_option linter.unusedSimpArgs false
namespace Go.Proofs.YtcibcmfaebbhnaaDoor
open Go.RowKit Go.WideShapes Go.ChangeShapes Q
/-- A line is passed over: its first byte that is no blank is a sharp, or it has none. -/
def overB : List UInt8 → Bool
  | [] => true
  | c :: r => if blk c = true then overB r else c.toNat == 35
end Go.Proofs.YtcibcmfaebbhnaaDoor
set_option linter.unusedVariables false
set_option linter.unusedSimpArgs false
namespace Go.Proofs.YtcibcmfaebbhnaaDoor
open Go.RowKit Go.WideShapes Go.ChangeShapes Q
/-- A line's words, as the reference lays them, in block g. -/
structure RWd (w : World) (B g : Nat) (ws : List Wd) : Prop where
  lt : g < B
  at_ : ∀ k d, ws[k]? = some d → w.cell? ⟨g, k * 2, none⟩ = some (.bool d.2) ∧ w.cell? ⟨g, k * 2 + 1, none⟩ = some (.string (S d.1))
theorem RWd.below {w w' : World} {B g : Nat} {ws : List Wd} (h : RWd w B g ws) (hb : Below B w w') : RWd w' B g ws :=
  ⟨h.lt, fun k d hk => ⟨(hb.cell (p := ⟨g, k * 2, none⟩) h.lt).trans (h.at_ k d hk).1, (hb.cell (p := ⟨g, k * 2 + 1, none⟩) h.lt).trans (h.at_ k d hk).2⟩⟩
theorem RWd.more {w : World} {B B' g : Nat} {ws : List Wd} (h : RWd w B g ws) (hb : B ≤ B') : RWd w B' g ws := ⟨by have := h.lt; omega, h.at_⟩
theorem RWd.of_own {w : World} {base : Nat} {ws : List Wd} {g c : Nat} (h : w.ownsRow base 106 2 (.slice (some ⟨g, 0, none⟩) ws.length c) ws.length (rwc ws)) (hg : g < w.heap.size) : RWd w w.heap.size g ws := by
  refine ⟨hg, fun k d hk => ?_⟩
  have h2 := two_at (f := fun d => Value.bool d.2) (g := fun d => Value.string (S d.1)) ws k d hk
  have e : ∀ j, (⟨g, 0, none⟩ : Addr).add j = ⟨g, j, none⟩ := fun j => by
    unfold Addr.add
    split
    · rename_i h0; subst h0; rfl
    · simp
  have c0 := World.ownsRow.cells (g := g) h rfl (2 * k) _ h2.1
  have c1 := World.ownsRow.cells (g := g) h rfl (2 * k + 1) _ h2.2
  rw [e] at c0 c1
  rw [show k * 2 = 2 * k by omega]
  exact ⟨c0, c1⟩
end Go.Proofs.YtcibcmfaebbhnaaDoor
set_option linter.unusedVariables false
set_option linter.unusedSimpArgs false
namespace Go.Proofs.YtcibcmfaebbhnaaDoor
open Go.RowKit Go.WideShapes Go.ChangeShapes Q
/-- The commands' words by number. -/
def opW (j : Nat) : List UInt8 := ([] :: opL).getD j []
def opV : Array Value := #[.string ⟨#[]⟩, .string ⟨#[115, 101, 116]⟩, .string ⟨#[103, 101, 116]⟩, .string ⟨#[99, 97, 115]⟩, .string ⟨#[100, 101, 108]⟩, .string ⟨#[97, 100, 100]⟩, .string ⟨#[108, 111, 99, 107]⟩, .string ⟨#[117, 110, 108, 111, 99, 107]⟩, .string ⟨#[102, 101, 110, 99, 101]⟩, .string ⟨#[101, 110, 100]⟩]
theorem opV_at : ∀ j, j < 10 → opV[j]? = some (.string (S (opW j)))
  | 0, _ => rfl
  | 1, _ => rfl
  | 2, _ => rfl
  | 3, _ => rfl
  | 4, _ => rfl
  | 5, _ => rfl
  | 6, _ => rfl
  | 7, _ => rfl
  | 8, _ => rfl
  | 9, _ => rfl
  | j + 10, h => absurd h (by omega)
/-- The number of the last of the first words that this is. -/
def opTo (s : List UInt8) : Nat → Nat
  | 0 => 0
  | j + 1 => if 1 ≤ j ∧ s = opW j then j else opTo s j
theorem opTo_all (s : List UInt8) : opTo s 10 = opNo s := by
  by_cases h1 : s = [115, 101, 116]
  · subst h1; rfl
  by_cases h2 : s = [103, 101, 116]
  · subst h2; rfl
  by_cases h3 : s = [99, 97, 115]
  · subst h3; rfl
  by_cases h4 : s = [100, 101, 108]
  · subst h4; rfl
  by_cases h5 : s = [97, 100, 100]
  · subst h5; rfl
  by_cases h6 : s = [108, 111, 99, 107]
  · subst h6; rfl
  by_cases h7 : s = [117, 110, 108, 111, 99, 107]
  · subst h7; rfl
  by_cases h8 : s = [102, 101, 110, 99, 101]
  · subst h8; rfl
  by_cases h9 : s = [101, 110, 100]
  · subst h9; rfl
  have e1 : opNo s = 0 := by
    have : opL.findIdx? (· == s) = none := by
      rw [List.findIdx?_eq_none_iff]
      intro x hx
      simp only [opL, List.mem_cons, List.mem_nil_iff, or_false] at hx
      rw [beq_eq_false_iff_ne]
      rintro rfl
      rcases hx with h | h | h | h | h | h | h | h | h
      all_goals first | exact h1 h | exact h2 h | exact h3 h | exact h4 h | exact h5 h | exact h6 h | exact h7 h | exact h8 h | exact h9 h
    unfold opNo
    rw [this]
  rw [e1]
  simp only [opTo]
  rw [if_neg (fun h => h9 h.2)]
  rw [if_neg (fun h => h8 h.2)]
  rw [if_neg (fun h => h7 h.2)]
  rw [if_neg (fun h => h6 h.2)]
  rw [if_neg (fun h => h5 h.2)]
  rw [if_neg (fun h => h4 h.2)]
  rw [if_neg (fun h => h3 h.2)]
  rw [if_neg (fun h => h2 h.2)]
  rw [if_neg (fun h => h1 h.2)]
  rfl
end Go.Proofs.YtcibcmfaebbhnaaDoor
