/-
  Contracts of strconv.Itoa and strings.Join at this program; the program's joined.
-/
import Derived.Test.YtenebkkfjalcaaaDoorLay
import Derived.Lib.AppendIntMem
set_option linter.unusedVariables false
set_option linter.unusedSimpArgs false
namespace Go.Proofs.YtenebkkfjalcaaaDoor
open Go.RowKit Go.WideShapes Go.ChangeShapes Q

/-- The library's table of powers lies as its initialiser lays it. -/
def Tab (w : World) : Prop := Lib.TabIs Tryd.prog w "internal/strconv.uint64pow10" .u64 Lib.pow10Tab
theorem Tab.below {w w' : World} (h : Tab w) (hb : Below w.heap.size w w') : Tab w' := Lib.tabBelow_of_tabIs h w' hb
theorem grow_below (w : World) (k : Nat) (os : Array Obj) : Below w.heap.size w (Sort.grow (w.drewN k) os) :=
  ⟨rfl, rfl, rfl, by show w.heap.size ≤ (w.heap ++ os).size; simp, fun g hg => Lib.heap_grow_old w k os g hg⟩
theorem itoa_any (n : Int) (w : World) (h0 : -9223372036854775808 ≤ n) (h1 : n ≤ 9223372036854775807) (hT : Tab w) :
    Calls Tryd.prog 30 #[.int .i64 n] w fun e w' => e = .returned (.string (S (Lib.itoa n))) ∧ Below w.heap.size w w' :=
  (Any.strconv_Itoa la171 n h0 h1 w hT).mono fun e w' ⟨he, k, os, hw⟩ => ⟨he, by rw [hw]; exact grow_below w k os⟩
theorem join_any (bk c : Nat) (ls : List (List UInt8)) (sep : List UInt8) (w : World) (hcells : ∀ (j : Nat) l, ls[j]? = some l → w.cell? ⟨bk, j, none⟩ = some (.string (S l))) (hbk : bk < w.heap.size) (hN : ls.length ≤ 140737488355328) (hcap : ls.length ≤ c)
    (hlen : (Lib.join ls sep).length ≤ 140737488355328) :
    Calls Tryd.prog 33 #[.slice (some ⟨bk, 0, none⟩) ls.length c, .string (S sep)] w fun e w' => e = .returned (.string (S (Lib.join ls sep))) ∧ Below w.heap.size w w' := by
  have hm : (ls.map S).map (fun x : ByteArray => x.data.toList) = ls := by
    rw [List.map_map]
    exact List.map_id'' (fun l => S_data l) ls
  have h := Any.strings_Join la156 sextra bk 0 c (ls.map S) (S sep) w (fun j x hx => by
    rw [List.getElem?_map] at hx
    obtain ⟨l, hl, rfl⟩ := Option.map_eq_some_iff.1 hx
    rw [Nat.zero_add]
    exact hcells j l hl) hbk (by rw [List.length_map]; exact hN) (by rw [List.length_map]; exact hcap) (by rw [hm, S_data]; exact hlen)
  rw [hm, S_data, List.length_map] at h
  exact h

theorem itoa_len (n : Int) (h0 : -9223372036854775808 ≤ n) (h1 : n ≤ 9223372036854775807) : (Lib.itoa n).length ≤ 21 := by
  unfold Lib.itoa
  split
  · rw [List.length_cons]
    have : (Lib.decDigits n.natAbs).length ≤ 20 := dec_len 19 _ (Nat.lt_of_le_of_lt (show n.natAbs ≤ 9223372036854775808 by omega) (by decide))
    omega
  · have := dec_len 19 n.toNat (Nat.lt_of_le_of_lt (show n.toNat ≤ 9223372036854775808 by omega) (by decide))
    omega
theorem lens_le (m : Nat) : ∀ (ls : List (List UInt8)), (∀ l ∈ ls, l.length ≤ m) → Lib.lens ls ≤ m * ls.length
  | [], _ => by simp [Lib.lens]
  | l :: ls, h => by
    have h1 := lens_le m ls fun x hx => h x (by simp [hx])
    have h2 := h l (by simp)
    rw [List.length_cons, Nat.mul_add]
    have : Lib.lens (l :: ls) = l.length + Lib.lens ls := by simp [Lib.lens]
    omega
theorem join_le (m : Nat) (ls : List (List UInt8)) (sep : List UInt8) (h : ∀ l ∈ ls, l.length ≤ m) : (Lib.join ls sep).length ≤ (m + sep.length) * ls.length := by
  cases ls with
  | nil => simp [Lib.join_nil]
  | cons x r =>
    have := lens_le m (x :: r) h
    rw [Lib.join_length, Nat.add_mul]
    have h2 : sep.length * r.length ≤ sep.length * (x :: r).length := Nat.mul_le_mul_left _ (by simp)
    omega
end Go.Proofs.YtenebkkfjalcaaaDoor
