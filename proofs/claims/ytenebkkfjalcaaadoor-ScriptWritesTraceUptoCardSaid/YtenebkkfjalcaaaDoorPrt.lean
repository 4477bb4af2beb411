/-
  Contract of the closure in the program's mark: one part more.
-/
import Derived.Test.YtenebkkfjalcaaaDoorJoi
set_option linter.unusedVariables false
set_option linter.unusedSimpArgs false
namespace Go.Proofs.YtenebkkfjalcaaaDoor
open Go.RowKit Go.WideShapes Go.ChangeShapes Q

theorem own_ne {w : World} {base : Nat} {e t : TypeId} {size n g : Nat} {v : Value} {xs : List Value} {cs : Array Value} (ho : w.ownsRow base e size v n xs) (hb : Blk w g t cs) (ht : t ≠ e) : some g ≠ v.ownBlock := by
  intro h
  rcases ho.2 with ⟨rfl, _⟩ | ⟨g', cap, cur, rfl, _, hg, _⟩
  · cases h
  · have : g = g' := by simpa [Value.ownBlock] using h
    subst this
    exact Blk.ne_ hb (t' := e) hg ht rfl
def strs (ls : List (List UInt8)) : List Value := ls.map fun l => .string (S l)
theorem strs_append (a b : List (List UInt8)) : strs (a ++ b) = strs a ++ strs b := by simp [strs]
/-- The variable that holds a list of texts, and the list, both of the call's own. -/
structure PL (w : World) (base pl : Nat) (ls : List (List UInt8)) : Prop where
  lo : base ≤ pl
  ex : ∃ A c, Blk w pl 66 #[.slice A ls.length c] ∧ w.ownsRow base 9 1 (.slice A ls.length c) ls.length (strs ls)

/-- The list with one part more, where it is there. -/
def addP (b : Bool) (ls : List (List UInt8)) (nm v : List UInt8) : List (List UInt8) := if b = true then ls ++ [nm ++ [61] ++ v] else ls

set_option maxRecDepth 100000 in
set_option maxHeartbeats 1000000 in
theorem part_any (b : Bool) (nm v : List UInt8) (base pl : Nat) (ls : List (List UInt8)) (w : World) (h : PL w base pl ls) (hn : nm.length ≤ 1000) (hv : v.length ≤ 140000000000000) (hl : ls.length ≤ 1000) (hb : base ≤ w.heap.size) :
    Calls Tryd.prog 31 #[.bool b, .string (S nm), .string (S v), .pointer (some ⟨pl, 0, none⟩)] w fun e w' => e = .returned (.tuple #[]) ∧ PL w' base pl (addP b ls nm v) ∧ Below base w w' := by
  have HPL := hide h
  cases b with
  | false =>
    go_enter Tryd.func31, Tryd.ntmps31
    go_wp2_with fail
    refine bodyPost_end (results_none rfl _ _ _) rfl ?_
    exact ⟨rfl, HPL.out, Below.refl _ _⟩
  | true =>
    obtain ⟨A, c, hblk, hown⟩ := h.ex
    have hc0 : w.cell? ⟨pl, 0, none⟩ = some (.slice A ls.length c) := by have := hblk.cell 0; simpa using this
    have hf0 := hblk.frozen 0
    obtain ⟨i9, hi9, hz9, hs9, hb9⟩ := info_parts info9
    have I9 := hide hi9
    have HO := hide hown
    have HB := hide hblk
    have hs1 : ¬ 9223372036854775807 < (S nm).size + 1 := by rw [S_size]; omega
    have hs2 : ¬ 9223372036854775807 < (S nm).size + 1 + (S v).size := by rw [S_size, S_size]; omega
    clear hblk hown hi9
    go_enter Tryd.func31, Tryd.ntmps31
    have hlo := h.lo
    go_wp2_with (at_builtin; refine wpList_push (W := w) (cs := #[.string (S nm ++ { data := #[61] } ++ S v)]) ?_ (.tmp 8) (.tmp 13) 66 ?_ base 9 i9 (.string { data := #[] }) 1 16 Tryd.underlying66 I9.out hz9 hs9 hb9 rfl ?_ (.slice A ls.length c) ls.length (strs ls) ?_ HO.out 1 1 ?_ ?_ ?_ ?_ ?_ ?_ hb ?_; rfl; rfl; omega; rfl; rfl; rfl; (simp [Value.oneCell']); omega; (unfold maxLen; omega); omega; intro g7 c7 w7 hown7 hgr7 hb7 _ _ _; have hB7 := Blk.grown (HB.out.alloc _) hgr7 (own_ne HO.out HB.out (by decide)); have hc7 : w7.cell? ⟨pl, 0, none⟩ = some (.slice A ls.length c) := (by have := hB7.cell 0; simpa using this); have hf7 := hB7.frozen 0; have HB7 := hide hB7; have HO7 := hide hown7; have HL7 := hide hb7; clear hB7 hown7 hgr7 hb7)
    refine bodyPost_end (results_none rfl _ _ _) rfl ?_
    have hne := own_ne HO7.out HB7.out (by decide)
    refine ⟨rfl, ⟨hlo, some ⟨g7, 0, none⟩, c7, ?_, ?_⟩, HL7.out.setCell hlo _⟩
    · have := HB7.out.set_ 0 (.slice (some ⟨g7, 0, none⟩) (ls.length + 1) c7)
      rw [show addP true ls nm v = ls ++ [nm ++ [61] ++ v] from rfl, List.length_append]
      exact this
    · rw [show addP true ls nm v = ls ++ [nm ++ [61] ++ v] from rfl, strs_append, List.length_append]
      refine ownsRow_setCell_other ?_ (fun e => hne e.symm) _
      have e1 : strs [nm ++ [61] ++ v] = [.string (S nm ++ { data := #[61] } ++ S v)] := by
        show [Value.string (S (nm ++ [61] ++ v))] = _
        rw [← S_append, ← S_append]
        rfl
      rw [e1]
      exact HO7.out
end Go.Proofs.YtenebkkfjalcaaaDoor
