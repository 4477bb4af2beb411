/-
  Writable marks, written, are read back as they are: plain.
-/
import Derived.Test.YtenebkkfjalcaaaDoorZNln
import Derived.Test.YtenebkkfjalcaaaDoorZWpg
set_option linter.unusedVariables false
set_option linter.unusedSimpArgs false
namespace Go.Proofs.YtenebkkfjalcaaaDoor
open Go.RowKit Go.WideShapes Go.ChangeShapes Q

/-- A mark's line is short, and read as a mark of bounded lists. -/
theorem lok_line {m : Mk} {K : Nat} (hw : wrB m = true) (hz : MkN K m) (hK : K ≤ 1048576) (h1 : m.ms.length = m.nm) (h2 : m.ts.length = m.nt) : LOK (lineL m.pm.toMk) := by
  have hw' : wrB m.pm.toMk = true := hw
  have hz' : MkN K m.pm.toMk := ⟨by show m.ms.length ≤ K; rw [h1]; exact hz.nm, by show m.ts.length ≤ K; rw [h2]; exact hz.nt, by show m.bd.length ≤ K; rw [hz.bd]; exact hz.nb, rfl,
    by show (S m.key.data.toList).size ≤ K; rw [S_self]; exact hz.key, by show (S m.val.data.toList).size ≤ K; rw [S_self]; exact hz.val, by show (S m.old.data.toList).size ≤ K; rw [S_self]; exact hz.old, by show (S m.rv.data.toList).size ≤ K; rw [S_self]; exact hz.rv⟩
  have hc := cnts hw'
  have hl := line_lenN hc hz' rfl rfl
  refine ⟨by omega, ?_⟩
  rw [unm_line hc rfl rfl]
  show PZ m.pm 1048576 1048576
  have e1 := hz.nm
  have e2 := hz.nt
  have e3 := hz.nb
  have e4 := hz.bd
  have e5 := hz.key
  have e6 := hz.val
  have e7 := hz.old
  have e8 := hz.rv
  exact ⟨by show m.ms.length ≤ _; omega, by show m.ts.length ≤ _; omega, by show m.bd.length ≤ _; omega, by show m.key.data.toList.length ≤ _; rw [str_len]; omega, by show m.val.data.toList.length ≤ _; rw [str_len]; omega, by show m.old.data.toList.length ≤ _; rw [str_len]; omega, by show m.rv.data.toList.length ≤ _; rw [str_len]; omega⟩
theorem round_text {l : List Mk} {bs : List Nat} (hB : MkB bs l) (hs : bs.sum ≤ 1048576) (hl : l.length ≤ 1048576) (hlen : ∀ m ∈ l, m.ms.length = m.nm ∧ m.ts.length = m.nt) (hw : l.all wrB = true) :
    (outL l).length ≤ 3000000000 ∧ traceT (outL l) = (l.map Mk.pm, 0, 0) ∧ ∀ r, outL l = headT ++ r → ∀ q ∈ linG [] r, LOK q := by
  rw [List.all_eq_true] at hw
  have hL : ∀ p ∈ l.map Mk.pm, OkL p := fun p hp => by
    obtain ⟨m, hm, rfl⟩ := List.mem_map.1 hp
    exact ok_of_wr (hw m hm)
  have ho := out_marks l hlen
  refine ⟨?_, by rw [ho]; exact trace_marks hL, ?_⟩
  · have h1 := hB.len fun m hm => ⟨hw m hm, hlen m hm⟩
    have h2 : (outL l).length = headT.length + (l.flatMap fun m => lineL m ++ [10]).length := by unfold outL; rw [List.length_append]
    have h3 : headT.length = 16 := rfl
    omega
  · intro r hr q hq
    have hr' : r = (l.map Mk.pm).flatMap lnP := List.append_cancel_left (hr.symm.trans ho)
    rw [hr', lin_marks _ hL] at hq
    obtain ⟨p, hp, rfl⟩ := List.mem_map.1 hq
    obtain ⟨m, hm, rfl⟩ := List.mem_map.1 hp
    obtain ⟨b, hb, hz⟩ := hB.all hs m hm
    exact lok_line (hw m hm) hz hb (hlen m hm).1 (hlen m hm).2
end Go.Proofs.YtenebkkfjalcaaaDoor
