/-
  Views and a watch's history: the plain law.
-/
import Derived.Test.YteckffndboiknaaPlain
import Derived.Test.YteckffndboiknaaPlainB
namespace Go.Proofs.Yteckffndboiknaa.Q

/-- A view: its ID's four numbers, its members (pid, inc, cid). -/
structure Vw where
  ep : Int
  lead : Int
  inc : Int
  cid : Int
  ms : List (Int × Int × Int)
def Whole (x : Int) : Prop := 1 ≤ x ∧ x ≤ 4611686018427387904
def wholeB (x : Int) : Bool := decide (1 ≤ x ∧ x ≤ 4611686018427387904)
theorem wholeB_yes {x : Int} (h : Whole x) : wholeB x = true := decide_eq_true h
theorem wholeB_no {x : Int} (h : ¬ Whole x) : wholeB x = false := decide_eq_false h
def pids (l : List (Int × Int × Int)) : List Int := l.map (·.1)
theorem pids_len (l : List (Int × Int × Int)) : (pids l).length = l.length := by simp [pids]
theorem pids_at (l : List (Int × Int × Int)) (k : Nat) : nth (pids l) k = pidA l k := by
  unfold nth pidA pids
  simp only [List.getD, List.getElem?_map]
  cases l[k]? <;> rfl
theorem pids_snoc (l : List (Int × Int × Int)) (k : Nat) (h : k < l.length) : pids (l.take (k + 1)) = pids (l.take k) ++ [pidA l k] := by
  unfold pids
  rw [List.take_succ_eq_append_getElem h, List.map_append]
  congr 1
  simp [pidA, List.getD, List.getElem?_eq_getElem h]
/-- The members' numbers, up to k. -/
def WholeTo (l : List (Int × Int × Int)) (k : Nat) : Prop := ∀ j, j < k → Whole (epA l j) ∧ Whole (lenA l j)
theorem WholeTo.zero (l : List (Int × Int × Int)) : WholeTo l 0 := fun _ h => absurd h (by omega)
theorem WholeTo.succ {l : List (Int × Int × Int)} {k : Nat} (h : WholeTo l k) (h1 : Whole (epA l k)) (h2 : Whole (lenA l k)) : WholeTo l (k + 1) := fun j hj => by
  by_cases e : j = k
  · subst e; exact ⟨h1, h2⟩
  · exact h j (by omega)
def Vw.Sound (v : Vw) : Prop := 1 ≤ v.ms.length ∧ Whole v.ep ∧ WholeTo v.ms v.ms.length ∧ v.lead = pidA v.ms 0 ∧ v.inc = epA v.ms 0 ∧ v.cid = lenA v.ms 0
open Classical in
/-- A view's members as a set; none: it is no view of n nodes. -/
noncomputable def Vw.set (v : Vw) (n : Nat) : Option Nat := if v.Sound then pack (pids v.ms) n else none
theorem Vw.set_unsound {v : Vw} {n : Nat} (h : ¬ v.Sound) : v.set n = none := by unfold Vw.set; rw [if_neg h]
theorem Vw.set_sound {v : Vw} {n : Nat} (h : v.Sound) : v.set n = pack (pids v.ms) n := by unfold Vw.set; rw [if_pos h]
theorem Vw.set_none {v : Vw} {n : Nat} (h : pack (pids v.ms) n = none) : v.set n = none := by
  by_cases hs : v.Sound
  · rw [Vw.set_sound hs, h]
  · exact Vw.set_unsound hs
theorem Vw.set_sound_of {v : Vw} {n s : Nat} (h : v.set n = some s) : v.Sound := by
  by_cases hs : v.Sound
  · exact hs
  · rw [Vw.set_unsound hs] at h; cases h
theorem Vw.set_lt {v : Vw} {n s : Nat} (h : v.set n = some s) : s < 2 ^ n := by
  rw [Vw.set_sound (Vw.set_sound_of h)] at h
  exact pack_lt h
theorem Vw.set_pack {v : Vw} {n s : Nat} (h : v.set n = some s) : pack (pids v.ms) n = some s := by
  rw [Vw.set_sound (Vw.set_sound_of h)] at h
  exact h
theorem Vw.bad_len {v : Vw} {n : Nat} (h : v.ms.length < 1) : v.set n = none := Vw.set_unsound fun q => by have := q.1; omega
theorem Vw.bad_ep {v : Vw} {n : Nat} (h : ¬ Whole v.ep) : v.set n = none := Vw.set_unsound fun q => h q.2.1
theorem Vw.bad_at {v : Vw} {n k : Nat} (hk : k < v.ms.length) (h : ¬ (Whole (epA v.ms k) ∧ Whole (lenA v.ms k))) : v.set n = none := Vw.set_unsound fun q => h (q.2.2.1 k hk)
theorem Vw.bad_pid {v : Vw} {n k b : Nat} {l : Int} (hk : k < v.ms.length) (hp : packTo (pids v.ms) n k = some (b, l)) (h : pidA v.ms k ≤ l ∨ (n : Int) ≤ pidA v.ms k) : v.set n = none :=
  Vw.set_none (pack_none (packTo_bad hp (by rw [pids_at]; exact h)) (by rw [pids_len]; omega))
theorem Vw.bad_id {v : Vw} {n : Nat} (h : ¬ (v.lead = pidA v.ms 0 ∧ v.inc = epA v.ms 0 ∧ v.cid = lenA v.ms 0)) : v.set n = none := Vw.set_unsound fun q => h q.2.2.2
theorem pack_at {ss : List Int} {n b k : Nat} (h : pack ss n = some b) (hk : k ≤ ss.length) : ∃ b0 l0, packTo ss n k = some (b0, l0) := by
  cases hp : packTo ss n k with
  | none => rw [pack_none hp hk] at h; cases h
  | some x => exact ⟨x.1, x.2, rfl⟩
theorem pack_step {ss : List Int} {n b k b0 : Nat} {l0 : Int} (h : pack ss n = some b) (hk : k < ss.length) (hp : packTo ss n k = some (b0, l0)) : l0 < nth ss k ∧ nth ss k < n := by
  obtain ⟨b1, l1, h1⟩ := pack_at h (show k + 1 ≤ ss.length by omega)
  by_cases hb : nth ss k ≤ l0 ∨ (n : Int) ≤ nth ss k
  · rw [packTo_bad hp hb] at h1; cases h1
  · omega
theorem pack_full {l : List Int} {n b : Nat} {x : Int} (h : packTo l n l.length = some (b, x)) : pack l n = some b := by unfold pack; rw [h]; rfl

/-! ### a watch's history -/
noncomputable def winV (vs : List Int) (v : Vw) : Bool := match v.set vs.length with | some s => winsB vs s | none => false
theorem winV_some {vs : List Int} {v : Vw} {s : Nat} (h : v.set vs.length = some s) : winV vs v = winsB vs s := by unfold winV; rw [h]
def lastEp (h : List Vw) : Int := match h.getLast? with | some v => v.ep | none => 0
theorem lastEp_nil : lastEp [] = 0 := rfl
theorem lastEp_snoc (h : List Vw) (v : Vw) : lastEp (h ++ [v]) = v.ep := by unfold lastEp; simp
noncomputable def enE (vs : List Int) (h : List Vw) (v : Vw) : Int := if v.set vs.length = none then 74 else if v.ep ≤ lastEp h then 111 else 0
noncomputable def enB (vs : List Int) (h : List Vw) (v : Vw) : Bool := decide (enE vs h v = 0) && winV vs v
noncomputable def enH (vs : List Int) (h : List Vw) (v : Vw) : List Vw := if enE vs h v = 0 then h ++ [v] else h
theorem en_view {vs : List Int} {h : List Vw} {v : Vw} (hs : v.set vs.length = none) : enE vs h v = 74 ∧ enB vs h v = false ∧ enH vs h v = h := by
  have e : enE vs h v = 74 := by unfold enE; rw [if_pos hs]
  refine ⟨e, by simp [enB, e], by simp [enH, e]⟩
theorem en_order {vs : List Int} {h : List Vw} {v : Vw} {s : Nat} (hs : v.set vs.length = some s) (hl : v.ep ≤ lastEp h) : enE vs h v = 111 ∧ enB vs h v = false ∧ enH vs h v = h := by
  have e : enE vs h v = 111 := by unfold enE; rw [if_neg (by rw [hs]; simp), if_pos hl]
  refine ⟨e, by simp [enB, e], by simp [enH, e]⟩
theorem en_ok {vs : List Int} {h : List Vw} {v : Vw} {s : Nat} (hs : v.set vs.length = some s) (hl : ¬ v.ep ≤ lastEp h) : enE vs h v = 0 ∧ enB vs h v = winsB vs s ∧ enH vs h v = h ++ [v] := by
  have e : enE vs h v = 0 := by unfold enE; rw [if_neg (by rw [hs]; simp), if_neg hl]
  refine ⟨e, by simp [enB, e, winV_some hs], by simp [enH, e]⟩
/-- All views of a history are views. -/
def HOk (vs : List Int) (h : List Vw) : Prop := ∀ v ∈ h, (v.set vs.length).isSome = true
theorem HOk.nil (vs : List Int) : HOk vs [] := fun _ h => by cases h
theorem HOk.snoc {vs : List Int} {h : List Vw} {v : Vw} {s : Nat} (hh : HOk vs h) (hs : v.set vs.length = some s) : HOk vs (h ++ [v]) := fun u hu => by
  rcases List.mem_append.1 hu with hu | hu
  · exact hh u hu
  · obtain rfl : u = v := by simpa using hu
    rw [hs]; rfl
theorem HOk.enter {vs : List Int} {h : List Vw} (v : Vw) (hh : HOk vs h) : HOk vs (enH vs h v) := by
  cases hs : v.set vs.length with
  | none => rw [(en_view hs).2.2]; exact hh
  | some s =>
    by_cases hl : v.ep ≤ lastEp h
    · rw [(en_order hs hl).2.2]; exact hh
    · rw [(en_ok hs hl).2.2]; exact hh.snoc hs
theorem enH_len (vs : List Int) (h : List Vw) (v : Vw) : (enH vs h v).length ≤ h.length + 1 := by
  unfold enH; split <;> simp
theorem HOk.lastEp {vs : List Int} {h : List Vw} (hh : HOk vs h) : 0 ≤ Q.lastEp h ∧ Q.lastEp h ≤ 4611686018427387904 ∧ (h = [] ∨ 1 ≤ Q.lastEp h) := by
  unfold Q.lastEp
  cases hg : h.getLast? with
  | none => exact ⟨by simp, by simp, .inl (by simpa using hg)⟩
  | some v =>
    have hm := hh v (List.mem_of_getLast? hg)
    obtain ⟨s, hs⟩ := Option.isSome_iff_exists.1 hm
    have := (Vw.set_sound_of hs).2.1
    unfold Whole at this
    simp only
    omega
noncomputable def inW (vs : List Int) (h : List Vw) : Bool := match h.getLast? with | some v => winV vs v | none => false
theorem inW_nil (vs : List Int) : inW vs [] = false := rfl
theorem inW_snoc (vs : List Int) (h : List Vw) (v : Vw) : inW vs (h ++ [v]) = winV vs v := by unfold inW; simp
/-- The ID of the last view that wins. -/
noncomputable def lastW (vs : List Int) (h : List Vw) : Int × Int × Int × Int := h.foldl (fun a v => if winV vs v = true then (v.ep, v.lead, v.inc, v.cid) else a) (0, 0, 0, 0)
theorem lastW_snoc (vs : List Int) (h : List Vw) (v : Vw) : lastW vs (h ++ [v]) = if winV vs v = true then (v.ep, v.lead, v.inc, v.cid) else lastW vs h := by
  unfold lastW; rw [List.foldl_append]; rfl
noncomputable def cntW (vs : List Int) (h : List Vw) : Nat := h.foldl (fun a v => if winV vs v = true then a + 1 else a) 0
theorem cntW_snoc (vs : List Int) (h : List Vw) (v : Vw) : cntW vs (h ++ [v]) = if winV vs v = true then cntW vs h + 1 else cntW vs h := by
  unfold cntW; rw [List.foldl_append]; rfl
theorem cntW_le (vs : List Int) (h : List Vw) : cntW vs h ≤ h.length := by
  obtain ⟨n, hn⟩ : ∃ n, n = h.length := ⟨_, rfl⟩
  induction n generalizing h with
  | zero => obtain rfl := List.eq_nil_of_length_eq_zero hn.symm; simp [cntW]
  | succ n ih =>
    obtain ⟨l, x, rfl⟩ : ∃ l x, h = l ++ [x] := ⟨h.dropLast, h.getLast (by intro e; subst e; cases hn), (List.dropLast_concat_getLast _).symm⟩
    have := ih l (by simp at hn; omega)
    rw [cntW_snoc]
    simp
    split <;> omega
theorem take_snoc {α : Type} (l : List α) (k : Nat) (h : k < l.length) : l.take (k + 1) = l.take k ++ [l[k]] := List.take_succ_eq_append_getElem h
end Go.Proofs.Yteckffndboiknaa.Q
