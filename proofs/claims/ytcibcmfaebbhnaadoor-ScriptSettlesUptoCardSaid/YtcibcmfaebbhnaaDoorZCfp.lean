/-
  Small laws that other texts lean on: the size of a sum of texts, a []byte turned into a text, a load of a whole struct. A configuration: what the program's CheckConfig and the reference's answer: 0 where all numbers are in their ranges, else 22. Plain: a script's configuration out of its second and third lines.
-/
import Derived.StillTail
import Derived.Test.YtcibcmfaebbhnaaDoorZDig
import Derived.Test.YtcibcmfaebbhnaaDoorZRct
import Derived.Test.YtcibcmfaebbhnaaDoorRows
import Derived.Test.YtcibcmfaebbhnaaDoorZEvp
import Derived.Test.YtcibcmfaebbhnaaDoorZWds
set_option linter.unusedVariables false
set_option linter.unusedSimpArgs false
namespace Go.Proofs.YtcibcmfaebbhnaaDoor
open Go.RowKit Go.WideShapes Go.ChangeShapes Q
theorem size_lim {a b : List UInt8} (h : a.length + b.length ≤ 9223372036854775807) : ¬ 9223372036854775807 < (S a).size + (S b).size := by
  rw [S_size, S_size]
  omega
theorem conv_reads {W : World} {B n c : Nat} {A : Option Addr} {l : List UInt8} (h : Reads W B 1 A n (Lib.byteCells l)) : (convert 24 9 (.slice A n c)).run Tryd.prog W = .ok (.string (S l)) W := by
  have hl : l.length = n := by have := h.1; rw [Lib.byteCells_length] at this; omega
  rcases Nat.eq_zero_or_pos n with h0 | h0
  · subst h0
    have : l = [] := List.eq_nil_of_length_eq_zero hl
    subst this
    cases A with
    | none =>
      rw [run_convert_bytes_string W 24 9 5 none 0 c Tryd.underlying24 Tryd.underlying5 Tryd.underlying9]
      simp [Conv.bytesToString]
      rfl
    | some ad => exact run_conv_bytes (.tmp 0) 24 9 5 Tryd.underlying24 Tryd.underlying5 Tryd.underlying9 ad 0 c [] rfl fun j hj => absurd hj (by simp)
  · obtain ⟨ad, rfl, _, hc⟩ := h.2 h0
    exact run_conv_bytes (.tmp 0) 24 9 5 Tryd.underlying24 Tryd.underlying5 Tryd.underlying9 ad n c l hl.symm fun j hj => hc j _ (by simp [Lib.byteCells, hj])
theorem blk_new (w : World) (t : TypeId) (cs : Array Value) (g : Nat) (h : g = w.heap.size) : Blk (w.alloc (.cells cs t)) g t cs := by subst h; exact Blk.new w t cs
section
variable {P : Program}
theorem run_load_at (w : World) (ad : Addr) (ty : TypeId) (cs : Array Value) (d : TypeDesc) (hu : P.underlying ty = some d) (hd : (match d with | .struct _ | .array _ _ => true | _ => false) = true) (hi : (P.info? ty).map (·.size) = some cs.size)
    (h : ∀ j v, cs[j]? = some v → w.cell? (ad.add j) = some v) : (loadVar ty ad).run P w = .ok (.agg cs) w := by
  have hl : (loadCells ad cs.toList.length).run P w = .ok cs.toList.toArray w := run_loadCells_list (P := P) w ad cs.toList (fun j v hv => h j v (by simpa using hv))
  cases hq : P.info? ty with
  | none => simp [hq] at hi
  | some i =>
    have hs : i.size = cs.size := by simpa [hq] using hi
    have hagg : (isAgg ty).run P w = .ok true w := by
      unfold isAgg
      rw [Sem.run_bind, run_underlying hu w]
      cases d <;> simp_all
    simp only [Array.length_toList, Array.toArray_toList] at hl
    simp [loadVar, Sem.run_bind, hagg, sizeOf, typeInfo, hq, hs, hl]
theorem still_load_at {ops : Array Oper} {rest : List Oper} {o : Oper} {a : Act} {w : World} {Q : Act → Prop} (hw : Region.wanted o (yielded ops a.tmps) = true) (ty : TypeId) (x : Operand) (ho : o.op = .load ty x)
    (ad : Addr) (hx : a.eval x = .pointer (some ad)) (cs : Array Value) (d : TypeDesc)
    (hu : P.underlying ty = some d) (hd : (match d with | .struct _ | .array _ _ => true | _ => false) = true) (hi : (P.info? ty).map (·.size) = some cs.size) (hc : ∀ j v, cs[j]? = some v → w.cell? (ad.add j) = some v)
    (h : wpStill P ops w Q rest (a.put o.dst (.agg cs))) : wpStill P ops w Q (o :: rest) a := by
  refine wpStill_step fun K hK => ?_
  rw [if_pos hw]
  unfold Oper.still execOp
  simp only [ho, hx, Instr.loadAt, Instr.sureAddr, Sem.run_bind, Sem.run_pure, Result.andThen_ok, run_load_at w ad ty cs d hu hd hi hc, Oper.stillUpon_value]
  exact hK _ h
end
theorem own_ne {w : World} {base : Nat} {e t : TypeId} {size n g : Nat} {v : Value} {xs : List Value} {cs : Array Value} (ho : w.ownsRow base e size v n xs) (hb : Blk w g t cs) (ht : t ≠ e) : some g ≠ v.ownBlock := by
  intro h
  rcases ho.2 with ⟨rfl, _⟩ | ⟨g', cap, cur, rfl, _, hg, _⟩
  · cases h
  · have : g = g' := by simpa [Value.ownBlock] using h
    subst this
    exact Blk.ne_ hb (t' := e) hg ht rfl
theorem own_slice {w : World} {base : Nat} {e : TypeId} {size n : Nat} {v : Value} {xs : List Value} (h : w.ownsRow base e size v n xs) : ∃ A c, v = .slice A n c ∧ Reads w w.heap.size size A n xs ∧ n ≤ c := by
  have hr := h
  rcases h.2 with ⟨rfl, h0⟩ | ⟨g, cap, cur, rfl, _, hg, hc, _⟩
  · refine ⟨none, 0, by rw [h0], ⟨h.1, fun hn => by omega⟩, by omega⟩
  · exact ⟨some ⟨g, 0, none⟩, cap, rfl, Reads.of_own hr, hc⟩
theorem own_slice' {w : World} {base : Nat} {e : TypeId} {size n : Nat} {v : Value} {xs : List Value} (h : w.ownsRow base e size v n xs) : ∃ A c, v = .slice A n c := by
  rcases h.2 with ⟨h0, h1⟩ | ⟨g, cap, cur, h0, _⟩
  · exact ⟨none, 0, by rw [h0, h1]⟩
  · exact ⟨_, _, h0⟩
theorem own_step {w w' : World} {base : Nat} {e : TypeId} {size n : Nat} {v : Value} {xs : List Value} (ho : w.ownsRow base e size v n xs) (h : Below w.heap.size w w') : w'.ownsRow base e size v n xs :=
  ho.kept (only_of_below h none) (by cases h1 : v.ownBlock with | none => exact .inl rfl | some g => exact .inr (by simp))
theorem own_kept {w w' : World} {b b' : Nat} {e e' : TypeId} {s s' n n' : Nat} {v v' : Value} {xs xs' : List Value} (h : w.ownsRow b e s v n xs) (h' : w.ownsRow b' e' s' v' n' xs') (hne : e ≠ e') (hg : w.grownBy w' v'.ownBlock) : w'.ownsRow b e s v n xs := by
  refine h.kept hg ?_
  rcases h.2 with ⟨rfl, _⟩ | ⟨g, cap, cur, rfl, _, hk, _⟩
  · exact .inl rfl
  · exact .inr (own_ne h' hk hne)
end Go.Proofs.YtcibcmfaebbhnaaDoor
namespace Go.Proofs.YtcibcmfaebbhnaaDoor
open Go.RowKit Go.WideShapes Go.ChangeShapes Q
/-- Is a number within two others? -/
def inB (v lo hi : Int) : Bool := decide (lo ≤ v) && decide (v ≤ hi)
theorem inB_true {v lo hi : Int} (h : inB v lo hi = true) : lo ≤ v ∧ v ≤ hi := by
  unfold inB at h
  simp only [Bool.and_eq_true, decide_eq_true_eq] at h
  exact h
theorem inB_false {v lo hi : Int} (h : inB v lo hi = false) : v < lo ∨ hi < v := by
  unfold inB at h
  simp only [Bool.and_eq_false_iff, decide_eq_false_iff_not] at h
  omega
theorem inB_mk {v lo hi : Int} (h1 : lo ≤ v) (h2 : v ≤ hi) : inB v lo hi = true := by unfold inB; simp [h1, h2]
theorem inB_lo {v lo hi : Int} (h : v < lo) : inB v lo hi = false := by
  unfold inB
  simp only [Bool.and_eq_false_iff, decide_eq_false_iff_not]
  omega
theorem inB_hi {v lo hi : Int} (h : hi < v) : inB v lo hi = false := by
  unfold inB
  simp only [Bool.and_eq_false_iff, decide_eq_false_iff_not]
  omega
/-- The numbers of a configuration, and its votes. -/
structure Cfg where
  nodes : Int
  window : Int
  base : Int
  step : Int
  cap : Int
  room : Int
  floor : Int
  votes : List Int
def sumOf (vs : List Int) : Nat → Int
  | 0 => 0
  | k + 1 => sumOf vs k + nth vs k
def VFine (vs : List Int) (k : Nat) : Prop := ∀ j, j < k → 0 ≤ nth vs j ∧ nth vs j ≤ 9
theorem VFine.zero (vs : List Int) : VFine vs 0 := fun _ h => absurd h (by omega)
theorem VFine.succ {vs : List Int} {k : Nat} (h : VFine vs k) (h0 : 0 ≤ nth vs k) (h9 : nth vs k ≤ 9) : VFine vs (k + 1) := by
  intro j hj
  by_cases e : j = k
  · subst e; exact ⟨h0, h9⟩
  · exact h j (by omega)
theorem sumOf_bound {vs : List Int} {n : Nat} (h : VFine vs n) : ∀ k, k ≤ n → 0 ≤ sumOf vs k ∧ sumOf vs k ≤ 9 * k := by
  intro k
  induction k with
  | zero => intro _; simp [sumOf]
  | succ k ih =>
    intro hk
    have := ih (by omega)
    have hv := h k (by omega)
    rw [sumOf]
    omega
/-- A configuration that may be. -/
structure Cfg.Ok (c : Cfg) : Prop where
  nodes : 1 ≤ c.nodes ∧ c.nodes ≤ 16
  window : 1 ≤ c.window ∧ c.window ≤ 8
  cap : 1 ≤ c.cap ∧ c.cap ≤ 64
  base : 1 ≤ c.base ∧ c.base ≤ c.cap
  step : 1 ≤ c.step ∧ c.step ≤ c.cap
  room : 1 ≤ c.room ∧ c.room ≤ 20000
  floor : 0 ≤ c.floor ∧ c.floor ≤ 4611686018427387904
  len : (c.votes.length : Int) = c.nodes
  fine : VFine c.votes c.votes.length
  sum : sumOf c.votes c.votes.length ≠ 0
open Classical in
noncomputable def Cfg.err (c : Cfg) : Int := if c.Ok then 0 else 22
theorem Cfg.err_ok {c : Cfg} (h : c.Ok) : c.err = 0 := by unfold Cfg.err; rw [if_pos h]
theorem Cfg.err_bad {c : Cfg} (h : ¬ c.Ok) : c.err = 22 := by unfold Cfg.err; rw [if_neg h]
theorem within_any (v lo hi : Int) (w : World) :
    Calls Tryd.prog 68 #[.int .i64 v, .int .i64 lo, .int .i64 hi] w fun e w' => e = .returned (.bool (inB v lo hi)) ∧ w = w' := by
  by_cases h1 : lo ≤ v
  · by_cases h2 : v ≤ hi
    · have HB := hide (inB_mk h1 h2)
      go_enter Tryd.func68, Tryd.ntmps68
      go_wp2
      go_ret
      exact ⟨ret_bool (by rw [HB.out]), rfl⟩
    · have HB := hide (inB_hi (v := v) (lo := lo) (hi := hi) (by omega))
      go_enter Tryd.func68, Tryd.ntmps68
      go_wp2
      go_ret
      exact ⟨ret_bool (by rw [HB.out]), rfl⟩
  · have HB := hide (inB_lo (v := v) (lo := lo) (hi := hi) (by omega))
    have d : decide (lo ≤ v) = false := by simp; omega
    go_enter Tryd.func68, Tryd.ntmps68
    go_wp2
    go_ret
    exact ⟨ret_bool HB.out.symm, rfl⟩
end Go.Proofs.YtcibcmfaebbhnaaDoor
set_option linter.unusedVariables false
set_option linter.unusedSimpArgs false
namespace Go.Proofs.YtcibcmfaebbhnaaDoor
open Go
def Cfg.zero : Cfg := ⟨0, 0, 0, 0, 0, 0, 0, []⟩
def cfNames : List (List UInt8) := [[110, 111, 100, 101, 115], [119, 105, 110, 100, 111, 119], [98, 97, 115, 101], [115, 116, 101, 112], [99, 97, 112], [114, 111, 111, 109], [102, 108, 111, 111, 114]]
/-- Names and counts by turns: the counts. -/
def pairP : List (List UInt8) → List Wd → Option (List Int)
  | [], [] => some []
  | n :: ns, a :: b :: ws => if a.2 = false ∧ a.1 = n then (match wcnt b with | some x => (pairP ns ws).map ((x : Int) :: ·) | none => none) else none
  | _, _ => none
/-- Counts. -/
def votP : List Wd → Option (List Int)
  | [] => some []
  | w :: ws => match wcnt w with | some x => (votP ws).map ((x : Int) :: ·) | none => none
def votes8 : List UInt8 := [118, 111, 116, 101, 115]
def cfgP (l m : List Wd) : Option Cfg := match pairP cfNames l, m with
  | some [a, b, c, d, e, f, g], v :: vs => if v.2 = false ∧ v.1 = votes8 ∧ 1 ≤ vs.length ∧ vs.length ≤ 16 then (votP vs).map (fun l => ⟨a, b, c, d, e, f, g, l⟩) else none
  | _, _ => none
/-- A configuration of two lines. -/
def cfgL (s t : List UInt8) : Option Cfg := match wordsG true s, wordsG true t with
  | some l, some m => cfgP l m
  | _, _ => none
theorem pair_len : ∀ (ns : List (List UInt8)) (ws : List Wd), ¬ ws.length = 2 * ns.length → pairP ns ws = none
  | [], [], h => absurd rfl h
  | [], _ :: _, _ => rfl
  | _ :: _, [], _ => rfl
  | _ :: _, [_], _ => rfl
  | n :: ns, a :: b :: ws, h => by
    have ih := pair_len ns ws (by simp only [List.length_cons] at h; omega)
    unfold pairP
    split
    · cases wcnt b with
      | none => rfl
      | some x => simp only [ih, Option.map_none]
    · rfl
end Go.Proofs.YtcibcmfaebbhnaaDoor
