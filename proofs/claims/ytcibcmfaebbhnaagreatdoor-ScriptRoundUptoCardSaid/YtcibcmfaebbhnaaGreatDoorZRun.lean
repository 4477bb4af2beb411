/-
  The reference's number of a word. A configuration: what the program's CheckConfig and the reference's answer: 0 where all numbers are in their ranges, else 22. Plain: a script's configuration out of its second and third lines. A region that draws its order, walked one operation at a time; operations on texts and on whole structs as run equations. (Printed by wip/tools/mkrun.py.)
-/
import Derived.Test.YtcibcmfaebbhnaaGreatDoorZRead
import Derived.Test.YtcibcmfaebbhnaaGreatDoorZBas
import Derived.Test.YtcibcmfaebbhnaaGreatDoorRows
import Derived.Test.YtcibcmfaebbhnaaGreatDoorZRdc
import Derived.StillTail
set_option linter.unusedVariables false
set_option linter.unusedSimpArgs false
namespace Go.Proofs.YtcibcmfaebbhnaaGreatDoor
open Go.RowKit Go.WideShapes Go.ChangeShapes Q
/-- A word's count, or -1. -/
def wcntZ (w : Wd) : Int := match wcnt w with | some n => (n : Int) | none => -1
set_option maxRecDepth 100000 in
theorem number_ref (q : Bool) (s : ByteArray) (w : World) (hs : s.size ≤ 1000000000000) :
    Calls Tryz.prog 105 #[.agg #[.bool q, .string s]] w fun e w' => e = .returned (.int .i64 (wcntZ (s.data.toList, q))) ∧ Below w.heap.size w w' := by
  have HC := hide (count_ref s (w.alloc (.cells #[.bool q, .string s] 165)) hs)
  have HB := hide ((Below.refl w.heap.size w).alloc (Nat.le_refl _) (.cells #[.bool q, .string s] 165))
  have P1 : Blk (w.alloc (.cells #[.bool q, .string s] 165)) w.heap.size 165 #[.bool q, .string s] := Blk.new _ _ _
  have c0 := P1.cell 0
  have c1 := P1.cell 1
  clear P1
  cases q with
  | true =>
    go_enter Tryz.func105, Tryz.ntmps105
    go_wp2_with fail
    go_ret
    exact ⟨rfl, HB.out⟩
  | false =>
    go_enter Tryz.func105, Tryz.ntmps105
    go_wp2_with (go_at_call 114; refine HC.out.mono ?_; rintro e w2 ⟨rfl, rfl⟩)
    go_ret
    exact ⟨rfl, HB.out⟩
end Go.Proofs.YtcibcmfaebbhnaaGreatDoor
namespace Go.Proofs.YtcibcmfaebbhnaaGreatDoor
open Go.RowKit Go.WideShapes Go.ChangeShapes Q
/-- Is a number within two others? -/
def inB (v lo hi : Int) : Bool := decide (lo ≤ v) && decide (v ≤ hi)
theorem inB_true {v lo hi : Int} (h : inB v lo hi = true) : lo ≤ v ∧ v ≤ hi := by
  unfold inB at h
  simp only [Bool.and_eq_true, decide_eq_true_eq] at h
  exact h
theorem inB_false {v lo hi : Int} (h : inB v lo hi = false) : v < lo ∨ hi < v := by
  unfold inB at h
  simp only [Bool.and_eq_false_iff, decide_eq_false_iff_not] at h
  omega
theorem inB_mk {v lo hi : Int} (h1 : lo ≤ v) (h2 : v ≤ hi) : inB v lo hi = true := by unfold inB; simp [h1, h2]
theorem inB_lo {v lo hi : Int} (h : v < lo) : inB v lo hi = false := by
  unfold inB
  simp only [Bool.and_eq_false_iff, decide_eq_false_iff_not]
  omega
theorem inB_hi {v lo hi : Int} (h : hi < v) : inB v lo hi = false := by
  unfold inB
  simp only [Bool.and_eq_false_iff, decide_eq_false_iff_not]
  omega
/-- The numbers of a configuration, and its votes. -/
structure Cfg where
  nodes : Int
  window : Int
  base : Int
  step : Int
  cap : Int
  room : Int
  floor : Int
  votes : List Int
def sumOf (vs : List Int) : Nat → Int
  | 0 => 0
  | k + 1 => sumOf vs k + nth vs k
def VFine (vs : List Int) (k : Nat) : Prop := ∀ j, j < k → 0 ≤ nth vs j ∧ nth vs j ≤ 9
theorem VFine.zero (vs : List Int) : VFine vs 0 := fun _ h => absurd h (by omega)
theorem VFine.succ {vs : List Int} {k : Nat} (h : VFine vs k) (h0 : 0 ≤ nth vs k) (h9 : nth vs k ≤ 9) : VFine vs (k + 1) := by
  intro j hj
  by_cases e : j = k
  · subst e; exact ⟨h0, h9⟩
  · exact h j (by omega)
theorem sumOf_bound {vs : List Int} {n : Nat} (h : VFine vs n) : ∀ k, k ≤ n → 0 ≤ sumOf vs k ∧ sumOf vs k ≤ 9 * k := by
  intro k
  induction k with
  | zero => intro _; simp [sumOf]
  | succ k ih =>
    intro hk
    have := ih (by omega)
    have hv := h k (by omega)
    rw [sumOf]
    omega
/-- A configuration that may be. -/
structure Cfg.Ok (c : Cfg) : Prop where
  nodes : 1 ≤ c.nodes ∧ c.nodes ≤ 16
  window : 1 ≤ c.window ∧ c.window ≤ 8
  cap : 1 ≤ c.cap ∧ c.cap ≤ 64
  base : 1 ≤ c.base ∧ c.base ≤ c.cap
  step : 1 ≤ c.step ∧ c.step ≤ c.cap
  room : 1 ≤ c.room ∧ c.room ≤ 20000
  floor : 0 ≤ c.floor ∧ c.floor ≤ 4611686018427387904
  len : (c.votes.length : Int) = c.nodes
  fine : VFine c.votes c.votes.length
  sum : sumOf c.votes c.votes.length ≠ 0
open Classical in
noncomputable def Cfg.err (c : Cfg) : Int := if c.Ok then 0 else 22
theorem Cfg.err_ok {c : Cfg} (h : c.Ok) : c.err = 0 := by unfold Cfg.err; rw [if_pos h]
theorem Cfg.err_bad {c : Cfg} (h : ¬ c.Ok) : c.err = 22 := by unfold Cfg.err; rw [if_neg h]
theorem within_any (v lo hi : Int) (w : World) :
    Calls Tryz.prog 31 #[.int .i64 v, .int .i64 lo, .int .i64 hi] w fun e w' => e = .returned (.bool (inB v lo hi)) ∧ w = w' := by
  by_cases h1 : lo ≤ v
  · by_cases h2 : v ≤ hi
    · have HB := hide (inB_mk h1 h2)
      go_enter Tryz.func31, Tryz.ntmps31
      go_wp2
      go_ret
      exact ⟨ret_bool (by rw [HB.out]), rfl⟩
    · have HB := hide (inB_hi (v := v) (lo := lo) (hi := hi) (by omega))
      go_enter Tryz.func31, Tryz.ntmps31
      go_wp2
      go_ret
      exact ⟨ret_bool (by rw [HB.out]), rfl⟩
  · have HB := hide (inB_lo (v := v) (lo := lo) (hi := hi) (by omega))
    have d : decide (lo ≤ v) = false := by simp; omega
    go_enter Tryz.func31, Tryz.ntmps31
    go_wp2
    go_ret
    exact ⟨ret_bool HB.out.symm, rfl⟩
end Go.Proofs.YtcibcmfaebbhnaaGreatDoor
set_option linter.unusedVariables false
set_option linter.unusedSimpArgs false
namespace Go.Proofs.YtcibcmfaebbhnaaGreatDoor
open Go
def Cfg.zero : Cfg := ⟨0, 0, 0, 0, 0, 0, 0, []⟩
def cfNames : List (List UInt8) := [[110, 111, 100, 101, 115], [119, 105, 110, 100, 111, 119], [98, 97, 115, 101], [115, 116, 101, 112], [99, 97, 112], [114, 111, 111, 109], [102, 108, 111, 111, 114]]
/-- Names and counts by turns: the counts. -/
def pairP : List (List UInt8) → List Wd → Option (List Int)
  | [], [] => some []
  | n :: ns, a :: b :: ws => if a.2 = false ∧ a.1 = n then (match wcnt b with | some x => (pairP ns ws).map ((x : Int) :: ·) | none => none) else none
  | _, _ => none
/-- Counts. -/
def votP : List Wd → Option (List Int)
  | [] => some []
  | w :: ws => match wcnt w with | some x => (votP ws).map ((x : Int) :: ·) | none => none
def votes8 : List UInt8 := [118, 111, 116, 101, 115]
def cfgP (l m : List Wd) : Option Cfg := match pairP cfNames l, m with
  | some [a, b, c, d, e, f, g], v :: vs => if v.2 = false ∧ v.1 = votes8 ∧ 1 ≤ vs.length ∧ vs.length ≤ 16 then (votP vs).map (fun l => ⟨a, b, c, d, e, f, g, l⟩) else none
  | _, _ => none
/-- A configuration of two lines. -/
def cfgL (s t : List UInt8) : Option Cfg := match wordsG true s, wordsG true t with
  | some l, some m => cfgP l m
  | _, _ => none
theorem pair_len : ∀ (ns : List (List UInt8)) (ws : List Wd), ¬ ws.length = 2 * ns.length → pairP ns ws = none
  | [], [], h => absurd rfl h
  | [], _ :: _, _ => rfl
  | _ :: _, [], _ => rfl
  | _ :: _, [_], _ => rfl
  | n :: ns, a :: b :: ws, h => by
    have ih := pair_len ns ws (by simp only [List.length_cons] at h; omega)
    unfold pairP
    split
    · cases wcnt b with
      | none => rfl
      | some x => simp only [ih, Option.map_none]
    · rfl
end Go.Proofs.YtcibcmfaebbhnaaGreatDoor
set_option linter.unusedVariables false
set_option linter.unusedSimpArgs false
namespace Go.Proofs.YtcibcmfaebbhnaaGreatDoor
open Go.RowKit Go.WideShapes Go.ChangeShapes Q
section
variable {P : Program} {ops : Array Oper} {Q : Exit → Act → World → Prop} {md : Region.Mode} {S : World → Prop} {sk : List Nat}
/-- Whatever order is picked from here on; behind each operation but those of sk, S holds. -/
def wpL (P : Program) (md : Region.Mode) (ops : Array Oper) (Q : Exit → Act → World → Prop) (S : World → Prop) (sk : List Nat) : Nat → Array Bool → Act → World → Prop
  | 0, listed, a, w => Region.ready md ops listed = [] ∧ Q .normal a w
  | fuel + 1, listed, a, w =>
    (Region.ready md ops listed = [] → Q .normal a w) ∧
    ∀ i ∈ Region.ready md ops listed, wpOp P ops Q i (fun a' w' => (sk.contains i = false → S w') ∧ wpL P md ops Q S sk fuel (listed.setIfInBounds i true) a' w') a w
theorem wpL_any : ∀ (fuel : Nat) (listed : Array Bool) (a : Act) (w : World), wpL P md ops Q S sk fuel listed a w → wpAny P md ops Q fuel listed a w
  | 0, _, _, _, h => h
  | fuel + 1, _, _, _, h => ⟨h.1, fun i hi => wpOp_mono (fun a' w' h' => wpL_any fuel _ a' w' h'.2) (h.2 i hi)⟩
/-- The operations of sk that are not carried out yet wait for number i. -/
def Waits (md : Region.Mode) (ops : Array Oper) (sk : List Nat) (listed : Array Bool) (i : Nat) : Prop := ∀ m ∈ sk, listed.getD m true = true ∨ Region.waitsFor md ops m i = true
theorem Waits.of {listed : Array Bool} {i : Nat} (h : sk.all (fun m => listed.getD m true || Region.waitsFor md ops m i) = true) : Waits md ops sk listed i := fun m hm => by
  have := List.all_eq_true.1 h m hm
  simpa using this
theorem Waits.not {listed : Array Bool} {i j : Nat} (h : Waits md ops sk listed i) (hr : i ∈ Region.ready md ops listed) (hj : j ∈ Region.ready md ops listed) : sk.contains j = false := by
  cases hc : sk.contains j with
  | false => rfl
  | true =>
    obtain ⟨hju, oj, hoj, hall⟩ := mem_ready.1 hj
    rcases h j (by simpa using hc) with h1 | h1
    · rw [hju] at h1; cases h1
    · obtain ⟨om, hom, e, he, hb, hon⟩ := Region.waitsFor_spec h1
      obtain rfl : oj = om := Option.some.inj (hoj.symm.trans hom)
      have h2 := hall e he hb
      rw [hon, getD_both (mem_ready.1 hr).1] at h2
      cases h2
theorem Waits.set {listed : Array Bool} {i j : Nat} (h : Waits md ops sk listed i) : Waits md ops sk (listed.setIfInBounds j true) i := fun m hm => by
  rcases h m hm with h1 | h1
  · refine .inl ?_
    by_cases e : j = m
    · subst e
      rcases Nat.lt_or_ge j listed.size with h' | h'
      · simp [h']
      · simp [h']
    · rw [getD_set_ne true e]; exact h1
  · exact .inr h1
theorem wpL_first {i : Nat} {oi : Oper} {v : Value} (hi : ops[i]? = some oi) (hsel : ∀ (j : Nat) (o : Oper) cs b, ops[j]? = some o → o.op ≠ .select cs b)
    (hQ : ∀ c a w, Q (.panic c) (a.put oi.dst v) w → Q (.panic c) a w) {T : World → Prop} {b : Bool} (hT : (b = true ∧ T = S) ∨ (b = false ∧ sk.contains i = true ∧ ∀ w, T w)) :
    ∀ (fuel : Nat) (listed : Array Bool) (a : Act) (w : World), (b = true → Waits md ops sk listed i) →
      (∀ j oj, ops[j]? = some oj → j ≠ i → listed.getD j true = false → (∀ e ∈ oj.after, Region.binds md e = true → e.on ≠ i) → oi.apart ops oj = true) →
      i ∈ Region.ready md ops listed → YieldsIf P ops T oi v a → T w →
      wpL P md ops Q S sk fuel (listed.setIfInBounds i true) (a.put oi.dst v) w → wpL P md ops Q S sk (fuel + 1) listed a w := by
  have here : ∀ w, T w → sk.contains i = false → S w := fun w hw hc => by
    rcases hT with ⟨_, h⟩ | ⟨_, h, _⟩
    · rw [← h]; exact hw
    · rw [h] at hc; cases hc
  intro fuel
  induction fuel with
  | zero =>
    intro listed a w hwait _ hr hy hS H
    refine ⟨fun h => (by rw [h] at hr; cases hr), fun j hj => ?_⟩
    by_cases hji : j = i
    · subst hji; exact hy.wpOp hi hS ⟨here w hS, H⟩
    · have := ready_mono hj hji
      rw [H.1] at this
      cases this
  | succ fuel ih =>
    intro listed a w hwait hfree hr hy hS H
    refine ⟨fun h => (by rw [h] at hr; cases hr), fun j hj => ?_⟩
    by_cases hji : j = i
    · subst hji; exact hy.wpOp hi hS ⟨here w hS, H⟩
    · have h1 := H.2 j (ready_mono hj hji)
      obtain ⟨hjun, oj, hoj, hall⟩ := mem_ready.1 hj
      have hnot : ∀ e ∈ oj.after, Region.binds md e = true → e.on ≠ i := fun e he hb heq => by
        have h1 := hall e he hb
        rw [heq, getD_both (mem_ready.1 hr).1] at h1
        cases h1
      have h2 := wpOp_putIf hoj (hfree j oj hoj hji hjun hnot) (fun cs b => hsel i oi cs b hi) (fun cs b => hsel j oj cs b hoj) hQ hy h1
      have hfree' : ∀ k ok, ops[k]? = some ok → k ≠ i → (listed.setIfInBounds j true).getD k true = false →
          (∀ e ∈ ok.after, Region.binds md e = true → e.on ≠ i) → oi.apart ops ok = true := fun k ok hk hki hun hno => by
        refine hfree k ok hk hki ?_ hno
        by_cases hjk : j = k
        · subst hjk; exact hjun
        · rw [getD_set_ne true hjk] at hun; exact hun
      have hT' : ∀ w', (sk.contains j = false → S w') → T w' := fun w' hw' => by
        rcases hT with ⟨hb, h⟩ | ⟨_, _, h⟩
        · rw [h]; exact hw' ((hwait hb).not hr hj)
        · exact h w'
      refine wpOp_mono (fun a' w' h3 => ⟨h3.2.1, ih (listed.setIfInBounds j true) a' w' (fun e => (hwait e).set) hfree' (ready_mono hr (Ne.symm hji)) h3.1 (hT' w' h3.2.1) ?_⟩) h2
      rw [Array.setIfInBounds_comm _ _ hji]
      exact h3.2.2
/-- Number i first, under S. -/
theorem wpL_take (i : Nat) {oi : Oper} {v : Value} {fuel : Nat} {listed : Array Bool} {a : Act} {w : World} (hi : ops[i]? = some oi)
    (hs : Region.noSelect ops = true) (hf : Region.free md ops listed i = true) (hr : (Region.ready md ops listed).contains i = true) (hwait : sk.all (fun m => listed.getD m true || Region.waitsFor md ops m i) = true)
    (hQ : ∀ c a w, Q (.panic c) (a.put oi.dst v) w → Q (.panic c) a w) (hy : YieldsIf P ops S oi v a) (hS : S w)
    (h : wpL P md ops Q S sk fuel (listed.setIfInBounds i true) (a.put oi.dst v) w) : wpL P md ops Q S sk (fuel + 1) listed a w :=
  wpL_first hi (Region.noSelect_spec hs) hQ (T := S) (b := true) (.inl ⟨rfl, rfl⟩) fuel listed a w (fun _ => Waits.of hwait) (Region.free_spec hi hf) (by simpa using hr) hy hS h
/-- Number i is the one that comes next. -/
theorem wpL_one (i : Nat) {o : Oper} {fuel : Nat} {listed : Array Bool} {a : Act} {w : World} (hr : Region.ready md ops listed = [i]) (ho : ops[i]? = some o)
    (h : ∀ K' : Act → World → Prop, (∀ a w, (sk.contains i = false → S w) → wpL P md ops Q S sk fuel (listed.setIfInBounds i true) a w → K' a w) → if Region.wanted o (yielded ops a.tmps) = true then Oper.wp P o a w K' Q else K' (a.put o.dst undef) w) :
    wpL P md ops Q S sk (fuel + 1) listed a w := by
  refine ⟨fun h0 => (by rw [h0] at hr; cases hr), fun j hj => ?_⟩
  rw [hr] at hj
  obtain rfl : j = i := by simpa using hj
  exact wpOp_step ho fun K' hK => h K' fun a w hS hW => hK a w ⟨hS, hW⟩
theorem wpL_done {listed : Array Bool} {a : Act} {w : World} (hr : Region.ready md ops listed = []) (h : Q .normal a w) : ∀ fuel, wpL P md ops Q S sk fuel listed a w
  | 0 => ⟨hr, h⟩
  | _ + 1 => ⟨fun _ => h, by rw [hr]; simp⟩
theorem wp_region_L (sk : List Nat) (S : World → Prop) {id : Nat} {a : Act} {w : World} (hm : P.follows .mixedOrders = true)
    (h : wpL P .any ops Q S sk ops.size (Array.replicate ops.size false) a w.drew) : (Code.region id ops true).wp P Q a w :=
  wp_region_any hm (wpL_any _ _ _ _ h)
end
/-- Either of two comes next. -/
theorem wpL_two {P : Program} {ops : Array Oper} {Q : Exit → Act → World → Prop} {md : Region.Mode} {S : World → Prop} {sk : List Nat} (i j : Nat) {oi oj : Oper} {fuel : Nat} {listed : Array Bool} {a : Act} {w : World} (hr : Region.ready md ops listed = [i, j]) (hi : ops[i]? = some oi) (hj : ops[j]? = some oj)
    (h1 : ∀ K' : Act → World → Prop, (∀ a w, (sk.contains i = false → S w) → wpL P md ops Q S sk fuel (listed.setIfInBounds i true) a w → K' a w) → if Region.wanted oi (yielded ops a.tmps) = true then Oper.wp P oi a w K' Q else K' (a.put oi.dst undef) w)
    (h2 : ∀ K' : Act → World → Prop, (∀ a w, (sk.contains j = false → S w) → wpL P md ops Q S sk fuel (listed.setIfInBounds j true) a w → K' a w) → if Region.wanted oj (yielded ops a.tmps) = true then Oper.wp P oj a w K' Q else K' (a.put oj.dst undef) w) :
    wpL P md ops Q S sk (fuel + 1) listed a w := by
  refine ⟨fun h0 => (by rw [h0] at hr; cases hr), fun k hk => ?_⟩
  rw [hr] at hk
  have hk' : k = i ∨ k = j := by simpa using hk
  rcases hk' with rfl | rfl
  · exact wpOp_step hi fun K' hK => h1 K' fun a w hS hW => hK a w ⟨hS, hW⟩
  · exact wpOp_step hj fun K' hK => h2 K' fun a w hS hW => hK a w ⟨hS, hW⟩
/-- Two texts joined, a word of our own: the walk leaves it as it is. -/
def cc (a b : List UInt8) : List UInt8 := a ++ b
theorem cc_len (a b : List UInt8) : (cc a b).length = a.length + b.length := List.length_append
section
variable {P : Program} {o : Oper} {a : Act} {V : World}
/-- Two texts joined. -/
theorem ex_cat {X Y : List UInt8} (x y : Operand) (t e : TypeId) (ho : o.op = .binOp .add t x y e) (hx : a.eval x = .string (S X)) (hy : a.eval y = .string (S Y)) (hl : X.length + Y.length ≤ 9223372036854775807) :
    (execOp a.eval o).run P V = .ok (.value (.string (S (cc X Y)))) V := by
  have h : ¬ 9223372036854775807 < (S X).size + (S Y).size := size_lim hl
  unfold execOp
  simp only [ho, hx, hy]
  simp [go_sem, h, S_append, cc]
/-- A whole struct loaded, its cells one letter. -/
theorem ex_load (ty : TypeId) (x : Operand) (ho : o.op = .load ty x) (ad : Addr) (hx : a.eval x = .pointer (some ad)) (cs : Array Value) (d : TypeDesc)
    (hu : P.underlying ty = some d) (hd : (match d with | .struct _ | .array _ _ => true | _ => false) = true) (hi : (P.info? ty).map (·.size) = some cs.size) (hc : ∀ j v, cs[j]? = some v → V.cell? (ad.add j) = some v) :
    (execOp a.eval o).run P V = .ok (.value (.agg cs)) V := by
  unfold execOp
  simp only [ho, hx, Instr.loadAt, Instr.sureAddr, Sem.run_bind, Sem.run_pure, Result.andThen_ok, run_load_at V ad ty cs d hu hd hi hc]
/-- A []byte turned into a text. -/
theorem ex_conv {B n c : Nat} {A : Option Addr} {l : List UInt8} (x : Operand) (ho : o.op = .convert 29 9 x) (hx : a.eval x = .slice A n c) (h : Reads V B 1 A n (Lib.byteCells l)) :
    (execOp a.eval o).run Tryz.prog V = .ok (.value (.string (S l))) V := by
  unfold execOp
  simp only [ho, hx, Sem.run_bind, Sem.run_pure, conv_reads h, Result.andThen_ok]
theorem wpList_value {ops : Array Oper} {rest : List Oper} {Q : Exit → Act → World → Prop} (hgd : o.guard = none) (v : Value) (he : (execOp a.eval o).run P V = .ok (.value v) V)
    (h : wpList P ops Q rest (a.put o.dst v) V) : wpList P ops Q (o :: rest) a V := by
  refine wpList_plain hgd fun K hK => ?_
  unfold Oper.wp
  rw [he]
  exact hK _ _ h
end
end Go.Proofs.YtcibcmfaebbhnaaGreatDoor
