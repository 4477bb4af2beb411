/-
  The program's forms: a map that the call makes.
-/
import Derived.Maps.OwnSet
import Derived.Carry
import Derived.Test.YtcibcmfaebbhnaaDoorZCfp
import Derived.Test.YtcibcmfaebbhnaaDoorZEpf
import Derived.Test.YtcibcmfaebbhnaaDoorZWords
set_option linter.unusedVariables false
set_option linter.unusedSimpArgs false
namespace Go.Proofs.YtcibcmfaebbhnaaDoor
open Go.RowKit Go.WideShapes Go.ChangeShapes Q
/-- How a form reads: its kind and its letters. -/
def formElem {H : Type} (v : Value) : Option (DataW H × List MemPlace) := match v with
  | .agg cs => match cs.toList with
    | [.int .i64 k, .string s] => some (.agg [.lit (.int .i64 k), .lit (.string s.data.toList)], [])
    | _ => none
  | _ => none
def formsD {H : Type} : DataW H := formRows.foldl (fun D r => D.put (.string r.1) (.agg [.lit (.int .i64 r.2.1), .lit (.string r.2.2)])) (.map [])
theorem key_str (s : ByteArray) (h : s.size ≤ maxLen) : keyOf Tryd.prog 9 (.string s) = some (.string s.data.toList) := by
  simp [keyOf, Tryd.underlying9, mapKey, h]
/-- An entry of a map literal: as 'm[k] = v'. -/
theorem wpList_insert_own {H : Type} {P : Program} (w : World) {ops : Array Oper} {rest : List Oper} {o : Oper} {a : Act} {Q : Exit → Act → World → Prop}
    (hg : o.guard = none) (m x v : Operand) (t : TypeId) (hop : o.op = Op.insert t m x v)
    (k e : TypeId) (K : Maps.Keyed P k) (ht : P.underlying t = some (.map k e)) (R : Value → Option (DataW H × List MemPlace)) (b n : Nat) (D : DataW H)
    (hm : a.eval m = .map (some b)) (hown : w.ownsMap P k R b n D) (hn : n < maxLen) (key val : Value) (kl : Lit) (hx : a.eval x = key) (hv : a.eval v = val) (hkey : keyOf P k key = some kl)
    (d : DataW H) (ps : List MemPlace) (hval : R val = some (d, ps))
    (hK : ∀ w', w'.ownsMap P k R b (n + 1) (D.put kl d) → w.grownBy w' (some b) → wpList P ops Q rest (a.put o.dst undef) w') :
    wpList P ops Q (o :: rest) a w := by
  refine wpList_plain hg fun K' hK' => ?_
  obtain ⟨w', hrun, r1, r2⟩ := hown.update K ht hn hkey hval
  unfold Oper.wp
  simp [execOp, hop, hm, hx, hv, hrun, Result.andThen]
  exact hK' _ _ (hK w' r1 r2)
set_option maxRecDepth 100000 in
set_option maxHeartbeats 4000000 in
theorem forms_any {H : Type} (w : World) : Calls Tryd.prog 28 #[] w fun e w' => e = .returned (.map (some w.heap.size)) ∧ w'.ownsMap Tryd.prog 9 (formElem (H := H)) w.heap.size 19 formsD ∧ Below w.heap.size w w' := by
  have hmm := @run_makeMap Tryd.prog
  have HO := hide (World.ownsMap_made (H := H) w Tryd.prog 9 formElem)
  have HB := hide ((Below.refl w.heap.size w).alloc (Nat.le_refl _) (.map #[] 0))
  go_enter Tryd.func28, Tryd.ntmps28
  go_upto_region 1 with fail
  refine wp_region_lit ?_
  refine wpList_step (fun K hK => ?_)
  rw [if_pos (by rfl)]
  go_simp
  refine hK _ _ ?_
  clear hK K
  try simp only [Act.put, aSt, aSz, aSs]
  refine wpList_step (fun K hK => ?_)
  rw [if_pos (by rfl)]
  go_simp
  refine hK _ _ ?_
  clear hK K
  try simp only [Act.put, aSt, aSz, aSs]
  refine wpList_insert_own _ rfl _ _ _ 76 rfl 9 74 (Maps.string_keyed Tryd.underlying9) Tryd.underlying76 _ _ _ _ rfl HO.out (by unfold maxLen; omega) _ _ _ rfl rfl (key_str _ (by decide)) _ [] rfl ?_
  intro w1 hown1 hg1
  replace HO := hide hown1
  replace HB := hide (HB.out.grown hg1 HB.out.size (fun q hq => by cases hq; exact Nat.le_refl _))
  clear hown1 hg1
  try simp only [Act.put, aSt, aSz, aSs]
  refine wpList_step (fun K hK => ?_)
  rw [if_pos (by rfl)]
  go_simp
  refine hK _ _ ?_
  clear hK K
  try simp only [Act.put, aSt, aSz, aSs]
  refine wpList_insert_own _ rfl _ _ _ 76 rfl 9 74 (Maps.string_keyed Tryd.underlying9) Tryd.underlying76 _ _ _ _ rfl HO.out (by unfold maxLen; omega) _ _ _ rfl rfl (key_str _ (by decide)) _ [] rfl ?_
  intro w1 hown1 hg1
  replace HO := hide hown1
  replace HB := hide (HB.out.grown hg1 HB.out.size (fun q hq => by cases hq; exact Nat.le_refl _))
  clear hown1 hg1
  try simp only [Act.put, aSt, aSz, aSs]
  refine wpList_step (fun K hK => ?_)
  rw [if_pos (by rfl)]
  go_simp
  refine hK _ _ ?_
  clear hK K
  try simp only [Act.put, aSt, aSz, aSs]
  refine wpList_insert_own _ rfl _ _ _ 76 rfl 9 74 (Maps.string_keyed Tryd.underlying9) Tryd.underlying76 _ _ _ _ rfl HO.out (by unfold maxLen; omega) _ _ _ rfl rfl (key_str _ (by decide)) _ [] rfl ?_
  intro w1 hown1 hg1
  replace HO := hide hown1
  replace HB := hide (HB.out.grown hg1 HB.out.size (fun q hq => by cases hq; exact Nat.le_refl _))
  clear hown1 hg1
  try simp only [Act.put, aSt, aSz, aSs]
  refine wpList_step (fun K hK => ?_)
  rw [if_pos (by rfl)]
  go_simp
  refine hK _ _ ?_
  clear hK K
  try simp only [Act.put, aSt, aSz, aSs]
  refine wpList_insert_own _ rfl _ _ _ 76 rfl 9 74 (Maps.string_keyed Tryd.underlying9) Tryd.underlying76 _ _ _ _ rfl HO.out (by unfold maxLen; omega) _ _ _ rfl rfl (key_str _ (by decide)) _ [] rfl ?_
  intro w1 hown1 hg1
  replace HO := hide hown1
  replace HB := hide (HB.out.grown hg1 HB.out.size (fun q hq => by cases hq; exact Nat.le_refl _))
  clear hown1 hg1
  try simp only [Act.put, aSt, aSz, aSs]
  refine wpList_step (fun K hK => ?_)
  rw [if_pos (by rfl)]
  go_simp
  refine hK _ _ ?_
  clear hK K
  try simp only [Act.put, aSt, aSz, aSs]
  refine wpList_insert_own _ rfl _ _ _ 76 rfl 9 74 (Maps.string_keyed Tryd.underlying9) Tryd.underlying76 _ _ _ _ rfl HO.out (by unfold maxLen; omega) _ _ _ rfl rfl (key_str _ (by decide)) _ [] rfl ?_
  intro w1 hown1 hg1
  replace HO := hide hown1
  replace HB := hide (HB.out.grown hg1 HB.out.size (fun q hq => by cases hq; exact Nat.le_refl _))
  clear hown1 hg1
  try simp only [Act.put, aSt, aSz, aSs]
  refine wpList_step (fun K hK => ?_)
  rw [if_pos (by rfl)]
  go_simp
  refine hK _ _ ?_
  clear hK K
  try simp only [Act.put, aSt, aSz, aSs]
  refine wpList_insert_own _ rfl _ _ _ 76 rfl 9 74 (Maps.string_keyed Tryd.underlying9) Tryd.underlying76 _ _ _ _ rfl HO.out (by unfold maxLen; omega) _ _ _ rfl rfl (key_str _ (by decide)) _ [] rfl ?_
  intro w1 hown1 hg1
  replace HO := hide hown1
  replace HB := hide (HB.out.grown hg1 HB.out.size (fun q hq => by cases hq; exact Nat.le_refl _))
  clear hown1 hg1
  try simp only [Act.put, aSt, aSz, aSs]
  refine wpList_step (fun K hK => ?_)
  rw [if_pos (by rfl)]
  go_simp
  refine hK _ _ ?_
  clear hK K
  try simp only [Act.put, aSt, aSz, aSs]
  refine wpList_insert_own _ rfl _ _ _ 76 rfl 9 74 (Maps.string_keyed Tryd.underlying9) Tryd.underlying76 _ _ _ _ rfl HO.out (by unfold maxLen; omega) _ _ _ rfl rfl (key_str _ (by decide)) _ [] rfl ?_
  intro w1 hown1 hg1
  replace HO := hide hown1
  replace HB := hide (HB.out.grown hg1 HB.out.size (fun q hq => by cases hq; exact Nat.le_refl _))
  clear hown1 hg1
  try simp only [Act.put, aSt, aSz, aSs]
  refine wpList_step (fun K hK => ?_)
  rw [if_pos (by rfl)]
  go_simp
  refine hK _ _ ?_
  clear hK K
  try simp only [Act.put, aSt, aSz, aSs]
  refine wpList_insert_own _ rfl _ _ _ 76 rfl 9 74 (Maps.string_keyed Tryd.underlying9) Tryd.underlying76 _ _ _ _ rfl HO.out (by unfold maxLen; omega) _ _ _ rfl rfl (key_str _ (by decide)) _ [] rfl ?_
  intro w1 hown1 hg1
  replace HO := hide hown1
  replace HB := hide (HB.out.grown hg1 HB.out.size (fun q hq => by cases hq; exact Nat.le_refl _))
  clear hown1 hg1
  try simp only [Act.put, aSt, aSz, aSs]
  refine wpList_step (fun K hK => ?_)
  rw [if_pos (by rfl)]
  go_simp
  refine hK _ _ ?_
  clear hK K
  try simp only [Act.put, aSt, aSz, aSs]
  refine wpList_insert_own _ rfl _ _ _ 76 rfl 9 74 (Maps.string_keyed Tryd.underlying9) Tryd.underlying76 _ _ _ _ rfl HO.out (by unfold maxLen; omega) _ _ _ rfl rfl (key_str _ (by decide)) _ [] rfl ?_
  intro w1 hown1 hg1
  replace HO := hide hown1
  replace HB := hide (HB.out.grown hg1 HB.out.size (fun q hq => by cases hq; exact Nat.le_refl _))
  clear hown1 hg1
  try simp only [Act.put, aSt, aSz, aSs]
  refine wpList_step (fun K hK => ?_)
  rw [if_pos (by rfl)]
  go_simp
  refine hK _ _ ?_
  clear hK K
  try simp only [Act.put, aSt, aSz, aSs]
  refine wpList_insert_own _ rfl _ _ _ 76 rfl 9 74 (Maps.string_keyed Tryd.underlying9) Tryd.underlying76 _ _ _ _ rfl HO.out (by unfold maxLen; omega) _ _ _ rfl rfl (key_str _ (by decide)) _ [] rfl ?_
  intro w1 hown1 hg1
  replace HO := hide hown1
  replace HB := hide (HB.out.grown hg1 HB.out.size (fun q hq => by cases hq; exact Nat.le_refl _))
  clear hown1 hg1
  try simp only [Act.put, aSt, aSz, aSs]
  refine wpList_step (fun K hK => ?_)
  rw [if_pos (by rfl)]
  go_simp
  refine hK _ _ ?_
  clear hK K
  try simp only [Act.put, aSt, aSz, aSs]
  refine wpList_insert_own _ rfl _ _ _ 76 rfl 9 74 (Maps.string_keyed Tryd.underlying9) Tryd.underlying76 _ _ _ _ rfl HO.out (by unfold maxLen; omega) _ _ _ rfl rfl (key_str _ (by decide)) _ [] rfl ?_
  intro w1 hown1 hg1
  replace HO := hide hown1
  replace HB := hide (HB.out.grown hg1 HB.out.size (fun q hq => by cases hq; exact Nat.le_refl _))
  clear hown1 hg1
  try simp only [Act.put, aSt, aSz, aSs]
  refine wpList_step (fun K hK => ?_)
  rw [if_pos (by rfl)]
  go_simp
  refine hK _ _ ?_
  clear hK K
  try simp only [Act.put, aSt, aSz, aSs]
  refine wpList_insert_own _ rfl _ _ _ 76 rfl 9 74 (Maps.string_keyed Tryd.underlying9) Tryd.underlying76 _ _ _ _ rfl HO.out (by unfold maxLen; omega) _ _ _ rfl rfl (key_str _ (by decide)) _ [] rfl ?_
  intro w1 hown1 hg1
  replace HO := hide hown1
  replace HB := hide (HB.out.grown hg1 HB.out.size (fun q hq => by cases hq; exact Nat.le_refl _))
  clear hown1 hg1
  try simp only [Act.put, aSt, aSz, aSs]
  refine wpList_step (fun K hK => ?_)
  rw [if_pos (by rfl)]
  go_simp
  refine hK _ _ ?_
  clear hK K
  try simp only [Act.put, aSt, aSz, aSs]
  refine wpList_insert_own _ rfl _ _ _ 76 rfl 9 74 (Maps.string_keyed Tryd.underlying9) Tryd.underlying76 _ _ _ _ rfl HO.out (by unfold maxLen; omega) _ _ _ rfl rfl (key_str _ (by decide)) _ [] rfl ?_
  intro w1 hown1 hg1
  replace HO := hide hown1
  replace HB := hide (HB.out.grown hg1 HB.out.size (fun q hq => by cases hq; exact Nat.le_refl _))
  clear hown1 hg1
  try simp only [Act.put, aSt, aSz, aSs]
  refine wpList_step (fun K hK => ?_)
  rw [if_pos (by rfl)]
  go_simp
  refine hK _ _ ?_
  clear hK K
  try simp only [Act.put, aSt, aSz, aSs]
  refine wpList_insert_own _ rfl _ _ _ 76 rfl 9 74 (Maps.string_keyed Tryd.underlying9) Tryd.underlying76 _ _ _ _ rfl HO.out (by unfold maxLen; omega) _ _ _ rfl rfl (key_str _ (by decide)) _ [] rfl ?_
  intro w1 hown1 hg1
  replace HO := hide hown1
  replace HB := hide (HB.out.grown hg1 HB.out.size (fun q hq => by cases hq; exact Nat.le_refl _))
  clear hown1 hg1
  try simp only [Act.put, aSt, aSz, aSs]
  refine wpList_step (fun K hK => ?_)
  rw [if_pos (by rfl)]
  go_simp
  refine hK _ _ ?_
  clear hK K
  try simp only [Act.put, aSt, aSz, aSs]
  refine wpList_insert_own _ rfl _ _ _ 76 rfl 9 74 (Maps.string_keyed Tryd.underlying9) Tryd.underlying76 _ _ _ _ rfl HO.out (by unfold maxLen; omega) _ _ _ rfl rfl (key_str _ (by decide)) _ [] rfl ?_
  intro w1 hown1 hg1
  replace HO := hide hown1
  replace HB := hide (HB.out.grown hg1 HB.out.size (fun q hq => by cases hq; exact Nat.le_refl _))
  clear hown1 hg1
  try simp only [Act.put, aSt, aSz, aSs]
  refine wpList_step (fun K hK => ?_)
  rw [if_pos (by rfl)]
  go_simp
  refine hK _ _ ?_
  clear hK K
  try simp only [Act.put, aSt, aSz, aSs]
  refine wpList_insert_own _ rfl _ _ _ 76 rfl 9 74 (Maps.string_keyed Tryd.underlying9) Tryd.underlying76 _ _ _ _ rfl HO.out (by unfold maxLen; omega) _ _ _ rfl rfl (key_str _ (by decide)) _ [] rfl ?_
  intro w1 hown1 hg1
  replace HO := hide hown1
  replace HB := hide (HB.out.grown hg1 HB.out.size (fun q hq => by cases hq; exact Nat.le_refl _))
  clear hown1 hg1
  try simp only [Act.put, aSt, aSz, aSs]
  refine wpList_step (fun K hK => ?_)
  rw [if_pos (by rfl)]
  go_simp
  refine hK _ _ ?_
  clear hK K
  try simp only [Act.put, aSt, aSz, aSs]
  refine wpList_insert_own _ rfl _ _ _ 76 rfl 9 74 (Maps.string_keyed Tryd.underlying9) Tryd.underlying76 _ _ _ _ rfl HO.out (by unfold maxLen; omega) _ _ _ rfl rfl (key_str _ (by decide)) _ [] rfl ?_
  intro w1 hown1 hg1
  replace HO := hide hown1
  replace HB := hide (HB.out.grown hg1 HB.out.size (fun q hq => by cases hq; exact Nat.le_refl _))
  clear hown1 hg1
  try simp only [Act.put, aSt, aSz, aSs]
  refine wpList_step (fun K hK => ?_)
  rw [if_pos (by rfl)]
  go_simp
  refine hK _ _ ?_
  clear hK K
  try simp only [Act.put, aSt, aSz, aSs]
  refine wpList_insert_own _ rfl _ _ _ 76 rfl 9 74 (Maps.string_keyed Tryd.underlying9) Tryd.underlying76 _ _ _ _ rfl HO.out (by unfold maxLen; omega) _ _ _ rfl rfl (key_str _ (by decide)) _ [] rfl ?_
  intro w1 hown1 hg1
  replace HO := hide hown1
  replace HB := hide (HB.out.grown hg1 HB.out.size (fun q hq => by cases hq; exact Nat.le_refl _))
  clear hown1 hg1
  try simp only [Act.put, aSt, aSz, aSs]
  refine wpList_step (fun K hK => ?_)
  rw [if_pos (by rfl)]
  go_simp
  refine hK _ _ ?_
  clear hK K
  try simp only [Act.put, aSt, aSz, aSs]
  refine wpList_insert_own _ rfl _ _ _ 76 rfl 9 74 (Maps.string_keyed Tryd.underlying9) Tryd.underlying76 _ _ _ _ rfl HO.out (by unfold maxLen; omega) _ _ _ rfl rfl (key_str _ (by decide)) _ [] rfl ?_
  intro w1 hown1 hg1
  replace HO := hide hown1
  replace HB := hide (HB.out.grown hg1 HB.out.size (fun q hq => by cases hq; exact Nat.le_refl _))
  clear hown1 hg1
  try simp only [Act.put, aSt, aSz, aSs]
  go_wp2_with fail
  go_ret
  exact ⟨rfl, HO.out, HB.out⟩
end Go.Proofs.YtcibcmfaebbhnaaDoor
