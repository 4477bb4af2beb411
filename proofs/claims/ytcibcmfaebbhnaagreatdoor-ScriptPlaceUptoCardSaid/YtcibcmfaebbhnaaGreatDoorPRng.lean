/-
  The program's forms: a map that the call makes. What a look-up in the program's forms gives. (Printed by wip/tools/mkfrl.py.) A range over a text, its iterator wherever it lies.
-/
import Derived.Maps.OwnSet
import Derived.Carry
import Derived.Test.YtcibcmfaebbhnaaGreatDoorPHdr
import Derived.Test.YtcibcmfaebbhnaaGreatDoorPEpf
import Derived.Laws.RangeAny
import Derived.Lib.TrimUEq
import Derived.Test.YtcibcmfaebbhnaaGreatDoorPRb
import Derived.Test.YtcibcmfaebbhnaaGreatDoorPWords
set_option linter.unusedSimpArgs false
set_option linter.unusedVariables false
set_option maxRecDepth 100000
set_option maxHeartbeats 4000000

namespace Go.Proofs.YtcibcmfaebbhnaaGreatDoor
open Go.RowKit Go.WideShapes Go.ChangeShapes Q
def formElem {H : Type} (v : Value) : Option (DataW H × List MemPlace):=match v with
 | .agg cs => match cs.toList with
  | [.int .i64 k,.string s] => some (.agg [.lit (.int .i64 k),.lit (.string s.data.toList)],[])
  | _ => none
 | _ => none
def formsD {H : Type} : DataW H:=formRows.foldl (fun D r => D.put (.string r.1) (.agg [.lit (.int .i64 r.2.1),.lit (.string r.2.2)])) (.map [])
theorem key_str (s : ByteArray) (h : s.size ≤ maxLen) : keyOf Tryz.prog 9 (.string s) = some (.string s.data.toList):=by
 simp [keyOf,Tryz.underlying9,mapKey,h]
theorem wpList_insert_own {H : Type} {P : Program} (w : World) {ops : Array Oper} {rest : List Oper} {o : Oper} {a : Act} {Q : Exit → Act → World → Prop}
  (hg : o.guard = none) (m x v : Operand) (t : TypeId) (hop : o.op = Op.insert t m x v)
  (k e : TypeId) (K : Maps.Keyed P k) (ht : P.underlying t = some (.map k e)) (R : Value → Option (DataW H × List MemPlace)) (b n : Nat) (D : DataW H)
  (hm : a.eval m = .map (some b)) (hown : w.ownsMap P k R b n D) (hn : n < maxLen) (key val : Value) (kl : Lit) (hx : a.eval x = key) (hv : a.eval v = val) (hkey : keyOf P k key = some kl)
  (d : DataW H) (ps : List MemPlace) (hval : R val = some (d,ps))
  (hK : ∀ w',w'.ownsMap P k R b (n + 1) (D.put kl d) → w.grownBy w' (some b) → wpList P ops Q rest (a.put o.dst undef) w') :
  wpList P ops Q (o :: rest) a w:=by
 refine wpList_plain hg fun K' hK' => ?_
 obtain ⟨w',hrun,r1,r2⟩:=hown.update K ht hn hkey hval;unfold Oper.wp;simp [execOp,hop,hm,hx,hv,hrun,Result.andThen];exact hK' _ _ (hK w' r1 r2)
theorem forms_any {H : Type} (w : World) : Calls Tryz.prog 59 #[] w fun e w' => e = .returned (.map (some w.heap.size)) ∧ w'.ownsMap Tryz.prog 9 (formElem (H:=H)) w.heap.size 19 formsD ∧ Below w.heap.size w w':=by
 have hmm:=@run_makeMap Tryz.prog;have HO:=hide (World.ownsMap_made (H:=H) w Tryz.prog 9 formElem);have HB:=hide ((Below.refl w.heap.size w).alloc (Nat.le_refl _) (.map #[] 0));go_enter Tryz.func59,Tryz.ntmps59;go_upto_region 1 with fail
 refine wp_region_lit ?_;refine wpList_step (fun K hK => ?_);rw [if_pos (by rfl)];go_simp;refine hK _ _ ?_;clear hK K;try simp only [Act.put,aSt,aSz,aSs]
 refine wpList_step (fun K hK => ?_);rw [if_pos (by rfl)];go_simp;refine hK _ _ ?_;clear hK K;try simp only [Act.put,aSt,aSz,aSs]
 refine wpList_insert_own _ rfl _ _ _ 115 rfl 9 118 (Maps.string_keyed Tryz.underlying9) Tryz.underlying115 _ _ _ _ rfl HO.out (by unfold maxLen;omega) _ _ _ rfl rfl (key_str _ (by decide)) _ [] rfl ?_;intro w1 hown1 hg1
 replace HO:=hide hown1
 replace HB:=hide (HB.out.grown hg1 HB.out.size (fun q hq => by cases hq;exact Nat.le_refl _))
 clear hown1 hg1;try simp only [Act.put,aSt,aSz,aSs]
 refine wpList_step (fun K hK => ?_);rw [if_pos (by rfl)];go_simp;refine hK _ _ ?_;clear hK K;try simp only [Act.put,aSt,aSz,aSs]
 refine wpList_insert_own _ rfl _ _ _ 115 rfl 9 118 (Maps.string_keyed Tryz.underlying9) Tryz.underlying115 _ _ _ _ rfl HO.out (by unfold maxLen;omega) _ _ _ rfl rfl (key_str _ (by decide)) _ [] rfl ?_;intro w1 hown1 hg1
 replace HO:=hide hown1
 replace HB:=hide (HB.out.grown hg1 HB.out.size (fun q hq => by cases hq;exact Nat.le_refl _))
 clear hown1 hg1;try simp only [Act.put,aSt,aSz,aSs]
 refine wpList_step (fun K hK => ?_);rw [if_pos (by rfl)];go_simp;refine hK _ _ ?_;clear hK K;try simp only [Act.put,aSt,aSz,aSs]
 refine wpList_insert_own _ rfl _ _ _ 115 rfl 9 118 (Maps.string_keyed Tryz.underlying9) Tryz.underlying115 _ _ _ _ rfl HO.out (by unfold maxLen;omega) _ _ _ rfl rfl (key_str _ (by decide)) _ [] rfl ?_;intro w1 hown1 hg1
 replace HO:=hide hown1
 replace HB:=hide (HB.out.grown hg1 HB.out.size (fun q hq => by cases hq;exact Nat.le_refl _))
 clear hown1 hg1;try simp only [Act.put,aSt,aSz,aSs]
 refine wpList_step (fun K hK => ?_);rw [if_pos (by rfl)];go_simp;refine hK _ _ ?_;clear hK K;try simp only [Act.put,aSt,aSz,aSs]
 refine wpList_insert_own _ rfl _ _ _ 115 rfl 9 118 (Maps.string_keyed Tryz.underlying9) Tryz.underlying115 _ _ _ _ rfl HO.out (by unfold maxLen;omega) _ _ _ rfl rfl (key_str _ (by decide)) _ [] rfl ?_;intro w1 hown1 hg1
 replace HO:=hide hown1
 replace HB:=hide (HB.out.grown hg1 HB.out.size (fun q hq => by cases hq;exact Nat.le_refl _))
 clear hown1 hg1;try simp only [Act.put,aSt,aSz,aSs]
 refine wpList_step (fun K hK => ?_);rw [if_pos (by rfl)];go_simp;refine hK _ _ ?_;clear hK K;try simp only [Act.put,aSt,aSz,aSs]
 refine wpList_insert_own _ rfl _ _ _ 115 rfl 9 118 (Maps.string_keyed Tryz.underlying9) Tryz.underlying115 _ _ _ _ rfl HO.out (by unfold maxLen;omega) _ _ _ rfl rfl (key_str _ (by decide)) _ [] rfl ?_;intro w1 hown1 hg1
 replace HO:=hide hown1
 replace HB:=hide (HB.out.grown hg1 HB.out.size (fun q hq => by cases hq;exact Nat.le_refl _))
 clear hown1 hg1;try simp only [Act.put,aSt,aSz,aSs]
 refine wpList_step (fun K hK => ?_);rw [if_pos (by rfl)];go_simp;refine hK _ _ ?_;clear hK K;try simp only [Act.put,aSt,aSz,aSs]
 refine wpList_insert_own _ rfl _ _ _ 115 rfl 9 118 (Maps.string_keyed Tryz.underlying9) Tryz.underlying115 _ _ _ _ rfl HO.out (by unfold maxLen;omega) _ _ _ rfl rfl (key_str _ (by decide)) _ [] rfl ?_;intro w1 hown1 hg1
 replace HO:=hide hown1
 replace HB:=hide (HB.out.grown hg1 HB.out.size (fun q hq => by cases hq;exact Nat.le_refl _))
 clear hown1 hg1;try simp only [Act.put,aSt,aSz,aSs]
 refine wpList_step (fun K hK => ?_);rw [if_pos (by rfl)];go_simp;refine hK _ _ ?_;clear hK K;try simp only [Act.put,aSt,aSz,aSs]
 refine wpList_insert_own _ rfl _ _ _ 115 rfl 9 118 (Maps.string_keyed Tryz.underlying9) Tryz.underlying115 _ _ _ _ rfl HO.out (by unfold maxLen;omega) _ _ _ rfl rfl (key_str _ (by decide)) _ [] rfl ?_;intro w1 hown1 hg1
 replace HO:=hide hown1
 replace HB:=hide (HB.out.grown hg1 HB.out.size (fun q hq => by cases hq;exact Nat.le_refl _))
 clear hown1 hg1;try simp only [Act.put,aSt,aSz,aSs]
 refine wpList_step (fun K hK => ?_);rw [if_pos (by rfl)];go_simp;refine hK _ _ ?_;clear hK K;try simp only [Act.put,aSt,aSz,aSs]
 refine wpList_insert_own _ rfl _ _ _ 115 rfl 9 118 (Maps.string_keyed Tryz.underlying9) Tryz.underlying115 _ _ _ _ rfl HO.out (by unfold maxLen;omega) _ _ _ rfl rfl (key_str _ (by decide)) _ [] rfl ?_;intro w1 hown1 hg1
 replace HO:=hide hown1
 replace HB:=hide (HB.out.grown hg1 HB.out.size (fun q hq => by cases hq;exact Nat.le_refl _))
 clear hown1 hg1;try simp only [Act.put,aSt,aSz,aSs]
 refine wpList_step (fun K hK => ?_);rw [if_pos (by rfl)];go_simp;refine hK _ _ ?_;clear hK K;try simp only [Act.put,aSt,aSz,aSs]
 refine wpList_insert_own _ rfl _ _ _ 115 rfl 9 118 (Maps.string_keyed Tryz.underlying9) Tryz.underlying115 _ _ _ _ rfl HO.out (by unfold maxLen;omega) _ _ _ rfl rfl (key_str _ (by decide)) _ [] rfl ?_;intro w1 hown1 hg1
 replace HO:=hide hown1
 replace HB:=hide (HB.out.grown hg1 HB.out.size (fun q hq => by cases hq;exact Nat.le_refl _))
 clear hown1 hg1;try simp only [Act.put,aSt,aSz,aSs]
 refine wpList_step (fun K hK => ?_);rw [if_pos (by rfl)];go_simp;refine hK _ _ ?_;clear hK K;try simp only [Act.put,aSt,aSz,aSs]
 refine wpList_insert_own _ rfl _ _ _ 115 rfl 9 118 (Maps.string_keyed Tryz.underlying9) Tryz.underlying115 _ _ _ _ rfl HO.out (by unfold maxLen;omega) _ _ _ rfl rfl (key_str _ (by decide)) _ [] rfl ?_;intro w1 hown1 hg1
 replace HO:=hide hown1
 replace HB:=hide (HB.out.grown hg1 HB.out.size (fun q hq => by cases hq;exact Nat.le_refl _))
 clear hown1 hg1;try simp only [Act.put,aSt,aSz,aSs]
 refine wpList_step (fun K hK => ?_);rw [if_pos (by rfl)];go_simp;refine hK _ _ ?_;clear hK K;try simp only [Act.put,aSt,aSz,aSs]
 refine wpList_insert_own _ rfl _ _ _ 115 rfl 9 118 (Maps.string_keyed Tryz.underlying9) Tryz.underlying115 _ _ _ _ rfl HO.out (by unfold maxLen;omega) _ _ _ rfl rfl (key_str _ (by decide)) _ [] rfl ?_;intro w1 hown1 hg1
 replace HO:=hide hown1
 replace HB:=hide (HB.out.grown hg1 HB.out.size (fun q hq => by cases hq;exact Nat.le_refl _))
 clear hown1 hg1;try simp only [Act.put,aSt,aSz,aSs]
 refine wpList_step (fun K hK => ?_);rw [if_pos (by rfl)];go_simp;refine hK _ _ ?_;clear hK K;try simp only [Act.put,aSt,aSz,aSs]
 refine wpList_insert_own _ rfl _ _ _ 115 rfl 9 118 (Maps.string_keyed Tryz.underlying9) Tryz.underlying115 _ _ _ _ rfl HO.out (by unfold maxLen;omega) _ _ _ rfl rfl (key_str _ (by decide)) _ [] rfl ?_;intro w1 hown1 hg1
 replace HO:=hide hown1
 replace HB:=hide (HB.out.grown hg1 HB.out.size (fun q hq => by cases hq;exact Nat.le_refl _))
 clear hown1 hg1;try simp only [Act.put,aSt,aSz,aSs]
 refine wpList_step (fun K hK => ?_);rw [if_pos (by rfl)];go_simp;refine hK _ _ ?_;clear hK K;try simp only [Act.put,aSt,aSz,aSs]
 refine wpList_insert_own _ rfl _ _ _ 115 rfl 9 118 (Maps.string_keyed Tryz.underlying9) Tryz.underlying115 _ _ _ _ rfl HO.out (by unfold maxLen;omega) _ _ _ rfl rfl (key_str _ (by decide)) _ [] rfl ?_;intro w1 hown1 hg1
 replace HO:=hide hown1
 replace HB:=hide (HB.out.grown hg1 HB.out.size (fun q hq => by cases hq;exact Nat.le_refl _))
 clear hown1 hg1;try simp only [Act.put,aSt,aSz,aSs]
 refine wpList_step (fun K hK => ?_);rw [if_pos (by rfl)];go_simp;refine hK _ _ ?_;clear hK K;try simp only [Act.put,aSt,aSz,aSs]
 refine wpList_insert_own _ rfl _ _ _ 115 rfl 9 118 (Maps.string_keyed Tryz.underlying9) Tryz.underlying115 _ _ _ _ rfl HO.out (by unfold maxLen;omega) _ _ _ rfl rfl (key_str _ (by decide)) _ [] rfl ?_;intro w1 hown1 hg1
 replace HO:=hide hown1
 replace HB:=hide (HB.out.grown hg1 HB.out.size (fun q hq => by cases hq;exact Nat.le_refl _))
 clear hown1 hg1;try simp only [Act.put,aSt,aSz,aSs]
 refine wpList_step (fun K hK => ?_);rw [if_pos (by rfl)];go_simp;refine hK _ _ ?_;clear hK K;try simp only [Act.put,aSt,aSz,aSs]
 refine wpList_insert_own _ rfl _ _ _ 115 rfl 9 118 (Maps.string_keyed Tryz.underlying9) Tryz.underlying115 _ _ _ _ rfl HO.out (by unfold maxLen;omega) _ _ _ rfl rfl (key_str _ (by decide)) _ [] rfl ?_;intro w1 hown1 hg1
 replace HO:=hide hown1
 replace HB:=hide (HB.out.grown hg1 HB.out.size (fun q hq => by cases hq;exact Nat.le_refl _))
 clear hown1 hg1;try simp only [Act.put,aSt,aSz,aSs]
 refine wpList_step (fun K hK => ?_);rw [if_pos (by rfl)];go_simp;refine hK _ _ ?_;clear hK K;try simp only [Act.put,aSt,aSz,aSs]
 refine wpList_insert_own _ rfl _ _ _ 115 rfl 9 118 (Maps.string_keyed Tryz.underlying9) Tryz.underlying115 _ _ _ _ rfl HO.out (by unfold maxLen;omega) _ _ _ rfl rfl (key_str _ (by decide)) _ [] rfl ?_;intro w1 hown1 hg1
 replace HO:=hide hown1
 replace HB:=hide (HB.out.grown hg1 HB.out.size (fun q hq => by cases hq;exact Nat.le_refl _))
 clear hown1 hg1;try simp only [Act.put,aSt,aSz,aSs]
 refine wpList_step (fun K hK => ?_);rw [if_pos (by rfl)];go_simp;refine hK _ _ ?_;clear hK K;try simp only [Act.put,aSt,aSz,aSs]
 refine wpList_insert_own _ rfl _ _ _ 115 rfl 9 118 (Maps.string_keyed Tryz.underlying9) Tryz.underlying115 _ _ _ _ rfl HO.out (by unfold maxLen;omega) _ _ _ rfl rfl (key_str _ (by decide)) _ [] rfl ?_;intro w1 hown1 hg1
 replace HO:=hide hown1
 replace HB:=hide (HB.out.grown hg1 HB.out.size (fun q hq => by cases hq;exact Nat.le_refl _))
 clear hown1 hg1;try simp only [Act.put,aSt,aSz,aSs]
 refine wpList_step (fun K hK => ?_);rw [if_pos (by rfl)];go_simp;refine hK _ _ ?_;clear hK K;try simp only [Act.put,aSt,aSz,aSs]
 refine wpList_insert_own _ rfl _ _ _ 115 rfl 9 118 (Maps.string_keyed Tryz.underlying9) Tryz.underlying115 _ _ _ _ rfl HO.out (by unfold maxLen;omega) _ _ _ rfl rfl (key_str _ (by decide)) _ [] rfl ?_;intro w1 hown1 hg1
 replace HO:=hide hown1
 replace HB:=hide (HB.out.grown hg1 HB.out.size (fun q hq => by cases hq;exact Nat.le_refl _))
 clear hown1 hg1;try simp only [Act.put,aSt,aSz,aSs]
 refine wpList_step (fun K hK => ?_);rw [if_pos (by rfl)];go_simp;refine hK _ _ ?_;clear hK K;try simp only [Act.put,aSt,aSz,aSs]
 refine wpList_insert_own _ rfl _ _ _ 115 rfl 9 118 (Maps.string_keyed Tryz.underlying9) Tryz.underlying115 _ _ _ _ rfl HO.out (by unfold maxLen;omega) _ _ _ rfl rfl (key_str _ (by decide)) _ [] rfl ?_;intro w1 hown1 hg1
 replace HO:=hide hown1
 replace HB:=hide (HB.out.grown hg1 HB.out.size (fun q hq => by cases hq;exact Nat.le_refl _))
 clear hown1 hg1;try simp only [Act.put,aSt,aSz,aSs]
 go_wp2_with fail;go_ret;exact ⟨rfl,HO.out,HB.out⟩
def sortRows : List (List UInt8 × Int × List UInt8):=[([99,114,97,115,104],5,[80]),([99,117,116],8,[80,81]),([100,101,108,97,121],10,[80,81,68]),([100,111],4,[80,79]),([100,114,111,112],12,[75]),([100,117,112],13,[75]),([102,108,105,112],16,[75,78]),([104,101,97,108],9,[80,81]),([104,111,108,100],15,[75,68]),([105,110,106,101,99,116],17,[80,81,84]),([108,101,97,118,101],18,[80]),([110,111,111,112],0,[]),([110,111,119],14,[75]),([114,101,115,116,97,114,116],6,[80]),([114,111,117,110,100],1,[]),([115,101,110,100],3,[80,84]),([115,112,108,105,116],11,[83]),([116,101,97,114],7,[80,78]),([116,105,99,107],2,[80])]
def formEnt {H : Type} (f : List UInt8 × Int × List UInt8) : DataW H:=.agg [.lit (.int .i64 f.2.1),.lit (.string f.2.2)]
theorem formsD_eq {H : Type} : (formsD : DataW H) = .map (sortRows.map fun r => (.string r.1,formEnt r)):=by kernel_rfl
theorem sort_find (k : List UInt8) : sortRows.find? (fun f => f.1 == k) = formRows.find? (fun f => f.1 == k):=by
 by_cases h0 : k = [110,111,111,112]
 ·subst h0;rfl
 by_cases h1 : k = [114,111,117,110,100]
 ·subst h1;rfl
 by_cases h2 : k = [116,105,99,107]
 ·subst h2;rfl
 by_cases h3 : k = [115,101,110,100]
 ·subst h3;rfl
 by_cases h4 : k = [100,111]
 ·subst h4;rfl
 by_cases h5 : k = [99,114,97,115,104]
 ·subst h5;rfl
 by_cases h6 : k = [114,101,115,116,97,114,116]
 ·subst h6;rfl
 by_cases h7 : k = [116,101,97,114]
 ·subst h7;rfl
 by_cases h8 : k = [108,101,97,118,101]
 ·subst h8;rfl
 by_cases h9 : k = [99,117,116]
 ·subst h9;rfl
 by_cases h10 : k = [104,101,97,108]
 ·subst h10;rfl
 by_cases h11 : k = [100,101,108,97,121]
 ·subst h11;rfl
 by_cases h12 : k = [115,112,108,105,116]
 ·subst h12;rfl
 by_cases h13 : k = [100,114,111,112]
 ·subst h13;rfl
 by_cases h14 : k = [100,117,112]
 ·subst h14;rfl
 by_cases h15 : k = [110,111,119]
 ·subst h15;rfl
 by_cases h16 : k = [104,111,108,100]
 ·subst h16;rfl
 by_cases h17 : k = [102,108,105,112]
 ·subst h17;rfl
 by_cases h18 : k = [105,110,106,101,99,116]
 ·subst h18;rfl
 have esortRows : sortRows.find? (fun f => f.1 == k) = none:=by
  rw [List.find?_eq_none];intro f hf;simp only [sortRows,List.mem_cons,List.mem_nil_iff,or_false] at hf;rw [beq_iff_eq];intro e
  rcases hf with rfl | rfl | rfl | rfl | rfl | rfl | rfl | rfl | rfl | rfl | rfl | rfl | rfl | rfl | rfl | rfl | rfl | rfl | rfl
  all_goals simp only at e
  all_goals first | exact h0 e.symm | exact h1 e.symm | exact h2 e.symm | exact h3 e.symm | exact h4 e.symm | exact h5 e.symm | exact h6 e.symm | exact h7 e.symm | exact h8 e.symm | exact h9 e.symm | exact h10 e.symm | exact h11 e.symm | exact h12 e.symm | exact h13 e.symm | exact h14 e.symm | exact h15 e.symm | exact h16 e.symm | exact h17 e.symm | exact h18 e.symm
 have eformRows : formRows.find? (fun f => f.1 == k) = none:=by
  rw [List.find?_eq_none];intro f hf;simp only [formRows,List.mem_cons,List.mem_nil_iff,or_false] at hf;rw [beq_iff_eq];intro e
  rcases hf with rfl | rfl | rfl | rfl | rfl | rfl | rfl | rfl | rfl | rfl | rfl | rfl | rfl | rfl | rfl | rfl | rfl | rfl | rfl
  all_goals simp only at e
  all_goals first | exact h0 e.symm | exact h1 e.symm | exact h2 e.symm | exact h3 e.symm | exact h4 e.symm | exact h5 e.symm | exact h6 e.symm | exact h7 e.symm | exact h8 e.symm | exact h9 e.symm | exact h10 e.symm | exact h11 e.symm | exact h12 e.symm | exact h13 e.symm | exact h14 e.symm | exact h15 e.symm | exact h16 e.symm | exact h17 e.symm | exact h18 e.symm
 rw [esortRows,eformRows]
theorem forms_at {H : Type} (k : List UInt8) (zd : DataW H) : (formsD (H:=H)).atKey (.string k) zd = match formRows.find? (fun f => f.1 == k) with | some f => formEnt f | none => zd:=by
 rw [formsD_eq,← sort_find];show (match (sortRows.map fun r => ((.string r.1,formEnt r) : Lit × DataW H)).find? (fun p => p.1.sameKey (.string k)) with | some p => p.2 | none => zd) = _;rw [List.find?_map];show (match (Option.map (fun r => ((.string r.1,formEnt r) : Lit × DataW H)) (sortRows.find? (fun f => f.1 == k))) with | some p => p.2 | none => zd) = _
 cases sortRows.find? (fun f => f.1 == k) <;> rfl
theorem forms_has {H : Type} (k : List UInt8) : Maps.has (formsD (H:=H)) (.string k) = (formRows.find? (fun f => f.1 == k)).isSome:=by
 rw [formsD_eq,← sort_find];show ((sortRows.map fun r => ((.string r.1,formEnt r) : Lit × DataW H)).any fun p => p.1.sameKey (.string k)) = _;rw [List.any_map]
 have : ∀ l : List (List UInt8 × Int × List UInt8),(l.any fun f => f.1 == k) = (l.find? (fun f => f.1 == k)).isSome:=by
  intro l
  induction l with
  | nil => rfl
  | cons a l ih =>
   rw [List.any_cons,List.find?_cons,ih]
   cases h : (a.1 == k) <;> simp
 exact this sortRows
theorem formElem_inv {H : Type} {v : Value} {kd : Int} {ls : List UInt8} {ps : List MemPlace} (h : formElem (H:=H) v = some (.agg [.lit (.int .i64 kd),.lit (.string ls)],ps)) : v = .agg #[.int .i64 kd,.string (S ls)]:=by
 unfold formElem at h
 split at h
 ·rename_i cs
  split at h
  ·rename_i k s he
   injection h with h
   injection h with h1 h2
   injection h1 with h1
   injection h1 with h3 h4
   injection h4 with h4 _
   injection h3 with h3
   injection h3 with _ h3
   injection h4 with h4
   injection h4 with h4
   subst h3
   have : cs = #[.int .i64 k,.string s]:=by
    apply Array.toList_inj.1
    exact he
   rw [this,← h4,S_self]
  ·cases h
 ·cases h
def putObj (w : World) (k : Nat) (o : Obj) : World:={ w with heap:=w.heap.setIfInBounds k o }
def It (w : World) (k : Nat) (s : ByteArray) (pos : Nat) : Prop:=w.heap[k]? = some (.stringIter s pos)
section
variable {P : Program} {w w' w1 : World} {k b pos : Nat} {s : ByteArray} {o : Obj}
theorem run_next_at (ty : TypeId) (hk : It w k s pos) (h : pos < s.size) :
  (Instr.next (.pointer (some ⟨k,0,none⟩)) true ty).run P w = .ok (.tuple #[.bool true,.int .i64 pos,.int .i32 (Utf8.decode s pos).1]) (putObj w k (.stringIter s (pos + (Utf8.decode s pos).2))):=by
 unfold It at hk;simp only [Instr.next,getObj,setObj,Sem.run_bind,Sem.run,hk,Result.andThen,h,if_true];simp [goInt,putObj]
theorem run_next_no (ty : TypeId) (hk : It w k s pos) (h : ¬ pos < s.size) : (Instr.next (.pointer (some ⟨k,0,none⟩)) true ty).run P w = .ok (.tuple #[.bool false]) w:=by
 unfold It at hk;simp [Instr.next,getObj,Sem.run,hk,h]
theorem It.lt (h : It w k s pos) : k < w.heap.size:=by
 rcases Nat.lt_or_ge k w.heap.size with hlt | hge
 ·exact hlt
 ·unfold It at h;rw [Array.getElem?_eq_none hge] at h;cases h
theorem It.new (w : World) (s : ByteArray) : It (w.iter s 0) w.heap.size s 0:=World.iter_heap w s 0
theorem It.put (h : It w k s pos) (q : Nat) : It (putObj w k (.stringIter s q)) k s q:=by
 have:=h.lt;unfold It putObj;simp [this]
theorem It.below (h : It w k s pos) (hb : Below w.heap.size w w') : It w' k s pos:=(hb.block k h.lt).trans h
theorem It.grown {base n : Nat} {e : TypeId} {size : Nat} {v : Value} {xs : List Value} (h : It w k s pos) (ho : w.ownsRow base e size v n xs) (hg : w.grownBy w' v.ownBlock) : It w' k s pos:=by
 refine (hg.block k h.lt ?_).trans h;intro e
 rcases ho.2 with ⟨rfl,_⟩ | ⟨g',cap,cur,rfl,_,hh,_⟩
 ·cases e
 ·have : k = g':=by simpa [Value.ownBlock] using e
  subst this;unfold It at h;rw [h] at hh
  cases hh
theorem It.ne_blk {g : Nat} {t : TypeId} {cs : Array Value} (h : It w k s pos) (hb : Blk w g t cs) : g ≠ k:=by
 rintro rfl;unfold It at h;unfold Blk at hb;rw [h] at hb
 cases hb
theorem only_put (w : World) (k : Nat) (o : Obj) : Only (fun q => q = k) w (putObj w k o) :=
 ⟨rfl,rfl,rfl,by simp [putObj],fun q _ hq => by
  have : ¬ k = q:=fun e => hq e.symm
  simp [putObj,Array.getElem?_setIfInBounds,this]⟩
theorem It.row {base n : Nat} {e : TypeId} {size : Nat} {v : Value} {xs : List Value} (h : It w k s pos) (ho : w.ownsRow base e size v n xs) (q : Nat) : (putObj w k (.stringIter s q)).ownsRow base e size v n xs:=by
 refine own_only ho (only_put _ _ _) ?_;rintro g hg rfl
 rcases ho.2 with ⟨rfl,_⟩ | ⟨g',cap,cur,rfl,_,hh,_⟩
 ·cases hg
 ·have : g' = g:=by simpa [Value.ownBlock] using hg
  subst this;unfold It at h;rw [h] at hh
  cases hh
theorem It.blk {g : Nat} {t : TypeId} {cs : Array Value} (h : It w k s pos) (hb : Blk w g t cs) (q : Nat) : Blk (putObj w k (.stringIter s q)) g t cs:=hb.only (only_put _ _ _) (h.ne_blk hb)
theorem It.low (h : Below b w w1) (hk : b ≤ k) (hs : b ≤ w1.heap.size) (o : Obj) : Below b w (putObj w1 k o):=h.trans ((only_put w1 k o).below hs (fun q hq => by omega))
theorem iterPos_at (h : It w k s pos) : w.iterPos k = pos:=by
 unfold It at h;simp [World.iterPos,h]
end
theorem decode_dropL (s : ByteArray) (pos : Nat) (h : pos < s.size) : Utf8.decode s pos = Lib.decodeL (s.data.toList.drop pos):=(Lib.decodeL_drop s pos).symm
end Go.Proofs.YtcibcmfaebbhnaaGreatDoor
