/-
  Contracts of the library laid at this program: where each function and type of their text lies. (Printed by wip/tools/mklay2.py.) Contracts of strconv.Itoa and strings.Join at this program; the program's joined. Plain: an event's line as the program's forms write it. (Printed by wip/tools/mkplp.py.)
-/
import Derived.Shelf.Strconv.Itoa3
import Derived.Shelf.Strings.OnBuilder
import Derived.Test.YtcibcmfaebbhnaaGreatDoorPPak
import Derived.Lib.AppendIntMem
import Derived.Test.YtcibcmfaebbhnaaGreatDoorPRng
set_option linter.unusedSimpArgs false
set_option linter.unusedVariables false
set_option maxRecDepth 100000

namespace Go.Proofs.YtcibcmfaebbhnaaGreatDoor
open Go.Shelf
def sren : Go.Shelf.Ren:=⟨fun | 129 => 109 | 156 => 57 | 165 => 84 | 166 => 33 | 169 => 37 | 171 => 54 | 240 => 52 | 241 => 101 | 243 => 83 | 246 => 100 | 276 => 82 | 277 => 113 | 283 => 96 | 284 => 97 | 285 => 98 | 286 => 99 | 317 => 108 | 318 => 110 | 319 => 111 | 320 => 112 | 337 => 120 | 338 => 121 | n => n,
 fun | 0 => 0 | 2 => 2 | 3 => 3 | 4 => 4 | 5 => 5 | 9 => 9 | 20 => 20 | 31 => 101 | 37 => 29 | 46 => 156 | 51 => 184 | 53 => 151 | 70 => 88 | 72 => 90 | 75 => 92 | 76 => 93 | 80 => 98 | 127 => 114 | 164 => 153 | 171 => 168 | 173 => 171 | 212 => 183 | 213 => 185 | 232 => 200 | 233 => 201 | n => n,
 fun | 17 => 2 | 18 => 4 | 19 => 5 | n => n⟩
theorem la171 : LaysM.n171 Tryz.prog sren:={
 mixed:=by kernel_rfl,
 f129:=Tryz.func109.trans (congrArg some (by kernel_rfl)),
 f171:=Tryz.func54.trans (congrArg some (by kernel_rfl)),
 f243:=Tryz.func83.trans (congrArg some (by kernel_rfl)),
 f246:=Tryz.func100.trans (congrArg some (by kernel_rfl)),
 f283:=Tryz.func96.trans (congrArg some (by kernel_rfl)),
 f284:=Tryz.func97.trans (congrArg some (by kernel_rfl)),
 f285:=Tryz.func98.trans (congrArg some (by kernel_rfl)),
 f286:=Tryz.func99.trans (congrArg some (by kernel_rfl)),
 f317:=Tryz.func108.trans (congrArg some (by kernel_rfl)),
 f318:=Tryz.func110.trans (congrArg some (by kernel_rfl)),
 f319:=Tryz.func111.trans (congrArg some (by kernel_rfl)),
 f320:=Tryz.func112.trans (congrArg some (by kernel_rfl)),
 f337:=Tryz.func120.trans (congrArg some (by kernel_rfl)),
 f338:=Tryz.func121.trans (congrArg some (by kernel_rfl)),
 t0:=Tryz.underlying0,
 a0:=Tryz.isAgg0,
 z0:=Tryz.sizeOf0,
 v0:=Tryz.zeroValue0,
 t2:=Tryz.underlying2,
 a2:=Tryz.isAgg2,
 z2:=Tryz.sizeOf2,
 v2:=Tryz.zeroValue2,
 t3:=Tryz.underlying3,
 a3:=Tryz.isAgg3,
 z3:=Tryz.sizeOf3,
 v3:=Tryz.zeroValue3,
 t4:=Tryz.underlying4,
 a4:=Tryz.isAgg4,
 z4:=Tryz.sizeOf4,
 v4:=Tryz.zeroValue4,
 t5:=Tryz.underlying5,
 a5:=Tryz.isAgg5,
 z5:=Tryz.sizeOf5,
 v5:=Tryz.zeroValue5,
 t9:=Tryz.underlying9,
 a9:=Tryz.isAgg9,
 z9:=Tryz.sizeOf9,
 v9:=Tryz.zeroValue9,
 t20:=Tryz.underlying20,
 a20:=Tryz.isAgg20,
 z20:=Tryz.sizeOf20,
 v20:=Tryz.zeroValue20,
 t37:=Tryz.underlying29,
 a37:=Tryz.isAgg29,
 z37:=Tryz.sizeOf29,
 v37:=Tryz.zeroValue29,
 t46:=Tryz.underlying156,
 a46:=Tryz.isAgg156,
 z46:=Tryz.sizeOf156,
 v46:=Tryz.zeroValue156,
 t51:=Tryz.underlying184,
 a51:=Tryz.isAgg184,
 z51:=Tryz.sizeOf184,
 v51:=Tryz.zeroValue184,
 t53:=Tryz.underlying151,
 a53:=Tryz.isAgg151,
 z53:=Tryz.sizeOf151,
 v53:=Tryz.zeroValue151,
 t171:=Tryz.underlying168,
 a171:=Tryz.isAgg168,
 z171:=Tryz.sizeOf168,
 v171:=Tryz.zeroValue168,
 t173:=Tryz.underlying171,
 a173:=Tryz.isAgg171,
 z173:=Tryz.sizeOf171,
 v173:=Tryz.zeroValue171,
 t212:=Tryz.underlying183,
 a212:=Tryz.isAgg183,
 z212:=Tryz.sizeOf183,
 v212:=Tryz.zeroValue183,
 t213:=Tryz.underlying185,
 a213:=Tryz.isAgg185,
 z213:=Tryz.sizeOf185,
 t232:=Tryz.underlying200,
 a232:=Tryz.isAgg200,
 z232:=Tryz.sizeOf200,
 v232:=Tryz.zeroValue200,
 t233:=Tryz.underlying201,
 a233:=Tryz.isAgg201,
 z233:=Tryz.sizeOf201,
 v233:=Tryz.zeroValue201,
 g17:=by kernel_rfl,
 g18:=by kernel_rfl,
 g19:=by kernel_rfl,
 i0:=by kernel_rfl,
 i2:=by kernel_rfl,
 i3:=by kernel_rfl,
 i4:=by kernel_rfl,
 i5:=by kernel_rfl,
 i9:=by kernel_rfl,
 i20:=by kernel_rfl,
 i37:=by kernel_rfl,
 i46:=by kernel_rfl,
 i51:=by kernel_rfl,
 i53:=by kernel_rfl,
 i171:=by kernel_rfl,
 i173:=by kernel_rfl,
 i212:=by kernel_rfl,
 i232:=by kernel_rfl,
 i233:=by kernel_rfl,
 m17:=by kernel_rfl,
 m18:=by kernel_rfl,
 m19:=by kernel_rfl }
theorem la156 : Lays.n156 Tryz.prog sren:={
 mixed:=by kernel_rfl,
 f156:=Tryz.func57.trans (congrArg some (by kernel_rfl)),
 f165:=Tryz.func84.trans (congrArg some (by kernel_rfl)),
 f166:=Tryz.func33.trans (congrArg some (by kernel_rfl)),
 f169:=Tryz.func37.trans (congrArg some (by kernel_rfl)),
 f240:=Tryz.func52.trans (congrArg some (by kernel_rfl)),
 f241:=Tryz.func101.trans (congrArg some (by kernel_rfl)),
 f276:=Tryz.func82.trans (congrArg some (by kernel_rfl)),
 f277:=Tryz.func113.trans (congrArg some (by kernel_rfl)),
 t0:=Tryz.underlying0,
 a0:=Tryz.isAgg0,
 z0:=Tryz.sizeOf0,
 v0:=Tryz.zeroValue0,
 t3:=Tryz.underlying3,
 a3:=Tryz.isAgg3,
 z3:=Tryz.sizeOf3,
 v3:=Tryz.zeroValue3,
 t4:=Tryz.underlying4,
 a4:=Tryz.isAgg4,
 z4:=Tryz.sizeOf4,
 v4:=Tryz.zeroValue4,
 t9:=Tryz.underlying9,
 a9:=Tryz.isAgg9,
 z9:=Tryz.sizeOf9,
 v9:=Tryz.zeroValue9,
 t20:=Tryz.underlying20,
 a20:=Tryz.isAgg20,
 z20:=Tryz.sizeOf20,
 v20:=Tryz.zeroValue20,
 t31:=Tryz.underlying101,
 a31:=Tryz.isAgg101,
 z31:=Tryz.sizeOf101,
 v31:=Tryz.zeroValue101,
 t37:=Tryz.underlying29,
 a37:=Tryz.isAgg29,
 z37:=Tryz.sizeOf29,
 v37:=Tryz.zeroValue29,
 t70:=Tryz.underlying88,
 a70:=Tryz.isAgg88,
 z70:=Tryz.sizeOf88,
 v70:=Tryz.zeroValue88,
 t72:=Tryz.underlying90,
 a72:=Tryz.isAgg90,
 z72:=Tryz.sizeOf90,
 v72:=Tryz.zeroValue90,
 t75:=Tryz.underlying92,
 a75:=Tryz.isAgg92,
 z75:=Tryz.sizeOf92,
 v75:=Tryz.zeroValue92,
 t76:=Tryz.underlying93,
 a76:=Tryz.isAgg93,
 z76:=Tryz.sizeOf93,
 v76:=Tryz.zeroValue93,
 t127:=Tryz.underlying114,
 a127:=Tryz.isAgg114,
 z127:=Tryz.sizeOf114,
 v127:=Tryz.zeroValue114,
 t164:=Tryz.underlying153,
 a164:=Tryz.isAgg153,
 z164:=Tryz.sizeOf153,
 v164:=Tryz.zeroValue153 }
theorem sextra : Builder.Extra Tryz.prog sren where
 sizeBuilder:=by kernel_rfl
 liesBuilder:=by kernel_rfl
 t5:=Tryz.underlying5
 a5:=Tryz.isAgg5
 z5:=Tryz.sizeOf5
 v5:=Tryz.zeroValue5
 infoByte:=by kernel_rfl
 cellsByte:=by kernel_rfl
 sizeByte:=by kernel_rfl
 neB5:=by decide
end Go.Proofs.YtcibcmfaebbhnaaGreatDoor
namespace Go.Proofs.YtcibcmfaebbhnaaGreatDoor
open Go.RowKit Go.WideShapes Go.ChangeShapes Q
def Tab (w : World) : Prop := Lib.TabIs Tryz.prog w "internal/strconv.uint64pow10" .u64 Lib.pow10Tab
theorem Tab.below {w w' : World} (h : Tab w) (hb : Below w.heap.size w w') : Tab w':=Lib.tabBelow_of_tabIs h w' hb
theorem grow_below (w : World) (k : Nat) (os : Array Obj) : Below w.heap.size w (Sort.grow (w.drewN k) os) :=
 ⟨rfl,rfl,rfl,by show w.heap.size ≤ (w.heap ++ os).size;simp,fun g hg => Lib.heap_grow_old w k os g hg⟩
theorem itoa_any (n : Int) (w : World) (h0 : -9223372036854775808 ≤ n) (h1 : n ≤ 9223372036854775807) (hT : Tab w) :
  Calls Tryz.prog 54 #[.int .i64 n] w fun e w' => e = .returned (.string (S (Lib.itoa n))) ∧ Below w.heap.size w w' :=
 (Any.strconv_Itoa la171 n h0 h1 w hT).mono fun e w' ⟨he,k,os,hw⟩ => ⟨he,by rw [hw];exact grow_below w k os⟩
theorem join_any (bk c : Nat) (ls : List (List UInt8)) (sep : List UInt8) (w : World) (hcells : ∀ (j : Nat) l,ls[j]? = some l → w.cell? ⟨bk,j,none⟩ = some (.string (S l))) (hbk : bk < w.heap.size) (hN : ls.length ≤ 140737488355328) (hcap : ls.length ≤ c)
  (hlen : (Lib.join ls sep).length ≤ 140737488355328) :
  Calls Tryz.prog 57 #[.slice (some ⟨bk,0,none⟩) ls.length c,.string (S sep)] w fun e w' => e = .returned (.string (S (Lib.join ls sep))) ∧ Below w.heap.size w w':=by
 have hm : (ls.map S).map (fun x : ByteArray => x.data.toList) = ls:=by
  rw [List.map_map];exact List.map_id'' (fun l => S_data l) ls
 have h:=Any.strings_Join la156 sextra bk 0 c (ls.map S) (S sep) w (fun j x hx => by
  rw [List.getElem?_map] at hx;obtain ⟨l,hl,rfl⟩:=Option.map_eq_some_iff.1 hx;rw [Nat.zero_add];exact hcells j l hl) hbk (by rw [List.length_map];exact hN) (by rw [List.length_map];exact hcap) (by rw [hm,S_data];exact hlen)
 rw [hm,S_data,List.length_map] at h;exact h
theorem itoa_len (n : Int) (h0 : -9223372036854775808 ≤ n) (h1 : n ≤ 9223372036854775807) : (Lib.itoa n).length ≤ 21:=by
 unfold Lib.itoa
 split
 ·rw [List.length_cons]
  have : (Lib.decDigits n.natAbs).length ≤ 20:=dec_len 19 _ (Nat.lt_of_le_of_lt (show n.natAbs ≤ 9223372036854775808 by omega) (by decide));omega
 ·have:=dec_len 19 n.toNat (Nat.lt_of_le_of_lt (show n.toNat ≤ 9223372036854775808 by omega) (by decide))
  omega
theorem lens_le (m : Nat) : ∀ (ls : List (List UInt8)),(∀ l ∈ ls,l.length ≤ m) → Lib.lens ls ≤ m * ls.length
 | [],_ => by simp [Lib.lens]
 | l :: ls,h => by
  have h1:=lens_le m ls fun x hx => h x (by simp [hx])
  have h2:=h l (by simp);rw [List.length_cons,Nat.mul_add];have : Lib.lens (l :: ls) = l.length + Lib.lens ls:=by simp [Lib.lens]
  omega
theorem join_le (m : Nat) (ls : List (List UInt8)) (sep : List UInt8) (h : ∀ l ∈ ls,l.length ≤ m) : (Lib.join ls sep).length ≤ (m + sep.length) * ls.length:=by
 cases ls with
 | nil => simp [Lib.join_nil]
 | cons x r =>
  have:=lens_le m (x :: r) h;rw [Lib.join_length,Nat.add_mul];have h2 : sep.length * r.length ≤ sep.length * (x :: r).length:=Nat.mul_le_mul_left _ (by simp);omega
def ltW (e : Ev) (c : UInt8) : List (List UInt8) :=
 if c = 80 ∨ c = 75 then [Lib.itoa e.a]
 else if c = 81 then [Lib.itoa e.b]
 else if c = 78 ∨ c = 68 then [Lib.itoa e.n]
 else if c = 84 then [quoteL e.bd]
 else if c = 83 then e.sd.map Lib.itoa
 else if c = 79 then askL e
 else []
def rowW (e : Ev) (f : List UInt8 × Int × List UInt8) : List (List UInt8):=f.1 :: f.2.2.flatMap (ltW e)
theorem lineW_row (e : Ev) : lineW e = match formRows.find? (fun f => f.2.1 == e.kd) with | some f => rowW e f | none => []:=by
 obtain ⟨kd,a,b,n,cl,cn,rq,op,key,val,old,bd,sd⟩:=e
 by_cases h0 : kd = 0
 ·subst h0
  simp [lineW,formRows,formL,rowW,ltW,ltT,askL,List.find?]
 by_cases h1 : kd = 1
 ·subst h1
  simp [lineW,formRows,formL,rowW,ltW,ltT,askL,List.find?]
 by_cases h2 : kd = 2
 ·subst h2
  simp [lineW,formRows,formL,rowW,ltW,ltT,askL,List.find?]
 by_cases h3 : kd = 3
 ·subst h3
  simp [lineW,formRows,formL,rowW,ltW,ltT,askL,List.find?]
 by_cases h4 : kd = 4
 ·subst h4
  simp [lineW,formRows,formL,rowW,ltW,ltT,askL,List.find?]
 by_cases h5 : kd = 5
 ·subst h5
  simp [lineW,formRows,formL,rowW,ltW,ltT,askL,List.find?]
 by_cases h6 : kd = 6
 ·subst h6
  simp [lineW,formRows,formL,rowW,ltW,ltT,askL,List.find?]
 by_cases h7 : kd = 7
 ·subst h7
  simp [lineW,formRows,formL,rowW,ltW,ltT,askL,List.find?]
 by_cases h8 : kd = 8
 ·subst h8
  simp [lineW,formRows,formL,rowW,ltW,ltT,askL,List.find?]
 by_cases h9 : kd = 9
 ·subst h9
  simp [lineW,formRows,formL,rowW,ltW,ltT,askL,List.find?]
 by_cases h10 : kd = 10
 ·subst h10
  simp [lineW,formRows,formL,rowW,ltW,ltT,askL,List.find?]
 by_cases h11 : kd = 11
 ·subst h11
  simp [lineW,formRows,formL,rowW,ltW,ltT,askL,List.find?]
 by_cases h12 : kd = 12
 ·subst h12
  simp [lineW,formRows,formL,rowW,ltW,ltT,askL,List.find?]
 by_cases h13 : kd = 13
 ·subst h13
  simp [lineW,formRows,formL,rowW,ltW,ltT,askL,List.find?]
 by_cases h14 : kd = 14
 ·subst h14
  simp [lineW,formRows,formL,rowW,ltW,ltT,askL,List.find?]
 by_cases h15 : kd = 15
 ·subst h15
  simp [lineW,formRows,formL,rowW,ltW,ltT,askL,List.find?]
 by_cases h16 : kd = 16
 ·subst h16
  simp [lineW,formRows,formL,rowW,ltW,ltT,askL,List.find?]
 by_cases h17 : kd = 17
 ·subst h17
  simp [lineW,formRows,formL,rowW,ltW,ltT,askL,List.find?]
 by_cases h18 : kd = 18
 ·subst h18
  simp [lineW,formRows,formL,rowW,ltW,ltT,askL,List.find?]
 have e1 : formRows.find? (fun f => f.2.1 == kd) = none:=by
  rw [List.find?_eq_none];intro f hf;simp only [formRows,List.mem_cons,List.mem_nil_iff,or_false] at hf;rw [beq_iff_eq];intro e
  rcases hf with rfl | rfl | rfl | rfl | rfl | rfl | rfl | rfl | rfl | rfl | rfl | rfl | rfl | rfl | rfl | rfl | rfl | rfl | rfl
  all_goals simp only at e
  all_goals first | exact h0 e.symm | exact h1 e.symm | exact h2 e.symm | exact h3 e.symm | exact h4 e.symm | exact h5 e.symm | exact h6 e.symm | exact h7 e.symm | exact h8 e.symm | exact h9 e.symm | exact h10 e.symm | exact h11 e.symm | exact h12 e.symm | exact h13 e.symm | exact h14 e.symm | exact h15 e.symm | exact h16 e.symm | exact h17 e.symm | exact h18 e.symm
 have e2 : formL.find? (fun f => f.2.1 == kd) = none:=by
  rw [List.find?_eq_none];intro f hf;simp only [formL,List.mem_cons,List.mem_nil_iff,or_false] at hf;rw [beq_iff_eq];intro e
  rcases hf with rfl | rfl | rfl | rfl | rfl | rfl | rfl | rfl | rfl | rfl | rfl | rfl | rfl | rfl | rfl | rfl | rfl
  all_goals simp only at e
  all_goals first | exact h0 e.symm | exact h1 e.symm | exact h2 e.symm | exact h3 e.symm | exact h4 e.symm | exact h5 e.symm | exact h6 e.symm | exact h7 e.symm | exact h8 e.symm | exact h9 e.symm | exact h10 e.symm | exact h11 e.symm | exact h12 e.symm | exact h13 e.symm | exact h14 e.symm | exact h15 e.symm | exact h16 e.symm | exact h17 e.symm | exact h18 e.symm
 unfold lineW;rw [if_neg (show ¬ (_ : Int) = 4 from h4),if_neg (show ¬ (_ : Int) = 11 from h11)];show (match formL.find? (fun f => f.2.1 == kd) with | some f => _ | none => _) = (match formRows.find? (fun f => f.2.1 == kd) with | some f => _ | none => _);rw [e1,e2]
theorem row_first {f : List UInt8 × Int × List UInt8} (h : f ∈ formRows) : formRows.find? (fun g => g.1 == f.1) = some f:=by
 have : formRows.all (fun f => formRows.find? (fun g => g.1 == f.1) == some f) = true:=by decide +kernel
 have h2:=List.all_eq_true.1 this f h;simpa using h2
theorem row_kind {f : List UInt8 × Int × List UInt8} (h : f ∈ formRows) : formRows.find? (fun g => g.2.1 == f.2.1) = some f:=by
 have : formRows.all (fun f => formRows.find? (fun g => g.2.1 == f.2.1) == some f) = true:=by decide +kernel
 have h2:=List.all_eq_true.1 this f h;simpa using h2
def isLw (c : UInt8) : Prop:=c = 80 ∨ c = 75 ∨ c = 81 ∨ c = 78 ∨ c = 68 ∨ c = 84 ∨ c = 83 ∨ c = 79
theorem row_lets {f : List UInt8 × Int × List UInt8} (h : f ∈ formRows) : f.1.length ≤ 20 ∧ f.2.2.length ≤ 3 ∧ ∀ c ∈ f.2.2,isLw c:=by
 have : formRows.all (fun f => decide (f.1.length ≤ 20) && decide (f.2.2.length ≤ 3) && f.2.2.all (fun c => c == 80 || c == 75 || c == 81 || c == 78 || c == 68 || c == 84 || c == 83 || c == 79)) = true:=by decide +kernel
 have h2:=List.all_eq_true.1 this f h;simp only [Bool.and_eq_true,decide_eq_true_eq,List.all_eq_true,Bool.or_eq_true,beq_iff_eq] at h2;refine ⟨h2.1.1,h2.1.2,fun c hc => ?_⟩;have h3:=h2.2 c hc;unfold isLw
 rcases h3 with ((((((h | h) | h) | h) | h) | h) | h) | h <;> simp [h]
theorem lw_low {c : UInt8} (h : isLw c) : c.toNat < 128:=by
 rcases h with rfl | rfl | rfl | rfl | rfl | rfl | rfl | rfl <;> decide
def LeftK (kd : Int) (left : Lit → Bool) : Prop:=∀ f ∈ formRows,f.2.1 = kd → left (.string f.1) = true
theorem left_start {H : Type} (kd : Int) : LeftK kd (Maps.has (formsD (H:=H))):=fun f hf _ => by
 rw [forms_has,row_first hf]
 rfl
theorem left_step {kd : Int} {left : Lit → Bool} {f : List UInt8 × Int × List UInt8} (h : LeftK kd left) (hf : f ∈ formRows) (hk : ¬ f.2.1 = kd) : LeftK kd (fun z => left z && !z.sameKey (.string f.1)):=fun g hg hgk => by
 have h1:=h g hg hgk
 have hne : ¬ g.1 = f.1:=fun e => by
  have h2:=row_first hf;have h3:=row_first hg;rw [e,h2] at h3;injection h3 with h3
  exact hk (by rw [h3];exact hgk)
 show (left (.string g.1) && !(Lit.string g.1).sameKey (.string f.1)) = true;rw [h1]
 have : (Lit.string g.1).sameKey (.string f.1) = false:=by
  cases hc : (Lit.string g.1).sameKey (.string f.1) with
  | false => rfl
  | true =>
   have:=WideAt.sameKey_eq hc;injection this with this
   exact absurd this hne
 rw [this]
 rfl
theorem left_none {kd : Int} {left : Lit → Bool} (h : LeftK kd left) (hl : ∀ kl,left kl = false) : formRows.find? (fun f => f.2.1 == kd) = none:=by
 rw [List.find?_eq_none];intro f hf e;have:=h f hf (by simpa using e);rw [hl] at this
 cases this
theorem came_row {H : Type} {k : List UInt8} {d : DataW H} (h : ∀ zd,(formsD (H:=H)).atKey (.string k) zd = d) : ∃ f ∈ formRows,f.1 = k ∧ d = formEnt f:=by
 have h1:=h .nil;have h2:=h (.lit (.bool true));rw [forms_at] at h1 h2
 cases hf : formRows.find? (fun f => f.1 == k) with
 | none =>
  rw [hf] at h1 h2;simp only at h1 h2;rw [← h1] at h2
  cases h2
 | some f =>
  rw [hf] at h1;refine ⟨f,List.mem_of_find?_eq_some hf,?_,h1.symm⟩;have:=List.find?_some hf;simpa using this
end Go.Proofs.YtcibcmfaebbhnaaGreatDoor
