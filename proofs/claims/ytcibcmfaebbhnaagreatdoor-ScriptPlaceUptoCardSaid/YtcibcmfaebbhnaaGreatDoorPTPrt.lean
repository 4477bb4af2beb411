/-
  The reference's plain, slashed, counts. Contracts of the library laid at this program: where each function and type of their text lies. (Printed by wip/tools/mklay2.py.) Contract of the program's joined. Contract of the closure in the program's mark: one part more.
-/
import Derived.Lib.Join
import Derived.Test.YtcibcmfaebbhnaaGreatDoorPRdc
import Derived.Test.YtcibcmfaebbhnaaGreatDoorPHdr
import Derived.Shelf.Strconv.Itoa3
import Derived.Shelf.Strings.OnBuilder
import Derived.Test.YtcibcmfaebbhnaaGreatDoorPPak
import Derived.Test.YtcibcmfaebbhnaaGreatDoorPRead
import Derived.Test.YtcibcmfaebbhnaaGreatDoorPIts
import Derived.Test.YtcibcmfaebbhnaaGreatDoorPBln
set_option linter.unusedSimpArgs false
set_option linter.unusedVariables false
set_option maxRecDepth 100000
set_option maxHeartbeats 1000000

namespace Go.Proofs.YtcibcmfaebbhnaaGreatDoor.Tr
open Go.RowKit Go.WideShapes Go.ChangeShapes Q
def plainL (nm : List UInt8) (n : Nat) : List UInt8:=if n = 0 then [] else [32] ++ nm ++ [61] ++ Lib.decDigits n
theorem plain_any (nm : List UInt8) (n : Nat) (w : World) (hn : n < 9223372036854775808) (hm : nm.length ≤ 1000) :
  Calls Tryz.prog 68 #[.string (S nm),.int .i64 n] w fun e w' => e = .returned (.string (S (plainL nm n))) ∧ Below w.heap.size w w':=by
 by_cases h : n = 0
 ·subst h
  go_enter Tryz.func68,Tryz.ntmps68;go_wp2_with fail;go_ret;exact ⟨rfl,Below.refl _ _⟩
 ·have hP : plainL nm n = [32] ++ nm ++ [61] ++ Lib.decDigits n:=if_neg h
  have HP:=hide hP;have HD:=hide (dig_any n w hn);have hl:=dec_len19 hn;have hz : ((n : Int) == 0) = false:=by rw [beq_eq_false_iff_ne];omega
  have hz2 : ¬ (n : Int) = 0:=by omega
  have hs1 : ¬ 9223372036854775807 < 1 + (S nm).size:=by rw [S_size];omega
  have hs2 : ¬ 9223372036854775807 < 1 + (S nm).size + 1:=by rw [S_size];omega
  have hs3 : ¬ 9223372036854775807 < 1 + (S nm).size + 1 + (S (Lib.decDigits n)).size:=by rw [S_size,S_size];omega
  clear hP h;go_enter Tryz.func68,Tryz.ntmps68;go_wp2_with (go_at_call 42;refine HD.out.mono ?_;rintro e w' ⟨rfl,hb⟩);go_ret;refine ⟨?_,hb⟩;rw [HP.out,← S_append,← S_append,← S_append]
  rfl
def slashL (xs : List Nat) : List UInt8:=Lib.join (xs.map Lib.decDigits) [47]
theorem slash_snoc (xs : List Nat) (x : Nat) : slashL (xs ++ [x]) = (if xs = [] then [] else slashL xs ++ [47]) ++ Lib.decDigits x:=by
 cases xs with
 | nil => simp [slashL,Lib.join_one]
 | cons a r =>
  rw [if_neg (by simp)];unfold slashL;rw [List.cons_append,List.map_cons,List.map_cons,Lib.join_cons,Lib.join_cons,List.map_append];simp [Lib.joinTail,List.flatten_append]
theorem slash_len (xs : List Nat) (h : ∀ x ∈ xs,x < 9223372036854775808) : ∀ k,k ≤ xs.length → (slashL (xs.take k)).length ≤ 20 * k
 | 0,_ => by simp [slashL,Lib.join_nil]
 | k + 1,hk => by
  have h1:=slash_len xs h k (by omega);have h2:=dec_len19 (h xs[k] (List.getElem_mem (by omega)));rw [List.take_add_one,List.getElem?_eq_getElem (by omega),Option.toList_some,slash_snoc]
  split <;> simp <;> omega
theorem slashed_any (A : Option Addr) (B n c : Nat) (xs : List Nat) (w : World) (h : RI w B A n (xs.map fun x => ((x : Nat) : Int))) (hB : B ≤ w.heap.size) (hx : ∀ x ∈ xs,x < 9223372036854775808) (hn : n ≤ 1000000) :
  Calls Tryz.prog 70 #[.slice A n c] w fun e w' => e = .returned (.string (S (slashL xs))) ∧ Below w.heap.size w w':=by
 have hl:=h.len;rw [List.length_map] at hl;have HX:=hide hx;have HL:=hide hl;have HR:=hide h;clear hx hl h;go_enter Tryz.func70,Tryz.ntmps70;go_upto_region 3 with fail
 go_loopw [3,4] (fun s i wr => ∃ k : Nat,k ≤ n ∧ i = .int .i64 k ∧ s = .string (S (slashL (xs.take k))) ∧ Hid (Below w.heap.size w wr)) (fun _ i _ => n - (intOf i).toNat)
 case atStart => exact ⟨0,Nat.zero_le _,rfl,rfl,Below.refl _ _⟩
 case round =>
  obtain ⟨k,hk,rfl,rfl,hb⟩:=hrel
  by_cases hlt : k < n
  ·obtain ⟨ad,rfl,hab,hc⟩:=RI.at_ (Reads.below HR.out (hb.out.mono hB)) hlt
   have hkx : k < xs.length:=by have:=HL.out;omega
   obtain ⟨x,hxe⟩ : ∃ x,x = xs[k]:=⟨_,rfl⟩;have hnx : nth (xs.map fun x => ((x : Nat) : Int)) k = (x : Int):=by simp [nth,hkx,hxe]
   rw [hnx] at hc;have hx9 : x < 9223372036854775808:=HX.out x (by rw [hxe];exact List.getElem_mem hkx)
   have hst : slashL (xs.take (k + 1)) = (if xs.take k = [] then [] else slashL (xs.take k) ++ [47]) ++ Lib.decDigits x:=by
    rw [List.take_add_one,List.getElem?_eq_getElem hkx,← hxe];exact slash_snoc _ _
   have HST:=hide hst
   have hsl : (slashL (xs.take k)).length ≤ 20000000:=by
    have:=slash_len xs HX.out k (by omega);omega
   have h19:=dec_len19 hx9;have k0 : (0 : Int) ≤ (k : Int):=by omega
   have kn : (k : Int) < (n : Int):=by omega
   have HD : Hid (∀ W,Calls Tryz.prog 42 #[.int .i64 x] W fun e w' => e = .returned (.string (S (Lib.decDigits x))) ∧ Below W.heap.size W w'):=fun W => dig_any x W hx9
   obtain ⟨L,hL⟩ : ∃ L,L = slashL (xs.take k):=⟨_,rfl⟩;rw [← hL] at hsl HST ⊢;have hsw : w.heap.size ≤ wr.heap.size:=hb.out.size
   by_cases hk1 : 0 < k
   ·have hne : xs.take k ≠ []:=by
     intro e;have:=congrArg List.length e;rw [List.length_take,List.length_nil] at this;omega
    rw [if_neg hne] at HST;have hk1i : (0 : Int) < (k : Int):=by omega
    have hs1 : ¬ 9223372036854775807 < (S L).size + 1:=by rw [S_size];omega
    have hs2 : ¬ 9223372036854775807 < (S L).size + 1 + (S (Lib.decDigits x)).size:=by rw [S_size,S_size];omega
    clear hxe hnx hst hL hne;go_wp2_with (go_at_call 42;refine (HD.out _).mono ?_;rintro e w2 ⟨rfl,hb2⟩;have HB2:=hide hb2;clear hb2);go_roundw
    case rel => exact ⟨k + 1,by omega,by go_num,by rw [HST.out,← S_append,← S_append];rfl,hb.out.trans (HB2.out.mono hsw)⟩
    case measure => simp [intOf];omega
   ·obtain rfl : k = 0:=by omega
    rw [if_pos (by simp)] at HST;have hL0 : L = []:=by rw [hL];rfl
    have hs2 : ¬ 9223372036854775807 < (S L).size + (S (Lib.decDigits x)).size:=by rw [S_size,S_size];omega
    have HL0:=hide hL0;have hc0 : wr.cell? ad = some (.int .i64 (x : Int)):=by simpa [Addr.add] using hc
    clear hxe hnx hst hL hL0;go_wp2_with (go_at_call 42;refine (HD.out _).mono ?_;rintro e w2 ⟨rfl,hb2⟩;have HB2:=hide hb2;clear hb2);go_roundw
    case rel => exact ⟨1,by omega,by go_num,by rw [HST.out,HL0.out,← S_append],hb.out.trans (HB2.out.mono hsw)⟩
    case measure => simp [intOf];omega
  ·obtain hkn : k = n:=by omega
   have hki : ¬ (k : Int) < (n : Int):=by omega
   clear hlt;go_wp2_with fail;go_ret;refine ⟨?_,hb.out⟩;rw [List.take_of_length_le (by have:=HL.out;omega)]
   rfl
end Go.Proofs.YtcibcmfaebbhnaaGreatDoor.Tr
namespace Go.Proofs.YtcibcmfaebbhnaaGreatDoor.Tr
open Go.Shelf
def sren : Go.Shelf.Ren:=⟨fun | 129 => 109 | 156 => 57 | 165 => 84 | 166 => 33 | 167 => 36 | 169 => 37 | 171 => 54 | 240 => 52 | 241 => 101 | 243 => 83 | 246 => 100 | 276 => 82 | 277 => 113 | 283 => 96 | 284 => 97 | 285 => 98 | 286 => 99 | 317 => 108 | 318 => 110 | 319 => 111 | 320 => 112 | 337 => 120 | 338 => 121 | n => n,
 fun | 0 => 0 | 2 => 2 | 3 => 3 | 4 => 4 | 5 => 5 | 9 => 9 | 20 => 20 | 31 => 101 | 37 => 29 | 46 => 156 | 51 => 184 | 53 => 151 | 70 => 88 | 72 => 90 | 75 => 92 | 76 => 93 | 80 => 98 | 127 => 114 | 164 => 153 | 171 => 168 | 173 => 171 | 212 => 183 | 213 => 185 | 232 => 200 | 233 => 201 | n => n,
 fun | 17 => 2 | 18 => 4 | 19 => 5 | n => n⟩
theorem la171 : LaysM.n171 Tryz.prog sren:={
 mixed:=by kernel_rfl,
 f129:=Tryz.func109.trans (congrArg some (by kernel_rfl)),
 f171:=Tryz.func54.trans (congrArg some (by kernel_rfl)),
 f243:=Tryz.func83.trans (congrArg some (by kernel_rfl)),
 f246:=Tryz.func100.trans (congrArg some (by kernel_rfl)),
 f283:=Tryz.func96.trans (congrArg some (by kernel_rfl)),
 f284:=Tryz.func97.trans (congrArg some (by kernel_rfl)),
 f285:=Tryz.func98.trans (congrArg some (by kernel_rfl)),
 f286:=Tryz.func99.trans (congrArg some (by kernel_rfl)),
 f317:=Tryz.func108.trans (congrArg some (by kernel_rfl)),
 f318:=Tryz.func110.trans (congrArg some (by kernel_rfl)),
 f319:=Tryz.func111.trans (congrArg some (by kernel_rfl)),
 f320:=Tryz.func112.trans (congrArg some (by kernel_rfl)),
 f337:=Tryz.func120.trans (congrArg some (by kernel_rfl)),
 f338:=Tryz.func121.trans (congrArg some (by kernel_rfl)),
 t0:=Tryz.underlying0,
 a0:=Tryz.isAgg0,
 z0:=Tryz.sizeOf0,
 v0:=Tryz.zeroValue0,
 t2:=Tryz.underlying2,
 a2:=Tryz.isAgg2,
 z2:=Tryz.sizeOf2,
 v2:=Tryz.zeroValue2,
 t3:=Tryz.underlying3,
 a3:=Tryz.isAgg3,
 z3:=Tryz.sizeOf3,
 v3:=Tryz.zeroValue3,
 t4:=Tryz.underlying4,
 a4:=Tryz.isAgg4,
 z4:=Tryz.sizeOf4,
 v4:=Tryz.zeroValue4,
 t5:=Tryz.underlying5,
 a5:=Tryz.isAgg5,
 z5:=Tryz.sizeOf5,
 v5:=Tryz.zeroValue5,
 t9:=Tryz.underlying9,
 a9:=Tryz.isAgg9,
 z9:=Tryz.sizeOf9,
 v9:=Tryz.zeroValue9,
 t20:=Tryz.underlying20,
 a20:=Tryz.isAgg20,
 z20:=Tryz.sizeOf20,
 v20:=Tryz.zeroValue20,
 t37:=Tryz.underlying29,
 a37:=Tryz.isAgg29,
 z37:=Tryz.sizeOf29,
 v37:=Tryz.zeroValue29,
 t46:=Tryz.underlying156,
 a46:=Tryz.isAgg156,
 z46:=Tryz.sizeOf156,
 v46:=Tryz.zeroValue156,
 t51:=Tryz.underlying184,
 a51:=Tryz.isAgg184,
 z51:=Tryz.sizeOf184,
 v51:=Tryz.zeroValue184,
 t53:=Tryz.underlying151,
 a53:=Tryz.isAgg151,
 z53:=Tryz.sizeOf151,
 v53:=Tryz.zeroValue151,
 t171:=Tryz.underlying168,
 a171:=Tryz.isAgg168,
 z171:=Tryz.sizeOf168,
 v171:=Tryz.zeroValue168,
 t173:=Tryz.underlying171,
 a173:=Tryz.isAgg171,
 z173:=Tryz.sizeOf171,
 v173:=Tryz.zeroValue171,
 t212:=Tryz.underlying183,
 a212:=Tryz.isAgg183,
 z212:=Tryz.sizeOf183,
 v212:=Tryz.zeroValue183,
 t213:=Tryz.underlying185,
 a213:=Tryz.isAgg185,
 z213:=Tryz.sizeOf185,
 t232:=Tryz.underlying200,
 a232:=Tryz.isAgg200,
 z232:=Tryz.sizeOf200,
 v232:=Tryz.zeroValue200,
 t233:=Tryz.underlying201,
 a233:=Tryz.isAgg201,
 z233:=Tryz.sizeOf201,
 v233:=Tryz.zeroValue201,
 g17:=by kernel_rfl,
 g18:=by kernel_rfl,
 g19:=by kernel_rfl,
 i0:=by kernel_rfl,
 i2:=by kernel_rfl,
 i3:=by kernel_rfl,
 i4:=by kernel_rfl,
 i5:=by kernel_rfl,
 i9:=by kernel_rfl,
 i20:=by kernel_rfl,
 i37:=by kernel_rfl,
 i46:=by kernel_rfl,
 i51:=by kernel_rfl,
 i53:=by kernel_rfl,
 i171:=by kernel_rfl,
 i173:=by kernel_rfl,
 i212:=by kernel_rfl,
 i232:=by kernel_rfl,
 i233:=by kernel_rfl,
 m17:=by kernel_rfl,
 m18:=by kernel_rfl,
 m19:=by kernel_rfl }
theorem la156 : Lays.n156 Tryz.prog sren:={
 mixed:=by kernel_rfl,
 f156:=Tryz.func57.trans (congrArg some (by kernel_rfl)),
 f165:=Tryz.func84.trans (congrArg some (by kernel_rfl)),
 f166:=Tryz.func33.trans (congrArg some (by kernel_rfl)),
 f169:=Tryz.func37.trans (congrArg some (by kernel_rfl)),
 f240:=Tryz.func52.trans (congrArg some (by kernel_rfl)),
 f241:=Tryz.func101.trans (congrArg some (by kernel_rfl)),
 f276:=Tryz.func82.trans (congrArg some (by kernel_rfl)),
 f277:=Tryz.func113.trans (congrArg some (by kernel_rfl)),
 t0:=Tryz.underlying0,
 a0:=Tryz.isAgg0,
 z0:=Tryz.sizeOf0,
 v0:=Tryz.zeroValue0,
 t3:=Tryz.underlying3,
 a3:=Tryz.isAgg3,
 z3:=Tryz.sizeOf3,
 v3:=Tryz.zeroValue3,
 t4:=Tryz.underlying4,
 a4:=Tryz.isAgg4,
 z4:=Tryz.sizeOf4,
 v4:=Tryz.zeroValue4,
 t9:=Tryz.underlying9,
 a9:=Tryz.isAgg9,
 z9:=Tryz.sizeOf9,
 v9:=Tryz.zeroValue9,
 t20:=Tryz.underlying20,
 a20:=Tryz.isAgg20,
 z20:=Tryz.sizeOf20,
 v20:=Tryz.zeroValue20,
 t31:=Tryz.underlying101,
 a31:=Tryz.isAgg101,
 z31:=Tryz.sizeOf101,
 v31:=Tryz.zeroValue101,
 t37:=Tryz.underlying29,
 a37:=Tryz.isAgg29,
 z37:=Tryz.sizeOf29,
 v37:=Tryz.zeroValue29,
 t70:=Tryz.underlying88,
 a70:=Tryz.isAgg88,
 z70:=Tryz.sizeOf88,
 v70:=Tryz.zeroValue88,
 t72:=Tryz.underlying90,
 a72:=Tryz.isAgg90,
 z72:=Tryz.sizeOf90,
 v72:=Tryz.zeroValue90,
 t75:=Tryz.underlying92,
 a75:=Tryz.isAgg92,
 z75:=Tryz.sizeOf92,
 v75:=Tryz.zeroValue92,
 t76:=Tryz.underlying93,
 a76:=Tryz.isAgg93,
 z76:=Tryz.sizeOf93,
 v76:=Tryz.zeroValue93,
 t127:=Tryz.underlying114,
 a127:=Tryz.isAgg114,
 z127:=Tryz.sizeOf114,
 v127:=Tryz.zeroValue114,
 t164:=Tryz.underlying153,
 a164:=Tryz.isAgg153,
 z164:=Tryz.sizeOf153,
 v164:=Tryz.zeroValue153 }
theorem la167 : Lays.n167 Tryz.prog sren:={
 mixed:=by kernel_rfl,
 f167:=Tryz.func36.trans (congrArg some (by kernel_rfl)),
 f240:=Tryz.func52.trans (congrArg some (by kernel_rfl)),
 f276:=Tryz.func82.trans (congrArg some (by kernel_rfl)),
 t0:=Tryz.underlying0,
 a0:=Tryz.isAgg0,
 z0:=Tryz.sizeOf0,
 v0:=Tryz.zeroValue0,
 t4:=Tryz.underlying4,
 a4:=Tryz.isAgg4,
 z4:=Tryz.sizeOf4,
 v4:=Tryz.zeroValue4,
 t5:=Tryz.underlying5,
 a5:=Tryz.isAgg5,
 z5:=Tryz.sizeOf5,
 v5:=Tryz.zeroValue5,
 t9:=Tryz.underlying9,
 a9:=Tryz.isAgg9,
 z9:=Tryz.sizeOf9,
 v9:=Tryz.zeroValue9,
 t20:=Tryz.underlying20,
 a20:=Tryz.isAgg20,
 z20:=Tryz.sizeOf20,
 v20:=Tryz.zeroValue20,
 t37:=Tryz.underlying29,
 a37:=Tryz.isAgg29,
 z37:=Tryz.sizeOf29,
 v37:=Tryz.zeroValue29,
 t70:=Tryz.underlying88,
 a70:=Tryz.isAgg88,
 z70:=Tryz.sizeOf88,
 v70:=Tryz.zeroValue88,
 t72:=Tryz.underlying90,
 a72:=Tryz.isAgg90,
 z72:=Tryz.sizeOf90,
 v72:=Tryz.zeroValue90,
 t75:=Tryz.underlying92,
 a75:=Tryz.isAgg92,
 z75:=Tryz.sizeOf92,
 v75:=Tryz.zeroValue92,
 t164:=Tryz.underlying153,
 a164:=Tryz.isAgg153,
 z164:=Tryz.sizeOf153,
 v164:=Tryz.zeroValue153 }
theorem sextra : Builder.Extra Tryz.prog sren where
 sizeBuilder:=by kernel_rfl
 liesBuilder:=by kernel_rfl
 t5:=Tryz.underlying5
 a5:=Tryz.isAgg5
 z5:=Tryz.sizeOf5
 v5:=Tryz.zeroValue5
 infoByte:=by kernel_rfl
 cellsByte:=by kernel_rfl
 sizeByte:=by kernel_rfl
 neB5:=by decide
end Go.Proofs.YtcibcmfaebbhnaaGreatDoor.Tr
namespace Go.Proofs.YtcibcmfaebbhnaaGreatDoor.Tr
open Go.RowKit Go.WideShapes Go.ChangeShapes Q
theorem run_make_strs (n : Nat) (hn : n ≤ 1000000000) (W : World) :
  (Instr.makeSlice 101 (.int .i64 (n : Int)) (.int .i64 (n : Int))).run Tryz.prog W = .ok (.slice (some ⟨W.heap.size,0,none⟩) n n) (W.alloc (.cells (madeCells #[.string ⟨#[]⟩] n) 9)):=by
 obtain ⟨i0,hi,hz0,hz1,hz2⟩:=info_parts info9;have:=run_make_rowN (P:=Tryz.prog) 101 9 i0 (.string ⟨#[]⟩) Tryz.underlying101 hi hz0 .i64 .i64 n n (Nat.le_refl _) (by rw [hz2];omega) (by omega) W;rw [hz1,Nat.mul_one] at this;exact this
def Fit (x : Int) : Prop:=-9223372036854775808 ≤ x ∧ x ≤ 9223372036854775807
theorem joined_any (A : Option Addr) (B n c : Nat) (xs : List Int) (sep : List UInt8) (w : World) (h : RI w B A n xs) (hB : B ≤ w.heap.size) (hx : ∀ x ∈ xs,Fit x) (hn : n ≤ 10000000) (hs : sep.length ≤ 1000) (hT : Tab w) :
  Calls Tryz.prog 56 #[.slice A n c,.string (S sep)] w fun e w' => e = .returned (.string (S (Lib.join (xs.map Lib.itoa) sep))) ∧ Below w.heap.size w w':=by
 have hl:=h.len;have HX:=hide hx;have HL:=hide hl;have HR:=hide h;have HT:=hide hT;have hmk:=run_make_strs n (by omega);clear hx hl h hT;go_enter Tryz.func56,Tryz.ntmps56;go_upto_region 3 with fail
 clear hmk;go_loopw [6,7,13] (fun _ _ i wr => ∃ (k : Nat) (C : Array Value),k ≤ n ∧ i = .int .i64 k ∧ Hid (Blk wr w.heap.size 9 C) ∧ Hid (C.size = n ∧ ∀ j x,j < k → xs[j]? = some x → C[j]? = some (.string (S (Lib.itoa x)))) ∧ Hid (Below w.heap.size w wr)) (fun _ _ i _ => n - (intOf i).toNat)
 case atStart => exact ⟨0,madeCells #[.string ⟨#[]⟩] n,Nat.zero_le _,rfl,Blk.new _ _ _,⟨size_madeCells _ _,fun j x hj => absurd hj (by omega)⟩,(Below.refl _ _).alloc (Nat.le_refl _) _⟩
 case round =>
  obtain ⟨k,C,hk,rfl,hblk,hC,hb⟩:=hrel
  by_cases hlt : k < n
  ·obtain ⟨ad,rfl,hab,hc⟩:=RI.at_ (Reads.below HR.out (hb.out.mono hB)) hlt
   have hkx : k < xs.length:=by have:=HL.out;omega
   obtain ⟨x,hxe⟩ : ∃ x,x = nth xs k:=⟨_,rfl⟩;have hxk : xs[k]? = some x:=by rw [hxe];simp [nth,hkx]
   rw [← hxe] at hc;have hfx:=HX.out x (List.mem_of_getElem? hxk);have HXK:=hide hxk;have k0 : (0 : Int) ≤ (k : Int):=by omega
   have kn : (k : Int) < (n : Int):=by omega
   obtain ⟨wo,hwo⟩ : ∃ wo,wo = wr:=⟨_,rfl⟩;rw [← hwo] at hblk hb hc ⊢;have HI:=hide (itoa_any x wo hfx.1 hfx.2 (HT.out.below hb.out));have hsw : w.heap.size ≤ wo.heap.size:=hb.out.size;clear hxe hxk hwo;go_wp2_with (go_at_call 54;refine HI.out.mono ?_;rintro e w2 ⟨rfl,hb2⟩;have hB2:=hblk.out.below hb2 hblk.out.lt;obtain ⟨v0,hv0⟩ : ∃ v0,C[k]? = some v0:=⟨_,Array.getElem?_eq_getElem (by have:=hC.out.1;omega)⟩;have hc2 : w2.cell? ⟨w.heap.size,k,none⟩ = some v0:=(by rw [hB2.cell];exact hv0);have hf2:=hB2.frozen k;have HB2:=hide hb2;have HBK:=hide hB2;clear hB2 hb2 hv0);have HBK2 : Hid (Blk (w2.setCell ⟨w.heap.size,k,none⟩ (.string (S (Lib.itoa x)))) w.heap.size 9 (C.setIfInBounds k (.string (S (Lib.itoa x))))):=HBK.out.set_ k _;have HBB : Hid (Below w.heap.size w (w2.setCell ⟨w.heap.size,k,none⟩ (.string (S (Lib.itoa x))))):=(hb.out.trans (HB2.out.mono hsw)).setCell (Nat.le_refl _) _
   have HC2 : Hid ((C.setIfInBounds k (.string (S (Lib.itoa x)))).size = n ∧ ∀ j y,j < k + 1 → xs[j]? = some y → (C.setIfInBounds k (.string (S (Lib.itoa x))))[j]? = some (.string (S (Lib.itoa y)))):=by
    refine ⟨by simpa using hC.out.1,fun j y hj hy => ?_⟩
    by_cases e : k = j
    ·subst e
     rw [HXK.out] at hy;injection hy with hy
     subst hy;rw [Array.getElem?_setIfInBounds_self_of_lt (by have:=hC.out.1;omega)]
    ·rw [Array.getElem?_setIfInBounds_ne e]
     exact hC.out.2 j y (by omega) hy
   go_roundw
   case rel => exact ⟨k + 1,_,by omega,by go_num,HBK2,HC2,HBB⟩
   case measure => simp [intOf];omega
  ·obtain hkn : k = n:=by omega
   have kn : ¬ (k : Int) < (n : Int):=by omega
   have HJ : Hid (Calls Tryz.prog 57 #[.slice (some ⟨w.heap.size,0,none⟩) n n,.string (S sep)] wr fun e w' => e = .returned (.string (S (Lib.join (xs.map Lib.itoa) sep))) ∧ Below wr.heap.size wr w'):=by
    have hlen : (xs.map Lib.itoa).length = n:=by rw [List.length_map,HL.out]
    have:=join_any w.heap.size n (xs.map Lib.itoa) sep wr (fun j l hl => by
     rw [List.getElem?_map] at hl;obtain ⟨x,hx,rfl⟩:=Option.map_eq_some_iff.1 hl;rw [hblk.out.cell];exact hC.out.2 j x (by have:=(List.getElem?_eq_some_iff.1 hx).1;have:=HL.out;omega) hx) hblk.out.lt (by omega) (by omega) (by
     have h1:=join_le 21 (xs.map Lib.itoa) sep (fun l hl => by
      obtain ⟨x,hx,rfl⟩:=List.mem_map.1 hl;have:=HX.out x hx;exact itoa_len x this.1 this.2)
     rw [hlen] at h1;have h2 : (21 + sep.length) * n ≤ 1021 * 10000000:=Nat.mul_le_mul (by omega) hn;omega)
    rw [hlen] at this;exact this
   have hsw : w.heap.size ≤ wr.heap.size:=hb.out.size;clear hlt;go_wp2_with (go_at_call 57;refine HJ.out.mono ?_;rintro e w3 ⟨rfl,hb3⟩;have HB3:=hide hb3;clear hb3);go_ret;exact ⟨rfl,hb.out.trans (HB3.out.mono hsw)⟩
def strs (ls : List (List UInt8)) : List Value:=ls.map fun l => .string (S l)
theorem strs_append (a b : List (List UInt8)) : strs (a ++ b) = strs a ++ strs b:=by simp [strs]
structure PL (w : World) (base pl : Nat) (ls : List (List UInt8)) : Prop where
 lo : base ≤ pl
 ex : ∃ A c,Blk w pl 101 #[.slice A ls.length c] ∧ w.ownsRow base 9 1 (.slice A ls.length c) ls.length (strs ls)
def addP (b : Bool) (ls : List (List UInt8)) (nm v : List UInt8) : List (List UInt8):=if b = true then ls ++ [nm ++ [61] ++ v] else ls
theorem part_any (b : Bool) (nm v : List UInt8) (base pl : Nat) (ls : List (List UInt8)) (w : World) (h : PL w base pl ls) (hn : nm.length ≤ 1000) (hv : v.length ≤ 140000000000000) (hl : ls.length ≤ 1000) (hb : base ≤ w.heap.size) :
  Calls Tryz.prog 55 #[.bool b,.string (S nm),.string (S v),.pointer (some ⟨pl,0,none⟩)] w fun e w' => e = .returned (.tuple #[]) ∧ PL w' base pl (addP b ls nm v) ∧ Below base w w':=by
 have HPL:=hide h
 cases b with
 | false =>
  go_enter Tryz.func55,Tryz.ntmps55;go_wp2_with fail;refine bodyPost_end (results_none rfl _ _ _) rfl ?_;exact ⟨rfl,HPL.out,Below.refl _ _⟩
 | true =>
  obtain ⟨A,c,hblk,hown⟩:=h.ex;have hc0 : w.cell? ⟨pl,0,none⟩ = some (.slice A ls.length c):=by have:=hblk.cell 0;simpa using this
  have hf0:=hblk.frozen 0;obtain ⟨i9,hi9,hz9,hs9,hb9⟩:=info_parts info9;have I9:=hide hi9;have HO:=hide hown;have HB:=hide hblk;have hs1 : ¬ 9223372036854775807 < (S nm).size + 1:=by rw [S_size];omega
  have hs2 : ¬ 9223372036854775807 < (S nm).size + 1 + (S v).size:=by rw [S_size,S_size];omega
  clear hblk hown hi9;go_enter Tryz.func55,Tryz.ntmps55;have hlo:=h.lo;go_wp2_with (at_builtin;refine wpList_push (W:=w) (cs:=#[.string (S nm ++ { data:=#[61] } ++ S v)]) ?_ (.tmp 8) (.tmp 13) 101 ?_ base 9 i9 (.string { data:=#[] }) 1 16 Tryz.underlying101 I9.out hz9 hs9 hb9 rfl ?_ (.slice A ls.length c) ls.length (strs ls) ?_ HO.out 1 1 ?_ ?_ ?_ ?_ ?_ ?_ hb ?_;rfl;rfl;omega;rfl;rfl;rfl;(simp [Value.oneCell']);omega;(unfold maxLen;omega);omega;intro g7 c7 w7 hown7 hgr7 hb7 _ _ _;have hB7:=Blk.grown (HB.out.alloc _) hgr7 (own_ne HO.out HB.out (by decide));have hc7 : w7.cell? ⟨pl,0,none⟩ = some (.slice A ls.length c):=(by have:=hB7.cell 0;simpa using this);have hf7:=hB7.frozen 0;have HB7:=hide hB7;have HO7:=hide hown7;have HL7:=hide hb7;clear hB7 hown7 hgr7 hb7);refine bodyPost_end (results_none rfl _ _ _) rfl ?_;have hne:=own_ne HO7.out HB7.out (by decide);refine ⟨rfl,⟨hlo,some ⟨g7,0,none⟩,c7,?_,?_⟩,HL7.out.setCell hlo _⟩
  ·have:=HB7.out.set_ 0 (.slice (some ⟨g7,0,none⟩) (ls.length + 1) c7)
   rw [show addP true ls nm v = ls ++ [nm ++ [61] ++ v] from rfl,List.length_append];exact this
  ·rw [show addP true ls nm v = ls ++ [nm ++ [61] ++ v] from rfl,strs_append,List.length_append]
   refine ownsRow_setCell_other ?_ (fun e => hne e.symm) _
   have e1 : strs [nm ++ [61] ++ v] = [.string (S nm ++ { data:=#[61] } ++ S v)]:=by
    show [Value.string (S (nm ++ [61] ++ v))] = _;rw [← S_append,← S_append]
    rfl
   rw [e1];exact HO7.out
end Go.Proofs.YtcibcmfaebbhnaaGreatDoor.Tr
