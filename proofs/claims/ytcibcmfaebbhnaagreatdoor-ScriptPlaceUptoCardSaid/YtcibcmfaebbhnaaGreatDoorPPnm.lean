/-
  Contract of the library's ParseUint laid at this program. (Printed by wip/tools/mklayp.py.) The program's count and whole. The program's number: the next word as a count from lo to hi.
-/
import Derived.Shelf.Pu.ParseUintPublic10
import Derived.Test.YtcibcmfaebbhnaaGreatDoorPRdc
import Derived.Test.YtcibcmfaebbhnaaGreatDoorPRead
import Derived.Test.YtcibcmfaebbhnaaGreatDoorPPrd
set_option linter.unusedSimpArgs false
set_option linter.unusedVariables false
set_option maxRecDepth 100000
set_option maxHeartbeats 4000000

namespace Go.Proofs.YtcibcmfaebbhnaaGreatDoor
open Go.Shelf
def pren : Go.Shelf.Ren:=⟨fun | 14 => 107 | 16 => 118 | 17 => 119 | 19 => 123 | 20 => 124 | 21 => 125 | 22 => 126 | 23 => 127 | 24 => 128 | 25 => 129 | 26 => 130 | 27 => 54 | 28 => 83 | 29 => 100 | 30 => 96 | 31 => 97 | 32 => 98 | 33 => 99 | 34 => 108 | 35 => 109 | 36 => 110 | 37 => 111 | 38 => 112 | 39 => 120 | 40 => 121 | n => n,
 fun | 0 => 0 | 2 => 2 | 3 => 3 | 4 => 4 | 5 => 5 | 9 => 9 | 20 => 20 | 21 => 21 | 22 => 151 | 24 => 92 | 25 => 179 | 34 => 194 | 36 => 156 | 37 => 29 | 39 => 197 | 44 => 203 | 47 => 114 | 48 => 205 | 50 => 207 | 52 => 168 | 55 => 171 | 59 => 183 | 60 => 184 | 61 => 185 | 65 => 200 | 66 => 201 | 67 => 98 | n => n,
 fun | 0 => 6 | 1 => 7 | 2 => 2 | 3 => 4 | 4 => 5 | n => n⟩
theorem lap14 : LaysPu.n14 Tryz.prog pren:={
 mixed:=by kernel_rfl,
 f14:=Tryz.func107.trans (congrArg some (by kernel_rfl)),
 f16:=Tryz.func118.trans (congrArg some (by kernel_rfl)),
 f17:=Tryz.func119.trans (congrArg some (by kernel_rfl)),
 f19:=Tryz.func123.trans (congrArg some (by kernel_rfl)),
 f20:=Tryz.func124.trans (congrArg some (by kernel_rfl)),
 f21:=Tryz.func125.trans (congrArg some (by kernel_rfl)),
 f22:=Tryz.func126.trans (congrArg some (by kernel_rfl)),
 f23:=Tryz.func127.trans (congrArg some (by kernel_rfl)),
 f24:=Tryz.func128.trans (congrArg some (by kernel_rfl)),
 f25:=Tryz.func129.trans (congrArg some (by kernel_rfl)),
 f26:=Tryz.func130.trans (congrArg some (by kernel_rfl)),
 f27:=Tryz.func54.trans (congrArg some (by kernel_rfl)),
 f28:=Tryz.func83.trans (congrArg some (by kernel_rfl)),
 f29:=Tryz.func100.trans (congrArg some (by kernel_rfl)),
 f30:=Tryz.func96.trans (congrArg some (by kernel_rfl)),
 f31:=Tryz.func97.trans (congrArg some (by kernel_rfl)),
 f32:=Tryz.func98.trans (congrArg some (by kernel_rfl)),
 f33:=Tryz.func99.trans (congrArg some (by kernel_rfl)),
 f34:=Tryz.func108.trans (congrArg some (by kernel_rfl)),
 f35:=Tryz.func109.trans (congrArg some (by kernel_rfl)),
 f36:=Tryz.func110.trans (congrArg some (by kernel_rfl)),
 f37:=Tryz.func111.trans (congrArg some (by kernel_rfl)),
 f38:=Tryz.func112.trans (congrArg some (by kernel_rfl)),
 f39:=Tryz.func120.trans (congrArg some (by kernel_rfl)),
 f40:=Tryz.func121.trans (congrArg some (by kernel_rfl)),
 t0:=Tryz.underlying0,
 a0:=Tryz.isAgg0,
 z0:=Tryz.sizeOf0,
 v0:=Tryz.zeroValue0,
 i0:=by kernel_rfl,
 t2:=Tryz.underlying2,
 a2:=Tryz.isAgg2,
 z2:=Tryz.sizeOf2,
 v2:=Tryz.zeroValue2,
 i2:=by kernel_rfl,
 t3:=Tryz.underlying3,
 a3:=Tryz.isAgg3,
 z3:=Tryz.sizeOf3,
 v3:=Tryz.zeroValue3,
 i3:=by kernel_rfl,
 t4:=Tryz.underlying4,
 a4:=Tryz.isAgg4,
 z4:=Tryz.sizeOf4,
 v4:=Tryz.zeroValue4,
 i4:=by kernel_rfl,
 t5:=Tryz.underlying5,
 a5:=Tryz.isAgg5,
 z5:=Tryz.sizeOf5,
 v5:=Tryz.zeroValue5,
 i5:=by kernel_rfl,
 t9:=Tryz.underlying9,
 a9:=Tryz.isAgg9,
 z9:=Tryz.sizeOf9,
 v9:=Tryz.zeroValue9,
 i9:=by kernel_rfl,
 t20:=Tryz.underlying20,
 a20:=Tryz.isAgg20,
 z20:=Tryz.sizeOf20,
 v20:=Tryz.zeroValue20,
 i20:=by kernel_rfl,
 t21:=Tryz.underlying21,
 a21:=Tryz.isAgg21,
 z21:=Tryz.sizeOf21,
 v21:=Tryz.zeroValue21,
 i21:=by kernel_rfl,
 t22:=Tryz.underlying151,
 a22:=Tryz.isAgg151,
 z22:=Tryz.sizeOf151,
 v22:=Tryz.zeroValue151,
 i22:=by kernel_rfl,
 t24:=Tryz.underlying92,
 a24:=Tryz.isAgg92,
 z24:=Tryz.sizeOf92,
 v24:=Tryz.zeroValue92,
 i24:=by kernel_rfl,
 t25:=Tryz.underlying179,
 a25:=Tryz.isAgg179,
 z25:=Tryz.sizeOf179,
 v25:=Tryz.zeroValue179,
 i25:=by kernel_rfl,
 t34:=Tryz.underlying194,
 a34:=Tryz.isAgg194,
 z34:=Tryz.sizeOf194,
 v34:=Tryz.zeroValue194,
 i34:=by kernel_rfl,
 c34:=by kernel_rfl,
 t36:=Tryz.underlying156,
 a36:=Tryz.isAgg156,
 z36:=Tryz.sizeOf156,
 v36:=Tryz.zeroValue156,
 i36:=by kernel_rfl,
 t37:=Tryz.underlying29,
 a37:=Tryz.isAgg29,
 z37:=Tryz.sizeOf29,
 v37:=Tryz.zeroValue29,
 i37:=by kernel_rfl,
 t39:=Tryz.underlying197,
 a39:=Tryz.isAgg197,
 z39:=Tryz.sizeOf197,
 v39:=Tryz.zeroValue197,
 i39:=by kernel_rfl,
 t44:=Tryz.underlying203,
 a44:=Tryz.isAgg203,
 z44:=Tryz.sizeOf203,
 v44:=Tryz.zeroValue203,
 i44:=by kernel_rfl,
 t47:=Tryz.underlying114,
 a47:=Tryz.isAgg114,
 z47:=Tryz.sizeOf114,
 v47:=Tryz.zeroValue114,
 i47:=by kernel_rfl,
 t48:=Tryz.underlying205,
 a48:=Tryz.isAgg205,
 z48:=Tryz.sizeOf205,
 v48:=Tryz.zeroValue205,
 i48:=by kernel_rfl,
 t50:=Tryz.underlying207,
 a50:=Tryz.isAgg207,
 z50:=Tryz.sizeOf207,
 v50:=Tryz.zeroValue207,
 i50:=by kernel_rfl,
 t52:=Tryz.underlying168,
 a52:=Tryz.isAgg168,
 z52:=Tryz.sizeOf168,
 v52:=Tryz.zeroValue168,
 i52:=by kernel_rfl,
 t55:=Tryz.underlying171,
 a55:=Tryz.isAgg171,
 z55:=Tryz.sizeOf171,
 v55:=Tryz.zeroValue171,
 i55:=by kernel_rfl,
 t59:=Tryz.underlying183,
 a59:=Tryz.isAgg183,
 z59:=Tryz.sizeOf183,
 v59:=Tryz.zeroValue183,
 i59:=by kernel_rfl,
 t60:=Tryz.underlying184,
 a60:=Tryz.isAgg184,
 z60:=Tryz.sizeOf184,
 v60:=Tryz.zeroValue184,
 i60:=by kernel_rfl,
 t61:=Tryz.underlying185,
 a61:=Tryz.isAgg185,
 z61:=Tryz.sizeOf185,
 t65:=Tryz.underlying200,
 a65:=Tryz.isAgg200,
 z65:=Tryz.sizeOf200,
 v65:=Tryz.zeroValue200,
 i65:=by kernel_rfl,
 t66:=Tryz.underlying201,
 a66:=Tryz.isAgg201,
 z66:=Tryz.sizeOf201,
 v66:=Tryz.zeroValue201,
 i66:=by kernel_rfl,
 t67:=Tryz.underlying98,
 a67:=Tryz.isAgg98,
 z67:=Tryz.sizeOf98,
 v67:=Tryz.zeroValue98,
 i67:=by kernel_rfl,
 g0:=by kernel_rfl,
 m0:=by kernel_rfl,
 g1:=by kernel_rfl,
 m1:=by kernel_rfl,
 g2:=by kernel_rfl,
 m2:=by kernel_rfl,
 g3:=by kernel_rfl,
 m3:=by kernel_rfl,
 g4:=by kernel_rfl,
 m4:=by kernel_rfl }
end Go.Proofs.YtcibcmfaebbhnaaGreatDoor
namespace Go.Proofs.YtcibcmfaebbhnaaGreatDoor
open Go.RowKit Go.WideShapes Go.ChangeShapes Q
def ctV (l : List UInt8) : Value:=match cnt l with
  | some n => .tuple #[.int .i64 (n : Int),.bool true]
  | none => .tuple #[.int .i64 0,.bool false]
theorem ctV_none {l : List UInt8} (h : cnt l = none) : ctV l = .tuple #[.int .i64 0,.bool false]:=by unfold ctV;rw [h]
theorem ctV_some {l : List UInt8} {n : Nat} (h : cnt l = some n) : ctV l = .tuple #[.int .i64 (n : Int),.bool true]:=by unfold ctV;rw [h]
def PcLoop (s : ByteArray) (w : World) (i : Value) (wr : World) : Prop:=w = wr ∧ ∃ j : Nat,j ≤ s.size ∧ i = .int .i64 j ∧ (s.data.toList.take j).all isD = true
theorem count_prog (s : ByteArray) (w : World) (hs : s.size ≤ 1000000000000) :
    Calls Tryz.prog 95 #[.string s] w fun e w' => e = .returned (ctV s.data.toList) ∧ Below w.heap.size w w':=by
  by_cases h0 : s.size = 0
  · have HS:=hide (ctV_none (cnt_shape (s:=s) (.inl h0)))
    obtain rfl : s = ⟨#[]⟩:=by
      apply ByteArray.ext
      apply Array.toList_inj.1
      exact bempty.2 h0
    clear h0;go_enter Tryz.func95,Tryz.ntmps95;go_wp2_with fail;refine bodyPost_ret (results_tmp2 rfl _ _ _) rfl ?_;refine ⟨?_,Below.refl _ _⟩;rw [HS.out]
    rfl
  · have hz0 : 0 < s.size:=by omega
    have hne2 : ¬ s.toList = []:=by
      intro e
      apply h0
      have : s.toList.length = s.size:=by simp [ByteArray.toList_eq]
      rw [e] at this;exact this.symm
    have hne3 : s.toList.isEmpty = false:=by
      cases hq : s.toList with
      | nil => exact absurd hq hne2
      | cons a r => rfl
    obtain ⟨c0,hc0⟩ : ∃ c0,c0 = s[0]'hz0:=⟨_,rfl⟩;have hcc:=hc0.symm;have e4 : (0 : Int) < (s.size : Int):=by omega
    by_cases hn : 19 < s.size ∨ (1 < s.size ∧ s.data.toList.head? = some 48)
    · have HS:=hide (ctV_none (cnt_shape (s:=s) (.inr hn)))
      by_cases hl : 1 < s.size ∧ c0.toNat = 48
      · have e1 : (1 : Int) < (s.size : Int):=by omega
        have e2 : ((c0.toNat : Int) == 48) = true:=by rw [beq_iff_eq];omega
        clear hn hl h0 hc0;go_enter Tryz.func95,Tryz.ntmps95;go_wp2_with fail;refine bodyPost_ret (results_tmp2 rfl _ _ _) rfl ?_;refine ⟨?_,Below.refl _ _⟩;rw [HS.out]
        rfl
      · have h19 : 19 < s.size:=by
          rcases hn with hn | ⟨h1,h48⟩
          · exact hn
          · exfalso
            apply hl
            refine ⟨h1,?_⟩;rw [bhead hz0,← hc0] at h48;rw [Option.some.inj h48]
            rfl
        have e1 : (1 : Int) < (s.size : Int):=by omega
        have e2 : ((c0.toNat : Int) == 48) = false:=by rw [beq_eq_false_iff_ne];intro h;exact hl ⟨by omega,by omega⟩
        have e3 : (19 : Int) < (s.size : Int):=by omega
        clear hn hl h0 hc0 h19;go_enter Tryz.func95,Tryz.ntmps95;go_wp2_with fail;refine bodyPost_ret (results_tmp2 rfl _ _ _) rfl ?_;refine ⟨?_,Below.refl _ _⟩;rw [HS.out]
        rfl
    · have h19 : s.size ≤ 19:=by omega
      have HNO : Hid (¬ (s.size = 0 ∨ 19 < s.size ∨ (1 < s.size ∧ s.data.toList.head? = some 48))):=by
        rintro (h | h)
        · exact h0 h
        · exact hn h
      have hz : 1 < s.size → c0.toNat ≠ 48:=by
        intro h1 h
        apply hn
        refine .inr ⟨h1,?_⟩;rw [bhead hz0,← hc0]
        congr 1
        apply UInt8.toNat_inj.1
        exact h
      have e3 : ¬ (19 : Int) < (s.size : Int):=by omega
      have HL0 : Hid (PcLoop s w (.int .i64 0) w):=⟨rfl,0,Nat.zero_le _,rfl,rfl⟩;clear hn hc0 h0
      by_cases h1 : 1 < s.size
      all_goals
        first
        | (have e1 : (1 : Int) < (s.size : Int):=by omega
           have e2 : ((c0.toNat : Int) == 48) = false:=by rw [beq_eq_false_iff_ne];have:=hz h1;omega)
        | (have e1 : ¬ (1 : Int) < (s.size : Int):=by omega
           have e2 : c0.toNat < 256:=c0.toNat_lt)
        clear hz h1;go_enter Tryz.func95,Tryz.ntmps95;go_upto_region 4 with fail
        clear e1 e2 e3 hcc hne2 hne3;go_loopw [4,26] (fun _ i wr => PcLoop s w i wr) (fun _ i _ => s.size - (intOf i).toNat)
        case atStart => exact HL0.out
        case round =>
          clear HL0;unfold PcLoop at hrel;obtain ⟨rfl,j,hj,rfl,hall⟩:=hrel;have HALL:=hide hall;clear hall;have j0 : (0 : Int) ≤ (j : Int):=by omega
          by_cases hlt : j < s.size
          · obtain ⟨c,hc⟩ : ∃ c,c = s[j]:=⟨_,rfl⟩
            have hcc:=hc.symm;have HC:=hide hc;have c256 : c.toNat < 256:=c.toNat_lt;have js : (j : Int) < (s.size : Int):=by omega
            by_cases hd : 48 ≤ c.toNat ∧ c.toNat ≤ 57
            · have d1 : ¬ (c.toNat : Int) < 48:=by omega
              have d2 : ¬ 57 < (c.toNat : Int):=by omega
              have hD : isD c = true:=decide_eq_true hd
              have HALL2 : Hid ((s.data.toList.take (j + 1)).all isD = true):=by
                show _ = _;rw [take_snoc hlt,List.all_append,HALL.out,← HC.out,List.all_cons,hD]
                rfl
              have HL4 : Hid (PcLoop s w (.int .i64 ((j : Int) + 1)) w):=⟨rfl,j + 1,by omega,by go_num,HALL2.out⟩;clear hc hd;go_wp2_with fail;go_roundw
              case rel => first | exact HL4.out | exact ⟨_,_,HL4.out,rfl,rfl⟩
              case measure => simp [intOf];omega
            · have hD : isD c = false:=decide_eq_false hd
              have HS:=hide (ctV_none (cnt_digit hlt (by rw [← HC.out];exact hD)));have g1 : (48 : Int) ≤ (c.toNat : Int) → 57 < (c.toNat : Int):=by omega
              clear hc hd
              by_cases hlo : (c.toNat : Int) < 48
              all_goals
                go_wp2_with fail
                all_goals try (exfalso;omega)
                all_goals refine bodyPost_ret (results_tmp2 rfl _ _ _) rfl ?_
                all_goals refine ⟨?_,Below.refl _ _⟩
                all_goals rw [HS.out]
                all_goals rfl
          · have js : ¬ (j : Int) < (s.size : Int):=by omega
            have ht : s.data.toList.take j = s.data.toList:=List.take_of_length_le (by rw [str_len];omega);have hA:=HALL.out;rw [ht] at hA;obtain ⟨V,hV⟩ : ∃ V,V = valD 0 s.data.toList:=⟨_,rfl⟩
            have hpar : Lib.parseUintB 64 s.data.toList = .ok V:=by
              rw [hV];exact parse_cnt (fun e => by have:=bempty.1 e;omega) (by rw [str_len];exact h19) hA
            have hV64 : V ≤ 18446744073709551615:=Lib.parseUintB_le hpar
            have HP : Hid (Calls Tryz.prog 107 #[.string s,.int .i64 10,.int .i64 64] w fun e w' => e = .returned (.tuple #[.int .u64 (V : Int),.nilIface]) ∧ Below w.heap.size w w'):=by
              refine (Any.strconv_ParseUint_10_at64_ok lap14 s (by omega) V hpar w).mono ?_;rintro e w' ⟨he,hw | hw⟩
              · exact ⟨he,by rw [hw];exact Below.refl _ _⟩
              · exact ⟨he,by rw [hw];exact Lib.bytesWorld_below _ _ _⟩
            by_cases hov : V ≤ 4611686018427387904
            · have HS:=hide (ctV_some (cnt_yes HNO.out hA (by rw [← hV];exact hov)))
              have o1 : ¬ (4611686018427387904 : Int) < (V : Int):=by omega
              have HV:=hide hV;clear hlt hA ht hpar hV;go_wp2_with (go_at_call 107;refine HP.out.mono ?_;rintro e w2 ⟨rfl,hb2⟩;have HB2:=hide hb2;clear hb2);refine bodyPost_ret (results_tmp2 rfl _ _ _) rfl ?_;refine ⟨?_,HB2.out⟩;rw [HS.out,← HV.out]
              rfl
            · have HS:=hide (ctV_none (cnt_over (s:=s) s.size (by rw [List.take_of_length_le (by rw [str_len];omega),← hV];omega)))
              have o1 : (4611686018427387904 : Int) < (V : Int):=by omega
              clear hlt hA ht hpar hV;go_wp2_with (go_at_call 107;refine HP.out.mono ?_;rintro e w2 ⟨rfl,hb2⟩;have HB2:=hide hb2;clear hb2);refine bodyPost_ret (results_tmp2 rfl _ _ _) rfl ?_;refine ⟨?_,HB2.out⟩;rw [HS.out]
              rfl
def NuP (lo hi : Nat) (ws : List Wd) (b r : Nat) (nodes : Int) (m : Em) (w : World) (e : Ending) (w' : World) : Prop:=∃ (A : Option Addr) (c : Nat) (v : Int) (ok : Bool) (ws' : List Wd),e = .returned (.tuple #[.int .i64 v,.bool ok]) ∧ Rd w' b r A c nodes ws' m ∧ Only (fun q => q = r) w w' ∧
 (ok = true → ∃ x : Nat,v = (x : Int) ∧ numP lo hi ws = some (x,ws')) ∧ (ok = false → numP lo hi ws = none)
theorem numP_tail {lo hi x : Nat} {ws ws' : List Wd} (h : numP lo hi ws = some (x,ws')) : (∃ d,ws = d :: ws') ∧ lo ≤ x ∧ x ≤ hi:=by
 cases ws with
 | nil => cases h
 | cons d l =>
  simp only [numP] at h
  cases hd : wcnt d with
  | none => rw [hd] at h;cases h
  | some y =>
   rw [hd] at h;simp only at h
   split at h
   ·rename_i h2
    injection h with h
    injection h with h3 h4
    subst h3 h4;exact ⟨⟨d,rfl⟩,h2⟩
   ·cases h
theorem txtP_tail {most : Nat} {t : List UInt8} {ws ws' : List Wd} (h : txtP most ws = some (t,ws')) : (∃ d,ws = d :: ws') ∧ t.length ≤ most:=by
 cases ws with
 | nil => cases h
 | cons d l =>
  simp only [txtP] at h
  split at h
  ·rename_i h2
   injection h with h
   injection h with h3 h4
   subst h3 h4;exact ⟨⟨d,rfl⟩,h2.2⟩
  ·cases h
theorem number_any (lo hi : Nat) (ws : List Wd) (b r : Nat) (A : Option Addr) (c : Nat) (nodes : Int) (m : Em) (w : World) (h : Rd w b r A c nodes ws m) (hl : ws.length ≤ 90000000) (hz : ∀ d ∈ ws,d.1.length ≤ 100000000) :
  Calls Tryz.prog 80 #[.pointer (some ⟨r,0,none⟩),.int .i64 (lo : Int),.int .i64 (hi : Int)] w fun e w' => NuP lo hi ws b r nodes m w e w':=by
 have HPL:=hide (plain_any ws b r A c nodes m w h hl);have HZ:=hide hz;clear h hz hl;go_enter Tryz.func80,Tryz.ntmps80;go_upto_region 2 with (go_at_call 63;refine HPL.out.mono ?_;rintro e w2 ⟨A2,c2,t,ok,ws',rfl,hr2,ho2,h1,h2⟩;have HR2:=hide hr2;have HO2:=hide ho2;have H1:=hide h1;have H2:=hide h2;clear hr2 ho2 h1 h2)
 cases ok with
 | false =>
  have HN : Hid (numP lo hi ws = none):=by
   show _ = _;obtain ⟨_,_,h⟩:=H2.out rfl
   cases ws with
   | nil => rfl
   | cons d l =>
    have:=h d l rfl;simp only [numP,wcnt];rw [if_pos this]
  go_wp2_with fail;refine bodyPost_ret (results_tmp2 rfl _ _ _) rfl ?_;exact ⟨A2,c2,0,false,ws',rfl,HR2.out,HO2.out,(fun h => by cases h),fun _ => HN.out⟩
 | true =>
  have HWS : Hid (ws = (t,false) :: ws'):=H1.out rfl;have htl : t.length ≤ 100000000:=HZ.out (t,false) (by rw [HWS.out];simp);have HC:=hide (count_prog (S t) w2 (by rw [S_size];omega))
  have HNE : Hid (numP lo hi ws = match cnt t with | some x => if lo ≤ x ∧ x ≤ hi then some (x,ws') else none | none => none):=by
   show _ = _;rw [HWS.out]
   rfl
  have HST : Hid (∀ w3,Below w2.heap.size w2 w3 → Rd w3 b r A2 c2 nodes ws' m ∧ Only (fun q => q = r) w w3):=fun w3 h3 => ⟨HR2.out.step h3,HO2.out.trans' (Only.of_below (F:=fun q => q = r) h3 (Nat.le_refl _)) (fun _ _ h => h)⟩
  cases hct : cnt t with
  | none =>
   have HC2 : Hid (Calls Tryz.prog 95 #[.string (S t)] w2 fun e w' => e = .returned (.tuple #[.int .i64 0,.bool false]) ∧ Below w2.heap.size w2 w'):=by
    have:=HC.out;rw [S_data,ctV_none hct] at this;exact this
   have HN : Hid (numP lo hi ws = none):=by
    show _ = _;rw [HNE.out,hct]
   clear HC hct;go_wp2_with (go_at_call 95;refine HC2.out.mono ?_;rintro e w3 ⟨rfl,hb3⟩;have HF:=hide (HST.out w3 hb3);clear hb3);refine bodyPost_ret (results_tmp2 rfl _ _ _) rfl ?_;exact ⟨A2,c2,0,false,ws',rfl,HF.out.1,HF.out.2,(fun h => by cases h),fun _ => HN.out⟩
  | some x =>
   have HC2 : Hid (Calls Tryz.prog 95 #[.string (S t)] w2 fun e w' => e = .returned (.tuple #[.int .i64 (x : Int),.bool true]) ∧ Below w2.heap.size w2 w'):=by
    have:=HC.out;rw [S_data,ctV_some hct] at this;exact this
   have HN : Hid (numP lo hi ws = if lo ≤ x ∧ x ≤ hi then some (x,ws') else none):=by
    show _ = _;rw [HNE.out,hct]
   clear HC hct
   by_cases hlo : lo ≤ x
   ·have g1 : (lo : Int) ≤ (x : Int):=by omega
    by_cases hhi : x ≤ hi
    ·have g2 : (x : Int) ≤ (hi : Int):=by omega
     have HN2 : Hid (numP lo hi ws = some (x,ws')):=by
      show _ = _;rw [HN.out,if_pos ⟨hlo,hhi⟩]
     go_wp2_with (go_at_call 95;refine HC2.out.mono ?_;rintro e w3 ⟨rfl,hb3⟩;have HF:=hide (HST.out w3 hb3);clear hb3);refine bodyPost_ret (results_tmp2 rfl _ _ _) rfl ?_;exact ⟨A2,c2,(x : Int),true,ws',rfl,HF.out.1,HF.out.2,(fun _ => ⟨x,rfl,HN2.out⟩),fun h => by cases h⟩
    ·have g2 : ¬ (x : Int) ≤ (hi : Int):=by omega
     have HN2 : Hid (numP lo hi ws = none):=by
      show _ = _;rw [HN.out,if_neg (fun h => hhi h.2)]
     go_wp2_with (go_at_call 95;refine HC2.out.mono ?_;rintro e w3 ⟨rfl,hb3⟩;have HF:=hide (HST.out w3 hb3);clear hb3);refine bodyPost_ret (results_tmp2 rfl _ _ _) rfl ?_;exact ⟨A2,c2,(x : Int),false,ws',rfl,HF.out.1,HF.out.2,(fun h => by cases h),fun _ => HN2.out⟩
   ·have g1 : ¬ (lo : Int) ≤ (x : Int):=by omega
    have HN2 : Hid (numP lo hi ws = none):=by
     show _ = _;rw [HN.out,if_neg (fun h => hlo h.1)]
    go_wp2_with (go_at_call 95;refine HC2.out.mono ?_;rintro e w3 ⟨rfl,hb3⟩;have HF:=hide (HST.out w3 hb3);clear hb3);refine bodyPost_ret (results_tmp2 rfl _ _ _) rfl ?_;exact ⟨A2,c2,(x : Int),false,ws',rfl,HF.out.1,HF.out.2,(fun h => by cases h),fun _ => HN2.out⟩
end Go.Proofs.YtcibcmfaebbhnaaGreatDoor
