/-
  The program's unquote, the reference's Quoted: the string that begins at a place. (Printed by wip/tools/mkunq.py.)
-/
import Derived.Test.YtcibcmfaebbhnaaGreatDoorPNib
import Derived.Test.YtcibcmfaebbhnaaGreatDoorPWords
set_option linter.unusedSimpArgs false
set_option linter.unusedVariables false
set_option maxRecDepth 100000
set_option maxHeartbeats 8000000

namespace Go.Proofs.YtcibcmfaebbhnaaGreatDoor
open Go.RowKit Go.WideShapes Go.ChangeShapes Q
def ULoop (s : ByteArray) (k : Nat) (W : World) (v i : Value) (wr : World) : Prop:=∃ (j : Nat) (out : List UInt8),j ≤ s.size ∧ k < j ∧ i = .int .i64 j ∧ (unq (s.data.toList.drop (k + 1)) = (unq (s.data.toList.drop j)).map fun p => (out ++ p.1,p.2)) ∧ out.length ≤ j ∧
 wr.ownsRow W.heap.size 5 1 v out.length (Lib.byteCells out) ∧ Below W.heap.size W wr
theorem or16 {x y : Nat} (hx : x < 16) (hy : y < 16) : bits BinOp.or IntKind.i64 (16 * (x : Int)) (y : Int) = 16 * (x : Int) + (y : Int):=by
 have : ∀ x y : Fin 16,bits BinOp.or IntKind.i64 (16 * (x.val : Int)) (y.val : Int) = 16 * (x.val : Int) + (y.val : Int):=by decide +kernel
 exact this ⟨x,hx⟩ ⟨y,hy⟩
section
variable {o : Oper} {a : Act} {V : World}
theorem ex_shl4 {x : Nat} (hx : x < 16) (p q : Operand) (t : TypeId) (ho : o.op = .binOp .shl 3 p q t) (hp : a.eval p = .int .i64 (x : Int)) (hq : a.eval q = .int .u64 4) : (execOp a.eval o).run Tryz.prog V = .ok (.value (.int .i64 (16 * (x : Int)))) V:=by
 unfold execOp;simp only [ho,hp,hq];have : x = 0 ∨ x = 1 ∨ x = 2 ∨ x = 3 ∨ x = 4 ∨ x = 5 ∨ x = 6 ∨ x = 7 ∨ x = 8 ∨ x = 9 ∨ x = 10 ∨ x = 11 ∨ x = 12 ∨ x = 13 ∨ x = 14 ∨ x = 15:=by omega
 rcases this with rfl | rfl | rfl | rfl | rfl | rfl | rfl | rfl | rfl | rfl | rfl | rfl | rfl | rfl | rfl | rfl <;> (go_simp;try rfl)
theorem ex_or16 {x y : Nat} (hx : x < 16) (hy : y < 16) (p q : Operand) (t : TypeId) (ho : o.op = .binOp .or 3 p q t) (hp : a.eval p = .int .i64 (16 * (x : Int))) (hq : a.eval q = .int .i64 (y : Int)) :
  (execOp a.eval o).run Tryz.prog V = .ok (.value (.int .i64 (16 * (x : Int) + (y : Int)))) V:=by
 have h:=or16 hx hy;unfold execOp;simp only [ho,hp,hq];go_simp
theorem ex_byte {z : Nat} (hz : z < 256) (p : Operand) (ho : o.op = .convert 3 5 p) (hp : a.eval p = .int .i64 (z : Int)) : (execOp a.eval o).run Tryz.prog V = .ok (.value (.int .u8 (z : Int))) V:=by
 have h:=u8_wrap (z : Int) (by omega) (by omega);unfold execOp;simp only [ho,hp];go_simp
end
section
variable {o : Oper} {a : Act} {V : World}
theorem ex_byteB {z : Nat} {b : UInt8} (hb : b.toNat = z) (p : Operand) (ho : o.op = .convert 3 5 p) (hp : a.eval p = .int .i64 (z : Int)) : (execOp a.eval o).run Tryz.prog V = .ok (.value (.int .u8 (b.toNat : Int))) V:=by
 subst hb;exact ex_byte b.toNat_lt p ho hp
end
def uqV (l : List UInt8) (k : Nat) : Value:=match unqA l k with
 | some (b,e) => .tuple #[.string (S b),.int .i64 e,.bool true]
 | none => .tuple #[.string (S []),.int .i64 0,.bool false]
def rqV (l : List UInt8) (k : Nat) : Value:=match (unq (l.drop (k + 1))).map (fun p => (p.1,l.length - p.2.length)) with
 | some (b,e) => .tuple #[.string (S b),.int .i64 e]
 | none => .tuple #[.string (S []),.int .i64 (-1)]
theorem map_none {α β : Type} {o : Option α} {f : α → β} (h : o = none) : o.map f = none:=by rw [h];rfl
theorem unquote_any (s : ByteArray) (k : Nat) (w : World) (hs : s.size ≤ 1000000000000) (hk : k ≤ s.size) :
  Calls Tryz.prog 85 #[.string s,.int .i64 k] w fun e w' => e = .returned (uqV s.data.toList k) ∧ Below w.heap.size w w':=by
 obtain ⟨i5,hi5,hz5,hs5,hb5⟩:=info_parts info5;have I5:=hide hi5;clear hi5
 by_cases hq : s.data.toList[k]? = some 34
 ·have hks : k < s.size:=by
   have:=(List.getElem?_eq_some_iff.1 hq).1;rw [str_len] at this;exact this
  obtain ⟨c0,hc0⟩ : ∃ c0,c0 = s[k]:=⟨_,rfl⟩;have hcc:=hc0.symm
  have hc34 : c0.toNat = 34:=by
   obtain ⟨h1,h2⟩:=List.getElem?_eq_some_iff.1 hq;have h3 : s[k] = 34:=h2;rw [hc0,h3]
   rfl
  have e0 : ((c0.toNat : Int) == 34) = true:=by rw [beq_iff_eq];omega
  have k0 : (0 : Int) ≤ (k : Int):=by omega
  have ks : (k : Int) < (s.size : Int):=by omega
  have ks2 : ¬ (s.size : Int) ≤ (k : Int):=by omega
  have HV : Hid (uqV s.data.toList k = match (unq (s.data.toList.drop (k + 1))).map (fun p => (p.1,s.size - p.2.length)) with
   | some (b,e) => .tuple #[.string (S b),.int .i64 e,.bool true]
   | none => .tuple #[.string (S []),.int .i64 0,.bool false]):=by
   show _ = _;unfold uqV unqA;rw [if_pos hq,str_len]
  have HL0 : Hid (ULoop s k w (.slice none 0 0) (.int .i64 ((k : Int) + 1)) w):=⟨k + 1,[],by omega,by omega,by go_num,by simp,by simp,World.ownsRow_nil _ _ _ _,Below.refl _ _⟩;clear hc0 hc34 hq;go_enter Tryz.func85,Tryz.ntmps85;go_upto_region 5 with fail
  clear hcc e0 ks ks2;go_loopw [7,8,9] (fun v i _ wr => ULoop s k w v i wr) (fun _ i _ _ => s.size - (intOf i).toNat)
  case atStart => exact HL0.out
  case round =>
   clear HL0;unfold ULoop at hrel;obtain ⟨j,out,hj,hkj,rfl,hun,hol,hown,hb⟩:=hrel;have HUN:=hide hun;have HO:=hide hown;have HB:=hide hb;have hsw : w.heap.size ≤ wr.heap.size:=HB.out.size;obtain ⟨A7,c7,rfl,hr7,_⟩:=own_slice hown;have HR:=hide hr7;clear hun hown hb hr7;have j0 : (0 : Int) ≤ (j : Int):=by omega
   by_cases hlt : j < s.size
   ·obtain ⟨c,hc⟩ : ∃ c,c = s[j]:=⟨_,rfl⟩
    have hcc:=hc.symm;have HD : Hid (s.data.toList.drop j = c :: s.data.toList.drop (j + 1)):=by rw [hc];exact bdrop hlt
    have c256 : c.toNat < 256:=c.toNat_lt;have js : (j : Int) < (s.size : Int):=by omega
    clear hc
    by_cases h34 : c.toNat = 34
    ·have e1 : ((c.toNat : Int) == 34) = true:=by rw [beq_iff_eq];omega
     have HS : Hid (uqV s.data.toList k = .tuple #[.string (S out),.int .i64 ((j : Int) + 1),.bool true]):=by
      show _ = _;rw [HV.out,HUN.out,HD.out,unq_stop (r:=s.data.toList.drop (j + 1)) (by rw [qstep,if_pos h34])];simp only [Option.map_some,List.append_nil,List.length_drop,str_len];rw [show ((s.size - (s.size - (j + 1)) : Nat) : Int) = (j : Int) + 1 by omega]
     clear h34;go_wp2_with (refine wpList_value rfl (.string (S out)) (ex_conv _ rfl rfl HR.out) ?_);refine bodyPost_ret (results_tmp3 rfl _ _ _) rfl ?_;refine ⟨?_,HB.out⟩;rw [HS.out]
     rfl
    ·have e1 : ((c.toNat : Int) == 34) = false:=by rw [beq_eq_false_iff_ne];omega
     by_cases hbad : c.toNat < 32 ∨ 126 < c.toNat
     ·have HS : Hid (uqV s.data.toList k = .tuple #[.string (S []),.int .i64 0,.bool false]):=by
       show _ = _;rw [HV.out,HUN.out,HD.out,unq_bad (by rw [qstep,if_neg h34,if_pos hbad])]
       rfl
      have g1 : (c.toNat : Int) < 32 ∨ 126 < (c.toNat : Int):=by omega
      clear h34 hbad
      by_cases h2 : (c.toNat : Int) < 32
      all_goals
       have h3 : (32 : Int) ≤ (c.toNat : Int) → 126 < (c.toNat : Int):=by omega
       go_wp2_with fail
       all_goals try (exfalso;omega)
       all_goals refine bodyPost_ret (results_tmp3 rfl _ _ _) rfl ?_
       all_goals refine ⟨?_,HB.out⟩
       all_goals rw [HS.out]
       all_goals rfl
     ·have d1 : ¬ (c.toNat : Int) < 32:=by omega
      have d2 : ¬ 126 < (c.toNat : Int):=by omega
      by_cases h92 : c.toNat = 92
      ·obtain ⟨i1,hi1⟩ : ∃ i1,i1 = j + 1:=⟨_,rfl⟩
       have hie : (j : Int) + 1 = (i1 : Int):=by omega
       have e2 : ((c.toNat : Int) == 92) = true:=by rw [beq_iff_eq];omega
       have HD1 : Hid (qstep (s.data.toList.drop j) = qesc (s.data.toList.drop i1)):=by
        show _ = _;rw [HD.out,qstep,if_neg h34,if_neg hbad,if_neg (by omega),hi1]
       have HIE:=hide hie;have HI1:=hide hi1;clear h34 hbad h92 hie
       by_cases hl1 : i1 < s.size
       ·obtain ⟨d,hd⟩ : ∃ d,d = s[i1]:=⟨_,rfl⟩
        have hdc:=hd.symm;have d256 : d.toNat < 256:=d.toNat_lt;have HDD : Hid (s.data.toList.drop i1 = d :: s.data.toList.drop (i1 + 1)):=by rw [hd];exact bdrop hl1
        have i0 : (0 : Int) ≤ (i1 : Int):=by omega
        have is : (i1 : Int) < (s.size : Int):=by omega
        have js1 : ¬ (s.size : Int) ≤ (j : Int) + 1:=by omega
        clear hd;clear hi1;go_upto_region 17 with fail
        rw [HIE.out];have hij : j < i1:=by have:=HI1.out;omega
        clear js1 e1 e2 d1 d2 hcc
        by_cases hdq : d.toNat = 34 ∨ d.toNat = 92
        ·have HU2 : Hid (unq (s.data.toList.drop (k + 1)) = (unq (s.data.toList.drop (i1 + 1))).map fun p => ((out ++ [d]) ++ p.1,p.2)):=by
          show _ = _;rw [HUN.out,unq_byte (b:=d) (r:=s.data.toList.drop (i1 + 1)) (by rw [HD1.out,HDD.out,qesc,if_pos hdq]),Option.map_map]
          congr 1
          funext p
          simp
         by_cases hd34 : d.toNat = 34
         all_goals
          have f1 : ((d.toNat : Int) == 34) = decide (d.toNat = 34):=by rw [Bool.eq_iff_iff,beq_iff_eq,decide_eq_true_iff];omega
          have f2 : ((d.toNat : Int) == 92) = decide (d.toNat = 92):=by rw [Bool.eq_iff_iff,beq_iff_eq,decide_eq_true_iff];omega
          first
          | rw [decide_eq_true hd34] at f1
          | (rw [decide_eq_false hd34] at f1;rw [decide_eq_true (hdq.resolve_left hd34)] at f2)
          clear hd34 hdq;go_wp2_with (at_builtin;refine wpList_push (W:=wr) (cs:=#[.int .u8 (d.toNat : Int)]) rfl (.tmp 66) (.tmp 70) _ rfl w.heap.size 5 i5 _ 1 1 Tryz.underlying29 I5.out hz5 hs5 hb5 rfl (by omega) (.slice A7 out.length c7) out.length _ rfl HO.out 1 1 rfl rfl (by simp [Value.oneCell']) (by omega) (by unfold maxLen;omega) (by omega) hsw ?_;intro g8 c8 w8 hown8 _ hb8 _ _ _;have HL8 : Hid (ULoop s k w (.slice (some ⟨g8,0,none⟩) (out.length + 1) c8) (.int .i64 ((i1 : Int) + 1)) w8):=⟨i1 + 1,out ++ [d],by omega,by omega,by go_num,HU2.out,by simp;omega,by rw [List.length_append,Lib.byteCells_append];exact hown8,HB.out.trans hb8⟩;clear hown8 hb8);go_roundw
          case rel => first | exact HL8.out | exact ⟨_,_,_,HL8.out,rfl,rfl,rfl⟩
          case measure => simp [intOf];omega
        ·have f1 : ((d.toNat : Int) == 34) = false:=by rw [beq_eq_false_iff_ne];omega
         have f2 : ((d.toNat : Int) == 92) = false:=by rw [beq_eq_false_iff_ne];omega
         by_cases hdx : d.toNat = 120
         ·have f3 : ((d.toNat : Int) == 120) = true:=by rw [beq_iff_eq];omega
          have HD2 : Hid (qstep (s.data.toList.drop j) = qhex (s.data.toList.drop (i1 + 1))):=by
           show _ = _;rw [HD1.out,HDD.out,qesc,if_neg hdq,if_pos hdx]
          clear hdq hdx
          by_cases hl2 : i1 + 2 < s.size
          ·obtain ⟨h,hh⟩ : ∃ h,h = s[i1 + 1]:=⟨_,rfl⟩
           obtain ⟨l,hl⟩ : ∃ l,l = s[i1 + 2]:=⟨_,rfl⟩;have hhc:=hh.symm;have hlc:=hl.symm
           have HD3 : Hid (s.data.toList.drop (i1 + 1) = h :: l :: s.data.toList.drop (i1 + 3)):=by
            show _ = _;rw [bdrop (show i1 + 1 < s.size by omega),bdrop (show i1 + 1 + 1 < s.size by omega),hh,hl]
           have n2 : ¬ (s.size : Int) ≤ (i1 : Int) + 2:=by omega
           have a1 : (0 : Int) ≤ (i1 : Int) + 1:=by omega
           have b1 : (i1 : Int) + 1 < (s.size : Int):=by omega
           have t1 : ((i1 : Int) + 1).toNat = i1 + 1:=by omega
           have a2 : (0 : Int) ≤ (i1 : Int) + 2:=by omega
           have b2 : (i1 : Int) + 2 < (s.size : Int):=by omega
           have t2 : ((i1 : Int) + 2).toNat = i1 + 2:=by omega
           clear hh hl
           cases hx : nib h with
           | none =>
            have HNX : ∀ W,Hid (Calls Tryz.prog 102 #[.int .u8 (h.toNat : Int)] W fun e w' => e = .returned (.int .i64 (-1)) ∧ W = w'):=fun W => by
             have:=nibble_any h W;unfold nibZ at this;rw [hx] at this;exact this
            have HS : Hid (uqV s.data.toList k = .tuple #[.string (S []),.int .i64 0,.bool false]):=by
             show _ = _;rw [HV.out,HUN.out,unq_bad (by rw [HD2.out,HD3.out,qhex,hx])]
             rfl
            clear hx;go_wp2_with (go_at_call 102;refine (HNX _).out.mono ?_;rintro e w2 ⟨rfl,rfl⟩);refine bodyPost_ret (results_tmp3 rfl _ _ _) rfl ?_;refine ⟨?_,HB.out⟩;rw [HS.out]
            rfl
           | some x =>
            have HNX : ∀ W,Hid (Calls Tryz.prog 102 #[.int .u8 (h.toNat : Int)] W fun e w' => e = .returned (.int .i64 (x : Int)) ∧ W = w'):=fun W => by
             have:=nibble_any h W;unfold nibZ at this;rw [hx] at this;exact this
            have x16:=nib_lt hx;have xn : ¬ (x : Int) < 0:=by omega
            cases hy : nib l with
            | none =>
             have HNY : ∀ W,Hid (Calls Tryz.prog 102 #[.int .u8 (l.toNat : Int)] W fun e w' => e = .returned (.int .i64 (-1)) ∧ W = w'):=fun W => by
              have:=nibble_any l W;unfold nibZ at this;rw [hy] at this;exact this
             have HS : Hid (uqV s.data.toList k = .tuple #[.string (S []),.int .i64 0,.bool false]):=by
              show _ = _;rw [HV.out,HUN.out,unq_bad (by rw [HD2.out,HD3.out,qhex,hx,hy])]
              rfl
             clear hx hy;go_wp2_with (go_at_call 102;first | (with_reducible refine (HNX _).out.mono ?_;rintro e w2 ⟨rfl,rfl⟩) | (with_reducible refine (HNY _).out.mono ?_;rintro e w2 ⟨rfl,rfl⟩));refine bodyPost_ret (results_tmp3 rfl _ _ _) rfl ?_;refine ⟨?_,HB.out⟩;rw [HS.out]
             rfl
            | some y =>
             have HNY : ∀ W,Hid (Calls Tryz.prog 102 #[.int .u8 (l.toNat : Int)] W fun e w' => e = .returned (.int .i64 (y : Int)) ∧ W = w'):=fun W => by
              have:=nibble_any l W;unfold nibZ at this;rw [hy] at this;exact this
             have y16:=nib_lt hy;have yn : ¬ (y : Int) < 0:=by omega
             obtain ⟨z,hz⟩ : ∃ z,z = 16 * x + y:=⟨_,rfl⟩;have z256 : z < 256:=by omega
             have HZE : Hid (16 * (x : Int) + (y : Int) = (z : Int)):=by show _ = _;omega
             obtain ⟨bz,hbz⟩ : ∃ bz,bz = UInt8.ofNat z:=⟨_,rfl⟩
             have HZB : Hid (bz.toNat = z):=by
              have:=byte_of z256;rw [← hbz] at this;show _ = _;omega
             have HU2 : Hid (unq (s.data.toList.drop (k + 1)) = (unq (s.data.toList.drop (i1 + 3))).map fun p => ((out ++ [bz]) ++ p.1,p.2)):=by
              show _ = _;rw [HUN.out,unq_byte (b:=bz) (r:=s.data.toList.drop (i1 + 3)) (by rw [HD2.out,HD3.out,qhex,hx,hy,hbz,hz]),Option.map_map]
              congr 1
              funext p
              simp
             clear hx hy hz hbz;go_upto_region 25 with (go_at_call 102;first | (with_reducible refine (HNX _).out.mono ?_;rintro e w2 ⟨rfl,rfl⟩) | (with_reducible refine (HNY _).out.mono ?_;rintro e w2 ⟨rfl,rfl⟩))
             clear f1 f2 f3 n2 xn yn;refine wp_region_L [] (fun _ => True) (by kernel_rfl) ?_;have HTR : Hid True:=trivial;generalize hw9 : World.drew wr = w9
             have HO9 : Hid (w9.ownsRow w.heap.size 5 1 (.slice A7 out.length c7) out.length (Lib.byteCells out)):=by
              show World.ownsRow w9 _ _ _ _ _ _;rw [← hw9];exact own_step HO.out (below_drewN (Below.refl _ _) 1)
             have HB9 : Hid (Below w.heap.size w w9):=by
              show Below _ _ _;rw [← hw9];exact below_drewN HB.out 1
             clear hw9;have wq1 : IntKind.i64.wrap ((i1 : Int) + 1) = (i1 : Int) + 1:=i64_wrap _ (by omega) (by omega);have wq2 : IntKind.i64.wrap ((i1 : Int) + 2) = (i1 : Int) + 2:=i64_wrap _ (by omega) (by omega);refine tk 0 95 (v:=?_) rfl HTR.out ?_ ?_
             rotate_left;· intro V hV;go_simp;try with_reducible rfl
             try simp only [Act.put,aSt,aSz,aSs]
             refine tk 1 96 (v:=?_) rfl HTR.out ?_ ?_
             rotate_left;· intro V hV;go_simp;try with_reducible rfl
             try simp only [Act.put,aSt,aSz,aSs]
             refine tk 2 97 (v:=?_) rfl HTR.out ?_ ?_
             rotate_left;· intro V hV;go_simp;try with_reducible rfl
             try simp only [Act.put,aSt,aSz,aSs]
             refine tk 3 98 (v:=?_) rfl HTR.out ?_ ?_
             rotate_left;· intro V hV;go_simp;try with_reducible rfl
             try simp only [Act.put,aSt,aSz,aSs]
             refine tk 4 99 (v:=?_) rfl HTR.out ?_ ?_
             rotate_left;· intro V hV;go_simp;try with_reducible rfl
             try simp only [Act.put,aSt,aSz,aSs]
             refine tk 7 102 (v:=?_) rfl HTR.out ?_ ?_
             rotate_left;· intro V hV;go_simp;try with_reducible rfl
             try simp only [Act.put,aSt,aSz,aSs]
             refine tk 8 103 (v:=?_) rfl HTR.out ?_ ?_
             rotate_left;· intro V hV;go_simp;try with_reducible rfl
             try simp only [Act.put,aSt,aSz,aSs]
             refine tk 9 104 (v:=?_) rfl HTR.out ?_ ?_
             rotate_left;· intro V hV;go_simp;try with_reducible rfl
             try simp only [Act.put,aSt,aSz,aSs]
             refine tk 10 105 (v:=?_) rfl HTR.out ?_ ?_
             rotate_left;· intro V hV;go_simp;try with_reducible rfl
             try simp only [Act.put,aSt,aSz,aSs]
             refine wpL_one 5 (by kernel_rfl) rfl (fun K hK => ?_);rw [if_pos (by rfl)];go_simp;go_at_call 102;refine (HNX _).out.mono ?_;rintro e w2 ⟨rfl,rfl⟩;refine hK _ _ (fun _ => trivial) ?_;clear hK K;try simp only [Act.put,aSt,aSz,aSs]
             refine tk 6 101 (v:=.int .i64 (16 * (x : Int))) rfl HTR.out ?_ ?_
             ·intro V hV;exact ex_shl4 x16 _ _ _ rfl rfl rfl
             try simp only [Act.put,aSt,aSz,aSs]
             refine wpL_one 11 (by kernel_rfl) rfl (fun K hK => ?_);rw [if_pos (by rfl)];go_simp;go_at_call 102;refine (HNY _).out.mono ?_;rintro e w2 ⟨rfl,rfl⟩;refine hK _ _ (fun _ => trivial) ?_;clear hK K;try simp only [Act.put,aSt,aSz,aSs]
             refine tk 12 107 (v:=.int .i64 (16 * (x : Int) + (y : Int))) rfl HTR.out ?_ ?_
             ·intro V hV;exact ex_or16 x16 y16 _ _ _ rfl rfl rfl
             try simp only [Act.put,aSt,aSz,aSs]
             rw [HZE.out];refine tk 13 108 (v:=.int .u8 (bz.toNat : Int)) rfl HTR.out ?_ ?_
             ·intro V hV;exact ex_byteB HZB.out _ rfl rfl
             try simp only [Act.put,aSt,aSz,aSs]
             refine wpL_one 14 (by kernel_rfl) rfl (fun K hK => ?_);rw [if_pos (by rfl)];go_simp;refine hK _ _ (fun _ => trivial) ?_;clear hK K;try simp only [Act.put,aSt,aSz,aSs]
             refine wpL_one 15 (by kernel_rfl) rfl (fun K hK => ?_);refine step_push _ rfl (.tmp 95) (.tmp 109) 29 rfl w.heap.size 5 i5 _ 1 1 Tryz.underlying29 I5.out hz5 hs5 hb5 rfl (by omega) (.slice A7 out.length c7) out.length (Lib.byteCells out) rfl (HO9.out.alloc _) w9.heap.size 1 1 #[.int .u8 (bz.toNat : Int)] rfl (Blk.new _ _ _) rfl (by simp [Value.oneCell']) (by omega) (by unfold maxLen;omega) (by omega) (by have:=HB9.out.size;simp;omega) ?_;intro g8 c8 w8 hown8 hgr8 _ _;have HO8:=hide hown8;have HB8:=hide ((HB9.out.alloc HB9.out.size (.cells #[.int .u8 (bz.toNat : Int)] 5)).grown hgr8 (by have:=HB9.out.size;simp;omega) (fun q hq => (HO9.out.lt q hq).1));clear hown8 hgr8;refine hK _ _ (fun _ => trivial) ?_;clear hK K;try simp only [Act.put,aSt,aSz,aSs]
             refine tk 16 7 (v:=?_) rfl HTR.out ?_ ?_
             rotate_left;· intro V hV;go_simp;try with_reducible rfl
             try simp only [Act.put,aSt,aSz,aSs]
             clear wq1 wq2;refine wpL_done (by kernel_rfl) ?_ _;have HL8 : Hid (ULoop s k w (.slice (some ⟨g8,0,none⟩) (out.length + 1) c8) (.int .i64 ((i1 : Int) + 3)) w8):=⟨i1 + 3,out ++ [bz],by omega,by omega,by go_num,HU2.out,by simp;omega,by rw [List.length_append,Lib.byteCells_append];exact HO8.out,HB8.out⟩;go_wp2_with fail;go_roundw
             case rel => first | exact HL8.out | exact ⟨_,_,_,HL8.out,rfl,rfl,rfl⟩
             case measure => simp [intOf];omega
          ·have HS : Hid (uqV s.data.toList k = .tuple #[.string (S []),.int .i64 0,.bool false]):=by
            have hq : qhex (s.data.toList.drop (i1 + 1)) = .bad:=by
             have hlen : (s.data.toList.drop (i1 + 1)).length ≤ 1:=by rw [List.length_drop,str_len];omega
             match s.data.toList.drop (i1 + 1),hlen with
             | [],_ => rfl
             | [_],_ => rfl
             | _ :: _ :: _,h => simp at h
            show _ = _;rw [HV.out,HUN.out,unq_bad (by rw [HD2.out,hq])]
            rfl
           have n2 : (s.size : Int) ≤ (i1 : Int) + 2:=by omega
           clear hl2;go_wp2_with fail;refine bodyPost_ret (results_tmp3 rfl _ _ _) rfl ?_;refine ⟨?_,HB.out⟩;rw [HS.out]
           rfl
         ·have f3 : ((d.toNat : Int) == 120) = false:=by rw [beq_eq_false_iff_ne];omega
          have HS : Hid (uqV s.data.toList k = .tuple #[.string (S []),.int .i64 0,.bool false]):=by
           show _ = _;rw [HV.out,HUN.out,unq_bad (by rw [HD1.out,HDD.out,qesc,if_neg hdq,if_neg hdx])]
           rfl
          clear hdq hdx;go_wp2_with fail;refine bodyPost_ret (results_tmp3 rfl _ _ _) rfl ?_;refine ⟨?_,HB.out⟩;rw [HS.out]
          rfl
       ·have HS : Hid (uqV s.data.toList k = .tuple #[.string (S []),.int .i64 0,.bool false]):=by
         show _ = _;rw [HV.out,HUN.out,unq_bad (by rw [HD1.out,List.drop_eq_nil_of_le (by rw [str_len];omega)];rfl)]
         rfl
        have js1 : (s.size : Int) ≤ (j : Int) + 1:=by omega
        clear hl1 hi1;go_wp2_with fail;refine bodyPost_ret (results_tmp3 rfl _ _ _) rfl ?_;refine ⟨?_,HB.out⟩;rw [HS.out]
        rfl
      ·have e2 : ((c.toNat : Int) == 92) = false:=by rw [beq_eq_false_iff_ne];omega
       have HU2 : Hid (unq (s.data.toList.drop (k + 1)) = (unq (s.data.toList.drop (j + 1))).map fun p => ((out ++ [c]) ++ p.1,p.2)):=by
        show _ = _;rw [HUN.out,HD.out,unq_byte (b:=c) (r:=s.data.toList.drop (j + 1)) (by rw [qstep,if_neg h34,if_neg hbad,if_pos h92]),Option.map_map]
        congr 1
        funext p
        simp
       clear h34 hbad h92;go_wp2_with (at_builtin;refine wpList_push (W:=wr) (cs:=#[.int .u8 (c.toNat : Int)]) rfl (.tmp 48) (.tmp 50) _ rfl w.heap.size 5 i5 _ 1 1 Tryz.underlying29 I5.out hz5 hs5 hb5 rfl (by omega) (.slice A7 out.length c7) out.length _ rfl HO.out 1 1 rfl rfl (by simp [Value.oneCell']) (by omega) (by unfold maxLen;omega) (by omega) hsw ?_;intro g8 c8 w8 hown8 _ hb8 _ _ _;have HL8 : Hid (ULoop s k w (.slice (some ⟨g8,0,none⟩) (out.length + 1) c8) (.int .i64 ((j : Int) + 1)) w8):=⟨j + 1,out ++ [c],by omega,by omega,by go_num,HU2.out,by simp;omega,by rw [List.length_append,Lib.byteCells_append];exact hown8,HB.out.trans hb8⟩;clear hown8 hb8);go_roundw
       case rel => first | exact HL8.out | exact ⟨_,_,_,HL8.out,rfl,rfl,rfl⟩
       case measure => simp [intOf];omega
   ·have js : ¬ (j : Int) < (s.size : Int):=by omega
    have HS : Hid (uqV s.data.toList k = .tuple #[.string (S []),.int .i64 0,.bool false]):=by
     show _ = _;rw [HV.out,HUN.out,List.drop_eq_nil_of_le (by rw [str_len];omega),unq_bad (by rfl)]
     rfl
    clear hlt;go_wp2_with fail;refine bodyPost_ret (results_tmp3 rfl _ _ _) rfl ?_;refine ⟨?_,HB.out⟩;rw [HS.out]
    rfl
 ·have HS : Hid (uqV s.data.toList k = .tuple #[.string (S []),.int .i64 0,.bool false]):=by
   show _ = _;unfold uqV unqA;rw [if_neg hq]
  by_cases hks : k < s.size
  ·obtain ⟨c0,hc0⟩ : ∃ c0,c0 = s[k]:=⟨_,rfl⟩
   have hcc:=hc0.symm
   have hc34 : c0.toNat ≠ 34:=by
    intro h
    apply hq
    rw [List.getElem?_eq_getElem (by rw [str_len];exact hks)]
    congr 1
    have h3 : s[k] = 34:=by
     rw [← hc0]
     apply UInt8.toNat_inj.1
     exact h
    exact h3
   have e0 : ((c0.toNat : Int) == 34) = false:=by rw [beq_eq_false_iff_ne];omega
   have k0 : (0 : Int) ≤ (k : Int):=by omega
   have ks : (k : Int) < (s.size : Int):=by omega
   have ks2 : ¬ (s.size : Int) ≤ (k : Int):=by omega
   clear hc0 hc34 hq;go_enter Tryz.func85,Tryz.ntmps85;go_wp2_with fail;refine bodyPost_ret (results_tmp3 rfl _ _ _) rfl ?_;refine ⟨?_,Below.refl _ _⟩;rw [HS.out]
   rfl
  ·have ks2 : (s.size : Int) ≤ (k : Int):=by omega
   clear hks hq;go_enter Tryz.func85,Tryz.ntmps85;go_wp2_with fail;refine bodyPost_ret (results_tmp3 rfl _ _ _) rfl ?_;refine ⟨?_,Below.refl _ _⟩;rw [HS.out]
   rfl
end Go.Proofs.YtcibcmfaebbhnaaGreatDoor
