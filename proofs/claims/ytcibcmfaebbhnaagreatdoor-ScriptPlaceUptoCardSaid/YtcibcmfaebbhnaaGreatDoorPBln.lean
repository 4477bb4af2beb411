/-
  The reference's Quoted: the string that begins at a place. (Printed by wip/tools/mkrq.py.) A text's bytes from one place to another; types' sizes for lists of words. Blanks: the program's and the reference's.
-/
import Derived.Test.YtcibcmfaebbhnaaGreatDoorPUnq
import Derived.Test.YtcibcmfaebbhnaaGreatDoorPNib
import Derived.Test.YtcibcmfaebbhnaaGreatDoorPHdr
import Derived.Test.YtcibcmfaebbhnaaGreatDoorPWords
set_option linter.unusedSimpArgs false
set_option linter.unusedVariables false
set_option maxRecDepth 100000
set_option maxHeartbeats 8000000

namespace Go.Proofs.YtcibcmfaebbhnaaGreatDoor
open Go.RowKit Go.WideShapes Go.ChangeShapes Q
section
variable {o : Oper} {a : Act} {V : World}
theorem ex_mul16 {x : Nat} (hx : x < 16) (p q : Operand) (t : TypeId) (ho : o.op = .binOp .mul 3 p q t) (hp : a.eval p = .int .i64 16) (hq : a.eval q = .int .i64 (x : Int)) : (execOp a.eval o).run Tryz.prog V = .ok (.value (.int .i64 (16 * (x : Int)))) V:=by
 have h:=i64_wrap (16 * (x : Int)) (by omega) (by omega);unfold execOp;simp only [ho,hp,hq];go_simp
theorem ex_add16 {x y : Nat} (hx : x < 16) (hy : y < 16) (p q : Operand) (t : TypeId) (ho : o.op = .binOp .add 3 p q t) (hp : a.eval p = .int .i64 (16 * (x : Int))) (hq : a.eval q = .int .i64 (y : Int)) :
  (execOp a.eval o).run Tryz.prog V = .ok (.value (.int .i64 (16 * (x : Int) + (y : Int)))) V:=by
 have h:=i64_wrap (16 * (x : Int) + (y : Int)) (by omega) (by omega);unfold execOp;simp only [ho,hp,hq];go_simp
end
theorem quoted_any (s : ByteArray) (k : Nat) (w : World) (hs : s.size ≤ 1000000000000) (hk : k < s.size) :
  Calls Tryz.prog 90 #[.string s,.int .i64 k] w fun e w' => e = .returned (rqV s.data.toList k) ∧ Below w.heap.size w w':=by
 obtain ⟨i5,hi5,hz5,hs5,hb5⟩:=info_parts info5;have I5:=hide hi5;clear hi5
 have HV : Hid (rqV s.data.toList k = match (unq (s.data.toList.drop (k + 1))).map (fun p => (p.1,s.size - p.2.length)) with
   | some (b,e) => .tuple #[.string (S b),.int .i64 e]
   | none => .tuple #[.string (S []),.int .i64 (-1)]):=by
  show _ = _;unfold rqV;rw [str_len]
  rfl
 have k0 : (0 : Int) ≤ (k : Int):=by omega
 have HL0 : Hid (ULoop s k w (.slice none 0 0) (.int .i64 ((k : Int) + 1)) w):=⟨k + 1,[],by omega,by omega,by go_num,by simp,by simp,World.ownsRow_nil _ _ _ _,Below.refl _ _⟩;go_enter Tryz.func90,Tryz.ntmps90;go_upto_region 3 with fail
 go_loopw [6,7,8] (fun v i _ wr => ULoop s k w v i wr) (fun _ i _ _ => s.size - (intOf i).toNat)
 case atStart => exact HL0.out
 case round =>
  clear HL0;unfold ULoop at hrel;obtain ⟨j,out,hj,hkj,rfl,hun,hol,hown,hb⟩:=hrel;have HUN:=hide hun;have HO:=hide hown;have HB:=hide hb;have hsw : w.heap.size ≤ wr.heap.size:=HB.out.size;obtain ⟨A7,c7,rfl,hr7,_⟩:=own_slice hown;have HR:=hide hr7;clear hun hown hb hr7;have j0 : (0 : Int) ≤ (j : Int):=by omega
  by_cases hlt : j < s.size
  ·obtain ⟨c,hc⟩ : ∃ c,c = s[j]:=⟨_,rfl⟩
   have hcc:=hc.symm;have HD : Hid (s.data.toList.drop j = c :: s.data.toList.drop (j + 1)):=by rw [hc];exact bdrop hlt
   have c256 : c.toNat < 256:=c.toNat_lt;have js : (j : Int) < (s.size : Int):=by omega
   clear hc
   by_cases h34 : c.toNat = 34
   ·have e1 : ((c.toNat : Int) == 34) = true:=by rw [beq_iff_eq];omega
    have HS : Hid (rqV s.data.toList k = .tuple #[.string (S out),.int .i64 ((j : Int) + 1)]):=by
     show _ = _;rw [HV.out,HUN.out,HD.out,unq_stop (r:=s.data.toList.drop (j + 1)) (by rw [qstep,if_pos h34])];simp only [Option.map_some,List.append_nil,List.length_drop,str_len];rw [show ((s.size - (s.size - (j + 1)) : Nat) : Int) = (j : Int) + 1 by omega]
    clear h34;go_wp2_with (refine wpList_value rfl (.string (S out)) (ex_conv _ rfl rfl HR.out) ?_);refine bodyPost_ret (results_tmp2 rfl _ _ _) rfl ?_;refine ⟨?_,HB.out⟩;rw [HS.out]
    rfl
   ·have e1 : ((c.toNat : Int) == 34) = false:=by rw [beq_eq_false_iff_ne];omega
    by_cases hbad : c.toNat < 32 ∨ 126 < c.toNat
    ·have HS : Hid (rqV s.data.toList k = .tuple #[.string (S []),.int .i64 (-1)]):=by
      show _ = _;rw [HV.out,HUN.out,unq_bad (by rw [HD.out,qstep,if_neg h34,if_pos hbad])]
      rfl
     clear h34;have g1 : (c.toNat : Int) < 32 ∨ 126 < (c.toNat : Int):=by omega
     clear hbad
     by_cases h2 : (c.toNat : Int) < 32
     all_goals
      have h3 : (32 : Int) ≤ (c.toNat : Int) → 126 < (c.toNat : Int):=by omega
      go_wp2_with fail
      all_goals try (exfalso;omega)
      all_goals refine bodyPost_ret (results_tmp2 rfl _ _ _) rfl ?_
      all_goals refine ⟨?_,HB.out⟩
      all_goals rw [HS.out]
      all_goals rfl
    ·have d1 : ¬ (c.toNat : Int) < 32:=by omega
     have d2 : ¬ 126 < (c.toNat : Int):=by omega
     by_cases h92 : c.toNat = 92
     ·have e2 : ((c.toNat : Int) == 92) = true:=by rw [beq_iff_eq];omega
      have HD1 : Hid (qstep (s.data.toList.drop j) = qesc (s.data.toList.drop (j + 1))):=by
       show _ = _;rw [HD.out,qstep,if_neg h34,if_neg hbad,if_neg (by omega)]
      clear h34 hbad h92
      by_cases hl1 : j + 1 < s.size
      ·obtain ⟨d,hd⟩ : ∃ d,d = s[j + 1]:=⟨_,rfl⟩
       have hdc:=hd.symm;have d256 : d.toNat < 256:=d.toNat_lt;have HDD : Hid (s.data.toList.drop (j + 1) = d :: s.data.toList.drop (j + 2)):=by rw [hd];exact bdrop hl1
       have a1 : (0 : Int) ≤ (j : Int) + 1:=by omega
       have b1 : (j : Int) + 1 < (s.size : Int):=by omega
       have t1 : ((j : Int) + 1).toNat = j + 1:=by omega
       clear hd
       by_cases hdq : d.toNat = 34 ∨ d.toNat = 92
       ·have HU2 : Hid (unq (s.data.toList.drop (k + 1)) = (unq (s.data.toList.drop (j + 2))).map fun p => ((out ++ [d]) ++ p.1,p.2)):=by
         show _ = _;rw [HUN.out,unq_byte (b:=d) (r:=s.data.toList.drop (j + 2)) (by rw [HD1.out,HDD.out,qesc,if_pos hdq]),Option.map_map]
         congr 1
         funext p
         simp
        by_cases hd34 : d.toNat = 34
        all_goals
         have f1 : ((d.toNat : Int) == 34) = decide (d.toNat = 34):=by rw [Bool.eq_iff_iff,beq_iff_eq,decide_eq_true_iff];omega
         have f2 : ((d.toNat : Int) == 92) = decide (d.toNat = 92):=by rw [Bool.eq_iff_iff,beq_iff_eq,decide_eq_true_iff];omega
         first
         | rw [decide_eq_true hd34] at f1
         | (rw [decide_eq_false hd34] at f1;rw [decide_eq_true (hdq.resolve_left hd34)] at f2)
         clear hd34 hdq;go_wp2_with (at_builtin;refine wpList_push (W:=wr) (cs:=#[.int .u8 (d.toNat : Int)]) rfl (.tmp 61) (.tmp 66) _ rfl w.heap.size 5 i5 _ 1 1 Tryz.underlying29 I5.out hz5 hs5 hb5 rfl (by omega) (.slice A7 out.length c7) out.length _ rfl HO.out 1 1 rfl rfl (by simp [Value.oneCell']) (by omega) (by unfold maxLen;omega) (by omega) hsw ?_;intro g8 c8 w8 hown8 _ hb8 _ _ _;have HL8 : Hid (ULoop s k w (.slice (some ⟨g8,0,none⟩) (out.length + 1) c8) (.int .i64 ((j : Int) + 2)) w8):=⟨j + 2,out ++ [d],by omega,by omega,by go_num,HU2.out,by simp;omega,by rw [List.length_append,Lib.byteCells_append];exact hown8,HB.out.trans hb8⟩;clear hown8 hb8);go_roundw
         case rel => first | exact HL8.out | exact ⟨_,_,_,HL8.out,rfl,rfl,rfl⟩
         case measure => simp [intOf];omega
       ·have f1 : ((d.toNat : Int) == 34) = false:=by rw [beq_eq_false_iff_ne];omega
        have f2 : ((d.toNat : Int) == 92) = false:=by rw [beq_eq_false_iff_ne];omega
        by_cases hl3 : j + 3 < s.size
        ·have n3 : (j : Int) + 3 < (s.size : Int):=by omega
         by_cases hdx : d.toNat = 120
         ·have f3 : ((d.toNat : Int) == 120) = true:=by rw [beq_iff_eq];omega
          have HD2 : Hid (qstep (s.data.toList.drop j) = qhex (s.data.toList.drop (j + 2))):=by
           show _ = _;rw [HD1.out,HDD.out,qesc,if_neg hdq,if_pos hdx]
          clear hdq hdx;obtain ⟨h,hh⟩ : ∃ h,h = s[j + 2]:=⟨_,rfl⟩;obtain ⟨l,hl⟩ : ∃ l,l = s[j + 3]:=⟨_,rfl⟩;have hhc:=hh.symm;have hlc:=hl.symm
          have HD3 : Hid (s.data.toList.drop (j + 2) = h :: l :: s.data.toList.drop (j + 4)):=by
           show _ = _;rw [bdrop (show j + 2 < s.size by omega),bdrop (show j + 2 + 1 < s.size by omega),hh,hl]
          have a2 : (0 : Int) ≤ (j : Int) + 2:=by omega
          have b2 : (j : Int) + 2 < (s.size : Int):=by omega
          have t2 : ((j : Int) + 2).toNat = j + 2:=by omega
          have a3 : (0 : Int) ≤ (j : Int) + 3:=by omega
          have t3 : ((j : Int) + 3).toNat = j + 3:=by omega
          clear hh hl
          cases hx : nib h with
          | none =>
           have HNX : ∀ W,Hid (Calls Tryz.prog 104 #[.int .u8 (h.toNat : Int)] W fun e w' => e = .returned (.int .i64 (-1)) ∧ W = w'):=fun W => by
            have:=hex_any h W;unfold nibZ at this;rw [hx] at this;exact this
           have HS : Hid (rqV s.data.toList k = .tuple #[.string (S []),.int .i64 (-1)]):=by
            show _ = _;rw [HV.out,HUN.out,unq_bad (by rw [HD2.out,HD3.out,qhex,hx])]
            rfl
           clear hx;go_wp2_with (go_at_call 104;with_reducible refine (HNX _).out.mono ?_;rintro e w2 ⟨rfl,rfl⟩);refine bodyPost_ret (results_tmp2 rfl _ _ _) rfl ?_;refine ⟨?_,HB.out⟩;rw [HS.out]
           rfl
          | some x =>
           have HNX : ∀ W,Hid (Calls Tryz.prog 104 #[.int .u8 (h.toNat : Int)] W fun e w' => e = .returned (.int .i64 (x : Int)) ∧ W = w'):=fun W => by
            have:=hex_any h W;unfold nibZ at this;rw [hx] at this;exact this
           have x16:=nib_lt hx;have xn : (0 : Int) ≤ (x : Int):=by omega
           cases hy : nib l with
           | none =>
            have HNY : ∀ W,Hid (Calls Tryz.prog 104 #[.int .u8 (l.toNat : Int)] W fun e w' => e = .returned (.int .i64 (-1)) ∧ W = w'):=fun W => by
             have:=hex_any l W;unfold nibZ at this;rw [hy] at this;exact this
            have HS : Hid (rqV s.data.toList k = .tuple #[.string (S []),.int .i64 (-1)]):=by
             show _ = _;rw [HV.out,HUN.out,unq_bad (by rw [HD2.out,HD3.out,qhex,hx,hy])]
             rfl
            clear hx hy;go_wp2_with (go_at_call 104;first | (with_reducible refine (HNX _).out.mono ?_;rintro e w2 ⟨rfl,rfl⟩) | (with_reducible refine (HNY _).out.mono ?_;rintro e w2 ⟨rfl,rfl⟩));refine bodyPost_ret (results_tmp2 rfl _ _ _) rfl ?_;refine ⟨?_,HB.out⟩;rw [HS.out]
            rfl
           | some y =>
            have HNY : ∀ W,Hid (Calls Tryz.prog 104 #[.int .u8 (l.toNat : Int)] W fun e w' => e = .returned (.int .i64 (y : Int)) ∧ W = w'):=fun W => by
             have:=hex_any l W;unfold nibZ at this;rw [hy] at this;exact this
            have y16:=nib_lt hy;have yn : (0 : Int) ≤ (y : Int):=by omega
            obtain ⟨z,hz⟩ : ∃ z,z = 16 * x + y:=⟨_,rfl⟩;have z256 : z < 256:=by omega
            have HZE : Hid (16 * (x : Int) + (y : Int) = (z : Int)):=by show _ = _;omega
            obtain ⟨bz,hbz⟩ : ∃ bz,bz = UInt8.ofNat z:=⟨_,rfl⟩
            have HZB : Hid (bz.toNat = z):=by
             have:=byte_of z256;rw [← hbz] at this;show _ = _;omega
            have HU2 : Hid (unq (s.data.toList.drop (k + 1)) = (unq (s.data.toList.drop (j + 4))).map fun p => ((out ++ [bz]) ++ p.1,p.2)):=by
             show _ = _;rw [HUN.out,unq_byte (b:=bz) (r:=s.data.toList.drop (j + 4)) (by rw [HD2.out,HD3.out,qhex,hx,hy,hbz,hz]),Option.map_map]
             congr 1
             funext p
             simp
            clear hx hy hz hbz;go_upto_region 17 with (go_at_call 104;first | (with_reducible refine (HNX _).out.mono ?_;rintro e w2 ⟨rfl,rfl⟩) | (with_reducible refine (HNY _).out.mono ?_;rintro e w2 ⟨rfl,rfl⟩))
            clear f1 f2 f3 xn yn;refine wp_region_L [] (fun _ => True) (by kernel_rfl) ?_;have HTR : Hid True:=trivial;generalize hw9 : World.drew wr = w9
            have HO9 : Hid (w9.ownsRow w.heap.size 5 1 (.slice A7 out.length c7) out.length (Lib.byteCells out)):=by
             show World.ownsRow w9 _ _ _ _ _ _;rw [← hw9];exact own_step HO.out (below_drewN (Below.refl _ _) 1)
            have HB9 : Hid (Below w.heap.size w w9):=by
             show Below _ _ _;rw [← hw9];exact below_drewN HB.out 1
            clear hw9;have wq1 : IntKind.i64.wrap ((j : Int) + 2) = (j : Int) + 2:=i64_wrap _ (by omega) (by omega);have wq2 : IntKind.i64.wrap ((j : Int) + 3) = (j : Int) + 3:=i64_wrap _ (by omega) (by omega);refine tk 0 99 (v:=?_) rfl HTR.out ?_ ?_
            rotate_left;· intro V hV;go_simp;try with_reducible rfl
            try simp only [Act.put,aSt,aSz,aSs]
            refine tk 1 100 (v:=?_) rfl HTR.out ?_ ?_
            rotate_left;· intro V hV;go_simp;try with_reducible rfl
            try simp only [Act.put,aSt,aSz,aSs]
            refine tk 2 101 (v:=?_) rfl HTR.out ?_ ?_
            rotate_left;· intro V hV;go_simp;try with_reducible rfl
            try simp only [Act.put,aSt,aSz,aSs]
            refine tk 3 102 (v:=?_) rfl HTR.out ?_ ?_
            rotate_left;· intro V hV;go_simp;try with_reducible rfl
            try simp only [Act.put,aSt,aSz,aSs]
            refine tk 4 103 (v:=?_) rfl HTR.out ?_ ?_
            rotate_left;· intro V hV;go_simp;try with_reducible rfl
            try simp only [Act.put,aSt,aSz,aSs]
            refine tk 7 106 (v:=?_) rfl HTR.out ?_ ?_
            rotate_left;· intro V hV;go_simp;try with_reducible rfl
            try simp only [Act.put,aSt,aSz,aSs]
            refine tk 8 107 (v:=?_) rfl HTR.out ?_ ?_
            rotate_left;· intro V hV;go_simp;try with_reducible rfl
            try simp only [Act.put,aSt,aSz,aSs]
            refine tk 9 108 (v:=?_) rfl HTR.out ?_ ?_
            rotate_left;· intro V hV;go_simp;try with_reducible rfl
            try simp only [Act.put,aSt,aSz,aSs]
            refine tk 10 109 (v:=?_) rfl HTR.out ?_ ?_
            rotate_left;· intro V hV;go_simp;try with_reducible rfl
            try simp only [Act.put,aSt,aSz,aSs]
            refine wpL_one 5 (by kernel_rfl) rfl (fun K hK => ?_);rw [if_pos (by rfl)];go_simp;go_at_call 104;refine (HNX _).out.mono ?_;rintro e w2 ⟨rfl,rfl⟩;refine hK _ _ (fun _ => trivial) ?_;clear hK K;try simp only [Act.put,aSt,aSz,aSs]
            refine tk 6 105 (v:=.int .i64 (16 * (x : Int))) rfl HTR.out ?_ ?_
            ·intro V hV;exact ex_mul16 x16 _ _ _ rfl rfl rfl
            try simp only [Act.put,aSt,aSz,aSs]
            refine wpL_one 11 (by kernel_rfl) rfl (fun K hK => ?_);rw [if_pos (by rfl)];go_simp;go_at_call 104;refine (HNY _).out.mono ?_;rintro e w2 ⟨rfl,rfl⟩;refine hK _ _ (fun _ => trivial) ?_;clear hK K;try simp only [Act.put,aSt,aSz,aSs]
            refine tk 12 111 (v:=.int .i64 (16 * (x : Int) + (y : Int))) rfl HTR.out ?_ ?_
            ·intro V hV;exact ex_add16 x16 y16 _ _ _ rfl rfl rfl
            try simp only [Act.put,aSt,aSz,aSs]
            rw [HZE.out];refine tk 13 112 (v:=.int .u8 (bz.toNat : Int)) rfl HTR.out ?_ ?_
            ·intro V hV;exact ex_byteB HZB.out _ rfl rfl
            try simp only [Act.put,aSt,aSz,aSs]
            refine wpL_one 14 (by kernel_rfl) rfl (fun K hK => ?_);rw [if_pos (by rfl)];go_simp;refine hK _ _ (fun _ => trivial) ?_;clear hK K;try simp only [Act.put,aSt,aSz,aSs]
            refine wpL_one 15 (by kernel_rfl) rfl (fun K hK => ?_);refine step_push _ rfl (.tmp 99) (.tmp 113) 29 rfl w.heap.size 5 i5 _ 1 1 Tryz.underlying29 I5.out hz5 hs5 hb5 rfl (by omega) (.slice A7 out.length c7) out.length (Lib.byteCells out) rfl (HO9.out.alloc _) w9.heap.size 1 1 #[.int .u8 (bz.toNat : Int)] rfl (Blk.new _ _ _) rfl (by simp [Value.oneCell']) (by omega) (by unfold maxLen;omega) (by omega) (by have:=HB9.out.size;simp;omega) ?_;intro g8 c8 w8 hown8 hgr8 _ _;have HO8:=hide hown8;have HB8:=hide ((HB9.out.alloc HB9.out.size (.cells #[.int .u8 (bz.toNat : Int)] 5)).grown hgr8 (by have:=HB9.out.size;simp;omega) (fun q hq => (HO9.out.lt q hq).1));clear hown8 hgr8;refine hK _ _ (fun _ => trivial) ?_;clear hK K;try simp only [Act.put,aSt,aSz,aSs]
            refine tk 16 6 (v:=?_) rfl HTR.out ?_ ?_
            rotate_left;· intro V hV;go_simp;try with_reducible rfl
            try simp only [Act.put,aSt,aSz,aSs]
            clear wq1 wq2;refine wpL_done (by kernel_rfl) ?_ _;have HL8 : Hid (ULoop s k w (.slice (some ⟨g8,0,none⟩) (out.length + 1) c8) (.int .i64 ((j : Int) + 4)) w8):=⟨j + 4,out ++ [bz],by omega,by omega,by go_num,HU2.out,by simp;omega,by rw [List.length_append,Lib.byteCells_append];exact HO8.out,HB8.out⟩;go_wp2_with fail;go_roundw
            case rel => first | exact HL8.out | exact ⟨_,_,_,HL8.out,rfl,rfl,rfl⟩
            case measure => simp [intOf];omega
         ·have f3 : ((d.toNat : Int) == 120) = false:=by rw [beq_eq_false_iff_ne];omega
          have HS : Hid (rqV s.data.toList k = .tuple #[.string (S []),.int .i64 (-1)]):=by
           show _ = _;rw [HV.out,HUN.out,unq_bad (by rw [HD1.out,HDD.out,qesc,if_neg hdq,if_neg hdx])]
           rfl
          clear hdq hdx;go_wp2_with fail;refine bodyPost_ret (results_tmp2 rfl _ _ _) rfl ?_;refine ⟨?_,HB.out⟩;rw [HS.out]
          rfl
        ·have n3 : ¬ (j : Int) + 3 < (s.size : Int):=by omega
         have hqh : qhex (s.data.toList.drop (j + 2)) = .bad:=by
          have hlen : (s.data.toList.drop (j + 2)).length ≤ 1:=by rw [List.length_drop,str_len];omega
          match s.data.toList.drop (j + 2),hlen with
          | [],_ => rfl
          | [_],_ => rfl
          | _ :: _ :: _,h => simp at h
         have hqe : qstep (s.data.toList.drop j) = .bad:=by
          rw [HD1.out,HDD.out,qesc,if_neg hdq]
          split
          ·exact hqh
          ·rfl
         have HS : Hid (rqV s.data.toList k = .tuple #[.string (S []),.int .i64 (-1)]):=by
          show _ = _;rw [HV.out,HUN.out,unq_bad hqe]
          rfl
         clear hqe hqh hdq hl3;go_wp2_with fail;refine bodyPost_ret (results_tmp2 rfl _ _ _) rfl ?_;refine ⟨?_,HB.out⟩;rw [HS.out]
         rfl
      ·have js1 : ¬ (j : Int) + 1 < (s.size : Int):=by omega
       have js3 : ¬ (j : Int) + 3 < (s.size : Int):=by omega
       have HS : Hid (rqV s.data.toList k = .tuple #[.string (S []),.int .i64 (-1)]):=by
        show _ = _;rw [HV.out,HUN.out,unq_bad (by rw [HD1.out,List.drop_eq_nil_of_le (by rw [str_len];omega)];rfl)]
        rfl
       clear hl1;go_wp2_with fail;refine bodyPost_ret (results_tmp2 rfl _ _ _) rfl ?_;refine ⟨?_,HB.out⟩;rw [HS.out]
       rfl
     ·have e2 : ((c.toNat : Int) == 92) = false:=by rw [beq_eq_false_iff_ne];omega
      have HU2 : Hid (unq (s.data.toList.drop (k + 1)) = (unq (s.data.toList.drop (j + 1))).map fun p => ((out ++ [c]) ++ p.1,p.2)):=by
       show _ = _;rw [HUN.out,HD.out,unq_byte (b:=c) (r:=s.data.toList.drop (j + 1)) (by rw [qstep,if_neg h34,if_neg hbad,if_pos h92]),Option.map_map]
       congr 1
       funext p
       simp
      clear h34 hbad h92;go_wp2_with (at_builtin;refine wpList_push (W:=wr) (cs:=#[.int .u8 (c.toNat : Int)]) rfl (.tmp 35) (.tmp 37) _ rfl w.heap.size 5 i5 _ 1 1 Tryz.underlying29 I5.out hz5 hs5 hb5 rfl (by omega) (.slice A7 out.length c7) out.length _ rfl HO.out 1 1 rfl rfl (by simp [Value.oneCell']) (by omega) (by unfold maxLen;omega) (by omega) hsw ?_;intro g8 c8 w8 hown8 _ hb8 _ _ _;have HL8 : Hid (ULoop s k w (.slice (some ⟨g8,0,none⟩) (out.length + 1) c8) (.int .i64 ((j : Int) + 1)) w8):=⟨j + 1,out ++ [c],by omega,by omega,by go_num,HU2.out,by simp;omega,by rw [List.length_append,Lib.byteCells_append];exact hown8,HB.out.trans hb8⟩;clear hown8 hb8);go_roundw
      case rel => first | exact HL8.out | exact ⟨_,_,_,HL8.out,rfl,rfl,rfl⟩
      case measure => simp [intOf];omega
  ·have js : ¬ (j : Int) < (s.size : Int):=by omega
   have HS : Hid (rqV s.data.toList k = .tuple #[.string (S []),.int .i64 (-1)]):=by
    show _ = _;rw [HV.out,HUN.out,unq_bad (by rw [List.drop_eq_nil_of_le (by rw [str_len];omega)];rfl)]
    rfl
   clear hlt;go_wp2_with fail;refine bodyPost_ret (results_tmp2 rfl _ _ _) rfl ?_;refine ⟨?_,HB.out⟩;rw [HS.out]
   rfl
def sg (s : ByteArray) (a b : Nat) : List UInt8:=(s.data.toList.drop a).take (b - a)
theorem sg_ext (s : ByteArray) (a b : Nat) : s.extract a b = S (sg s a b):=by
 apply ByteArray.ext
 apply Array.toList_inj.1
 show (s.extract a b).data.toList = (s.data.toList.drop a).take (b - a);rw [ByteArray.data_extract,Array.toList_extract]
theorem sg_nil (s : ByteArray) (a : Nat) : sg s a a = []:=by simp [sg]
theorem sg_app {s : ByteArray} {a b : Nat} (h : a ≤ b) : s.data.toList.drop a = sg s a b ++ s.data.toList.drop b:=by
 have:=(List.take_append_drop (b - a) (s.data.toList.drop a)).symm;rw [List.drop_drop,show a + (b - a) = b by omega] at this;exact this
theorem sg_len {s : ByteArray} {a b : Nat} (h : a ≤ b) (hb : b ≤ s.size) : (sg s a b).length = b - a:=by
 unfold sg;rw [List.length_take,List.length_drop,str_len];omega
theorem sg_cat {s : ByteArray} {a b c : Nat} (h : a ≤ b) (hc : b ≤ c) : sg s a c = sg s a b ++ sg s b c:=by
 unfold sg;rw [show c - a = (b - a) + (c - b) by omega,List.take_add,List.drop_drop,show a + (b - a) = b by omega]
theorem sg_one {s : ByteArray} {a : Nat} (h : a < s.size) : sg s a (a + 1) = [s[a]]:=by
 unfold sg;rw [bdrop h];simp
theorem sg_snoc {s : ByteArray} {a b : Nat} (h : a ≤ b) (hb : b < s.size) : sg s a (b + 1) = sg s a b ++ [s[b]]:=by
 rw [sg_cat h (Nat.le_succ b),sg_one hb]
theorem sg_ne {s : ByteArray} {a b : Nat} (h : a < b) (hb : b ≤ s.size) : sg s a b ≠ []:=by
 intro e;have:=sg_len (Nat.le_of_lt h) hb;rw [e] at this;simp at this;omega
theorem info9 : (Tryz.prog.info? 9).map (fun i => (i.zero,i.size,i.bytes)) = some (some (.string ⟨#[]⟩),1,16):=by kernel_rfl
theorem info106 : (Tryz.prog.info? 165).map (fun i => (i.zero,i.size,i.bytes)) = some (some (.agg #[.bool false,.string ⟨#[]⟩]),2,24):=by kernel_rfl
theorem info96 : (Tryz.prog.info? 159).map (fun i => (i.zero,i.size,i.bytes)) = some (some (.agg #[.string ⟨#[]⟩,.bool false]),2,24):=by kernel_rfl
theorem info29 : (Tryz.prog.info? 33).map (fun i => (i.zero,i.size,i.bytes)) = some (some (.agg Em.zero.cs),13,160):=by kernel_rfl
theorem info3 : (Tryz.prog.info? 3).map (fun i => (i.zero,i.size,i.bytes)) = some (some (.int .i64 0),1,8):=by kernel_rfl
theorem wds_cut {nl : Bool} {w r : List UInt8} {c : UInt8} (hw : ∀ q ∈ w,plnB nl q = true) (hb : blk c = false) (hc : plnB nl c = false) (h0 : w = [] → ¬ c.toNat = 34) : wordsG nl (w ++ c :: r) = none:=by
 cases w with
 | nil => exact wds_stop r hb (h0 rfl) hc
 | cons a w => exact wds_bad (by simp) hw hb hc
theorem unq_len : ∀ (n : Nat) (l : List UInt8),l.length ≤ n → ∀ b r,unq l = some (b,r) → b.length + r.length < l.length
 | 0,l,hl,b,r,h => by
  have : l = []:=List.length_eq_zero_iff.1 (by omega);subst this;rw [unq_bad (by rfl)] at h
  cases h
 | n + 1,l,hl,b,r,h => by
  cases hq : qstep l with
  | stop r1 =>
   rw [unq_stop hq] at h;injection h with h
   injection h with h1 h2
   subst h1 h2;have:=qstep_stop hq;simp only [List.length_nil];omega
  | byte b1 r1 =>
   rw [unq_byte hq] at h;obtain ⟨p,hp,he⟩:=Option.map_eq_some_iff.1 h;injection he with h1 h2
   have hlt:=qstep_byte hq;have:=unq_len n r1 (by omega) p.1 p.2 hp;rw [← h2,← h1];simp only [List.length_cons];omega
  | bad =>
   rw [unq_bad hq] at h
   cases h
theorem unq_rest {s : ByteArray} {k : Nat} {b t : List UInt8} (hk : k < s.size) (h : unq (s.data.toList.drop (k + 1)) = some (b,t)) : ∃ q,k + 1 < q ∧ q ≤ s.size ∧ s.size - t.length = q ∧ t = s.data.toList.drop q ∧ b.length < q - k ∧ ∀ x ∈ sg s (k + 1) q,Inn x:=by
 obtain ⟨a,ha,hin⟩:=unq_pre _ _ (Nat.le_refl _) b t h;have hlt:=unq_lt _ _ (Nat.le_refl _) b t h;have hl : (s.data.toList.drop (k + 1)).length = s.size - (k + 1):=by rw [List.length_drop,str_len]
 have hbl:=unq_len _ _ (Nat.le_refl _) b t h
 have hla : a.length + t.length = s.size - (k + 1):=by
  rw [← hl,ha,List.length_append]
 have ht : t = s.data.toList.drop (s.size - t.length):=by
  have h1 : (s.data.toList.drop (k + 1)).drop a.length = t:=by rw [ha];simp
  rw [List.drop_drop,show k + 1 + a.length = s.size - t.length by omega] at h1;exact h1.symm
 refine ⟨s.size - t.length,by omega,by omega,rfl,ht,by omega,?_⟩;intro x hx;refine hin x ?_
 have : sg s (k + 1) (s.size - t.length) = a:=by
  unfold sg;rw [ha,show s.size - t.length - (k + 1) = a.length by omega];simp
 rw [this] at hx;exact hx
theorem blk_val (c : UInt8) : blk c = (((c.toNat : Int) == 32) || ((c.toNat : Int) == 9)):=by
 unfold blk
 have e1 : ((c.toNat : Int) == 32) = (c.toNat == 32):=by
  by_cases h : c.toNat = 32
  ·simp [h]
  ·rw [beq_eq_false_iff_ne.2 h,beq_eq_false_iff_ne.2 (by omega)]
 have e2 : ((c.toNat : Int) == 9) = (c.toNat == 9):=by
  by_cases h : c.toNat = 9
  ·simp [h]
  ·rw [beq_eq_false_iff_ne.2 h,beq_eq_false_iff_ne.2 (by omega)]
 rw [e1,e2]
theorem blank_any (c : UInt8) (w : World) : Calls Tryz.prog 78 #[.int .u8 (c.toNat : Int)] w fun e w' => e = .returned (.bool (blk c)) ∧ w = w':=by
 have HB:=hide (blk_val c)
 by_cases h : (c.toNat : Int) = 32
 ·have h1 : ((c.toNat : Int) == 32) = true:=by rw [h];rfl
  go_enter Tryz.func78,Tryz.ntmps78;go_wp2_with fail;go_ret;exact ⟨by rw [HB.out,h1];rfl,rfl⟩
 ·have h1 : ((c.toNat : Int) == 32) = false:=beq_eq_false_iff_ne.2 h
  go_enter Tryz.func78,Tryz.ntmps78;go_wp2_with fail;go_ret;exact ⟨by rw [HB.out,h1];rfl,rfl⟩
theorem rblank_any (c : UInt8) (w : World) : Calls Tryz.prog 89 #[.int .u8 (c.toNat : Int)] w fun e w' => e = .returned (.bool (blk c)) ∧ w = w':=by
 have HB:=hide (blk_val c)
 by_cases h : (c.toNat : Int) = 32
 ·have h1 : ((c.toNat : Int) == 32) = true:=by rw [h];rfl
  go_enter Tryz.func89,Tryz.ntmps89;go_wp2_with fail;go_ret;exact ⟨by rw [HB.out,h1];rfl,rfl⟩
 ·have h1 : ((c.toNat : Int) == 32) = false:=beq_eq_false_iff_ne.2 h
  go_enter Tryz.func89,Tryz.ntmps89;go_wp2_with fail;go_ret;exact ⟨by rw [HB.out,h1];rfl,rfl⟩
end Go.Proofs.YtcibcmfaebbhnaaGreatDoor
