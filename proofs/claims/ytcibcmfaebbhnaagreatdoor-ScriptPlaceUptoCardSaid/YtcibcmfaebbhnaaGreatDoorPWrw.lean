/-
  The reference's Words: a line cut into words.
-/
import Derived.Deep.LoopGhost
import Derived.Test.YtcibcmfaebbhnaaGreatDoorPBln
set_option linter.unusedSimpArgs false
set_option linter.unusedVariables false
set_option maxRecDepth 100000
set_option maxHeartbeats 8000000

namespace Go.Proofs.YtcibcmfaebbhnaaGreatDoor
open Go.RowKit Go.WideShapes Go.ChangeShapes Q
def WLoop (t : TypeId) (cells : List Wd → List Value) (nl : Bool) (s : ByteArray) (w : World) (v i : Value) (wr : World) : Prop:=∃ (j : Nat) (ws : List Wd),j ≤ s.size ∧ ws.length ≤ j ∧ i = .int .i64 j ∧
 wordsG nl s.data.toList = (wordsG nl (s.data.toList.drop j)).map (ws ++ ·) ∧ wr.ownsRow w.heap.size t 2 v ws.length (cells ws) ∧ Below w.heap.size w wr
def KLoop (nl : Bool) (s : ByteArray) (j : Nat) (W wr : World) (k : Value) : Prop:=W = wr ∧ ∃ m : Nat,j ≤ m ∧ m ≤ s.size ∧ k = .int .i64 m ∧ ∀ q ∈ sg s j m,plnB nl q = true
theorem words_ref (s : ByteArray) (w : World) (hs : s.size ≤ 1000000000000) :
  Calls Tryz.prog 75 #[.string s] w fun e w' => WdsP 165 rwc (wordsG true s.data.toList) w e w':=by
 obtain ⟨i6,hi6,hz6,hs6,hb6⟩:=info_parts info106;have I6:=hide hi6;have Z6:=hide hz6;clear hi6 hz6;have HBK : ∀ c W,Hid (Calls Tryz.prog 89 #[.int .u8 (c.toNat : Int)] W fun e w' => e = .returned (.bool (blk c)) ∧ W = w'):=fun c W => rblank_any c W
 have HL0 : Hid (WLoop 165 rwc true s w (.slice none 0 0) (.int .i64 0) w):=⟨0,[],by omega,by simp,rfl,by simp,World.ownsRow_nil _ _ _ _,Below.refl _ _⟩;go_enter Tryz.func75,Tryz.ntmps75;go_upto_region 3 with fail
 go_loopw [4,5,6,7,8] (fun v i _ _ _ wr => WLoop 165 rwc true s w v i wr) (fun _ i _ _ _ _ => s.size - (intOf i).toNat)
 case atStart => exact HL0.out
 case round =>
  clear HL0;unfold WLoop at hrel;obtain ⟨j,ws,hj,hwl,rfl,hwd,hown,hb⟩:=hrel;have HWD:=hide hwd;have HO:=hide hown;have HB:=hide hb;have hsw : w.heap.size ≤ wr.heap.size:=HB.out.size;obtain ⟨A7,c7,rfl,_,_⟩:=own_slice hown;clear hwd hown hb;have j0 : (0 : Int) ≤ (j : Int):=by omega
  by_cases hlt : j < s.size
  ·obtain ⟨c,hc⟩ : ∃ c,c = s[j]:=⟨_,rfl⟩
   have hcc:=hc.symm;have HD : Hid (s.data.toList.drop j = c :: s.data.toList.drop (j + 1)):=by rw [hc];exact bdrop hlt
   have HC:=hide hc;have c256 : c.toNat < 256:=c.toNat_lt;have js : (j : Int) < (s.size : Int):=by omega
   clear hc
   cases hbk : blk c with
   | true =>
    have HBC : ∀ W,Hid (Calls Tryz.prog 89 #[.int .u8 (c.toNat : Int)] W fun e w' => e = .returned (.bool true) ∧ W = w'):=fun W => by have:=HBK c W;rw [hbk] at this;exact this
    have HL8 : Hid (WLoop 165 rwc true s w (.slice A7 ws.length c7) (.int .i64 ((j : Int) + 1)) wr):=⟨j + 1,ws,by omega,by omega,by go_num,by rw [HWD.out,HD.out,wds_blank _ hbk],HO.out,HB.out⟩;clear hbk;go_wp2_with (go_at_call 89;refine (HBC _).out.mono ?_;rintro e w2 ⟨rfl,rfl⟩);go_roundw
    case rel => first | exact HL8.out | exact ⟨_,_,_,_,_,HL8.out,rfl,rfl,rfl,rfl,rfl⟩
    case measure => simp [intOf];omega
   | false =>
    have HBC : ∀ W,Hid (Calls Tryz.prog 89 #[.int .u8 (c.toNat : Int)] W fun e w' => e = .returned (.bool false) ∧ W = w'):=fun W => by have:=HBK c W;rw [hbk] at this;exact this
    by_cases h34 : c.toNat = 34
    ·have e34 : ((c.toNat : Int) == 34) = true:=by rw [beq_iff_eq];omega
     have HQ:=hide (quoted_any s j wr hs hlt)
     have HWS : Hid (wordsG true (s.data.toList.drop j) = match unq (s.data.toList.drop (j + 1)) with | none => none | some p => if edge p.2 = true then (wordsG true p.2).map ((p.1,true) :: ·) else none):=by
      show _ = _;rw [HD.out,wds_str _ h34]
      cases unq (s.data.toList.drop (j + 1)) <;> rfl
     clear h34 hbk
     cases hu : unq (s.data.toList.drop (j + 1)) with
     | none =>
      have HQ2 : Hid (Calls Tryz.prog 90 #[.string s,.int .i64 j] wr fun e w' => e = .returned (.tuple #[.string (S []),.int .i64 (-1)]) ∧ Below wr.heap.size wr w'):=by
       have:=HQ.out;unfold rqV at this;rw [hu] at this;exact this
      have HN : Hid (wordsG true s.data.toList = none):=by
       show _ = _;rw [HWD.out,HWS.out,hu]
       rfl
      clear HQ hu;go_wp2_with (first | (go_at_call 89;refine (HBC _).out.mono ?_;rintro e w2 ⟨rfl,rfl⟩) | (go_at_call 90;refine HQ2.out.mono ?_;rintro e w2 ⟨rfl,hb2⟩;have HB2:=hide hb2;clear hb2));refine bodyPost_ret (results_tmp2 rfl _ _ _) rfl ?_;exact ⟨none,0,[],false,rfl,World.ownsRow_nil _ _ _ _,HB.out.trans (HB2.out.mono hsw),(fun h => by cases h),fun _ => HN.out⟩
     | some p =>
      obtain ⟨b,t⟩:=p;obtain ⟨q,hq1,hq2,hq3,hq4,hq5,hq6⟩:=unq_rest hlt hu
      have HQ2 : Hid (Calls Tryz.prog 90 #[.string s,.int .i64 j] wr fun e w' => e = .returned (.tuple #[.string (S b),.int .i64 (q : Int)]) ∧ Below wr.heap.size wr w'):=by
       have:=HQ.out;unfold rqV at this;rw [hu] at this;simp only [Option.map_some,str_len,hq3] at this;exact this
      have q0 : (0 : Int) ≤ (q : Int):=by omega
      have qn : ¬ (q : Int) < 0:=by omega
      have HW2 : Hid (wordsG true s.data.toList = (if edge (s.data.toList.drop q) = true then (wordsG true (s.data.toList.drop q)).map ((b,true) :: ·) else none).map (ws ++ ·)):=by
       show _ = _;rw [HWD.out,HWS.out,hu,← hq4]
      clear HQ hu hq3 hq4 hq6 HWS
      have HLX : Hid (edge (s.data.toList.drop q) = true → ∀ (g8 c8 : Nat) (w2 w8 : World),Below wr.heap.size wr w2 → w8.ownsRow w.heap.size 165 2 (.slice (some ⟨g8,0,none⟩) (ws.length + 1) c8) (ws.length + 1) (rwc ws ++ [.bool true,.string (S b)]) → Below w.heap.size w2 w8 → WLoop 165 rwc true s w (.slice (some ⟨g8,0,none⟩) (ws.length + 1) c8) (.int .i64 (q : Int)) w8):=by
       intro hed g8 c8 w2 w8 hb2 hown8 hb8;refine ⟨q,ws ++ [(b,true)],hq2,by simp;omega,rfl,?_,?_,HB.out.trans ((hb2.mono hsw).trans hb8)⟩
       ·rw [HW2.out,if_pos hed,Option.map_map]
        congr 1
        funext l
        simp
       ·rw [rwc_snoc,List.length_append]
        exact hown8
      have w63 : ws.length ≤ s.size:=by omega
      by_cases hqe : q < s.size
      ·obtain ⟨d,hd⟩ : ∃ d,d = s[q]:=⟨_,rfl⟩
       have hdc:=hd.symm;have qs : (q : Int) < (s.size : Int):=by omega
       have HE : Hid (edge (s.data.toList.drop q) = blk d):=by
        show _ = _;rw [bdrop hqe,hd]
        rfl
       clear hd
       cases hbd : blk d with
       | true =>
        have HBD : ∀ W,Hid (Calls Tryz.prog 89 #[.int .u8 (d.toNat : Int)] W fun e w' => e = .returned (.bool true) ∧ W = w'):=fun W => by have:=HBK d W;rw [hbd] at this;exact this
        have HED : Hid (edge (s.data.toList.drop q) = true):=HE.out.trans hbd;clear hbd
        go_wp2_with (first
         | (go_at_call 89;first | (with_reducible refine (HBC _).out.mono ?_;rintro e w2 ⟨rfl,rfl⟩) | (with_reducible refine (HBD _).out.mono ?_;rintro e w2 ⟨rfl,rfl⟩))
         | (go_at_call 90;refine HQ2.out.mono ?_;rintro e w2 ⟨rfl,hb2⟩;have HB2:=hide hb2;have HO2:=hide (own_step HO.out hb2);have hsw2 : w.heap.size ≤ w2.heap.size:=Nat.le_trans hsw hb2.size;clear hb2)
         | (at_builtin;refine wpList_push (W:=w2) (cs:=#[.bool true,.string (S b)]) rfl (.tmp 44) (.tmp 47) _ rfl w.heap.size 165 i6 _ 2 24 Tryz.underlying139 I6.out Z6.out hs6 hb6 rfl (by omega) (.slice A7 ws.length c7) ws.length _ rfl HO2.out 1 1 rfl rfl (by simp [Value.oneCell']) (by omega) (by unfold maxLen;omega) (by omega) hsw2 ?_;intro g8 c8 w8 hown8 _ hb8 _ _ _;have HL8:=hide (HLX.out HED.out g8 c8 w2 w8 HB2.out hown8 hb8);clear hown8 hb8))
        go_roundw
        case rel => first | exact HL8.out | exact ⟨_,_,_,_,_,HL8.out,rfl,rfl,rfl,rfl,rfl⟩
        case measure => simp [intOf];omega
       | false =>
        have HBD : ∀ W,Hid (Calls Tryz.prog 89 #[.int .u8 (d.toNat : Int)] W fun e w' => e = .returned (.bool false) ∧ W = w'):=fun W => by have:=HBK d W;rw [hbd] at this;exact this
        have HN : Hid (wordsG true s.data.toList = none):=by
         show _ = _;rw [HW2.out,if_neg (by rw [HE.out,hbd];decide)]
         rfl
        clear hbd
        go_wp2_with (first
         | (go_at_call 89;first | (with_reducible refine (HBC _).out.mono ?_;rintro e w2 ⟨rfl,rfl⟩) | (with_reducible refine (HBD _).out.mono ?_;rintro e w2 ⟨rfl,rfl⟩))
         | (go_at_call 90;refine HQ2.out.mono ?_;rintro e w2 ⟨rfl,hb2⟩;have HB2:=hide hb2;clear hb2))
        refine bodyPost_ret (results_tmp2 rfl _ _ _) rfl ?_;exact ⟨none,0,[],false,rfl,World.ownsRow_nil _ _ _ _,HB.out.trans (HB2.out.mono hsw),(fun h => by cases h),fun _ => HN.out⟩
      ·have qs : ¬ (q : Int) < (s.size : Int):=by omega
       have HED : Hid (edge (s.data.toList.drop q) = true):=by
        show _ = _;rw [List.drop_eq_nil_of_le (by rw [str_len];omega)]
        rfl
       go_wp2_with (first
        | (go_at_call 89;with_reducible refine (HBC _).out.mono ?_;rintro e w2 ⟨rfl,rfl⟩)
        | (go_at_call 90;refine HQ2.out.mono ?_;rintro e w2 ⟨rfl,hb2⟩;have HB2:=hide hb2;have HO2:=hide (own_step HO.out hb2);have hsw2 : w.heap.size ≤ w2.heap.size:=Nat.le_trans hsw hb2.size;clear hb2)
        | (at_builtin;refine wpList_push (W:=w2) (cs:=#[.bool true,.string (S b)]) rfl (.tmp 44) (.tmp 47) _ rfl w.heap.size 165 i6 _ 2 24 Tryz.underlying139 I6.out Z6.out hs6 hb6 rfl (by omega) (.slice A7 ws.length c7) ws.length _ rfl HO2.out 1 1 rfl rfl (by simp [Value.oneCell']) (by omega) (by unfold maxLen;omega) (by omega) hsw2 ?_;intro g8 c8 w8 hown8 _ hb8 _ _ _;have HL8:=hide (HLX.out HED.out g8 c8 w2 w8 HB2.out hown8 hb8);clear hown8 hb8))
       go_roundw
       case rel => first | exact HL8.out | exact ⟨_,_,_,_,_,HL8.out,rfl,rfl,rfl,rfl,rfl⟩
       case measure => simp [intOf];omega
    ·have e34 : ((c.toNat : Int) == 34) = false:=by rw [beq_eq_false_iff_ne];omega
     have HCB:=hide hbk;have H34:=hide h34;have HK0 : Hid (KLoop true s j wr wr (.int .i64 (j : Int))):=⟨rfl,j,Nat.le_refl _,hj,rfl,by rw [sg_nil];simp⟩;clear hbk h34;go_upto_region 13 with (go_at_call 89;with_reducible refine (HBC _).out.mono ?_;rintro e w2 ⟨rfl,rfl⟩)
     go_loopw [8] (fun k w2 => KLoop true s j wr w2 k) (fun k _ => s.size - (intOf k).toNat)
     case atStart => exact HK0.out
     case round =>
      clear HK0;unfold KLoop at hrel;obtain ⟨rfl,m,hjm,hm,rfl,hpl⟩:=hrel;have HPL:=hide hpl;clear hpl;have m0 : (0 : Int) ≤ (m : Int):=by omega
      have w63 : ws.length ≤ s.size:=by omega
      obtain ⟨X,hX⟩ : ∃ X,X = sg s j m:=⟨_,rfl⟩;have hxe : s.extract j m = S X:=by rw [hX];exact sg_ext s j m
      have HX:=hide hX;clear hX
      by_cases hml : m < s.size
      ·obtain ⟨d,hd⟩ : ∃ d,d = s[m]:=⟨_,rfl⟩
       have hdc:=hd.symm;have HDD : Hid (s.data.toList.drop m = d :: s.data.toList.drop (m + 1)):=by rw [hd];exact bdrop hml
       have HDE:=hide hd;have d256 : d.toNat < 256:=d.toNat_lt;have ms : (m : Int) < (s.size : Int):=by omega
       clear hd
       cases hbd : blk d with
       | true =>
        have HBD : ∀ W,Hid (Calls Tryz.prog 89 #[.int .u8 (d.toNat : Int)] W fun e w' => e = .returned (.bool true) ∧ W = w'):=fun W => by have:=HBK d W;rw [hbd] at this;exact this
        have hjm2 : j < m:=by
         rcases Nat.lt_or_ge j m with h | h
         ·exact h
         ·obtain rfl : m = j:=by omega
          have : d = c:=HDE.out.trans HC.out.symm;rw [this,HCB.out] at hbd
          cases hbd
        have HLX : Hid (∀ (g8 c8 : Nat) (w8 : World),w8.ownsRow w.heap.size 165 2 (.slice (some ⟨g8,0,none⟩) (ws.length + 1) c8) (ws.length + 1) (rwc ws ++ [.bool false,.string (S X)]) → Below w.heap.size wr w8 → WLoop 165 rwc true s w (.slice (some ⟨g8,0,none⟩) (ws.length + 1) c8) (.int .i64 (m : Int)) w8):=by
         intro g8 c8 w8 hown8 hb8;refine ⟨m,ws ++ [(X,false)],hm,by simp;omega,rfl,?_,?_,HB.out.trans hb8⟩
         ·rw [HWD.out,sg_app (s:=s) (Nat.le_of_lt hjm2),HDD.out,wds_sep (sg_ne hjm2 hm) HPL.out hbd,wds_blank _ hbd,← HX.out,Option.map_map]
          congr 1
          funext l
          simp
         ·rw [rwc_snoc,List.length_append]
          exact hown8
        have jm3 : (j : Int) ≤ (m : Int):=by omega
        have mz : (m : Int) ≤ (s.size : Int):=by omega
        clear hbd
        go_wp2_with (first
         | (go_at_call 89;with_reducible refine (HBD _).out.mono ?_;rintro e w2 ⟨rfl,rfl⟩)
         | (at_builtin;refine wpList_push (W:=wr) (cs:=#[.bool false,.string (S X)]) rfl (.tmp 74) (.tmp 80) _ rfl w.heap.size 165 i6 _ 2 24 Tryz.underlying139 I6.out Z6.out hs6 hb6 rfl (by omega) (.slice A7 ws.length c7) ws.length _ rfl HO.out 1 1 rfl rfl (by simp [Value.oneCell']) (by omega) (by unfold maxLen;omega) (by omega) hsw ?_;intro g8 c8 w8 hown8 _ hb8 _ _ _;have HL8:=hide (HLX.out g8 c8 w8 hown8 hb8);clear hown8 hb8))
        go_roundw
        case rel => first | exact HL8.out | exact ⟨_,_,_,_,_,HL8.out,rfl,rfl,rfl,rfl,rfl⟩
        case measure => simp [intOf];omega
       | false =>
        have HBD : ∀ W,Hid (Calls Tryz.prog 89 #[.int .u8 (d.toNat : Int)] W fun e w' => e = .returned (.bool false) ∧ W = w'):=fun W => by have:=HBK d W;rw [hbd] at this;exact this
        cases hpd : plnB true d with
        | true =>
         have f1 : ((d.toNat : Int) == 34) = false:=by
          rw [beq_eq_false_iff_ne];intro e;have : d.toNat = 34:=by omega
          rw [quo_pln this] at hpd
          cases hpd
         have f2 : ((d.toNat : Int) == 10) = false:=by
          rw [beq_eq_false_iff_ne];intro e;have : d.toNat = 10:=by omega
          unfold plnB at hpd;rw [this] at hpd;simp at hpd
         have HK8 : Hid (KLoop true s j wr wr (.int .i64 ((m : Int) + 1))):=by
          refine ⟨rfl,m + 1,by omega,by omega,by go_num,?_⟩;rw [sg_snoc hjm hml,← HDE.out];intro q hq
          rcases List.mem_append.1 hq with hq | hq
          ·exact HPL.out q hq
          ·obtain rfl : q = d:=by simpa using hq
           exact hpd
         clear hbd hpd;go_wp2_with (go_at_call 89;with_reducible refine (HBD _).out.mono ?_;rintro e w2 ⟨rfl,rfl⟩);go_roundw
         case rel => first | exact HK8.out | exact ⟨_,HK8.out,rfl⟩
         case measure => simp [intOf];omega
        | false =>
         have HN : Hid (wordsG true s.data.toList = none):=by
          show _ = _;rw [HWD.out,sg_app (s:=s) hjm,HDD.out,wds_cut HPL.out hbd hpd]
          ·rfl
          ·intro e h
           rcases Nat.lt_or_ge j m with h1 | h1
           ·exact sg_ne h1 hm e
           ·obtain rfl : m = j:=by omega
            rw [HDE.out,← HC.out] at h;exact H34.out h
         have hor : d.toNat = 34 ∨ d.toNat = 10:=by
          unfold plnB at hpd;rw [hbd] at hpd;simp at hpd
          by_cases h : d.toNat = 34
          ·exact .inl h
          ·exact .inr (hpd h)
         clear hbd hpd
         rcases hor with h3 | h3
         ·have f1 : ((d.toNat : Int) == 34) = true:=by rw [beq_iff_eq];omega
          clear h3;go_wp2_with (go_at_call 89;with_reducible refine (HBD _).out.mono ?_;rintro e w2 ⟨rfl,rfl⟩);refine bodyPost_ret (results_tmp2 rfl _ _ _) rfl ?_;exact ⟨none,0,[],false,rfl,World.ownsRow_nil _ _ _ _,HB.out,(fun h => by cases h),fun _ => HN.out⟩
         ·have f1 : ((d.toNat : Int) == 34) = false:=by rw [beq_eq_false_iff_ne];omega
          have f2 : ((d.toNat : Int) == 10) = true:=by rw [beq_iff_eq];omega
          clear h3;go_wp2_with (go_at_call 89;with_reducible refine (HBD _).out.mono ?_;rintro e w2 ⟨rfl,rfl⟩);refine bodyPost_ret (results_tmp2 rfl _ _ _) rfl ?_;exact ⟨none,0,[],false,rfl,World.ownsRow_nil _ _ _ _,HB.out,(fun h => by cases h),fun _ => HN.out⟩
      ·have ms : ¬ (m : Int) < (s.size : Int):=by omega
       have mz : (m : Int) ≤ (s.size : Int):=by omega
       have jm3 : (j : Int) ≤ (m : Int):=by omega
       have hjm2 : j < m:=by omega
       have HLX : Hid (∀ (g8 c8 : Nat) (w8 : World),w8.ownsRow w.heap.size 165 2 (.slice (some ⟨g8,0,none⟩) (ws.length + 1) c8) (ws.length + 1) (rwc ws ++ [.bool false,.string (S X)]) → Below w.heap.size wr w8 → WLoop 165 rwc true s w (.slice (some ⟨g8,0,none⟩) (ws.length + 1) c8) (.int .i64 (m : Int)) w8):=by
        intro g8 c8 w8 hown8 hb8;refine ⟨m,ws ++ [(X,false)],hm,by simp;omega,rfl,?_,?_,HB.out.trans hb8⟩
        ·have hd0 : s.data.toList.drop m = []:=List.drop_eq_nil_of_le (by rw [str_len];omega)
         rw [HWD.out,sg_app (s:=s) hjm,hd0,List.append_nil,wds_last (sg_ne hjm2 hm) HPL.out,wds_nil,← HX.out];simp
        ·rw [rwc_snoc,List.length_append]
         exact hown8
       go_wp2_with (at_builtin;refine wpList_push (W:=wr) (cs:=#[.bool false,.string (S X)]) rfl (.tmp 74) (.tmp 80) _ rfl w.heap.size 165 i6 _ 2 24 Tryz.underlying139 I6.out Z6.out hs6 hb6 rfl (by omega) (.slice A7 ws.length c7) ws.length _ rfl HO.out 1 1 rfl rfl (by simp [Value.oneCell']) (by omega) (by unfold maxLen;omega) (by omega) hsw ?_;intro g8 c8 w8 hown8 _ hb8 _ _ _;have HL8:=hide (HLX.out g8 c8 w8 hown8 hb8);clear hown8 hb8);go_roundw
       case rel => first | exact HL8.out | exact ⟨_,_,_,_,_,HL8.out,rfl,rfl,rfl,rfl,rfl⟩
       case measure => simp [intOf];omega
  ·have js : ¬ (j : Int) < (s.size : Int):=by omega
   have HN : Hid (wordsG true s.data.toList = some ws):=by
    show _ = _;rw [HWD.out,List.drop_eq_nil_of_le (by rw [str_len];omega),wds_nil];simp
   clear hlt;go_wp2_with fail;refine bodyPost_ret (results_tmp2 rfl _ _ _) rfl ?_;exact ⟨A7,c7,ws,true,rfl,HO.out,HB.out,(fun _ => HN.out),fun h => by cases h⟩
end Go.Proofs.YtcibcmfaebbhnaaGreatDoor
