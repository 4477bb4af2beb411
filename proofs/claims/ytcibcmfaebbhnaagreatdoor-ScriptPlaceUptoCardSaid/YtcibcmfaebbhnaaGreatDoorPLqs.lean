/-
  The program's split: a line cut into words, rune by rune. Contracts of the library's IndexByte and Cut laid at this program. (Printed by wip/tools/mklay4.py.)
-/
import Derived.Test.YtcibcmfaebbhnaaGreatDoorPWrw
import Derived.Test.YtcibcmfaebbhnaaGreatDoorPRng
import Derived.Shelf.Small.Strs
import Derived.Shelf.Small.Wraps
import Derived.Shelf.Strings.Cut
import Derived.Test.YtcibcmfaebbhnaaGreatDoorPRdc
set_option linter.unusedSimpArgs false
set_option linter.unusedVariables false
set_option maxRecDepth 100000
set_option maxHeartbeats 16000000

namespace Go.Proofs.YtcibcmfaebbhnaaGreatDoor
open Go.RowKit Go.WideShapes Go.ChangeShapes Q
def At (s : ByteArray) (pos q : Nat) (f k : Value) : Prop :=
 (f = .int .i64 (-1) ∧ ∃ n : Nat,k = .int .i64 n ∧ ((n ≤ pos ∧ q = pos) ∨ (pos < q ∧ n = q ∧ ∀ x ∈ sg s pos q,x.toNat < 128))) ∨
 (f = .int .i64 q ∧ q < pos ∧ (∃ n : Nat,k = .int .i64 n ∧ n ≤ q) ∧ ∀ x ∈ sg s q pos,plnB false x = true)
def SLoop (s : ByteArray) (w : World) (v f k : Value) (wr : World) : Prop:=∃ (pos q : Nat) (ws : List Wd),It wr w.heap.size s pos ∧ pos ≤ s.size ∧ q ≤ s.size ∧ ws.length ≤ q ∧
 wordsG false s.data.toList = (wordsG false (s.data.toList.drop q)).map (ws ++ ·) ∧ wr.ownsRow w.heap.size 159 2 v ws.length (pwc ws) ∧ Below w.heap.size w wr ∧ At s pos q f k
theorem pln_false {c : UInt8} (h1 : blk c = false) (h2 : ¬ c.toNat = 34) : plnB false c = true:=by
 unfold plnB;rw [h1];simp [h2]
theorem blk_low {c : UInt8} (h : blk c = true) : c.toNat = 32 ∨ c.toNat = 9:=by
 unfold blk at h;simpa using h
theorem high_pln {c : UInt8} (h : 128 ≤ c.toNat) : plnB false c = true:=by
 refine pln_false ?_ (by omega)
 cases hb : blk c with
 | false => rfl
 | true => rcases blk_low hb with h1 | h1 <;> omega
theorem rune_at {s : ByteArray} {pos r d : Nat} (h : pos < s.size) (hd : Utf8.decode s pos = (r,d)) :
  (s[pos].toNat < 128 → r = s[pos].toNat ∧ d = 1) ∧ (128 ≤ s[pos].toNat → 128 ≤ r ∧ 1 ≤ d ∧ pos + d ≤ s.size ∧ ∀ x ∈ sg s pos (pos + d),128 ≤ x.toNat):=by
 rw [decode_dropL s pos h,bdrop h] at hd;refine ⟨fun hl => ?_,fun hh => ?_⟩
 ·rw [rune_low _ hl] at hd
  injection hd with h1 h2
  exact ⟨h1.symm,h2.symm⟩
 ·have:=rune_high (s.data.toList.drop (pos + 1)) hh
  rw [hd] at this;obtain ⟨h1,h2,h3,h4⟩:=this;have hl : (s[pos] :: s.data.toList.drop (pos + 1)).length = s.size - pos:=by rw [← bdrop h,List.length_drop,str_len]
  rw [hl] at h3;simp only at h3;refine ⟨h1,h2,by omega,?_⟩;intro x hx;refine h4 x ?_;unfold sg at hx;rw [bdrop h,show pos + d - pos = d by omega] at hx;exact hx
theorem sg_mono {s : ByteArray} {a b : Nat} {x : UInt8} (h : a < b) (hx : x ∈ sg s (a + 1) b) : x ∈ sg s a b:=by
 rw [sg_cat (show a ≤ a + 1 by omega) (show a + 1 ≤ b by omega)];exact List.mem_append_right _ hx
theorem split_any (s : ByteArray) (w : World) (hs : s.size ≤ 1000000000000) :
  Calls Tryz.prog 61 #[.string s] w fun e w' => WdsP 159 pwc (wordsG false s.data.toList) w e w':=by
 obtain ⟨i6,hi6,hz6,hs6,hb6⟩:=info_parts info96;have I6:=hide hi6;have Z6:=hide hz6;clear hi6 hz6;have HBK : ∀ c W,Hid (Calls Tryz.prog 78 #[.int .u8 (c.toNat : Int)] W fun e w' => e = .returned (.bool (blk c)) ∧ W = w'):=fun c W => blank_any c W
 have HL0 : Hid (SLoop s w (.slice none 0 0) (.int .i64 (-1)) (.int .i64 0) (w.iter s 0)):=⟨0,0,[],It.new w s,by omega,by omega,by simp,by simp,World.ownsRow_nil _ _ _ _,(Below.refl _ _).alloc (Nat.le_refl _) _,.inl ⟨rfl,0,rfl,.inl ⟨by omega,rfl⟩⟩⟩;go_enter Tryz.func61,Tryz.ntmps61;go_wp2_with fail;go_step3;go_wp2_with fail;go_step3;go_wp2_with fail;go_loopw [4,5,6] (fun v f k wr => SLoop s w v f k wr) (fun _ _ _ w' => s.size - w'.iterPos w.heap.size)
 case atStart => exact HL0.out
 case round =>
  clear HL0;unfold SLoop at hrel;obtain ⟨pos,q,ws,hit,hpos,hq,hwl,hwd,hown,hb,hat⟩:=hrel;have HIT:=hide hit;have HWD:=hide hwd;have HO:=hide hown;have HB:=hide hb;have hsw : w.heap.size ≤ wr.heap.size:=HB.out.size;have hip : wr.iterPos w.heap.size = pos:=iterPos_at hit;obtain ⟨A7,c7,rfl,_,_⟩:=own_slice hown;have HIP:=hide hip;clear hwd hown hb hit hip;have w63 : ws.length ≤ s.size:=by omega
  by_cases hp : pos < s.size
  ·obtain ⟨r,d,hrd⟩ : ∃ r d,Utf8.decode s pos = (r,d):=⟨_,_,rfl⟩
   obtain ⟨W2,hW2⟩ : ∃ W2,W2 = putObj wr w.heap.size (.stringIter s (pos + d)):=⟨_,rfl⟩
   have hnx : ∀ ty,(Instr.next (.pointer (some ⟨w.heap.size,0,none⟩)) true ty).run Tryz.prog wr = .ok (.tuple #[.bool true,.int .i64 pos,.int .i32 r]) W2:=fun ty => by
    rw [run_next_at ty HIT.out hp,hrd,hW2]
   have HIT2 : Hid (It W2 w.heap.size s (pos + d)):=by show It _ _ _ _;rw [hW2];exact HIT.out.put _
   have HO2 : Hid (W2.ownsRow w.heap.size 159 2 (.slice A7 ws.length c7) ws.length (pwc ws)):=by show World.ownsRow _ _ _ _ _ _ _;rw [hW2];exact HIT.out.row HO.out _
   have HB2 : Hid (Below w.heap.size w W2):=by show Below _ _ _;rw [hW2];exact It.low HB.out (Nat.le_refl _) hsw _
   have hsw2 : w.heap.size ≤ W2.heap.size:=HB2.out.size;obtain ⟨c,hc⟩ : ∃ c,c = s[pos]:=⟨_,rfl⟩;have HD : Hid (s.data.toList.drop pos = c :: s.data.toList.drop (pos + 1)):=by rw [hc];exact bdrop hp
   have HRU : Hid ((c.toNat < 128 → r = c.toNat ∧ d = 1) ∧ (128 ≤ c.toNat → 128 ≤ r ∧ 1 ≤ d ∧ pos + d ≤ s.size ∧ ∀ x ∈ sg s pos (pos + d),128 ≤ x.toNat)):=by rw [hc];exact rune_at hp hrd
   have HC:=hide hc
   have hd1 : 1 ≤ d ∧ pos + d ≤ s.size:=by
    rcases Nat.lt_or_ge c.toNat 128 with h | h
    ·have:=(HRU.out.1 h).2;omega
    ·have:=HRU.out.2 h;omega
   have hone : sg s pos (pos + 1) = [c]:=by rw [hc];exact sg_one hp
   have HONE:=hide hone;clear hc hW2 hrd hone
   -- the next round,where the line stands with no plain word
   have HME : Hid (∀ w8,It w8 w.heap.size s (pos + d) → s.size - w8.iterPos w.heap.size < s.size - wr.iterPos w.heap.size):=by
    intro w8 h8;rw [iterPos_at h8,HIP.out];omega
   rcases hat with ⟨rfl,n,rfl,hcase⟩ | ⟨rfl,hqp,⟨n,rfl,hnq⟩,hpl⟩
   ·by_cases hskip : pos < n
    ·obtain ⟨hpq,rfl,hlow⟩ : pos < q ∧ n = q ∧ ∀ x ∈ sg s pos q,x.toNat < 128:=by
      rcases hcase with ⟨h1,_⟩ | h
      ·omega
      ·exact h
     have hcl : c.toNat < 128:=hlow c (by
      rw [sg_cat (show pos ≤ pos + 1 by omega) (show pos + 1 ≤ n by omega),HONE.out];simp)
     obtain ⟨hr,hd⟩:=HRU.out.1 hcl
     have HL8 : Hid (SLoop s w (.slice A7 ws.length c7) (.int .i64 (-1)) (.int .i64 (n : Int)) W2):=by
      refine ⟨pos + 1,n,ws,hd ▸ HIT2.out,by omega,hq,hwl,HWD.out,HO2.out,HB2.out,.inl ⟨rfl,n,rfl,?_⟩⟩
      rcases Nat.lt_or_ge (pos + 1) n with h | h
      ·exact .inr ⟨h,rfl,fun x hx => hlow x (sg_mono hpq hx)⟩
      ·exact .inl ⟨by omega,by omega⟩
     have e1 : (pos : Int) < (n : Int):=by omega
     clear hcase hlow hcl hr hskip;go_wp2_with fail;go_roundw
     case rel => first | exact HL8.out | exact ⟨_,_,_,HL8.out,rfl,rfl,rfl⟩
     case measure => exact HME.out _ HIT2.out
    ·obtain rfl : q = pos:=by
      rcases hcase with ⟨_,h⟩ | ⟨h1,h2,_⟩
      ·exact h
      ·omega
     have e1 : ¬ (q : Int) < (n : Int):=by omega
     clear hcase
     cases hbk : blk c with
     | true =>
      have hlow:=blk_low hbk;obtain ⟨hr,hd⟩:=HRU.out.1 (by omega)
      have HL8 : Hid (SLoop s w (.slice A7 ws.length c7) (.int .i64 (-1)) (.int .i64 (n : Int)) W2) :=
       ⟨q + 1,q + 1,ws,hd ▸ HIT2.out,by omega,by omega,by omega,by rw [HWD.out,HD.out,wds_blank _ hbk],HO2.out,HB2.out,.inl ⟨rfl,n,rfl,.inl ⟨by omega,rfl⟩⟩⟩
      clear hbk
      rcases hlow with h | h
      ·have f1 : ((r : Int) == 32) = true:=by rw [beq_iff_eq];omega
       go_wp2_with fail;go_roundw
       case rel => first | exact HL8.out | exact ⟨_,_,_,HL8.out,rfl,rfl,rfl⟩
       case measure => exact HME.out _ HIT2.out
      ·have f1 : ((r : Int) == 32) = false:=by rw [beq_eq_false_iff_ne];omega
       have f2 : ((r : Int) == 9) = true:=by rw [beq_iff_eq];omega
       go_wp2_with fail;go_roundw
       case rel => first | exact HL8.out | exact ⟨_,_,_,HL8.out,rfl,rfl,rfl⟩
       case measure => exact HME.out _ HIT2.out
     | false =>
      have hb32 : ¬ c.toNat = 32:=by
       intro h;unfold blk at hbk;rw [h] at hbk
       cases hbk
      have hb9 : ¬ c.toNat = 9:=by
       intro h;unfold blk at hbk;rw [h] at hbk
       cases hbk
      have hrr : ¬ r = 32 ∧ ¬ r = 9:=by
       rcases Nat.lt_or_ge c.toNat 128 with h | h
       ·have:=(HRU.out.1 h).1;omega
       ·have:=HRU.out.2 h;omega
      have f1 : ((r : Int) == 32) = false:=by rw [beq_eq_false_iff_ne];omega
      have f2 : ((r : Int) == 9) = false:=by rw [beq_eq_false_iff_ne];omega
      by_cases h34 : c.toNat = 34
      ·obtain ⟨hr,hd⟩:=HRU.out.1 (by omega)
       have f3 : ((r : Int) == 34) = true:=by rw [beq_iff_eq];omega
       have HQ:=hide (unquote_any s q W2 hs hq)
       have h34' : s.data.toList[q]? = some 34:=by
        rw [← List.head?_drop,HD.out];show some c = some 34
        congr 1
        exact UInt8.toNat_inj.1 h34
       have HWS : Hid (wordsG false (s.data.toList.drop q) = match unq (s.data.toList.drop (q + 1)) with | none => none | some p => if edge p.2 = true then (wordsG false p.2).map ((p.1,true) :: ·) else none):=by
        show _ = _;rw [HD.out,wds_str _ h34]
        cases unq (s.data.toList.drop (q + 1)) <;> rfl
       have HUA : Hid (unqA s.data.toList q = (unq (s.data.toList.drop (q + 1))).map fun p => (p.1,s.size - p.2.length)):=by
        show _ = _;unfold unqA;rw [h34',str_len]
        rfl
       clear h34 hbk hr
       cases hu : unq (s.data.toList.drop (q + 1)) with
       | none =>
        have HQ2 : Hid (Calls Tryz.prog 85 #[.string s,.int .i64 q] W2 fun e w' => e = .returned (.tuple #[.string (S []),.int .i64 0,.bool false]) ∧ Below W2.heap.size W2 w'):=by
         have:=HQ.out;unfold uqV at this;rw [HUA.out,hu] at this;exact this
        have HN : Hid (wordsG false s.data.toList = none):=by
         show _ = _;rw [HWD.out,HWS.out,hu]
         rfl
        clear HQ hu;go_wp2_with (go_at_call 85;refine HQ2.out.mono ?_;rintro e w2 ⟨rfl,hb3⟩;have HB3:=hide hb3;clear hb3);refine bodyPost_ret (results_tmp2 rfl _ _ _) rfl ?_;exact ⟨none,0,[],false,rfl,World.ownsRow_nil _ _ _ _,HB2.out.trans (HB3.out.mono hsw2),(fun h => by cases h),fun _ => HN.out⟩
       | some p =>
        obtain ⟨b,t⟩:=p;obtain ⟨z,hz1,hz2,hz3,hz4,hz5,hz6⟩:=unq_rest hp hu
        have HQ2 : Hid (Calls Tryz.prog 85 #[.string s,.int .i64 q] W2 fun e w' => e = .returned (.tuple #[.string (S b),.int .i64 (z : Int),.bool true]) ∧ Below W2.heap.size W2 w'):=by
         have:=HQ.out;unfold uqV at this;rw [HUA.out,hu] at this;simp only [Option.map_some,hz3] at this;exact this
        have z0 : (0 : Int) ≤ (z : Int):=by omega
        have HW2 : Hid (wordsG false s.data.toList = (if edge (s.data.toList.drop z) = true then (wordsG false (s.data.toList.drop z)).map ((b,true) :: ·) else none).map (ws ++ ·)):=by
         show _ = _;rw [HWD.out,HWS.out,hu,← hz4]
        have HLX : Hid (edge (s.data.toList.drop z) = true → ∀ (g8 c8 : Nat) (w2 w8 : World),Below W2.heap.size W2 w2 → It w8 w.heap.size s (q + d) → w8.ownsRow w.heap.size 159 2 (.slice (some ⟨g8,0,none⟩) (ws.length + 1) c8) (ws.length + 1) (pwc ws ++ [.string (S b),.bool true]) → Below w.heap.size w2 w8 → SLoop s w (.slice (some ⟨g8,0,none⟩) (ws.length + 1) c8) (.int .i64 (-1)) (.int .i64 (z : Int)) w8):=by
         intro hed g8 c8 w2 w8 hb2 hit8 hown8 hb8;refine ⟨q + 1,z,ws ++ [(b,true)],hd ▸ hit8,by omega,hz2,by simp;omega,?_,?_,HB2.out.trans ((hb2.mono hsw2).trans hb8),.inl ⟨rfl,z,rfl,.inr ⟨by omega,rfl,fun x hx => by have:=(hz6 x hx).2;omega⟩⟩⟩
         ·rw [HW2.out,if_pos hed,Option.map_map]
          congr 1
          funext l
          simp
         ·rw [pwc_snoc,List.length_append]
          exact hown8
        clear HQ hu hz3 hz4 hz6 HWS
        by_cases hze : z < s.size
        ·obtain ⟨y,hy⟩ : ∃ y,y = s[z]:=⟨_,rfl⟩
         have hyc:=hy.symm;have zs : (z : Int) < (s.size : Int):=by omega
         have HE : Hid (edge (s.data.toList.drop z) = blk y):=by
          show _ = _;rw [bdrop hze,hy]
          rfl
         clear hy
         cases hby : blk y with
         | true =>
          have HBD : ∀ W,Hid (Calls Tryz.prog 78 #[.int .u8 (y.toNat : Int)] W fun e w' => e = .returned (.bool true) ∧ W = w'):=fun W => by have:=HBK y W;rw [hby] at this;exact this
          have HED : Hid (edge (s.data.toList.drop z) = true):=HE.out.trans hby;clear hby
          go_wp2_with (first
           | (go_at_call 78;with_reducible refine (HBD _).out.mono ?_;rintro e w2 ⟨rfl,rfl⟩)
           | (go_at_call 85;refine HQ2.out.mono ?_;rintro e w2 ⟨rfl,hb3⟩;have HB3:=hide hb3;have HO3:=hide (own_step HO2.out hb3);have HIT3:=hide (HIT2.out.below hb3);have hsw3 : w.heap.size ≤ w2.heap.size:=Nat.le_trans hsw2 hb3.size;clear hb3)
           | (at_builtin;refine wpList_push (W:=w2) (cs:=#[.string (S b),.bool true]) rfl (.tmp 68) (.tmp 71) _ rfl w.heap.size 159 i6 _ 2 24 Tryz.underlying120 I6.out Z6.out hs6 hb6 rfl (by omega) (.slice A7 ws.length c7) ws.length _ rfl HO3.out 1 1 rfl rfl (by simp [Value.oneCell']) (by omega) (by unfold maxLen;omega) (by omega) hsw3 ?_;intro g8 c8 w8 hown8 hgr8 hb8 _ _ _;have HIT8:=hide ((HIT3.out.below ((Below.refl _ _).alloc (Nat.le_refl _) (.cells #[.string (S b),.bool true] 159))).grown (HO3.out.alloc _) hgr8);have HL8:=hide (HLX.out HED.out g8 c8 w2 w8 HB3.out HIT8.out hown8 hb8);clear hown8 hb8 hgr8))
          go_roundw
          case rel => first | exact HL8.out | exact ⟨_,_,_,HL8.out,rfl,rfl,rfl⟩
          case measure => exact HME.out _ HIT8.out
         | false =>
          have HBD : ∀ W,Hid (Calls Tryz.prog 78 #[.int .u8 (y.toNat : Int)] W fun e w' => e = .returned (.bool false) ∧ W = w'):=fun W => by have:=HBK y W;rw [hby] at this;exact this
          have HN : Hid (wordsG false s.data.toList = none):=by
           show _ = _;rw [HW2.out,if_neg (by rw [HE.out,hby];decide)]
           rfl
          clear hby
          go_wp2_with (first
           | (go_at_call 78;with_reducible refine (HBD _).out.mono ?_;rintro e w2 ⟨rfl,rfl⟩)
           | (go_at_call 85;refine HQ2.out.mono ?_;rintro e w2 ⟨rfl,hb3⟩;have HB3:=hide hb3;clear hb3))
          refine bodyPost_ret (results_tmp2 rfl _ _ _) rfl ?_;exact ⟨none,0,[],false,rfl,World.ownsRow_nil _ _ _ _,HB2.out.trans (HB3.out.mono hsw2),(fun h => by cases h),fun _ => HN.out⟩
        ·have zs : ¬ (z : Int) < (s.size : Int):=by omega
         have HED : Hid (edge (s.data.toList.drop z) = true):=by
          show _ = _;rw [List.drop_eq_nil_of_le (by rw [str_len];omega)]
          rfl
         go_wp2_with (first
          | (go_at_call 85;refine HQ2.out.mono ?_;rintro e w2 ⟨rfl,hb3⟩;have HB3:=hide hb3;have HO3:=hide (own_step HO2.out hb3);have HIT3:=hide (HIT2.out.below hb3);have hsw3 : w.heap.size ≤ w2.heap.size:=Nat.le_trans hsw2 hb3.size;clear hb3)
          | (at_builtin;refine wpList_push (W:=w2) (cs:=#[.string (S b),.bool true]) rfl (.tmp 68) (.tmp 71) _ rfl w.heap.size 159 i6 _ 2 24 Tryz.underlying120 I6.out Z6.out hs6 hb6 rfl (by omega) (.slice A7 ws.length c7) ws.length _ rfl HO3.out 1 1 rfl rfl (by simp [Value.oneCell']) (by omega) (by unfold maxLen;omega) (by omega) hsw3 ?_;intro g8 c8 w8 hown8 hgr8 hb8 _ _ _;have HIT8:=hide ((HIT3.out.below ((Below.refl _ _).alloc (Nat.le_refl _) (.cells #[.string (S b),.bool true] 159))).grown (HO3.out.alloc _) hgr8);have HL8:=hide (HLX.out HED.out g8 c8 w2 w8 HB3.out HIT8.out hown8 hb8);clear hown8 hb8 hgr8))
         go_roundw
         case rel => first | exact HL8.out | exact ⟨_,_,_,HL8.out,rfl,rfl,rfl⟩
         case measure => exact HME.out _ HIT8.out
      ·have hr34 : ¬ r = 34:=by
        rcases Nat.lt_or_ge c.toNat 128 with h | h
        ·have:=(HRU.out.1 h).1;omega
        ·have:=HRU.out.2 h;omega
       have f3 : ((r : Int) == 34) = false:=by rw [beq_eq_false_iff_ne];omega
       have HPN : Hid (∀ x ∈ sg s q (q + d),plnB false x = true):=by
        intro x hx
        rcases Nat.lt_or_ge c.toNat 128 with h | h
        ·rw [(HRU.out.1 h).2,HONE.out] at hx
         obtain rfl : x = c:=by simpa using hx
         exact pln_false hbk h34
        ·exact high_pln ((HRU.out.2 h).2.2.2 x hx)
       have HL8 : Hid (SLoop s w (.slice A7 ws.length c7) (.int .i64 (q : Int)) (.int .i64 (n : Int)) W2) :=
        ⟨q + d,q,ws,HIT2.out,by omega,hq,hwl,HWD.out,HO2.out,HB2.out,.inr ⟨rfl,by omega,⟨n,rfl,by omega⟩,HPN.out⟩⟩
       clear hbk h34 hr34;go_wp2_with fail;go_roundw
       case rel => first | exact HL8.out | exact ⟨_,_,_,HL8.out,rfl,rfl,rfl⟩
       case measure => exact HME.out _ HIT2.out
   ·have e1 : ¬ (pos : Int) < (n : Int):=by omega
    have q0 : (0 : Int) ≤ (q : Int):=by omega
    have qm1 : ¬ (q : Int) < 0:=by omega
    have qp2 : (q : Int) ≤ (pos : Int):=by omega
    have pz : (pos : Int) ≤ (s.size : Int):=by omega
    have HPL:=hide hpl;clear hpl
    cases hbk : blk c with
    | true =>
     have hlow:=blk_low hbk;obtain ⟨hr,hd⟩:=HRU.out.1 (by omega);obtain ⟨X,hX⟩ : ∃ X,X = sg s q pos:=⟨_,rfl⟩;have hxe : s.extract q pos = S X:=by rw [hX];exact sg_ext s q pos
     have HLX : Hid (∀ (g8 c8 : Nat) (w8 : World),It w8 w.heap.size s (pos + d) → w8.ownsRow w.heap.size 159 2 (.slice (some ⟨g8,0,none⟩) (ws.length + 1) c8) (ws.length + 1) (pwc ws ++ [.string (S X),.bool false]) → Below w.heap.size W2 w8 → SLoop s w (.slice (some ⟨g8,0,none⟩) (ws.length + 1) c8) (.int .i64 (-1)) (.int .i64 (n : Int)) w8):=by
      intro g8 c8 w8 hit8 hown8 hb8;refine ⟨pos + 1,pos + 1,ws ++ [(X,false)],hd ▸ hit8,by omega,by omega,by simp;omega,?_,?_,HB2.out.trans hb8,.inl ⟨rfl,n,rfl,.inl ⟨by omega,rfl⟩⟩⟩
      ·rw [HWD.out,sg_app (s:=s) (Nat.le_of_lt hqp),HD.out,wds_sep (sg_ne hqp hpos) HPL.out hbk,← hX,Option.map_map]
       congr 1
       funext l
       simp
      ·rw [pwc_snoc,List.length_append]
       exact hown8
     clear hbk hX
     rcases hlow with h | h
     ·have f1 : ((r : Int) == 32) = true:=by rw [beq_iff_eq];omega
      go_wp2_with (at_builtin;refine wpList_push (W:=W2) (cs:=#[.string (S X),.bool false]) rfl (.tmp 31) (.tmp 37) _ rfl w.heap.size 159 i6 _ 2 24 Tryz.underlying120 I6.out Z6.out hs6 hb6 rfl (by omega) (.slice A7 ws.length c7) ws.length _ rfl HO2.out 1 1 rfl rfl (by simp [Value.oneCell']) (by omega) (by unfold maxLen;omega) (by omega) hsw2 ?_;intro g8 c8 w8 hown8 hgr8 hb8 _ _ _;have HIT8:=hide ((HIT2.out.below ((Below.refl _ _).alloc (Nat.le_refl _) (.cells #[.string (S X),.bool false] 159))).grown (HO2.out.alloc _) hgr8);have HL8:=hide (HLX.out g8 c8 w8 HIT8.out hown8 hb8);clear hown8 hb8 hgr8);go_roundw
      case rel => first | exact HL8.out | exact ⟨_,_,_,HL8.out,rfl,rfl,rfl⟩
      case measure => exact HME.out _ HIT8.out
     ·have f1 : ((r : Int) == 32) = false:=by rw [beq_eq_false_iff_ne];omega
      have f2 : ((r : Int) == 9) = true:=by rw [beq_iff_eq];omega
      go_wp2_with (at_builtin;refine wpList_push (W:=W2) (cs:=#[.string (S X),.bool false]) rfl (.tmp 31) (.tmp 37) _ rfl w.heap.size 159 i6 _ 2 24 Tryz.underlying120 I6.out Z6.out hs6 hb6 rfl (by omega) (.slice A7 ws.length c7) ws.length _ rfl HO2.out 1 1 rfl rfl (by simp [Value.oneCell']) (by omega) (by unfold maxLen;omega) (by omega) hsw2 ?_;intro g8 c8 w8 hown8 hgr8 hb8 _ _ _;have HIT8:=hide ((HIT2.out.below ((Below.refl _ _).alloc (Nat.le_refl _) (.cells #[.string (S X),.bool false] 159))).grown (HO2.out.alloc _) hgr8);have HL8:=hide (HLX.out g8 c8 w8 HIT8.out hown8 hb8);clear hown8 hb8 hgr8);go_roundw
      case rel => first | exact HL8.out | exact ⟨_,_,_,HL8.out,rfl,rfl,rfl⟩
      case measure => exact HME.out _ HIT8.out
    | false =>
     have hb32 : ¬ c.toNat = 32:=by
      intro h;unfold blk at hbk;rw [h] at hbk
      cases hbk
     have hb9 : ¬ c.toNat = 9:=by
      intro h;unfold blk at hbk;rw [h] at hbk
      cases hbk
     have hrr : ¬ r = 32 ∧ ¬ r = 9:=by
      rcases Nat.lt_or_ge c.toNat 128 with h | h
      ·have:=(HRU.out.1 h).1;omega
      ·have:=HRU.out.2 h;omega
     have f1 : ((r : Int) == 32) = false:=by rw [beq_eq_false_iff_ne];omega
     have f2 : ((r : Int) == 9) = false:=by rw [beq_eq_false_iff_ne];omega
     by_cases h34 : c.toNat = 34
     ·obtain ⟨hr,hd⟩:=HRU.out.1 (by omega)
      have f3 : ((r : Int) == 34) = true:=by rw [beq_iff_eq];omega
      have HN : Hid (wordsG false s.data.toList = none):=by
       show _ = _;rw [HWD.out,sg_app (s:=s) (Nat.le_of_lt hqp),HD.out,wds_bad (sg_ne hqp hpos) HPL.out hbk (quo_pln h34)]
       rfl
      obtain ⟨X,nx,ok,hU⟩ : ∃ X nx ok,uqV s.data.toList pos = .tuple #[.string X,.int .i64 nx,.bool ok]:=by
       unfold uqV
       cases unqA s.data.toList pos with
       | none => exact ⟨_,_,_,rfl⟩
       | some p => exact ⟨_,_,_,rfl⟩
      have HQ2 : Hid (Calls Tryz.prog 85 #[.string s,.int .i64 pos] W2 fun e w' => e = .returned (.tuple #[.string X,.int .i64 nx,.bool ok]) ∧ Below W2.heap.size W2 w'):=by
       have:=unquote_any s pos W2 hs hpos;rw [hU] at this;exact this
      clear hbk hU hr h34;go_wp2_with (go_at_call 85;refine HQ2.out.mono ?_;rintro e w2 ⟨rfl,hb3⟩;have HB3:=hide hb3;clear hb3);refine bodyPost_ret (results_tmp2 rfl _ _ _) rfl ?_;exact ⟨none,0,[],false,rfl,World.ownsRow_nil _ _ _ _,HB2.out.trans (HB3.out.mono hsw2),(fun h => by cases h),fun _ => HN.out⟩
     ·have hr34 : ¬ r = 34:=by
       rcases Nat.lt_or_ge c.toNat 128 with h | h
       ·have:=(HRU.out.1 h).1;omega
       ·have:=HRU.out.2 h;omega
      have f3 : ((r : Int) == 34) = false:=by rw [beq_eq_false_iff_ne];omega
      have HPN : Hid (∀ x ∈ sg s q (pos + d),plnB false x = true):=by
       intro x hx;rw [sg_cat (show q ≤ pos by omega) (show pos ≤ pos + d by omega)] at hx
       rcases List.mem_append.1 hx with hx | hx
       ·exact HPL.out x hx
       rcases Nat.lt_or_ge c.toNat 128 with h | h
       ·rw [(HRU.out.1 h).2,HONE.out] at hx
        obtain rfl : x = c:=by simpa using hx
        exact pln_false hbk h34
       ·exact high_pln ((HRU.out.2 h).2.2.2 x hx)
      have HL8 : Hid (SLoop s w (.slice A7 ws.length c7) (.int .i64 (q : Int)) (.int .i64 (n : Int)) W2) :=
       ⟨pos + d,q,ws,HIT2.out,by omega,hq,hwl,HWD.out,HO2.out,HB2.out,.inr ⟨rfl,by omega,⟨n,rfl,hnq⟩,HPN.out⟩⟩
      clear hbk h34 hr34;go_wp2_with fail;go_roundw
      case rel => first | exact HL8.out | exact ⟨_,_,_,HL8.out,rfl,rfl,rfl⟩
      case measure => exact HME.out _ HIT2.out
  ·have hnx : ∀ ty,(Instr.next (.pointer (some ⟨w.heap.size,0,none⟩)) true ty).run Tryz.prog wr = .ok (.tuple #[.bool false]) wr:=fun ty => run_next_no ty HIT.out hp
   have hps : pos = s.size:=by omega
   rcases hat with ⟨rfl,n,rfl,hcase⟩ | ⟨rfl,hqp,⟨n,rfl,hnq⟩,hpl⟩
   ·have hqs : q = s.size:=by
     rcases hcase with ⟨_,h⟩ | ⟨h,_⟩ <;> omega
    have HN : Hid (wordsG false s.data.toList = some ws):=by
     show _ = _;rw [HWD.out,List.drop_eq_nil_of_le (by rw [str_len];omega),wds_nil];simp
    clear hcase hp hps hqs;go_wp2_with fail;refine bodyPost_ret (results_tmp2 rfl _ _ _) rfl ?_;exact ⟨A7,c7,ws,true,rfl,HO.out,HB.out,(fun _ => HN.out),fun h => by cases h⟩
   ·obtain ⟨X,hX⟩ : ∃ X,X = sg s q s.size:=⟨_,rfl⟩
    have hxe : s.extract q s.size = S X:=by rw [hX];exact sg_ext s q s.size
    have HN : Hid (wordsG false s.data.toList = some (ws ++ [(X,false)])):=by
     show _ = _;have hd0 : s.data.toList.drop s.size = []:=List.drop_eq_nil_of_le (by rw [str_len];omega);subst hps;rw [HWD.out,sg_app (s:=s) (Nat.le_of_lt hqp),hd0,List.append_nil,wds_last (sg_ne hqp (Nat.le_refl _)) hpl,← hX]
     rfl
    have q0 : (0 : Int) ≤ (q : Int):=by omega
    have qz : (q : Int) ≤ (s.size : Int):=by omega
    clear hX hpl hp hps;go_wp2_with (at_builtin;refine wpList_push (W:=wr) (cs:=#[.string (S X),.bool false]) rfl (.tmp 80) (.tmp 85) _ rfl w.heap.size 159 i6 _ 2 24 Tryz.underlying120 I6.out Z6.out hs6 hb6 rfl (by omega) (.slice A7 ws.length c7) ws.length _ rfl HO.out 1 1 rfl rfl (by simp [Value.oneCell']) (by omega) (by unfold maxLen;omega) (by omega) hsw ?_;intro g8 c8 w8 hown8 _ hb8 _ _ _;have HO8:=hide hown8;have HB8:=hide hb8;clear hown8 hb8);refine bodyPost_ret (results_tmp2 rfl _ _ _) rfl ?_;refine ⟨some ⟨g8,0,none⟩,c8,ws ++ [(X,false)],true,by rw [List.length_append];rfl,?_,HB.out.trans HB8.out,(fun _ => HN.out),fun h => by cases h⟩;rw [pwc_snoc,List.length_append];exact HO8.out
end Go.Proofs.YtcibcmfaebbhnaaGreatDoor
namespace Go.Proofs.YtcibcmfaebbhnaaGreatDoor
open Go.Shelf
def qren : Go.Shelf.Ren:=⟨fun | 137 => 62 | 145 => 77 | 217 => 86 | 219 => 106 | 220 => 94 | 224 => 116 | 225 => 115 | 266 => 103 | 267 => 117 | 314 => 122 | n => n,
 fun | 3 => 3 | 4 => 4 | 5 => 5 | 9 => 9 | 24 => 127 | 46 => 156 | 51 => 184 | 59 => 144 | 146 => 192 | n => n,
 fun | 1 => 3 | n => n⟩
theorem lq137 : Lays.n137 Tryz.prog qren:={
 mixed:=by kernel_rfl,
 f137:=Tryz.func62.trans (congrArg some (by kernel_rfl)),
 f217:=Tryz.func86.trans (congrArg some (by kernel_rfl)),
 f266:=Tryz.func103.trans (congrArg some (by kernel_rfl)),
 t3:=Tryz.underlying3,
 a3:=Tryz.isAgg3,
 z3:=Tryz.sizeOf3,
 v3:=Tryz.zeroValue3,
 t5:=Tryz.underlying5,
 a5:=Tryz.isAgg5,
 z5:=Tryz.sizeOf5,
 v5:=Tryz.zeroValue5,
 t9:=Tryz.underlying9,
 a9:=Tryz.isAgg9,
 z9:=Tryz.sizeOf9,
 v9:=Tryz.zeroValue9 }
theorem index_any (s : ByteArray) (c : UInt8) (w : World) : Calls Tryz.prog 62 #[.string s,.int .u8 (c.toNat : Int)] w fun e w' => e = .returned (.int .i64 (Lib.indexByte s.data.toList c)) ∧ w = w':=by
 have h:=Any.strings_IndexByte lq137 s (c.toNat : Int) w;have e : ((c.toNat : Int)).toNat.toUInt8 = c:=by simp
 rw [e] at h;exact h.mono fun e w' ⟨h1,h2⟩ => ⟨h1,h2.symm⟩
end Go.Proofs.YtcibcmfaebbhnaaGreatDoor
