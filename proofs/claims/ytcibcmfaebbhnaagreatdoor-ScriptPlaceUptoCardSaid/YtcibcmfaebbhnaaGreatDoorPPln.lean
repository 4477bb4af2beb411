/-
  The program's line. (Printed by wip/tools/mkplw2.py.)
-/
import Derived.Maps.RangeWalk
import Derived.Test.YtcibcmfaebbhnaaGreatDoorPIts
import Derived.Test.YtcibcmfaebbhnaaGreatDoorPRpv
import Derived.Test.YtcibcmfaebbhnaaGreatDoorPRng
import Derived.Test.YtcibcmfaebbhnaaGreatDoorPWords
set_option linter.unusedSimpArgs false
set_option linter.unusedVariables false
set_option maxRecDepth 100000
set_option maxHeartbeats 6000000

namespace Go.Proofs.YtcibcmfaebbhnaaGreatDoor
open Go.RowKit Go.WideShapes Go.ChangeShapes Q
def MpLoop (m : Em) (w : World) (b r : Nat) (wr : World) : Prop:=∃ (left : Lit → Bool) (cnt : Nat),wr.ranges Tryz.prog 9 (formElem (H:=Unit)) b r 19 formsD left cnt ∧ LeftK m.kd left ∧ Blk wr w.heap.size 33 m.cs ∧ Below w.heap.size w wr
structure LnSt (m : Em) (w : World) (L : List (List UInt8)) (v : Value) (wr : World) : Prop where
 own : ∃ A c,v = .slice A L.length c ∧ wr.ownsRow w.heap.size 9 1 (.slice A L.length c) L.length (txs L)
 box : Blk wr w.heap.size 33 m.cs
 low : Below w.heap.size w wr
def LnLoop (m : Em) (w : World) (f : List UInt8 × Int × List UInt8) (ip : Nat) (v : Value) (wr : World) : Prop:=∃ (pos : Nat) (L : List (List UInt8)),pos ≤ f.2.2.length ∧ It wr ip (S f.2.2) pos ∧ L = f.1 :: (f.2.2.take pos).flatMap (ltW m.ev) ∧ L.length ≤ 1 + 1048576 * pos ∧ LnSt m w L v wr
def SidLoop (m : Em) (w : World) (f : List UInt8 × Int × List UInt8) (ip pos : Nat) (L : List (List UInt8)) (v i : Value) (wr : World) : Prop:=∃ k : Nat,k ≤ m.ns ∧ i = .int .i64 k ∧ It wr ip (S f.2.2) pos ∧ LnSt m w (L ++ (m.sd.take k).map Lib.itoa) v wr
theorem key_inv {x : ByteArray} {kl : Lit} (h : keyOf Tryz.prog 9 (.string x) = some kl) : kl = .string x.data.toList:=by
 simp [keyOf,Tryz.underlying9,mapKey] at h;exact h.2.symm
theorem str_keys : ∀ key kl,keyOf Tryz.prog 9 key = some kl → ∃ x,key = .string x:=by
 intro key kl h
 cases key <;> simp [keyOf,Tryz.underlying9,mapKey] at h
 exact ⟨_,rfl⟩
theorem form_shape {H : Type} : ∀ v (y : DataW H × List MemPlace),formElem v = some y → ∃ c,v = .agg c:=by
 intro v y h;unfold formElem at h
 split at h
 ·exact ⟨_,rfl⟩
 ·cases h
theorem came_form {x : ByteArray} {c : Array Value} {kl : Lit} {y : DataW Unit × List MemPlace} (hkey : keyOf Tryz.prog 9 (.string x) = some kl) (hv : formElem (.agg c) = some y) (hat : ∀ zd,(formsD (H:=Unit)).atKey kl zd = y.1) :
  ∃ f ∈ formRows,kl = .string f.1 ∧ x = S f.1 ∧ c = #[.int .i64 f.2.1,.string (S f.2.2)]:=by
 obtain rfl:=key_inv hkey;obtain ⟨f,hf,h1,h2⟩:=came_row hat;obtain ⟨y1,y2⟩:=y;simp only at h2;subst h2;have h3:=formElem_inv (kd:=f.2.1) (ls:=f.2.2) hv;injection h3 with h3
 exact ⟨f,hf,by rw [h1],by rw [h1,S_self],h3⟩
theorem txs_one (l : List (List UInt8)) : ∀ u ∈ txs l,u.oneCell' = true:=by
 intro u hu;unfold txs at hu;obtain ⟨b,_,rfl⟩:=List.mem_map.1 hu
 rfl
theorem own_low {w : World} {base n : Nat} {e : TypeId} {size : Nat} {v : Value} {xs : List Value} {q : Nat} (h : w.ownsRow base e size v n xs) (hq : v.ownBlock = some q) : base ≤ q:=by
 rcases h.2 with ⟨rfl,_⟩ | ⟨g,cap,cur,rfl,hb,_⟩
 ·cases hq
 ·have : g = q:=by simpa [Value.ownBlock] using hq
  omega
theorem own_cap {w : World} {base n c : Nat} {e : TypeId} {size : Nat} {A : Option Addr} {xs : List Value} (h : w.ownsRow base e size (.slice A n c) n xs) : n ≤ c:=by
 rcases h.2 with ⟨h0,h1⟩ | ⟨g,cap,cur,h0,_,_,hc,_⟩
 ·injection h0 with _ _ h0
  omega
 ·injection h0 with _ _ h0
  omega
theorem line_any (m : Em) (w : World) (h : EmIn w w.heap.size m) (ho : EvOk m) (hT : OpT w) (hTb : Tab w) :
  Calls Tryz.prog 38 #[.agg m.cs] w fun e w' => e = .returned (.string (S (lineT m.ev))) ∧ Below w.heap.size w w':=by
 obtain ⟨i9,hi9,hz9,hs9,hb9⟩:=info_parts info9s;have I9:=hide hi9;clear hi9
 have HR : Hid (lineT m.ev = Lib.join (match formRows.find? (fun f => f.2.1 == m.kd) with | some f => rowW m.ev f | none => []) [32]):=by
  show _ = _;unfold lineT;rw [lineW_row]
  rfl
 have HZL : Hid ((lineT m.ev).length ≤ 30000000):=line_sz ho h.nb_len (RI.len h.sid);have HSDL:=hide (RI.len h.sid)
 have HNS : Hid (m.ns ≤ 1048576):=by
  show _ ≤ _;have:=ho.bulk;omega
 have HIA : Hid (∀ W,Tab W → Calls Tryz.prog 54 #[.int .i64 m.a] W fun e w' => e = .returned (.string (S (Lib.itoa m.a))) ∧ Below W.heap.size W w'):=fun W hT => itoa_any m.a W ho.a.1 ho.a.2 hT
 have HIB : Hid (∀ W,Tab W → Calls Tryz.prog 54 #[.int .i64 m.b] W fun e w' => e = .returned (.string (S (Lib.itoa m.b))) ∧ Below W.heap.size W w'):=fun W hT => itoa_any m.b W ho.b.1 ho.b.2 hT
 have HI_N : Hid (∀ W,Tab W → Calls Tryz.prog 54 #[.int .i64 m.n] W fun e w' => e = .returned (.string (S (Lib.itoa m.n))) ∧ Below W.heap.size W w'):=fun W hT => itoa_any m.n W ho.n.1 ho.n.2 hT
 have HSI:=hide ho.sd
 have HQB : Hid (∀ W,Calls Tryz.prog 58 #[.string (S m.bd)] W fun e w' => e = .returned (.string (S (quoteL m.bd))) ∧ Below W.heap.size W w'):=fun W => by
  have:=quote_any (S m.bd) W (by rw [S_size,h.nb_len];have:=ho.bulk;omega)
  rwa [S_data] at this
 have HAK : Hid (∀ W,OpT W → Calls Tryz.prog 60 #[.agg m.cmd] W fun e w' => RowP (askL m.ev) W e w'):=fun W hT => ask_any m W hT (by have:=ho.bulk;omega)
 have HOT:=hide hT;have H0:=hide hT.lt;have HTB:=hide hTb;have HIN:=hide h;clear h ho hT hTb;go_enter Tryz.func38,Tryz.ntmps38;go_upto_region 1 with fail
 generalize hW1 : World.alloc w _ = W1
 have HB1 : Hid (Below w.heap.size w W1):=by
  show Below _ _ _;rw [← hW1];exact (Below.refl _ _).alloc (Nat.le_refl _) _
 have HX1 : Hid (Blk W1 w.heap.size 33 m.cs):=by
  show Blk _ _ _ _;rw [← hW1];exact Blk.new _ _ _
 clear hW1;have HFO:=hide (forms_any (H:=Unit) W1);refine wp_region_lit ?_;refine wpList_step (fun K hK => ?_);rw [if_pos (by rfl)];go_simp;go_at_call 59;refine HFO.out.mono ?_;rintro e w2 ⟨rfl,hmap,hb2⟩;have HX2:=hide (HX1.out.below hb2 HX1.out.lt);have HB2:=hide (HB1.out.trans (hb2.mono HB1.out.size));have HMP:=hide hmap;refine hK _ _ ?_;clear hK K hb2 hmap HFO;try simp only [Act.put,aSt,aSz,aSs]
 refine wpList_range_own w2 rfl (.tmp 10) 115 rfl 9 118 (Maps.string_keyed Tryz.underlying9) Tryz.underlying115 (formElem (H:=Unit)) W1.heap.size 19 formsD rfl HMP.out ?_;intro w3 hrg3 hg3 hs3;have HX3 : Hid (Blk w3 w.heap.size 33 m.cs):=HX2.out.grown hg3 (by simp);have HB3 : Hid (Below w.heap.size w w3):=HB2.out.grown hg3 HB2.out.size (fun q hq => by cases hq);have HL0 : Hid (MpLoop m w W1.heap.size w2.heap.size w3):=⟨_,_,hrg3,left_start m.kd,HX3.out,HB3.out⟩;obtain ⟨b,hb⟩ : ∃ b,b = W1.heap.size:=⟨_,rfl⟩;obtain ⟨r,hr⟩ : ∃ r,r = w2.heap.size:=⟨_,rfl⟩
 have HRW : Hid (w.heap.size < r):=by
  show _ < _;have:=HX2.out.lt;omega
 rw [← hb,← hr] at HL0;rw [← hr];clear hrg3 hg3 hs3 HX3 HB3 HX2 HB2 HMP hb hr;go_frame;go_upto_region 2 with fail
 go_loopw [3] (fun _ wr => MpLoop m w b r wr) (fun _ wr => wr.rangeLeft b r)
 case atStart => exact HL0.out
 case round =>
  clear HL0;unfold MpLoop at hrel;obtain ⟨left,cnt,hrg,hleft,hbx,hlow⟩:=hrel;have HRG:=hide hrg;have HLF:=hide hleft;have HX:=hide hbx;have HB:=hide hlow;clear hrg hleft hbx hlow;go_upto_region 2 with fail
  refine wp_region_lit ?_;refine wpList_next_ranges wr rfl (.tmp 11) rfl 9 (Maps.string_keyed Tryz.underlying9) (formElem (H:=Unit)) Value.string Value.agg str_keys form_shape b r 19 formsD left cnt rfl HRG.out ?_ ?_
  ·intro _ hl0
   have HN:=hide (left_none HLF.out hl0);go_wp2_with fail;go_ret;refine ⟨?_,HB.out⟩;rw [HR.out,HN.out]
   rfl
  intro x c kl y w1 cnt1 hkey hlk hv hat hrg1 hlt hg1 hs1 hen;obtain ⟨f,hf,rfl,rfl,rfl⟩:=came_form hkey hv hat;have HF:=hide hf;have HX1 : Hid (Blk w1 w.heap.size 33 m.cs):=HX.out.grown hg1 (by have:=HRW.out;intro e;injection e with e;omega);have HB1 : Hid (Below w.heap.size w w1):=HB.out.grown hg1 HB.out.size (fun q hq => by cases hq;have:=HRW.out;omega);have HRG1:=hide hrg1;have HLT:=hide hlt;clear hkey hv hat hrg1 hlt hg1 hs1 hlk hf;obtain ⟨kf,hkf⟩ : ∃ kf,kf = f.2.1:=⟨_,rfl⟩;rw [← hkf] at hen ⊢;have HKF:=hide hkf;clear hkf;go_frame;go_upto_region 4 with fail
  clear hen;obtain ⟨w4,hw4⟩ : ∃ w4,w4 = w1.alloc (.cells #[.int .i64 kf,.string (S f.2.2)] 118):=⟨_,rfl⟩;have hb4 : Below w1.heap.size w1 w4:=by rw [hw4];exact (Below.refl _ _).alloc (Nat.le_refl _) _
  have HX4:=hide (HX1.out.below hb4 HX1.out.lt);have HB4:=hide (HB1.out.trans (hb4.mono HB1.out.size));have HP4 : Hid (Blk w4 w1.heap.size 118 #[.int .i64 kf,.string (S f.2.2)]):=by show Blk _ _ _ _;rw [hw4];exact Blk.new _ _ _
  have HRG4 : Hid (w4.ranges Tryz.prog 9 (formElem (H:=Unit)) b r 19 formsD (fun z => left z && !z.sameKey (.string f.1)) cnt1):=by show World.ranges _ _ _ _ _ _ _ _ _ _;rw [hw4];exact HRG1.out.alloc _
  obtain ⟨pf,hpf⟩ : ∃ pf,pf = w1.heap.size:=⟨_,rfl⟩;rw [← hw4];rw [← hpf] at HP4 ⊢;clear hw4 hb4 hpf HX1 HB1 HRG1;have q0 : w4.cell? ⟨pf,0,none⟩ = some (.int .i64 kf):=HP4.out.cell 0;have q1 : w4.cell? ⟨pf,1,none⟩ = some (.string (S f.2.2)):=HP4.out.cell 1;have k0:=eb0 HX4.out
  by_cases heq : kf = m.kd
  ·have HFF : Hid (lineT m.ev = Lib.join (rowW m.ev f) [32]):=by
    show _ = _;have h1:=row_kind HF.out;rw [← HKF.out,heq] at h1;rw [HR.out,h1]
   have hne : (kf != m.kd) = false:=by simp [heq]
   obtain ⟨wo,hwo⟩ : ∃ wo,wo = wr:=⟨_,rfl⟩;subst hwo;clear HRG4 HLT HLF HX HB HRG;go_upto_region 5 with fail
   clear k0 q0 heq;refine wp_region_lit ?_;refine wpList_value rfl (.string (S f.1)) (by go_simp) ?_;try simp only [Act.put,aSt,aSz,aSs]
   refine wpList_step (fun K hK => ?_);rw [if_pos (by rfl)];go_simp;refine hK _ _ ?_;clear hK K;try simp only [Act.put,aSt,aSz,aSs]
   have HO5 : Hid ((w4.alloc (.cells #[.string (S f.1)] 9)).ownsRow w.heap.size 9 1 (.slice (some ⟨w4.heap.size,0,none⟩) 1 1) 1 (txs [f.1])):=own_base (own_texts w4 [.string (S f.1)] (by simp)) HB4.out.size;have HX5:=hide (HX4.out.alloc (.cells #[.string (S f.1)] 9));have HP5:=hide (HP4.out.alloc (.cells #[.string (S f.1)] 9));have HB5:=hide (HB4.out.alloc HB4.out.size (.cells #[.string (S f.1)] 9));clear q1;obtain ⟨w5,hw5⟩ : ∃ w5,w5 = w4.alloc (.cells #[.string (S f.1)] 9):=⟨_,rfl⟩;obtain ⟨g5,hg5⟩ : ∃ g5,g5 = w4.heap.size:=⟨_,rfl⟩;rw [← hw5,← hg5] at HO5;rw [← hw5] at HX5 HP5 HB5;rw [← hw5,← hg5];clear hw5 hg5 HX4 HP4 HB4;have q1 : w5.cell? ⟨pf,1,none⟩ = some (.string (S f.2.2)):=HP5.out.cell 1;have hb6 : Below w5.heap.size w5 (w5.iter (S f.2.2) 0):=(Below.refl _ _).alloc (Nat.le_refl _) _
   have HLT0 : Hid (LnLoop m w f w5.heap.size (.slice (some ⟨g5,0,none⟩) 1 1) (w5.iter (S f.2.2) 0)) :=
    ⟨0,[f.1],Nat.zero_le _,It.new _ _,by simp,by simp,⟨_,1,rfl,own_step HO5.out hb6⟩,HX5.out.below hb6 HX5.out.lt,HB5.out.trans (hb6.mono HB5.out.size)⟩
   obtain ⟨ip,hip⟩ : ∃ ip,ip = w5.heap.size:=⟨_,rfl⟩;have hipw : w.heap.size ≤ ip:=by have:=HB5.out.size;omega
   have HIPW:=hide hipw;go_upto_region 7 with fail
   rw [← hip] at HLT0 ⊢;clear q1 hb6 hip hipw HO5 HX5 HP5 HB5;go_loopw [5] (fun v wr => LnLoop m w f ip v wr) (fun _ wr => f.2.2.length - wr.iterPos ip)
   case atStart => exact HLT0.out
   case round =>
    clear HLT0;unfold LnLoop at hrel;obtain ⟨pos,L,hpos,hit,hL,hLb,⟨⟨A,c,rfl,hown⟩,hbx,hlow⟩⟩:=hrel;have HIT:=hide hit;have HL:=hide hL;have HLB:=hide hLb;have HO:=hide hown;have HX:=hide hbx;have HB:=hide hlow
    have hlb : L.length ≤ 5000000:=by
     have:=(row_lets HF.out).2.1;omega
    clear hit hL hLb hown hbx hlow
    by_cases hp : pos < f.2.2.length
    ·obtain ⟨ch,hch⟩ : ∃ ch,f.2.2[pos]? = some ch:=⟨_,List.getElem?_eq_getElem hp⟩
     have hlw:=(row_lets HF.out).2.2 ch (List.mem_of_getElem? hch)
     have HDR : Hid (f.2.2.drop pos = ch :: f.2.2.drop (pos + 1)):=by
      show _ = _;obtain ⟨h1,h2⟩:=List.getElem?_eq_some_iff.1 hch;rw [List.drop_eq_getElem_cons h1,h2]
     have HTK : Hid (f.1 :: (f.2.2.take (pos + 1)).flatMap (ltW m.ev) = (f.1 :: (f.2.2.take pos).flatMap (ltW m.ev)) ++ ltW m.ev ch):=by
      show _ = _;obtain ⟨h1,h2⟩:=List.getElem?_eq_some_iff.1 hch;rw [List.take_succ_eq_append_getElem h1,h2,List.flatMap_append];simp
     have hps : pos < (S f.2.2).size:=by rw [S_size];exact hp
     have hdec : Utf8.decode (S f.2.2) pos = (ch.toNat,1):=by
      rw [decode_dropL (S f.2.2) pos hps,S_data,HDR.out];exact rune_low _ (lw_low hlw)
     obtain ⟨W9,hW9⟩ : ∃ W9,W9 = putObj wr ip (.stringIter (S f.2.2) (pos + 1)):=⟨_,rfl⟩
     have hnx : ∀ ty,(Instr.next (.pointer (some ⟨ip,0,none⟩)) true ty).run Tryz.prog wr = .ok (.tuple #[.bool true,.int .i64 pos,.int .i32 (ch.toNat : Int)]) W9:=fun ty => by
      rw [run_next_at ty HIT.out hps,hdec,hW9]
     have HIT9 : Hid (It W9 ip (S f.2.2) (pos + 1)):=by show It _ _ _ _;rw [hW9];exact HIT.out.put _
     have HX9 : Hid (Blk W9 w.heap.size 33 m.cs):=by show Blk _ _ _ _;rw [hW9];exact HIT.out.blk HX.out _
     have HO9 : Hid (W9.ownsRow w.heap.size 9 1 (.slice A L.length c) L.length (txs L)):=by show World.ownsRow _ _ _ _ _ _ _;rw [hW9];exact HIT.out.row HO.out _
     have HB9 : Hid (Below w.heap.size w W9):=by show Below _ _ _;rw [hW9];exact It.low HB.out HIPW.out HB.out.size _
     have HIP9 : Hid (wr.iterPos ip = pos):=by
      show _ = _;exact iterPos_at HIT.out
     have HPF : Hid (pos + 1 ≤ f.2.2.length):=by
      show _ ≤ _;omega
     clear hch hdec hW9 hps HO HX HB HIT HDR
     rcases hlw with rfl | rfl | rfl | rfl | rfl | rfl | rfl | rfl
     ·have e1 : ((80 : UInt8).toNat : Int) = 80:=rfl
      rw [e1] at hnx;go_upto_region 12 with fail
      refine wp_region_lit ?_;refine wpList_value rfl (.slice A L.length c) (by go_simp) ?_;try simp only [Act.put,aSt,aSz,aSs]
      refine wpList_value rfl (.pointer (some ⟨w.heap.size,1,none⟩)) (by go_simp) ?_;try simp only [Act.put,aSt,aSz,aSs]
      refine wpList_value rfl (.int .i64 m.a) (by have k:=eb1 HX9.out;go_simp) ?_;try simp only [Act.put,aSt,aSz,aSs]
      refine wpList_step (fun K hK => ?_);rw [if_pos (by rfl)];go_simp;go_at_call 54;refine (HIA.out _ (HTB.out.below HB9.out)).mono ?_;rintro e w10 ⟨rfl,hb10⟩;have HX10:=hide (HX9.out.below hb10 HX9.out.lt);have HIT10:=hide (HIT9.out.below hb10);have HO10:=hide (own_step HO9.out hb10);have HB10:=hide (HB9.out.trans (hb10.mono HB9.out.size));refine hK _ _ ?_;clear hK K hb10;try simp only [Act.put,aSt,aSz,aSs]
      refine wpList_step (fun K hK => ?_);rw [if_pos (by rfl)];go_simp;refine hK _ _ ?_;clear hK K;try simp only [Act.put,aSt,aSz,aSs]
      refine wpList_push (W:=w10) (cs:=#[.string (S (Lib.itoa m.a))]) rfl (.tmp 34) (.tmp 38) 101 rfl w.heap.size 9 i9 (.string { data:=#[] }) 1 16 Tryz.underlying101 I9.out hz9 hs9 hb9 rfl (by omega) (.slice A L.length c) L.length (txs L) rfl HO10.out 1 1 rfl rfl (by simp [Value.oneCell']) (by omega) (by unfold maxLen;omega) (by omega) HB10.out.size ?_;intro g11 c11 w11 hown hgr hbl _ _ _
      have HL11 : Hid (LnLoop m w f ip (.slice (some ⟨g11,0,none⟩) (L.length + 1) c11) w11):=by
       refine ⟨pos + 1,L ++ [Lib.itoa m.a],HPF.out,?_,?_,?_,⟨_,c11,by rw [List.length_append];rfl,?_⟩,(HX10.out.alloc _).grown hgr (Ne.symm (own_blk_ne HO10.out HX10.out (by decide))),HB10.out.trans hbl⟩
       ·exact It.grown (HIT10.out.below ((Below.refl _ _).alloc (Nat.le_refl _) _)) (HO10.out.alloc _) hgr
       ·rw [HTK.out,HL.out]
        rfl
       ·have:=HLB.out
        simp only [List.length_append,List.length_cons,List.length_nil];omega
       ·rw [txs_app,List.length_append]
        exact hown
      have HIP11 : Hid (w11.iterPos ip = pos + 1):=by
       show _ = _;exact iterPos_at (It.grown (HIT10.out.below ((Below.refl _ _).alloc (Nat.le_refl _) _)) (HO10.out.alloc _) hgr)
      clear hown hgr hbl HX10 HIT10 HO10 HB10;try simp only [Act.put,aSt,aSz,aSs]
      go_wp2_with fail;go_roundw
      case rel => first | exact HL11.out | exact ⟨_,HL11.out,rfl⟩
      case measure => rw [HIP11.out,HIP9.out];omega
     ·have e1 : ((75 : UInt8).toNat : Int) = 75:=rfl
      rw [e1] at hnx;go_upto_region 12 with fail
      refine wp_region_lit ?_;refine wpList_value rfl (.slice A L.length c) (by go_simp) ?_;try simp only [Act.put,aSt,aSz,aSs]
      refine wpList_value rfl (.pointer (some ⟨w.heap.size,1,none⟩)) (by go_simp) ?_;try simp only [Act.put,aSt,aSz,aSs]
      refine wpList_value rfl (.int .i64 m.a) (by have k:=eb1 HX9.out;go_simp) ?_;try simp only [Act.put,aSt,aSz,aSs]
      refine wpList_step (fun K hK => ?_);rw [if_pos (by rfl)];go_simp;go_at_call 54;refine (HIA.out _ (HTB.out.below HB9.out)).mono ?_;rintro e w10 ⟨rfl,hb10⟩;have HX10:=hide (HX9.out.below hb10 HX9.out.lt);have HIT10:=hide (HIT9.out.below hb10);have HO10:=hide (own_step HO9.out hb10);have HB10:=hide (HB9.out.trans (hb10.mono HB9.out.size));refine hK _ _ ?_;clear hK K hb10;try simp only [Act.put,aSt,aSz,aSs]
      refine wpList_step (fun K hK => ?_);rw [if_pos (by rfl)];go_simp;refine hK _ _ ?_;clear hK K;try simp only [Act.put,aSt,aSz,aSs]
      refine wpList_push (W:=w10) (cs:=#[.string (S (Lib.itoa m.a))]) rfl (.tmp 34) (.tmp 38) 101 rfl w.heap.size 9 i9 (.string { data:=#[] }) 1 16 Tryz.underlying101 I9.out hz9 hs9 hb9 rfl (by omega) (.slice A L.length c) L.length (txs L) rfl HO10.out 1 1 rfl rfl (by simp [Value.oneCell']) (by omega) (by unfold maxLen;omega) (by omega) HB10.out.size ?_;intro g11 c11 w11 hown hgr hbl _ _ _
      have HL11 : Hid (LnLoop m w f ip (.slice (some ⟨g11,0,none⟩) (L.length + 1) c11) w11):=by
       refine ⟨pos + 1,L ++ [Lib.itoa m.a],HPF.out,?_,?_,?_,⟨_,c11,by rw [List.length_append];rfl,?_⟩,(HX10.out.alloc _).grown hgr (Ne.symm (own_blk_ne HO10.out HX10.out (by decide))),HB10.out.trans hbl⟩
       ·exact It.grown (HIT10.out.below ((Below.refl _ _).alloc (Nat.le_refl _) _)) (HO10.out.alloc _) hgr
       ·rw [HTK.out,HL.out]
        rfl
       ·have:=HLB.out
        simp only [List.length_append,List.length_cons,List.length_nil];omega
       ·rw [txs_app,List.length_append]
        exact hown
      have HIP11 : Hid (w11.iterPos ip = pos + 1):=by
       show _ = _;exact iterPos_at (It.grown (HIT10.out.below ((Below.refl _ _).alloc (Nat.le_refl _) _)) (HO10.out.alloc _) hgr)
      clear hown hgr hbl HX10 HIT10 HO10 HB10;try simp only [Act.put,aSt,aSz,aSs]
      go_wp2_with fail;go_roundw
      case rel => first | exact HL11.out | exact ⟨_,HL11.out,rfl⟩
      case measure => rw [HIP11.out,HIP9.out];omega
     ·have e1 : ((81 : UInt8).toNat : Int) = 81:=rfl
      rw [e1] at hnx;go_upto_region 14 with fail
      refine wp_region_lit ?_;refine wpList_value rfl (.slice A L.length c) (by go_simp) ?_;try simp only [Act.put,aSt,aSz,aSs]
      refine wpList_value rfl (.pointer (some ⟨w.heap.size,2,none⟩)) (by go_simp) ?_;try simp only [Act.put,aSt,aSz,aSs]
      refine wpList_value rfl (.int .i64 m.b) (by have k:=eb2 HX9.out;go_simp) ?_;try simp only [Act.put,aSt,aSz,aSs]
      refine wpList_step (fun K hK => ?_);rw [if_pos (by rfl)];go_simp;go_at_call 54;refine (HIB.out _ (HTB.out.below HB9.out)).mono ?_;rintro e w10 ⟨rfl,hb10⟩;have HX10:=hide (HX9.out.below hb10 HX9.out.lt);have HIT10:=hide (HIT9.out.below hb10);have HO10:=hide (own_step HO9.out hb10);have HB10:=hide (HB9.out.trans (hb10.mono HB9.out.size));refine hK _ _ ?_;clear hK K hb10;try simp only [Act.put,aSt,aSz,aSs]
      refine wpList_step (fun K hK => ?_);rw [if_pos (by rfl)];go_simp;refine hK _ _ ?_;clear hK K;try simp only [Act.put,aSt,aSz,aSs]
      refine wpList_push (W:=w10) (cs:=#[.string (S (Lib.itoa m.b))]) rfl (.tmp 42) (.tmp 46) 101 rfl w.heap.size 9 i9 (.string { data:=#[] }) 1 16 Tryz.underlying101 I9.out hz9 hs9 hb9 rfl (by omega) (.slice A L.length c) L.length (txs L) rfl HO10.out 1 1 rfl rfl (by simp [Value.oneCell']) (by omega) (by unfold maxLen;omega) (by omega) HB10.out.size ?_;intro g11 c11 w11 hown hgr hbl _ _ _
      have HL11 : Hid (LnLoop m w f ip (.slice (some ⟨g11,0,none⟩) (L.length + 1) c11) w11):=by
       refine ⟨pos + 1,L ++ [Lib.itoa m.b],HPF.out,?_,?_,?_,⟨_,c11,by rw [List.length_append];rfl,?_⟩,(HX10.out.alloc _).grown hgr (Ne.symm (own_blk_ne HO10.out HX10.out (by decide))),HB10.out.trans hbl⟩
       ·exact It.grown (HIT10.out.below ((Below.refl _ _).alloc (Nat.le_refl _) _)) (HO10.out.alloc _) hgr
       ·rw [HTK.out,HL.out]
        rfl
       ·have:=HLB.out
        simp only [List.length_append,List.length_cons,List.length_nil];omega
       ·rw [txs_app,List.length_append]
        exact hown
      have HIP11 : Hid (w11.iterPos ip = pos + 1):=by
       show _ = _;exact iterPos_at (It.grown (HIT10.out.below ((Below.refl _ _).alloc (Nat.le_refl _) _)) (HO10.out.alloc _) hgr)
      clear hown hgr hbl HX10 HIT10 HO10 HB10;try simp only [Act.put,aSt,aSz,aSs]
      go_wp2_with fail;go_roundw
      case rel => first | exact HL11.out | exact ⟨_,HL11.out,rfl⟩
      case measure => rw [HIP11.out,HIP9.out];omega
     ·have e1 : ((78 : UInt8).toNat : Int) = 78:=rfl
      rw [e1] at hnx;go_upto_region 17 with fail
      refine wp_region_lit ?_;refine wpList_value rfl (.slice A L.length c) (by go_simp) ?_;try simp only [Act.put,aSt,aSz,aSs]
      refine wpList_value rfl (.pointer (some ⟨w.heap.size,3,none⟩)) (by go_simp) ?_;try simp only [Act.put,aSt,aSz,aSs]
      refine wpList_value rfl (.int .i64 m.n) (by have k:=eb3 HX9.out;go_simp) ?_;try simp only [Act.put,aSt,aSz,aSs]
      refine wpList_step (fun K hK => ?_);rw [if_pos (by rfl)];go_simp;go_at_call 54;refine (HI_N.out _ (HTB.out.below HB9.out)).mono ?_;rintro e w10 ⟨rfl,hb10⟩;have HX10:=hide (HX9.out.below hb10 HX9.out.lt);have HIT10:=hide (HIT9.out.below hb10);have HO10:=hide (own_step HO9.out hb10);have HB10:=hide (HB9.out.trans (hb10.mono HB9.out.size));refine hK _ _ ?_;clear hK K hb10;try simp only [Act.put,aSt,aSz,aSs]
      refine wpList_step (fun K hK => ?_);rw [if_pos (by rfl)];go_simp;refine hK _ _ ?_;clear hK K;try simp only [Act.put,aSt,aSz,aSs]
      refine wpList_push (W:=w10) (cs:=#[.string (S (Lib.itoa m.n))]) rfl (.tmp 51) (.tmp 55) 101 rfl w.heap.size 9 i9 (.string { data:=#[] }) 1 16 Tryz.underlying101 I9.out hz9 hs9 hb9 rfl (by omega) (.slice A L.length c) L.length (txs L) rfl HO10.out 1 1 rfl rfl (by simp [Value.oneCell']) (by omega) (by unfold maxLen;omega) (by omega) HB10.out.size ?_;intro g11 c11 w11 hown hgr hbl _ _ _
      have HL11 : Hid (LnLoop m w f ip (.slice (some ⟨g11,0,none⟩) (L.length + 1) c11) w11):=by
       refine ⟨pos + 1,L ++ [Lib.itoa m.n],HPF.out,?_,?_,?_,⟨_,c11,by rw [List.length_append];rfl,?_⟩,(HX10.out.alloc _).grown hgr (Ne.symm (own_blk_ne HO10.out HX10.out (by decide))),HB10.out.trans hbl⟩
       ·exact It.grown (HIT10.out.below ((Below.refl _ _).alloc (Nat.le_refl _) _)) (HO10.out.alloc _) hgr
       ·rw [HTK.out,HL.out]
        rfl
       ·have:=HLB.out
        simp only [List.length_append,List.length_cons,List.length_nil];omega
       ·rw [txs_app,List.length_append]
        exact hown
      have HIP11 : Hid (w11.iterPos ip = pos + 1):=by
       show _ = _;exact iterPos_at (It.grown (HIT10.out.below ((Below.refl _ _).alloc (Nat.le_refl _) _)) (HO10.out.alloc _) hgr)
      clear hown hgr hbl HX10 HIT10 HO10 HB10;try simp only [Act.put,aSt,aSz,aSs]
      go_wp2_with fail;go_roundw
      case rel => first | exact HL11.out | exact ⟨_,HL11.out,rfl⟩
      case measure => rw [HIP11.out,HIP9.out];omega
     ·have e1 : ((68 : UInt8).toNat : Int) = 68:=rfl
      rw [e1] at hnx;go_upto_region 17 with fail
      refine wp_region_lit ?_;refine wpList_value rfl (.slice A L.length c) (by go_simp) ?_;try simp only [Act.put,aSt,aSz,aSs]
      refine wpList_value rfl (.pointer (some ⟨w.heap.size,3,none⟩)) (by go_simp) ?_;try simp only [Act.put,aSt,aSz,aSs]
      refine wpList_value rfl (.int .i64 m.n) (by have k:=eb3 HX9.out;go_simp) ?_;try simp only [Act.put,aSt,aSz,aSs]
      refine wpList_step (fun K hK => ?_);rw [if_pos (by rfl)];go_simp;go_at_call 54;refine (HI_N.out _ (HTB.out.below HB9.out)).mono ?_;rintro e w10 ⟨rfl,hb10⟩;have HX10:=hide (HX9.out.below hb10 HX9.out.lt);have HIT10:=hide (HIT9.out.below hb10);have HO10:=hide (own_step HO9.out hb10);have HB10:=hide (HB9.out.trans (hb10.mono HB9.out.size));refine hK _ _ ?_;clear hK K hb10;try simp only [Act.put,aSt,aSz,aSs]
      refine wpList_step (fun K hK => ?_);rw [if_pos (by rfl)];go_simp;refine hK _ _ ?_;clear hK K;try simp only [Act.put,aSt,aSz,aSs]
      refine wpList_push (W:=w10) (cs:=#[.string (S (Lib.itoa m.n))]) rfl (.tmp 51) (.tmp 55) 101 rfl w.heap.size 9 i9 (.string { data:=#[] }) 1 16 Tryz.underlying101 I9.out hz9 hs9 hb9 rfl (by omega) (.slice A L.length c) L.length (txs L) rfl HO10.out 1 1 rfl rfl (by simp [Value.oneCell']) (by omega) (by unfold maxLen;omega) (by omega) HB10.out.size ?_;intro g11 c11 w11 hown hgr hbl _ _ _
      have HL11 : Hid (LnLoop m w f ip (.slice (some ⟨g11,0,none⟩) (L.length + 1) c11) w11):=by
       refine ⟨pos + 1,L ++ [Lib.itoa m.n],HPF.out,?_,?_,?_,⟨_,c11,by rw [List.length_append];rfl,?_⟩,(HX10.out.alloc _).grown hgr (Ne.symm (own_blk_ne HO10.out HX10.out (by decide))),HB10.out.trans hbl⟩
       ·exact It.grown (HIT10.out.below ((Below.refl _ _).alloc (Nat.le_refl _) _)) (HO10.out.alloc _) hgr
       ·rw [HTK.out,HL.out]
        rfl
       ·have:=HLB.out
        simp only [List.length_append,List.length_cons,List.length_nil];omega
       ·rw [txs_app,List.length_append]
        exact hown
      have HIP11 : Hid (w11.iterPos ip = pos + 1):=by
       show _ = _;exact iterPos_at (It.grown (HIT10.out.below ((Below.refl _ _).alloc (Nat.le_refl _) _)) (HO10.out.alloc _) hgr)
      clear hown hgr hbl HX10 HIT10 HO10 HB10;try simp only [Act.put,aSt,aSz,aSs]
      go_wp2_with fail;go_roundw
      case rel => first | exact HL11.out | exact ⟨_,HL11.out,rfl⟩
      case measure => rw [HIP11.out,HIP9.out];omega
     ·have e1 : ((84 : UInt8).toNat : Int) = 84:=rfl
      rw [e1] at hnx;go_upto_region 19 with fail
      refine wp_region_lit ?_;refine wpList_value rfl (.slice A L.length c) (by go_simp) ?_;try simp only [Act.put,aSt,aSz,aSs]
      refine wpList_value rfl (.pointer (some ⟨w.heap.size,4,none⟩)) (by go_simp) ?_;try simp only [Act.put,aSt,aSz,aSs]
      refine wpList_value rfl (.slice m.Ab m.nb m.cb) (by have k:=eb4 HX9.out;go_simp) ?_;try simp only [Act.put,aSt,aSz,aSs]
      refine wpList_value rfl (.string (S m.bd)) (by have k:=conv_reads (c:=m.cb) (Reads.below HIN.out.body HB9.out);go_simp) ?_;try simp only [Act.put,aSt,aSz,aSs]
      refine wpList_step (fun K hK => ?_);rw [if_pos (by rfl)];go_simp;go_at_call 58;refine (HQB.out _).mono ?_;rintro e w10 ⟨rfl,hb10⟩;have HX10:=hide (HX9.out.below hb10 HX9.out.lt);have HIT10:=hide (HIT9.out.below hb10);have HO10:=hide (own_step HO9.out hb10);have HB10:=hide (HB9.out.trans (hb10.mono HB9.out.size));refine hK _ _ ?_;clear hK K hb10;try simp only [Act.put,aSt,aSz,aSs]
      refine wpList_step (fun K hK => ?_);rw [if_pos (by rfl)];go_simp;refine hK _ _ ?_;clear hK K;try simp only [Act.put,aSt,aSz,aSs]
      refine wpList_push (W:=w10) (cs:=#[.string (S (quoteL m.bd))]) rfl (.tmp 59) (.tmp 64) 101 rfl w.heap.size 9 i9 (.string { data:=#[] }) 1 16 Tryz.underlying101 I9.out hz9 hs9 hb9 rfl (by omega) (.slice A L.length c) L.length (txs L) rfl HO10.out 1 1 rfl rfl (by simp [Value.oneCell']) (by omega) (by unfold maxLen;omega) (by omega) HB10.out.size ?_;intro g11 c11 w11 hown hgr hbl _ _ _
      have HL11 : Hid (LnLoop m w f ip (.slice (some ⟨g11,0,none⟩) (L.length + 1) c11) w11):=by
       refine ⟨pos + 1,L ++ [quoteL m.bd],HPF.out,?_,?_,?_,⟨_,c11,by rw [List.length_append];rfl,?_⟩,(HX10.out.alloc _).grown hgr (Ne.symm (own_blk_ne HO10.out HX10.out (by decide))),HB10.out.trans hbl⟩
       ·exact It.grown (HIT10.out.below ((Below.refl _ _).alloc (Nat.le_refl _) _)) (HO10.out.alloc _) hgr
       ·rw [HTK.out,HL.out]
        rfl
       ·have:=HLB.out
        simp only [List.length_append,List.length_cons,List.length_nil];omega
       ·rw [txs_app,List.length_append]
        exact hown
      have HIP11 : Hid (w11.iterPos ip = pos + 1):=by
       show _ = _;exact iterPos_at (It.grown (HIT10.out.below ((Below.refl _ _).alloc (Nat.le_refl _) _)) (HO10.out.alloc _) hgr)
      clear hown hgr hbl HX10 HIT10 HO10 HB10;try simp only [Act.put,aSt,aSz,aSs]
      go_wp2_with fail;go_roundw
      case rel => first | exact HL11.out | exact ⟨_,HL11.out,rfl⟩
      case measure => rw [HIP11.out,HIP9.out];omega
     ·have e1 : ((83 : UInt8).toNat : Int) = 83:=rfl
      rw [e1] at hnx;go_upto_region 21 with fail
      have k12:=eb12 HX9.out;have HS0 : Hid (SidLoop m w f ip (pos + 1) L (.slice A L.length c) (.int .i64 0) W9):=⟨0,Nat.zero_le _,rfl,HIT9.out,⟨A,c,by simp,by simpa using HO9.out⟩,HX9.out,HB9.out⟩;obtain ⟨wz,hwz⟩ : ∃ wz,wz = wr:=⟨_,rfl⟩;subst hwz;go_upto_region 22 with fail
      clear k12;go_loopw [5,71] (fun v i wr => SidLoop m w f ip (pos + 1) L v i wr) (fun _ i _ => m.ns - (intOf i).toNat)
      case atStart => exact HS0.out
      case round =>
       clear HS0;unfold SidLoop at hrel;obtain ⟨k,hk,rfl,hit,⟨⟨Ak,ck,rfl,hown⟩,hbx,hlow⟩⟩:=hrel;have HITk:=hide hit;have HOk:=hide hown;have HXk:=hide hbx;have HBk:=hide hlow;clear hit hown hbx hlow;have k0 : (0 : Int) ≤ (k : Int):=by omega
       obtain ⟨Lk,hLk⟩ : ∃ Lk,Lk = L ++ (m.sd.take k).map Lib.itoa:=⟨_,rfl⟩;rw [← hLk] at HOk ⊢;have HLk:=hide hLk
       have HLn : Hid (Lk.length = L.length + k):=by
        show _ = _;rw [hLk,List.length_append,List.length_map,List.length_take,HSDL.out];omega
       clear hLk;have hns:=HNS.out
       by_cases hlt : k < m.ns
       ·have kn : (k : Int) < (m.ns : Int):=by omega
        obtain ⟨ad,had,hab,q0⟩:=RI.at_ (Reads.below HIN.out.sid HBk.out) hlt;obtain ⟨x,hx⟩ : ∃ x,x = nth m.sd k:=⟨_,rfl⟩;have HNX:=hide hx;rw [← hx] at q0
        have HIX : Hid (∀ W,Tab W → Calls Tryz.prog 54 #[.int .i64 x] W fun e w' => e = .returned (.string (S (Lib.itoa x))) ∧ Below W.heap.size W w'):=fun W hT => by
         have hm:=HSI.out x (by rw [hx];exact nth_mem (by rw [HSDL.out];exact hlt));exact itoa_any x W hm.1 hm.2 hT
        clear hx;rw [had];go_upto_region 24 with fail
        clear q0;refine wp_region_lit ?_;refine wpList_value rfl (.slice Ak Lk.length ck) (by go_simp) ?_;try simp only [Act.put,aSt,aSz,aSs]
        refine wpList_value rfl (.int .i64 x) (by go_simp) ?_;try simp only [Act.put,aSt,aSz,aSs]
        refine wpList_step (fun K hK => ?_);rw [if_pos (by rfl)];go_simp;go_at_call 54;refine (HIX.out _ (HTB.out.below HBk.out)).mono ?_;rintro e w10 ⟨rfl,hb10⟩;have HX10:=hide (HXk.out.below hb10 HXk.out.lt);have HIT10:=hide (HITk.out.below hb10);have HO10:=hide (own_step HOk.out hb10);have HB10:=hide (HBk.out.trans (hb10.mono HBk.out.size));refine hK _ _ ?_;clear hK K hb10;try simp only [Act.put,aSt,aSz,aSs]
        refine wpList_step (fun K hK => ?_);rw [if_pos (by rfl)];go_simp;refine hK _ _ ?_;clear hK K;try simp only [Act.put,aSt,aSz,aSs]
        have hln:=HLn.out;refine wpList_push (W:=w10) (cs:=#[.string (S (Lib.itoa x))]) rfl (.tmp 75) (.tmp 78) 101 rfl w.heap.size 9 i9 (.string { data:=#[] }) 1 16 Tryz.underlying101 I9.out hz9 hs9 hb9 rfl (by omega) (.slice Ak Lk.length ck) Lk.length (txs Lk) rfl HO10.out 1 1 rfl rfl (by simp [Value.oneCell']) (by omega) (by unfold maxLen;omega) (by omega) HB10.out.size ?_;intro g11 c11 w11 hown hgr hbl _ _ _
        have HL11 : Hid (SidLoop m w f ip (pos + 1) L (.slice (some ⟨g11,0,none⟩) (Lk.length + 1) c11) (.int .i64 ((k : Int) + 1)) w11):=by
         have e : L ++ (m.sd.take (k + 1)).map Lib.itoa = Lk ++ [Lib.itoa x]:=by
          rw [take_nth (by rw [HSDL.out];exact hlt),List.map_append,HLk.out,HNX.out,List.append_assoc]
          rfl
         refine ⟨k + 1,by omega,by go_num,?_,?_⟩
         ·exact It.grown (HIT10.out.below ((Below.refl _ _).alloc (Nat.le_refl _) _)) (HO10.out.alloc _) hgr
         ·rw [e]
          refine ⟨⟨_,c11,by rw [List.length_append];rfl,?_⟩,(HX10.out.alloc _).grown hgr (Ne.symm (own_blk_ne HO10.out HX10.out (by decide))),HB10.out.trans hbl⟩;rw [txs_app,List.length_append];exact hown
        clear hown hgr hbl HX10 HIT10 HO10 HB10 hln;try simp only [Act.put,aSt,aSz,aSs]
        go_wp2_with fail;go_roundw
        case rel => first | exact HL11.out | exact ⟨_,_,HL11.out,rfl,rfl⟩
        case measure => simp [intOf];omega
       ·have kn : ¬ (k : Int) < (m.ns : Int):=by omega
        have HKE : Hid (k = m.ns):=by
         show _ = _;omega
        have HL11 : Hid (LnLoop m w f ip (.slice Ak Lk.length ck) wr):=by
         have e : Lk = L ++ ltW m.ev 83:=by
          rw [HLk.out,HKE.out,List.take_of_length_le (by rw [HSDL.out];exact Nat.le_refl _)]
          rfl
         refine ⟨pos + 1,Lk,HPF.out,HITk.out,?_,?_,⟨Ak,ck,rfl,HOk.out⟩,HXk.out,HBk.out⟩
         ·rw [HTK.out,e,HL.out]
         ·have:=HLB.out
          have:=HLn.out;omega
        have HIP11 : Hid (wr.iterPos ip = pos + 1):=by
         show _ = _;exact iterPos_at HITk.out
        clear hlt;go_wp2_with fail;go_roundw
        case rel => first | exact HL11.out | exact ⟨_,HL11.out,rfl⟩
        case measure => rw [HIP11.out,HIP9.out];omega
     ·have e1 : ((79 : UInt8).toNat : Int) = 79:=rfl
      rw [e1] at hnx;go_upto_region 27 with fail
      refine wp_region_lit ?_;refine wpList_value rfl (.slice A L.length c) (by go_simp) ?_;try simp only [Act.put,aSt,aSz,aSs]
      refine wpList_value rfl (.pointer (some ⟨w.heap.size,5,none⟩)) (by go_simp) ?_;try simp only [Act.put,aSt,aSz,aSs]
      refine wpList_value rfl (.agg m.cmd) (ex_load 31 (.tmp 84) rfl _ rfl m.cmd _ Tryz.underlying31 rfl (ldcm m) (cmd_in HX9.out)) ?_;try simp only [Act.put,aSt,aSz,aSs]
      refine wpList_step (fun K hK => ?_);rw [if_pos (by rfl)];go_simp;go_at_call 60;refine (HAK.out _ (HOT.out.below HB9.out H0.out)).mono ?_;rintro e w10 ⟨A2,c2,rfl,hrow,hb10⟩;have HX10:=hide (HX9.out.below hb10 HX9.out.lt);have HIT10:=hide (HIT9.out.below hb10);have HO10:=hide (own_step HO9.out hb10);have HB10:=hide (HB9.out.trans (hb10.mono HB9.out.size));have HR10:=hide (Reads.of_own hrow);have HAL:=hide (ask_len m.ev);refine hK _ _ ?_;clear hK K hb10 hrow;try simp only [Act.put,aSt,aSz,aSs]
      obtain ⟨AL,hAL⟩ : ∃ AL,AL = askL m.ev:=⟨_,rfl⟩;rw [← hAL] at HR10 HAL ⊢;have HAE:=hide hAL;clear hAL;have hal:=HAL.out;refine wpList_append_any _ rfl (.tmp 83) (.tmp 86) 101 rfl w.heap.size 9 i9 (.string { data:=#[] }) 1 16 Tryz.underlying101 I9.out hz9 hs9 hb9 rfl (by omega) (.slice A L.length c) L.length (txs L) rfl HO10.out w10.heap.size A2 AL.length c2 (txs AL) rfl HR10.out (txs_one AL) (by unfold maxLen;omega) (by omega) HB10.out.size ?_;intro v11 w11 hown hgr _;obtain ⟨A11,c11,rfl⟩:=own_slice' hown
      have HL11 : Hid (LnLoop m w f ip (.slice A11 (L.length + AL.length) c11) w11):=by
       refine ⟨pos + 1,L ++ AL,HPF.out,?_,?_,?_,⟨_,c11,by rw [List.length_append],?_⟩,HX10.out.grown hgr (Ne.symm (own_blk_ne HO10.out HX10.out (by decide))),HB10.out.grown hgr HB10.out.size (fun q hq => own_low HO10.out hq)⟩
       ·exact It.grown HIT10.out HO10.out hgr
       ·rw [HTK.out,HL.out,HAE.out]
        rfl
       ·have:=HLB.out
        simp only [List.length_append];omega
       ·rw [txs_app,List.length_append]
        exact hown
      have HIP11 : Hid (w11.iterPos ip = pos + 1):=by
       show _ = _;exact iterPos_at (It.grown HIT10.out HO10.out hgr)
      clear hown hgr HX10 HIT10 HO10 HB10 HR10;try simp only [Act.put,aSt,aSz,aSs]
      go_wp2_with fail;go_roundw
      case rel => first | exact HL11.out | exact ⟨_,HL11.out,rfl⟩
      case measure => rw [HIP11.out,HIP9.out];omega
    ·have hps : ¬ pos < (S f.2.2).size:=by rw [S_size];exact hp
     have hnx : ∀ ty,(Instr.next (.pointer (some ⟨ip,0,none⟩)) true ty).run Tryz.prog wr = .ok (.tuple #[.bool false]) wr:=fun ty => run_next_no ty HIT.out hps
     have HLE : Hid (L = rowW m.ev f):=by
      show _ = _;rw [HL.out,List.take_of_length_le (by omega)]
      rfl
     have hL0 : 0 < L.length:=by rw [HLE.out];simp [rowW]
     obtain ⟨g,cap,hv,hcp,hlt⟩:=HO.out.form hL0;injection hv with e1 e2 e3
     subst e1 e3
     have HJN:=hide (join_any g c L [32] wr (fun j l hj => by
      have h1:=World.ownsRow.cells (g:=g) HO.out rfl j (.string (S l)) (by unfold txs;rw [List.getElem?_map,hj];rfl)
      have e2 : (⟨g,0,none⟩ : Addr).add j = ⟨g,j,none⟩:=by
       unfold Addr.add
       split
       ·rename_i h0;subst h0;rfl
       ·simp
      rw [e2] at h1;exact h1) hlt (by omega) (own_cap HO.out) (by
      have:=HZL.out;rw [HFF.out,← HLE.out] at this;omega))
     clear hps hp hcp hlt;go_upto_region 28 with fail
     clear hnx;go_wp2_with (go_at_call 57;refine HJN.out.mono ?_;rintro e w12 ⟨rfl,hb12⟩;have HB12:=hide (HB.out.trans (hb12.mono HB.out.size));clear hb12);go_ret;refine ⟨?_,HB12.out⟩;rw [HFF.out,← HLE.out]
     rfl
  ·have hne : (kf != m.kd) = true:=by simp [heq]
   have HLF1 : Hid (LeftK m.kd (fun z => left z && !z.sameKey (.string f.1))):=left_step HLF.out HF.out (by rw [← HKF.out];exact heq);have HL5 : Hid (MpLoop m w b r w4):=⟨_,cnt1,HRG4.out,HLF1.out,HX4.out,HB4.out⟩
   have HME : Hid (w4.rangeLeft b r < wr.rangeLeft b r):=by
    show _ < _;rw [HRG4.out.left_eq,HRG.out.left_eq];exact HLT.out
   go_wp2_with fail;go_roundw
   case rel => first | exact HL5.out | exact ⟨_,HL5.out,rfl⟩
   case measure => exact HME.out
end Go.Proofs.YtcibcmfaebbhnaaGreatDoor
