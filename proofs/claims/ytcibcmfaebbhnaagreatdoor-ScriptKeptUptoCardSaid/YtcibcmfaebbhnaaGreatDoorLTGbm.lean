/-
  Marks alike: what is written of them is alike. The law's marksOf: the copy is the call's own. (Printed out of Mof by wip/tools/mkmoo.py.) An argument opened, of little bulk: marks. (Printed by wip/tools/mktt.py.)
-/
import Derived.Test.YtcibcmfaebbhnaaGreatDoorLTMof
import Derived.Test.YtcibcmfaebbhnaaGreatDoorLLnk
import Derived.Test.YtcibcmfaebbhnaaGreatDoorLTRpt
import Derived.Test.YtcibcmfaebbhnaaGreatDoorLWords
set_option linter.unusedSimpArgs false
set_option linter.unusedVariables false
set_option maxRecDepth 100000
set_option maxHeartbeats 8000000

namespace Go.Proofs.YtcibcmfaebbhnaaGreatDoor.Tr
open Go.RowKit Go.WideShapes Go.ChangeShapes Q
theorem same_map {α : Type} {l l' : List Mk} (h : SameC l l') (f : Mk → α) (hf : ∀ m Am cm At ct Ab cb,f (m.at Am cm At ct Ab cb) = f m) : l'.map f = l.map f:=by
 apply List.ext_getElem
 ·rw [List.length_map,List.length_map]
  exact h.1
 ·intro i h1 h2
  rw [List.getElem_map,List.getElem_map];have hi' : i < l'.length:=by simpa using h1
  have hi : i < l.length:=by simpa using h2
  obtain ⟨Am,cm,At,ct,Ab,cb,e⟩:=h.2 i _ _ (List.getElem?_eq_getElem hi) (List.getElem?_eq_getElem hi');rw [e,hf]
theorem same_wr {l l' : List Mk} (h : SameC l l') : l'.all wrB = l.all wrB:=by
 have:=same_map h wrB (fun _ _ _ _ _ _ _ => rfl);have e : ∀ q : List Mk,q.all wrB = (q.map wrB).all id:=fun q => by rw [List.all_map];rfl
 rw [e,e,this]
theorem same_out {l l' : List Mk} (h : SameC l l') : outL l' = outL l:=by
 have:=same_map h (fun m => lineL m ++ [10]) (fun _ _ _ _ _ _ _ => rfl);unfold outL;rw [List.flatMap_def,List.flatMap_def,this]
theorem same_T {l l' : List Mk} (h : SameC l l') : resT l' = resT l:=by unfold resT;rw [same_wr h,same_out h]
theorem same_N {l l' : List Mk} (h : SameC l l') : resN l' = resN l:=by unfold resN;rw [same_wr h]
theorem SameC.symm {l l' : List Mk} (h : SameC l l') : SameC l' l:=by
 refine ⟨h.1.symm,fun k m' m hm' hm => ?_⟩;obtain ⟨Am,cm,At,ct,Ab,cb,e⟩:=h.2 k m m' hm hm';subst e;exact ⟨m.Am,m.cm,m.At,m.ct,m.Ab,m.cb,rfl⟩
theorem SameC.sz {l l' : List Mk} (h : SameC l l') (hz : ∀ m ∈ l,MkZ m) : ∀ m ∈ l',MkZ m:=by
 intro m' hm';obtain ⟨k,hk,rfl⟩:=List.getElem_of_mem hm';have hk2 : k < l.length:=by rw [← h.1];exact hk
 obtain ⟨Am,cm,At,ct,Ab,cb,e⟩:=h.2 k _ _ (List.getElem?_eq_getElem hk2) (List.getElem?_eq_getElem hk);have z:=hz _ (List.getElem_mem hk2);rw [e];exact ⟨z.nm,z.nt,z.nb,z.bd,z.key,z.val,z.old,z.rv⟩
theorem MsIn.more {w : World} {B B' n : Nat} {A : Option Addr} {l : List Mk} (h : MsIn w B A n l) (hB : B ≤ B') : MsIn w B' A n l:=⟨h.row.more hB,fun m hm => (h.ent m hm).more hB⟩
def CPostO (l : List Mk) (n : Nat) (w : World) (e : Ending) (w' : World) : Prop:=∃ A' c' l',e = .returned (.slice A' n c') ∧ SameC l l' ∧ MsIn w' w'.heap.size A' n l' ∧ Below w.heap.size w w' ∧ w'.ownsRow w.heap.size 51 26 (.slice A' n c') n (mkCells l') ∧ ∀ m ∈ l',MkT w' w.heap.size m
theorem marksOf_own (A : Option Addr) (n c : Nat) (l : List Mk) (w : World) (h : MsIn w w.heap.size A n l) (hn : n ≤ 1048576) :
  Calls Tryz.prog 23 #[.slice A n c] w fun e w' => CPostO l n w e w':=by
 have H:=hide h;have hll:=hide h.len;obtain ⟨i3,hi3,hz3,hs3,hb3⟩:=info_parts info3;obtain ⟨i5,hi5,hz5,hs5,hb5⟩:=info_parts info5;obtain ⟨i69,hi69,hz69,hs69,hb69⟩:=info_parts info69;obtain ⟨i48,hi48,hz48,hs48,hb48⟩:=info_parts info48;have I3:=hide hi3;have I5:=hide hi5;have I69:=hide hi69;have I48:=hide hi48;have Z3:=hide hz3;have Z5:=hide hz5;have Z69:=hide hz69;have Z48:=hide hz48;have HL1 : Hid (CLoop l n w (.slice none 0 0) (.int .i64 0) w):=⟨0,[],Nat.zero_le _,rfl,⟨rfl,fun k m m' h1 h2 => by simp at h2⟩,World.ownsRow_nil _ _ _ _,fun m hm => by simp at hm,Below.refl _ _⟩;clear hi3 hi5 hi69 hi48 hz3 hz5 hz69 hz48 h;go_enter Tryz.func23,Tryz.ntmps23;go_upto_region 3 with fail
 go_loopw [3,4,5] (fun v i _ wr => CLoop l n w v i wr) (fun _ i _ _ => n - (intOf i).toNat)
 case atStart => exact HL1.out
 case round =>
  clear HL1;unfold CLoop at hrel;obtain ⟨j,l',hj,rfl,hsame,hown,hent,hb⟩:=hrel;have HSA:=hide hsame;have HO:=hide hown;have HE:=hide hent;have HBB:=hide hb;obtain ⟨Av,cv,rfl⟩:=own_slice' hown;clear hsame hown hent hb;have hsw : w.heap.size ≤ wr.heap.size:=HBB.out.size
  by_cases hlt : j < n
  ·obtain ⟨b,off,m,rfl,hbB,hm,hin,qc⟩:=(H.out.below HBB.out).at_ hlt
   have HQ:=hide (cells_add qc);have HMJ:=hide hm;have HIN:=hide hin;have hbW : b < wr.heap.size:=by omega
   clear hm hin qc;have k0 : (0 : Int) ≤ (j : Int):=by omega
   have kn : (j : Int) < (n : Int):=by omega
   go_upto_region 5 with fail
   refine wp_region_lit ?_;refine wpList_value rfl (.slice (some ⟨b,off,none⟩) n c) (by go_simp) ?_;refine wpList_value rfl (.int .i64 (j : Int)) (by go_simp) ?_;refine wpList_value rfl (.pointer (some ⟨b,off + j * 26,none⟩)) (by simp only [Act.put,aSt,aSz,aSs];go_simp) ?_;refine wpList_value rfl (.agg m.cs) (ex_load 51 (.tmp 14) rfl ⟨b,off + j * 26,none⟩ rfl m.cs _ Tryz.underlying51 rfl (ld48 _ (mk_size _)) HQ.out) ?_;simp only [Act.put,aSt,aSz,aSs];refine wpList_step (fun K hK => ?_);rw [if_pos (by rfl)];go_simp;refine hK _ _ ?_;clear hK K;refine wpList_store_fresh rfl 51 (.tmp 5) (.tmp 15) rfl _ m.cs rfl rfl (ld48 _ (mk_size _)) rfl (by simp [Mk.cs,Value.oneCell']) ?_;simp only [Act.put,aSt,aSz,aSs];go_upto_region 6 with fail
   obtain ⟨W0,hW0⟩ : ∃ W0,W0 = World.alloc wr (.cells m.cs 51):=⟨_,rfl⟩
   have HP0 : Hid (Blk W0 wr.heap.size 51 m.cs):=by
    show Blk W0 wr.heap.size 51 m.cs;rw [hW0];exact Blk.new _ _ _
   have HW0 : Hid (Below wr.heap.size wr W0):=by
    show Below wr.heap.size wr W0;rw [hW0];exact (Below.refl _ _).alloc (Nat.le_refl _) _
   rw [← hW0];clear hW0 HQ;obtain ⟨C0,hC0⟩ : ∃ C0,C0 = m.cs:=⟨_,rfl⟩;rw [← hC0] at HP0;have HC0:=hide hC0;clear hC0;have hbig0 : m.nm ≤ 100000000:=by have:=HIN.out.hm;omega
   have kC : (W0.alloc (.cells #[] 84)).cell? ⟨wr.heap.size,8,none⟩ = some (.slice m.Am m.nm m.cm):=by
    have:=(HP0.out.alloc (.cells #[] 84)).cell 8;rw [this,HC0.out]
    rfl
   have HN0 : Hid ((W0.alloc (.cells #[] 84)).ownsRow wr.heap.size 84 3 (.slice (some ⟨W0.heap.size,0,none⟩) 0 0) 0 []):=own_none (Blk.new W0 84 #[]) HW0.out.size;have HR0 : Hid (Reads (W0.alloc (.cells #[] 84)) w.heap.size 3 m.Am m.nm (sts m.ms)):=(Reads.below HIN.out.mem (HW0.out.mono hsw)).alloc (by have:=HW0.out.size;omega) _;have HWa0 : Hid (Below wr.heap.size wr (W0.alloc (.cells #[] 84))):=HW0.out.alloc HW0.out.size _;go_upto_region 7 with (at_builtin;refine wpList_append_any _ rfl (.tmp 16) (.tmp 18) 46 rfl wr.heap.size 84 i69 _ 3 24 Tryz.underlying46 I69.out Z69.out hs69 hb69 rfl (by omega) (.slice (some ⟨W0.heap.size,0,none⟩) 0 0) 0 [] rfl HN0.out w.heap.size m.Am m.nm m.cm (sts m.ms) rfl HR0.out (sts_one _) (by unfold maxLen;omega) (by omega) HWa0.out.size ?_;intro v wa hown hgr _;rw [Nat.zero_add,List.nil_append] at hown;obtain ⟨A0,c0,rfl⟩:=own_slice' hown;have HPa0:=hide ((HP0.out.alloc _).grown hgr (by intro e;have h1 : wr.heap.size = W0.heap.size:=Option.some.inj e;have h2:=HP0.out.lt;omega));have HOa0:=hide hown;have HGa0:=hide hgr;have HWb0:=hide (HWa0.out.grown hgr HWa0.out.size (fun q hq => by have h1 : W0.heap.size = q:=Option.some.inj hq;have h2:=HW0.out.size;omega));have kD : wa.cell? ⟨wr.heap.size,8,none⟩ = some (.slice m.Am m.nm m.cm):=(by have:=HPa0.out.cell 8;rw [this,HC0.out];rfl);have fD:=HPa0.out.frozen 8;clear hown hgr)
   clear kC;obtain ⟨W1,hW⟩ : ∃ W,W = World.setCell wa ⟨wr.heap.size,8,none⟩ (.slice A0 m.nm c0):=⟨_,rfl⟩;obtain ⟨C1,hC⟩ : ∃ C,C = C0.setIfInBounds 8 (.slice A0 m.nm c0):=⟨_,rfl⟩
   have HP1 : Hid (Blk W1 wr.heap.size 51 C1):=by
    show Blk W1 wr.heap.size 51 C1;rw [hW,hC];exact HPa0.out.set_ 8 _
   have HW1 : Hid (Below wr.heap.size wr W1):=by
    show Below wr.heap.size wr W1;rw [hW];exact HWb0.out.setCell (Nat.le_refl _) _
   have HO0_1 : Hid (W1.ownsRow wr.heap.size 84 3 (.slice A0 m.nm c0) m.nm (sts m.ms)):=by
    show World.ownsRow W1 _ _ _ _ _ _;rw [hW];exact ownsRow_setCell_other HOa0.out (own_blk_ne HOa0.out HPa0.out (by decide)) _
   have HC1:=hide hC;rw [← hW];clear hW hC kD fD HN0 HR0 HWa0 HPa0 HOa0 HGa0 HWb0;have hbig1 : m.nt ≤ 100000000:=by have:=HIN.out.ht;omega
   have kC : (W1.alloc (.cells #[] 3)).cell? ⟨wr.heap.size,9,none⟩ = some (.slice m.At m.nt m.ct):=by
    have:=(HP1.out.alloc (.cells #[] 3)).cell 9;rw [this,HC1.out,HC0.out]
    rfl
   have HN1 : Hid ((W1.alloc (.cells #[] 3)).ownsRow wr.heap.size 3 1 (.slice (some ⟨W1.heap.size,0,none⟩) 0 0) 0 []):=own_none (Blk.new W1 3 #[]) HW1.out.size;have HR1 : Hid (Reads (W1.alloc (.cells #[] 3)) w.heap.size 1 m.At m.nt (ints m.ts)):=(Reads.below HIN.out.tr (HW1.out.mono hsw)).alloc (by have:=HW1.out.size;omega) _;have HWa1 : Hid (Below wr.heap.size wr (W1.alloc (.cells #[] 3))):=HW1.out.alloc HW1.out.size _;go_upto_region 8 with (at_builtin;refine wpList_append_any _ rfl (.tmp 21) (.tmp 23) 22 rfl wr.heap.size 3 i3 _ 1 8 Tryz.underlying22 I3.out Z3.out hs3 hb3 rfl (by omega) (.slice (some ⟨W1.heap.size,0,none⟩) 0 0) 0 [] rfl HN1.out w.heap.size m.At m.nt m.ct (ints m.ts) rfl HR1.out (ints_one' _) (by unfold maxLen;omega) (by omega) HWa1.out.size ?_;intro v wa hown hgr _;rw [Nat.zero_add,List.nil_append] at hown;obtain ⟨A1,c1,rfl⟩:=own_slice' hown;have HPa1:=hide ((HP1.out.alloc _).grown hgr (by intro e;have h1 : wr.heap.size = W1.heap.size:=Option.some.inj e;have h2:=HP1.out.lt;omega));have HOa1:=hide hown;have HGa1:=hide hgr;have HWb1:=hide (HWa1.out.grown hgr HWa1.out.size (fun q hq => by have h1 : W1.heap.size = q:=Option.some.inj hq;have h2:=HW1.out.size;omega));have kD : wa.cell? ⟨wr.heap.size,9,none⟩ = some (.slice m.At m.nt m.ct):=(by have:=HPa1.out.cell 9;rw [this,HC1.out,HC0.out];rfl);have fD:=HPa1.out.frozen 9;clear hown hgr)
   clear kC;obtain ⟨W2,hW⟩ : ∃ W,W = World.setCell wa ⟨wr.heap.size,9,none⟩ (.slice A1 m.nt c1):=⟨_,rfl⟩;obtain ⟨C2,hC⟩ : ∃ C,C = C1.setIfInBounds 9 (.slice A1 m.nt c1):=⟨_,rfl⟩
   have HP2 : Hid (Blk W2 wr.heap.size 51 C2):=by
    show Blk W2 wr.heap.size 51 C2;rw [hW,hC];exact HPa1.out.set_ 9 _
   have HW2 : Hid (Below wr.heap.size wr W2):=by
    show Below wr.heap.size wr W2;rw [hW];exact HWb1.out.setCell (Nat.le_refl _) _
   have HO1_2 : Hid (W2.ownsRow wr.heap.size 3 1 (.slice A1 m.nt c1) m.nt (ints m.ts)):=by
    show World.ownsRow W2 _ _ _ _ _ _;rw [hW];exact ownsRow_setCell_other HOa1.out (own_blk_ne HOa1.out HPa1.out (by decide)) _
   have HO0_2 : Hid (W2.ownsRow wr.heap.size 84 3 (.slice A0 m.nm c0) m.nm (sts m.ms)):=by
    show World.ownsRow W2 _ _ _ _ _ _;rw [hW];have h1:=own_kept (HO0_1.out.alloc (.cells #[] 3)) HN1.out (by decide) HGa1.out;exact ownsRow_setCell_other h1 (own_blk_ne h1 HPa1.out (by decide)) _
   have HC2:=hide hC;rw [← hW];clear hW hC kD fD HN1 HR1 HWa1 HPa1 HOa1 HGa1 HWb1;have hbig2 : m.nb ≤ 100000000:=by have:=HIN.out.hb;omega
   have kC : (W2.alloc (.cells #[] 5)).cell? ⟨wr.heap.size,14,none⟩ = some (.slice m.Ab m.nb m.cb):=by
    have:=(HP2.out.alloc (.cells #[] 5)).cell 14;rw [this,HC2.out,HC1.out,HC0.out]
    rfl
   have HN2 : Hid ((W2.alloc (.cells #[] 5)).ownsRow wr.heap.size 5 1 (.slice (some ⟨W2.heap.size,0,none⟩) 0 0) 0 []):=own_none (Blk.new W2 5 #[]) HW2.out.size;have HR2 : Hid (Reads (W2.alloc (.cells #[] 5)) w.heap.size 1 m.Ab m.nb (Lib.byteCells m.bd)):=(Reads.below HIN.out.body (HW2.out.mono hsw)).alloc (by have:=HW2.out.size;omega) _;have HWa2 : Hid (Below wr.heap.size wr (W2.alloc (.cells #[] 5))):=HW2.out.alloc HW2.out.size _;go_upto_region 9 with (at_builtin;refine wpList_append_any _ rfl (.tmp 26) (.tmp 28) 29 rfl wr.heap.size 5 i5 _ 1 1 Tryz.underlying29 I5.out Z5.out hs5 hb5 rfl (by omega) (.slice (some ⟨W2.heap.size,0,none⟩) 0 0) 0 [] rfl HN2.out w.heap.size m.Ab m.nb m.cb (Lib.byteCells m.bd) rfl HR2.out (bytes_one _) (by unfold maxLen;omega) (by omega) HWa2.out.size ?_;intro v wa hown hgr _;rw [Nat.zero_add,List.nil_append] at hown;obtain ⟨A2,c2,rfl⟩:=own_slice' hown;have HPa2:=hide ((HP2.out.alloc _).grown hgr (by intro e;have h1 : wr.heap.size = W2.heap.size:=Option.some.inj e;have h2:=HP2.out.lt;omega));have HOa2:=hide hown;have HGa2:=hide hgr;have HWb2:=hide (HWa2.out.grown hgr HWa2.out.size (fun q hq => by have h1 : W2.heap.size = q:=Option.some.inj hq;have h2:=HW2.out.size;omega));have kD : wa.cell? ⟨wr.heap.size,14,none⟩ = some (.slice m.Ab m.nb m.cb):=(by have:=HPa2.out.cell 14;rw [this,HC2.out,HC1.out,HC0.out];rfl);have fD:=HPa2.out.frozen 14;clear hown hgr)
   clear kC;obtain ⟨W3,hW⟩ : ∃ W,W = World.setCell wa ⟨wr.heap.size,14,none⟩ (.slice A2 m.nb c2):=⟨_,rfl⟩;obtain ⟨C3,hC⟩ : ∃ C,C = C2.setIfInBounds 14 (.slice A2 m.nb c2):=⟨_,rfl⟩
   have HP3 : Hid (Blk W3 wr.heap.size 51 C3):=by
    show Blk W3 wr.heap.size 51 C3;rw [hW,hC];exact HPa2.out.set_ 14 _
   have HW3 : Hid (Below wr.heap.size wr W3):=by
    show Below wr.heap.size wr W3;rw [hW];exact HWb2.out.setCell (Nat.le_refl _) _
   have HO2_3 : Hid (W3.ownsRow wr.heap.size 5 1 (.slice A2 m.nb c2) m.nb (Lib.byteCells m.bd)):=by
    show World.ownsRow W3 _ _ _ _ _ _;rw [hW];exact ownsRow_setCell_other HOa2.out (own_blk_ne HOa2.out HPa2.out (by decide)) _
   have HO0_3 : Hid (W3.ownsRow wr.heap.size 84 3 (.slice A0 m.nm c0) m.nm (sts m.ms)):=by
    show World.ownsRow W3 _ _ _ _ _ _;rw [hW];have h1:=own_kept (HO0_2.out.alloc (.cells #[] 5)) HN2.out (by decide) HGa2.out;exact ownsRow_setCell_other h1 (own_blk_ne h1 HPa2.out (by decide)) _
   have HO1_3 : Hid (W3.ownsRow wr.heap.size 3 1 (.slice A1 m.nt c1) m.nt (ints m.ts)):=by
    show World.ownsRow W3 _ _ _ _ _ _;rw [hW];have h1:=own_kept (HO1_2.out.alloc (.cells #[] 5)) HN2.out (by decide) HGa2.out;exact ownsRow_setCell_other h1 (own_blk_ne h1 HPa2.out (by decide)) _
   have HC3:=hide hC;rw [← hW];clear hW hC kD fD HN2 HR2 HWa2 HPa2 HOa2 HGa2 HWb2;obtain ⟨m',hm'⟩ : ∃ m',m' = m.at A0 c0 A1 c1 A2 c2:=⟨_,rfl⟩;have HM':=hide hm'
   have HPF : Hid (Blk W3 wr.heap.size 51 m'.cs):=by
    show Blk W3 wr.heap.size 51 m'.cs;have h1:=HP3.out;rw [HC3.out,HC2.out,HC1.out,HC0.out] at h1;rw [hm'];exact h1
   have HMT : Hid (MkT W3 w.heap.size m'):=by
    show MkT W3 w.heap.size m';rw [hm'];exact ⟨own_base HO0_3.out hsw,own_base HO1_3.out hsw,own_base HO2_3.out hsw,HIN.out.hm,HIN.out.ht,HIN.out.hb⟩
   have HOv : Hid (W3.ownsRow w.heap.size 51 26 (.slice Av j cv) j (mkCells l')):=own_step HO.out HW3.out;have HE3 : Hid (∀ q ∈ l',MkT W3 w.heap.size q):=fun q hq => (HE.out q hq).step HW3.out
   have HB3:=hide (HBB.out.trans (HW3.out.mono hsw));clear hm' HP3 HC3 HC2 HC1 HC0 HO0_3 HO1_3 HO2_3 HO HE HW3 HP0 HP1 HP2;refine wp_region_lit ?_;refine wpList_value rfl (.slice Av j cv) (by go_simp) ?_;refine wpList_value rfl (.agg m'.cs) (ex_load 51 (.tmp 5) rfl _ rfl m'.cs _ Tryz.underlying51 rfl (ld48 _ (mk_size _)) (box_all HPF.out)) ?_;simp only [Act.put,aSt,aSz,aSs];refine wpList_one48 rfl (.tmp 32) rfl m' rfl ?_;simp only [Act.put,aSt,aSz,aSs];refine wpList_push (W:=W3) (cs:=m'.cs) rfl (.tmp 31) (.tmp 33) 28 rfl w.heap.size 51 i48 _ 26 288 Tryz.underlying28 I48.out Z48.out hs48 hb48 rfl (by omega) (.slice Av j cv) j (mkCells l') rfl HOv.out 1 1 rfl rfl (cs_one m') (by omega) (by unfold maxLen;omega) (by omega) HB3.out.size ?_;intro g4 c4 W4 hown4 hgr4 hb4 _ _ _
   have HL4 : Hid (CLoop l n w (.slice (some ⟨g4,0,none⟩) (j + 1) c4) (.int .i64 ((j : Int) + 1)) W4):=by
    refine ⟨j + 1,l' ++ [m'],by omega,by go_num,HSA.out.snoc HMJ.out ⟨_,_,_,_,_,_,HM'.out⟩,?_,?_,HB3.out.trans hb4⟩
    ·rw [mkCells_snoc]
     exact hown4
    ·intro q hq
     rcases List.mem_append.1 hq with hq | hq
     ·exact ((HE3.out q hq).step ((Below.refl _ _).alloc (Nat.le_refl _) _)).push (HOv.out.alloc _) hgr4
     ·obtain rfl : q = m':=by simpa using hq
      exact (HMT.out.step ((Below.refl _ _).alloc (Nat.le_refl _) _)).push (HOv.out.alloc _) hgr4
   clear hown4 hgr4 hb4 HOv HE3 HB3 HMT HPF;simp only [Act.put,aSt,aSz,aSs];go_wp2_with fail;go_roundw
   case rel => first | exact HL4.out | exact ⟨_,_,_,HL4.out,rfl,rfl,rfl⟩
   case measure => simp [intOf];omega
  ·have kn : ¬ (j : Int) < (n : Int):=by omega
   obtain rfl : j = n:=by omega
   clear hlt;go_wp2_with fail;go_ret;have ht : l.take j = l:=List.take_of_length_le (by have:=hll.out;omega);have hs:=HSA.out;rw [ht] at hs;exact ⟨Av,cv,l',rfl,hs,⟨Reads.of_own HO.out,fun q hq => (HE.out q hq).inn⟩,HBB.out,HO.out,HE.out⟩
end Go.Proofs.YtcibcmfaebbhnaaGreatDoor.Tr
namespace Go.Proofs.YtcibcmfaebbhnaaGreatDoor.Tr
open Go.ChangeShapes Go.WideShapes Go.ChangeAt Go.RowKit Go.Deep Q
section
variable {H : Type} {enc : TypeId × Value → H} {W : World}
theorem cellsT3 : Tryz.prog.cellsOf 3 = 1:=by kernel_rfl
theorem cellsT9 : Tryz.prog.cellsOf 9 = 1:=by kernel_rfl
theorem cellsT24 : Tryz.prog.cellsOf 49 = 1:=by kernel_rfl
theorem cellsT39 : Tryz.prog.cellsOf 45 = 4:=by kernel_rfl
theorem cellsT40 : Tryz.prog.cellsOf 46 = 1:=by kernel_rfl
theorem cellsT41 : Tryz.prog.cellsOf 22 = 1:=by kernel_rfl
theorem cellsT42 : Tryz.prog.cellsOf 29 = 1:=by kernel_rfl
theorem cellsT44 : Tryz.prog.cellsOf 31 = 7:=by kernel_rfl
theorem cellsT46 : Tryz.prog.cellsOf 48 = 3:=by kernel_rfl
theorem cellsT48 : Tryz.prog.cellsOf 51 = 26:=by kernel_rfl
theorem cellsT69 : Tryz.prog.cellsOf 84 = 3:=by kernel_rfl
theorem len3 {α : Type} {l : List α} (h : l.length = 3) : ∃ a b c,l = [a,b,c]:=list3 h
theorem GB.mems {v : Value} {d : DataW H} (h : GB enc W 46 [v] d) :
  ∃ (A : Option Addr) (n c : Nat) (xs : List (Int × Int × Int)),v = .slice A n c ∧ RS W W.heap.size A n xs ∧ n ≤ 1048576:=by
 rcases GB.slice Tryz.underlying46 (by rw [cellsT69];omega) h with rfl | ⟨a,len,cap,D,cs,rfl,hl,hn,hb,hi⟩
 ·exact ⟨none,0,0,[],rfl,⟨by simp [sts],fun h => absurd h (by simp)⟩,by omega⟩
 ·rw [cellsT69] at hi
  have hex : ∀ i,∃ x : Int × Int × Int,i < len → cs i = [.int .i64 x.1,.int .i64 x.2.1,.int .i64 x.2.2]:=by
   intro i
   by_cases hil : i < len
   ·obtain ⟨hc1,_,hg⟩:=hi i hil
    obtain ⟨c0,c1,c2,e⟩:=len3 hc1;rw [e] at hg;obtain ⟨_,g0⟩:=GB.fld Tryz.underlying84 hg 0 3 0 1 ⟨_,rfl,rfl,rfl⟩ cellsT3;obtain ⟨_,g1⟩:=GB.fld Tryz.underlying84 hg 1 3 1 1 ⟨_,rfl,rfl,rfl⟩ cellsT3;obtain ⟨_,g2⟩:=GB.fld Tryz.underlying84 hg 2 3 2 1 ⟨_,rfl,rfl,rfl⟩ cellsT3;simp only [List.drop_zero,List.drop_succ_cons,List.take_succ_cons,List.take_zero] at g0 g1 g2;obtain ⟨x0,rfl,_⟩:=GB.int Tryz.underlying3 g0;obtain ⟨x1,rfl,_⟩:=GB.int Tryz.underlying3 g1;obtain ⟨x2,rfl,_⟩:=GB.int Tryz.underlying3 g2;exact ⟨(x0,x1,x2),fun _ => e⟩
   ·exact ⟨(0,0,0),fun h => absurd h hil⟩
  obtain ⟨f,hf⟩:=Classical.axiomOfChoice hex;have hr:=reads_elems (W:=W) (C:=3) (a:=a) (cs:=cs) hb (fun i hi' => (hi i hi').1) (fun i hi' => (hi i hi').2.1)
  have e : sts ((List.range len).map f) = (List.range len).flatMap cs:=by
   unfold sts;rw [List.flatMap_map];exact flat_congr fun i hi' => (hf i (by simpa using hi')).symm
  refine ⟨some a,len,cap,(List.range len).map f,rfl,?_,hn⟩;show Reads _ _ _ _ _ (sts _);rw [e];exact hr
theorem list26 {α : Type} {l : List α} (h : l.length = 26) : ∃ c0 c1 c2 c3 c4 c5 c6 c7 c8 c9 c10 c11 c12 c13 c14 c15 c16 c17 c18 c19 c20 c21 c22 c23 c24 c25,l = [c0,c1,c2,c3,c4,c5,c6,c7,c8,c9,c10,c11,c12,c13,c14,c15,c16,c17,c18,c19,c20,c21,c22,c23,c24,c25]:=by
 match l,h with
 | [c0,c1,c2,c3,c4,c5,c6,c7,c8,c9,c10,c11,c12,c13,c14,c15,c16,c17,c18,c19,c20,c21,c22,c23,c24,c25],_ => exact ⟨c0,c1,c2,c3,c4,c5,c6,c7,c8,c9,c10,c11,c12,c13,c14,c15,c16,c17,c18,c19,c20,c21,c22,c23,c24,c25,rfl⟩
theorem GB.mark {cs : List Value} {d : DataW H} (hl : cs.length = 26) (h : GB enc W 51 cs d) : ∃ m : Mk,cs = m.cs.toList ∧ MkIn W W.heap.size m ∧ MkZ m:=by
 obtain ⟨c0,c1,c2,c3,c4,c5,c6,c7,c8,c9,c10,c11,c12,c13,c14,c15,c16,c17,c18,c19,c20,c21,c22,c23,c24,c25,rfl⟩:=list26 hl;obtain ⟨_,g0⟩:=GB.fld Tryz.underlying51 h 0 3 0 1 ⟨_,rfl,rfl,rfl⟩ cellsT3;obtain ⟨_,g1⟩:=GB.fld Tryz.underlying51 h 1 3 1 1 ⟨_,rfl,rfl,rfl⟩ cellsT3;obtain ⟨_,g2⟩:=GB.fld Tryz.underlying51 h 2 3 2 1 ⟨_,rfl,rfl,rfl⟩ cellsT3;obtain ⟨_,g3⟩:=GB.fld Tryz.underlying51 h 3 3 3 1 ⟨_,rfl,rfl,rfl⟩ cellsT3;obtain ⟨_,g4⟩:=GB.fld Tryz.underlying51 h 4 45 4 4 ⟨_,rfl,rfl,rfl⟩ cellsT39;obtain ⟨_,g5⟩:=GB.fld Tryz.underlying51 h 5 46 8 1 ⟨_,rfl,rfl,rfl⟩ cellsT40;obtain ⟨_,g6⟩:=GB.fld Tryz.underlying51 h 6 22 9 1 ⟨_,rfl,rfl,rfl⟩ cellsT41;obtain ⟨_,g7⟩:=GB.fld Tryz.underlying51 h 7 3 10 1 ⟨_,rfl,rfl,rfl⟩ cellsT3;obtain ⟨_,g8⟩:=GB.fld Tryz.underlying51 h 8 3 11 1 ⟨_,rfl,rfl,rfl⟩ cellsT3;obtain ⟨_,g9⟩:=GB.fld Tryz.underlying51 h 9 3 12 1 ⟨_,rfl,rfl,rfl⟩ cellsT3;obtain ⟨_,g10⟩:=GB.fld Tryz.underlying51 h 10 3 13 1 ⟨_,rfl,rfl,rfl⟩ cellsT3;obtain ⟨_,g11⟩:=GB.fld Tryz.underlying51 h 11 29 14 1 ⟨_,rfl,rfl,rfl⟩ cellsT42;obtain ⟨_,g12⟩:=GB.fld Tryz.underlying51 h 12 31 15 7 ⟨_,rfl,rfl,rfl⟩ cellsT44;obtain ⟨_,g13⟩:=GB.fld Tryz.underlying51 h 13 48 22 3 ⟨_,rfl,rfl,rfl⟩ cellsT46;obtain ⟨_,g14⟩:=GB.fld Tryz.underlying51 h 14 49 25 1 ⟨_,rfl,rfl,rfl⟩ cellsT24;simp only [List.drop_zero,List.drop_succ_cons,List.take_succ_cons,List.take_zero] at g0 g1 g2 g3 g4 g5 g6 g7 g8 g9 g10 g11 g12 g13 g14;obtain ⟨_,v0⟩:=GB.fld Tryz.underlying45 g4 0 3 0 1 ⟨_,rfl,rfl,rfl⟩ cellsT3;obtain ⟨_,v1⟩:=GB.fld Tryz.underlying45 g4 1 3 1 1 ⟨_,rfl,rfl,rfl⟩ cellsT3;obtain ⟨_,v2⟩:=GB.fld Tryz.underlying45 g4 2 3 2 1 ⟨_,rfl,rfl,rfl⟩ cellsT3;obtain ⟨_,v3⟩:=GB.fld Tryz.underlying45 g4 3 3 3 1 ⟨_,rfl,rfl,rfl⟩ cellsT3;simp only [List.drop_zero,List.drop_succ_cons,List.take_succ_cons,List.take_zero] at v0 v1 v2 v3;obtain ⟨_,q0⟩:=GB.fld Tryz.underlying31 g12 0 3 0 1 ⟨_,rfl,rfl,rfl⟩ cellsT3;obtain ⟨_,q1⟩:=GB.fld Tryz.underlying31 g12 1 3 1 1 ⟨_,rfl,rfl,rfl⟩ cellsT3;obtain ⟨_,q2⟩:=GB.fld Tryz.underlying31 g12 2 3 2 1 ⟨_,rfl,rfl,rfl⟩ cellsT3;obtain ⟨_,q3⟩:=GB.fld Tryz.underlying31 g12 3 3 3 1 ⟨_,rfl,rfl,rfl⟩ cellsT3;obtain ⟨_,q4⟩:=GB.fld Tryz.underlying31 g12 4 9 4 1 ⟨_,rfl,rfl,rfl⟩ cellsT9;obtain ⟨_,q5⟩:=GB.fld Tryz.underlying31 g12 5 9 5 1 ⟨_,rfl,rfl,rfl⟩ cellsT9;obtain ⟨_,q6⟩:=GB.fld Tryz.underlying31 g12 6 9 6 1 ⟨_,rfl,rfl,rfl⟩ cellsT9;simp only [List.drop_zero,List.drop_succ_cons,List.take_succ_cons,List.take_zero] at q0 q1 q2 q3 q4 q5 q6;obtain ⟨_,r0⟩:=GB.fld Tryz.underlying48 g13 0 3 0 1 ⟨_,rfl,rfl,rfl⟩ cellsT3;obtain ⟨_,r1⟩:=GB.fld Tryz.underlying48 g13 1 9 1 1 ⟨_,rfl,rfl,rfl⟩ cellsT9;obtain ⟨_,r2⟩:=GB.fld Tryz.underlying48 g13 2 3 2 1 ⟨_,rfl,rfl,rfl⟩ cellsT3;simp only [List.drop_zero,List.drop_succ_cons,List.take_succ_cons,List.take_zero] at r0 r1 r2;obtain ⟨aT,rfl,_⟩:=GB.int Tryz.underlying3 g0;obtain ⟨kd,rfl,_⟩:=GB.int Tryz.underlying3 g1;obtain ⟨nd,rfl,_⟩:=GB.int Tryz.underlying3 g2;obtain ⟨ic,rfl,_⟩:=GB.int Tryz.underlying3 g3;obtain ⟨ep,rfl,_⟩:=GB.int Tryz.underlying3 v0;obtain ⟨ld,rfl,_⟩:=GB.int Tryz.underlying3 v1;obtain ⟨ii,rfl,_⟩:=GB.int Tryz.underlying3 v2;obtain ⟨ci,rfl,_⟩:=GB.int Tryz.underlying3 v3;obtain ⟨Am,nm,cm,ms,rfl,hm1,hm2⟩:=GB.mems g5;obtain ⟨At,nt,ct,ts,rfl,ht1,ht2,_⟩:=GB.intL g6;obtain ⟨se,rfl,_⟩:=GB.int Tryz.underlying3 g7;obtain ⟨sq,rfl,_⟩:=GB.int Tryz.underlying3 g8;obtain ⟨po,rfl,_⟩:=GB.int Tryz.underlying3 g9;obtain ⟨n,rfl,_⟩:=GB.int Tryz.underlying3 g10;obtain ⟨Ab,nb,cb,bd,rfl,hb1,hb2,hb3⟩:=GB.bytes g11;obtain ⟨cl,rfl,_⟩:=GB.int Tryz.underlying3 q0;obtain ⟨cn,rfl,_⟩:=GB.int Tryz.underlying3 q1;obtain ⟨rq,rfl,_⟩:=GB.int Tryz.underlying3 q2;obtain ⟨op,rfl,_⟩:=GB.int Tryz.underlying3 q3;obtain ⟨key,rfl,hkey⟩:=GB.str q4;obtain ⟨val,rfl,hval⟩:=GB.str q5;obtain ⟨old,rfl,hold⟩:=GB.str q6;obtain ⟨co,rfl,_⟩:=GB.int Tryz.underlying3 r0;obtain ⟨rv,rfl,hrv⟩:=GB.str r1;obtain ⟨rn,rfl,_⟩:=GB.int Tryz.underlying3 r2;obtain ⟨er,rfl,_⟩:=GB.int Tryz.underlying49 g14;exact ⟨⟨aT,kd,nd,ic,ep,ld,ii,ci,Am,nm,cm,ms,At,nt,ct,ts,se,sq,po,n,Ab,nb,cb,bd,cl,cn,rq,op,key,val,old,co,rv,rn,er⟩,rfl,⟨hm1,ht1,hb1,by show nm ≤ _;omega,by show nt ≤ _;omega,by show nb ≤ _;omega⟩,⟨hm2,ht2,hb2,hb3,hkey,hval,hold,hrv⟩⟩
theorem GB.marks {v : Value} {d : DataW H} (h : GB enc W 28 [v] d) : ∃ (A : Option Addr) (n c : Nat) (l : List Mk),v = .slice A n c ∧ MsIn W W.heap.size A n l ∧ n ≤ 1048576 ∧ ∀ m ∈ l,MkZ m:=by
 rcases GB.slice Tryz.underlying28 (by rw [cellsT48];omega) h with rfl | ⟨a,len,cap,D,cs,rfl,hl,hn,hb,hi⟩
 ·exact ⟨none,0,0,[],rfl,⟨⟨by simp [mkCells],fun h => absurd h (by simp)⟩,fun m hm => by cases hm⟩,by omega,fun m hm => by cases hm⟩
 ·rw [cellsT48] at hi
  have hex : ∀ i,∃ m : Mk,i < len → cs i = m.cs.toList ∧ MkIn W W.heap.size m ∧ MkZ m:=by
   intro i
   by_cases hil : i < len
   ·obtain ⟨hc1,_,hg⟩:=hi i hil
    obtain ⟨m,h1,h2,h3⟩:=GB.mark hc1 hg;exact ⟨m,fun _ => ⟨h1,h2,h3⟩⟩
   ·exact ⟨⟨0,0,0,0,0,0,0,0,none,0,0,[],none,0,0,[],0,0,0,0,none,0,0,[],0,0,0,0,⟨#[]⟩,⟨#[]⟩,⟨#[]⟩,0,⟨#[]⟩,0,0⟩,fun h => absurd h hil⟩
  obtain ⟨f,hf⟩:=Classical.axiomOfChoice hex;have hr:=reads_elems (W:=W) (C:=26) (a:=a) (cs:=cs) hb (fun i hi' => (hi i hi').1) (fun i hi' => (hi i hi').2.1)
  have e : mkCells ((List.range len).map f) = (List.range len).flatMap cs:=by
   unfold mkCells;rw [List.flatMap_map];exact flat_congr fun i hi' => (hf i (by simpa using hi')).1.symm
  refine ⟨some a,len,cap,(List.range len).map f,rfl,⟨?_,fun m hm => ?_⟩,hn,fun m hm => ?_⟩
  ·rw [e]
   exact hr
  ·obtain ⟨i,hi',rfl⟩:=List.mem_map.1 hm
   exact (hf i (by simpa using hi')).2.1
  ·obtain ⟨i,hi',rfl⟩:=List.mem_map.1 hm
   exact (hf i (by simpa using hi')).2.2
end
end Go.Proofs.YtcibcmfaebbhnaaGreatDoor.Tr
