/-
  The reference's lists. (Printed by wip/tools/mklists.py.) The reference's lists. (Printed by wip/tools/mklists.py.)
-/
import Derived.Test.YtcibcmfaebbhnaaGreatDoorPTLs1
set_option linter.unusedSimpArgs false
set_option linter.unusedVariables false
set_option maxRecDepth 100000
set_option maxHeartbeats 4000000

namespace Go.Proofs.YtcibcmfaebbhnaaGreatDoor.Tr
open Go.RowKit Go.WideShapes Go.ChangeShapes Q
theorem lists_c4 (m : Mk) (w : World) (hm : MkIn w w.heap.size m) (hw : wrB m = true) (hz0 : m.ep = 0 ∧ m.ld = 0 ∧ m.ii = 0 ∧ m.ci ≠ 0) :
  Calls Tryz.prog 67 #[m.v] w fun e w' => e = .returned (.string (S (idL m.ep m.ld m.ii m.ci ++ memL m.ms m.nm ++ traL m.ts m.nt))) ∧ Below w.heap.size w w':=by
 have hwb:=hw;unfold wrB at hwb;rw [Bool.and_eq_true,Bool.and_eq_true,Bool.and_eq_true] at hwb;obtain ⟨⟨⟨_,hcm⟩,hcn⟩,hct⟩:=hwb;have HM:=hide hm;have HB0 : Hid (Blk (w.alloc (.cells m.cs 51)) w.heap.size 51 m.cs):=Blk.new _ _ _;have HW0 : Hid (Below w.heap.size w (w.alloc (.cells m.cs 51))):=(Below.refl _ _).alloc (Nat.le_refl _) _;obtain ⟨aT,kd,nd,ic,ep,ld,ii,ci,Am,nm,cm,ms,At,nt,ct,ts,se,sq,po,n,Ab,nb,cb,bd,cl,cn,rq,op,key,val,old,co,rv,rn,er⟩:=m;simp only [Mk.v,Mk.cs,Mk.ns] at hcm hcn hct HB0 HW0 hz0 ⊢;have hmm:=HM.out.mem;have hnm:=HM.out.hm;have htr:=HM.out.tr;have hnt:=HM.out.ht;simp only at hmm hnm htr hnt;have HMM:=hide hmm;have HTR:=hide htr;have hml:=hide hmm.len;have htl:=hide (RI.len htr)
 have hc4 : ∀ x ∈ [ep,ld,ii,ci],∃ n : Nat,x = (n : Int) ∧ n ≤ 4611686018427387904:=fun x hx => okC_nat (by
  unfold cntB at hcn;rw [List.all_eq_true] at hcn;exact hcn x (by simp at hx ⊢;rcases hx with rfl | rfl | rfl | rfl <;> simp))
 obtain ⟨a1,rfl,ha1⟩:=hc4 ep (by simp);obtain ⟨a2,rfl,ha2⟩:=hc4 ld (by simp);obtain ⟨a3,rfl,ha3⟩:=hc4 ii (by simp);obtain ⟨a4,rfl,ha4⟩:=hc4 ci (by simp);clear hcn hc4 hw hm hmm htr
 have HSL : Hid (∀ W : World,Blk W (w.heap.size + 2) 3 #[.int .i64 a1,.int .i64 a2,.int .i64 a3,.int .i64 a4] → Calls Tryz.prog 70 #[.slice (some ⟨w.heap.size + 2,0,none⟩) 4 4] W fun e w' => e = .returned (.string (S (slashL [a1,a2,a3,a4]))) ∧ Below W.heap.size W w'):=fun W hB =>
  slashed_any _ W.heap.size 4 4 [a1,a2,a3,a4] W (ri_of_blk (l:=[(a1 : Int),a2,a3,a4]) hB) (Nat.le_refl _) (by intro x hx;simp at hx;rcases hx with rfl | rfl | rfl | rfl <;> omega) (by omega)
 have hsz : ¬ 9223372036854775807 < 4 + (S (slashL [a1,a2,a3,a4])).size:=by
  have:=slash_len [a1,a2,a3,a4] (by intro x hx;simp at hx;rcases hx with rfl | rfl | rfl | rfl <;> omega) 4 (by simp);rw [S_size];simp at this;omega
 have HK : Hid (∀ k,k < ms.length → ∃ x y z : Nat,pidA ms k = x ∧ incA ms k = y ∧ cidA ms k = z ∧ x ≤ 4611686018427387904 ∧ y ≤ 4611686018427387904 ∧ z ≤ 4611686018427387904):=fun k hk => by
  unfold cntB flat at hcm;rw [List.all_eq_true] at hcm
  have hmem : ∀ u ∈ [pidA ms k,incA ms k,cidA ms k],okC u = true:=fun u hu => hcm u (by
   rw [List.mem_flatMap];exact ⟨ms[k],List.getElem_mem hk,by simpa [pidA,incA,cidA,hk] using hu⟩)
  obtain ⟨x,ex,hx⟩:=okC_nat (hmem (pidA ms k) (by simp));obtain ⟨y,ey,hy⟩:=okC_nat (hmem (incA ms k) (by simp));obtain ⟨z,ez,hz⟩:=okC_nat (hmem (cidA ms k) (by simp));exact ⟨x,y,z,ex,ey,ez,hx,hy,hz⟩
 have HTK : Hid (∀ k,k < ts.length → ∃ x : Nat,nth ts k = x ∧ x ≤ 4611686018427387904):=fun k hk => by
  unfold cntB at hct;rw [List.all_eq_true] at hct;exact okC_nat (hct (nth ts k) (by simp [nth,hk]))
 obtain ⟨I,hI⟩ : ∃ I,I = idL a1 a2 a3 a4:=⟨_,rfl⟩;have HI:=hide hI
 have hIl : I.length ≤ 100:=by
  have:=slash_len [a1,a2,a3,a4] (by intro x hx;simp at hx;rcases hx with rfl | rfl | rfl | rfl <;> omega) 4 (by simp);rw [hI];unfold idL;simp only [Int.toNat_natCast];simp at this
  split <;> simp <;> omega
 rw [← hI];clear hI;obtain rfl : a1 = 0:=by omega
 obtain rfl : a2 = 0:=by omega
 obtain rfl : a3 = 0:=by omega
 have HIN : Hid (I = [32,105,100,61] ++ slashL [0,0,0,a4]):=by
  show _ = _;rw [HI.out];unfold idL;rw [if_neg (by omega)];simp only [Int.toNat_natCast]
  try rfl
 have n1 : ((a4 : Int) == 0) = false:=by rw [beq_eq_false_iff_ne];omega
 have n1' : ¬ a4 = 0:=by omega
 clear hz0;go_enter Tryz.func67,Tryz.ntmps67;go_upto_region 5 with (go_at_call 70;refine (HSL.out _ (blk_new _ _ _ _ (by simp))).mono ?_;rintro e w3 ⟨rfl,hb3⟩;have HB3:=hide hb3;clear hb3)
 have HB2 : Hid (Blk (((w.alloc (.cells #[.int .i64 aT,.int .i64 kd,.int .i64 nd,.int .i64 ic,.int .i64 0,.int .i64 0,.int .i64 0,.int .i64 a4,.slice Am nm cm,.slice At nt ct,.int .i64 se,.int .i64 sq,.int .i64 po,.int .i64 n,.slice Ab nb cb,.int .i64 cl,.int .i64 cn,.int .i64 rq,.int .i64 op,.string key,.string val,.string old,.int .i64 co,.string rv,.int .i64 rn,.int .i64 er] 51)).alloc (.cells #[.int .i64 0,.int .i64 0,.int .i64 0,.int .i64 0] 45)).alloc (.cells #[.int .i64 0,.int .i64 0,.int .i64 0,.int .i64 a4] 3)) w.heap.size 51 #[.int .i64 aT,.int .i64 kd,.int .i64 nd,.int .i64 ic,.int .i64 0,.int .i64 0,.int .i64 0,.int .i64 a4,.slice Am nm cm,.slice At nt ct,.int .i64 se,.int .i64 sq,.int .i64 po,.int .i64 n,.slice Ab nb cb,.int .i64 cl,.int .i64 cn,.int .i64 rq,.int .i64 op,.string key,.string val,.string old,.int .i64 co,.string rv,.int .i64 rn,.int .i64 er]):=(HB0.out.alloc _).alloc _;have HBX : Hid (Blk w3 w.heap.size 51 #[.int .i64 aT,.int .i64 kd,.int .i64 nd,.int .i64 ic,.int .i64 0,.int .i64 0,.int .i64 0,.int .i64 a4,.slice Am nm cm,.slice At nt ct,.int .i64 se,.int .i64 sq,.int .i64 po,.int .i64 n,.slice Ab nb cb,.int .i64 cl,.int .i64 cn,.int .i64 rq,.int .i64 op,.string key,.string val,.string old,.int .i64 co,.string rv,.int .i64 rn,.int .i64 er]):=HB2.out.below HB3.out HB2.out.lt;have HBW : Hid (Below w.heap.size w w3):=((HW0.out.alloc (by simp) _).alloc (by simp;omega) _).trans (HB3.out.mono (by simp;omega));clear HB3 HB2 HB0 HW0 hsz HSL n1 n1';go_upto_region 6 with fail
 go_loopw [3,5] (fun v i wr => ∃ k : Nat,k ≤ nm ∧ i = .int .i64 k ∧ v = .string (S (I ++ memL ms k)) ∧ Hid (Below w.heap.size w wr) ∧ Hid (Blk wr w.heap.size 51 #[.int .i64 aT,.int .i64 kd,.int .i64 nd,.int .i64 ic,.int .i64 0,.int .i64 0,.int .i64 0,.int .i64 a4,.slice Am nm cm,.slice At nt ct,.int .i64 se,.int .i64 sq,.int .i64 po,.int .i64 n,.slice Ab nb cb,.int .i64 cl,.int .i64 cn,.int .i64 rq,.int .i64 op,.string key,.string val,.string old,.int .i64 co,.string rv,.int .i64 rn,.int .i64 er])) (fun _ i _ => nm - (intOf i).toNat)
 case atStart => exact ⟨0,Nat.zero_le _,rfl,by rw [memL,List.append_nil,HIN.out,← S_append];rfl,HBW.out,HBX.out⟩
 case round =>
  obtain ⟨k,hk,rfl,rfl,hb,hblk⟩:=hrel;clear HBW HBX;have c8 : wr.cell? ⟨w.heap.size,8,none⟩ = some (.slice Am nm cm):=by have:=hblk.out.cell 8;simpa using this
  have c9 : wr.cell? ⟨w.heap.size,9,none⟩ = some (.slice At nt ct):=by have:=hblk.out.cell 9;simpa using this
  have hsw : w.heap.size ≤ wr.heap.size:=hb.out.size;have hbx:=hblk.out.lt
  by_cases hlt : k < nm
  ·obtain ⟨b,off,rfl,hbB,q0,q1,q2⟩:=RS.at_ (Reads.below HMM.out hb.out) hlt
   have k0 : (0 : Int) ≤ (k : Int):=by omega
   have kn : (k : Int) < (nm : Int):=by omega
   obtain ⟨x,y,z,ex,ey,ez,hx,hy,hz⟩:=HK.out k (by have:=hml.out;omega)
   have hmk : memL ms (k + 1) = memL ms k ++ (if k = 0 then [32,109,101,109,98,101,114,115,61] else [44]) ++ slashL [x,y,z]:=by
    rw [memL,triL,ex,ey,ez];simp only [Int.toNat_natCast]
   have HMK:=hide hmk;rw [ex] at q0;rw [ey] at q1;rw [ez] at q2;have hml2:=mem_len ms HK.out k (by have:=hml.out;omega);have ht3:=tri_len x y z hx hy hz
   have HS3 : Hid (∀ W : World,Blk W wr.heap.size 3 #[.int .i64 x,.int .i64 y,.int .i64 z] → Calls Tryz.prog 70 #[.slice (some ⟨wr.heap.size,0,none⟩) 3 3] W fun e w' => e = .returned (.string (S (slashL [x,y,z]))) ∧ Below W.heap.size W w'):=fun W hB =>
    slashed_any _ W.heap.size 3 3 [x,y,z] W (ri_of_blk (l:=[(x : Int),y,z]) hB) (Nat.le_refl _) (by intro u hu;simp at hu;rcases hu with rfl | rfl | rfl <;> omega) (by omega)
   obtain ⟨L,hL⟩ : ∃ L,L = I ++ memL ms k:=⟨_,rfl⟩;have hLl : L.length ≤ 1000000000:=by rw [hL,List.length_append];omega
   have HL:=hide hL;rw [← hL];clear ex ey ez hmk hL
   by_cases hk1 : 0 < k
   ·have hk1z : ((k : Int) == 0) = false:=by rw [beq_eq_false_iff_ne];omega
    have hkz : ¬ k = 0:=by omega
    rw [if_neg hkz] at HMK;have hs1 : ¬ 9223372036854775807 < (S L).size + 1:=by rw [S_size];omega
    have hs2 : ¬ 9223372036854775807 < (S L).size + 1 + (S (slashL [x,y,z])).size:=by rw [S_size,S_size];omega
    go_upto_region 11 with fail
    go_region_held3 (fun W => W.cell? ⟨w.heap.size,8,none⟩ = some (.slice (some ⟨b,off,none⟩) nm cm) ∧ W.cell? ⟨b,off + k * 3,none⟩ = some (.int .i64 x) ∧ W.cell? ⟨b,off + k * 3 + 1,none⟩ = some (.int .i64 y) ∧ W.cell? ⟨b,off + k * 3 + 2,none⟩ = some (.int .i64 z))
     (first | exact ⟨c8,q0,q1,q2⟩ | exact ⟨(World.cell?_alloc_lt wr _ _ hbx).trans c8,(World.cell?_alloc_lt wr _ _ (by show b < _;omega)).trans q0,(World.cell?_alloc_lt wr _ _ (by show b < _;omega)).trans q1,(World.cell?_alloc_lt wr _ _ (by show b < _;omega)).trans q2⟩ | exact hS7)
     ((go_at_call 70;refine (HS3.out _ (Blk.drew (Blk.new wr _ _))).mono ?_;rintro e w7 ⟨rfl,hb7⟩;have hW7 : Below w.heap.size w w7:=((hb.out.alloc hsw (.cells #[.int .i64 x,.int .i64 y,.int .i64 z] 3)).drew).trans (hb7.mono (by simp;omega));have hB7:=Blk.below (Blk.drew (hblk.out.alloc (.cells #[.int .i64 x,.int .i64 y,.int .i64 z] 3))) hb7 (by simp;omega);have HW7:=hide hW7;have HB7:=hide hB7;have hS7 : w7.cell? ⟨w.heap.size,8,none⟩ = some (.slice (some ⟨b,off,none⟩) nm cm) ∧ w7.cell? ⟨b,off + k * 3,none⟩ = some (.int .i64 x) ∧ w7.cell? ⟨b,off + k * 3 + 1,none⟩ = some (.int .i64 y) ∧ w7.cell? ⟨b,off + k * 3 + 2,none⟩ = some (.int .i64 z):=⟨by have:=hB7.cell 8;simpa using this,((hW7.cell (p:=⟨b,off + k * 3,none⟩) hbB).trans (hb.out.cell (p:=⟨b,off + k * 3,none⟩) hbB).symm).trans q0,((hW7.cell (p:=⟨b,off + k * 3 + 1,none⟩) hbB).trans (hb.out.cell (p:=⟨b,off + k * 3 + 1,none⟩) hbB).symm).trans q1,((hW7.cell (p:=⟨b,off + k * 3 + 2,none⟩) hbB).trans (hb.out.cell (p:=⟨b,off + k * 3 + 2,none⟩) hbB).symm).trans q2⟩;clear hW7 hB7 hb7))
    all_goals
     go_wp2_with fail;go_roundw
     case rel => exact ⟨k + 1,by omega,by go_num,by rw [HMK.out,← List.append_assoc,← List.append_assoc,← HL.out,← S_append,← S_append];rfl,HW7,HB7⟩
     case measure => simp [intOf];omega
   ·have hk1z : ((k : Int) == 0) = true:=by rw [beq_iff_eq];omega
    have hkz : k = 0:=by omega
    rw [if_pos hkz] at HMK;clear hkz hk1;have hs1 : ¬ 9223372036854775807 < (S L).size + 9:=by rw [S_size];omega
    have hs2 : ¬ 9223372036854775807 < (S L).size + 9 + (S (slashL [x,y,z])).size:=by rw [S_size,S_size];omega
    go_upto_region 11 with fail
    go_region_held3 (fun W => W.cell? ⟨w.heap.size,8,none⟩ = some (.slice (some ⟨b,off,none⟩) nm cm) ∧ W.cell? ⟨b,off + k * 3,none⟩ = some (.int .i64 x) ∧ W.cell? ⟨b,off + k * 3 + 1,none⟩ = some (.int .i64 y) ∧ W.cell? ⟨b,off + k * 3 + 2,none⟩ = some (.int .i64 z))
     (first | exact ⟨c8,q0,q1,q2⟩ | exact ⟨(World.cell?_alloc_lt wr _ _ hbx).trans c8,(World.cell?_alloc_lt wr _ _ (by show b < _;omega)).trans q0,(World.cell?_alloc_lt wr _ _ (by show b < _;omega)).trans q1,(World.cell?_alloc_lt wr _ _ (by show b < _;omega)).trans q2⟩ | exact hS7)
     ((go_at_call 70;refine (HS3.out _ (Blk.drew (Blk.new wr _ _))).mono ?_;rintro e w7 ⟨rfl,hb7⟩;have hW7 : Below w.heap.size w w7:=((hb.out.alloc hsw (.cells #[.int .i64 x,.int .i64 y,.int .i64 z] 3)).drew).trans (hb7.mono (by simp;omega));have hB7:=Blk.below (Blk.drew (hblk.out.alloc (.cells #[.int .i64 x,.int .i64 y,.int .i64 z] 3))) hb7 (by simp;omega);have HW7:=hide hW7;have HB7:=hide hB7;have hS7 : w7.cell? ⟨w.heap.size,8,none⟩ = some (.slice (some ⟨b,off,none⟩) nm cm) ∧ w7.cell? ⟨b,off + k * 3,none⟩ = some (.int .i64 x) ∧ w7.cell? ⟨b,off + k * 3 + 1,none⟩ = some (.int .i64 y) ∧ w7.cell? ⟨b,off + k * 3 + 2,none⟩ = some (.int .i64 z):=⟨by have:=hB7.cell 8;simpa using this,((hW7.cell (p:=⟨b,off + k * 3,none⟩) hbB).trans (hb.out.cell (p:=⟨b,off + k * 3,none⟩) hbB).symm).trans q0,((hW7.cell (p:=⟨b,off + k * 3 + 1,none⟩) hbB).trans (hb.out.cell (p:=⟨b,off + k * 3 + 1,none⟩) hbB).symm).trans q1,((hW7.cell (p:=⟨b,off + k * 3 + 2,none⟩) hbB).trans (hb.out.cell (p:=⟨b,off + k * 3 + 2,none⟩) hbB).symm).trans q2⟩;clear hW7 hB7 hb7))
    all_goals
     go_wp2_with fail;go_roundw
     case rel => exact ⟨k + 1,by omega,by go_num,by rw [HMK.out,← List.append_assoc,← List.append_assoc,← HL.out,← S_append,← S_append];rfl,HW7,HB7⟩
     case measure => simp [intOf];omega
  ·have kn : ¬ (k : Int) < (nm : Int):=by omega
   have hkn : k = nm:=by omega
   obtain ⟨J,hJ⟩ : ∃ J,J = I ++ memL ms k:=⟨_,rfl⟩;have HJ : Hid (J = I ++ memL ms nm):=by show _ = _;rw [hJ,hkn]
   have hmlen:=mem_len ms HK.out k (by have:=hml.out;omega);have hJl : J.length ≤ 1000000000:=by rw [hJ,List.length_append];omega
   rw [← hJ];clear hJ hkn hlt hmlen;go_upto_region 13 with fail
   go_loopw [3,6] (fun v i wy => ∃ j : Nat,j ≤ nt ∧ i = .int .i64 j ∧ v = .string (S (J ++ traL ts j)) ∧ Hid (Below w.heap.size w wy) ∧ Hid (Blk wy w.heap.size 51 #[.int .i64 aT,.int .i64 kd,.int .i64 nd,.int .i64 ic,.int .i64 0,.int .i64 0,.int .i64 0,.int .i64 a4,.slice Am nm cm,.slice At nt ct,.int .i64 se,.int .i64 sq,.int .i64 po,.int .i64 n,.slice Ab nb cb,.int .i64 cl,.int .i64 cn,.int .i64 rq,.int .i64 op,.string key,.string val,.string old,.int .i64 co,.string rv,.int .i64 rn,.int .i64 er])) (fun _ i _ => nt - (intOf i).toNat)
   case atStart => exact ⟨0,Nat.zero_le _,rfl,by rw [traL,List.append_nil],hb.out,hblk.out⟩
   case round =>
    obtain ⟨j,hj,rfl,rfl,hb2,hblk2⟩:=hrel;clear c8 c9 hb hblk;have c9 : wr.cell? ⟨w.heap.size,9,none⟩ = some (.slice At nt ct):=by have:=hblk2.out.cell 9;simpa using this
    have hsw2 : w.heap.size ≤ wr.heap.size:=hb2.out.size
    by_cases hlt : j < nt
    ·obtain ⟨ad,rfl,_,q0⟩:=RI.at_ (Reads.below HTR.out hb2.out) hlt
     have k0 : (0 : Int) ≤ (j : Int):=by omega
     have kn2 : (j : Int) < (nt : Int):=by omega
     obtain ⟨x,ex,hx⟩:=HTK.out j (by have:=htl.out;omega)
     have hmk : traL ts (j + 1) = traL ts j ++ (if j = 0 then [32,116,114,97,110,115,61] else [44]) ++ Lib.decDigits x:=by
      rw [traL,ex];simp only [Int.toNat_natCast]
     have HMK:=hide hmk;rw [ex] at q0;have htl2:=tra_len ts HTK.out j (by have:=htl.out;omega);have h19:=dec_len19 (n:=x) (by omega);have HD : Hid (∀ W,Calls Tryz.prog 42 #[.int .i64 x] W fun e w' => e = .returned (.string (S (Lib.decDigits x))) ∧ Below W.heap.size W w'):=fun W => dig_any x W (by omega)
     obtain ⟨L,hL⟩ : ∃ L,L = J ++ traL ts j:=⟨_,rfl⟩;have hLl : L.length ≤ 2000000000:=by rw [hL,List.length_append];omega
     have HL:=hide hL;rw [← hL];clear ex hmk hL;have hbx2:=hblk2.out.lt
     by_cases hk1 : 0 < j
     ·have hk1z : ((j : Int) == 0) = false:=by rw [beq_eq_false_iff_ne];omega
      rw [if_neg (by omega)] at HMK;have hs1 : ¬ 9223372036854775807 < (S L).size + 1:=by rw [S_size];omega
      have hs2 : ¬ 9223372036854775807 < (S L).size + 1 + (S (Lib.decDigits x)).size:=by rw [S_size,S_size];omega
      go_wp2_with (go_at_call 42;refine (HD.out _).mono ?_;rintro e w7 ⟨rfl,hb7⟩;have HW7:=hide (hb2.out.trans (hb7.mono hsw2));have HB7:=hide (hblk2.out.below hb7 hbx2);clear hb7);go_roundw
      case rel => exact ⟨j + 1,by omega,by go_num,by rw [HMK.out,← List.append_assoc,← List.append_assoc,← HL.out,← S_append,← S_append];rfl,HW7,HB7⟩
      case measure => simp [intOf];omega
     ·have hk1z : ((j : Int) == 0) = true:=by rw [beq_iff_eq];omega
      rw [if_pos (by omega)] at HMK;have hs1 : ¬ 9223372036854775807 < (S L).size + 7:=by rw [S_size];omega
      have hs2 : ¬ 9223372036854775807 < (S L).size + 7 + (S (Lib.decDigits x)).size:=by rw [S_size,S_size];omega
      clear hk1;go_wp2_with (go_at_call 42;refine (HD.out _).mono ?_;rintro e w7 ⟨rfl,hb7⟩;have HW7:=hide (hb2.out.trans (hb7.mono hsw2));have HB7:=hide (hblk2.out.below hb7 hbx2);clear hb7);go_roundw
      case rel => exact ⟨j + 1,by omega,by go_num,by rw [HMK.out,← List.append_assoc,← List.append_assoc,← HL.out,← S_append,← S_append];rfl,HW7,HB7⟩
      case measure => simp [intOf];omega
    ·have kn2 : ¬ (j : Int) < (nt : Int):=by omega
     have hjn : j = nt:=by omega
     have HJN:=hide hjn;clear hlt hjn;go_wp2_with fail;go_ret;refine ⟨?_,hb2.out⟩;show Ending.returned (.string (S (J ++ traL ts j))) = _;rw [HJ.out,HJN.out]
     first | done | rw [List.append_assoc]
theorem lists_c5 (m : Mk) (w : World) (hm : MkIn w w.heap.size m) (hw : wrB m = true) (hz0 : m.ep = 0 ∧ m.ld = 0 ∧ m.ii = 0 ∧ m.ci = 0) :
  Calls Tryz.prog 67 #[m.v] w fun e w' => e = .returned (.string (S (idL m.ep m.ld m.ii m.ci ++ memL m.ms m.nm ++ traL m.ts m.nt))) ∧ Below w.heap.size w w':=by
 have hwb:=hw;unfold wrB at hwb;rw [Bool.and_eq_true,Bool.and_eq_true,Bool.and_eq_true] at hwb;obtain ⟨⟨⟨_,hcm⟩,hcn⟩,hct⟩:=hwb;have HM:=hide hm;have HB0 : Hid (Blk (w.alloc (.cells m.cs 51)) w.heap.size 51 m.cs):=Blk.new _ _ _;have HW0 : Hid (Below w.heap.size w (w.alloc (.cells m.cs 51))):=(Below.refl _ _).alloc (Nat.le_refl _) _;obtain ⟨aT,kd,nd,ic,ep,ld,ii,ci,Am,nm,cm,ms,At,nt,ct,ts,se,sq,po,n,Ab,nb,cb,bd,cl,cn,rq,op,key,val,old,co,rv,rn,er⟩:=m;simp only [Mk.v,Mk.cs,Mk.ns] at hcm hcn hct HB0 HW0 hz0 ⊢;have hmm:=HM.out.mem;have hnm:=HM.out.hm;have htr:=HM.out.tr;have hnt:=HM.out.ht;simp only at hmm hnm htr hnt;have HMM:=hide hmm;have HTR:=hide htr;have hml:=hide hmm.len;have htl:=hide (RI.len htr)
 have hc4 : ∀ x ∈ [ep,ld,ii,ci],∃ n : Nat,x = (n : Int) ∧ n ≤ 4611686018427387904:=fun x hx => okC_nat (by
  unfold cntB at hcn;rw [List.all_eq_true] at hcn;exact hcn x (by simp at hx ⊢;rcases hx with rfl | rfl | rfl | rfl <;> simp))
 obtain ⟨a1,rfl,ha1⟩:=hc4 ep (by simp);obtain ⟨a2,rfl,ha2⟩:=hc4 ld (by simp);obtain ⟨a3,rfl,ha3⟩:=hc4 ii (by simp);obtain ⟨a4,rfl,ha4⟩:=hc4 ci (by simp);clear hcn hc4 hw hm hmm htr
 have HSL : Hid (∀ W : World,Blk W (w.heap.size + 2) 3 #[.int .i64 a1,.int .i64 a2,.int .i64 a3,.int .i64 a4] → Calls Tryz.prog 70 #[.slice (some ⟨w.heap.size + 2,0,none⟩) 4 4] W fun e w' => e = .returned (.string (S (slashL [a1,a2,a3,a4]))) ∧ Below W.heap.size W w'):=fun W hB =>
  slashed_any _ W.heap.size 4 4 [a1,a2,a3,a4] W (ri_of_blk (l:=[(a1 : Int),a2,a3,a4]) hB) (Nat.le_refl _) (by intro x hx;simp at hx;rcases hx with rfl | rfl | rfl | rfl <;> omega) (by omega)
 have hsz : ¬ 9223372036854775807 < 4 + (S (slashL [a1,a2,a3,a4])).size:=by
  have:=slash_len [a1,a2,a3,a4] (by intro x hx;simp at hx;rcases hx with rfl | rfl | rfl | rfl <;> omega) 4 (by simp);rw [S_size];simp at this;omega
 have HK : Hid (∀ k,k < ms.length → ∃ x y z : Nat,pidA ms k = x ∧ incA ms k = y ∧ cidA ms k = z ∧ x ≤ 4611686018427387904 ∧ y ≤ 4611686018427387904 ∧ z ≤ 4611686018427387904):=fun k hk => by
  unfold cntB flat at hcm;rw [List.all_eq_true] at hcm
  have hmem : ∀ u ∈ [pidA ms k,incA ms k,cidA ms k],okC u = true:=fun u hu => hcm u (by
   rw [List.mem_flatMap];exact ⟨ms[k],List.getElem_mem hk,by simpa [pidA,incA,cidA,hk] using hu⟩)
  obtain ⟨x,ex,hx⟩:=okC_nat (hmem (pidA ms k) (by simp));obtain ⟨y,ey,hy⟩:=okC_nat (hmem (incA ms k) (by simp));obtain ⟨z,ez,hz⟩:=okC_nat (hmem (cidA ms k) (by simp));exact ⟨x,y,z,ex,ey,ez,hx,hy,hz⟩
 have HTK : Hid (∀ k,k < ts.length → ∃ x : Nat,nth ts k = x ∧ x ≤ 4611686018427387904):=fun k hk => by
  unfold cntB at hct;rw [List.all_eq_true] at hct;exact okC_nat (hct (nth ts k) (by simp [nth,hk]))
 obtain ⟨I,hI⟩ : ∃ I,I = idL a1 a2 a3 a4:=⟨_,rfl⟩;have HI:=hide hI
 have hIl : I.length ≤ 100:=by
  have:=slash_len [a1,a2,a3,a4] (by intro x hx;simp at hx;rcases hx with rfl | rfl | rfl | rfl <;> omega) 4 (by simp);rw [hI];unfold idL;simp only [Int.toNat_natCast];simp at this
  split <;> simp <;> omega
 rw [← hI];clear hI;obtain rfl : a1 = 0:=by omega
 obtain rfl : a2 = 0:=by omega
 obtain rfl : a3 = 0:=by omega
 obtain rfl : a4 = 0:=by omega
 have HIN : Hid (I = []):=by
  show _ = _;rw [HI.out];unfold idL;rw [if_pos (by simp)]
 clear hz0 HSL hsz;go_enter Tryz.func67,Tryz.ntmps67;go_upto_region 5 with fail
 have HBX : Hid (Blk ((w.alloc (.cells #[.int .i64 aT,.int .i64 kd,.int .i64 nd,.int .i64 ic,.int .i64 0,.int .i64 0,.int .i64 0,.int .i64 0,.slice Am nm cm,.slice At nt ct,.int .i64 se,.int .i64 sq,.int .i64 po,.int .i64 n,.slice Ab nb cb,.int .i64 cl,.int .i64 cn,.int .i64 rq,.int .i64 op,.string key,.string val,.string old,.int .i64 co,.string rv,.int .i64 rn,.int .i64 er] 51)).alloc (.cells #[.int .i64 0,.int .i64 0,.int .i64 0,.int .i64 0] 45)) w.heap.size 51 #[.int .i64 aT,.int .i64 kd,.int .i64 nd,.int .i64 ic,.int .i64 0,.int .i64 0,.int .i64 0,.int .i64 0,.slice Am nm cm,.slice At nt ct,.int .i64 se,.int .i64 sq,.int .i64 po,.int .i64 n,.slice Ab nb cb,.int .i64 cl,.int .i64 cn,.int .i64 rq,.int .i64 op,.string key,.string val,.string old,.int .i64 co,.string rv,.int .i64 rn,.int .i64 er]):=HB0.out.alloc _;have HBW : Hid (Below w.heap.size w ((w.alloc (.cells #[.int .i64 aT,.int .i64 kd,.int .i64 nd,.int .i64 ic,.int .i64 0,.int .i64 0,.int .i64 0,.int .i64 0,.slice Am nm cm,.slice At nt ct,.int .i64 se,.int .i64 sq,.int .i64 po,.int .i64 n,.slice Ab nb cb,.int .i64 cl,.int .i64 cn,.int .i64 rq,.int .i64 op,.string key,.string val,.string old,.int .i64 co,.string rv,.int .i64 rn,.int .i64 er] 51)).alloc (.cells #[.int .i64 0,.int .i64 0,.int .i64 0,.int .i64 0] 45))):=HW0.out.alloc (by simp) _;clear HB0 HW0;go_upto_region 6 with fail
 go_loopw [3,5] (fun v i wr => ∃ k : Nat,k ≤ nm ∧ i = .int .i64 k ∧ v = .string (S (I ++ memL ms k)) ∧ Hid (Below w.heap.size w wr) ∧ Hid (Blk wr w.heap.size 51 #[.int .i64 aT,.int .i64 kd,.int .i64 nd,.int .i64 ic,.int .i64 0,.int .i64 0,.int .i64 0,.int .i64 0,.slice Am nm cm,.slice At nt ct,.int .i64 se,.int .i64 sq,.int .i64 po,.int .i64 n,.slice Ab nb cb,.int .i64 cl,.int .i64 cn,.int .i64 rq,.int .i64 op,.string key,.string val,.string old,.int .i64 co,.string rv,.int .i64 rn,.int .i64 er])) (fun _ i _ => nm - (intOf i).toNat)
 case atStart => exact ⟨0,Nat.zero_le _,rfl,by rw [memL,List.append_nil,HIN.out];rfl,HBW.out,HBX.out⟩
 case round =>
  obtain ⟨k,hk,rfl,rfl,hb,hblk⟩:=hrel;clear HBW HBX;have c8 : wr.cell? ⟨w.heap.size,8,none⟩ = some (.slice Am nm cm):=by have:=hblk.out.cell 8;simpa using this
  have c9 : wr.cell? ⟨w.heap.size,9,none⟩ = some (.slice At nt ct):=by have:=hblk.out.cell 9;simpa using this
  have hsw : w.heap.size ≤ wr.heap.size:=hb.out.size;have hbx:=hblk.out.lt
  by_cases hlt : k < nm
  ·obtain ⟨b,off,rfl,hbB,q0,q1,q2⟩:=RS.at_ (Reads.below HMM.out hb.out) hlt
   have k0 : (0 : Int) ≤ (k : Int):=by omega
   have kn : (k : Int) < (nm : Int):=by omega
   obtain ⟨x,y,z,ex,ey,ez,hx,hy,hz⟩:=HK.out k (by have:=hml.out;omega)
   have hmk : memL ms (k + 1) = memL ms k ++ (if k = 0 then [32,109,101,109,98,101,114,115,61] else [44]) ++ slashL [x,y,z]:=by
    rw [memL,triL,ex,ey,ez];simp only [Int.toNat_natCast]
   have HMK:=hide hmk;rw [ex] at q0;rw [ey] at q1;rw [ez] at q2;have hml2:=mem_len ms HK.out k (by have:=hml.out;omega);have ht3:=tri_len x y z hx hy hz
   have HS3 : Hid (∀ W : World,Blk W wr.heap.size 3 #[.int .i64 x,.int .i64 y,.int .i64 z] → Calls Tryz.prog 70 #[.slice (some ⟨wr.heap.size,0,none⟩) 3 3] W fun e w' => e = .returned (.string (S (slashL [x,y,z]))) ∧ Below W.heap.size W w'):=fun W hB =>
    slashed_any _ W.heap.size 3 3 [x,y,z] W (ri_of_blk (l:=[(x : Int),y,z]) hB) (Nat.le_refl _) (by intro u hu;simp at hu;rcases hu with rfl | rfl | rfl <;> omega) (by omega)
   obtain ⟨L,hL⟩ : ∃ L,L = I ++ memL ms k:=⟨_,rfl⟩;have hLl : L.length ≤ 1000000000:=by rw [hL,List.length_append];omega
   have HL:=hide hL;rw [← hL];clear ex ey ez hmk hL
   by_cases hk1 : 0 < k
   ·have hk1z : ((k : Int) == 0) = false:=by rw [beq_eq_false_iff_ne];omega
    have hkz : ¬ k = 0:=by omega
    rw [if_neg hkz] at HMK;have hs1 : ¬ 9223372036854775807 < (S L).size + 1:=by rw [S_size];omega
    have hs2 : ¬ 9223372036854775807 < (S L).size + 1 + (S (slashL [x,y,z])).size:=by rw [S_size,S_size];omega
    go_upto_region 11 with fail
    go_region_held3 (fun W => W.cell? ⟨w.heap.size,8,none⟩ = some (.slice (some ⟨b,off,none⟩) nm cm) ∧ W.cell? ⟨b,off + k * 3,none⟩ = some (.int .i64 x) ∧ W.cell? ⟨b,off + k * 3 + 1,none⟩ = some (.int .i64 y) ∧ W.cell? ⟨b,off + k * 3 + 2,none⟩ = some (.int .i64 z))
     (first | exact ⟨c8,q0,q1,q2⟩ | exact ⟨(World.cell?_alloc_lt wr _ _ hbx).trans c8,(World.cell?_alloc_lt wr _ _ (by show b < _;omega)).trans q0,(World.cell?_alloc_lt wr _ _ (by show b < _;omega)).trans q1,(World.cell?_alloc_lt wr _ _ (by show b < _;omega)).trans q2⟩ | exact hS7)
     ((go_at_call 70;refine (HS3.out _ (Blk.drew (Blk.new wr _ _))).mono ?_;rintro e w7 ⟨rfl,hb7⟩;have hW7 : Below w.heap.size w w7:=((hb.out.alloc hsw (.cells #[.int .i64 x,.int .i64 y,.int .i64 z] 3)).drew).trans (hb7.mono (by simp;omega));have hB7:=Blk.below (Blk.drew (hblk.out.alloc (.cells #[.int .i64 x,.int .i64 y,.int .i64 z] 3))) hb7 (by simp;omega);have HW7:=hide hW7;have HB7:=hide hB7;have hS7 : w7.cell? ⟨w.heap.size,8,none⟩ = some (.slice (some ⟨b,off,none⟩) nm cm) ∧ w7.cell? ⟨b,off + k * 3,none⟩ = some (.int .i64 x) ∧ w7.cell? ⟨b,off + k * 3 + 1,none⟩ = some (.int .i64 y) ∧ w7.cell? ⟨b,off + k * 3 + 2,none⟩ = some (.int .i64 z):=⟨by have:=hB7.cell 8;simpa using this,((hW7.cell (p:=⟨b,off + k * 3,none⟩) hbB).trans (hb.out.cell (p:=⟨b,off + k * 3,none⟩) hbB).symm).trans q0,((hW7.cell (p:=⟨b,off + k * 3 + 1,none⟩) hbB).trans (hb.out.cell (p:=⟨b,off + k * 3 + 1,none⟩) hbB).symm).trans q1,((hW7.cell (p:=⟨b,off + k * 3 + 2,none⟩) hbB).trans (hb.out.cell (p:=⟨b,off + k * 3 + 2,none⟩) hbB).symm).trans q2⟩;clear hW7 hB7 hb7))
    all_goals
     go_wp2_with fail;go_roundw
     case rel => exact ⟨k + 1,by omega,by go_num,by rw [HMK.out,← List.append_assoc,← List.append_assoc,← HL.out,← S_append,← S_append];rfl,HW7,HB7⟩
     case measure => simp [intOf];omega
   ·have hk1z : ((k : Int) == 0) = true:=by rw [beq_iff_eq];omega
    have hkz : k = 0:=by omega
    rw [if_pos hkz] at HMK;clear hkz hk1;have hs1 : ¬ 9223372036854775807 < (S L).size + 9:=by rw [S_size];omega
    have hs2 : ¬ 9223372036854775807 < (S L).size + 9 + (S (slashL [x,y,z])).size:=by rw [S_size,S_size];omega
    go_upto_region 11 with fail
    go_region_held3 (fun W => W.cell? ⟨w.heap.size,8,none⟩ = some (.slice (some ⟨b,off,none⟩) nm cm) ∧ W.cell? ⟨b,off + k * 3,none⟩ = some (.int .i64 x) ∧ W.cell? ⟨b,off + k * 3 + 1,none⟩ = some (.int .i64 y) ∧ W.cell? ⟨b,off + k * 3 + 2,none⟩ = some (.int .i64 z))
     (first | exact ⟨c8,q0,q1,q2⟩ | exact ⟨(World.cell?_alloc_lt wr _ _ hbx).trans c8,(World.cell?_alloc_lt wr _ _ (by show b < _;omega)).trans q0,(World.cell?_alloc_lt wr _ _ (by show b < _;omega)).trans q1,(World.cell?_alloc_lt wr _ _ (by show b < _;omega)).trans q2⟩ | exact hS7)
     ((go_at_call 70;refine (HS3.out _ (Blk.drew (Blk.new wr _ _))).mono ?_;rintro e w7 ⟨rfl,hb7⟩;have hW7 : Below w.heap.size w w7:=((hb.out.alloc hsw (.cells #[.int .i64 x,.int .i64 y,.int .i64 z] 3)).drew).trans (hb7.mono (by simp;omega));have hB7:=Blk.below (Blk.drew (hblk.out.alloc (.cells #[.int .i64 x,.int .i64 y,.int .i64 z] 3))) hb7 (by simp;omega);have HW7:=hide hW7;have HB7:=hide hB7;have hS7 : w7.cell? ⟨w.heap.size,8,none⟩ = some (.slice (some ⟨b,off,none⟩) nm cm) ∧ w7.cell? ⟨b,off + k * 3,none⟩ = some (.int .i64 x) ∧ w7.cell? ⟨b,off + k * 3 + 1,none⟩ = some (.int .i64 y) ∧ w7.cell? ⟨b,off + k * 3 + 2,none⟩ = some (.int .i64 z):=⟨by have:=hB7.cell 8;simpa using this,((hW7.cell (p:=⟨b,off + k * 3,none⟩) hbB).trans (hb.out.cell (p:=⟨b,off + k * 3,none⟩) hbB).symm).trans q0,((hW7.cell (p:=⟨b,off + k * 3 + 1,none⟩) hbB).trans (hb.out.cell (p:=⟨b,off + k * 3 + 1,none⟩) hbB).symm).trans q1,((hW7.cell (p:=⟨b,off + k * 3 + 2,none⟩) hbB).trans (hb.out.cell (p:=⟨b,off + k * 3 + 2,none⟩) hbB).symm).trans q2⟩;clear hW7 hB7 hb7))
    all_goals
     go_wp2_with fail;go_roundw
     case rel => exact ⟨k + 1,by omega,by go_num,by rw [HMK.out,← List.append_assoc,← List.append_assoc,← HL.out,← S_append,← S_append];rfl,HW7,HB7⟩
     case measure => simp [intOf];omega
  ·have kn : ¬ (k : Int) < (nm : Int):=by omega
   have hkn : k = nm:=by omega
   obtain ⟨J,hJ⟩ : ∃ J,J = I ++ memL ms k:=⟨_,rfl⟩;have HJ : Hid (J = I ++ memL ms nm):=by show _ = _;rw [hJ,hkn]
   have hmlen:=mem_len ms HK.out k (by have:=hml.out;omega);have hJl : J.length ≤ 1000000000:=by rw [hJ,List.length_append];omega
   rw [← hJ];clear hJ hkn hlt hmlen;go_upto_region 13 with fail
   go_loopw [3,6] (fun v i wy => ∃ j : Nat,j ≤ nt ∧ i = .int .i64 j ∧ v = .string (S (J ++ traL ts j)) ∧ Hid (Below w.heap.size w wy) ∧ Hid (Blk wy w.heap.size 51 #[.int .i64 aT,.int .i64 kd,.int .i64 nd,.int .i64 ic,.int .i64 0,.int .i64 0,.int .i64 0,.int .i64 0,.slice Am nm cm,.slice At nt ct,.int .i64 se,.int .i64 sq,.int .i64 po,.int .i64 n,.slice Ab nb cb,.int .i64 cl,.int .i64 cn,.int .i64 rq,.int .i64 op,.string key,.string val,.string old,.int .i64 co,.string rv,.int .i64 rn,.int .i64 er])) (fun _ i _ => nt - (intOf i).toNat)
   case atStart => exact ⟨0,Nat.zero_le _,rfl,by rw [traL,List.append_nil],hb.out,hblk.out⟩
   case round =>
    obtain ⟨j,hj,rfl,rfl,hb2,hblk2⟩:=hrel;clear c8 c9 hb hblk;have c9 : wr.cell? ⟨w.heap.size,9,none⟩ = some (.slice At nt ct):=by have:=hblk2.out.cell 9;simpa using this
    have hsw2 : w.heap.size ≤ wr.heap.size:=hb2.out.size
    by_cases hlt : j < nt
    ·obtain ⟨ad,rfl,_,q0⟩:=RI.at_ (Reads.below HTR.out hb2.out) hlt
     have k0 : (0 : Int) ≤ (j : Int):=by omega
     have kn2 : (j : Int) < (nt : Int):=by omega
     obtain ⟨x,ex,hx⟩:=HTK.out j (by have:=htl.out;omega)
     have hmk : traL ts (j + 1) = traL ts j ++ (if j = 0 then [32,116,114,97,110,115,61] else [44]) ++ Lib.decDigits x:=by
      rw [traL,ex];simp only [Int.toNat_natCast]
     have HMK:=hide hmk;rw [ex] at q0;have htl2:=tra_len ts HTK.out j (by have:=htl.out;omega);have h19:=dec_len19 (n:=x) (by omega);have HD : Hid (∀ W,Calls Tryz.prog 42 #[.int .i64 x] W fun e w' => e = .returned (.string (S (Lib.decDigits x))) ∧ Below W.heap.size W w'):=fun W => dig_any x W (by omega)
     obtain ⟨L,hL⟩ : ∃ L,L = J ++ traL ts j:=⟨_,rfl⟩;have hLl : L.length ≤ 2000000000:=by rw [hL,List.length_append];omega
     have HL:=hide hL;rw [← hL];clear ex hmk hL;have hbx2:=hblk2.out.lt
     by_cases hk1 : 0 < j
     ·have hk1z : ((j : Int) == 0) = false:=by rw [beq_eq_false_iff_ne];omega
      rw [if_neg (by omega)] at HMK;have hs1 : ¬ 9223372036854775807 < (S L).size + 1:=by rw [S_size];omega
      have hs2 : ¬ 9223372036854775807 < (S L).size + 1 + (S (Lib.decDigits x)).size:=by rw [S_size,S_size];omega
      go_wp2_with (go_at_call 42;refine (HD.out _).mono ?_;rintro e w7 ⟨rfl,hb7⟩;have HW7:=hide (hb2.out.trans (hb7.mono hsw2));have HB7:=hide (hblk2.out.below hb7 hbx2);clear hb7);go_roundw
      case rel => exact ⟨j + 1,by omega,by go_num,by rw [HMK.out,← List.append_assoc,← List.append_assoc,← HL.out,← S_append,← S_append];rfl,HW7,HB7⟩
      case measure => simp [intOf];omega
     ·have hk1z : ((j : Int) == 0) = true:=by rw [beq_iff_eq];omega
      rw [if_pos (by omega)] at HMK;have hs1 : ¬ 9223372036854775807 < (S L).size + 7:=by rw [S_size];omega
      have hs2 : ¬ 9223372036854775807 < (S L).size + 7 + (S (Lib.decDigits x)).size:=by rw [S_size,S_size];omega
      clear hk1;go_wp2_with (go_at_call 42;refine (HD.out _).mono ?_;rintro e w7 ⟨rfl,hb7⟩;have HW7:=hide (hb2.out.trans (hb7.mono hsw2));have HB7:=hide (hblk2.out.below hb7 hbx2);clear hb7);go_roundw
      case rel => exact ⟨j + 1,by omega,by go_num,by rw [HMK.out,← List.append_assoc,← List.append_assoc,← HL.out,← S_append,← S_append];rfl,HW7,HB7⟩
      case measure => simp [intOf];omega
    ·have kn2 : ¬ (j : Int) < (nt : Int):=by omega
     have hjn : j = nt:=by omega
     have HJN:=hide hjn;clear hlt hjn;go_wp2_with fail;go_ret;refine ⟨?_,hb2.out⟩;show Ending.returned (.string (S (J ++ traL ts j))) = _;rw [HJ.out,HJN.out]
     first | done | rw [List.append_assoc]
end Go.Proofs.YtcibcmfaebbhnaaGreatDoor.Tr
