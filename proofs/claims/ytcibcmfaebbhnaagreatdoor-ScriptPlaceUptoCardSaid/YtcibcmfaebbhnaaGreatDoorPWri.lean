/-
  The reference's written: an event's line. (Printed by wip/tools/mkwri.py.)
-/
import Derived.Test.YtcibcmfaebbhnaaGreatDoorPWsg
import Derived.Test.YtcibcmfaebbhnaaGreatDoorPWords
set_option linter.unusedSimpArgs false
set_option linter.unusedVariables false
set_option maxRecDepth 100000
set_option maxHeartbeats 3000000

namespace Go.Proofs.YtcibcmfaebbhnaaGreatDoor
open Go.RowKit Go.WideShapes Go.ChangeShapes Q
def cat (x : List UInt8) (ps : List (List UInt8)) : List UInt8:=x ++ ps.flatMap (fun p => 32 :: p)
theorem cat_join (x : List UInt8) (ps : List (List UInt8)) : Lib.join (x :: ps) [32] = cat x ps:=by
 rw [Lib.join_cons];unfold cat Lib.joinTail;rw [List.flatMap_def]
 rfl
theorem cat_snoc (x : List UInt8) (ps : List (List UInt8)) (p : List UInt8) : cat x (ps ++ [p]) = cc (cc (cat x ps) [32]) p:=by
 unfold cat cc;simp
theorem cat_sz (M : Nat) (x : List UInt8) (ps : List (List UInt8)) (h : ∀ p ∈ ps,p.length ≤ M) : (cat x ps).length ≤ x.length + (M + 1) * ps.length:=by
 induction ps with
 | nil => simp [cat]
 | cons p r ih =>
  have h1:=ih fun q hq => h q (by simp [hq])
  have h2:=h p (by simp);have e : cat x (p :: r) = x ++ 32 :: (p ++ r.flatMap (fun p => 32 :: p)):=by simp [cat]
  have e2 : (cat x r).length = x.length + (r.flatMap (fun p => 32 :: p)).length:=by simp only [cat,List.length_append]
  rw [e];simp only [List.length_append,List.length_cons,Nat.mul_add,Nat.mul_one];omega
def WriP (m : Em) (w : World) (e : Ending) (w' : World) : Prop:=e = .returned (.string (S (writT m.ev))) ∧ Below w.heap.size w w'
theorem writ_bad (m : Em) (w : World) (h : EmIn w w.heap.size m) (ho : EvOk m) (hk : m.kd = 4) (hop : m.op < 1 ∨ 10 ≤ m.op) :
  Calls Tryz.prog 45 #[.agg m.cs] w fun e w' => WriP m w e w':=by
 have HR : Hid (writT m.ev = []):=by
  show _ = _;unfold writT;rw [if_pos ⟨hk,by show ¬ (1 ≤ m.op ∧ m.op ≤ 9);omega⟩]
 have HK:=hide hk;clear h ho hk;go_enter Tryz.func45,Tryz.ntmps45;go_upto_region 1 with fail
 generalize hW1 : World.alloc w _ = W1
 have HB1 : Hid (Below w.heap.size w W1):=by
  show Below _ _ _;rw [← hW1];exact (Below.refl _ _).alloc (Nat.le_refl _) _
 have HX1 : Hid (Blk W1 w.heap.size 33 m.cs):=by
  show Blk _ _ _ _;rw [← hW1];exact Blk.new _ _ _
 clear hW1;have k0:=eb0 HX1.out;rw [HK.out] at k0;have HOP : Hid (∀ W,Calls Tryz.prog 72 #[] W fun e w' => e = .returned (.slice (some ⟨W.heap.size,0,none⟩) 10 10) ∧ w' = W.alloc (.cells opV 9)):=fun W => ops_ref W
 go_upto_region 3 with (go_at_call 72;refine (HOP.out _).mono ?_;rintro e w2 ⟨rfl,hw2⟩;have hb2 : Below W1.heap.size W1 w2:=(by rw [hw2];exact (Below.refl _ _).alloc (Nat.le_refl _) _);have HB2:=hide (HB1.out.trans (hb2.mono HB1.out.size));have HX2:=hide (HX1.out.below hb2 HX1.out.lt);clear hw2 hb2)
 have k8:=eb8 HX2.out;clear k0
 by_cases h1 : m.op < 1
 ·go_wp2_with fail
  go_ret;exact ⟨by rw [HR.out];rfl,HB2.out⟩
 ·have h2 : 10 ≤ m.op:=by omega
  go_wp2_with fail;go_ret;exact ⟨by rw [HR.out];rfl,HB2.out⟩
theorem writ_do (m : Em) (w : World) (h : EmIn w w.heap.size m) (ho : EvOk m) (hk : m.kd = 4) (j : Nat) (hj : m.op = (j : Int)) (hj1 : 1 ≤ j) (hj9 : j ≤ 9) :
  Calls Tryz.prog 45 #[.agg m.cs] w fun e w' => WriP m w e w':=by
 obtain ⟨TA,hTA⟩ : ∃ TA,TA = Lib.itoa m.a:=⟨_,rfl⟩;obtain ⟨TK,hTK⟩ : ∃ TK,TK = quoteL m.key.data.toList:=⟨_,rfl⟩;obtain ⟨TV,hTV⟩ : ∃ TV,TV = quoteL m.val.data.toList:=⟨_,rfl⟩;obtain ⟨TO,hTO⟩ : ∃ TO,TO = quoteL m.old.data.toList:=⟨_,rfl⟩
 have HR : Hid (writT m.ev = cat [100,111] (TA :: opW j :: TK :: ((if m.ev.val ≠ [] ∨ m.ev.old ≠ [] then [TV] else []) ++ (if m.ev.old ≠ [] then [TO] else [])))):=by
  show _ = _;unfold writT;rw [if_neg (fun h => h.2 (by show 1 ≤ m.op ∧ m.op ≤ 9;omega))];unfold lineT lineW;rw [if_pos (show m.ev.kd = 4 from hk),if_pos (show 1 ≤ m.ev.op ∧ m.ev.op ≤ 9 by show 1 ≤ m.op ∧ m.op ≤ 9;omega),cat_join]
  have e : opL.getD (m.ev.op.toNat - 1) [] = opW j:=by
   show opL.getD (m.op.toNat - 1) [] = opW j;rw [hj];obtain ⟨i,rfl⟩ : ∃ i,j = i + 1:=⟨j - 1,by omega⟩
   rfl
  unfold askW;rw [e,hTA,hTK,hTV,hTO]
  rfl
 have HSG : Hid (∀ W,Calls Tryz.prog 71 #[.int .i64 m.a] W fun e w' => e = .returned (.string (S TA)) ∧ Below W.heap.size W w'):=fun W => hTA ▸ signed_all m.a W ho.a.1 ho.a.2
 have HQK : Hid (∀ W,Calls Tryz.prog 69 #[.string m.key] W fun e w' => e = .returned (.string (S TK)) ∧ Below W.heap.size W w'):=fun W => hTK ▸ Quote_any m.key W (by have:=ho.bulk;omega)
 have HQV : Hid (∀ W,Calls Tryz.prog 69 #[.string m.val] W fun e w' => e = .returned (.string (S TV)) ∧ Below W.heap.size W w'):=fun W => hTV ▸ Quote_any m.val W (by have:=ho.bulk;omega)
 have HQO : Hid (∀ W,Calls Tryz.prog 69 #[.string m.old] W fun e w' => e = .returned (.string (S TO)) ∧ Below W.heap.size W w'):=fun W => hTO ▸ Quote_any m.old W (by have:=ho.bulk;omega)
 have HTA : Hid (TA.length ≤ 21):=hTA ▸ itoa_sz ho.a
 have HTK : Hid (TK.length ≤ 4194400):=by
  show _ ≤ _;have:=quote_sz m.key.data.toList;have:=ho.bulk;rw [hTK];rw [str_len] at *;omega
 have HTV : Hid (TV.length ≤ 4194400):=by
  show _ ≤ _;have:=quote_sz m.val.data.toList;have:=ho.bulk;rw [hTV];rw [str_len] at *;omega
 have HTO : Hid (TO.length ≤ 4194400):=by
  show _ ≤ _;have:=quote_sz m.old.data.toList;have:=ho.bulk;rw [hTO];rw [str_len] at *;omega
 have HOW : Hid ((opW j).length ≤ 6):=by
  show _ ≤ _;have : ∀ i : Fin 10,(opW i.val).length ≤ 6:=by decide +kernel
  exact this ⟨j,by omega⟩
 have HK:=hide hk;have HJ:=hide hj;have HJ1:=hide hj1;have HJ9:=hide hj9;clear h ho hk hj hj1 hj9 hTA hTK hTV hTO;go_enter Tryz.func45,Tryz.ntmps45;go_upto_region 1 with fail
 generalize hW1 : World.alloc w _ = W1
 have HB1 : Hid (Below w.heap.size w W1):=by
  show Below _ _ _;rw [← hW1];exact (Below.refl _ _).alloc (Nat.le_refl _) _
 have HX1 : Hid (Blk W1 w.heap.size 33 m.cs):=by
  show Blk _ _ _ _;rw [← hW1];exact Blk.new _ _ _
 clear hW1;have k0:=eb0 HX1.out;rw [HK.out] at k0;have HOP : Hid (∀ W,Calls Tryz.prog 72 #[] W fun e w' => e = .returned (.slice (some ⟨W.heap.size,0,none⟩) 10 10) ∧ w' = W.alloc (.cells opV 9)):=fun W => ops_ref W
 go_upto_region 3 with (go_at_call 72;refine (HOP.out _).mono ?_;rintro e w2 ⟨rfl,hw2⟩;have hb2 : Below W1.heap.size W1 w2:=(by rw [hw2];exact (Below.refl _ _).alloc (Nat.le_refl _) _);have HB2:=hide (HB1.out.trans (hb2.mono HB1.out.size));have HX2 : Hid (Blk w2 w.heap.size 33 m.cs ∧ Blk w2 W1.heap.size 9 opV):=(by refine ⟨HX1.out.below hb2 HX1.out.lt,?_⟩;rw [hw2];exact Blk.new _ _ _);clear hw2 hb2)
 clear k0;have k8:=eb8 HX2.out.1;rw [HJ.out] at k8;have h1 : ¬ (j : Int) < 1:=by have:=HJ1.out;omega
 have h2 : ¬ (10 : Int) ≤ (j : Int):=by have:=HJ9.out;omega
 have j0 : (0 : Int) ≤ (j : Int):=by omega
 have j10 : (j : Int) < 10:=by omega
 go_upto_region 5 with fail
 clear k8;have HQ : Hid (Blk w2.drew w.heap.size 33 m.cs ∧ Blk w2.drew W1.heap.size 9 opV):=⟨HX2.out.1.drew,HX2.out.2.drew⟩;obtain ⟨W4,hW4⟩ : ∃ W4,W4 = w2.drew:=⟨_,rfl⟩;have HB4 : Hid (Below w.heap.size w W4):=by show Below _ _ _;rw [hW4];exact HB2.out.drew
 obtain ⟨T2,hT2⟩ : ∃ T2,T2 = cc (cc (cc [100,111,32] TA) [32]) (opW j):=⟨_,rfl⟩;have HT2:=hide hT2
 have HL2 : Hid (T2.length ≤ 40):=by
  show _ ≤ _;have:=HTA.out;have:=HOW.out;rw [hT2];simp only [cc_len,List.length_cons,List.length_nil];omega
 obtain ⟨T3,hT3⟩ : ∃ T3,T3 = cc (cc T2 [32]) TK:=⟨_,rfl⟩;have HT3:=hide hT3
 have HL3 : Hid (T3.length ≤ 4200000):=by
  show _ ≤ _;have:=HL2.out;have:=HTK.out;rw [hT3];simp only [cc_len,List.length_cons,List.length_nil];omega
 clear hT2 hT3;refine wp_region_L [] (fun V => Blk V w.heap.size 33 m.cs ∧ Blk V W1.heap.size 9 opV) (by kernel_rfl) ?_;rw [← hW4] at HQ ⊢;clear hW4;refine tk 0 27 (v:=?_) rfl HQ.out ?_ ?_
 rotate_left;· intro V hV;go_simp;try with_reducible rfl
 try simp only [Act.put,aSt,aSz,aSs]
 refine tk 1 28 (v:=?_) rfl HQ.out ?_ ?_
 rotate_left
 ·intro V hV
  have k:=eb1 hV.1;go_simp;try with_reducible rfl
 try simp only [Act.put,aSt,aSz,aSs]
 refine tk 5 32 (v:=?_) rfl HQ.out ?_ ?_
 rotate_left;· intro V hV;go_simp;try with_reducible rfl
 try simp only [Act.put,aSt,aSz,aSs]
 refine tk 6 33 (v:=?_) rfl HQ.out ?_ ?_
 rotate_left;· intro V hV;go_simp;try with_reducible rfl
 try simp only [Act.put,aSt,aSz,aSs]
 refine tk 7 34 (v:=?_) rfl HQ.out ?_ ?_
 rotate_left;· intro V hV;go_simp;try with_reducible rfl
 try simp only [Act.put,aSt,aSz,aSs]
 refine tk 8 35 (v:=?_) rfl HQ.out ?_ ?_
 rotate_left
 ·intro V hV
  have k:=eb8 hV.1;rw [HJ.out] at k;go_simp;try with_reducible rfl
 try simp only [Act.put,aSt,aSz,aSs]
 refine tk 9 36 (v:=?_) rfl HQ.out ?_ ?_
 rotate_left;· intro V hV;go_simp;try with_reducible rfl
 try simp only [Act.put,aSt,aSz,aSs]
 refine tk 10 37 (v:=?_) rfl HQ.out ?_ ?_
 rotate_left
 ·intro V hV
  have k:=(hV.2.cell j).trans (opV_at j (by have:=HJ9.out;omega));go_simp;try with_reducible rfl
 try simp only [Act.put,aSt,aSz,aSs]
 refine tk 13 40 (v:=?_) rfl HQ.out ?_ ?_
 rotate_left;· intro V hV;go_simp;try with_reducible rfl
 try simp only [Act.put,aSt,aSz,aSs]
 refine tk 14 41 (v:=?_) rfl HQ.out ?_ ?_
 rotate_left;· intro V hV;go_simp;try with_reducible rfl
 try simp only [Act.put,aSt,aSz,aSs]
 refine tk 15 42 (v:=?_) rfl HQ.out ?_ ?_
 rotate_left
 ·intro V hV
  have k:=eb9 hV.1;go_simp;try with_reducible rfl
 try simp only [Act.put,aSt,aSz,aSs]
 refine wpL_one 2 (by kernel_rfl) rfl (fun K hK => ?_);rw [if_pos (by rfl)];go_simp;go_at_call 71;refine (HSG.out _).mono ?_;rintro e w5 ⟨rfl,hb5⟩;have HQ5 : Hid (Blk w5 w.heap.size 33 m.cs ∧ Blk w5 W1.heap.size 9 opV):=⟨HQ.out.1.below hb5 HQ.out.1.lt,HQ.out.2.below hb5 HQ.out.2.lt⟩;have HB5:=hide (HB4.out.trans (hb5.mono HB4.out.size));refine hK _ _ (fun _ => HQ5.out) ?_;clear hK K hb5;try simp only [Act.put,aSt,aSz,aSs]
 refine tk 3 30 (v:=.string (S (cc [100,111,32] TA))) rfl HQ5.out ?_ ?_
 ·intro V hV;exact ex_cat _ _ _ _ rfl (X:=[100,111,32]) (Y:=TA) rfl rfl (by have:=HTA.out;simp only [List.length_cons,List.length_nil];omega)
 try simp only [Act.put,aSt,aSz,aSs]
 refine tk 4 31 (v:=.string (S (cc (cc [100,111,32] TA) [32]))) rfl HQ5.out ?_ ?_
 ·intro V hV;exact ex_cat _ _ _ _ rfl (X:=cc [100,111,32] TA) (Y:=[32]) rfl rfl (by have:=HTA.out;simp only [cc_len,List.length_cons,List.length_nil];omega)
 try simp only [Act.put,aSt,aSz,aSs]
 refine tk 11 38 (v:=.string (S T2)) rfl HQ5.out ?_ ?_
 ·intro V hV
  rw [HT2.out];exact ex_cat _ _ _ _ rfl (X:=cc (cc [100,111,32] TA) [32]) (Y:=opW j) rfl rfl (by have:=HTA.out;have:=HOW.out;simp only [cc_len,List.length_cons,List.length_nil];omega)
 try simp only [Act.put,aSt,aSz,aSs]
 refine tk 12 39 (v:=.string (S (cc T2 [32]))) rfl HQ5.out ?_ ?_
 ·intro V hV;exact ex_cat _ _ _ _ rfl (X:=T2) (Y:=[32]) rfl rfl (by have:=HL2.out;simp only [List.length_cons,List.length_nil];omega)
 try simp only [Act.put,aSt,aSz,aSs]
 refine wpL_one 16 (by kernel_rfl) rfl (fun K hK => ?_);rw [if_pos (by rfl)];go_simp;go_at_call 69;refine (HQK.out _).mono ?_;rintro e w6 ⟨rfl,hb6⟩;have HQ6 : Hid (Blk w6 w.heap.size 33 m.cs ∧ Blk w6 W1.heap.size 9 opV):=⟨HQ5.out.1.below hb6 HQ5.out.1.lt,HQ5.out.2.below hb6 HQ5.out.2.lt⟩;have HB6:=hide (HB5.out.trans (hb6.mono HB5.out.size));refine hK _ _ (fun _ => HQ6.out) ?_;clear hK K hb6;try simp only [Act.put,aSt,aSz,aSs]
 refine tk 17 44 (v:=.string (S T3)) rfl HQ6.out ?_ ?_
 ·intro V hV
  rw [HT3.out];exact ex_cat _ _ _ _ rfl (X:=cc T2 [32]) (Y:=TK) rfl rfl (by have:=HL2.out;have:=HTK.out;simp only [cc_len,List.length_cons,List.length_nil];omega)
 try simp only [Act.put,aSt,aSz,aSs]
 refine tk 18 4 (v:=?_) rfl HQ6.out ?_ ?_
 rotate_left;· intro V hV;go_simp;try with_reducible rfl
 try simp only [Act.put,aSt,aSz,aSs]
 refine wpL_done (by kernel_rfl) ?_ _;have L0 : Hid (∀ x : ByteArray,x.data.toList = [] → x = ⟨#[]⟩):=fun x h => ByteArray.ext (Array.toList_inj.1 h)
 have L1 : Hid (∀ x : ByteArray,¬ x.data.toList = [] → ¬ x.toList = [] ∧ (x.toList == []) = false):=fun x h => by
  rw [← ByteArray.toList_eq] at h;exact ⟨h,by simpa using h⟩
 by_cases hv : m.val.data.toList = []
 ·have k10:=eb10 HQ6.out.1
  rw [L0.out _ hv] at k10
  by_cases ho : m.old.data.toList = []
  ·have k11:=eb11 HQ6.out.1
   rw [L0.out _ ho] at k11;go_wp2_with fail;go_ret;refine ⟨?_,HB6.out⟩;have hv' : m.ev.val = m.val.data.toList:=rfl;have ho' : m.ev.old = m.old.data.toList:=rfl;rw [HR.out,hv',ho',HT3.out,HT2.out];simp [cat,cc,hv,ho]
  ·have k11:=eb11 HQ6.out.1
   have k11':=(L1.out _ ho).1;have k11'':=(L1.out _ ho).2;go_upto_region 7 with fail
   obtain ⟨T4,hT4⟩ : ∃ T4,T4 = cc (cc T3 [32]) TV:=⟨_,rfl⟩;have HT4:=hide hT4
   have HLT4 : Hid (T4.length ≤ 8400000):=by
    show _ ≤ _;have:=HL3.out;have:=HTV.out;rw [hT4];simp only [cc_len,List.length_cons,List.length_nil];omega
   clear hT4;refine wp_region_lit ?_;refine wpList_value rfl (.string (S T3)) (by go_simp) ?_;try simp only [Act.put,aSt,aSz,aSs]
   refine wpList_value rfl (.string (S (cc T3 [32]))) (ex_cat _ _ _ _ rfl (X:=T3) (Y:=[32]) rfl rfl (by have:=HL3.out;simp only [List.length_cons,List.length_nil];omega)) ?_;try simp only [Act.put,aSt,aSz,aSs]
   refine wpList_value rfl (.pointer (some ⟨w.heap.size,5,none⟩)) (by go_simp) ?_;try simp only [Act.put,aSt,aSz,aSs]
   refine wpList_value rfl (.pointer (some ⟨w.heap.size,10,none⟩)) (by go_simp) ?_;try simp only [Act.put,aSt,aSz,aSs]
   refine wpList_value rfl (.string m.val) (by have k:=eb10 HQ6.out.1;clear k10 k11;go_simp) ?_;try simp only [Act.put,aSt,aSz,aSs]
   refine wpList_step (fun K hK => ?_);rw [if_pos (by rfl)];go_simp;go_at_call 69;refine (HQV.out _).mono ?_;rintro e w7 ⟨rfl,hb7⟩;have HQ7 : Hid (Blk w7 w.heap.size 33 m.cs ∧ Blk w7 W1.heap.size 9 opV):=⟨HQ6.out.1.below hb7 HQ6.out.1.lt,HQ6.out.2.below hb7 HQ6.out.2.lt⟩;have HB7:=hide (HB6.out.trans (hb7.mono HB6.out.size));refine hK _ _ ?_;clear hK K hb7;try simp only [Act.put,aSt,aSz,aSs]
   refine wpList_value rfl (.string (S T4)) (by rw [HT4.out];exact ex_cat _ _ _ _ rfl (X:=cc T3 [32]) (Y:=TV) rfl rfl (by have:=HL3.out;have:=HTV.out;simp only [cc_len,List.length_cons,List.length_nil];omega)) ?_;try simp only [Act.put,aSt,aSz,aSs]
   clear k10 k11;have k10:=eb10 HQ7.out.1;have k11:=eb11 HQ7.out.1;try rw [L0.out _ hv] at k10
   try rw [L0.out _ ho] at k11
   go_upto_region 9 with fail
   obtain ⟨T5,hT5⟩ : ∃ T5,T5 = cc (cc T4 [32]) TO:=⟨_,rfl⟩;have HT5:=hide hT5
   have HLT5 : Hid (T5.length ≤ 12600000):=by
    show _ ≤ _;have:=HLT4.out;have:=HTO.out;rw [hT5];simp only [cc_len,List.length_cons,List.length_nil];omega
   clear hT5;refine wp_region_lit ?_;refine wpList_value rfl (.string (S T4)) (by go_simp) ?_;try simp only [Act.put,aSt,aSz,aSs]
   refine wpList_value rfl (.string (S (cc T4 [32]))) (ex_cat _ _ _ _ rfl (X:=T4) (Y:=[32]) rfl rfl (by have:=HLT4.out;simp only [List.length_cons,List.length_nil];omega)) ?_;try simp only [Act.put,aSt,aSz,aSs]
   refine wpList_value rfl (.pointer (some ⟨w.heap.size,5,none⟩)) (by go_simp) ?_;try simp only [Act.put,aSt,aSz,aSs]
   refine wpList_value rfl (.pointer (some ⟨w.heap.size,11,none⟩)) (by go_simp) ?_;try simp only [Act.put,aSt,aSz,aSs]
   refine wpList_value rfl (.string m.old) (by have k:=eb11 HQ7.out.1;clear k10 k11;go_simp) ?_;try simp only [Act.put,aSt,aSz,aSs]
   refine wpList_step (fun K hK => ?_);rw [if_pos (by rfl)];go_simp;go_at_call 69;refine (HQO.out _).mono ?_;rintro e w8 ⟨rfl,hb8⟩;have HQ8 : Hid (Blk w8 w.heap.size 33 m.cs ∧ Blk w8 W1.heap.size 9 opV):=⟨HQ7.out.1.below hb8 HQ7.out.1.lt,HQ7.out.2.below hb8 HQ7.out.2.lt⟩;have HB8:=hide (HB7.out.trans (hb8.mono HB7.out.size));refine hK _ _ ?_;clear hK K hb8;try simp only [Act.put,aSt,aSz,aSs]
   refine wpList_value rfl (.string (S T5)) (by rw [HT5.out];exact ex_cat _ _ _ _ rfl (X:=cc T4 [32]) (Y:=TO) rfl rfl (by have:=HLT4.out;have:=HTO.out;simp only [cc_len,List.length_cons,List.length_nil];omega)) ?_;try simp only [Act.put,aSt,aSz,aSs]
   clear k10 k11;have k10:=eb10 HQ8.out.1;have k11:=eb11 HQ8.out.1;try rw [L0.out _ hv] at k10
   try rw [L0.out _ ho] at k11
   go_wp2_with fail;go_ret;refine ⟨?_,HB8.out⟩;have hv' : m.ev.val = m.val.data.toList:=rfl;have ho' : m.ev.old = m.old.data.toList:=rfl;rw [HR.out,hv',ho',HT5.out,HT4.out,HT3.out,HT2.out];simp [cat,cc,hv,ho]
 ·have k10:=eb10 HQ6.out.1
  have k10':=(L1.out _ hv).1;have k10'':=(L1.out _ hv).2
  by_cases ho : m.old.data.toList = []
  ·have k11:=eb11 HQ6.out.1
   rw [L0.out _ ho] at k11;go_upto_region 7 with fail
   obtain ⟨T4,hT4⟩ : ∃ T4,T4 = cc (cc T3 [32]) TV:=⟨_,rfl⟩;have HT4:=hide hT4
   have HLT4 : Hid (T4.length ≤ 8400000):=by
    show _ ≤ _;have:=HL3.out;have:=HTV.out;rw [hT4];simp only [cc_len,List.length_cons,List.length_nil];omega
   clear hT4;refine wp_region_lit ?_;refine wpList_value rfl (.string (S T3)) (by go_simp) ?_;try simp only [Act.put,aSt,aSz,aSs]
   refine wpList_value rfl (.string (S (cc T3 [32]))) (ex_cat _ _ _ _ rfl (X:=T3) (Y:=[32]) rfl rfl (by have:=HL3.out;simp only [List.length_cons,List.length_nil];omega)) ?_;try simp only [Act.put,aSt,aSz,aSs]
   refine wpList_value rfl (.pointer (some ⟨w.heap.size,5,none⟩)) (by go_simp) ?_;try simp only [Act.put,aSt,aSz,aSs]
   refine wpList_value rfl (.pointer (some ⟨w.heap.size,10,none⟩)) (by go_simp) ?_;try simp only [Act.put,aSt,aSz,aSs]
   refine wpList_value rfl (.string m.val) (by have k:=eb10 HQ6.out.1;clear k10 k11;go_simp) ?_;try simp only [Act.put,aSt,aSz,aSs]
   refine wpList_step (fun K hK => ?_);rw [if_pos (by rfl)];go_simp;go_at_call 69;refine (HQV.out _).mono ?_;rintro e w7 ⟨rfl,hb7⟩;have HQ7 : Hid (Blk w7 w.heap.size 33 m.cs ∧ Blk w7 W1.heap.size 9 opV):=⟨HQ6.out.1.below hb7 HQ6.out.1.lt,HQ6.out.2.below hb7 HQ6.out.2.lt⟩;have HB7:=hide (HB6.out.trans (hb7.mono HB6.out.size));refine hK _ _ ?_;clear hK K hb7;try simp only [Act.put,aSt,aSz,aSs]
   refine wpList_value rfl (.string (S T4)) (by rw [HT4.out];exact ex_cat _ _ _ _ rfl (X:=cc T3 [32]) (Y:=TV) rfl rfl (by have:=HL3.out;have:=HTV.out;simp only [cc_len,List.length_cons,List.length_nil];omega)) ?_;try simp only [Act.put,aSt,aSz,aSs]
   clear k10 k11;have k10:=eb10 HQ7.out.1;have k11:=eb11 HQ7.out.1;try rw [L0.out _ hv] at k10
   try rw [L0.out _ ho] at k11
   go_wp2_with fail;go_ret;refine ⟨?_,HB7.out⟩;have hv' : m.ev.val = m.val.data.toList:=rfl;have ho' : m.ev.old = m.old.data.toList:=rfl;rw [HR.out,hv',ho',HT4.out,HT3.out,HT2.out];simp [cat,cc,hv,ho]
  ·have k11:=eb11 HQ6.out.1
   have k11':=(L1.out _ ho).1;have k11'':=(L1.out _ ho).2;go_upto_region 7 with fail
   obtain ⟨T4,hT4⟩ : ∃ T4,T4 = cc (cc T3 [32]) TV:=⟨_,rfl⟩;have HT4:=hide hT4
   have HLT4 : Hid (T4.length ≤ 8400000):=by
    show _ ≤ _;have:=HL3.out;have:=HTV.out;rw [hT4];simp only [cc_len,List.length_cons,List.length_nil];omega
   clear hT4;refine wp_region_lit ?_;refine wpList_value rfl (.string (S T3)) (by go_simp) ?_;try simp only [Act.put,aSt,aSz,aSs]
   refine wpList_value rfl (.string (S (cc T3 [32]))) (ex_cat _ _ _ _ rfl (X:=T3) (Y:=[32]) rfl rfl (by have:=HL3.out;simp only [List.length_cons,List.length_nil];omega)) ?_;try simp only [Act.put,aSt,aSz,aSs]
   refine wpList_value rfl (.pointer (some ⟨w.heap.size,5,none⟩)) (by go_simp) ?_;try simp only [Act.put,aSt,aSz,aSs]
   refine wpList_value rfl (.pointer (some ⟨w.heap.size,10,none⟩)) (by go_simp) ?_;try simp only [Act.put,aSt,aSz,aSs]
   refine wpList_value rfl (.string m.val) (by have k:=eb10 HQ6.out.1;clear k10 k11;go_simp) ?_;try simp only [Act.put,aSt,aSz,aSs]
   refine wpList_step (fun K hK => ?_);rw [if_pos (by rfl)];go_simp;go_at_call 69;refine (HQV.out _).mono ?_;rintro e w7 ⟨rfl,hb7⟩;have HQ7 : Hid (Blk w7 w.heap.size 33 m.cs ∧ Blk w7 W1.heap.size 9 opV):=⟨HQ6.out.1.below hb7 HQ6.out.1.lt,HQ6.out.2.below hb7 HQ6.out.2.lt⟩;have HB7:=hide (HB6.out.trans (hb7.mono HB6.out.size));refine hK _ _ ?_;clear hK K hb7;try simp only [Act.put,aSt,aSz,aSs]
   refine wpList_value rfl (.string (S T4)) (by rw [HT4.out];exact ex_cat _ _ _ _ rfl (X:=cc T3 [32]) (Y:=TV) rfl rfl (by have:=HL3.out;have:=HTV.out;simp only [cc_len,List.length_cons,List.length_nil];omega)) ?_;try simp only [Act.put,aSt,aSz,aSs]
   clear k10 k11;have k10:=eb10 HQ7.out.1;have k11:=eb11 HQ7.out.1;try rw [L0.out _ hv] at k10
   try rw [L0.out _ ho] at k11
   go_upto_region 9 with fail
   obtain ⟨T5,hT5⟩ : ∃ T5,T5 = cc (cc T4 [32]) TO:=⟨_,rfl⟩;have HT5:=hide hT5
   have HLT5 : Hid (T5.length ≤ 12600000):=by
    show _ ≤ _;have:=HLT4.out;have:=HTO.out;rw [hT5];simp only [cc_len,List.length_cons,List.length_nil];omega
   clear hT5;refine wp_region_lit ?_;refine wpList_value rfl (.string (S T4)) (by go_simp) ?_;try simp only [Act.put,aSt,aSz,aSs]
   refine wpList_value rfl (.string (S (cc T4 [32]))) (ex_cat _ _ _ _ rfl (X:=T4) (Y:=[32]) rfl rfl (by have:=HLT4.out;simp only [List.length_cons,List.length_nil];omega)) ?_;try simp only [Act.put,aSt,aSz,aSs]
   refine wpList_value rfl (.pointer (some ⟨w.heap.size,5,none⟩)) (by go_simp) ?_;try simp only [Act.put,aSt,aSz,aSs]
   refine wpList_value rfl (.pointer (some ⟨w.heap.size,11,none⟩)) (by go_simp) ?_;try simp only [Act.put,aSt,aSz,aSs]
   refine wpList_value rfl (.string m.old) (by have k:=eb11 HQ7.out.1;clear k10 k11;go_simp) ?_;try simp only [Act.put,aSt,aSz,aSs]
   refine wpList_step (fun K hK => ?_);rw [if_pos (by rfl)];go_simp;go_at_call 69;refine (HQO.out _).mono ?_;rintro e w8 ⟨rfl,hb8⟩;have HQ8 : Hid (Blk w8 w.heap.size 33 m.cs ∧ Blk w8 W1.heap.size 9 opV):=⟨HQ7.out.1.below hb8 HQ7.out.1.lt,HQ7.out.2.below hb8 HQ7.out.2.lt⟩;have HB8:=hide (HB7.out.trans (hb8.mono HB7.out.size));refine hK _ _ ?_;clear hK K hb8;try simp only [Act.put,aSt,aSz,aSs]
   refine wpList_value rfl (.string (S T5)) (by rw [HT5.out];exact ex_cat _ _ _ _ rfl (X:=cc T4 [32]) (Y:=TO) rfl rfl (by have:=HLT4.out;have:=HTO.out;simp only [cc_len,List.length_cons,List.length_nil];omega)) ?_;try simp only [Act.put,aSt,aSz,aSs]
   clear k10 k11;have k10:=eb10 HQ8.out.1;have k11:=eb11 HQ8.out.1;try rw [L0.out _ hv] at k10
   try rw [L0.out _ ho] at k11
   go_wp2_with fail;go_ret;refine ⟨?_,HB8.out⟩;have hv' : m.ev.val = m.val.data.toList:=rfl;have ho' : m.ev.old = m.old.data.toList:=rfl;rw [HR.out,hv',ho',HT5.out,HT4.out,HT3.out,HT2.out];simp [cat,cc,hv,ho]
def SpLoop (m : Em) (w : World) (sv i : Value) (wr : World) : Prop:=∃ (k : Nat) (T : List UInt8),k ≤ m.ns ∧ i = .int .i64 k ∧ sv = .string (S T) ∧ T = cat [115,112,108,105,116] ((m.sd.take k).map Lib.itoa) ∧ T.length ≤ 5 + 22 * k ∧ Blk wr w.heap.size 33 m.cs ∧ Below w.heap.size w wr
theorem take_nth {l : List Int} {k : Nat} (h : k < l.length) : l.take (k + 1) = l.take k ++ [nth l k]:=by
 rw [List.take_succ_eq_append_getElem h];simp [nth,h]
theorem nth_mem {l : List Int} {k : Nat} (h : k < l.length) : nth l k ∈ l:=by
 have : nth l k = l[k]:=by simp [nth,h]
 rw [this];exact List.getElem_mem h
theorem writ_split (m : Em) (w : World) (h : EmIn w w.heap.size m) (ho : EvOk m) (hk : m.kd = 11) :
  Calls Tryz.prog 45 #[.agg m.cs] w fun e w' => WriP m w e w':=by
 have HR : Hid (writT m.ev = cat [115,112,108,105,116] (m.sd.map Lib.itoa)):=by
  show _ = _;unfold writT;rw [if_neg (fun h => by have h1 : m.kd = 4:=h.1;omega)];unfold lineT lineW;rw [if_neg (show ¬ m.ev.kd = 4 by show ¬ m.kd = 4;omega),if_pos (show m.ev.kd = 11 from hk),cat_join]
  rfl
 have HSG : Hid (∀ k,k < m.ns → ∀ W,Calls Tryz.prog 71 #[.int .i64 (nth m.sd k)] W fun e w' => e = .returned (.string (S (Lib.itoa (nth m.sd k)))) ∧ Below W.heap.size W w'):=fun k hk W => by
  have hm:=ho.sd _ (nth_mem (by rw [RI.len h.sid];exact hk));exact signed_all _ W hm.1 hm.2
 have HSZ : Hid (∀ k,k < m.ns → (Lib.itoa (nth m.sd k)).length ≤ 21):=fun k hk => itoa_sz (ho.sd _ (nth_mem (by rw [RI.len h.sid];exact hk)))
 have HNS : Hid (m.ns ≤ 1048576):=by
  show _ ≤ _;have:=ho.bulk;omega
 have HLEN:=hide (RI.len h.sid);have HSD:=hide h.sid;have HK:=hide hk;clear h ho hk;go_enter Tryz.func45,Tryz.ntmps45;go_upto_region 1 with fail
 generalize hW1 : World.alloc w _ = W1
 have HB1 : Hid (Below w.heap.size w W1):=by
  show Below _ _ _;rw [← hW1];exact (Below.refl _ _).alloc (Nat.le_refl _) _
 have HX1 : Hid (Blk W1 w.heap.size 33 m.cs):=by
  show Blk _ _ _ _;rw [← hW1];exact Blk.new _ _ _
 clear hW1;have k0:=eb0 HX1.out;rw [HK.out] at k0;have HL0 : Hid (SpLoop m w (.string (S [115,112,108,105,116])) (.int .i64 0) W1):=⟨0,_,Nat.zero_le _,rfl,rfl,rfl,by simp [cat],HX1.out,HB1.out⟩;go_upto_region 14 with fail
 clear k0;go_loopw [5,6] (fun sv i wr => SpLoop m w sv i wr) (fun _ i _ => m.ns - (intOf i).toNat)
 case atStart => exact HL0.out
 case round =>
  clear HL0;unfold SpLoop at hrel;obtain ⟨k,T,hk,rfl,rfl,hT,hl,hx,hb⟩:=hrel;have HT:=hide hT;have HL:=hide hl;have HX:=hide hx;have HB:=hide hb;clear hT hl hx hb;have k0 : (0 : Int) ≤ (k : Int):=by omega
  have k12:=eb12 HX.out
  by_cases hlt : k < m.ns
  ·have kn : (k : Int) < (m.ns : Int):=by omega
   obtain ⟨ad,had,hab,q0⟩:=RI.at_ (Reads.below HSD.out HB.out) hlt;rw [had] at k12;have HS:=hide (HSG.out k hlt);have HZ:=hide (HSZ.out k hlt);obtain ⟨x,hx⟩ : ∃ x,x = nth m.sd k:=⟨_,rfl⟩;rw [← hx] at q0 HS HZ;have HNX:=hide hx;clear hx;obtain ⟨T2,hT2⟩ : ∃ T2,T2 = cc (cc T [32]) (Lib.itoa x):=⟨_,rfl⟩;have HT2:=hide hT2;clear hT2;go_upto_region 16 with fail
   refine wp_region_lit ?_;refine wpList_value rfl (.string (S T)) (by go_simp) ?_;try simp only [Act.put,aSt,aSz,aSs]
   refine wpList_value rfl (.string (S (cc T [32]))) (ex_cat _ _ _ _ rfl (X:=T) (Y:=[32]) rfl rfl (by have:=HL.out;have:=HNS.out;simp only [List.length_cons,List.length_nil];omega)) ?_;try simp only [Act.put,aSt,aSz,aSs]
   refine wpList_value rfl (.pointer (some ⟨w.heap.size,12,none⟩)) (by go_simp) ?_;try simp only [Act.put,aSt,aSz,aSs]
   refine wpList_value rfl (.slice (some ad) m.ns m.cs') (by go_simp) ?_;try simp only [Act.put,aSt,aSz,aSs]
   refine wpList_value rfl (.int .i64 (k : Int)) (by go_simp) ?_;try simp only [Act.put,aSt,aSz,aSs]
   refine wpList_value rfl (.pointer (some (ad.add k))) (by go_simp) ?_;try simp only [Act.put,aSt,aSz,aSs]
   refine wpList_value rfl (.int .i64 x) (by go_simp) ?_;try simp only [Act.put,aSt,aSz,aSs]
   refine wpList_step (fun K hK => ?_);rw [if_pos (by rfl)];go_simp;go_at_call 71;refine (HS.out _).mono ?_;rintro e w2 ⟨rfl,hb2⟩;have HX2:=hide (HX.out.below hb2 HX.out.lt);have HB2:=hide (HB.out.trans (hb2.mono HB.out.size));refine hK _ _ ?_;clear hK K hb2;try simp only [Act.put,aSt,aSz,aSs]
   refine wpList_value rfl (.string (S T2)) (by rw [HT2.out];exact ex_cat _ _ _ _ rfl (X:=cc T [32]) (Y:=Lib.itoa x) rfl rfl (by have:=HL.out;have:=HZ.out;have:=HNS.out;simp only [cc_len,List.length_cons,List.length_nil];omega)) ?_;try simp only [Act.put,aSt,aSz,aSs]
   have HL3 : Hid (SpLoop m w (.string (S T2)) (.int .i64 ((k : Int) + 1)) w2):=by
    refine ⟨k + 1,T2,by omega,by go_num,rfl,?_,?_,HX2.out,HB2.out⟩
    ·rw [take_nth (by rw [HLEN.out];exact hlt),List.map_append,List.map_cons,List.map_nil,cat_snoc,HT2.out,HT.out,HNX.out]
    ·have:=HL.out
     have:=HZ.out;rw [HT2.out];simp only [cc_len,List.length_cons,List.length_nil];omega
   clear k12 q0;have hns5:=HNS.out;go_wp2_with fail;go_roundw
   case rel => first | exact HL3.out | exact ⟨_,_,HL3.out,rfl,rfl⟩
   case measure => simp [intOf];omega
  ·have kn : ¬ (k : Int) < (m.ns : Int):=by omega
   have HKE : Hid (k = m.ns):=by
    show _ = _;omega
   clear hlt hk;go_wp2_with fail;go_ret;refine ⟨?_,HB.out⟩;rw [HR.out,HT.out,HKE.out,List.take_of_length_le (by rw [HLEN.out];exact Nat.le_refl _)]
   rfl
def RwLoop (m : Em) (w : World) (q : Nat) (i : Value) (wr : World) : Prop:=∃ j : Nat,j ≤ 17 ∧ i = .int .i64 j ∧ formL.find? (fun f => f.2.1 == m.kd) = (formL.drop j).find? (fun f => f.2.1 == m.kd) ∧ Blk wr q 137 ruleV ∧ Blk wr w.heap.size 33 m.cs ∧ Below w.heap.size w wr
def PaLoop (m : Em) (w : World) (f : List UInt8 × Int × List Lt) (q : Nat) (sv i : Value) (wr : World) : Prop:=∃ (k : Nat) (T : List UInt8),k ≤ f.2.2.length ∧ i = .int .i64 k ∧ sv = .string (S T) ∧ T = cat f.1 ((f.2.2.take k).map (ltT m.ev)) ∧ T.length ≤ 20 + 4200000 * k ∧ Blk wr q 137 ruleV ∧ Blk wr w.heap.size 33 m.cs ∧ Below w.heap.size w wr
theorem form_sz {f : List UInt8 × Int × List Lt} {j : Nat} (h : formL[j]? = some f) : f.1.length ≤ 20 ∧ f.2.2.length ≤ 3:=by
 have : formL.all (fun f => decide (f.1.length ≤ 20 ∧ f.2.2.length ≤ 3)) = true:=by decide +kernel
 exact of_decide_eq_true (List.all_eq_true.1 this f (List.mem_of_getElem? h))
theorem writ_rule (m : Em) (w : World) (h : EmIn w w.heap.size m) (ho : EvOk m) (hk4 : ¬ m.kd = 4) (hk11 : ¬ m.kd = 11) :
  Calls Tryz.prog 45 #[.agg m.cs] w fun e w' => WriP m w e w':=by
 have HR : Hid (writT m.ev = match formL.find? (fun f => f.2.1 == m.kd) with | some f => cat f.1 (f.2.2.map (ltT m.ev)) | none => []):=by
  show _ = _;unfold writT;rw [if_neg (fun h => hk4 h.1)];unfold lineT lineW;rw [if_neg (show ¬ m.ev.kd = 4 from hk4),if_neg (show ¬ m.ev.kd = 11 from hk11)];show Lib.join (match formL.find? (fun f => f.2.1 == m.kd) with | some f => f.1 :: f.2.2.map (ltT m.ev) | none => []) [32] = _
  cases formL.find? (fun f => f.2.1 == m.kd) with
  | none => rfl
  | some f => exact cat_join _ _
 have HPT : Hid (∀ c W,Below w.heap.size w W → Calls Tryz.prog 74 #[.agg m.cs,.int .u8 ((lrOf c).toNat : Int)] W fun e w' => e = .returned (.string (S (ltT m.ev c))) ∧ Below W.heap.size W w'):=fun c W hb => part_any c m W ((h.below hb).up hb.size) ho
 have HSZ:=hide (lt_sz ho h.nb_len);have e4 : (m.kd == 4) = false:=by simp [hk4]
 have e11 : (m.kd == 11) = false:=by simp [hk11]
 clear h ho;go_enter Tryz.func45,Tryz.ntmps45;go_upto_region 1 with fail
 generalize hW1 : World.alloc w _ = W1
 have HB1 : Hid (Below w.heap.size w W1):=by
  show Below _ _ _;rw [← hW1];exact (Below.refl _ _).alloc (Nat.le_refl _) _
 have HX1 : Hid (Blk W1 w.heap.size 33 m.cs):=by
  show Blk _ _ _ _;rw [← hW1];exact Blk.new _ _ _
 clear hW1;have k0:=eb0 HX1.out;have HRU : Hid (∀ W,Calls Tryz.prog 73 #[] W fun e w' => e = .returned (.slice (some ⟨W.heap.size,0,none⟩) 17 17) ∧ w' = W.alloc (.cells ruleV 137)):=fun W => rules_ref W
 go_upto_region 19 with (go_at_call 73;refine (HRU.out _).mono ?_;rintro e w2 ⟨rfl,hw2⟩;have hb2 : Below W1.heap.size W1 w2:=(by rw [hw2];exact (Below.refl _ _).alloc (Nat.le_refl _) _);have HB2:=hide (HB1.out.trans (hb2.mono HB1.out.size));have HX2 : Hid (Blk w2 w.heap.size 33 m.cs ∧ Blk w2 W1.heap.size 137 ruleV):=(by refine ⟨HX1.out.below hb2 HX1.out.lt,?_⟩;rw [hw2];exact Blk.new _ _ _);clear hw2 hb2)
 clear k0 e4 e11;have HL0 : Hid (RwLoop m w W1.heap.size (.int .i64 0) w2):=⟨0,by omega,rfl,rfl,HX2.out.2,HX2.out.1,HB2.out⟩;go_upto_region 20 with fail
 go_loopw [8] (fun i wr => RwLoop m w W1.heap.size i wr) (fun i _ => 17 - (intOf i).toNat)
 case atStart => exact HL0.out
 case round =>
  clear HL0;unfold RwLoop at hrel;obtain ⟨j,hj,rfl,hfind,hbq,hbx,hlow⟩:=hrel;have HF:=hide hfind;have HQ:=hide (show Blk wr w.heap.size 33 m.cs ∧ Blk wr W1.heap.size 137 ruleV from ⟨hbx,hbq⟩);have HB:=hide hlow;clear hfind hbq hbx hlow;have j0 : (0 : Int) ≤ (j : Int):=by omega
  by_cases hlt : j < 17
  ·have js : (j : Int) < 17:=by omega
   obtain ⟨f,hf⟩ : ∃ f,formL[j]? = some f:=⟨_,List.getElem?_eq_getElem (show j < formL.length from hlt)⟩;have HFA:=hide hf
   have HDR : Hid (formL.drop j = f :: formL.drop (j + 1)):=by
    show _ = _;obtain ⟨h1,h2⟩:=List.getElem?_eq_some_iff.1 hf;rw [List.drop_eq_getElem_cons h1,h2]
   clear hf;obtain ⟨kf,hkf⟩ : ∃ kf,kf = f.2.1:=⟨_,rfl⟩;have HCK : Hid (∀ V,Blk V W1.heap.size 137 ruleV → V.cell? ⟨W1.heap.size,j * 3,none⟩ = some (.int .i64 kf)):=fun V hV => by rw [hkf];exact (form_at HFA.out hV).1
   have HX0 : Hid (Blk wr.drew w.heap.size 33 m.cs ∧ Blk wr.drew W1.heap.size 137 ruleV):=⟨HQ.out.1.drew,HQ.out.2.drew⟩;have HBD : Hid (Below w.heap.size w wr.drew):=HB.out.drew
   by_cases heq : kf = m.kd
   ·have HFF : Hid (formL.find? (fun f => f.2.1 == m.kd) = some f):=by
     show _ = _;rw [HF.out,HDR.out,List.find?_cons];simp [← hkf,heq]
    have HKF:=hide hkf;clear hkf;have hkk : (kf == m.kd) = true:=by simp [heq]
    have HEQ:=hide heq;clear heq;go_upto_region 22 with fail
    refine wp_region_L [] (fun V => Blk V w.heap.size 33 m.cs ∧ Blk V W1.heap.size 137 ruleV) (by kernel_rfl) ?_;refine tk 0 101 (v:=?_) rfl HX0.out ?_ ?_
    rotate_left;· intro V hV;go_simp;try with_reducible rfl
    try simp only [Act.put,aSt,aSz,aSs]
    refine tk 1 102 (v:=?_) rfl HX0.out ?_ ?_
    rotate_left;· intro V hV;go_simp;try with_reducible rfl
    try simp only [Act.put,aSt,aSz,aSs]
    refine tk 2 103 (v:=?_) rfl HX0.out ?_ ?_
    rotate_left;· intro V hV;go_simp;try with_reducible rfl
    try simp only [Act.put,aSt,aSz,aSs]
    refine tk 3 104 (v:=?_) rfl HX0.out ?_ ?_
    rotate_left;· intro V hV;go_simp;try with_reducible rfl
    try simp only [Act.put,aSt,aSz,aSs]
    refine tk 4 105 (v:=?_) rfl HX0.out ?_ ?_
    rotate_left
    ·intro V hV
     have k:=HCK.out V hV.2;go_simp;try with_reducible rfl
    try simp only [Act.put,aSt,aSz,aSs]
    refine tk 5 106 (v:=?_) rfl HX0.out ?_ ?_
    rotate_left;· intro V hV;go_simp;try with_reducible rfl
    try simp only [Act.put,aSt,aSz,aSs]
    refine tk 6 107 (v:=?_) rfl HX0.out ?_ ?_
    rotate_left
    ·intro V hV
     have k:=eb0 hV.1;go_simp;try with_reducible rfl
    try simp only [Act.put,aSt,aSz,aSs]
    refine tk 7 108 (v:=?_) rfl HX0.out ?_ ?_
    rotate_left;· intro V hV;go_simp;try with_reducible rfl
    try simp only [Act.put,aSt,aSz,aSs]
    refine wpL_done (by kernel_rfl) ?_ _;obtain ⟨fl,hfl⟩ : ∃ fl,fl = S (f.2.2.map lrOf):=⟨_,rfl⟩;have HC6 : Hid (∀ V,Blk V W1.heap.size 137 ruleV → V.cell? ⟨W1.heap.size,j * 3 + 2,none⟩ = some (.string fl)):=fun V hV => by rw [hfl];exact (form_at HFA.out hV).2.2
    have HC7 : Hid (∀ V,Blk V W1.heap.size 137 ruleV → V.cell? ⟨W1.heap.size,j * 3 + 1,none⟩ = some (.string (S f.1))):=fun V hV => (form_at HFA.out hV).2.1
    have HFL:=hide hfl;have HFS : Hid (fl.size = f.2.2.length):=by show _ = _;rw [hfl,S_size,List.length_map]
    clear hfl;have HPL0 : Hid (PaLoop m w f W1.heap.size (.string (S f.1)) (.int .i64 0) wr.drew):=⟨0,f.1,Nat.zero_le _,rfl,rfl,by simp [cat],by have:=(form_sz HFA.out).1;omega,HX0.out.2,HX0.out.1,HBD.out⟩;have k7:=HC7.out _ HX0.out.2;obtain ⟨wz,hwz⟩ : ∃ wz,wz = wr.drew:=⟨_,rfl⟩;rw [← hwz] at HPL0 k7 ⊢;clear hwz HX0 HBD HQ HB;go_upto_region 25 with fail
    clear k7;go_loopw [9,10] (fun sv i wr => PaLoop m w f W1.heap.size sv i wr) (fun _ i _ => f.2.2.length - (intOf i).toNat)
    case atStart => exact HPL0.out
    case round =>
     clear HPL0;unfold PaLoop at hrel;obtain ⟨k,T,hk,rfl,rfl,hT,hl,hbq,hbx,hlow⟩:=hrel;have HT:=hide hT;have HL:=hide hl;have HKL:=hide hk;have HQ:=hide (show Blk wr w.heap.size 33 m.cs ∧ Blk wr W1.heap.size 137 ruleV from ⟨hbx,hbq⟩);have HB:=hide hlow;clear hT hl hbq hbx hlow hk;have k0 : (0 : Int) ≤ (k : Int):=by omega
     have k6:=HC6.out _ HQ.out.2
     by_cases hkl : k < f.2.2.length
     ·obtain ⟨lk,hlk⟩ : ∃ lk,f.2.2[k]? = some lk:=⟨_,List.getElem?_eq_getElem hkl⟩
      have hfz : k < fl.size:=by rw [HFS.out];exact hkl
      obtain ⟨lb,hlb⟩ : ∃ lb,lb = fl[k]:=⟨_,rfl⟩;have hlbc:=hlb.symm
      have HLB : Hid (lb = lrOf lk):=by
       show _ = _;rw [hlb];have h1 : fl.data.toList[k]? = some (lrOf lk):=by rw [HFL.out,S_data,List.getElem?_map,hlk];rfl
       obtain ⟨h2,h3⟩:=List.getElem?_eq_some_iff.1 h1;rw [← h3]
       rfl
      clear hlb;have ks2 : (k : Int) < (fl.size : Int):=by omega
      have HLK:=hide hlk;have HKF2:=hide hkl;have HLZ : Hid ((ltT m.ev lk).length ≤ 4194400):=HSZ.out lk
      have HK3 : Hid (k ≤ 3):=by
       show _ ≤ _;have:=(form_sz HFA.out).2;omega
      obtain ⟨P,hP⟩ : ∃ P,P = ltT m.ev lk:=⟨_,rfl⟩
      have HPP : Hid (∀ W,Below w.heap.size w W → Calls Tryz.prog 74 #[.agg m.cs,.int .u8 (lb.toNat : Int)] W fun e w' => e = .returned (.string (S P)) ∧ Below W.heap.size W w'):=fun W hW => by
       rw [HLB.out,hP];exact HPT.out lk W hW
      rw [← hP] at HLZ;have HP:=hide hP;clear hP hlk hkl;have HX0 : Hid (Blk wr.drew w.heap.size 33 m.cs ∧ Blk wr.drew W1.heap.size 137 ruleV):=⟨HQ.out.1.drew,HQ.out.2.drew⟩;obtain ⟨T2,hT2⟩ : ∃ T2,T2 = cc (cc T [32]) P:=⟨_,rfl⟩;have HT2:=hide hT2;clear hT2;go_upto_region 27 with fail
      clear k6;refine wp_region_L [] (fun V => Blk V w.heap.size 33 m.cs ∧ Blk V W1.heap.size 137 ruleV) (by kernel_rfl) ?_;obtain ⟨W4,hW4⟩ : ∃ W4,W4 = wr.drew:=⟨_,rfl⟩;have HB4 : Hid (Below w.heap.size w W4):=by show Below _ _ _;rw [hW4];exact HB.out.drew
      rw [← hW4] at HX0 ⊢;clear hW4;refine tk 0 124 (v:=?_) rfl HX0.out ?_ ?_
      rotate_left;· intro V hV;go_simp;try with_reducible rfl
      try simp only [Act.put,aSt,aSz,aSs]
      refine tk 1 125 (v:=.string (S (cc T [32]))) rfl HX0.out ?_ ?_
      ·intro V hV;exact ex_cat _ _ _ _ rfl (X:=T) (Y:=[32]) rfl rfl (by have:=HL.out;have:=HK3.out;simp only [List.length_cons,List.length_nil];omega)
      try simp only [Act.put,aSt,aSz,aSs]
      refine tk 2 126 (v:=.agg m.cs) rfl HX0.out ?_ ?_
      ·intro V hV;exact ex_load 33 (.tmp 1) rfl _ rfl m.cs _ Tryz.underlying33 rfl (ld29 _ (em_size _)) (ebox_all hV.1)
      try simp only [Act.put,aSt,aSz,aSs]
      refine tk 3 127 (v:=?_) rfl HX0.out ?_ ?_
      rotate_left;· intro V hV;go_simp;try with_reducible rfl
      try simp only [Act.put,aSt,aSz,aSs]
      refine tk 4 128 (v:=?_) rfl HX0.out ?_ ?_
      rotate_left;· intro V hV;go_simp;try with_reducible rfl
      try simp only [Act.put,aSt,aSz,aSs]
      refine tk 5 129 (v:=?_) rfl HX0.out ?_ ?_
      rotate_left;· intro V hV;go_simp;try with_reducible rfl
      try simp only [Act.put,aSt,aSz,aSs]
      refine tk 6 130 (v:=?_) rfl HX0.out ?_ ?_
      rotate_left;· intro V hV;go_simp;try with_reducible rfl
      try simp only [Act.put,aSt,aSz,aSs]
      refine tk 7 131 (v:=?_) rfl HX0.out ?_ ?_
      rotate_left
      ·intro V hV
       have k:=HC6.out V hV.2;go_simp;try with_reducible rfl
      try simp only [Act.put,aSt,aSz,aSs]
      refine tk 8 132 (v:=?_) rfl HX0.out ?_ ?_
      rotate_left;· intro V hV;go_simp;try with_reducible rfl
      try simp only [Act.put,aSt,aSz,aSs]
      refine tk 9 133 (v:=?_) rfl HX0.out ?_ ?_
      rotate_left;· intro V hV;go_simp;try with_reducible rfl
      try simp only [Act.put,aSt,aSz,aSs]
      refine wpL_one 10 (by kernel_rfl) rfl (fun K hK => ?_);rw [if_pos (by rfl)];go_simp;go_at_call 74;refine (HPP.out _ HB4.out).mono ?_;rintro e w5 ⟨rfl,hb5⟩;have HX5 : Hid (Blk w5 w.heap.size 33 m.cs ∧ Blk w5 W1.heap.size 137 ruleV):=⟨HX0.out.1.below hb5 HX0.out.1.lt,HX0.out.2.below hb5 HX0.out.2.lt⟩;have HB5:=hide (HB4.out.trans (hb5.mono HB4.out.size));refine hK _ _ (fun _ => HX5.out) ?_;clear hK K hb5;try simp only [Act.put,aSt,aSz,aSs]
      refine tk 11 135 (v:=.string (S T2)) rfl HX5.out ?_ ?_
      ·intro V hV
       rw [HT2.out];exact ex_cat _ _ _ _ rfl (X:=cc T [32]) (Y:=P) rfl rfl (by have:=HL.out;have:=HK3.out;have:=HLZ.out;simp only [cc_len,List.length_cons,List.length_nil];omega)
      try simp only [Act.put,aSt,aSz,aSs]
      refine tk 12 9 (v:=?_) rfl HX5.out ?_ ?_
      rotate_left;· intro V hV;go_simp;try with_reducible rfl
      try simp only [Act.put,aSt,aSz,aSs]
      refine wpL_done (by kernel_rfl) ?_ _
      have HL5 : Hid (PaLoop m w f W1.heap.size (.string (S T2)) (.int .i64 ((k : Int) + 1)) w5):=by
       refine ⟨k + 1,T2,HKF2.out,by go_num,rfl,?_,?_,HX5.out.2,HX5.out.1,HB5.out⟩
       ·obtain ⟨h1,h2⟩:=List.getElem?_eq_some_iff.1 HLK.out
        rw [List.take_succ_eq_append_getElem h1,h2,List.map_append,List.map_cons,List.map_nil,cat_snoc,HT2.out,HT.out,HP.out]
       ·have:=HL.out
        have:=HLZ.out;rw [HT2.out];simp only [cc_len,List.length_cons,List.length_nil];omega
      have hk3:=HK3.out;clear hlbc ks2;go_wp2_with fail;go_roundw
      case rel => first | exact HL5.out | exact ⟨_,_,HL5.out,rfl,rfl⟩
      case measure =>
       have:=HKF2.out;simp [intOf];omega
     ·have ks2 : ¬ (k : Int) < (fl.size : Int):=by rw [HFS.out];omega
      have HKE : Hid (k = f.2.2.length):=by
       have:=HKL.out;show _ = _;omega
      clear hkl;go_wp2_with fail;go_ret;refine ⟨?_,HB.out⟩;rw [HR.out,HFF.out,HT.out,HKE.out,List.take_length]
      rfl
   ·have HFF : Hid (formL.find? (fun f => f.2.1 == m.kd) = (formL.drop (j + 1)).find? (fun f => f.2.1 == m.kd)):=by
     show _ = _;have hb : (kf == m.kd) = false:=by simp [heq]
     rw [HF.out,HDR.out,List.find?_cons,← hkf,hb]
    clear hkf;have hkk : (kf == m.kd) = false:=by simp [heq]
    clear heq;go_upto_region 22 with fail
    refine wp_region_L [] (fun V => Blk V w.heap.size 33 m.cs ∧ Blk V W1.heap.size 137 ruleV) (by kernel_rfl) ?_;refine tk 0 101 (v:=?_) rfl HX0.out ?_ ?_
    rotate_left;· intro V hV;go_simp;try with_reducible rfl
    try simp only [Act.put,aSt,aSz,aSs]
    refine tk 1 102 (v:=?_) rfl HX0.out ?_ ?_
    rotate_left;· intro V hV;go_simp;try with_reducible rfl
    try simp only [Act.put,aSt,aSz,aSs]
    refine tk 2 103 (v:=?_) rfl HX0.out ?_ ?_
    rotate_left;· intro V hV;go_simp;try with_reducible rfl
    try simp only [Act.put,aSt,aSz,aSs]
    refine tk 3 104 (v:=?_) rfl HX0.out ?_ ?_
    rotate_left;· intro V hV;go_simp;try with_reducible rfl
    try simp only [Act.put,aSt,aSz,aSs]
    refine tk 4 105 (v:=?_) rfl HX0.out ?_ ?_
    rotate_left
    ·intro V hV
     have k:=HCK.out V hV.2;go_simp;try with_reducible rfl
    try simp only [Act.put,aSt,aSz,aSs]
    refine tk 5 106 (v:=?_) rfl HX0.out ?_ ?_
    rotate_left;· intro V hV;go_simp;try with_reducible rfl
    try simp only [Act.put,aSt,aSz,aSs]
    refine tk 6 107 (v:=?_) rfl HX0.out ?_ ?_
    rotate_left
    ·intro V hV
     have k:=eb0 hV.1;go_simp;try with_reducible rfl
    try simp only [Act.put,aSt,aSz,aSs]
    refine tk 7 108 (v:=?_) rfl HX0.out ?_ ?_
    rotate_left;· intro V hV;go_simp;try with_reducible rfl
    try simp only [Act.put,aSt,aSz,aSs]
    refine wpL_done (by kernel_rfl) ?_ _;have HL5 : Hid (RwLoop m w W1.heap.size (.int .i64 ((j : Int) + 1)) wr.drew):=⟨j + 1,by omega,by go_num,HFF.out,HX0.out.2,HX0.out.1,HBD.out⟩;go_wp2_with fail;go_roundw
    case rel => first | exact HL5.out | exact ⟨_,HL5.out,rfl⟩
    case measure => simp [intOf];omega
  ·have js : ¬ (j : Int) < 17:=by omega
   have HN : Hid (formL.find? (fun f => f.2.1 == m.kd) = none):=by
    show _ = _;have : formL.drop j = []:=List.drop_eq_nil_of_le (by show 17 ≤ j;omega);rw [HF.out,this]
    rfl
   clear hlt;go_wp2_with fail;go_ret;refine ⟨?_,HB.out⟩;rw [HR.out,HN.out]
   rfl
theorem written_any (m : Em) (w : World) (h : EmIn w w.heap.size m) (ho : EvOk m) :
  Calls Tryz.prog 45 #[.agg m.cs] w fun e w' => WriP m w e w':=by
 by_cases h4 : m.kd = 4
 ·by_cases h1 : 1 ≤ m.op ∧ m.op ≤ 9
  ·exact writ_do m w h ho h4 m.op.toNat (by omega) (by omega) (by omega)
  ·exact writ_bad m w h ho h4 (by omega)
 ·by_cases h11 : m.kd = 11
  ·exact writ_split m w h ho h11
  ·exact writ_rule m w h ho h4 h11
end Go.Proofs.YtcibcmfaebbhnaaGreatDoor
