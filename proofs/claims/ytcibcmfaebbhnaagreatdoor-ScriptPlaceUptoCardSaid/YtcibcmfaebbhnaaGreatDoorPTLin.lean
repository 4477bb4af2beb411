/-
  The reference's Line, for a mark that can be written. (Printed by wip/tools/mkline.py.)
-/
import Derived.Test.YtcibcmfaebbhnaaGreatDoorPTBox
import Derived.Test.YtcibcmfaebbhnaaGreatDoorPWords
set_option linter.unusedSimpArgs false
set_option linter.unusedVariables false
set_option maxRecDepth 100000
set_option maxHeartbeats 4000000

namespace Go.Proofs.YtcibcmfaebbhnaaGreatDoor.Tr
open Go.RowKit Go.WideShapes Go.ChangeShapes Q
structure KX (m : Mk) (w V : World) : Prop where
 bx : BX m w V
 kin : Blk V (w.heap.size + 1) 9 kindV
theorem KX.step {m : Mk} {w V V' : World} (h : KX m w V) (hb : Below V.heap.size V V') : KX m w V':=⟨h.bx.step hb,h.kin.below hb h.kin.lt⟩
theorem KX.drew {m : Mk} {w V : World} (h : KX m w V) : KX m w V.drew:=⟨h.bx.drew,h.kin.drew⟩
structure CX (m : Mk) (w V : World) (q : Nat) : Prop where
 bx : BX m w V
 cmd : Blk V q 31 (cmdCs m)
theorem CX.step {m : Mk} {w V V' : World} {q : Nat} (h : CX m w V q) (hb : Below V.heap.size V V') : CX m w V' q:=⟨h.bx.step hb,h.cmd.below hb h.cmd.lt⟩
theorem CX.drew {m : Mk} {w V : World} {q : Nat} (h : CX m w V q) : CX m w V.drew q:=⟨h.bx.drew,h.cmd.drew⟩
theorem CX.alloc {m : Mk} {w V : World} {q : Nat} (h : CX m w V q) (o : Obj) : CX m w (V.alloc o) q:=⟨h.bx.alloc o,h.cmd.alloc o⟩
theorem line_any (m : Mk) (w : World) (hm : MkIn w w.heap.size m) (hw : wrB m = true) (hz : MkZ m) :
  Calls Tryz.prog 44 #[m.v] w fun e w' => e = .returned (.string (S (lineL m))) ∧ Below w.heap.size w w':=by
 have C:=cnts hw;have HC:=hide C;have HM:=hide hm;have HW:=hide hw;have HZ:=hide hz;have HN : Hid (∀ x ∈ m.ns,Ct x):=fun x hx => C.ct hx
 obtain ⟨k,hk⟩ : ∃ k : Nat,m.kd = k:=⟨m.kd.toNat,by have:=C.kd;omega⟩;have hk16 : k < 17:=by have:=C.kd;omega
 have hkz : (0 : Int) ≤ (k : Int):=by omega
 have hkn : (k : Int) < 17:=by omega
 have HK:=hide hk;obtain ⟨KD,hKD⟩ : ∃ KD,KD = kindOf m:=⟨_,rfl⟩;have HKD:=hide hKD
 have HKV : Hid (kindV[k]? = some (.string (S KD))):=by
  show _ = _;rw [kindV_at hk16,hKD,kindOf,hk,Int.toNat_natCast]
 have HLN : Hid ((Lib.itoa m.aT).length ≤ 21 ∧ KD.length ≤ 7 ∧ (Lib.itoa m.nd).length ≤ 21 ∧ (Lib.itoa m.ic).length ≤ 21 ∧ (listsL m).length ≤ 98000000 ∧ (numL [115,101,110,100,101,114] m.se).length ≤ 29 ∧ (numL [115,101,113] m.sq).length ≤ 29 ∧ (numL [112,111,115] m.po).length ≤ 29 ∧ (numL [110] m.n).length ≤ 29) :=
  ⟨itoa_ct (C.ct (by simp [Mk.ns])),by rw [hKD];exact kindL_len _,itoa_ct (C.ct (by simp [Mk.ns])),itoa_ct (C.ct (by simp [Mk.ns])),lists_len C hz hm.mem.len (RI.len hm.tr),Nat.le_trans (num_len _ (C.ct (by simp [Mk.ns]))) (by simp),Nat.le_trans (num_len _ (C.ct (by simp [Mk.ns]))) (by simp),Nat.le_trans (num_len _ (C.ct (by simp [Mk.ns]))) (by simp),Nat.le_trans (num_len _ (C.ct (by simp [Mk.ns]))) (by simp)⟩
 have HB0 : Hid (BX m w (w.alloc (.cells m.cs 51))):=BX.new m w;clear hm hw hz C hk hKD;show Calls Tryz.prog 44 #[.agg m.cs] w _;go_enter Tryz.func44,Tryz.ntmps44;go_upto_region 2 with (go_at_call 66;refine (words_any _).mono ?_;rintro e w1 ⟨rfl,hw1⟩;have HS1 : Hid (KX m w w1):=(by subst hw1;exact ⟨HB0.out.alloc _,blk_new _ _ _ _ (by simp)⟩);clear hw1)
 have HSa:=hide HS1.out.drew;refine wp_region_L [] (KX m w) (by kernel_rfl) ?_;refine tk 0 9 (v:=?_) rfl HSa.out ?_ ?_
 rotate_left;· intro V hV;go_simp;try with_reducible rfl
 try simp only [Act.put,aSt,aSz,aSs]
 refine tk 1 10 (v:=?_) rfl HSa.out ?_ ?_
 rotate_left
 ·intro V hV
  have k0:=mb0 hV.bx.box;go_simp;try with_reducible rfl
 try simp only [Act.put,aSt,aSz,aSs]
 refine tk 4 13 (v:=?_) rfl HSa.out ?_ ?_
 rotate_left;· intro V hV;go_simp;try with_reducible rfl
 try simp only [Act.put,aSt,aSz,aSs]
 refine tk 5 14 (v:=?_) rfl HSa.out ?_ ?_
 rotate_left;· intro V hV;go_simp;try with_reducible rfl
 try simp only [Act.put,aSt,aSz,aSs]
 refine tk 6 15 (v:=?_) rfl HSa.out ?_ ?_
 rotate_left
 ·intro V hV
  have k1:=mb1 hV.bx.box;rw [HK.out] at k1;go_simp;try with_reducible rfl
 try simp only [Act.put,aSt,aSz,aSs]
 refine tk 7 16 (v:=?_) rfl HSa.out ?_ ?_
 rotate_left;· intro V hV;go_simp;try with_reducible rfl
 try simp only [Act.put,aSt,aSz,aSs]
 refine tk 8 17 (v:=?_) rfl HSa.out ?_ ?_
 rotate_left
 ·intro V hV
  have k1:=(hV.kin.cell k).trans HKV.out;go_simp;try with_reducible rfl
 try simp only [Act.put,aSt,aSz,aSs]
 refine tk 11 20 (v:=?_) rfl HSa.out ?_ ?_
 rotate_left;· intro V hV;go_simp;try with_reducible rfl
 try simp only [Act.put,aSt,aSz,aSs]
 refine tk 12 21 (v:=?_) rfl HSa.out ?_ ?_
 rotate_left
 ·intro V hV
  have k2:=mb2 hV.bx.box;go_simp;try with_reducible rfl
 try simp only [Act.put,aSt,aSz,aSs]
 refine tk 16 25 (v:=?_) rfl HSa.out ?_ ?_
 rotate_left;· intro V hV;go_simp;try with_reducible rfl
 try simp only [Act.put,aSt,aSz,aSs]
 refine tk 17 26 (v:=?_) rfl HSa.out ?_ ?_
 rotate_left
 ·intro V hV
  have k3:=mb3 hV.bx.box;go_simp;try with_reducible rfl
 try simp only [Act.put,aSt,aSz,aSs]
 refine tk 20 29 (v:=.agg m.cs) rfl HSa.out ?_ ?_
 ·intro V hV;exact ex_load 51 (.tmp 1) rfl _ rfl m.cs _ Tryz.underlying51 rfl (ld48 _ rfl) (box_all hV.bx.box)
 try simp only [Act.put,aSt,aSz,aSs]
 refine wpL_one 2 (by kernel_rfl) rfl (fun K hK => ?_);rw [if_pos (by rfl)];go_simp;go_at_call 42;refine (digI (HN.out m.aT (by simp [Mk.ns])) _).mono ?_;rintro e wa ⟨rfl,hb⟩;have HSwa:=hide (HSa.out.step hb);clear hb;refine hK _ _ (fun _ => HSwa.out) ?_;clear hK K;try simp only [Act.put,aSt,aSz,aSs]
 refine tk 3 12 (v:=.string (S (cc (Lib.itoa m.aT) ([32])))) rfl HSwa.out ?_ ?_
 ·intro V hV;exact ex_cat (.tmp 11) (.const (.string { data:=#[32] })) 9 9 rfl rfl rfl (by obtain ⟨l1,l2,l3,l4,l5,l6,l7,l8,l9⟩:=HLN.out;(try simp only [cc_len,List.length_append,List.length_cons,List.length_nil]);omega)
 try simp only [Act.put,aSt,aSz,aSs]
 refine tk 9 18 (v:=.string (S (cc (cc (Lib.itoa m.aT) ([32])) (KD)))) rfl HSwa.out ?_ ?_
 ·intro V hV;exact ex_cat (.tmp 12) (.tmp 17) 9 9 rfl rfl rfl (by obtain ⟨l1,l2,l3,l4,l5,l6,l7,l8,l9⟩:=HLN.out;(try simp only [cc_len,List.length_append,List.length_cons,List.length_nil]);omega)
 try simp only [Act.put,aSt,aSz,aSs]
 refine tk 10 19 (v:=.string (S (cc (cc (cc (Lib.itoa m.aT) ([32])) (KD)) ([32])))) rfl HSwa.out ?_ ?_
 ·intro V hV;exact ex_cat (.tmp 18) (.const (.string { data:=#[32] })) 9 9 rfl rfl rfl (by obtain ⟨l1,l2,l3,l4,l5,l6,l7,l8,l9⟩:=HLN.out;(try simp only [cc_len,List.length_append,List.length_cons,List.length_nil]);omega)
 try simp only [Act.put,aSt,aSz,aSs]
 refine wpL_one 13 (by kernel_rfl) rfl (fun K hK => ?_);rw [if_pos (by rfl)];go_simp;go_at_call 42;refine (digI (HN.out m.nd (by simp [Mk.ns])) _).mono ?_;rintro e wb ⟨rfl,hb⟩;have HSwb:=hide (HSwa.out.step hb);clear hb;refine hK _ _ (fun _ => HSwb.out) ?_;clear hK K;try simp only [Act.put,aSt,aSz,aSs]
 refine tk 14 23 (v:=.string (S (cc (cc (cc (cc (Lib.itoa m.aT) ([32])) (KD)) ([32])) (Lib.itoa m.nd)))) rfl HSwb.out ?_ ?_
 ·intro V hV;exact ex_cat (.tmp 19) (.tmp 22) 9 9 rfl rfl rfl (by obtain ⟨l1,l2,l3,l4,l5,l6,l7,l8,l9⟩:=HLN.out;(try simp only [cc_len,List.length_append,List.length_cons,List.length_nil]);omega)
 try simp only [Act.put,aSt,aSz,aSs]
 refine tk 15 24 (v:=.string (S (cc (cc (cc (cc (cc (Lib.itoa m.aT) ([32])) (KD)) ([32])) (Lib.itoa m.nd)) ([32])))) rfl HSwb.out ?_ ?_
 ·intro V hV;exact ex_cat (.tmp 23) (.const (.string { data:=#[32] })) 9 9 rfl rfl rfl (by obtain ⟨l1,l2,l3,l4,l5,l6,l7,l8,l9⟩:=HLN.out;(try simp only [cc_len,List.length_append,List.length_cons,List.length_nil]);omega)
 try simp only [Act.put,aSt,aSz,aSs]
 refine wpL_one 18 (by kernel_rfl) rfl (fun K hK => ?_);rw [if_pos (by rfl)];go_simp;go_at_call 42;refine (digI (HN.out m.ic (by simp [Mk.ns])) _).mono ?_;rintro e wc ⟨rfl,hb⟩;have HSwc:=hide (HSwb.out.step hb);clear hb;refine hK _ _ (fun _ => HSwc.out) ?_;clear hK K;try simp only [Act.put,aSt,aSz,aSs]
 refine tk 19 28 (v:=.string (S (cc (cc (cc (cc (cc (cc (Lib.itoa m.aT) ([32])) (KD)) ([32])) (Lib.itoa m.nd)) ([32])) (Lib.itoa m.ic)))) rfl HSwc.out ?_ ?_
 ·intro V hV;exact ex_cat (.tmp 24) (.tmp 27) 9 9 rfl rfl rfl (by obtain ⟨l1,l2,l3,l4,l5,l6,l7,l8,l9⟩:=HLN.out;(try simp only [cc_len,List.length_append,List.length_cons,List.length_nil]);omega)
 try simp only [Act.put,aSt,aSz,aSs]
 refine wpL_one 21 (by kernel_rfl) rfl (fun K hK => ?_);rw [if_pos (by rfl)];go_simp;go_at_call 67;refine (listsI (HSwc.out.bx.inn HM.out) HW.out).mono ?_;rintro e wd ⟨rfl,hb⟩;have HSwd:=hide (HSwc.out.step hb);clear hb;refine hK _ _ (fun _ => HSwd.out) ?_;clear hK K;try simp only [Act.put,aSt,aSz,aSs]
 refine tk 22 31 (v:=.string (S (cc (cc (cc (cc (cc (cc (cc (Lib.itoa m.aT) ([32])) (KD)) ([32])) (Lib.itoa m.nd)) ([32])) (Lib.itoa m.ic)) (listsL m)))) rfl HSwd.out ?_ ?_
 ·intro V hV;exact ex_cat (.tmp 28) (.tmp 30) 9 9 rfl rfl rfl (by obtain ⟨l1,l2,l3,l4,l5,l6,l7,l8,l9⟩:=HLN.out;(try simp only [cc_len,List.length_append,List.length_cons,List.length_nil]);omega)
 try simp only [Act.put,aSt,aSz,aSs]
 refine tk 23 4 (v:=?_) rfl HSwd.out ?_ ?_
 rotate_left;· intro V hV;go_simp;try with_reducible rfl
 try simp only [Act.put,aSt,aSz,aSs]
 refine wpL_done (by kernel_rfl) ?_ _;have HBd:=hide HSwd.out.bx;clear HSa HS1 HSwa HSwb HSwc HSwd;obtain ⟨L,hL⟩ : ∃ L,L = cc (cc (cc (cc (cc (cc (cc (Lib.itoa m.aT) ([32])) (KD)) ([32])) (Lib.itoa m.nd)) ([32])) (Lib.itoa m.ic)) (listsL m):=⟨_,rfl⟩;have HL:=hide hL
 have HLl : Hid (L.length ≤ 98000100):=by
  show _ ≤ _;obtain ⟨l1,l2,l3,l4,l5,l6,l7,l8,l9⟩:=HLN.out;rw [hL];simp only [cc_len,List.length_append,List.length_cons,List.length_nil];omega
 rw [← hL];clear hL;go_upto_region 3 with fail
 have HSb:=hide HBd.out.drew;refine wp_region_L [] (BX m w) (by kernel_rfl) ?_;refine tk 0 32 (v:=?_) rfl HSb.out ?_ ?_
 rotate_left;· intro V hV;go_simp;try with_reducible rfl
 try simp only [Act.put,aSt,aSz,aSs]
 refine tk 1 33 (v:=?_) rfl HSb.out ?_ ?_
 rotate_left;· intro V hV;go_simp;try with_reducible rfl
 try simp only [Act.put,aSt,aSz,aSs]
 refine tk 2 34 (v:=?_) rfl HSb.out ?_ ?_
 rotate_left
 ·intro V hV
  have k10:=mb10 hV.box;go_simp;try with_reducible rfl
 try simp only [Act.put,aSt,aSz,aSs]
 refine tk 5 37 (v:=?_) rfl HSb.out ?_ ?_
 rotate_left;· intro V hV;go_simp;try with_reducible rfl
 try simp only [Act.put,aSt,aSz,aSs]
 refine tk 6 38 (v:=?_) rfl HSb.out ?_ ?_
 rotate_left
 ·intro V hV
  have k11:=mb11 hV.box;go_simp;try with_reducible rfl
 try simp only [Act.put,aSt,aSz,aSs]
 refine tk 9 41 (v:=?_) rfl HSb.out ?_ ?_
 rotate_left;· intro V hV;go_simp;try with_reducible rfl
 try simp only [Act.put,aSt,aSz,aSs]
 refine tk 10 42 (v:=?_) rfl HSb.out ?_ ?_
 rotate_left
 ·intro V hV
  have k12:=mb12 hV.box;go_simp;try with_reducible rfl
 try simp only [Act.put,aSt,aSz,aSs]
 refine tk 13 45 (v:=?_) rfl HSb.out ?_ ?_
 rotate_left;· intro V hV;go_simp;try with_reducible rfl
 try simp only [Act.put,aSt,aSz,aSs]
 refine tk 14 46 (v:=?_) rfl HSb.out ?_ ?_
 rotate_left
 ·intro V hV
  have k13:=mb13 hV.box;go_simp;try with_reducible rfl
 try simp only [Act.put,aSt,aSz,aSs]
 refine wpL_one 3 (by kernel_rfl) rfl (fun K hK => ?_);rw [if_pos (by rfl)];go_simp;go_at_call 68;refine (plainI [115,101,110,100,101,114] (HN.out m.se (by simp [Mk.ns])) _ (by decide)).mono ?_;rintro e wn0 ⟨rfl,hb⟩;have HSwn0:=hide (HSb.out.step hb);clear hb;refine hK _ _ (fun _ => HSwn0.out) ?_;clear hK K;try simp only [Act.put,aSt,aSz,aSs]
 refine tk 4 36 (v:=.string (S (cc (L) (numL [115,101,110,100,101,114] m.se)))) rfl HSwn0.out ?_ ?_
 ·intro V hV;exact ex_cat (.tmp 32) (.tmp 35) 9 9 rfl rfl rfl (by obtain ⟨l1,l2,l3,l4,l5,l6,l7,l8,l9⟩:=HLN.out;have l0:=HLl.out;(try simp only [cc_len,List.length_append,List.length_cons,List.length_nil]);omega)
 try simp only [Act.put,aSt,aSz,aSs]
 refine wpL_one 7 (by kernel_rfl) rfl (fun K hK => ?_);rw [if_pos (by rfl)];go_simp;go_at_call 68;refine (plainI [115,101,113] (HN.out m.sq (by simp [Mk.ns])) _ (by decide)).mono ?_;rintro e wn1 ⟨rfl,hb⟩;have HSwn1:=hide (HSwn0.out.step hb);clear hb;refine hK _ _ (fun _ => HSwn1.out) ?_;clear hK K;try simp only [Act.put,aSt,aSz,aSs]
 refine tk 8 40 (v:=.string (S (cc (cc (L) (numL [115,101,110,100,101,114] m.se)) (numL [115,101,113] m.sq)))) rfl HSwn1.out ?_ ?_
 ·intro V hV;exact ex_cat (.tmp 36) (.tmp 39) 9 9 rfl rfl rfl (by obtain ⟨l1,l2,l3,l4,l5,l6,l7,l8,l9⟩:=HLN.out;have l0:=HLl.out;(try simp only [cc_len,List.length_append,List.length_cons,List.length_nil]);omega)
 try simp only [Act.put,aSt,aSz,aSs]
 refine wpL_one 11 (by kernel_rfl) rfl (fun K hK => ?_);rw [if_pos (by rfl)];go_simp;go_at_call 68;refine (plainI [112,111,115] (HN.out m.po (by simp [Mk.ns])) _ (by decide)).mono ?_;rintro e wn2 ⟨rfl,hb⟩;have HSwn2:=hide (HSwn1.out.step hb);clear hb;refine hK _ _ (fun _ => HSwn2.out) ?_;clear hK K;try simp only [Act.put,aSt,aSz,aSs]
 refine tk 12 44 (v:=.string (S (cc (cc (cc (L) (numL [115,101,110,100,101,114] m.se)) (numL [115,101,113] m.sq)) (numL [112,111,115] m.po)))) rfl HSwn2.out ?_ ?_
 ·intro V hV;exact ex_cat (.tmp 40) (.tmp 43) 9 9 rfl rfl rfl (by obtain ⟨l1,l2,l3,l4,l5,l6,l7,l8,l9⟩:=HLN.out;have l0:=HLl.out;(try simp only [cc_len,List.length_append,List.length_cons,List.length_nil]);omega)
 try simp only [Act.put,aSt,aSz,aSs]
 refine wpL_one 15 (by kernel_rfl) rfl (fun K hK => ?_);rw [if_pos (by rfl)];go_simp;go_at_call 68;refine (plainI [110] (HN.out m.n (by simp [Mk.ns])) _ (by decide)).mono ?_;rintro e wn3 ⟨rfl,hb⟩;have HSwn3:=hide (HSwn2.out.step hb);clear hb;refine hK _ _ (fun _ => HSwn3.out) ?_;clear hK K;try simp only [Act.put,aSt,aSz,aSs]
 refine tk 16 48 (v:=.string (S (cc (cc (cc (cc (L) (numL [115,101,110,100,101,114] m.se)) (numL [115,101,113] m.sq)) (numL [112,111,115] m.po)) (numL [110] m.n)))) rfl HSwn3.out ?_ ?_
 ·intro V hV;exact ex_cat (.tmp 44) (.tmp 47) 9 9 rfl rfl rfl (by obtain ⟨l1,l2,l3,l4,l5,l6,l7,l8,l9⟩:=HLN.out;have l0:=HLl.out;(try simp only [cc_len,List.length_append,List.length_cons,List.length_nil]);omega)
 try simp only [Act.put,aSt,aSz,aSs]
 refine tk 17 4 (v:=?_) rfl HSwn3.out ?_ ?_
 rotate_left;· intro V hV;go_simp;try with_reducible rfl
 try simp only [Act.put,aSt,aSz,aSs]
 refine wpL_done (by kernel_rfl) ?_ _;obtain ⟨L2,hL2⟩ : ∃ L2,L2 = cc (cc (cc (cc (L) (numL [115,101,110,100,101,114] m.se)) (numL [115,101,113] m.sq)) (numL [112,111,115] m.po)) (numL [110] m.n):=⟨_,rfl⟩
 have HL2 : Hid (L2 = headL m ++ listsL m ++ numsL m):=by
  show _ = _;rw [hL2,HL.out];unfold headL numsL cc;rw [HKD.out];simp only [List.append_assoc]
 have HLl2 : Hid (L2.length ≤ 98000300):=by
  show _ ≤ _;obtain ⟨l1,l2,l3,l4,l5,l6,l7,l8,l9⟩:=HLN.out;have l0:=HLl.out;rw [hL2];simp only [cc_len,List.length_append,List.length_cons,List.length_nil];omega
 rw [← hL2];have HBe:=hide HSwn3.out;clear hL2 HSwn0 HSwn1 HSwn2 HSwn3 HSb HBd;obtain ⟨L3,hL3⟩ : ∃ L3,L3 = L2 ++ partL (bodyB m) [98,111,100,121] (quoteL m.bd):=⟨_,rfl⟩;have HL3:=hide hL3;have hb3 : m.bd.length = m.nb:=HZ.out.bd;have hnb3 : m.nb ≤ 1048576:=HZ.out.nb;have hq3:=quote_len m.bd;have hlL2:=HLl2.out
 have HLl3 : Hid (L3.length ≤ 103000400):=by
  show _ ≤ _;have:=part_len (bodyB m) [98,111,100,121] (quoteL m.bd);rw [hL3];simp only [List.length_append,List.length_cons,List.length_nil] at this ⊢;omega
 have HBD : Hid (∀ V,BX m w V → Calls Tryz.prog 69 #[.string (S m.bd)] V fun e w' => e = .returned (.string (S (quoteL m.bd))) ∧ Below V.heap.size V w'):=fun V _ => QuoteS (s:=S m.bd) (by rw [S_size];omega) V
 have hs1 : ¬ 9223372036854775807 < (S L2).size + 6:=by rw [S_size];omega
 have hs2 : ¬ 9223372036854775807 < (S L2).size + 6 + (S (quoteL m.bd)).size:=by rw [S_size,S_size];omega
 have c14:=mb14 HBe.out.box;clear hL3 hq3 hlL2;go_upto_if 52 with fail
 go_cut [4] (fun s4 wx => s4 = .string (S L3) ∧ BX m w wx)
 case first =>
  by_cases hnb : 0 < m.nb
  ·have hnbz : (0 : Int) < (m.nb : Int):=by omega
   go_wp2_with (first | (refine wpList_value rfl (.string (S m.bd)) (ex_conv _ rfl rfl (HBe.out.inn HM.out).body) ?_) | (go_at_call 69;refine (HBD.out _ HBe.out).mono ?_;rintro e w2 ⟨rfl,hb2⟩;have HBf:=hide (HBe.out.step hb2);clear hb2));go_meet
   case rel =>
    refine ⟨?_,HBf.out⟩
    have hbb : bodyB m = true:=by
     unfold bodyB;rw [decide_eq_true_iff];intro e;rw [e] at hb3;simp at hb3;omega
    rw [HL3.out,hbb];unfold partL;rw [if_pos rfl];show Value.string (S L2 ++ S [32,98,111,100,121,61] ++ S (quoteL m.bd)) = _;rw [S_append,S_append,List.append_assoc]
    rfl
  ·have hnbz : ¬ (0 : Int) < (m.nb : Int):=by omega
   go_wp2_with fail;go_meet
   case rel =>
    refine ⟨?_,HBe.out⟩
    have hbb : bodyB m = false:=by
     unfold bodyB;rw [decide_eq_false_iff_not,Classical.not_not];exact List.length_eq_zero_iff.1 (by omega)
    rw [HL3.out,hbb];unfold partL;rw [if_neg (by decide),List.append_nil]
    try rfl
 case rest =>
 obtain ⟨rfl,hbx⟩:=hcut;have HBg:=hide hbx;clear hbx hs1 hs2 hb3 hnb3 c14;go_upto_region 7 with fail
 obtain ⟨L4,hL4⟩ : ∃ L4,L4 = L3 ++ partL (cmdB m) [99,109,100] (cmdL m):=⟨_,rfl⟩;have HL4:=hide hL4
 have HQL : Hid ((quoteL m.key.data.toList).length ≤ 4194306 ∧ (quoteL m.val.data.toList).length ≤ 4194306 ∧ (quoteL m.old.data.toList).length ≤ 4194306 ∧ (quoteL m.rv.data.toList).length ≤ 4194306 ∧ (sl4 m.cl m.cn m.rq m.op).length ≤ 88 ∧ (Lib.itoa m.co).length ≤ 21 ∧ (Lib.itoa m.rn).length ≤ 21):=by
  have z:=HZ.out;have q1:=quote_len m.key.data.toList;have q2:=quote_len m.val.data.toList;have q3:=quote_len m.old.data.toList;have q4:=quote_len m.rv.data.toList;rw [str_len] at q1 q2 q3 q4;have z1:=z.key;have z2:=z.val;have z3:=z.old;have z4:=z.rv;have r:=HC.out.rn;exact ⟨by omega,by omega,by omega,by omega,sl4_len (HN.out _ (by simp [Mk.ns])) (HN.out _ (by simp [Mk.ns])) (HN.out _ (by simp [Mk.ns])) (HN.out _ (by simp [Mk.ns])),itoa_ct (HN.out _ (by simp [Mk.ns])),itoa_len _ (by omega) (by omega)⟩
 have HLl4 : Hid (L4.length ≤ 116000000):=by
  show _ ≤ _;have:=part_len (cmdB m) [99,109,100] (cmdL m);obtain ⟨q1,q2,q3,q4,q5,q6,q7⟩:=HQL.out;have l3:=HLl3.out;rw [hL4];unfold cmdL at this ⊢;simp only [List.length_append,List.length_cons,List.length_nil] at this ⊢;omega
 clear hL4;have HBh : Hid (BX m w (wc.alloc (.cells #[.int .i64 0,.int .i64 0,.int .i64 0,.int .i64 0,.string ⟨#[]⟩,.string ⟨#[]⟩,.string ⟨#[]⟩] 31))):=HBg.out.alloc _;have HZB : Hid (Blk (wc.alloc (.cells #[.int .i64 0,.int .i64 0,.int .i64 0,.int .i64 0,.string ⟨#[]⟩,.string ⟨#[]⟩,.string ⟨#[]⟩] 31)) wc.heap.size 31 #[.int .i64 0,.int .i64 0,.int .i64 0,.int .i64 0,.string ⟨#[]⟩,.string ⟨#[]⟩,.string ⟨#[]⟩]):=Blk.new _ _ _;refine wp_region_lit ?_;refine wpList_value rfl (.pointer (some ⟨w.heap.size,15,none⟩)) (by go_simp) ?_;refine wpList_value rfl (.agg (cmdCs m)) (ex_load 31 (.tmp 61) rfl _ rfl _ _ Tryz.underlying31 rfl sz_cmd (box_cmd HBh.out.box)) ?_;refine wpList_value rfl (.agg #[.int .i64 0,.int .i64 0,.int .i64 0,.int .i64 0,.string ⟨#[]⟩,.string ⟨#[]⟩,.string ⟨#[]⟩]) (ex_load 31 (.tmp 5) rfl _ rfl _ _ Tryz.underlying31 rfl (sz_cmd (m:=m)) (blk_cells HZB.out)) ?_;refine wpList_value rfl (.bool (cmdB m)) (ex_neq44 m _ _ rfl rfl rfl) ?_;refine wpList_nil ?_;simp only [Act.put,aSt,aSz,aSs];have HBCX : Hid (BX m w (wc.alloc (.cells #[.int .i64 0,.int .i64 0,.int .i64 0,.int .i64 0,.string ⟨#[]⟩,.string ⟨#[]⟩,.string ⟨#[]⟩] 31))):=HBh.out;go_upto_if 64 with fail
 go_cut [4] (fun s4 wx => s4 = .string (S L4) ∧ BX m w wx)
 case first =>
  cases hcb : cmdB m with
  | false =>
   have HCB:=hide hcb;clear hcb;go_wp2_with fail;go_meet
   case rel =>
    refine ⟨?_,HBh.out⟩;rw [HL4.out,HCB.out];unfold partL;rw [if_neg (by decide),List.append_nil]
  | true =>
   have HCB:=hide hcb;have c15:=mb15 HBh.out.box;have c16:=mb16 HBh.out.box;have c17:=mb17 HBh.out.box;have c18:=mb18 HBh.out.box;have c19:=mb19 HBh.out.box;have c20:=mb20 HBh.out.box;have c21:=mb21 HBh.out.box;clear hcb;go_upto_region 9 with fail
   clear c15 c16 c17 c18 c19 c20 c21;refine wp_region_L [] (fun V => CX m w V (wc.heap.size + 1)) (by kernel_rfl) ?_;generalize hw9 : World.drew (World.alloc _ _) = w9
   have HSx : Hid (CX m w w9 (wc.heap.size + 1)):=by
    subst hw9;exact CX.drew ⟨HBh.out.alloc _,blk_new _ _ _ _ (by simp)⟩
   clear hw9;refine tk 0 67 (v:=?_) rfl HSx.out ?_ ?_
   rotate_left;· intro V hV;go_simp;try with_reducible rfl
   try simp only [Act.put,aSt,aSz,aSs]
   refine tk 1 68 (v:=.string (S (cc (L3) ([32,99,109,100,61])))) rfl HSx.out ?_ ?_
   ·intro V hV;exact ex_cat (.tmp 67) (.const (.string { data:=#[32,99,109,100,61] })) 9 9 rfl rfl rfl (by obtain ⟨q1,q2,q3,q4,q5,q6,q7⟩:=HQL.out;have l3:=HLl3.out;(try simp only [cc_len,List.length_append,List.length_cons,List.length_nil]);omega)
   try simp only [Act.put,aSt,aSz,aSs]
   refine tk 2 69 (v:=?_) rfl HSx.out ?_ ?_
   rotate_left;· intro V hV;go_simp;try with_reducible rfl
   try simp only [Act.put,aSt,aSz,aSs]
   refine tk 3 70 (v:=?_) rfl HSx.out ?_ ?_
   rotate_left
   ·intro V hV
    have k0:=cmd0_ hV.cmd;go_simp;try with_reducible rfl
   try simp only [Act.put,aSt,aSz,aSs]
   refine tk 4 71 (v:=?_) rfl HSx.out ?_ ?_
   rotate_left;· intro V hV;go_simp;try with_reducible rfl
   try simp only [Act.put,aSt,aSz,aSs]
   refine tk 5 72 (v:=?_) rfl HSx.out ?_ ?_
   rotate_left
   ·intro V hV
    have k1:=cmd1_ hV.cmd;go_simp;try with_reducible rfl
   try simp only [Act.put,aSt,aSz,aSs]
   refine tk 6 73 (v:=?_) rfl HSx.out ?_ ?_
   rotate_left;· intro V hV;go_simp;try with_reducible rfl
   try simp only [Act.put,aSt,aSz,aSs]
   refine tk 7 74 (v:=?_) rfl HSx.out ?_ ?_
   rotate_left
   ·intro V hV
    have k2:=cmd2_ hV.cmd;go_simp;try with_reducible rfl
   try simp only [Act.put,aSt,aSz,aSs]
   refine tk 8 75 (v:=?_) rfl HSx.out ?_ ?_
   rotate_left;· intro V hV;go_simp;try with_reducible rfl
   try simp only [Act.put,aSt,aSz,aSs]
   refine tk 9 76 (v:=?_) rfl HSx.out ?_ ?_
   rotate_left
   ·intro V hV
    have k3:=cmd3_ hV.cmd;go_simp;try with_reducible rfl
   try simp only [Act.put,aSt,aSz,aSs]
   refine tk 14 81 (v:=?_) rfl HSx.out ?_ ?_
   rotate_left;· intro V hV;go_simp;try with_reducible rfl
   try simp only [Act.put,aSt,aSz,aSs]
   refine tk 15 82 (v:=?_) rfl HSx.out ?_ ?_
   rotate_left
   ·intro V hV
    have k0:=cmd4_ hV.cmd;go_simp;try with_reducible rfl
   try simp only [Act.put,aSt,aSz,aSs]
   refine tk 19 86 (v:=?_) rfl HSx.out ?_ ?_
   rotate_left;· intro V hV;go_simp;try with_reducible rfl
   try simp only [Act.put,aSt,aSz,aSs]
   refine tk 20 87 (v:=?_) rfl HSx.out ?_ ?_
   rotate_left
   ·intro V hV
    have k1:=cmd5_ hV.cmd;go_simp;try with_reducible rfl
   try simp only [Act.put,aSt,aSz,aSs]
   refine tk 24 91 (v:=?_) rfl HSx.out ?_ ?_
   rotate_left;· intro V hV;go_simp;try with_reducible rfl
   try simp only [Act.put,aSt,aSz,aSs]
   refine tk 25 92 (v:=?_) rfl HSx.out ?_ ?_
   rotate_left
   ·intro V hV
    have k2:=cmd6_ hV.cmd;go_simp;try with_reducible rfl
   try simp only [Act.put,aSt,aSz,aSs]
   refine wpL_one 10 (by kernel_rfl) rfl (fun K hK => ?_);rw [if_pos (by rfl)];go_simp;have HSy:=hide (HSx.out.alloc (.cells #[.int .i64 m.cl,.int .i64 m.cn,.int .i64 m.rq,.int .i64 m.op] 3));refine hK _ _ (fun _ => HSy.out) ?_;clear hK K;try simp only [Act.put,aSt,aSz,aSs]
   refine wpL_one 11 (by kernel_rfl) rfl (fun K hK => ?_);rw [if_pos (by rfl)];go_simp;go_at_call 70;refine (slashI (HN.out m.cl (by simp [Mk.ns])) (HN.out m.cn (by simp [Mk.ns])) (HN.out m.rq (by simp [Mk.ns])) (HN.out m.op (by simp [Mk.ns])) (w9.alloc (.cells #[.int .i64 m.cl,.int .i64 m.cn,.int .i64 m.rq,.int .i64 m.op] 3)) w9.heap.size (Blk.new w9 3 _)).mono ?_;rintro e wq0 ⟨rfl,hb⟩;have HSwq0:=hide (HSy.out.step hb);clear hb;refine hK _ _ (fun _ => HSwq0.out) ?_;clear hK K;try simp only [Act.put,aSt,aSz,aSs]
   refine tk 12 79 (v:=.string (S (cc (cc (L3) ([32,99,109,100,61])) (sl4 m.cl m.cn m.rq m.op)))) rfl HSwq0.out ?_ ?_
   ·intro V hV;exact ex_cat (.tmp 68) (.tmp 78) 9 9 rfl rfl rfl (by obtain ⟨q1,q2,q3,q4,q5,q6,q7⟩:=HQL.out;have l3:=HLl3.out;(try simp only [cc_len,List.length_append,List.length_cons,List.length_nil]);omega)
   try simp only [Act.put,aSt,aSz,aSs]
   refine tk 13 80 (v:=.string (S (cc (cc (cc (L3) ([32,99,109,100,61])) (sl4 m.cl m.cn m.rq m.op)) ([47])))) rfl HSwq0.out ?_ ?_
   ·intro V hV;exact ex_cat (.tmp 79) (.const (.string { data:=#[47] })) 9 9 rfl rfl rfl (by obtain ⟨q1,q2,q3,q4,q5,q6,q7⟩:=HQL.out;have l3:=HLl3.out;(try simp only [cc_len,List.length_append,List.length_cons,List.length_nil]);omega)
   try simp only [Act.put,aSt,aSz,aSs]
   refine wpL_one 16 (by kernel_rfl) rfl (fun K hK => ?_);rw [if_pos (by rfl)];go_simp;go_at_call 69;refine (QuoteS HZ.out.key _).mono ?_;rintro e wq1 ⟨rfl,hb⟩;have HSwq1:=hide (HSwq0.out.step hb);clear hb;refine hK _ _ (fun _ => HSwq1.out) ?_;clear hK K;try simp only [Act.put,aSt,aSz,aSs]
   refine tk 17 84 (v:=.string (S (cc (cc (cc (cc (L3) ([32,99,109,100,61])) (sl4 m.cl m.cn m.rq m.op)) ([47])) (quoteL m.key.data.toList)))) rfl HSwq1.out ?_ ?_
   ·intro V hV;exact ex_cat (.tmp 80) (.tmp 83) 9 9 rfl rfl rfl (by obtain ⟨q1,q2,q3,q4,q5,q6,q7⟩:=HQL.out;have l3:=HLl3.out;(try simp only [cc_len,List.length_append,List.length_cons,List.length_nil]);omega)
   try simp only [Act.put,aSt,aSz,aSs]
   refine tk 18 85 (v:=.string (S (cc (cc (cc (cc (cc (L3) ([32,99,109,100,61])) (sl4 m.cl m.cn m.rq m.op)) ([47])) (quoteL m.key.data.toList)) ([47])))) rfl HSwq1.out ?_ ?_
   ·intro V hV;exact ex_cat (.tmp 84) (.const (.string { data:=#[47] })) 9 9 rfl rfl rfl (by obtain ⟨q1,q2,q3,q4,q5,q6,q7⟩:=HQL.out;have l3:=HLl3.out;(try simp only [cc_len,List.length_append,List.length_cons,List.length_nil]);omega)
   try simp only [Act.put,aSt,aSz,aSs]
   refine wpL_one 21 (by kernel_rfl) rfl (fun K hK => ?_);rw [if_pos (by rfl)];go_simp;go_at_call 69;refine (QuoteS HZ.out.val _).mono ?_;rintro e wq2 ⟨rfl,hb⟩;have HSwq2:=hide (HSwq1.out.step hb);clear hb;refine hK _ _ (fun _ => HSwq2.out) ?_;clear hK K;try simp only [Act.put,aSt,aSz,aSs]
   refine tk 22 89 (v:=.string (S (cc (cc (cc (cc (cc (cc (L3) ([32,99,109,100,61])) (sl4 m.cl m.cn m.rq m.op)) ([47])) (quoteL m.key.data.toList)) ([47])) (quoteL m.val.data.toList)))) rfl HSwq2.out ?_ ?_
   ·intro V hV;exact ex_cat (.tmp 85) (.tmp 88) 9 9 rfl rfl rfl (by obtain ⟨q1,q2,q3,q4,q5,q6,q7⟩:=HQL.out;have l3:=HLl3.out;(try simp only [cc_len,List.length_append,List.length_cons,List.length_nil]);omega)
   try simp only [Act.put,aSt,aSz,aSs]
   refine tk 23 90 (v:=.string (S (cc (cc (cc (cc (cc (cc (cc (L3) ([32,99,109,100,61])) (sl4 m.cl m.cn m.rq m.op)) ([47])) (quoteL m.key.data.toList)) ([47])) (quoteL m.val.data.toList)) ([47])))) rfl HSwq2.out ?_ ?_
   ·intro V hV;exact ex_cat (.tmp 89) (.const (.string { data:=#[47] })) 9 9 rfl rfl rfl (by obtain ⟨q1,q2,q3,q4,q5,q6,q7⟩:=HQL.out;have l3:=HLl3.out;(try simp only [cc_len,List.length_append,List.length_cons,List.length_nil]);omega)
   try simp only [Act.put,aSt,aSz,aSs]
   refine wpL_one 26 (by kernel_rfl) rfl (fun K hK => ?_);rw [if_pos (by rfl)];go_simp;go_at_call 69;refine (QuoteS HZ.out.old _).mono ?_;rintro e wq3 ⟨rfl,hb⟩;have HSwq3:=hide (HSwq2.out.step hb);clear hb;refine hK _ _ (fun _ => HSwq3.out) ?_;clear hK K;try simp only [Act.put,aSt,aSz,aSs]
   refine tk 27 94 (v:=.string (S (cc (cc (cc (cc (cc (cc (cc (cc (L3) ([32,99,109,100,61])) (sl4 m.cl m.cn m.rq m.op)) ([47])) (quoteL m.key.data.toList)) ([47])) (quoteL m.val.data.toList)) ([47])) (quoteL m.old.data.toList)))) rfl HSwq3.out ?_ ?_
   ·intro V hV;exact ex_cat (.tmp 90) (.tmp 93) 9 9 rfl rfl rfl (by obtain ⟨q1,q2,q3,q4,q5,q6,q7⟩:=HQL.out;have l3:=HLl3.out;(try simp only [cc_len,List.length_append,List.length_cons,List.length_nil]);omega)
   try simp only [Act.put,aSt,aSz,aSs]
   refine tk 28 4 (v:=?_) rfl HSwq3.out ?_ ?_
   rotate_left;· intro V hV;go_simp;try with_reducible rfl
   try simp only [Act.put,aSt,aSz,aSs]
   refine wpL_done (by kernel_rfl) ?_ _;go_wp2_with fail;go_meet
   case rel =>
    refine ⟨?_,HSwq3.out.bx⟩;rw [HL4.out,HCB.out];unfold partL cmdL cc;rw [if_pos rfl];simp only [List.append_assoc]
    rfl
 case rest =>
 clear HBh HZB HBCX;obtain ⟨rfl,hbx⟩:=hcut;have HBi:=hide hbx;clear hbx;obtain ⟨L5,hL5⟩ : ∃ L5,L5 = L4 ++ partL (resB m) [114,101,115,117,108,116] (resL m):=⟨_,rfl⟩;have HL5:=hide hL5
 have HLl5 : Hid (L5.length ≤ 121000000):=by
  show _ ≤ _;have:=part_len (resB m) [114,101,115,117,108,116] (resL m);obtain ⟨q1,q2,q3,q4,q5,q6,q7⟩:=HQL.out;have l3:=HLl4.out;rw [hL5];unfold resL at this ⊢;simp only [List.length_append,List.length_cons,List.length_nil] at this ⊢;omega
 clear hL5;go_upto_region 11 with fail
 have HBh : Hid (BX m w (wc.alloc (.cells #[.int .i64 0,.string ⟨#[]⟩,.int .i64 0] 48))):=HBi.out.alloc _;have HZB : Hid (Blk (wc.alloc (.cells #[.int .i64 0,.string ⟨#[]⟩,.int .i64 0] 48)) wc.heap.size 48 #[.int .i64 0,.string ⟨#[]⟩,.int .i64 0]):=Blk.new _ _ _;refine wp_region_lit ?_;refine wpList_value rfl (.pointer (some ⟨w.heap.size,22,none⟩)) (by go_simp) ?_;refine wpList_value rfl (.agg (resCs m)) (ex_load 48 (.tmp 96) rfl _ rfl _ _ Tryz.underlying48 rfl sz_res (box_res HBh.out.box)) ?_;refine wpList_value rfl (.agg #[.int .i64 0,.string ⟨#[]⟩,.int .i64 0]) (ex_load 48 (.tmp 7) rfl _ rfl _ _ Tryz.underlying48 rfl (sz_res (m:=m)) (blk_cells HZB.out)) ?_;refine wpList_value rfl (.bool (resB m)) (ex_neq46 m _ _ rfl rfl rfl) ?_;refine wpList_nil ?_;simp only [Act.put,aSt,aSz,aSs];clear HZB;go_upto_if 99 with fail
 go_cut [4] (fun s4 wx => s4 = .string (S L5) ∧ BX m w wx)
 case first =>
  cases hcb : resB m with
  | false =>
   have HCB:=hide hcb;clear hcb;go_wp2_with fail;go_meet
   case rel =>
    refine ⟨?_,HBh.out⟩;rw [HL5.out,HCB.out];unfold partL;rw [if_neg (by decide),List.append_nil]
  | true =>
   have HCB:=hide hcb;clear hcb;go_upto_region 12 with fail
   have HSz:=hide HBh.out.drew;refine wp_region_L [] (BX m w) (by kernel_rfl) ?_;refine tk 0 100 (v:=?_) rfl HSz.out ?_ ?_
   rotate_left;· intro V hV;go_simp;try with_reducible rfl
   try simp only [Act.put,aSt,aSz,aSs]
   refine tk 1 101 (v:=.string (S (cc (L4) ([32,114,101,115,117,108,116,61])))) rfl HSz.out ?_ ?_
   ·intro V hV;exact ex_cat (.tmp 100) (.const (.string { data:=#[32,114,101,115,117,108,116,61] })) 9 9 rfl rfl rfl (by obtain ⟨q1,q2,q3,q4,q5,q6,q7⟩:=HQL.out;have l3:=HLl4.out;(try simp only [cc_len,List.length_append,List.length_cons,List.length_nil]);omega)
   try simp only [Act.put,aSt,aSz,aSs]
   refine tk 2 102 (v:=?_) rfl HSz.out ?_ ?_
   rotate_left;· intro V hV;go_simp;try with_reducible rfl
   try simp only [Act.put,aSt,aSz,aSs]
   refine tk 3 103 (v:=?_) rfl HSz.out ?_ ?_
   rotate_left;· intro V hV;go_simp;try with_reducible rfl
   try simp only [Act.put,aSt,aSz,aSs]
   refine tk 4 104 (v:=?_) rfl HSz.out ?_ ?_
   rotate_left
   ·intro V hV
    have k0:=mb22 hV.box;go_simp;try with_reducible rfl
   try simp only [Act.put,aSt,aSz,aSs]
   refine tk 8 108 (v:=?_) rfl HSz.out ?_ ?_
   rotate_left;· intro V hV;go_simp;try with_reducible rfl
   try simp only [Act.put,aSt,aSz,aSs]
   refine tk 9 109 (v:=?_) rfl HSz.out ?_ ?_
   rotate_left;· intro V hV;go_simp;try with_reducible rfl
   try simp only [Act.put,aSt,aSz,aSs]
   refine tk 10 110 (v:=?_) rfl HSz.out ?_ ?_
   rotate_left
   ·intro V hV
    have k1:=mb23 hV.box;go_simp;try with_reducible rfl
   try simp only [Act.put,aSt,aSz,aSs]
   refine tk 14 114 (v:=?_) rfl HSz.out ?_ ?_
   rotate_left;· intro V hV;go_simp;try with_reducible rfl
   try simp only [Act.put,aSt,aSz,aSs]
   refine tk 15 115 (v:=?_) rfl HSz.out ?_ ?_
   rotate_left;· intro V hV;go_simp;try with_reducible rfl
   try simp only [Act.put,aSt,aSz,aSs]
   refine tk 16 116 (v:=?_) rfl HSz.out ?_ ?_
   rotate_left
   ·intro V hV
    have k2:=mb24 hV.box;go_simp;try with_reducible rfl
   try simp only [Act.put,aSt,aSz,aSs]
   refine wpL_one 5 (by kernel_rfl) rfl (fun K hK => ?_);rw [if_pos (by rfl)];go_simp;go_at_call 42;refine (digI (HN.out m.co (by simp [Mk.ns])) _).mono ?_;rintro e wz0 ⟨rfl,hb⟩;have HSwz0:=hide (HSz.out.step hb);clear hb;refine hK _ _ (fun _ => HSwz0.out) ?_;clear hK K;try simp only [Act.put,aSt,aSz,aSs]
   refine tk 6 106 (v:=.string (S (cc (cc (L4) ([32,114,101,115,117,108,116,61])) (Lib.itoa m.co)))) rfl HSwz0.out ?_ ?_
   ·intro V hV;exact ex_cat (.tmp 101) (.tmp 105) 9 9 rfl rfl rfl (by obtain ⟨q1,q2,q3,q4,q5,q6,q7⟩:=HQL.out;have l3:=HLl4.out;(try simp only [cc_len,List.length_append,List.length_cons,List.length_nil]);omega)
   try simp only [Act.put,aSt,aSz,aSs]
   refine tk 7 107 (v:=.string (S (cc (cc (cc (L4) ([32,114,101,115,117,108,116,61])) (Lib.itoa m.co)) ([47])))) rfl HSwz0.out ?_ ?_
   ·intro V hV;exact ex_cat (.tmp 106) (.const (.string { data:=#[47] })) 9 9 rfl rfl rfl (by obtain ⟨q1,q2,q3,q4,q5,q6,q7⟩:=HQL.out;have l3:=HLl4.out;(try simp only [cc_len,List.length_append,List.length_cons,List.length_nil]);omega)
   try simp only [Act.put,aSt,aSz,aSs]
   refine wpL_one 11 (by kernel_rfl) rfl (fun K hK => ?_);rw [if_pos (by rfl)];go_simp;go_at_call 69;refine (QuoteS HZ.out.rv _).mono ?_;rintro e wz1 ⟨rfl,hb⟩;have HSwz1:=hide (HSwz0.out.step hb);clear hb;refine hK _ _ (fun _ => HSwz1.out) ?_;clear hK K;try simp only [Act.put,aSt,aSz,aSs]
   refine tk 12 112 (v:=.string (S (cc (cc (cc (cc (L4) ([32,114,101,115,117,108,116,61])) (Lib.itoa m.co)) ([47])) (quoteL m.rv.data.toList)))) rfl HSwz1.out ?_ ?_
   ·intro V hV;exact ex_cat (.tmp 107) (.tmp 111) 9 9 rfl rfl rfl (by obtain ⟨q1,q2,q3,q4,q5,q6,q7⟩:=HQL.out;have l3:=HLl4.out;(try simp only [cc_len,List.length_append,List.length_cons,List.length_nil]);omega)
   try simp only [Act.put,aSt,aSz,aSs]
   refine tk 13 113 (v:=.string (S (cc (cc (cc (cc (cc (L4) ([32,114,101,115,117,108,116,61])) (Lib.itoa m.co)) ([47])) (quoteL m.rv.data.toList)) ([47])))) rfl HSwz1.out ?_ ?_
   ·intro V hV;exact ex_cat (.tmp 112) (.const (.string { data:=#[47] })) 9 9 rfl rfl rfl (by obtain ⟨q1,q2,q3,q4,q5,q6,q7⟩:=HQL.out;have l3:=HLl4.out;(try simp only [cc_len,List.length_append,List.length_cons,List.length_nil]);omega)
   try simp only [Act.put,aSt,aSz,aSs]
   refine wpL_one 17 (by kernel_rfl) rfl (fun K hK => ?_);rw [if_pos (by rfl)];go_simp;go_at_call 71;refine (signI HC.out.rn.1 HC.out.rn.2 _).mono ?_;rintro e wz2 ⟨rfl,hb⟩;have HSwz2:=hide (HSwz1.out.step hb);clear hb;refine hK _ _ (fun _ => HSwz2.out) ?_;clear hK K;try simp only [Act.put,aSt,aSz,aSs]
   refine tk 18 118 (v:=.string (S (cc (cc (cc (cc (cc (cc (L4) ([32,114,101,115,117,108,116,61])) (Lib.itoa m.co)) ([47])) (quoteL m.rv.data.toList)) ([47])) (Lib.itoa m.rn)))) rfl HSwz2.out ?_ ?_
   ·intro V hV;exact ex_cat (.tmp 113) (.tmp 117) 9 9 rfl rfl rfl (by obtain ⟨q1,q2,q3,q4,q5,q6,q7⟩:=HQL.out;have l3:=HLl4.out;(try simp only [cc_len,List.length_append,List.length_cons,List.length_nil]);omega)
   try simp only [Act.put,aSt,aSz,aSs]
   refine tk 19 4 (v:=?_) rfl HSwz2.out ?_ ?_
   rotate_left;· intro V hV;go_simp;try with_reducible rfl
   try simp only [Act.put,aSt,aSz,aSs]
   refine wpL_done (by kernel_rfl) ?_ _;go_wp2_with fail;go_meet
   case rel =>
    refine ⟨?_,HSwz2.out⟩;rw [HL5.out,HCB.out];unfold partL resL cc;rw [if_pos rfl];simp only [List.append_assoc]
    rfl
 case rest =>
 clear HBh;obtain ⟨rfl,hbx⟩:=hcut;have HBj:=hide hbx;have c25:=mb25 hbx.box
 have HER : Hid (Ct m.er):=by
  obtain ⟨n,hn,hle⟩:=HC.out.er;exact ⟨n,hn,by omega⟩
 have hs3 : ¬ 9223372036854775807 < (S L5).size + (S (numL [101,114,114] m.er)).size:=by
  have h1:=HLl5.out;have h2:=num_len [101,114,114] HER.out;simp only [List.length_cons,List.length_nil] at h2;rw [S_size,S_size];omega
 clear hbx;go_wp2_with (go_at_call 68;refine (plainI [101,114,114] HER.out _ (by decide)).mono ?_;rintro e w2 ⟨rfl,hb2⟩;have HBf:=hide (HBj.out.step hb2);clear hb2);go_ret;refine ⟨?_,HBf.out.low⟩;show Ending.returned (.string (S L5 ++ S (numL [101,114,114] m.er))) = _;rw [S_append,HL5.out,HL4.out,HL3.out,HL2.out];unfold lineL;simp only [List.append_assoc]
end Go.Proofs.YtcibcmfaebbhnaaGreatDoor.Tr
