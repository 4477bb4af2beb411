/-
  The reference's thing: an event with one thing more. (Printed by wip/tools/mkwth.py.)
-/
import Derived.Test.YtcibcmfaebbhnaaGreatDoorPBln
import Derived.Test.YtcibcmfaebbhnaaGreatDoorPHdr
import Derived.Test.YtcibcmfaebbhnaaGreatDoorPWords
set_option linter.unusedSimpArgs false
set_option linter.unusedVariables false
set_option maxRecDepth 100000
set_option maxHeartbeats 8000000

namespace Go.Proofs.YtcibcmfaebbhnaaGreatDoor
open Go.RowKit Go.WideShapes Go.ChangeShapes Q
def lrOf : Lt → UInt8
 | .P => 112
 | .Q => 113
 | .K => 107
 | .N => 110
 | .D => 100
 | .T => 116
 | .X => 120
theorem E2.three {w : World} {b : Nat} {m : Em} (h : EmU w b m) (cs : Array Value) (Z : Array Value) (hz : Z.size = 13) :
  E2 w (((w.alloc (.cells m.cs 33)).alloc (.cells cs 165)).alloc (.cells Z 33)) b w.heap.size (w.heap.size + 1 + 1) m :=
 ⟨((Blk.new _ _ _).alloc _).alloc _,⟨Z,hz,Blk.new' _ _ _ _ (by simp)⟩,((h.alloc _).alloc _).alloc _,(((Below.refl _ _).alloc (Nat.le_refl _) _).alloc (by simp) _).alloc (by simp;omega) _,Nat.le_refl _,by omega,by omega⟩
theorem wcntZ_some {d : Wd} {x : Nat} (h : wcnt d = some x) : wcntZ d = (x : Int):=by unfold wcntZ;rw [h]
theorem wcntZ_none {d : Wd} (h : wcnt d = none) : wcntZ d = -1:=by unfold wcntZ;rw [h]
theorem thing_P (m : Em) (d : Wd) (nodes : Int) (b : Nat) (w : World) (h : EmU w b m) (hd : d.1.length ≤ 100000000) (hn : 1 ≤ nodes ∧ nodes ≤ 16) :
  Calls Tryz.prog 93 #[.agg m.cs,.int .u8 112,.agg #[.bool d.2,.string (S d.1)],.int .i64 nodes] w fun e w' => EvB (thingE nodes.toNat m.ev .P d) b w e w':=by
 have HT:=hide h;have HNU : Hid (∀ W,Calls Tryz.prog 105 #[.agg #[.bool d.2,.string (S d.1)]] W fun e w' => e = .returned (.int .i64 (wcntZ d)) ∧ Below W.heap.size W w'):=fun W => number_ref d.2 (S d.1) W (by rw [S_size];omega)
 obtain ⟨x,hx⟩ : ∃ x,x = wcntZ d:=⟨_,rfl⟩;rw [← hx] at HNU;have HX:=hide hx;clear h hx;go_enter Tryz.func93,Tryz.ntmps93;go_upto_region 1 with fail
 generalize hW0 : World.alloc (World.alloc (World.alloc w _) _) _ = W0
 have HS0 : Hid (E2 w W0 b w.heap.size (w.heap.size + 1 + 1) m):=by
  show E2 _ _ _ _ _ _;rw [← hW0];exact E2.three HT.out _ _ rfl
 have HB0 : Hid (Blk W0 (w.heap.size + 1) 165 #[.bool d.2,.string (S d.1)]):=by
  show Blk _ _ _ _;rw [← hW0];exact (Blk.new' _ _ _ _ (by simp)).alloc _
 clear hW0;have k0:=wb0 HB0.out;have k1:=wb1 HB0.out;go_upto_region 5 with (go_at_call 105;refine (HNU.out _).mono ?_;rintro e w2 ⟨rfl,hb2⟩;have HS2:=hide (HS0.out.step hb2);have c2:=eb1 HS2.out.box;have f2:=Blk.frozen HS2.out.box 1;clear hb2)
 obtain ⟨m',hm'⟩ : ∃ m' : Em,m' = { m with a:=x }:=⟨_,rfl⟩;have HM:=hide hm';obtain ⟨W8,hW8⟩ : ∃ W8,W8 = w2.setCell ⟨w.heap.size,1,none⟩ (.int .i64 x):=⟨_,rfl⟩
 have HS8 : Hid (E2 w W8 b w.heap.size (w.heap.size + 1 + 1) m'):=by
  show E2 _ _ _ _ _ _;rw [hW8];exact HS2.out.set 1 _ (by rw [hm'];exact eset_a m _) (by rw [hm'];exact ⟨HS2.out.t.sid,HS2.out.t.body,HS2.out.t.hs,HS2.out.t.hb⟩)
 rw [← hW8];have HEV : Hid (m'.ev = { m.ev with a:=x }):=by show _ = _;rw [hm'];rfl
 clear hm' f2 c2 hW8 k0 k1
 cases hc : wcnt d with
 | none =>
  have hx1 : x = -1:=HX.out.trans (wcntZ_none hc);have HR : Hid (thingE nodes.toNat m.ev .P d = none):=by show _ = _;unfold thingE;simp only [hc]
  subst hx1;clear hc;refine wp_region_lit ?_;refine wpList_value rfl (.agg m'.cs) (ex_load 33 (.tmp 4) rfl _ rfl m'.cs _ Tryz.underlying33 rfl (ld29 _ (em_size _)) (ebox_all HS8.out.box)) ?_;simp only [Act.put,aSt,aSz,aSs];obtain ⟨Z,hZs,hZ⟩:=HS8.out.out;go_wp2_with (refine wpList_put_at rfl 33 (.tmp 8) (.tmp 18) rfl (w.heap.size + 1 + 1) 0 m'.cs rfl rfl 33 Z hZ (ld29 _ (em_size _)) (by rw [em_size,hZs];omega) (ecs_all m') _ (eput_zero Z hZs m') ?_);refine bodyPost_ret (results_29b rfl _ rfl (hZ.row _) rfl) rfl ?_;exact HS8.out.fin (fun h => by cases h) (fun _ => HR.out)
 | some k =>
  have hx1 : x = (k : Int):=HX.out.trans (wcntZ_some hc);have k0 : (0 : Int) ≤ (k : Int):=by omega
  subst hx1
  by_cases hk : k < nodes.toNat
  ·have HR : Hid (thingE nodes.toNat m.ev .P d = some { m.ev with a:=(k : Int) }):=by show _ = _;unfold thingE;simp only [hc];rw [if_pos hk]
   have e1 : (k : Int) < nodes:=by omega
   clear hc hk;refine wp_region_lit ?_;refine wpList_value rfl (.agg m'.cs) (ex_load 33 (.tmp 4) rfl _ rfl m'.cs _ Tryz.underlying33 rfl (ld29 _ (em_size _)) (ebox_all HS8.out.box)) ?_;simp only [Act.put,aSt,aSz,aSs];obtain ⟨Z,hZs,hZ⟩:=HS8.out.out;go_wp2_with (refine wpList_put_at rfl 33 (.tmp 8) (.tmp 18) rfl (w.heap.size + 1 + 1) 0 m'.cs rfl rfl 33 Z hZ (ld29 _ (em_size _)) (by rw [em_size,hZs];omega) (ecs_all m') _ (eput_zero Z hZs m') ?_);refine bodyPost_ret (results_29b rfl _ rfl (hZ.row _) rfl) rfl ?_;exact HS8.out.fin (fun _ => HR.out.trans (congrArg some HEV.out.symm)) (fun h => by cases h)
  ·have HR : Hid (thingE nodes.toNat m.ev .P d = none):=by show _ = _;unfold thingE;simp only [hc];rw [if_neg hk]
   have e1 : ¬ (k : Int) < nodes:=by omega
   clear hc hk;refine wp_region_lit ?_;refine wpList_value rfl (.agg m'.cs) (ex_load 33 (.tmp 4) rfl _ rfl m'.cs _ Tryz.underlying33 rfl (ld29 _ (em_size _)) (ebox_all HS8.out.box)) ?_;simp only [Act.put,aSt,aSz,aSs];obtain ⟨Z,hZs,hZ⟩:=HS8.out.out;go_wp2_with (refine wpList_put_at rfl 33 (.tmp 8) (.tmp 18) rfl (w.heap.size + 1 + 1) 0 m'.cs rfl rfl 33 Z hZ (ld29 _ (em_size _)) (by rw [em_size,hZs];omega) (ecs_all m') _ (eput_zero Z hZs m') ?_);refine bodyPost_ret (results_29b rfl _ rfl (hZ.row _) rfl) rfl ?_;exact HS8.out.fin (fun h => by cases h) (fun _ => HR.out)
theorem thing_K (m : Em) (d : Wd) (nodes : Int) (b : Nat) (w : World) (h : EmU w b m) (hd : d.1.length ≤ 100000000) (hn : 1 ≤ nodes ∧ nodes ≤ 16) :
  Calls Tryz.prog 93 #[.agg m.cs,.int .u8 107,.agg #[.bool d.2,.string (S d.1)],.int .i64 nodes] w fun e w' => EvB (thingE nodes.toNat m.ev .K d) b w e w':=by
 have HT:=hide h;have HNU : Hid (∀ W,Calls Tryz.prog 105 #[.agg #[.bool d.2,.string (S d.1)]] W fun e w' => e = .returned (.int .i64 (wcntZ d)) ∧ Below W.heap.size W w'):=fun W => number_ref d.2 (S d.1) W (by rw [S_size];omega)
 obtain ⟨x,hx⟩ : ∃ x,x = wcntZ d:=⟨_,rfl⟩;rw [← hx] at HNU;have HX:=hide hx;clear h hx;go_enter Tryz.func93,Tryz.ntmps93;go_upto_region 1 with fail
 generalize hW0 : World.alloc (World.alloc (World.alloc w _) _) _ = W0
 have HS0 : Hid (E2 w W0 b w.heap.size (w.heap.size + 1 + 1) m):=by
  show E2 _ _ _ _ _ _;rw [← hW0];exact E2.three HT.out _ _ rfl
 have HB0 : Hid (Blk W0 (w.heap.size + 1) 165 #[.bool d.2,.string (S d.1)]):=by
  show Blk _ _ _ _;rw [← hW0];exact (Blk.new' _ _ _ _ (by simp)).alloc _
 clear hW0;have k0:=wb0 HB0.out;have k1:=wb1 HB0.out;go_upto_region 11 with (go_at_call 105;refine (HNU.out _).mono ?_;rintro e w2 ⟨rfl,hb2⟩;have HS2:=hide (HS0.out.step hb2);have c2:=eb1 HS2.out.box;have f2:=Blk.frozen HS2.out.box 1;clear hb2)
 obtain ⟨m',hm'⟩ : ∃ m' : Em,m' = { m with a:=x }:=⟨_,rfl⟩;have HM:=hide hm';obtain ⟨W8,hW8⟩ : ∃ W8,W8 = w2.setCell ⟨w.heap.size,1,none⟩ (.int .i64 x):=⟨_,rfl⟩
 have HS8 : Hid (E2 w W8 b w.heap.size (w.heap.size + 1 + 1) m'):=by
  show E2 _ _ _ _ _ _;rw [hW8];exact HS2.out.set 1 _ (by rw [hm'];exact eset_a m _) (by rw [hm'];exact ⟨HS2.out.t.sid,HS2.out.t.body,HS2.out.t.hs,HS2.out.t.hb⟩)
 rw [← hW8];have HEV : Hid (m'.ev = { m.ev with a:=x }):=by show _ = _;rw [hm'];rfl
 clear hm' f2 c2 hW8 k0 k1
 cases hc : wcnt d with
 | none =>
  have hx1 : x = -1:=HX.out.trans (wcntZ_none hc);have HR : Hid (thingE nodes.toNat m.ev .K d = none):=by show _ = _;unfold thingE;simp only [hc]
  subst hx1;clear hc;refine wp_region_lit ?_;refine wpList_value rfl (.agg m'.cs) (ex_load 33 (.tmp 4) rfl _ rfl m'.cs _ Tryz.underlying33 rfl (ld29 _ (em_size _)) (ebox_all HS8.out.box)) ?_;simp only [Act.put,aSt,aSz,aSs];obtain ⟨Z,hZs,hZ⟩:=HS8.out.out;go_wp2_with (refine wpList_put_at rfl 33 (.tmp 8) (.tmp 48) rfl (w.heap.size + 1 + 1) 0 m'.cs rfl rfl 33 Z hZ (ld29 _ (em_size _)) (by rw [em_size,hZs];omega) (ecs_all m') _ (eput_zero Z hZs m') ?_);refine bodyPost_ret (results_29b rfl _ rfl (hZ.row _) rfl) rfl ?_;exact HS8.out.fin (fun h => by cases h) (fun _ => HR.out)
 | some k =>
  have hx1 : x = (k : Int):=HX.out.trans (wcntZ_some hc);have k0 : (0 : Int) ≤ (k : Int):=by omega
  subst hx1;have HR : Hid (thingE nodes.toNat m.ev .K d = some { m.ev with a:=(k : Int) }):=by show _ = _;unfold thingE;simp only [hc]
  clear hc;refine wp_region_lit ?_;refine wpList_value rfl (.agg m'.cs) (ex_load 33 (.tmp 4) rfl _ rfl m'.cs _ Tryz.underlying33 rfl (ld29 _ (em_size _)) (ebox_all HS8.out.box)) ?_;simp only [Act.put,aSt,aSz,aSs];obtain ⟨Z,hZs,hZ⟩:=HS8.out.out;go_wp2_with (refine wpList_put_at rfl 33 (.tmp 8) (.tmp 48) rfl (w.heap.size + 1 + 1) 0 m'.cs rfl rfl 33 Z hZ (ld29 _ (em_size _)) (by rw [em_size,hZs];omega) (ecs_all m') _ (eput_zero Z hZs m') ?_);refine bodyPost_ret (results_29b rfl _ rfl (hZ.row _) rfl) rfl ?_;exact HS8.out.fin (fun _ => HR.out.trans (congrArg some HEV.out.symm)) (fun h => by cases h)
theorem thing_N (m : Em) (d : Wd) (nodes : Int) (b : Nat) (w : World) (h : EmU w b m) (hd : d.1.length ≤ 100000000) (hn : 1 ≤ nodes ∧ nodes ≤ 16) :
  Calls Tryz.prog 93 #[.agg m.cs,.int .u8 110,.agg #[.bool d.2,.string (S d.1)],.int .i64 nodes] w fun e w' => EvB (thingE nodes.toNat m.ev .N d) b w e w':=by
 have HT:=hide h;have HNU : Hid (∀ W,Calls Tryz.prog 105 #[.agg #[.bool d.2,.string (S d.1)]] W fun e w' => e = .returned (.int .i64 (wcntZ d)) ∧ Below W.heap.size W w'):=fun W => number_ref d.2 (S d.1) W (by rw [S_size];omega)
 obtain ⟨x,hx⟩ : ∃ x,x = wcntZ d:=⟨_,rfl⟩;rw [← hx] at HNU;have HX:=hide hx;clear h hx;go_enter Tryz.func93,Tryz.ntmps93;go_upto_region 1 with fail
 generalize hW0 : World.alloc (World.alloc (World.alloc w _) _) _ = W0
 have HS0 : Hid (E2 w W0 b w.heap.size (w.heap.size + 1 + 1) m):=by
  show E2 _ _ _ _ _ _;rw [← hW0];exact E2.three HT.out _ _ rfl
 have HB0 : Hid (Blk W0 (w.heap.size + 1) 165 #[.bool d.2,.string (S d.1)]):=by
  show Blk _ _ _ _;rw [← hW0];exact (Blk.new' _ _ _ _ (by simp)).alloc _
 clear hW0;have k0:=wb0 HB0.out;have k1:=wb1 HB0.out;go_upto_region 14 with (go_at_call 105;refine (HNU.out _).mono ?_;rintro e w2 ⟨rfl,hb2⟩;have HS2:=hide (HS0.out.step hb2);have c2:=eb3 HS2.out.box;have f2:=Blk.frozen HS2.out.box 3;clear hb2)
 obtain ⟨m',hm'⟩ : ∃ m' : Em,m' = { m with n:=x }:=⟨_,rfl⟩;have HM:=hide hm';obtain ⟨W8,hW8⟩ : ∃ W8,W8 = w2.setCell ⟨w.heap.size,3,none⟩ (.int .i64 x):=⟨_,rfl⟩
 have HS8 : Hid (E2 w W8 b w.heap.size (w.heap.size + 1 + 1) m'):=by
  show E2 _ _ _ _ _ _;rw [hW8];exact HS2.out.set 3 _ (by rw [hm'];exact eset_n m _) (by rw [hm'];exact ⟨HS2.out.t.sid,HS2.out.t.body,HS2.out.t.hs,HS2.out.t.hb⟩)
 rw [← hW8];have HEV : Hid (m'.ev = { m.ev with n:=x }):=by show _ = _;rw [hm'];rfl
 clear hm' f2 c2 hW8 k0 k1
 cases hc : wcnt d with
 | none =>
  have hx1 : x = -1:=HX.out.trans (wcntZ_none hc);have HR : Hid (thingE nodes.toNat m.ev .N d = none):=by show _ = _;unfold thingE;simp only [hc]
  subst hx1;clear hc;refine wp_region_lit ?_;refine wpList_value rfl (.agg m'.cs) (ex_load 33 (.tmp 4) rfl _ rfl m'.cs _ Tryz.underlying33 rfl (ld29 _ (em_size _)) (ebox_all HS8.out.box)) ?_;simp only [Act.put,aSt,aSz,aSs];obtain ⟨Z,hZs,hZ⟩:=HS8.out.out;go_wp2_with (refine wpList_put_at rfl 33 (.tmp 8) (.tmp 55) rfl (w.heap.size + 1 + 1) 0 m'.cs rfl rfl 33 Z hZ (ld29 _ (em_size _)) (by rw [em_size,hZs];omega) (ecs_all m') _ (eput_zero Z hZs m') ?_);refine bodyPost_ret (results_29b rfl _ rfl (hZ.row _) rfl) rfl ?_;exact HS8.out.fin (fun h => by cases h) (fun _ => HR.out)
 | some k =>
  have hx1 : x = (k : Int):=HX.out.trans (wcntZ_some hc);have k0 : (0 : Int) ≤ (k : Int):=by omega
  subst hx1;have HR : Hid (thingE nodes.toNat m.ev .N d = some { m.ev with n:=(k : Int) }):=by show _ = _;unfold thingE;simp only [hc]
  clear hc;refine wp_region_lit ?_;refine wpList_value rfl (.agg m'.cs) (ex_load 33 (.tmp 4) rfl _ rfl m'.cs _ Tryz.underlying33 rfl (ld29 _ (em_size _)) (ebox_all HS8.out.box)) ?_;simp only [Act.put,aSt,aSz,aSs];obtain ⟨Z,hZs,hZ⟩:=HS8.out.out;go_wp2_with (refine wpList_put_at rfl 33 (.tmp 8) (.tmp 55) rfl (w.heap.size + 1 + 1) 0 m'.cs rfl rfl 33 Z hZ (ld29 _ (em_size _)) (by rw [em_size,hZs];omega) (ecs_all m') _ (eput_zero Z hZs m') ?_);refine bodyPost_ret (results_29b rfl _ rfl (hZ.row _) rfl) rfl ?_;exact HS8.out.fin (fun _ => HR.out.trans (congrArg some HEV.out.symm)) (fun h => by cases h)
theorem thing_D (m : Em) (d : Wd) (nodes : Int) (b : Nat) (w : World) (h : EmU w b m) (hd : d.1.length ≤ 100000000) (hn : 1 ≤ nodes ∧ nodes ≤ 16) :
  Calls Tryz.prog 93 #[.agg m.cs,.int .u8 100,.agg #[.bool d.2,.string (S d.1)],.int .i64 nodes] w fun e w' => EvB (thingE nodes.toNat m.ev .D d) b w e w':=by
 have HT:=hide h;have HNU : Hid (∀ W,Calls Tryz.prog 105 #[.agg #[.bool d.2,.string (S d.1)]] W fun e w' => e = .returned (.int .i64 (wcntZ d)) ∧ Below W.heap.size W w'):=fun W => number_ref d.2 (S d.1) W (by rw [S_size];omega)
 obtain ⟨x,hx⟩ : ∃ x,x = wcntZ d:=⟨_,rfl⟩;rw [← hx] at HNU;have HX:=hide hx;clear h hx;go_enter Tryz.func93,Tryz.ntmps93;go_upto_region 1 with fail
 generalize hW0 : World.alloc (World.alloc (World.alloc w _) _) _ = W0
 have HS0 : Hid (E2 w W0 b w.heap.size (w.heap.size + 1 + 1) m):=by
  show E2 _ _ _ _ _ _;rw [← hW0];exact E2.three HT.out _ _ rfl
 have HB0 : Hid (Blk W0 (w.heap.size + 1) 165 #[.bool d.2,.string (S d.1)]):=by
  show Blk _ _ _ _;rw [← hW0];exact (Blk.new' _ _ _ _ (by simp)).alloc _
 clear hW0;have k0:=wb0 HB0.out;have k1:=wb1 HB0.out;go_upto_region 17 with (go_at_call 105;refine (HNU.out _).mono ?_;rintro e w2 ⟨rfl,hb2⟩;have HS2:=hide (HS0.out.step hb2);have c2:=eb3 HS2.out.box;have f2:=Blk.frozen HS2.out.box 3;clear hb2)
 obtain ⟨m',hm'⟩ : ∃ m' : Em,m' = { m with n:=x }:=⟨_,rfl⟩;have HM:=hide hm';obtain ⟨W8,hW8⟩ : ∃ W8,W8 = w2.setCell ⟨w.heap.size,3,none⟩ (.int .i64 x):=⟨_,rfl⟩
 have HS8 : Hid (E2 w W8 b w.heap.size (w.heap.size + 1 + 1) m'):=by
  show E2 _ _ _ _ _ _;rw [hW8];exact HS2.out.set 3 _ (by rw [hm'];exact eset_n m _) (by rw [hm'];exact ⟨HS2.out.t.sid,HS2.out.t.body,HS2.out.t.hs,HS2.out.t.hb⟩)
 rw [← hW8];have HEV : Hid (m'.ev = { m.ev with n:=x }):=by show _ = _;rw [hm'];rfl
 clear hm' f2 c2 hW8 k0 k1
 cases hc : wcnt d with
 | none =>
  have hx1 : x = -1:=HX.out.trans (wcntZ_none hc);have HR : Hid (thingE nodes.toNat m.ev .D d = none):=by show _ = _;unfold thingE;simp only [hc]
  subst hx1;clear hc;refine wp_region_lit ?_;refine wpList_value rfl (.agg m'.cs) (ex_load 33 (.tmp 4) rfl _ rfl m'.cs _ Tryz.underlying33 rfl (ld29 _ (em_size _)) (ebox_all HS8.out.box)) ?_;simp only [Act.put,aSt,aSz,aSs];obtain ⟨Z,hZs,hZ⟩:=HS8.out.out;go_wp2_with (refine wpList_put_at rfl 33 (.tmp 8) (.tmp 62) rfl (w.heap.size + 1 + 1) 0 m'.cs rfl rfl 33 Z hZ (ld29 _ (em_size _)) (by rw [em_size,hZs];omega) (ecs_all m') _ (eput_zero Z hZs m') ?_);refine bodyPost_ret (results_29b rfl _ rfl (hZ.row _) rfl) rfl ?_;exact HS8.out.fin (fun h => by cases h) (fun _ => HR.out)
 | some k =>
  have hx1 : x = (k : Int):=HX.out.trans (wcntZ_some hc);have k0 : (0 : Int) ≤ (k : Int):=by omega
  subst hx1
  by_cases hk : 1 ≤ k ∧ k ≤ 16
  ·have HR : Hid (thingE nodes.toNat m.ev .D d = some { m.ev with n:=(k : Int) }):=by show _ = _;unfold thingE;simp only [hc];rw [if_pos hk]
   have e1 : (1 : Int) ≤ (k : Int):=by omega
   have e2 : (k : Int) ≤ 16:=by omega
   clear hc hk;refine wp_region_lit ?_;refine wpList_value rfl (.agg m'.cs) (ex_load 33 (.tmp 4) rfl _ rfl m'.cs _ Tryz.underlying33 rfl (ld29 _ (em_size _)) (ebox_all HS8.out.box)) ?_;simp only [Act.put,aSt,aSz,aSs];obtain ⟨Z,hZs,hZ⟩:=HS8.out.out;go_wp2_with (refine wpList_put_at rfl 33 (.tmp 8) (.tmp 62) rfl (w.heap.size + 1 + 1) 0 m'.cs rfl rfl 33 Z hZ (ld29 _ (em_size _)) (by rw [em_size,hZs];omega) (ecs_all m') _ (eput_zero Z hZs m') ?_);refine bodyPost_ret (results_29b rfl _ rfl (hZ.row _) rfl) rfl ?_;exact HS8.out.fin (fun _ => HR.out.trans (congrArg some HEV.out.symm)) (fun h => by cases h)
  ·have HR : Hid (thingE nodes.toNat m.ev .D d = none):=by show _ = _;unfold thingE;simp only [hc];rw [if_neg hk]
   clear hc
   by_cases hk1 : 1 ≤ k
   ·have e1 : (1 : Int) ≤ (k : Int):=by omega
    have e2 : ¬ (k : Int) ≤ 16:=by omega
    clear hk;refine wp_region_lit ?_;refine wpList_value rfl (.agg m'.cs) (ex_load 33 (.tmp 4) rfl _ rfl m'.cs _ Tryz.underlying33 rfl (ld29 _ (em_size _)) (ebox_all HS8.out.box)) ?_;simp only [Act.put,aSt,aSz,aSs];obtain ⟨Z,hZs,hZ⟩:=HS8.out.out;go_wp2_with (refine wpList_put_at rfl 33 (.tmp 8) (.tmp 62) rfl (w.heap.size + 1 + 1) 0 m'.cs rfl rfl 33 Z hZ (ld29 _ (em_size _)) (by rw [em_size,hZs];omega) (ecs_all m') _ (eput_zero Z hZs m') ?_);refine bodyPost_ret (results_29b rfl _ rfl (hZ.row _) rfl) rfl ?_;exact HS8.out.fin (fun h => by cases h) (fun _ => HR.out)
   ·have e1 : ¬ (1 : Int) ≤ (k : Int):=by omega
    clear hk;refine wp_region_lit ?_;refine wpList_value rfl (.agg m'.cs) (ex_load 33 (.tmp 4) rfl _ rfl m'.cs _ Tryz.underlying33 rfl (ld29 _ (em_size _)) (ebox_all HS8.out.box)) ?_;simp only [Act.put,aSt,aSz,aSs];obtain ⟨Z,hZs,hZ⟩:=HS8.out.out;go_wp2_with (refine wpList_put_at rfl 33 (.tmp 8) (.tmp 62) rfl (w.heap.size + 1 + 1) 0 m'.cs rfl rfl 33 Z hZ (ld29 _ (em_size _)) (by rw [em_size,hZs];omega) (ecs_all m') _ (eput_zero Z hZs m') ?_);refine bodyPost_ret (results_29b rfl _ rfl (hZ.row _) rfl) rfl ?_;exact HS8.out.fin (fun h => by cases h) (fun _ => HR.out)
theorem thing_Q (m : Em) (d : Wd) (nodes : Int) (b : Nat) (w : World) (h : EmU w b m) (hd : d.1.length ≤ 100000000) (hn : 1 ≤ nodes ∧ nodes ≤ 16) :
  Calls Tryz.prog 93 #[.agg m.cs,.int .u8 113,.agg #[.bool d.2,.string (S d.1)],.int .i64 nodes] w fun e w' => EvB (thingE nodes.toNat m.ev .Q d) b w e w':=by
 have HT:=hide h;have HNU : Hid (∀ W,Calls Tryz.prog 105 #[.agg #[.bool d.2,.string (S d.1)]] W fun e w' => e = .returned (.int .i64 (wcntZ d)) ∧ Below W.heap.size W w'):=fun W => number_ref d.2 (S d.1) W (by rw [S_size];omega)
 obtain ⟨x,hx⟩ : ∃ x,x = wcntZ d:=⟨_,rfl⟩;rw [← hx] at HNU;have HX:=hide hx;clear h hx;go_enter Tryz.func93,Tryz.ntmps93;go_upto_region 1 with fail
 generalize hW0 : World.alloc (World.alloc (World.alloc w _) _) _ = W0
 have HS0 : Hid (E2 w W0 b w.heap.size (w.heap.size + 1 + 1) m):=by
  show E2 _ _ _ _ _ _;rw [← hW0];exact E2.three HT.out _ _ rfl
 have HB0 : Hid (Blk W0 (w.heap.size + 1) 165 #[.bool d.2,.string (S d.1)]):=by
  show Blk _ _ _ _;rw [← hW0];exact (Blk.new' _ _ _ _ (by simp)).alloc _
 clear hW0;have k0:=wb0 HB0.out;have k1:=wb1 HB0.out;go_upto_region 8 with (go_at_call 105;refine (HNU.out _).mono ?_;rintro e w2 ⟨rfl,hb2⟩;have HS2:=hide (HS0.out.step hb2);have c2:=eb2 HS2.out.box;have f2:=Blk.frozen HS2.out.box 2;clear hb2)
 obtain ⟨m',hm'⟩ : ∃ m' : Em,m' = { m with b:=x }:=⟨_,rfl⟩;have HM:=hide hm';obtain ⟨W8,hW8⟩ : ∃ W8,W8 = w2.setCell ⟨w.heap.size,2,none⟩ (.int .i64 x):=⟨_,rfl⟩
 have HS8 : Hid (E2 w W8 b w.heap.size (w.heap.size + 1 + 1) m'):=by
  show E2 _ _ _ _ _ _;rw [hW8];exact HS2.out.set 2 _ (by rw [hm'];exact eset_b m _) (by rw [hm'];exact ⟨HS2.out.t.sid,HS2.out.t.body,HS2.out.t.hs,HS2.out.t.hb⟩)
 rw [← hW8];have HEV : Hid (m'.ev = { m.ev with b:=x }):=by show _ = _;rw [hm'];rfl
 clear hm' f2 c2 hW8 k0 k1
 cases hc : wcnt d with
 | none =>
  have hx1 : x = -1:=HX.out.trans (wcntZ_none hc);have HR : Hid (thingE nodes.toNat m.ev .Q d = none):=by show _ = _;unfold thingE;simp only [hc]
  subst hx1;clear hc;have HA : Hid (m'.a = m.a):=by show _ = _;rw [HM.out]
  have HQ8 : Hid (Blk W8.drew w.heap.size 33 m'.cs):=HS8.out.box.drew;obtain ⟨Z,hZs,hZ⟩:=HS8.out.out;refine wp_region_L [] (fun V => Blk V w.heap.size 33 m'.cs) (by kernel_rfl) ?_;refine tk 0 30 (v:=.agg m'.cs) rfl HQ8.out ?_ ?_
  ·intro V hV;exact ex_load 33 (.tmp 4) rfl _ rfl m'.cs _ Tryz.underlying33 rfl (ld29 _ (em_size _)) (ebox_all hV)
  try simp only [Act.put,aSt,aSz,aSs]
  refine tk 1 31 (v:=?_) rfl HQ8.out ?_ ?_
  rotate_left;· intro V hV;go_simp;try with_reducible rfl
  try simp only [Act.put,aSt,aSz,aSs]
  refine tk 2 32 (v:=?_) rfl HQ8.out ?_ ?_
  rotate_left;· intro V hV;go_simp;try with_reducible rfl
  try simp only [Act.put,aSt,aSz,aSs]
  refine tk 3 33 (v:=?_) rfl HQ8.out ?_ ?_
  rotate_left;· intro V hV;go_simp;try with_reducible rfl
  try simp only [Act.put,aSt,aSz,aSs]
  refine tn 4 34 rfl HQ8.out ?_;try simp only [Act.put,aSt,aSz,aSs]
  refine tn 5 35 rfl HQ8.out ?_;try simp only [Act.put,aSt,aSz,aSs]
  refine tn 6 36 rfl HQ8.out ?_;try simp only [Act.put,aSt,aSz,aSs]
  refine tk 7 37 (v:=?_) rfl HQ8.out ?_ ?_
  rotate_left;· intro V hV;go_simp;try with_reducible rfl
  try simp only [Act.put,aSt,aSz,aSs]
  refine tk 8 38 (v:=?_) rfl HQ8.out ?_ ?_
  rotate_left;· intro V hV;go_simp;try with_reducible rfl
  try simp only [Act.put,aSt,aSz,aSs]
  refine tn 9 39 rfl HQ8.out ?_;try simp only [Act.put,aSt,aSz,aSs]
  refine tn 10 40 rfl HQ8.out ?_;try simp only [Act.put,aSt,aSz,aSs]
  refine tn 11 41 rfl HQ8.out ?_;try simp only [Act.put,aSt,aSz,aSs]
  refine tn 12 42 rfl HQ8.out ?_;try simp only [Act.put,aSt,aSz,aSs]
  refine tk 13 43 (v:=?_) rfl HQ8.out ?_ ?_
  rotate_left;· intro V hV;go_simp;try with_reducible rfl
  try simp only [Act.put,aSt,aSz,aSs]
  have HQ9 : Hid (Blk (W8.drew.setRow (w.heap.size + 1 + 1) m'.cs) w.heap.size 33 m'.cs):=HQ8.out.row_far (by omega) _;refine wpL_one 14 (by kernel_rfl) rfl (fun K hK => ?_);refine one_skip (by rfl) (run_put_at 33 (.tmp 8) (.tmp 30) rfl (w.heap.size + 1 + 1) 0 m'.cs rfl rfl 33 Z hZ.drew (ld29 _ (em_size _)) (by rw [em_size,hZs];omega) (ecs_all m') _ (eput_zero Z hZs m')) (hK _ _ (fun _ => HQ9.out) ?_);clear hK K;try simp only [Act.put,aSt,aSz,aSs]
  refine wpL_one 15 (by kernel_rfl) rfl (fun K hK => ?_);rw [if_pos (by rfl)];go_simp;refine hK _ _ (fun _ => HQ9.out) ?_;clear hK K;try simp only [Act.put,aSt,aSz,aSs]
  refine wpL_done (by kernel_rfl) ?_ _;go_wp2_with fail;refine bodyPost_ret (results_29b rfl _ rfl (hZ.drew.row _) rfl) rfl ?_;exact HS8.out.drew.fin (fun h => by cases h) (fun _ => HR.out)
 | some k =>
  have hx1 : x = (k : Int):=HX.out.trans (wcntZ_some hc);have k0 : (0 : Int) ≤ (k : Int):=by omega
  subst hx1
  by_cases hk : k < nodes.toNat
  ·have e1 : (k : Int) < nodes:=by omega
   by_cases ha : (k : Int) = m.a
   ·have HR : Hid (thingE nodes.toNat m.ev .Q d = none):=by show _ = _;unfold thingE;simp only [hc];rw [if_neg (fun h => h.2 ha)]
    have e2 : ((k : Int) != m.a) = false:=by simp [ha]
    clear hc hk ha;have HA : Hid (m'.a = m.a):=by show _ = _;rw [HM.out]
    have HQ8 : Hid (Blk W8.drew w.heap.size 33 m'.cs):=HS8.out.box.drew;obtain ⟨Z,hZs,hZ⟩:=HS8.out.out;refine wp_region_L [] (fun V => Blk V w.heap.size 33 m'.cs) (by kernel_rfl) ?_;refine tk 0 30 (v:=.agg m'.cs) rfl HQ8.out ?_ ?_
    ·intro V hV;exact ex_load 33 (.tmp 4) rfl _ rfl m'.cs _ Tryz.underlying33 rfl (ld29 _ (em_size _)) (ebox_all hV)
    try simp only [Act.put,aSt,aSz,aSs]
    refine tk 1 31 (v:=?_) rfl HQ8.out ?_ ?_
    rotate_left;· intro V hV;go_simp;try with_reducible rfl
    try simp only [Act.put,aSt,aSz,aSs]
    refine tk 2 32 (v:=?_) rfl HQ8.out ?_ ?_
    rotate_left;· intro V hV;go_simp;try with_reducible rfl
    try simp only [Act.put,aSt,aSz,aSs]
    refine tk 3 33 (v:=?_) rfl HQ8.out ?_ ?_
    rotate_left;· intro V hV;go_simp;try with_reducible rfl
    try simp only [Act.put,aSt,aSz,aSs]
    refine tk 4 34 (v:=?_) rfl HQ8.out ?_ ?_
    rotate_left;· intro V hV;go_simp;try with_reducible rfl
    try simp only [Act.put,aSt,aSz,aSs]
    refine tk 5 35 (v:=?_) rfl HQ8.out ?_ ?_
    rotate_left;· intro V hV;go_simp;try with_reducible rfl
    try simp only [Act.put,aSt,aSz,aSs]
    refine tk 6 36 (v:=?_) rfl HQ8.out ?_ ?_
    rotate_left;· intro V hV;go_simp;try with_reducible rfl
    try simp only [Act.put,aSt,aSz,aSs]
    refine tk 7 37 (v:=?_) rfl HQ8.out ?_ ?_
    rotate_left;· intro V hV;go_simp;try with_reducible rfl
    try simp only [Act.put,aSt,aSz,aSs]
    refine tk 8 38 (v:=?_) rfl HQ8.out ?_ ?_
    rotate_left;· intro V hV;go_simp;try with_reducible rfl
    try simp only [Act.put,aSt,aSz,aSs]
    refine tk 9 39 (v:=?_) rfl HQ8.out ?_ ?_
    rotate_left;· intro V hV;go_simp;try with_reducible rfl
    try simp only [Act.put,aSt,aSz,aSs]
    refine tk 10 40 (v:=?_) rfl HQ8.out ?_ ?_
    rotate_left;· intro V hV;go_simp;try with_reducible rfl
    try simp only [Act.put,aSt,aSz,aSs]
    refine tk 11 41 (v:=?_) rfl HQ8.out ?_ ?_
    rotate_left
    ·intro V hV
     have k:=eb1 hV;rw [HA.out] at k;go_simp;try with_reducible rfl
    try simp only [Act.put,aSt,aSz,aSs]
    refine tk 12 42 (v:=?_) rfl HQ8.out ?_ ?_
    rotate_left;· intro V hV;go_simp;try with_reducible rfl
    try simp only [Act.put,aSt,aSz,aSs]
    refine tk 13 43 (v:=?_) rfl HQ8.out ?_ ?_
    rotate_left;· intro V hV;go_simp;try with_reducible rfl
    try simp only [Act.put,aSt,aSz,aSs]
    have HQ9 : Hid (Blk (W8.drew.setRow (w.heap.size + 1 + 1) m'.cs) w.heap.size 33 m'.cs):=HQ8.out.row_far (by omega) _;refine wpL_one 14 (by kernel_rfl) rfl (fun K hK => ?_);refine one_skip (by rfl) (run_put_at 33 (.tmp 8) (.tmp 30) rfl (w.heap.size + 1 + 1) 0 m'.cs rfl rfl 33 Z hZ.drew (ld29 _ (em_size _)) (by rw [em_size,hZs];omega) (ecs_all m') _ (eput_zero Z hZs m')) (hK _ _ (fun _ => HQ9.out) ?_);clear hK K;try simp only [Act.put,aSt,aSz,aSs]
    refine wpL_one 15 (by kernel_rfl) rfl (fun K hK => ?_);rw [if_pos (by rfl)];go_simp;refine hK _ _ (fun _ => HQ9.out) ?_;clear hK K;try simp only [Act.put,aSt,aSz,aSs]
    refine wpL_done (by kernel_rfl) ?_ _;go_wp2_with fail;refine bodyPost_ret (results_29b rfl _ rfl (hZ.drew.row _) rfl) rfl ?_;exact HS8.out.drew.fin (fun h => by cases h) (fun _ => HR.out)
   ·have HR : Hid (thingE nodes.toNat m.ev .Q d = some { m.ev with b:=(k : Int) }):=by show _ = _;unfold thingE;simp only [hc];rw [if_pos ⟨hk,ha⟩]
    have e2 : ((k : Int) != m.a) = true:=by simp [ha]
    clear hc hk ha;have HA : Hid (m'.a = m.a):=by show _ = _;rw [HM.out]
    have HQ8 : Hid (Blk W8.drew w.heap.size 33 m'.cs):=HS8.out.box.drew;obtain ⟨Z,hZs,hZ⟩:=HS8.out.out;refine wp_region_L [] (fun V => Blk V w.heap.size 33 m'.cs) (by kernel_rfl) ?_;refine tk 0 30 (v:=.agg m'.cs) rfl HQ8.out ?_ ?_
    ·intro V hV;exact ex_load 33 (.tmp 4) rfl _ rfl m'.cs _ Tryz.underlying33 rfl (ld29 _ (em_size _)) (ebox_all hV)
    try simp only [Act.put,aSt,aSz,aSs]
    refine tk 1 31 (v:=?_) rfl HQ8.out ?_ ?_
    rotate_left;· intro V hV;go_simp;try with_reducible rfl
    try simp only [Act.put,aSt,aSz,aSs]
    refine tk 2 32 (v:=?_) rfl HQ8.out ?_ ?_
    rotate_left;· intro V hV;go_simp;try with_reducible rfl
    try simp only [Act.put,aSt,aSz,aSs]
    refine tk 3 33 (v:=?_) rfl HQ8.out ?_ ?_
    rotate_left;· intro V hV;go_simp;try with_reducible rfl
    try simp only [Act.put,aSt,aSz,aSs]
    refine tk 4 34 (v:=?_) rfl HQ8.out ?_ ?_
    rotate_left;· intro V hV;go_simp;try with_reducible rfl
    try simp only [Act.put,aSt,aSz,aSs]
    refine tk 5 35 (v:=?_) rfl HQ8.out ?_ ?_
    rotate_left;· intro V hV;go_simp;try with_reducible rfl
    try simp only [Act.put,aSt,aSz,aSs]
    refine tk 6 36 (v:=?_) rfl HQ8.out ?_ ?_
    rotate_left;· intro V hV;go_simp;try with_reducible rfl
    try simp only [Act.put,aSt,aSz,aSs]
    refine tk 7 37 (v:=?_) rfl HQ8.out ?_ ?_
    rotate_left;· intro V hV;go_simp;try with_reducible rfl
    try simp only [Act.put,aSt,aSz,aSs]
    refine tk 8 38 (v:=?_) rfl HQ8.out ?_ ?_
    rotate_left;· intro V hV;go_simp;try with_reducible rfl
    try simp only [Act.put,aSt,aSz,aSs]
    refine tk 9 39 (v:=?_) rfl HQ8.out ?_ ?_
    rotate_left;· intro V hV;go_simp;try with_reducible rfl
    try simp only [Act.put,aSt,aSz,aSs]
    refine tk 10 40 (v:=?_) rfl HQ8.out ?_ ?_
    rotate_left;· intro V hV;go_simp;try with_reducible rfl
    try simp only [Act.put,aSt,aSz,aSs]
    refine tk 11 41 (v:=?_) rfl HQ8.out ?_ ?_
    rotate_left
    ·intro V hV
     have k:=eb1 hV;rw [HA.out] at k;go_simp;try with_reducible rfl
    try simp only [Act.put,aSt,aSz,aSs]
    refine tk 12 42 (v:=?_) rfl HQ8.out ?_ ?_
    rotate_left;· intro V hV;go_simp;try with_reducible rfl
    try simp only [Act.put,aSt,aSz,aSs]
    refine tk 13 43 (v:=?_) rfl HQ8.out ?_ ?_
    rotate_left;· intro V hV;go_simp;try with_reducible rfl
    try simp only [Act.put,aSt,aSz,aSs]
    have HQ9 : Hid (Blk (W8.drew.setRow (w.heap.size + 1 + 1) m'.cs) w.heap.size 33 m'.cs):=HQ8.out.row_far (by omega) _;refine wpL_one 14 (by kernel_rfl) rfl (fun K hK => ?_);refine one_skip (by rfl) (run_put_at 33 (.tmp 8) (.tmp 30) rfl (w.heap.size + 1 + 1) 0 m'.cs rfl rfl 33 Z hZ.drew (ld29 _ (em_size _)) (by rw [em_size,hZs];omega) (ecs_all m') _ (eput_zero Z hZs m')) (hK _ _ (fun _ => HQ9.out) ?_);clear hK K;try simp only [Act.put,aSt,aSz,aSs]
    refine wpL_one 15 (by kernel_rfl) rfl (fun K hK => ?_);rw [if_pos (by rfl)];go_simp;refine hK _ _ (fun _ => HQ9.out) ?_;clear hK K;try simp only [Act.put,aSt,aSz,aSs]
    refine wpL_done (by kernel_rfl) ?_ _;go_wp2_with fail;refine bodyPost_ret (results_29b rfl _ rfl (hZ.drew.row _) rfl) rfl ?_;exact HS8.out.drew.fin (fun _ => HR.out.trans (congrArg some HEV.out.symm)) (fun h => by cases h)
  ·have HR : Hid (thingE nodes.toNat m.ev .Q d = none):=by show _ = _;unfold thingE;simp only [hc];rw [if_neg (fun h => hk h.1)]
   have e1 : ¬ (k : Int) < nodes:=by omega
   clear hc hk;have HA : Hid (m'.a = m.a):=by show _ = _;rw [HM.out]
   have HQ8 : Hid (Blk W8.drew w.heap.size 33 m'.cs):=HS8.out.box.drew;obtain ⟨Z,hZs,hZ⟩:=HS8.out.out;refine wp_region_L [] (fun V => Blk V w.heap.size 33 m'.cs) (by kernel_rfl) ?_;refine tk 0 30 (v:=.agg m'.cs) rfl HQ8.out ?_ ?_
   ·intro V hV;exact ex_load 33 (.tmp 4) rfl _ rfl m'.cs _ Tryz.underlying33 rfl (ld29 _ (em_size _)) (ebox_all hV)
   try simp only [Act.put,aSt,aSz,aSs]
   refine tk 1 31 (v:=?_) rfl HQ8.out ?_ ?_
   rotate_left;· intro V hV;go_simp;try with_reducible rfl
   try simp only [Act.put,aSt,aSz,aSs]
   refine tk 2 32 (v:=?_) rfl HQ8.out ?_ ?_
   rotate_left;· intro V hV;go_simp;try with_reducible rfl
   try simp only [Act.put,aSt,aSz,aSs]
   refine tk 3 33 (v:=?_) rfl HQ8.out ?_ ?_
   rotate_left;· intro V hV;go_simp;try with_reducible rfl
   try simp only [Act.put,aSt,aSz,aSs]
   refine tk 4 34 (v:=?_) rfl HQ8.out ?_ ?_
   rotate_left;· intro V hV;go_simp;try with_reducible rfl
   try simp only [Act.put,aSt,aSz,aSs]
   refine tk 5 35 (v:=?_) rfl HQ8.out ?_ ?_
   rotate_left;· intro V hV;go_simp;try with_reducible rfl
   try simp only [Act.put,aSt,aSz,aSs]
   refine tk 6 36 (v:=?_) rfl HQ8.out ?_ ?_
   rotate_left;· intro V hV;go_simp;try with_reducible rfl
   try simp only [Act.put,aSt,aSz,aSs]
   refine tk 7 37 (v:=?_) rfl HQ8.out ?_ ?_
   rotate_left;· intro V hV;go_simp;try with_reducible rfl
   try simp only [Act.put,aSt,aSz,aSs]
   refine tk 8 38 (v:=?_) rfl HQ8.out ?_ ?_
   rotate_left;· intro V hV;go_simp;try with_reducible rfl
   try simp only [Act.put,aSt,aSz,aSs]
   refine tn 9 39 rfl HQ8.out ?_;try simp only [Act.put,aSt,aSz,aSs]
   refine tn 10 40 rfl HQ8.out ?_;try simp only [Act.put,aSt,aSz,aSs]
   refine tn 11 41 rfl HQ8.out ?_;try simp only [Act.put,aSt,aSz,aSs]
   refine tn 12 42 rfl HQ8.out ?_;try simp only [Act.put,aSt,aSz,aSs]
   refine tk 13 43 (v:=?_) rfl HQ8.out ?_ ?_
   rotate_left;· intro V hV;go_simp;try with_reducible rfl
   try simp only [Act.put,aSt,aSz,aSs]
   have HQ9 : Hid (Blk (W8.drew.setRow (w.heap.size + 1 + 1) m'.cs) w.heap.size 33 m'.cs):=HQ8.out.row_far (by omega) _;refine wpL_one 14 (by kernel_rfl) rfl (fun K hK => ?_);refine one_skip (by rfl) (run_put_at 33 (.tmp 8) (.tmp 30) rfl (w.heap.size + 1 + 1) 0 m'.cs rfl rfl 33 Z hZ.drew (ld29 _ (em_size _)) (by rw [em_size,hZs];omega) (ecs_all m') _ (eput_zero Z hZs m')) (hK _ _ (fun _ => HQ9.out) ?_);clear hK K;try simp only [Act.put,aSt,aSz,aSs]
   refine wpL_one 15 (by kernel_rfl) rfl (fun K hK => ?_);rw [if_pos (by rfl)];go_simp;refine hK _ _ (fun _ => HQ9.out) ?_;clear hK K;try simp only [Act.put,aSt,aSz,aSs]
   refine wpL_done (by kernel_rfl) ?_ _;go_wp2_with fail;refine bodyPost_ret (results_29b rfl _ rfl (hZ.drew.row _) rfl) rfl ?_;exact HS8.out.drew.fin (fun h => by cases h) (fun _ => HR.out)
theorem thing_T (m : Em) (d : Wd) (nodes : Int) (b : Nat) (w : World) (h : EmU w b m) (hb : b ≤ w.heap.size) (hd : d.1.length ≤ 100000000) (hn : 1 ≤ nodes ∧ nodes ≤ 16) :
  Calls Tryz.prog 93 #[.agg m.cs,.int .u8 116,.agg #[.bool d.2,.string (S d.1)],.int .i64 nodes] w fun e w' => EvB (thingE nodes.toNat m.ev .T d) b w e w':=by
 have HT:=hide h;have HNU : Hid (∀ W,Calls Tryz.prog 105 #[.agg #[.bool d.2,.string (S d.1)]] W fun e w' => e = .returned (.int .i64 (wcntZ d)) ∧ Below W.heap.size W w'):=fun W => number_ref d.2 (S d.1) W (by rw [S_size];omega)
 obtain ⟨x,hx⟩ : ∃ x,x = wcntZ d:=⟨_,rfl⟩;rw [← hx] at HNU;have HX:=hide hx;clear h hx;go_enter Tryz.func93,Tryz.ntmps93;go_upto_region 1 with fail
 generalize hW0 : World.alloc (World.alloc (World.alloc w _) _) _ = W0
 have HS0 : Hid (E2 w W0 b w.heap.size (w.heap.size + 1 + 1) m):=by
  show E2 _ _ _ _ _ _;rw [← hW0];exact E2.three HT.out _ _ rfl
 have HB0 : Hid (Blk W0 (w.heap.size + 1) 165 #[.bool d.2,.string (S d.1)]):=by
  show Blk _ _ _ _;rw [← hW0];exact (Blk.new' _ _ _ _ (by simp)).alloc _
 clear hW0;have k0:=wb0 HB0.out;have k1:=wb1 HB0.out
 go_upto_region 20 with (first
  | (go_at_call 105;refine (HNU.out _).mono ?_;rintro e w2 ⟨rfl,hb2⟩;have HS2:=hide (HS0.out.step hb2);have HB2:=hide (HB0.out.below hb2 HB0.out.lt);have k2:=wb1 HB2.out;have hbw : b ≤ w2.heap.size:=Nat.le_trans hb (HS2.out.low.size);obtain ⟨c4,w4,hcv,hrb,hb4⟩:=conv_made w2 d.1 hbw;have HS4:=hide (HS2.out.step hb4);have HB4:=hide (HB2.out.below hb4 HB2.out.lt);have HRB:=hide hrb;have c9:=eb4 HS4.out.box;have f9:=Blk.frozen HS4.out.box 4;clear hb2 hb4 hrb))
 obtain ⟨m',hm'⟩ : ∃ m' : Em,m' = { m with Ab:=some ⟨w2.heap.size,0,none⟩,nb:=d.1.length,cb:=c4,bd:=d.1 }:=⟨_,rfl⟩;have HM:=hide hm';obtain ⟨W8,hW8⟩ : ∃ W8,W8 = w4.setCell ⟨w.heap.size,4,none⟩ (.slice (some ⟨w2.heap.size,0,none⟩) d.1.length c4):=⟨_,rfl⟩
 have HS8 : Hid (E2 w W8 b w.heap.size (w.heap.size + 1 + 1) m'):=by
  show E2 _ _ _ _ _ _;rw [hW8];exact HS4.out.set 4 _ (by rw [hm'];exact eset_bd m _ _ _ d.1) (by rw [hm'];exact ⟨HS4.out.t.sid,HRB.out,HS4.out.t.hs,hd⟩)
 have HB8 : Hid (Blk W8 (w.heap.size + 1) 165 #[.bool d.2,.string (S d.1)]):=by
  show Blk _ _ _ _;rw [hW8];exact HS4.out.word HB4.out
 rw [← hW8];have HEV : Hid (m'.ev = { m.ev with bd:=d.1 }):=by show _ = _;rw [hm'];rfl
 clear hm' f9 c9 hW8 k0 k1 k2 hcv;obtain ⟨Z,hZs,hZ⟩:=HS8.out.out
 cases hq : d.2 with
 | false =>
  have HQT:=hide hq;have HR : Hid (thingE nodes.toNat m.ev .T d = none):=by show _ = _;unfold thingE;simp only;rw [if_neg (by rw [hq];rintro ⟨h,_⟩;cases h)]
  clear hq;have HQ8 : Hid (Blk W8.drew w.heap.size 33 m'.cs ∧ Blk W8.drew (w.heap.size + 1) 165 #[.bool false,.string (S d.1)]):=⟨HS8.out.box.drew,by have:=HB8.out.drew;rw [HQT.out] at this;exact this⟩;refine wp_region_L [] (fun V => Blk V w.heap.size 33 m'.cs ∧ Blk V (w.heap.size + 1) 165 #[.bool false,.string (S d.1)]) (by kernel_rfl) ?_;refine tk 0 75 (v:=.agg m'.cs) rfl HQ8.out ?_ ?_
  ·intro V hV;exact ex_load 33 (.tmp 4) rfl _ rfl m'.cs _ Tryz.underlying33 rfl (ld29 _ (em_size _)) (ebox_all hV.1)
  try simp only [Act.put,aSt,aSz,aSs]
  refine tk 1 76 (v:=?_) rfl HQ8.out ?_ ?_
  rotate_left;· intro V hV;go_simp;try with_reducible rfl
  try simp only [Act.put,aSt,aSz,aSs]
  refine tk 2 77 (v:=?_) rfl HQ8.out ?_ ?_
  rotate_left
  ·intro V hV
   have k:=wb0 hV.2;go_simp;try with_reducible rfl
  try simp only [Act.put,aSt,aSz,aSs]
  refine tk 3 78 (v:=?_) rfl HQ8.out ?_ ?_
  rotate_left;· intro V hV;go_simp;try with_reducible rfl
  try simp only [Act.put,aSt,aSz,aSs]
  refine tn 4 79 rfl HQ8.out ?_;try simp only [Act.put,aSt,aSz,aSs]
  refine tn 5 80 rfl HQ8.out ?_;try simp only [Act.put,aSt,aSz,aSs]
  refine tn 6 81 rfl HQ8.out ?_;try simp only [Act.put,aSt,aSz,aSs]
  refine tn 7 82 rfl HQ8.out ?_;try simp only [Act.put,aSt,aSz,aSs]
  refine tk 8 83 (v:=?_) rfl HQ8.out ?_ ?_
  rotate_left;· intro V hV;go_simp;try with_reducible rfl
  try simp only [Act.put,aSt,aSz,aSs]
  have HQ9 : Hid (Blk (W8.drew.setRow (w.heap.size + 1 + 1) m'.cs) w.heap.size 33 m'.cs ∧ Blk (W8.drew.setRow (w.heap.size + 1 + 1) m'.cs) (w.heap.size + 1) 165 #[.bool false,.string (S d.1)]):=⟨HQ8.out.1.row_far (by omega) _,HQ8.out.2.row_far (by omega) _⟩;refine wpL_one 9 (by kernel_rfl) rfl (fun K hK => ?_);refine one_skip (by rfl) (run_put_at 33 (.tmp 8) (.tmp 75) rfl (w.heap.size + 1 + 1) 0 m'.cs rfl rfl 33 Z hZ.drew (ld29 _ (em_size _)) (by rw [em_size,hZs];omega) (ecs_all m') _ (eput_zero Z hZs m')) (hK _ _ (fun _ => HQ9.out) ?_);clear hK K;try simp only [Act.put,aSt,aSz,aSs]
  refine wpL_one 10 (by kernel_rfl) rfl (fun K hK => ?_);rw [if_pos (by rfl)];go_simp;refine hK _ _ (fun _ => HQ9.out) ?_;clear hK K;try simp only [Act.put,aSt,aSz,aSs]
  refine wpL_done (by kernel_rfl) ?_ _;go_wp2_with fail;refine bodyPost_ret (results_29b rfl _ rfl (hZ.drew.row _) rfl) rfl ?_;exact HS8.out.drew.fin (fun h => by cases h) (fun _ => HR.out)
 | true =>
  have HQT:=hide hq
  by_cases hl : d.1.length ≤ 4000
  ·have HR : Hid (thingE nodes.toNat m.ev .T d = some { m.ev with bd:=d.1 }):=by show _ = _;unfold thingE;simp only;rw [if_pos ⟨hq,hl⟩]
   have e1 : (d.1.length : Int) ≤ 4000:=by omega
   clear hq hl;have HQ8 : Hid (Blk W8.drew w.heap.size 33 m'.cs ∧ Blk W8.drew (w.heap.size + 1) 165 #[.bool true,.string (S d.1)]):=⟨HS8.out.box.drew,by have:=HB8.out.drew;rw [HQT.out] at this;exact this⟩;refine wp_region_L [] (fun V => Blk V w.heap.size 33 m'.cs ∧ Blk V (w.heap.size + 1) 165 #[.bool true,.string (S d.1)]) (by kernel_rfl) ?_;refine tk 0 75 (v:=.agg m'.cs) rfl HQ8.out ?_ ?_
   ·intro V hV;exact ex_load 33 (.tmp 4) rfl _ rfl m'.cs _ Tryz.underlying33 rfl (ld29 _ (em_size _)) (ebox_all hV.1)
   try simp only [Act.put,aSt,aSz,aSs]
   refine tk 1 76 (v:=?_) rfl HQ8.out ?_ ?_
   rotate_left;· intro V hV;go_simp;try with_reducible rfl
   try simp only [Act.put,aSt,aSz,aSs]
   refine tk 2 77 (v:=?_) rfl HQ8.out ?_ ?_
   rotate_left
   ·intro V hV
    have k:=wb0 hV.2;go_simp;try with_reducible rfl
   try simp only [Act.put,aSt,aSz,aSs]
   refine tk 3 78 (v:=?_) rfl HQ8.out ?_ ?_
   rotate_left;· intro V hV;go_simp;try with_reducible rfl
   try simp only [Act.put,aSt,aSz,aSs]
   refine tk 4 79 (v:=?_) rfl HQ8.out ?_ ?_
   rotate_left;· intro V hV;go_simp;try with_reducible rfl
   try simp only [Act.put,aSt,aSz,aSs]
   refine tk 5 80 (v:=?_) rfl HQ8.out ?_ ?_
   rotate_left
   ·intro V hV
    have k:=wb1 hV.2;go_simp;try with_reducible rfl
   try simp only [Act.put,aSt,aSz,aSs]
   refine tk 6 81 (v:=?_) rfl HQ8.out ?_ ?_
   rotate_left
   ·intro V hV
    have k:=S_size d.1;go_simp;try with_reducible rfl
   try simp only [Act.put,aSt,aSz,aSs]
   refine tk 7 82 (v:=?_) rfl HQ8.out ?_ ?_
   rotate_left;· intro V hV;go_simp;try with_reducible rfl
   try simp only [Act.put,aSt,aSz,aSs]
   refine tk 8 83 (v:=?_) rfl HQ8.out ?_ ?_
   rotate_left;· intro V hV;go_simp;try with_reducible rfl
   try simp only [Act.put,aSt,aSz,aSs]
   have HQ9 : Hid (Blk (W8.drew.setRow (w.heap.size + 1 + 1) m'.cs) w.heap.size 33 m'.cs ∧ Blk (W8.drew.setRow (w.heap.size + 1 + 1) m'.cs) (w.heap.size + 1) 165 #[.bool true,.string (S d.1)]):=⟨HQ8.out.1.row_far (by omega) _,HQ8.out.2.row_far (by omega) _⟩;refine wpL_one 9 (by kernel_rfl) rfl (fun K hK => ?_);refine one_skip (by rfl) (run_put_at 33 (.tmp 8) (.tmp 75) rfl (w.heap.size + 1 + 1) 0 m'.cs rfl rfl 33 Z hZ.drew (ld29 _ (em_size _)) (by rw [em_size,hZs];omega) (ecs_all m') _ (eput_zero Z hZs m')) (hK _ _ (fun _ => HQ9.out) ?_);clear hK K;try simp only [Act.put,aSt,aSz,aSs]
   refine wpL_one 10 (by kernel_rfl) rfl (fun K hK => ?_);rw [if_pos (by rfl)];go_simp;refine hK _ _ (fun _ => HQ9.out) ?_;clear hK K;try simp only [Act.put,aSt,aSz,aSs]
   refine wpL_done (by kernel_rfl) ?_ _;go_wp2_with fail;refine bodyPost_ret (results_29b rfl _ rfl (hZ.drew.row _) rfl) rfl ?_;exact HS8.out.drew.fin (fun _ => HR.out.trans (congrArg some HEV.out.symm)) (fun h => by cases h)
  ·have HR : Hid (thingE nodes.toNat m.ev .T d = none):=by show _ = _;unfold thingE;simp only;rw [if_neg (fun h => hl h.2)]
   have e1 : ¬ (d.1.length : Int) ≤ 4000:=by omega
   clear hq hl;have HQ8 : Hid (Blk W8.drew w.heap.size 33 m'.cs ∧ Blk W8.drew (w.heap.size + 1) 165 #[.bool true,.string (S d.1)]):=⟨HS8.out.box.drew,by have:=HB8.out.drew;rw [HQT.out] at this;exact this⟩;refine wp_region_L [] (fun V => Blk V w.heap.size 33 m'.cs ∧ Blk V (w.heap.size + 1) 165 #[.bool true,.string (S d.1)]) (by kernel_rfl) ?_;refine tk 0 75 (v:=.agg m'.cs) rfl HQ8.out ?_ ?_
   ·intro V hV;exact ex_load 33 (.tmp 4) rfl _ rfl m'.cs _ Tryz.underlying33 rfl (ld29 _ (em_size _)) (ebox_all hV.1)
   try simp only [Act.put,aSt,aSz,aSs]
   refine tk 1 76 (v:=?_) rfl HQ8.out ?_ ?_
   rotate_left;· intro V hV;go_simp;try with_reducible rfl
   try simp only [Act.put,aSt,aSz,aSs]
   refine tk 2 77 (v:=?_) rfl HQ8.out ?_ ?_
   rotate_left
   ·intro V hV
    have k:=wb0 hV.2;go_simp;try with_reducible rfl
   try simp only [Act.put,aSt,aSz,aSs]
   refine tk 3 78 (v:=?_) rfl HQ8.out ?_ ?_
   rotate_left;· intro V hV;go_simp;try with_reducible rfl
   try simp only [Act.put,aSt,aSz,aSs]
   refine tk 4 79 (v:=?_) rfl HQ8.out ?_ ?_
   rotate_left;· intro V hV;go_simp;try with_reducible rfl
   try simp only [Act.put,aSt,aSz,aSs]
   refine tk 5 80 (v:=?_) rfl HQ8.out ?_ ?_
   rotate_left
   ·intro V hV
    have k:=wb1 hV.2;go_simp;try with_reducible rfl
   try simp only [Act.put,aSt,aSz,aSs]
   refine tk 6 81 (v:=?_) rfl HQ8.out ?_ ?_
   rotate_left
   ·intro V hV
    have k:=S_size d.1;go_simp;try with_reducible rfl
   try simp only [Act.put,aSt,aSz,aSs]
   refine tk 7 82 (v:=?_) rfl HQ8.out ?_ ?_
   rotate_left;· intro V hV;go_simp;try with_reducible rfl
   try simp only [Act.put,aSt,aSz,aSs]
   refine tk 8 83 (v:=?_) rfl HQ8.out ?_ ?_
   rotate_left;· intro V hV;go_simp;try with_reducible rfl
   try simp only [Act.put,aSt,aSz,aSs]
   have HQ9 : Hid (Blk (W8.drew.setRow (w.heap.size + 1 + 1) m'.cs) w.heap.size 33 m'.cs ∧ Blk (W8.drew.setRow (w.heap.size + 1 + 1) m'.cs) (w.heap.size + 1) 165 #[.bool true,.string (S d.1)]):=⟨HQ8.out.1.row_far (by omega) _,HQ8.out.2.row_far (by omega) _⟩;refine wpL_one 9 (by kernel_rfl) rfl (fun K hK => ?_);refine one_skip (by rfl) (run_put_at 33 (.tmp 8) (.tmp 75) rfl (w.heap.size + 1 + 1) 0 m'.cs rfl rfl 33 Z hZ.drew (ld29 _ (em_size _)) (by rw [em_size,hZs];omega) (ecs_all m') _ (eput_zero Z hZs m')) (hK _ _ (fun _ => HQ9.out) ?_);clear hK K;try simp only [Act.put,aSt,aSz,aSs]
   refine wpL_one 10 (by kernel_rfl) rfl (fun K hK => ?_);rw [if_pos (by rfl)];go_simp;refine hK _ _ (fun _ => HQ9.out) ?_;clear hK K;try simp only [Act.put,aSt,aSz,aSs]
   refine wpL_done (by kernel_rfl) ?_ _;go_wp2_with fail;refine bodyPost_ret (results_29b rfl _ rfl (hZ.drew.row _) rfl) rfl ?_;exact HS8.out.drew.fin (fun h => by cases h) (fun _ => HR.out)
theorem thing_X (m : Em) (d : Wd) (nodes : Int) (b : Nat) (w : World) (h : EmU w b m) (hb : b ≤ w.heap.size) (hd : d.1.length ≤ 100000000) (hn : 1 ≤ nodes ∧ nodes ≤ 16) :
  Calls Tryz.prog 93 #[.agg m.cs,.int .u8 120,.agg #[.bool d.2,.string (S d.1)],.int .i64 nodes] w fun e w' => EvB (thingE nodes.toNat m.ev .X d) b w e w':=by
 have HT:=hide h;have HNU : Hid (∀ W,Calls Tryz.prog 105 #[.agg #[.bool d.2,.string (S d.1)]] W fun e w' => e = .returned (.int .i64 (wcntZ d)) ∧ Below W.heap.size W w'):=fun W => number_ref d.2 (S d.1) W (by rw [S_size];omega)
 obtain ⟨x,hx⟩ : ∃ x,x = wcntZ d:=⟨_,rfl⟩;rw [← hx] at HNU;have HX:=hide hx;clear h hx;go_enter Tryz.func93,Tryz.ntmps93;go_upto_region 1 with fail
 generalize hW0 : World.alloc (World.alloc (World.alloc w _) _) _ = W0
 have HS0 : Hid (E2 w W0 b w.heap.size (w.heap.size + 1 + 1) m):=by
  show E2 _ _ _ _ _ _;rw [← hW0];exact E2.three HT.out _ _ rfl
 have HB0 : Hid (Blk W0 (w.heap.size + 1) 165 #[.bool d.2,.string (S d.1)]):=by
  show Blk _ _ _ _;rw [← hW0];exact (Blk.new' _ _ _ _ (by simp)).alloc _
 clear hW0;have k0:=wb0 HB0.out;have k1:=wb1 HB0.out
 go_upto_region 22 with (first
  | (go_at_call 105;refine (HNU.out _).mono ?_;rintro e w2 ⟨rfl,hb2⟩;have HS2:=hide (HS0.out.step hb2);have HB2:=hide (HB0.out.below hb2 HB0.out.lt);have k2:=wb1 HB2.out;have hbw : b ≤ w2.heap.size:=Nat.le_trans hb (HS2.out.low.size);obtain ⟨c4,w4,hcv,hrb,hb4⟩:=conv_made w2 d.1 hbw;have HS4:=hide (HS2.out.step hb4);have HB4:=hide (HB2.out.below hb4 HB2.out.lt);have HRB:=hide hrb;have c9:=eb4 HS4.out.box;have f9:=Blk.frozen HS4.out.box 4;clear hb2 hb4 hrb))
 obtain ⟨m',hm'⟩ : ∃ m' : Em,m' = { m with Ab:=some ⟨w2.heap.size,0,none⟩,nb:=d.1.length,cb:=c4,bd:=d.1 }:=⟨_,rfl⟩;have HM:=hide hm';obtain ⟨W8,hW8⟩ : ∃ W8,W8 = w4.setCell ⟨w.heap.size,4,none⟩ (.slice (some ⟨w2.heap.size,0,none⟩) d.1.length c4):=⟨_,rfl⟩
 have HS8 : Hid (E2 w W8 b w.heap.size (w.heap.size + 1 + 1) m'):=by
  show E2 _ _ _ _ _ _;rw [hW8];exact HS4.out.set 4 _ (by rw [hm'];exact eset_bd m _ _ _ d.1) (by rw [hm'];exact ⟨HS4.out.t.sid,HRB.out,HS4.out.t.hs,hd⟩)
 have HB8 : Hid (Blk W8 (w.heap.size + 1) 165 #[.bool d.2,.string (S d.1)]):=by
  show Blk _ _ _ _;rw [hW8];exact HS4.out.word HB4.out
 rw [← hW8];have HEV : Hid (m'.ev = { m.ev with bd:=d.1 }):=by show _ = _;rw [hm'];rfl
 clear hm' f9 c9 hW8 k0 k1 k2 hcv;obtain ⟨Z,hZs,hZ⟩:=HS8.out.out
 cases hq : d.2 with
 | false =>
  have HQT:=hide hq;have HR : Hid (thingE nodes.toNat m.ev .X d = none):=by show _ = _;unfold thingE;simp only;rw [if_neg (by rw [hq];rintro ⟨h,_⟩;cases h)]
  clear hq;have HQ8 : Hid (Blk W8.drew w.heap.size 33 m'.cs ∧ Blk W8.drew (w.heap.size + 1) 165 #[.bool false,.string (S d.1)]):=⟨HS8.out.box.drew,by have:=HB8.out.drew;rw [HQT.out] at this;exact this⟩;refine wp_region_L [] (fun V => Blk V w.heap.size 33 m'.cs ∧ Blk V (w.heap.size + 1) 165 #[.bool false,.string (S d.1)]) (by kernel_rfl) ?_;refine tk 0 88 (v:=.agg m'.cs) rfl HQ8.out ?_ ?_
  ·intro V hV;exact ex_load 33 (.tmp 4) rfl _ rfl m'.cs _ Tryz.underlying33 rfl (ld29 _ (em_size _)) (ebox_all hV.1)
  try simp only [Act.put,aSt,aSz,aSs]
  refine tk 1 89 (v:=?_) rfl HQ8.out ?_ ?_
  rotate_left;· intro V hV;go_simp;try with_reducible rfl
  try simp only [Act.put,aSt,aSz,aSs]
  refine tk 2 90 (v:=?_) rfl HQ8.out ?_ ?_
  rotate_left
  ·intro V hV
   have k:=wb0 hV.2;go_simp;try with_reducible rfl
  try simp only [Act.put,aSt,aSz,aSs]
  refine tk 3 91 (v:=?_) rfl HQ8.out ?_ ?_
  rotate_left;· intro V hV;go_simp;try with_reducible rfl
  try simp only [Act.put,aSt,aSz,aSs]
  refine tn 4 92 rfl HQ8.out ?_;try simp only [Act.put,aSt,aSz,aSs]
  refine tn 5 93 rfl HQ8.out ?_;try simp only [Act.put,aSt,aSz,aSs]
  refine tn 6 94 rfl HQ8.out ?_;try simp only [Act.put,aSt,aSz,aSs]
  refine tn 7 95 rfl HQ8.out ?_;try simp only [Act.put,aSt,aSz,aSs]
  refine tk 8 96 (v:=?_) rfl HQ8.out ?_ ?_
  rotate_left;· intro V hV;go_simp;try with_reducible rfl
  try simp only [Act.put,aSt,aSz,aSs]
  have HQ9 : Hid (Blk (W8.drew.setRow (w.heap.size + 1 + 1) m'.cs) w.heap.size 33 m'.cs ∧ Blk (W8.drew.setRow (w.heap.size + 1 + 1) m'.cs) (w.heap.size + 1) 165 #[.bool false,.string (S d.1)]):=⟨HQ8.out.1.row_far (by omega) _,HQ8.out.2.row_far (by omega) _⟩;refine wpL_one 9 (by kernel_rfl) rfl (fun K hK => ?_);refine one_skip (by rfl) (run_put_at 33 (.tmp 8) (.tmp 88) rfl (w.heap.size + 1 + 1) 0 m'.cs rfl rfl 33 Z hZ.drew (ld29 _ (em_size _)) (by rw [em_size,hZs];omega) (ecs_all m') _ (eput_zero Z hZs m')) (hK _ _ (fun _ => HQ9.out) ?_);clear hK K;try simp only [Act.put,aSt,aSz,aSs]
  refine wpL_one 10 (by kernel_rfl) rfl (fun K hK => ?_);rw [if_pos (by rfl)];go_simp;refine hK _ _ (fun _ => HQ9.out) ?_;clear hK K;try simp only [Act.put,aSt,aSz,aSs]
  refine wpL_done (by kernel_rfl) ?_ _;go_wp2_with fail;refine bodyPost_ret (results_29b rfl _ rfl (hZ.drew.row _) rfl) rfl ?_;exact HS8.out.drew.fin (fun h => by cases h) (fun _ => HR.out)
 | true =>
  have HQT:=hide hq
  by_cases hl : d.1.length ≤ 40000
  ·have HR : Hid (thingE nodes.toNat m.ev .X d = some { m.ev with bd:=d.1 }):=by show _ = _;unfold thingE;simp only;rw [if_pos ⟨hq,hl⟩]
   have e1 : (d.1.length : Int) ≤ 40000:=by omega
   clear hq hl;have HQ8 : Hid (Blk W8.drew w.heap.size 33 m'.cs ∧ Blk W8.drew (w.heap.size + 1) 165 #[.bool true,.string (S d.1)]):=⟨HS8.out.box.drew,by have:=HB8.out.drew;rw [HQT.out] at this;exact this⟩;refine wp_region_L [] (fun V => Blk V w.heap.size 33 m'.cs ∧ Blk V (w.heap.size + 1) 165 #[.bool true,.string (S d.1)]) (by kernel_rfl) ?_;refine tk 0 88 (v:=.agg m'.cs) rfl HQ8.out ?_ ?_
   ·intro V hV;exact ex_load 33 (.tmp 4) rfl _ rfl m'.cs _ Tryz.underlying33 rfl (ld29 _ (em_size _)) (ebox_all hV.1)
   try simp only [Act.put,aSt,aSz,aSs]
   refine tk 1 89 (v:=?_) rfl HQ8.out ?_ ?_
   rotate_left;· intro V hV;go_simp;try with_reducible rfl
   try simp only [Act.put,aSt,aSz,aSs]
   refine tk 2 90 (v:=?_) rfl HQ8.out ?_ ?_
   rotate_left
   ·intro V hV
    have k:=wb0 hV.2;go_simp;try with_reducible rfl
   try simp only [Act.put,aSt,aSz,aSs]
   refine tk 3 91 (v:=?_) rfl HQ8.out ?_ ?_
   rotate_left;· intro V hV;go_simp;try with_reducible rfl
   try simp only [Act.put,aSt,aSz,aSs]
   refine tk 4 92 (v:=?_) rfl HQ8.out ?_ ?_
   rotate_left;· intro V hV;go_simp;try with_reducible rfl
   try simp only [Act.put,aSt,aSz,aSs]
   refine tk 5 93 (v:=?_) rfl HQ8.out ?_ ?_
   rotate_left
   ·intro V hV
    have k:=wb1 hV.2;go_simp;try with_reducible rfl
   try simp only [Act.put,aSt,aSz,aSs]
   refine tk 6 94 (v:=?_) rfl HQ8.out ?_ ?_
   rotate_left
   ·intro V hV
    have k:=S_size d.1;go_simp;try with_reducible rfl
   try simp only [Act.put,aSt,aSz,aSs]
   refine tk 7 95 (v:=?_) rfl HQ8.out ?_ ?_
   rotate_left;· intro V hV;go_simp;try with_reducible rfl
   try simp only [Act.put,aSt,aSz,aSs]
   refine tk 8 96 (v:=?_) rfl HQ8.out ?_ ?_
   rotate_left;· intro V hV;go_simp;try with_reducible rfl
   try simp only [Act.put,aSt,aSz,aSs]
   have HQ9 : Hid (Blk (W8.drew.setRow (w.heap.size + 1 + 1) m'.cs) w.heap.size 33 m'.cs ∧ Blk (W8.drew.setRow (w.heap.size + 1 + 1) m'.cs) (w.heap.size + 1) 165 #[.bool true,.string (S d.1)]):=⟨HQ8.out.1.row_far (by omega) _,HQ8.out.2.row_far (by omega) _⟩;refine wpL_one 9 (by kernel_rfl) rfl (fun K hK => ?_);refine one_skip (by rfl) (run_put_at 33 (.tmp 8) (.tmp 88) rfl (w.heap.size + 1 + 1) 0 m'.cs rfl rfl 33 Z hZ.drew (ld29 _ (em_size _)) (by rw [em_size,hZs];omega) (ecs_all m') _ (eput_zero Z hZs m')) (hK _ _ (fun _ => HQ9.out) ?_);clear hK K;try simp only [Act.put,aSt,aSz,aSs]
   refine wpL_one 10 (by kernel_rfl) rfl (fun K hK => ?_);rw [if_pos (by rfl)];go_simp;refine hK _ _ (fun _ => HQ9.out) ?_;clear hK K;try simp only [Act.put,aSt,aSz,aSs]
   refine wpL_done (by kernel_rfl) ?_ _;go_wp2_with fail;refine bodyPost_ret (results_29b rfl _ rfl (hZ.drew.row _) rfl) rfl ?_;exact HS8.out.drew.fin (fun _ => HR.out.trans (congrArg some HEV.out.symm)) (fun h => by cases h)
  ·have HR : Hid (thingE nodes.toNat m.ev .X d = none):=by show _ = _;unfold thingE;simp only;rw [if_neg (fun h => hl h.2)]
   have e1 : ¬ (d.1.length : Int) ≤ 40000:=by omega
   clear hq hl;have HQ8 : Hid (Blk W8.drew w.heap.size 33 m'.cs ∧ Blk W8.drew (w.heap.size + 1) 165 #[.bool true,.string (S d.1)]):=⟨HS8.out.box.drew,by have:=HB8.out.drew;rw [HQT.out] at this;exact this⟩;refine wp_region_L [] (fun V => Blk V w.heap.size 33 m'.cs ∧ Blk V (w.heap.size + 1) 165 #[.bool true,.string (S d.1)]) (by kernel_rfl) ?_;refine tk 0 88 (v:=.agg m'.cs) rfl HQ8.out ?_ ?_
   ·intro V hV;exact ex_load 33 (.tmp 4) rfl _ rfl m'.cs _ Tryz.underlying33 rfl (ld29 _ (em_size _)) (ebox_all hV.1)
   try simp only [Act.put,aSt,aSz,aSs]
   refine tk 1 89 (v:=?_) rfl HQ8.out ?_ ?_
   rotate_left;· intro V hV;go_simp;try with_reducible rfl
   try simp only [Act.put,aSt,aSz,aSs]
   refine tk 2 90 (v:=?_) rfl HQ8.out ?_ ?_
   rotate_left
   ·intro V hV
    have k:=wb0 hV.2;go_simp;try with_reducible rfl
   try simp only [Act.put,aSt,aSz,aSs]
   refine tk 3 91 (v:=?_) rfl HQ8.out ?_ ?_
   rotate_left;· intro V hV;go_simp;try with_reducible rfl
   try simp only [Act.put,aSt,aSz,aSs]
   refine tk 4 92 (v:=?_) rfl HQ8.out ?_ ?_
   rotate_left;· intro V hV;go_simp;try with_reducible rfl
   try simp only [Act.put,aSt,aSz,aSs]
   refine tk 5 93 (v:=?_) rfl HQ8.out ?_ ?_
   rotate_left
   ·intro V hV
    have k:=wb1 hV.2;go_simp;try with_reducible rfl
   try simp only [Act.put,aSt,aSz,aSs]
   refine tk 6 94 (v:=?_) rfl HQ8.out ?_ ?_
   rotate_left
   ·intro V hV
    have k:=S_size d.1;go_simp;try with_reducible rfl
   try simp only [Act.put,aSt,aSz,aSs]
   refine tk 7 95 (v:=?_) rfl HQ8.out ?_ ?_
   rotate_left;· intro V hV;go_simp;try with_reducible rfl
   try simp only [Act.put,aSt,aSz,aSs]
   refine tk 8 96 (v:=?_) rfl HQ8.out ?_ ?_
   rotate_left;· intro V hV;go_simp;try with_reducible rfl
   try simp only [Act.put,aSt,aSz,aSs]
   have HQ9 : Hid (Blk (W8.drew.setRow (w.heap.size + 1 + 1) m'.cs) w.heap.size 33 m'.cs ∧ Blk (W8.drew.setRow (w.heap.size + 1 + 1) m'.cs) (w.heap.size + 1) 165 #[.bool true,.string (S d.1)]):=⟨HQ8.out.1.row_far (by omega) _,HQ8.out.2.row_far (by omega) _⟩;refine wpL_one 9 (by kernel_rfl) rfl (fun K hK => ?_);refine one_skip (by rfl) (run_put_at 33 (.tmp 8) (.tmp 88) rfl (w.heap.size + 1 + 1) 0 m'.cs rfl rfl 33 Z hZ.drew (ld29 _ (em_size _)) (by rw [em_size,hZs];omega) (ecs_all m') _ (eput_zero Z hZs m')) (hK _ _ (fun _ => HQ9.out) ?_);clear hK K;try simp only [Act.put,aSt,aSz,aSs]
   refine wpL_one 10 (by kernel_rfl) rfl (fun K hK => ?_);rw [if_pos (by rfl)];go_simp;refine hK _ _ (fun _ => HQ9.out) ?_;clear hK K;try simp only [Act.put,aSt,aSz,aSs]
   refine wpL_done (by kernel_rfl) ?_ _;go_wp2_with fail;refine bodyPost_ret (results_29b rfl _ rfl (hZ.drew.row _) rfl) rfl ?_;exact HS8.out.drew.fin (fun h => by cases h) (fun _ => HR.out)
theorem thing_any (c : Lt) (m : Em) (d : Wd) (nodes : Int) (b : Nat) (w : World) (h : EmU w b m) (hb : b ≤ w.heap.size) (hd : d.1.length ≤ 100000000) (hn : 1 ≤ nodes ∧ nodes ≤ 16) :
  Calls Tryz.prog 93 #[.agg m.cs,.int .u8 ((lrOf c).toNat : Int),.agg #[.bool d.2,.string (S d.1)],.int .i64 nodes] w fun e w' => EvB (thingE nodes.toNat m.ev c d) b w e w':=by
 cases c
 ·exact thing_P m d nodes b w h hd hn
 ·exact thing_Q m d nodes b w h hd hn
 ·exact thing_K m d nodes b w h hd hn
 ·exact thing_N m d nodes b w h hd hn
 ·exact thing_D m d nodes b w h hd hn
 ·exact thing_T m d nodes b w h hb hd hn
 ·exact thing_X m d nodes b w h hb hd hn
end Go.Proofs.YtcibcmfaebbhnaaGreatDoor
