/-
  The reference's splitting.
-/
import Derived.Test.YtcibcmfaebbhnaaGreatDoorPWth
import Derived.Test.YtcibcmfaebbhnaaGreatDoorPWords
set_option linter.unusedSimpArgs false
set_option linter.unusedVariables false
set_option maxRecDepth 100000
set_option maxHeartbeats 8000000

namespace Go.Proofs.YtcibcmfaebbhnaaGreatDoor
open Go.RowKit Go.WideShapes Go.ChangeShapes Q
structure RWd (w : World) (B g : Nat) (ws : List Wd) : Prop where
 lt : g < B
 at_ : ∀ k d,ws[k]? = some d → w.cell? ⟨g,k * 2,none⟩ = some (.bool d.2) ∧ w.cell? ⟨g,k * 2 + 1,none⟩ = some (.string (S d.1))
theorem RWd.below {w w' : World} {B g : Nat} {ws : List Wd} (h : RWd w B g ws) (hb : Below B w w') : RWd w' B g ws :=
 ⟨h.lt,fun k d hk => ⟨(hb.cell (p:=⟨g,k * 2,none⟩) h.lt).trans (h.at_ k d hk).1,(hb.cell (p:=⟨g,k * 2 + 1,none⟩) h.lt).trans (h.at_ k d hk).2⟩⟩
theorem RWd.more {w : World} {B B' g : Nat} {ws : List Wd} (h : RWd w B g ws) (hb : B ≤ B') : RWd w B' g ws:=⟨by have:=h.lt;omega,h.at_⟩
theorem RWd.of_own {w : World} {base : Nat} {ws : List Wd} {g c : Nat} (h : w.ownsRow base 165 2 (.slice (some ⟨g,0,none⟩) ws.length c) ws.length (rwc ws)) (hg : g < w.heap.size) : RWd w w.heap.size g ws:=by
 refine ⟨hg,fun k d hk => ?_⟩;have h2:=two_at (f:=fun d => Value.bool d.2) (g:=fun d => Value.string (S d.1)) ws k d hk
 have e : ∀ j,(⟨g,0,none⟩ : Addr).add j = ⟨g,j,none⟩:=fun j => by
  unfold Addr.add
  split
  ·rename_i h0;subst h0;rfl
  ·simp
 have c0:=World.ownsRow.cells (g:=g) h rfl (2 * k) _ h2.1;have c1:=World.ownsRow.cells (g:=g) h rfl (2 * k + 1) _ h2.2;rw [e] at c0 c1;rw [show k * 2 = 2 * k by omega];exact ⟨c0,c1⟩
def VLoop (w : World) (ws rest : List Wd) (i : Value) (wr : World) : Prop:=∃ (j : Nat) (m : Em),1 ≤ j ∧ j ≤ ws.length ∧ i = .int .i64 j ∧ E2 w wr w.heap.size (w.heap.size + 1) w.heap.size m ∧
 m.ev = { Ev.zero with kd:=11,sd:=m.sd } ∧ sidesE rest = (sidesE (ws.drop j)).map (m.sd ++ ·) ∧ m.sd.length + 1 = j ∧ m.ns = m.sd.length
theorem E2.two {w : World} {b : Nat} {m : Em} (h : EmU w b m) (Z : Array Value) (hz : Z.size = 13) (Y : Array Value) :
  E2 w (((w.alloc (.cells Z 33)).alloc (.cells m.cs 33))) b (w.heap.size + 1) w.heap.size m :=
 ⟨Blk.new' _ _ _ _ (by simp),⟨Z,hz,(Blk.new _ _ _).alloc _⟩,(h.alloc _).alloc _,((Below.refl _ _).alloc (Nat.le_refl _) _).alloc (by simp) _,by omega,Nat.le_refl _,by omega⟩
theorem E2.pushS {w V w8 : World} {b p r g8 c8 : Nat} {m : Em} {x : Int} {o : Obj} (h : E2 w V b p r m) (hown : w8.ownsRow b 3 1 (.slice (some ⟨g8,0,none⟩) (m.ns + 1) c8) (m.ns + 1) (ints m.sd ++ [.int .i64 x]))
  (hgr : (V.alloc o).grownBy w8 (Value.slice m.As m.ns m.cs').ownBlock) (hb : w.heap.size ≤ b) (hn : m.ns + 1 ≤ 100000000) :
  Blk w8 p 33 m.cs ∧ E2 w (w8.setCell ⟨p,12,none⟩ (.slice (some ⟨g8,0,none⟩) (m.ns + 1) c8)) b p r { m with As:=some ⟨g8,0,none⟩,ns:=m.ns + 1,cs':=c8,sd:=m.sd ++ [x] }:=by
 obtain ⟨Z,hz,hZ⟩:=h.out;have hbox : Blk w8 p 33 m.cs:=(h.box.alloc o).grown hgr (own_ne (h.t.sid.alloc o) (h.box.alloc o) (by decide));have hZ8 : Blk w8 r 33 Z:=(hZ.alloc o).grown hgr (own_ne (h.t.sid.alloc o) (hZ.alloc o) (by decide))
 have ht : EmU w8 b { m with As:=some ⟨g8,0,none⟩,ns:=m.ns + 1,cs':=c8,sd:=m.sd ++ [x] }:=by
  refine ⟨?_,((h.t.alloc o).body).grown (h.t.sid.alloc o) (by decide) hgr,hn,h.t.hb⟩;have e : ints (m.sd ++ [x]) = ints m.sd ++ [.int .i64 x]:=by simp [ints]
  rw [e];exact hown
 have hlow : Below w.heap.size w w8:=(h.low.alloc h.low.size o).grown hgr (by have:=h.low.size;simp;omega) (fun k hk => Nat.le_trans hb ((h.t.sid.alloc o).lt k hk).1);refine ⟨hbox,?_⟩;have hW:=only_setCell0 w8 p 12 (.slice (some ⟨g8,0,none⟩) (m.ns + 1) c8);refine ⟨?_,⟨Z,hz,hZ8.only hW (fun e => h.ne e.symm)⟩,ht.far hbox (by decide) (by decide) hW,hlow.trans (hW.below hlow.size (fun k hk e => by have:=h.hp;omega)),h.hp,h.hr,h.ne⟩;have:=hbox.set_ 12 (.slice (some ⟨g8,0,none⟩) (m.ns + 1) c8);rw [eset_sd m _ _ _ (m.sd ++ [x])] at this;exact this
theorem splitting_any (g cap : Nat) (ws : List Wd) (nodes : Int) (w : World) (hw : RWd w w.heap.size g ws) (rest : List Wd) (hrest : ws.drop 1 = rest) (hl : 1 ≤ ws.length) (hlm : ws.length ≤ 90000000) (hz : ∀ d ∈ ws,d.1.length ≤ 100000000) (hn : 1 ≤ nodes ∧ nodes ≤ 16) :
  Calls Tryz.prog 92 #[.slice (some ⟨g,0,none⟩) ws.length cap,.int .i64 nodes] w fun e w' => EvB (splitE nodes.toNat rest) w.heap.size w e w':=by
 have hrl : rest.length + 1 = ws.length:=by rw [← hrest,List.length_drop];omega
 have HRE:=hide hrest;clear hrest;have HW:=hide hw;have HZ:=hide hz;have HNU : Hid (∀ d W,d.1.length ≤ 100000000 → Calls Tryz.prog 105 #[.agg #[.bool d.2,.string (S d.1)]] W fun e w' => e = .returned (.int .i64 (wcntZ d)) ∧ Below W.heap.size W w'):=fun d W h => number_ref d.2 (S d.1) W (by rw [S_size];omega)
 obtain ⟨i3,hi3,hz3,hs3,hb3⟩:=info_parts info3;have I3:=hide hi3;clear hi3 hw hz;go_enter Tryz.func92,Tryz.ntmps92;go_upto_region 2 with fail
 generalize hW1 : World.alloc (World.alloc w _) _ = W1
 have HS1 : Hid (E2 w W1 w.heap.size (w.heap.size + 1) w.heap.size { Em.zero with kd:=11 }):=by
  show E2 _ _ _ _ _ _;rw [← hW1];refine E2.two (m:={ Em.zero with kd:=11 }) ⟨World.ownsRow_nil _ _ _ _,RB.nil _ _ _,Nat.zero_le _,Nat.zero_le _⟩ _ ?_ #[]
  rfl
 have HL0 : Hid (VLoop w ws rest (.int .i64 1) W1):=⟨1,{ Em.zero with kd:=11 },Nat.le_refl _,hl,rfl,HS1.out,rfl,by rw [HRE.out];simp [Em.zero],rfl,rfl⟩;clear hW1 HS1;go_upto_region 3 with fail
 go_loopw [7] (fun i wr => VLoop w ws rest i wr) (fun i _ => ws.length - (intOf i).toNat)
 case atStart => exact HL0.out
 case round =>
  clear HL0;unfold VLoop at hrel;obtain ⟨j,m,hj1,hj2,rfl,he2,hev,hsd,hlen,hns⟩:=hrel;have HS:=hide he2;have HEV:=hide hev;have HSD:=hide hsd;have hmb : m.ns + 1 ≤ 90000000:=by omega
  have HLE : Hid (m.sd.length + 1 = j ∧ m.ns = m.sd.length):=⟨hlen,hns⟩;clear he2 hev hsd hlen hns;have hsw : w.heap.size ≤ wr.heap.size:=HS.out.low.size;have j0 : (0 : Int) ≤ (j : Int):=by omega
  by_cases hlt : j < ws.length
  ·obtain ⟨d,hd⟩ : ∃ d,ws[j]? = some d:=⟨_,List.getElem?_eq_getElem hlt⟩
   have HD : Hid (ws.drop j = d :: ws.drop (j + 1)):=by
    show _ = _;obtain ⟨h1,h2⟩:=List.getElem?_eq_some_iff.1 hd;rw [List.drop_eq_getElem_cons h1,h2]
   have hdl : d.1.length ≤ 100000000:=HZ.out d (List.mem_of_getElem? hd);obtain ⟨c0,c1⟩:=(HW.out.below HS.out.low).at_ j d hd;have HNX : Hid (∀ W,Calls Tryz.prog 105 #[.agg #[.bool d.2,.string (S d.1)]] W fun e w' => e = .returned (.int .i64 (wcntZ d)) ∧ Below W.heap.size W w'):=fun W => HNU.out d W hdl
   obtain ⟨x,hx⟩ : ∃ x,x = wcntZ d:=⟨_,rfl⟩;rw [← hx] at HNX;have HX:=hide hx;have js : (j : Int) < (ws.length : Int):=by omega
   clear hd hx;go_upto_region 6 with (go_at_call 105;refine (HNX.out _).mono ?_;rintro e w2 ⟨rfl,hb2⟩;have HS2:=hide (HS.out.step hb2);clear hb2)
   have hsw2 : w.heap.size ≤ w2.heap.size:=HS2.out.low.size;clear c0 c1
   by_cases hgood : ∃ k : Nat,wcnt d = some k ∧ k < 16
   ·obtain ⟨k,hk,hk16⟩:=hgood
    have hx1 : x = (k : Int):=HX.out.trans (wcntZ_some hk);have e1 : ¬ (k : Int) < 0:=by omega
    have e2 : ¬ (16 : Int) ≤ (k : Int):=by omega
    have HS1 : Hid (sidesE (ws.drop j) = (sidesE (ws.drop (j + 1))).map ((k : Int) :: ·)):=by
     show _ = _;rw [HD.out,sidesE,hk];simp only [if_pos hk16]
    subst hx1;have c2:=eb12 HS2.out.box;clear hk
    have HPU : Hid (∀ g8 c8 w8 o,w8.ownsRow w.heap.size 3 1 (.slice (some ⟨g8,0,none⟩) (m.ns + 1) c8) (m.ns + 1) (ints m.sd ++ [.int .i64 (k : Int)]) → (w2.alloc o).grownBy w8 (Value.slice m.As m.ns m.cs').ownBlock → Blk w8 (w.heap.size + 1) 33 m.cs ∧ VLoop w ws rest (.int .i64 ((j : Int) + 1)) (w8.setCell ⟨w.heap.size + 1,12,none⟩ (.slice (some ⟨g8,0,none⟩) (m.ns + 1) c8))):=by
     intro g8 c8 w8 o hown8 hgr8;obtain ⟨h1,h2⟩:=HS2.out.pushS hown8 hgr8 (Nat.le_refl _) (by omega);refine ⟨h1,j + 1,_,by omega,by omega,by go_num,h2,?_,?_,?_,?_⟩
     ·have:=HEV.out
      show ({ m.ev with sd:=m.sd ++ [(k : Int)] } : Ev) = _;rw [this]
     ·rw [HSD.out,HS1.out,Option.map_map]
      congr 1
      funext l
      simp
     ·have:=HLE.out
      simp only [List.length_append,List.length_cons,List.length_nil];omega
     ·have:=HLE.out
      simp only [List.length_append,List.length_cons,List.length_nil];omega
    go_wp2_with (at_builtin;refine wpList_push (W:=w2) (cs:=#[.int .i64 (k : Int)]) rfl (.tmp 29) (.tmp 31) _ rfl w.heap.size 3 i3 _ 1 8 Tryz.underlying22 I3.out hz3 hs3 hb3 rfl (by omega) (.slice m.As m.ns m.cs') m.ns _ rfl HS2.out.t.sid 1 1 rfl rfl (by simp [Value.oneCell']) (by omega) (by unfold maxLen;omega) (by omega) hsw2 ?_;intro g8 c8 w8 hown8 hgr8 hb8 _ _ _;have HB8:=hide (HPU.out g8 c8 w8 _ hown8 hgr8).1;have HL8:=hide (HPU.out g8 c8 w8 _ hown8 hgr8).2;have c9:=eb12 HB8.out;have f9:=Blk.frozen HB8.out 12;clear hown8 hb8 hgr8);go_roundw
    case rel => first | exact HL8.out | exact ⟨_,HL8.out,rfl⟩
    case measure => simp [intOf];omega
   ·have HR : Hid (splitE nodes.toNat rest = none):=by
     show _ = _
     have h0 : sidesE (ws.drop j) = none:=by
      rw [HD.out,sidesE]
      cases hk : wcnt d with
      | none => rfl
      | some k =>
       simp only;rw [if_neg (fun h => hgood ⟨k,hk,h⟩)]
     unfold splitE;rw [HSD.out,h0]
     split <;> rfl
    have hor : x < 0 ∨ (¬ x < 0 ∧ (16 : Int) ≤ x):=by
     cases hk : wcnt d with
     | none => exact .inl (by rw [HX.out,wcntZ_none hk];decide)
     | some k =>
      have : ¬ k < 16:=fun h => hgood ⟨k,hk,h⟩
      rw [HX.out,wcntZ_some hk];exact .inr ⟨by omega,by omega⟩
    clear hgood
    rcases hor with e1 | ⟨e1,e2⟩
    all_goals
     go_upto_region 7 with fail
     refine wp_region_lit ?_;refine wpList_value rfl (.agg m.cs) (ex_load 33 (.tmp 6) rfl _ rfl m.cs _ Tryz.underlying33 rfl (ld29 _ (em_size _)) (ebox_all HS2.out.box)) ?_;simp only [Act.put,aSt,aSz,aSs];obtain ⟨Z,hZs,hZ⟩:=HS2.out.out;go_wp2_with (refine wpList_put_at rfl 33 (.tmp 4) (.tmp 27) rfl (w.heap.size) 0 m.cs rfl rfl 33 Z hZ (ld29 _ (em_size _)) (by rw [em_size,hZs];omega) (ecs_all m) _ (eput_zero Z hZs m) ?_);refine bodyPost_ret (results_29b rfl _ rfl (hZ.row _) rfl) rfl ?_;exact HS2.out.fin (fun h => by cases h) (fun _ => HR.out)
  ·have js : ¬ (j : Int) < (ws.length : Int):=by omega
   have hjl : j = ws.length:=by omega
   have HSS : Hid (sidesE rest = some m.sd):=by
    show _ = _;rw [HSD.out,List.drop_eq_nil_of_le (by omega)];simp [sidesE]
   go_upto_region 9 with fail
   obtain ⟨Z,hZs,hZ⟩:=HS.out.out;have hQ9 : ∀ C,Blk (wr.drew.setRow w.heap.size C) (w.heap.size + 1) 33 m.cs:=fun C => HS.out.box.drew.row_far (by omega) _
   have HQ8 : Hid (Blk wr.drew (w.heap.size + 1) 33 m.cs):=HS.out.box.drew
   by_cases hln : m.ns = nodes.toNat
   ·have HR : Hid (splitE nodes.toNat rest = some m.ev):=by
     show _ = _;unfold splitE;rw [if_pos (by have:=HLE.out;omega),HSS.out,HEV.out]
     rfl
    have e1 : ((m.ns : Int) == nodes) = true:=by rw [beq_iff_eq];omega
    clear hln;have HQ9:=hide (hQ9 m.cs);clear hQ9;refine wp_region_L [] (fun V => Blk V (w.heap.size + 1) 33 m.cs) (by kernel_rfl) ?_;refine tk 0 34 (v:=.agg m.cs) rfl HQ8.out ?_ ?_
    ·intro V hV;exact ex_load 33 (.tmp 6) rfl _ rfl m.cs _ Tryz.underlying33 rfl (ld29 _ (em_size _)) (ebox_all hV)
    try simp only [Act.put,aSt,aSz,aSs]
    refine tk 1 35 (v:=?_) rfl HQ8.out ?_ ?_
    rotate_left;· intro V hV;go_simp;try with_reducible rfl
    try simp only [Act.put,aSt,aSz,aSs]
    refine tk 2 36 (v:=?_) rfl HQ8.out ?_ ?_
    rotate_left
    ·intro V hV
     have k:=eb12 hV;go_simp;try with_reducible rfl
    try simp only [Act.put,aSt,aSz,aSs]
    refine tk 3 37 (v:=?_) rfl HQ8.out ?_ ?_
    rotate_left;· intro V hV;go_simp;try with_reducible rfl
    try simp only [Act.put,aSt,aSz,aSs]
    refine tk 4 38 (v:=?_) rfl HQ8.out ?_ ?_
    rotate_left;· intro V hV;go_simp;try with_reducible rfl
    try simp only [Act.put,aSt,aSz,aSs]
    refine tk 5 39 (v:=?_) rfl HQ8.out ?_ ?_
    rotate_left;· intro V hV;go_simp;try with_reducible rfl
    try simp only [Act.put,aSt,aSz,aSs]
    refine wpL_one 6 (by kernel_rfl) rfl (fun K hK => ?_);refine one_skip (by rfl) (run_put_at 33 (.tmp 4) (.tmp 34) rfl (w.heap.size) 0 m.cs rfl rfl 33 Z hZ.drew (ld29 _ (em_size _)) (by rw [em_size,hZs];omega) (ecs_all m) _ (eput_zero Z hZs m)) (hK _ _ (fun _ => HQ9.out) ?_);clear hK K;try simp only [Act.put,aSt,aSz,aSs]
    refine wpL_one 7 (by kernel_rfl) rfl (fun K hK => ?_);rw [if_pos (by rfl)];go_simp;refine hK _ _ (fun _ => HQ9.out) ?_;clear hK K;try simp only [Act.put,aSt,aSz,aSs]
    refine wpL_done (by kernel_rfl) ?_ _;go_wp2_with fail;refine bodyPost_ret (results_29b rfl _ rfl (hZ.drew.row _) rfl) rfl ?_;exact HS.out.drew.fin (fun _ => HR.out) (fun h => by cases h)
   ·have HR : Hid (splitE nodes.toNat rest = none):=by
     show _ = _;unfold splitE;rw [if_neg (by have:=HLE.out;omega)]
    have e1 : ((m.ns : Int) == nodes) = false:=by rw [beq_eq_false_iff_ne];omega
    clear hln;have HQ9:=hide (hQ9 m.cs);clear hQ9;refine wp_region_L [] (fun V => Blk V (w.heap.size + 1) 33 m.cs) (by kernel_rfl) ?_;refine tk 0 34 (v:=.agg m.cs) rfl HQ8.out ?_ ?_
    ·intro V hV;exact ex_load 33 (.tmp 6) rfl _ rfl m.cs _ Tryz.underlying33 rfl (ld29 _ (em_size _)) (ebox_all hV)
    try simp only [Act.put,aSt,aSz,aSs]
    refine tk 1 35 (v:=?_) rfl HQ8.out ?_ ?_
    rotate_left;· intro V hV;go_simp;try with_reducible rfl
    try simp only [Act.put,aSt,aSz,aSs]
    refine tk 2 36 (v:=?_) rfl HQ8.out ?_ ?_
    rotate_left
    ·intro V hV
     have k:=eb12 hV;go_simp;try with_reducible rfl
    try simp only [Act.put,aSt,aSz,aSs]
    refine tk 3 37 (v:=?_) rfl HQ8.out ?_ ?_
    rotate_left;· intro V hV;go_simp;try with_reducible rfl
    try simp only [Act.put,aSt,aSz,aSs]
    refine tk 4 38 (v:=?_) rfl HQ8.out ?_ ?_
    rotate_left;· intro V hV;go_simp;try with_reducible rfl
    try simp only [Act.put,aSt,aSz,aSs]
    refine tk 5 39 (v:=?_) rfl HQ8.out ?_ ?_
    rotate_left;· intro V hV;go_simp;try with_reducible rfl
    try simp only [Act.put,aSt,aSz,aSs]
    refine wpL_one 6 (by kernel_rfl) rfl (fun K hK => ?_);refine one_skip (by rfl) (run_put_at 33 (.tmp 4) (.tmp 34) rfl (w.heap.size) 0 m.cs rfl rfl 33 Z hZ.drew (ld29 _ (em_size _)) (by rw [em_size,hZs];omega) (ecs_all m) _ (eput_zero Z hZs m)) (hK _ _ (fun _ => HQ9.out) ?_);clear hK K;try simp only [Act.put,aSt,aSz,aSs]
    refine wpL_one 7 (by kernel_rfl) rfl (fun K hK => ?_);rw [if_pos (by rfl)];go_simp;refine hK _ _ (fun _ => HQ9.out) ?_;clear hK K;try simp only [Act.put,aSt,aSz,aSs]
    refine wpL_done (by kernel_rfl) ?_ _;go_wp2_with fail;refine bodyPost_ret (results_29b rfl _ rfl (hZ.drew.row _) rfl) rfl ?_;exact HS.out.drew.fin (fun h => by cases h) (fun _ => HR.out)
end Go.Proofs.YtcibcmfaebbhnaaGreatDoor
