/-
  The reference's rules and event.
-/
import Derived.Test.YtcibcmfaebbhnaaGreatDoorPWdo
import Derived.Test.YtcibcmfaebbhnaaGreatDoorPWords
set_option linter.unusedSimpArgs false
set_option linter.unusedVariables false
set_option maxRecDepth 100000
set_option maxHeartbeats 4000000

namespace Go.Proofs.YtcibcmfaebbhnaaGreatDoor
open Go.RowKit Go.WideShapes Go.ChangeShapes Q
def ruleV : Array Value:=#[.int .i64 0,.string ⟨#[110,111,111,112]⟩,.string ⟨#[]⟩,.int .i64 1,.string ⟨#[114,111,117,110,100]⟩,.string ⟨#[]⟩,.int .i64 2,.string ⟨#[116,105,99,107]⟩,.string ⟨#[112]⟩,.int .i64 3,.string ⟨#[115,101,110,100]⟩,.string ⟨#[112,116]⟩,.int .i64 5,.string ⟨#[99,114,97,115,104]⟩,.string ⟨#[112]⟩,.int .i64 6,.string ⟨#[114,101,115,116,97,114,116]⟩,.string ⟨#[112]⟩,.int .i64 7,.string ⟨#[116,101,97,114]⟩,.string ⟨#[112,110]⟩,.int .i64 18,.string ⟨#[108,101,97,118,101]⟩,.string ⟨#[112]⟩,.int .i64 8,.string ⟨#[99,117,116]⟩,.string ⟨#[112,113]⟩,.int .i64 9,.string ⟨#[104,101,97,108]⟩,.string ⟨#[112,113]⟩,.int .i64 10,.string ⟨#[100,101,108,97,121]⟩,.string ⟨#[112,113,100]⟩,.int .i64 12,.string ⟨#[100,114,111,112]⟩,.string ⟨#[107]⟩,.int .i64 13,.string ⟨#[100,117,112]⟩,.string ⟨#[107]⟩,.int .i64 14,.string ⟨#[110,111,119]⟩,.string ⟨#[107]⟩,.int .i64 15,.string ⟨#[104,111,108,100]⟩,.string ⟨#[107,100]⟩,.int .i64 16,.string ⟨#[102,108,105,112]⟩,.string ⟨#[107,110]⟩,.int .i64 17,.string ⟨#[105,110,106,101,99,116]⟩,.string ⟨#[112,113,120]⟩]
theorem rules_ref (w : World) : Calls Tryz.prog 73 #[] w fun e w' => e = .returned (.slice (some ⟨w.heap.size,0,none⟩) 17 17) ∧ w' = w.alloc (.cells ruleV 137):=by
 go_enter Tryz.func73,Tryz.ntmps73;go_wp2_with fail;go_ret;exact ⟨rfl,rfl⟩
theorem ruleV_at : ∀ (j : Nat) (f : List UInt8 × Int × List Lt),formL[j]? = some f → ruleV[j * 3]? = some (.int .i64 f.2.1) ∧ ruleV[j * 3 + 1]? = some (.string (S f.1)) ∧ ruleV[j * 3 + 2]? = some (.string (S (f.2.2.map lrOf)))
 | 0,f,h => by
  obtain rfl:=Option.some.inj h;exact ⟨rfl,rfl,rfl⟩
 | 1,f,h => by
  obtain rfl:=Option.some.inj h;exact ⟨rfl,rfl,rfl⟩
 | 2,f,h => by
  obtain rfl:=Option.some.inj h;exact ⟨rfl,rfl,rfl⟩
 | 3,f,h => by
  obtain rfl:=Option.some.inj h;exact ⟨rfl,rfl,rfl⟩
 | 4,f,h => by
  obtain rfl:=Option.some.inj h;exact ⟨rfl,rfl,rfl⟩
 | 5,f,h => by
  obtain rfl:=Option.some.inj h;exact ⟨rfl,rfl,rfl⟩
 | 6,f,h => by
  obtain rfl:=Option.some.inj h;exact ⟨rfl,rfl,rfl⟩
 | 7,f,h => by
  obtain rfl:=Option.some.inj h;exact ⟨rfl,rfl,rfl⟩
 | 8,f,h => by
  obtain rfl:=Option.some.inj h;exact ⟨rfl,rfl,rfl⟩
 | 9,f,h => by
  obtain rfl:=Option.some.inj h;exact ⟨rfl,rfl,rfl⟩
 | 10,f,h => by
  obtain rfl:=Option.some.inj h;exact ⟨rfl,rfl,rfl⟩
 | 11,f,h => by
  obtain rfl:=Option.some.inj h;exact ⟨rfl,rfl,rfl⟩
 | 12,f,h => by
  obtain rfl:=Option.some.inj h;exact ⟨rfl,rfl,rfl⟩
 | 13,f,h => by
  obtain rfl:=Option.some.inj h;exact ⟨rfl,rfl,rfl⟩
 | 14,f,h => by
  obtain rfl:=Option.some.inj h;exact ⟨rfl,rfl,rfl⟩
 | 15,f,h => by
  obtain rfl:=Option.some.inj h;exact ⟨rfl,rfl,rfl⟩
 | 16,f,h => by
  obtain rfl:=Option.some.inj h;exact ⟨rfl,rfl,rfl⟩
 | j + 17,f,h => by cases h
theorem form_at {q j : Nat} {V : World} {f : List UInt8 × Int × List Lt} (hf : formL[j]? = some f) (h : Blk V q 137 ruleV) : V.cell? ⟨q,j * 3,none⟩ = some (.int .i64 f.2.1) ∧ V.cell? ⟨q,j * 3 + 1,none⟩ = some (.string (S f.1)) ∧ V.cell? ⟨q,j * 3 + 2,none⟩ = some (.string (S (f.2.2.map lrOf))):=by
 obtain ⟨h0,h1,h2⟩:=ruleV_at j f hf;exact ⟨(h.cell _).trans h0,(h.cell _).trans h1,(h.cell _).trans h2⟩
theorem evb_out {w W : World} {r b : Nat} {m : Em} {Z : Array Value} {f : Option Ev} {ok : Bool} (hr : w.heap.size ≤ r) (hZ : Blk W r 33 Z) (ht : EmU W b m) (hl : Below w.heap.size w W) (h1 : ok = true → f = some m.ev) (h2 : ok = false → f = none) :
  EvB f b w (.returned (.tuple #[.agg m.cs,.bool ok])) (W.setRow r m.cs):=by
 have hW:=only_setRow W r m.cs;exact ⟨m,ok,rfl,ht.far hZ (by decide) (by decide) hW,hl.trans (hW.below hl.size (fun k hk e => by omega)),h1,h2⟩
def RuLoop (w : World) (s : List UInt8) (q : Nat) (i : Value) (wr : World) : Prop:=∃ j : Nat,j ≤ 17 ∧ i = .int .i64 j ∧ formL.find? (fun f => f.1 == s) = (formL.drop j).find? (fun f => f.1 == s) ∧
 Blk wr q 137 ruleV ∧ (∃ Z : Array Value,Z.size = 13 ∧ Blk wr w.heap.size 33 Z) ∧ Below w.heap.size w wr
def IlLoop (w : World) (ws : List Wd) (nodes : Nat) (T : Option Ev) (cs : List Lt) (q p8 : Nat) (i : Value) (wr : World) : Prop:=∃ (k : Nat) (m : Em),k + 1 ≤ ws.length ∧ i = .int .i64 ((k : Int) + 1) ∧ E2 w wr w.heap.size p8 w.heap.size m ∧ Blk wr q 137 ruleV ∧
 T = thingsE nodes (cs.drop k) (ws.drop (k + 1)) m.ev
theorem E2.aside {w W : World} {b p r g : Nat} {m : Em} {C : Array Value} (h : E2 w W b p r m) (hb : Blk W g 33 C) (hp : g ≠ p) (hr : g ≠ r) (hg : w.heap.size ≤ g) (C' : Array Value) : E2 w (W.setRow g C') b p r m:=by
 obtain ⟨Z,hz,hZ⟩:=h.out;have hW:=only_setRow W g C';exact ⟨h.box.row_far (Ne.symm hp) _,⟨Z,hz,hZ.row_far (Ne.symm hr) _⟩,h.t.far hb (by decide) (by decide) hW,h.low.trans (hW.below h.low.size (fun k hk e => by omega)),h.hp,h.hr,h.ne⟩
theorem event_nil (A : Option Addr) (cap : Nat) (nodes : Int) (w : World) :
  Calls Tryz.prog 76 #[.slice A 0 cap,.int .i64 nodes] w fun e w' => EvB (eventE nodes.toNat []) w.heap.size w e w':=by
 have HR : Hid (eventE nodes.toNat [] = none):=rfl;go_enter Tryz.func76,Tryz.ntmps76;go_upto_region 1 with fail
 generalize hW1 : World.alloc w _ = W1
 obtain ⟨Z,hZs,hZ⟩ : ∃ Z : Array Value,Z.size = 13 ∧ Blk W1 w.heap.size 33 Z:=by
  rw [← hW1];exact ⟨_,rfl,Blk.new _ _ _⟩
 have HB : Hid (Below w.heap.size w W1):=by
  show Below _ _ _;rw [← hW1];exact (Below.refl _ _).alloc (Nat.le_refl _) _
 clear hW1;go_wp2_with (refine wpList_put_at rfl 33 (.tmp 4) (.tmp 21) rfl (w.heap.size) 0 Em.zero.cs rfl rfl 33 Z hZ (ld29 _ (em_size _)) (by rw [em_size,hZs];omega) (ecs_all Em.zero) _ (eput_zero Z hZs Em.zero) ?_);refine bodyPost_ret (results_29b rfl _ rfl (hZ.row _) rfl) rfl ?_;exact evb_out (Nat.le_refl _) hZ (EmU.zero _ _) HB.out (fun h => by cases h) (fun _ => HR.out)
theorem event_quoted (g cap : Nat) (ws : List Wd) (nodes : Int) (w : World) (hw : RWd w w.heap.size g ws) (hlm : ws.length ≤ 90000000) (hz : ∀ d ∈ ws,d.1.length ≤ 100000000) (hn : 1 ≤ nodes ∧ nodes ≤ 16) (d : Wd) (hd : ws[0]? = some d) (hq : d.2 = true) :
  Calls Tryz.prog 76 #[.slice (some ⟨g,0,none⟩) ws.length cap,.int .i64 nodes] w fun e w' => EvB (eventE nodes.toNat ws) w.heap.size w e w':=by
 have HR : Hid (eventE nodes.toNat ws = none):=by
  show _ = _
  match ws,hd with
  | a :: r,hd =>
   obtain rfl : a = d:=by simpa using hd
   simp only [eventE];rw [if_pos hq]
 have hl : 0 < ws.length:=(List.getElem?_eq_some_iff.1 hd).1;have e1 : ((ws.length : Int) == 0) = false:=by rw [beq_eq_false_iff_ne];omega
 have e2 : (0 : Int) < (ws.length : Int):=by omega
 have HW:=hide hw;have HD:=hide hd;have HQ:=hide hq;clear hw hlm hz hd hq hl;go_enter Tryz.func76,Tryz.ntmps76;go_upto_region 1 with fail
 generalize hW1 : World.alloc w _ = W1
 obtain ⟨Z,hZs,hZ⟩ : ∃ Z : Array Value,Z.size = 13 ∧ Blk W1 w.heap.size 33 Z:=by
  rw [← hW1];exact ⟨_,rfl,Blk.new _ _ _⟩
 have HB : Hid (Below w.heap.size w W1):=by
  show Below _ _ _;rw [← hW1];exact (Below.refl _ _).alloc (Nat.le_refl _) _
 clear hW1;obtain ⟨c0,_⟩:=(HW.out.below HB.out).at_ 0 d HD.out;rw [HQ.out] at c0;go_wp2_with (refine wpList_put_at rfl 33 (.tmp 4) (.tmp 21) rfl (w.heap.size) 0 Em.zero.cs rfl rfl 33 Z hZ (ld29 _ (em_size _)) (by rw [em_size,hZs];omega) (ecs_all Em.zero) _ (eput_zero Z hZs Em.zero) ?_);refine bodyPost_ret (results_29b rfl _ rfl (hZ.row _) rfl) rfl ?_;exact evb_out (Nat.le_refl _) hZ (EmU.zero _ _) HB.out (fun h => by cases h) (fun _ => HR.out)
theorem event_do (g cap : Nat) (ws : List Wd) (nodes : Int) (w : World) (hw : RWd w w.heap.size g ws) (hlm : ws.length ≤ 90000000) (hz : ∀ d ∈ ws,d.1.length ≤ 100000000) (hn : 1 ≤ nodes ∧ nodes ≤ 16) (d : Wd) (hd : ws[0]? = some d) (hq : d.2 = false) (hx : d.1 = [100,111]) :
  Calls Tryz.prog 76 #[.slice (some ⟨g,0,none⟩) ws.length cap,.int .i64 nodes] w fun e w' => EvB (eventE nodes.toNat ws) w.heap.size w e w':=by
 have HR : Hid (eventE nodes.toNat ws = doE nodes.toNat (ws.drop 1)):=by
  show _ = _
  match ws,hd with
  | a :: r,hd =>
   obtain rfl : a = d:=by simpa using hd
   simp only [eventE,List.drop_succ_cons,List.drop_zero];rw [if_neg (by rw [hq];decide),hx]
   rfl
 have hl : 0 < ws.length:=(List.getElem?_eq_some_iff.1 hd).1;have e1 : ((ws.length : Int) == 0) = false:=by rw [beq_eq_false_iff_ne];omega
 have e2 : (0 : Int) < (ws.length : Int):=by omega
 have HW:=hide hw;have HD:=hide hd;have HQ:=hide hq;have HZ:=hide hz;obtain ⟨z,hzz⟩ : ∃ z,z = S d.1:=⟨_,rfl⟩;have z1 : z.toList = [100,111]:=by rw [hzz,ByteArray.toList_eq,S_data,hx]
 have HZZ:=hide hzz;clear hw hd hq hx hzz hz;go_enter Tryz.func76,Tryz.ntmps76;go_upto_region 1 with fail
 generalize hW1 : World.alloc w _ = W1
 obtain ⟨Z,hZs,hZ⟩ : ∃ Z : Array Value,Z.size = 13 ∧ Blk W1 w.heap.size 33 Z:=by
  rw [← hW1];exact ⟨_,rfl,Blk.new _ _ _⟩
 have HB : Hid (Below w.heap.size w W1):=by
  show Below _ _ _;rw [← hW1];exact (Below.refl _ _).alloc (Nat.le_refl _) _
 clear hW1;obtain ⟨c0,c1⟩:=(HW.out.below HB.out).at_ 0 d HD.out;rw [HQ.out] at c0;rw [← HZZ.out] at c1;have HCA:=hide (doing_any g cap ws nodes W1 ((HW.out.below HB.out).more HB.out.size) (ws.drop 1) rfl (by omega) HZ.out hn);go_upto_region 4 with fail
 refine wp_region_lit ?_;refine wpList_value rfl (.slice (some ⟨g,0,none⟩) ws.length cap) (by go_simp) ?_;refine wpList_value rfl (.int .i64 nodes) (by go_simp) ?_;try simp only [Act.put,aSt,aSz,aSs]
 refine wpList_step (fun K hK => ?_);rw [if_pos (by rfl)];go_simp;go_at_call 91;refine HCA.out.mono ?_;rintro e w2 ⟨m,ok,rfl,ht,hb2,h1,h2⟩;have HT:=hide (ht.base HB.out.size);have HB2:=hide (HB.out.trans (hb2.mono HB.out.size));have HZ2:=hide (hZ.below hb2 hZ.lt);have H1:=hide h1;have H2:=hide h2;clear ht hb2 h1 h2;refine hK _ _ ?_;clear hK K;try simp only [Act.put,aSt,aSz,aSs]
 refine wpList_value rfl (.agg m.cs) (by go_simp) ?_;try simp only [Act.put,aSt,aSz,aSs]
 refine wpList_value rfl (.bool ok) (by go_simp) ?_;try simp only [Act.put,aSt,aSz,aSs]
 refine wpList_put_at rfl 33 (.tmp 4) (.tmp 30) rfl (w.heap.size) 0 m.cs rfl rfl 33 Z HZ2.out (ld29 _ (em_size _)) (by rw [em_size,hZs];omega) (ecs_all m) _ (eput_zero Z hZs m) ?_;go_wp2_with fail;refine bodyPost_ret (results_29b rfl _ rfl (HZ2.out.row _) rfl) rfl ?_;exact evb_out (Nat.le_refl _) HZ2.out HT.out HB2.out (fun h => HR.out.trans (H1.out h)) (fun h => HR.out.trans (H2.out h))
theorem event_split (g cap : Nat) (ws : List Wd) (nodes : Int) (w : World) (hw : RWd w w.heap.size g ws) (hlm : ws.length ≤ 90000000) (hz : ∀ d ∈ ws,d.1.length ≤ 100000000) (hn : 1 ≤ nodes ∧ nodes ≤ 16) (d : Wd) (hd : ws[0]? = some d) (hq : d.2 = false) (hx : d.1 = [115,112,108,105,116]) :
  Calls Tryz.prog 76 #[.slice (some ⟨g,0,none⟩) ws.length cap,.int .i64 nodes] w fun e w' => EvB (eventE nodes.toNat ws) w.heap.size w e w':=by
 have HR : Hid (eventE nodes.toNat ws = splitE nodes.toNat (ws.drop 1)):=by
  show _ = _
  match ws,hd with
  | a :: r,hd =>
   obtain rfl : a = d:=by simpa using hd
   simp only [eventE,List.drop_succ_cons,List.drop_zero];rw [if_neg (by rw [hq];decide),hx]
   rfl
 have hl : 0 < ws.length:=(List.getElem?_eq_some_iff.1 hd).1;have e1 : ((ws.length : Int) == 0) = false:=by rw [beq_eq_false_iff_ne];omega
 have e2 : (0 : Int) < (ws.length : Int):=by omega
 have HW:=hide hw;have HD:=hide hd;have HQ:=hide hq;have HZ:=hide hz;obtain ⟨z,hzz⟩ : ∃ z,z = S d.1:=⟨_,rfl⟩;have z1 : z.toList = [115,112,108,105,116]:=by rw [hzz,ByteArray.toList_eq,S_data,hx]
 have HZZ:=hide hzz;clear hw hd hq hx hzz hz;go_enter Tryz.func76,Tryz.ntmps76;go_upto_region 1 with fail
 generalize hW1 : World.alloc w _ = W1
 obtain ⟨Z,hZs,hZ⟩ : ∃ Z : Array Value,Z.size = 13 ∧ Blk W1 w.heap.size 33 Z:=by
  rw [← hW1];exact ⟨_,rfl,Blk.new _ _ _⟩
 have HB : Hid (Below w.heap.size w W1):=by
  show Below _ _ _;rw [← hW1];exact (Below.refl _ _).alloc (Nat.le_refl _) _
 clear hW1;obtain ⟨c0,c1⟩:=(HW.out.below HB.out).at_ 0 d HD.out;rw [HQ.out] at c0;rw [← HZZ.out] at c1;have HCA:=hide (splitting_any g cap ws nodes W1 ((HW.out.below HB.out).more HB.out.size) (ws.drop 1) rfl (by omega) hlm HZ.out hn);go_upto_region 6 with fail
 refine wp_region_lit ?_;refine wpList_value rfl (.slice (some ⟨g,0,none⟩) ws.length cap) (by go_simp) ?_;refine wpList_value rfl (.int .i64 nodes) (by go_simp) ?_;try simp only [Act.put,aSt,aSz,aSs]
 refine wpList_step (fun K hK => ?_);rw [if_pos (by rfl)];go_simp;go_at_call 92;refine HCA.out.mono ?_;rintro e w2 ⟨m,ok,rfl,ht,hb2,h1,h2⟩;have HT:=hide (ht.base HB.out.size);have HB2:=hide (HB.out.trans (hb2.mono HB.out.size));have HZ2:=hide (hZ.below hb2 hZ.lt);have H1:=hide h1;have H2:=hide h2;clear ht hb2 h1 h2;refine hK _ _ ?_;clear hK K;try simp only [Act.put,aSt,aSz,aSs]
 refine wpList_value rfl (.agg m.cs) (by go_simp) ?_;try simp only [Act.put,aSt,aSz,aSs]
 refine wpList_value rfl (.bool ok) (by go_simp) ?_;try simp only [Act.put,aSt,aSz,aSs]
 refine wpList_put_at rfl 33 (.tmp 4) (.tmp 40) rfl (w.heap.size) 0 m.cs rfl rfl 33 Z HZ2.out (ld29 _ (em_size _)) (by rw [em_size,hZs];omega) (ecs_all m) _ (eput_zero Z hZs m) ?_;go_wp2_with fail;refine bodyPost_ret (results_29b rfl _ rfl (HZ2.out.row _) rfl) rfl ?_;exact evb_out (Nat.le_refl _) HZ2.out HT.out HB2.out (fun h => HR.out.trans (H1.out h)) (fun h => HR.out.trans (H2.out h))
theorem event_main (g cap : Nat) (ws : List Wd) (nodes : Int) (w : World) (hw : RWd w w.heap.size g ws) (hlm : ws.length ≤ 90000000) (hz : ∀ d ∈ ws,d.1.length ≤ 100000000) (hn : 1 ≤ nodes ∧ nodes ≤ 16) (d : Wd) (hd : ws[0]? = some d) (hq : d.2 = false) (hx1 : ¬ d.1 = [100,111]) (hx2 : ¬ d.1 = [115,112,108,105,116]) :
  Calls Tryz.prog 76 #[.slice (some ⟨g,0,none⟩) ws.length cap,.int .i64 nodes] w fun e w' => EvB (eventE nodes.toNat ws) w.heap.size w e w':=by
 have HR : Hid (eventE nodes.toNat ws = match formL.find? (fun f => f.1 == d.1) with | some f => thingsE nodes.toNat f.2.2 (ws.drop 1) { Ev.zero with kd:=f.2.1 } | none => none):=by
  show _ = _
  match ws,hd with
  | a :: r,hd =>
   obtain rfl : a = d:=by simpa using hd
   simp only [eventE,List.drop_succ_cons,List.drop_zero];rw [if_neg (by rw [hq];decide),if_neg hx1,if_neg hx2]
   cases formL.find? (fun f => f.1 == a.1) <;> rfl
 have hl : 0 < ws.length:=(List.getElem?_eq_some_iff.1 hd).1;have e1 : ((ws.length : Int) == 0) = false:=by rw [beq_eq_false_iff_ne];omega
 have e2 : (0 : Int) < (ws.length : Int):=by omega
 have HW:=hide hw;have HD:=hide hd;have HQ:=hide hq;have HZ:=hide hz;obtain ⟨z,hzz⟩ : ∃ z,z = S d.1:=⟨_,rfl⟩;have z0 : z.toList = d.1:=by rw [hzz,ByteArray.toList_eq,S_data]
 have z1 : ¬ z.toList = [100,111]:=by rw [z0];exact hx1
 have z2 : ¬ z.toList = [115,112,108,105,116]:=by rw [z0];exact hx2
 have z3 : (z.toList == [100,111]) = false:=by rw [beq_eq_false_iff_ne];exact z1
 have z4 : (z.toList == [115,112,108,105,116]) = false:=by rw [beq_eq_false_iff_ne];exact z2
 have HZZ:=hide hzz;clear hw hd hq hx1 hx2 hzz hz z0;go_enter Tryz.func76,Tryz.ntmps76;go_upto_region 1 with fail
 generalize hW1 : World.alloc w _ = W1
 obtain ⟨Z,hZs,hZ⟩ : ∃ Z : Array Value,Z.size = 13 ∧ Blk W1 w.heap.size 33 Z:=by
  rw [← hW1];exact ⟨_,rfl,Blk.new _ _ _⟩
 have HB : Hid (Below w.heap.size w W1):=by
  show Below _ _ _;rw [← hW1];exact (Below.refl _ _).alloc (Nat.le_refl _) _
 clear hW1;obtain ⟨c0,c1⟩:=(HW.out.below HB.out).at_ 0 d HD.out;rw [HQ.out] at c0;rw [← HZZ.out] at c1;have HRU:=hide (rules_ref W1);go_upto_region 9 with (go_at_call 73;refine HRU.out.mono ?_;rintro e w2 ⟨rfl,hw2⟩;have HB2 : Hid (Below w.heap.size w w2):=(by show Below _ _ _;rw [hw2];exact HB.out.alloc HB.out.size _);have HQ2 : Hid (Blk w2 W1.heap.size 137 ruleV):=(by show Blk _ _ _ _;rw [hw2];exact Blk.new _ _ _);have HZ2 : Hid (Blk w2 w.heap.size 33 Z):=(by show Blk _ _ _ _;rw [hw2];exact hZ.alloc _);clear hw2)
 have HL0 : Hid (RuLoop w d.1 W1.heap.size (.int .i64 0) w2):=⟨0,by omega,rfl,rfl,HQ2.out,⟨Z,hZs,HZ2.out⟩,HB2.out⟩;clear HRU z1 z2 z3 z4 c0 c1 hZ hZs;go_loopw [7] (fun i wr => RuLoop w d.1 W1.heap.size i wr) (fun i _ => 17 - (intOf i).toNat)
 case atStart => exact HL0.out
 case round =>
  clear HL0 HB2 HQ2 HZ2;unfold RuLoop at hrel;obtain ⟨j,hj,rfl,hfind,hbq,⟨Z2,hZs2,hZ2⟩,hlow⟩:=hrel;have HF:=hide hfind;have HBQ:=hide hbq;have HLO:=hide hlow;have HZ2:=hide hZ2;have HZS:=hide hZs2;have hsw : w.heap.size ≤ wr.heap.size:=HLO.out.size;clear hfind hbq hlow hZ2 hZs2;have j0 : (0 : Int) ≤ (j : Int):=by omega
  by_cases hlt : j < 17
  ·have js : (j : Int) < 17:=by omega
   obtain ⟨f,hf⟩ : ∃ f,formL[j]? = some f:=⟨_,List.getElem?_eq_getElem (show j < formL.length from hlt)⟩;have HFA:=hide hf
   have HDR : Hid (formL.drop j = f :: formL.drop (j + 1)):=by
    show _ = _;obtain ⟨h1,h2⟩:=List.getElem?_eq_some_iff.1 hf;rw [List.drop_eq_getElem_cons h1,h2]
   clear hf;obtain ⟨y,hy⟩ : ∃ y,y = S f.1:=⟨_,rfl⟩;have HCQ : Hid (∀ V,Blk V W1.heap.size 137 ruleV → V.cell? ⟨W1.heap.size,j * 3 + 1,none⟩ = some (.string y)):=fun V hV => by rw [hy];exact (form_at HFA.out hV).2.1
   have HCO : Hid (∀ V,RWd V w.heap.size g ws → V.cell? ⟨g,1,none⟩ = some (.string z)):=fun V hV => by rw [HZZ.out];exact (hV.at_ 0 d HD.out).2
   have HX0 : Hid (RWd wr.drew w.heap.size g ws ∧ Blk wr.drew W1.heap.size 137 ruleV):=⟨HW.out.below HLO.out.drew,HBQ.out.drew⟩
   by_cases heq : f.1 = d.1
   ·have hzy2 : y = z:=by rw [hy,HZZ.out,heq]
    have HFF : Hid (formL.find? (fun f => f.1 == d.1) = some f):=by
     show _ = _;rw [HF.out,HDR.out,List.find?_cons];simp [heq]
    clear hy heq;subst hzy2;have hzy1 : (y.toList == y.toList) = true:=by simp
    have hzy : (y == y) = true:=by rw [beq_toListBytes];exact hzy1
    have hzy3 : (y != y) = false:=by rw [bne,hzy];rfl
    have hzy4 : (y.toList != y.toList) = false:=by rw [bne,hzy1];rfl
    go_upto_region 11 with fail
    refine wp_region_L [] (fun V => RWd V w.heap.size g ws ∧ Blk V W1.heap.size 137 ruleV) (by kernel_rfl) ?_;refine tk 0 49 (v:=?_) rfl HX0.out ?_ ?_
    rotate_left;· intro V hV;go_simp;try with_reducible rfl
    try simp only [Act.put,aSt,aSz,aSs]
    refine tk 1 50 (v:=?_) rfl HX0.out ?_ ?_
    rotate_left;· intro V hV;go_simp;try with_reducible rfl
    try simp only [Act.put,aSt,aSz,aSs]
    refine tk 2 51 (v:=?_) rfl HX0.out ?_ ?_
    rotate_left;· intro V hV;go_simp;try with_reducible rfl
    try simp only [Act.put,aSt,aSz,aSs]
    refine tk 3 52 (v:=?_) rfl HX0.out ?_ ?_
    rotate_left;· intro V hV;go_simp;try with_reducible rfl
    try simp only [Act.put,aSt,aSz,aSs]
    refine tk 4 53 (v:=?_) rfl HX0.out ?_ ?_
    rotate_left
    ·intro V hV
     have k:=HCQ.out V hV.2;go_simp;try with_reducible rfl
    try simp only [Act.put,aSt,aSz,aSs]
    refine tk 5 54 (v:=?_) rfl HX0.out ?_ ?_
    rotate_left;· intro V hV;go_simp;try with_reducible rfl
    try simp only [Act.put,aSt,aSz,aSs]
    refine tk 6 55 (v:=?_) rfl HX0.out ?_ ?_
    rotate_left;· intro V hV;go_simp;try with_reducible rfl
    try simp only [Act.put,aSt,aSz,aSs]
    refine tk 7 56 (v:=?_) rfl HX0.out ?_ ?_
    rotate_left;· intro V hV;go_simp;try with_reducible rfl
    try simp only [Act.put,aSt,aSz,aSs]
    refine tk 8 57 (v:=?_) rfl HX0.out ?_ ?_
    rotate_left
    ·intro V hV
     have k:=HCO.out V hV.1;go_simp;try with_reducible rfl
    try simp only [Act.put,aSt,aSz,aSs]
    refine tk 9 58 (v:=?_) rfl HX0.out ?_ ?_
    rotate_left;· intro V hV;go_simp;try with_reducible rfl
    try simp only [Act.put,aSt,aSz,aSs]
    refine wpL_done (by kernel_rfl) ?_ _;obtain ⟨fk,hfk⟩ : ∃ fk,fk = f.2.1:=⟨_,rfl⟩;obtain ⟨fl,hfl⟩ : ∃ fl,fl = S (f.2.2.map lrOf):=⟨_,rfl⟩;have hfs : fl.size = f.2.2.length:=by rw [hfl,S_size,List.length_map]
    have f17 : f.2.2.length ≤ 3:=by
     have : ∀ x ∈ formL,x.2.2.length ≤ 3:=by decide
     exact this f (List.mem_of_getElem? HFA.out)
    obtain ⟨c3,_,c5⟩:=form_at HFA.out HBQ.out.drew;rw [← hfk] at c3;rw [← hfl] at c5;have HFL:=hide hfl;have HFK:=hide hfk
    have HEV : Hid (eventE nodes.toNat ws = thingsE nodes.toNat f.2.2 (ws.drop 1) { Ev.zero with kd:=fk }):=by
     show _ = _;rw [HR.out,HFF.out,hfk]
    clear hfl hfk hzy hzy1 hzy3 hzy4;go_upto_region 13 with fail
    generalize hW8 : World.drew (World.alloc wr _) = W8
    have HS8 : Hid (E2 w W8 w.heap.size wr.heap.size w.heap.size { Em.zero with kd:=fk }):=by
     show E2 _ _ _ _ _ _;rw [← hW8];have h1 : Below w.heap.size w (wr.alloc (.cells ({ Em.zero with kd:=fk } : Em).cs 33)).drew:=(HLO.out.alloc hsw _).drew;refine ⟨(Blk.new _ _ _).drew,⟨Z2,HZS.out,(HZ2.out.alloc _).drew⟩,⟨World.ownsRow_nil _ _ _ _,RB.nil _ _ _,Nat.zero_le _,Nat.zero_le _⟩,h1,hsw,Nat.le_refl _,?_⟩;have:=HZ2.out.lt;omega
    have HBQ8 : Hid (Blk W8 W1.heap.size 137 ruleV):=by
     show Blk _ _ _ _;rw [← hW8];exact (HBQ.out.alloc _).drew
    have c6 : W8.cell? ⟨W1.heap.size,j * 3 + 2,none⟩ = some (.string fl):=by rw [HFL.out];exact (form_at HFA.out HBQ8.out).2.2
    clear hW8 c3 c5;have wsm : IntKind.i64.wrap (1 + (f.2.2.length : Int)) = 1 + (f.2.2.length : Int):=i64_wrap _ (by omega) (by omega);have wsm2 : IntKind.i64.wrap (1 + (fl.size : Int)) = 1 + (fl.size : Int):=i64_wrap _ (by omega) (by omega)
    by_cases hlen : ws.length = 1 + f.2.2.length
    ·have q1 : ((ws.length : Int) != 1 + (f.2.2.length : Int)) = false:=by
      rw [bne_eq_false_iff_eq];omega
     have q2 : ((ws.length : Int) != 1 + (fl.size : Int)) = false:=by
      rw [bne_eq_false_iff_eq];omega
     have q3 : (((1 + f.2.2.length : Nat) : Int) != 1 + (f.2.2.length : Int)) = false:=by
      rw [bne_eq_false_iff_eq];omega
     have HLEN:=hide hlen;have HFS:=hide hfs;clear hlen;obtain ⟨wz,hwz⟩ : ∃ wz,wz = wr:=⟨_,rfl⟩;subst hwz;have HL5 : Hid (IlLoop w ws nodes.toNat (eventE nodes.toNat ws) f.2.2 W1.heap.size wz.heap.size (.int .i64 1) W8):=⟨0,_,hl,rfl,HS8.out,HBQ8.out,HEV.out⟩;have HC6 : Hid (∀ V,Blk V W1.heap.size 137 ruleV → V.cell? ⟨W1.heap.size,j * 3 + 2,none⟩ = some (.string fl)):=fun V hV => by rw [HFL.out];exact (form_at HFA.out hV).2.2
     go_upto_region 16 with fail
     clear HS8 HBQ8 c6 q1 q2 q3 wsm wsm2 HEV HCQ HCO HX0;go_loopw [9] (fun i wr => IlLoop w ws nodes.toNat (eventE nodes.toNat ws) f.2.2 W1.heap.size wz.heap.size i wr) (fun i _ => ws.length - (intOf i).toNat)
     case atStart => exact HL5.out
     case round =>
      clear HL5;unfold IlLoop at hrel;obtain ⟨k,m,hk,rfl,he2,hbq,hT⟩:=hrel;have HS:=hide he2;have HBK:=hide hbq;have HT:=hide hT;clear he2 hbq hT;have k0 : (0 : Int) ≤ (k : Int) + 1:=by omega
      have k1 : ((k : Int) + 1).toNat = k + 1:=by omega
      have k2 : (0 : Int) ≤ (k : Int):=by omega
      by_cases hkl : k + 1 < ws.length
      ·have ks : (k : Int) + 1 < (ws.length : Int):=by omega
       obtain ⟨dk,hdk⟩ : ∃ dk,ws[k + 1]? = some dk:=⟨_,List.getElem?_eq_getElem hkl⟩;have hkf : k < f.2.2.length:=by have:=HLEN.out;omega
       obtain ⟨lk,hlk⟩ : ∃ lk,f.2.2[k]? = some lk:=⟨_,List.getElem?_eq_getElem hkf⟩
       have HTS : Hid (eventE nodes.toNat ws = match thingE nodes.toNat m.ev lk dk with | some e' => thingsE nodes.toNat (f.2.2.drop (k + 1)) (ws.drop (k + 1 + 1)) e' | none => none):=by
        show _ = _;obtain ⟨h1,h2⟩:=List.getElem?_eq_some_iff.1 hdk;obtain ⟨h3,h4⟩:=List.getElem?_eq_some_iff.1 hlk;rw [HT.out,List.drop_eq_getElem_cons h1,List.drop_eq_getElem_cons h3,h2,h4]
        rfl
       have hfz : k < fl.size:=by rw [HFS.out];exact hkf
       obtain ⟨lb,hlb⟩ : ∃ lb,lb = fl[k]:=⟨_,rfl⟩;have hlbc:=hlb.symm
       have hlbe : lb = lrOf lk:=by
        rw [hlb];have h1 : fl.data.toList[k]? = some (lrOf lk):=by rw [HFL.out,S_data,List.getElem?_map,hlk];rfl
        obtain ⟨h2,h3⟩:=List.getElem?_eq_some_iff.1 h1;rw [← h3]
        rfl
       have ks2 : (k : Int) < (fl.size : Int):=by omega
       have wk : IntKind.i64.wrap ((k : Int) + 1 - 1) = (k : Int):=by rw [show (k : Int) + 1 - 1 = (k : Int) by omega];exact i64_wrap _ (by omega) (by omega)
       have wk2 : IntKind.i64.wrap (k : Int) = (k : Int):=i64_wrap _ (by omega) (by omega);have hdz : dk.1.length ≤ 100000000:=HZ.out dk (List.mem_of_getElem? hdk);have HCW : Hid (∀ V,RWd V w.heap.size g ws → V.cell? ⟨g,(k + 1) * 2,none⟩ = some (.bool dk.2) ∧ V.cell? ⟨g,(k + 1) * 2 + 1,none⟩ = some (.string (S dk.1))):=fun V hV => hV.at_ (k + 1) dk hdk
       have HTC : Hid (∀ W,w.heap.size ≤ W.heap.size → EmU W w.heap.size m → Calls Tryz.prog 93 #[.agg m.cs,.int .u8 (lb.toNat : Int),.agg #[.bool dk.2,.string (S dk.1)],.int .i64 nodes] W fun e w' => EvB (thingE nodes.toNat m.ev lk dk) w.heap.size W e w'):=fun W h1 h2 => by
        rw [hlbe];exact thing_any lk m dk nodes _ W h2 h1 hdz hn
       obtain ⟨TE,hTE⟩ : ∃ TE,TE = thingE nodes.toNat m.ev lk dk:=⟨_,rfl⟩;rw [← hTE] at HTC HTS;have HX0 : Hid (Blk wr.drew wz.heap.size 33 m.cs ∧ RWd wr.drew w.heap.size g ws ∧ Blk wr.drew W1.heap.size 137 ruleV):=⟨HS.out.drew.box,HW.out.below HS.out.drew.low,HBK.out.drew⟩;have HSD:=hide HS.out.drew;have ks3 : (k : Int) < (f.2.2.length : Int):=by omega
       clear hdk hlk hlb hlbe hTE hdz;go_upto_region 18 with fail
       obtain ⟨W4,hW4⟩ : ∃ W4,W4 = wr.drew:=⟨_,rfl⟩;refine wp_region_L [] (fun V => Blk V wz.heap.size 33 m.cs ∧ RWd V w.heap.size g ws ∧ Blk V W1.heap.size 137 ruleV) (by kernel_rfl) ?_;rw [← hW4] at HX0 HSD ⊢;clear hW4;refine tk 0 83 (v:=.agg m.cs) rfl HX0.out ?_ ?_
       ·intro V hV;exact ex_load 33 (.tmp 8) rfl _ rfl m.cs _ Tryz.underlying33 rfl (ld29 _ (em_size _)) (ebox_all hV.1)
       try simp only [Act.put,aSt,aSz,aSs]
       refine tk 1 84 (v:=?_) rfl HX0.out ?_ ?_
       rotate_left;· intro V hV;go_simp;try with_reducible rfl
       try simp only [Act.put,aSt,aSz,aSs]
       refine tk 2 85 (v:=?_) rfl HX0.out ?_ ?_
       rotate_left;· intro V hV;go_simp;try with_reducible rfl
       try simp only [Act.put,aSt,aSz,aSs]
       refine tk 3 86 (v:=?_) rfl HX0.out ?_ ?_
       rotate_left;· intro V hV;go_simp;try with_reducible rfl
       try simp only [Act.put,aSt,aSz,aSs]
       refine tk 4 87 (v:=?_) rfl HX0.out ?_ ?_
       rotate_left;· intro V hV;go_simp;try with_reducible rfl
       try simp only [Act.put,aSt,aSz,aSs]
       refine tk 5 88 (v:=?_) rfl HX0.out ?_ ?_
       rotate_left
       ·intro V hV
        have k:=HC6.out V hV.2.2;go_simp;try with_reducible rfl
       try simp only [Act.put,aSt,aSz,aSs]
       refine tk 6 89 (v:=?_) rfl HX0.out ?_ ?_
       rotate_left;· intro V hV;go_simp;try with_reducible rfl
       try simp only [Act.put,aSt,aSz,aSs]
       refine tk 7 90 (v:=?_) rfl HX0.out ?_ ?_
       rotate_left;· intro V hV;go_simp;try with_reducible rfl
       try simp only [Act.put,aSt,aSz,aSs]
       refine tk 8 91 (v:=?_) rfl HX0.out ?_ ?_
       rotate_left;· intro V hV;go_simp;try with_reducible rfl
       try simp only [Act.put,aSt,aSz,aSs]
       refine tk 9 92 (v:=?_) rfl HX0.out ?_ ?_
       rotate_left;· intro V hV;go_simp;try with_reducible rfl
       try simp only [Act.put,aSt,aSz,aSs]
       refine tk 10 93 (v:=?_) rfl HX0.out ?_ ?_
       rotate_left;· intro V hV;go_simp;try with_reducible rfl
       try simp only [Act.put,aSt,aSz,aSs]
       refine tk 11 94 (v:=?_) rfl HX0.out ?_ ?_
       rotate_left;· intro V hV;go_simp;try with_reducible rfl
       try simp only [Act.put,aSt,aSz,aSs]
       refine tk 12 95 (v:=?_) rfl HX0.out ?_ ?_
       rotate_left
       ·intro V hV
        obtain ⟨ka,kb⟩:=HCW.out V hV.2.1;go_simp;try with_reducible rfl
       try simp only [Act.put,aSt,aSz,aSs]
       refine tk 13 96 (v:=?_) rfl HX0.out ?_ ?_
       rotate_left;· intro V hV;go_simp;try with_reducible rfl
       try simp only [Act.put,aSt,aSz,aSs]
       have hsw4 : w.heap.size ≤ W4.heap.size:=HSD.out.low.size;refine wpL_two 14 18 (by kernel_rfl) rfl rfl (fun K hK => ?_) (fun K hK => ?_)
       ·rw [if_pos (by rfl)]
        go_simp;go_at_call 93;refine (HTC.out _ hsw4 HSD.out.t).mono ?_;rintro e w5 ⟨m',ok,rfl,ht,hb5,h1,h2⟩;have HS5:=hide (HSD.out.step hb5);have HX5 : Hid (Blk w5 wz.heap.size 33 m.cs ∧ RWd w5 w.heap.size g ws ∧ Blk w5 W1.heap.size 137 ruleV):=⟨HS5.out.box,HX0.out.2.1.below (hb5.mono hsw4),HX0.out.2.2.below hb5 HX0.out.2.2.lt⟩;have HT5:=hide ht;have H1:=hide h1;have H2:=hide h2;refine hK _ _ (fun _ => HX5.out) ?_;clear hK K ht hb5 h1 h2;try simp only [Act.put,aSt,aSz,aSs]
        refine tk 15 82 (v:=?_) rfl HX5.out ?_ ?_
        rotate_left;· intro V hV;go_simp;try with_reducible rfl
        try simp only [Act.put,aSt,aSz,aSs]
        refine tk 16 98 (v:=?_) rfl HX5.out ?_ ?_
        rotate_left;· intro V hV;go_simp;try with_reducible rfl
        try simp only [Act.put,aSt,aSz,aSs]
        refine tk 17 99 (v:=?_) rfl HX5.out ?_ ?_
        rotate_left;· intro V hV;go_simp;try with_reducible rfl
        try simp only [Act.put,aSt,aSz,aSs]
        refine wpL_one 18 (by kernel_rfl) rfl (fun K hK => ?_);rw [if_pos (by rfl)];go_simp;obtain ⟨W6,hW6⟩ : ∃ W6,W6 = w5.alloc (.cells Em.zero.cs 33):=⟨_,rfl⟩;obtain ⟨p10,hp10⟩ : ∃ p10,p10 = w5.heap.size:=⟨_,rfl⟩;have HZ6 : Hid (Blk W6 p10 33 Em.zero.cs):=by show Blk _ _ _ _;rw [hW6,hp10];exact Blk.new _ _ _
        have hb6 : Below w5.heap.size w5 W6:=by rw [hW6];exact (Below.refl _ _).alloc (Nat.le_refl _) _
        have HS6:=hide (HS5.out.step hb6);have HT6:=hide (HT5.out.step hb6);have hsw5 : w.heap.size ≤ w5.heap.size:=HS5.out.low.size;have HX6 : Hid (Blk W6 wz.heap.size 33 m.cs ∧ RWd W6 w.heap.size g ws ∧ Blk W6 W1.heap.size 137 ruleV):=⟨HS6.out.box,HX5.out.2.1.below (hb6.mono hsw5),HX5.out.2.2.below hb6 HX5.out.2.2.lt⟩
        have HP6 : Hid (w.heap.size ≤ p10 ∧ p10 ≠ wz.heap.size ∧ p10 ≠ w.heap.size):=by
         have h1:=HS5.out.box.lt;have h2:=HS5.out.out;obtain ⟨_,_,h2⟩:=h2;have h2:=h2.lt;exact ⟨by omega,by omega,by omega⟩
        clear hb6;refine hK _ _ (fun _ => by have:=HX6.out;rw [hW6] at this;exact this) ?_;clear hK K;try simp only [Act.put,aSt,aSz,aSs]
        show wpL _ _ _ _ _ _ _ _ _ (w5.alloc (.cells Em.zero.cs 33));rw [← hW6];try rw [← hp10]
        clear hW6 hp10 HX5 HS5 HT5;obtain ⟨W9,hW9⟩ : ∃ W9,W9 = W6.setRow p10 m'.cs:=⟨_,rfl⟩
        have HS9 : Hid (E2 w W9 w.heap.size wz.heap.size w.heap.size m):=by
         show E2 _ _ _ _ _ _;rw [hW9];exact HS6.out.aside HZ6.out HP6.out.2.1 HP6.out.2.2 HP6.out.1 _
        have HP9 : Hid (Blk W9 p10 33 m'.cs):=by
         show Blk _ _ _ _;rw [hW9];exact HZ6.out.row _
        have HT9 : Hid (EmU W9 w.heap.size m'):=by
         show EmU _ _ _;rw [hW9];exact HT6.out.far HZ6.out (by decide) (by decide) (only_setRow _ _ _)
        have HX9 : Hid (Blk W9 wz.heap.size 33 m.cs ∧ RWd W9 w.heap.size g ws ∧ Blk W9 W1.heap.size 137 ruleV):=by
         refine ⟨HS9.out.box,HW.out.below HS9.out.low,?_⟩;rw [hW9];exact HX6.out.2.2.row_far (fun e => by have h1:=HX6.out.2.2;rw [e] at h1;exact Blk.ne_ h1 HZ6.out (by decide) rfl) _
        refine wpL_one 19 (by kernel_rfl) rfl (fun K hK => ?_);refine one_skip (by rfl) (run_put_at 33 (.tmp 10) (.tmp 98) rfl p10 0 m'.cs rfl rfl 33 Em.zero.cs HZ6.out (ld29 _ (em_size _)) (by rw [em_size,em_size];omega) (ecs_all m') _ (eput_zero Em.zero.cs rfl m')) (hK _ _ (fun _ => by have:=HX9.out;rw [hW9] at this;exact this) ?_);clear hK K;try simp only [Act.put,aSt,aSz,aSs]
        rw [← hW9];clear hW9 HS6 HZ6 HX6 HT6;refine wpL_one 20 (by kernel_rfl) rfl (fun K hK => ?_);rw [if_pos (by rfl)];go_simp;refine hK _ _ (fun _ => HX9.out) ?_;clear hK K;try simp only [Act.put,aSt,aSz,aSs]
        refine wpL_done (by kernel_rfl) ?_ _;have HBK9:=hide HX9.out.2.2;clear HX9 HX0 HSD;have HP6':=HP6;clear HP6
        cases ok with
        | false =>
         have HR0 : Hid (eventE nodes.toNat ws = none):=by
          show _ = _;rw [HTS.out,H2.out rfl]
         have HS:=HS9;clear HS9;go_upto_region 20 with fail
         refine wp_region_lit ?_;refine wpList_value rfl (.agg m.cs) (ex_load 33 (.tmp 8) rfl _ rfl m.cs _ Tryz.underlying33 rfl (ld29 _ (em_size _)) (ebox_all HS.out.box)) ?_;simp only [Act.put,aSt,aSz,aSs];obtain ⟨Z9,hZs9,hZ9⟩:=HS.out.out;go_wp2_with (refine wpList_put_at rfl 33 (.tmp 4) (.tmp 102) rfl (w.heap.size) 0 m.cs rfl rfl 33 Z9 hZ9 (ld29 _ (em_size _)) (by rw [em_size,hZs9];omega) (ecs_all m) _ (eput_zero Z9 hZs9 m) ?_);refine bodyPost_ret (results_29b rfl _ rfl (hZ9.row _) rfl) rfl ?_;exact HS.out.fin (fun h => by cases h) (fun _ => HR0.out)
        | true =>
         have HL8 : Hid (IlLoop w ws nodes.toNat (eventE nodes.toNat ws) f.2.2 W1.heap.size wz.heap.size (.int .i64 ((k : Int) + 1 + 1)) (W9.setRow wz.heap.size m'.cs)):=by
          refine ⟨k + 1,m',by omega,by push_cast;rfl,HS9.out.put HT9.out,HBK9.out.row_far (fun e => by have h1:=HBK9.out;rw [e] at h1;exact Blk.ne_ h1 HS9.out.box (by decide) rfl) _,?_⟩;rw [HTS.out,H1.out rfl]
         go_upto_region 21 with fail
         refine wp_region_lit ?_;refine wpList_value rfl (.agg m'.cs) (ex_load 33 (.tmp 10) rfl _ rfl m'.cs _ Tryz.underlying33 rfl (ld29 _ (em_size _)) (ebox_all HP9.out)) ?_;simp only [Act.put,aSt,aSz,aSs];refine wpList_put_at rfl 33 (.tmp 8) (.tmp 103) rfl wz.heap.size 0 m'.cs rfl rfl 33 m.cs HS9.out.box (ld29 _ (em_size _)) (by rw [em_size,em_size];omega) (ecs_all m') _ (eput_zero m.cs rfl m') ?_;have wk3 : IntKind.i64.wrap ((k : Int) + 1 + 1) = (k : Int) + 1 + 1:=i64_wrap _ (by omega) (by omega);go_wp2_with fail;go_roundw
         case rel => first | exact HL8.out | exact ⟨_,HL8.out,rfl⟩
         case measure => simp [intOf];omega
       ·rw [if_pos (by rfl)]
        go_simp;obtain ⟨W5,hW5⟩ : ∃ W5,W5 = W4.alloc (.cells Em.zero.cs 33):=⟨_,rfl⟩;obtain ⟨p10,hp10⟩ : ∃ p10,p10 = W4.heap.size:=⟨_,rfl⟩;have HZ5 : Hid (Blk W5 p10 33 Em.zero.cs):=by show Blk _ _ _ _;rw [hW5,hp10];exact Blk.new _ _ _
        have hb5 : Below W4.heap.size W4 W5:=by rw [hW5];exact (Below.refl _ _).alloc (Nat.le_refl _) _
        have HS5:=hide (HSD.out.step hb5);have hsw5 : w.heap.size ≤ W5.heap.size:=HS5.out.low.size;have HX5 : Hid (Blk W5 wz.heap.size 33 m.cs ∧ RWd W5 w.heap.size g ws ∧ Blk W5 W1.heap.size 137 ruleV):=⟨HS5.out.box,HX0.out.2.1.below (hb5.mono hsw4),HX0.out.2.2.below hb5 HX0.out.2.2.lt⟩
        have HP6 : Hid (w.heap.size ≤ p10 ∧ p10 ≠ wz.heap.size ∧ p10 ≠ w.heap.size):=by
         have h1:=HSD.out.box.lt;have h2:=HSD.out.out;obtain ⟨_,_,h2⟩:=h2;have h2:=h2.lt;exact ⟨by omega,by omega,by omega⟩
        clear hb5;refine hK _ _ (fun _ => by have:=HX5.out;rw [hW5] at this;exact this) ?_;clear hK K;try simp only [Act.put,aSt,aSz,aSs]
        show wpL _ _ _ _ _ _ _ _ _ (W4.alloc (.cells Em.zero.cs 33));rw [← hW5];try rw [← hp10]
        clear hW5 hp10;refine wpL_one 14 (by kernel_rfl) rfl (fun K hK => ?_);rw [if_pos (by rfl)];go_simp;go_at_call 93;refine (HTC.out _ hsw5 HS5.out.t).mono ?_;rintro e W6 ⟨m',ok,rfl,ht,hb6,h1,h2⟩;have HS6:=hide (HS5.out.step hb6);have HZ6:=hide (HZ5.out.below hb6 HZ5.out.lt);have HX6 : Hid (Blk W6 wz.heap.size 33 m.cs ∧ RWd W6 w.heap.size g ws ∧ Blk W6 W1.heap.size 137 ruleV):=⟨HS6.out.box,HX5.out.2.1.below (hb6.mono hsw5),HX5.out.2.2.below hb6 HX5.out.2.2.lt⟩;have HT6:=hide ht;have H1:=hide h1;have H2:=hide h2;refine hK _ _ (fun _ => HX6.out) ?_;clear hK K ht hb6 h1 h2 HX5 HS5 HZ5;try simp only [Act.put,aSt,aSz,aSs]
        refine tk 15 82 (v:=?_) rfl HX6.out ?_ ?_
        rotate_left;· intro V hV;go_simp;try with_reducible rfl
        try simp only [Act.put,aSt,aSz,aSs]
        refine tk 16 98 (v:=?_) rfl HX6.out ?_ ?_
        rotate_left;· intro V hV;go_simp;try with_reducible rfl
        try simp only [Act.put,aSt,aSz,aSs]
        refine tk 17 99 (v:=?_) rfl HX6.out ?_ ?_
        rotate_left;· intro V hV;go_simp;try with_reducible rfl
        try simp only [Act.put,aSt,aSz,aSs]
        obtain ⟨W9,hW9⟩ : ∃ W9,W9 = W6.setRow p10 m'.cs:=⟨_,rfl⟩
        have HS9 : Hid (E2 w W9 w.heap.size wz.heap.size w.heap.size m):=by
         show E2 _ _ _ _ _ _;rw [hW9];exact HS6.out.aside HZ6.out HP6.out.2.1 HP6.out.2.2 HP6.out.1 _
        have HP9 : Hid (Blk W9 p10 33 m'.cs):=by
         show Blk _ _ _ _;rw [hW9];exact HZ6.out.row _
        have HT9 : Hid (EmU W9 w.heap.size m'):=by
         show EmU _ _ _;rw [hW9];exact HT6.out.far HZ6.out (by decide) (by decide) (only_setRow _ _ _)
        have HX9 : Hid (Blk W9 wz.heap.size 33 m.cs ∧ RWd W9 w.heap.size g ws ∧ Blk W9 W1.heap.size 137 ruleV):=by
         refine ⟨HS9.out.box,HW.out.below HS9.out.low,?_⟩;rw [hW9];exact HX6.out.2.2.row_far (fun e => by have h1:=HX6.out.2.2;rw [e] at h1;exact Blk.ne_ h1 HZ6.out (by decide) rfl) _
        refine wpL_one 19 (by kernel_rfl) rfl (fun K hK => ?_);refine one_skip (by rfl) (run_put_at 33 (.tmp 10) (.tmp 98) rfl p10 0 m'.cs rfl rfl 33 Em.zero.cs HZ6.out (ld29 _ (em_size _)) (by rw [em_size,em_size];omega) (ecs_all m') _ (eput_zero Em.zero.cs rfl m')) (hK _ _ (fun _ => by have:=HX9.out;rw [hW9] at this;exact this) ?_);clear hK K;try simp only [Act.put,aSt,aSz,aSs]
        rw [← hW9];clear hW9 HS6 HZ6 HX6 HT6;refine wpL_one 20 (by kernel_rfl) rfl (fun K hK => ?_);rw [if_pos (by rfl)];go_simp;refine hK _ _ (fun _ => HX9.out) ?_;clear hK K;try simp only [Act.put,aSt,aSz,aSs]
        refine wpL_done (by kernel_rfl) ?_ _;have HBK9:=hide HX9.out.2.2;clear HX9 HX0 HSD;have HP6':=HP6;clear HP6
        cases ok with
        | false =>
         have HR0 : Hid (eventE nodes.toNat ws = none):=by
          show _ = _;rw [HTS.out,H2.out rfl]
         have HS:=HS9;clear HS9;go_upto_region 20 with fail
         refine wp_region_lit ?_;refine wpList_value rfl (.agg m.cs) (ex_load 33 (.tmp 8) rfl _ rfl m.cs _ Tryz.underlying33 rfl (ld29 _ (em_size _)) (ebox_all HS.out.box)) ?_;simp only [Act.put,aSt,aSz,aSs];obtain ⟨Z9,hZs9,hZ9⟩:=HS.out.out;go_wp2_with (refine wpList_put_at rfl 33 (.tmp 4) (.tmp 102) rfl (w.heap.size) 0 m.cs rfl rfl 33 Z9 hZ9 (ld29 _ (em_size _)) (by rw [em_size,hZs9];omega) (ecs_all m) _ (eput_zero Z9 hZs9 m) ?_);refine bodyPost_ret (results_29b rfl _ rfl (hZ9.row _) rfl) rfl ?_;exact HS.out.fin (fun h => by cases h) (fun _ => HR0.out)
        | true =>
         have HL8 : Hid (IlLoop w ws nodes.toNat (eventE nodes.toNat ws) f.2.2 W1.heap.size wz.heap.size (.int .i64 ((k : Int) + 1 + 1)) (W9.setRow wz.heap.size m'.cs)):=by
          refine ⟨k + 1,m',by omega,by push_cast;rfl,HS9.out.put HT9.out,HBK9.out.row_far (fun e => by have h1:=HBK9.out;rw [e] at h1;exact Blk.ne_ h1 HS9.out.box (by decide) rfl) _,?_⟩;rw [HTS.out,H1.out rfl]
         go_upto_region 21 with fail
         refine wp_region_lit ?_;refine wpList_value rfl (.agg m'.cs) (ex_load 33 (.tmp 10) rfl _ rfl m'.cs _ Tryz.underlying33 rfl (ld29 _ (em_size _)) (ebox_all HP9.out)) ?_;simp only [Act.put,aSt,aSz,aSs];refine wpList_put_at rfl 33 (.tmp 8) (.tmp 103) rfl wz.heap.size 0 m'.cs rfl rfl 33 m.cs HS9.out.box (ld29 _ (em_size _)) (by rw [em_size,em_size];omega) (ecs_all m') _ (eput_zero m.cs rfl m') ?_;have wk3 : IntKind.i64.wrap ((k : Int) + 1 + 1) = (k : Int) + 1 + 1:=i64_wrap _ (by omega) (by omega);go_wp2_with fail;go_roundw
         case rel => first | exact HL8.out | exact ⟨_,HL8.out,rfl⟩
         case measure => simp [intOf];omega
      ·have ks : ¬ (k : Int) + 1 < (ws.length : Int):=by omega
       have HTS : Hid (eventE nodes.toNat ws = some m.ev):=by
        show _ = _;have h:=HLEN.out;rw [HT.out,List.drop_eq_nil_of_le (show ws.length ≤ k + 1 by omega),List.drop_eq_nil_of_le (show f.2.2.length ≤ k by omega)]
        rfl
       clear hkl;go_upto_region 22 with fail
       refine wp_region_lit ?_;refine wpList_value rfl (.agg m.cs) (ex_load 33 (.tmp 8) rfl _ rfl m.cs _ Tryz.underlying33 rfl (ld29 _ (em_size _)) (ebox_all HS.out.box)) ?_;simp only [Act.put,aSt,aSz,aSs];obtain ⟨Z9,hZs9,hZ9⟩:=HS.out.out;go_wp2_with (refine wpList_put_at rfl 33 (.tmp 4) (.tmp 104) rfl (w.heap.size) 0 m.cs rfl rfl 33 Z9 hZ9 (ld29 _ (em_size _)) (by rw [em_size,hZs9];omega) (ecs_all m) _ (eput_zero Z9 hZs9 m) ?_);refine bodyPost_ret (results_29b rfl _ rfl (hZ9.row _) rfl) rfl ?_;exact HS.out.fin (fun _ => HTS.out) (fun h => by cases h)
    ·have q1 : ((ws.length : Int) != 1 + (f.2.2.length : Int)) = true:=by
      rw [bne_iff_ne];omega
     have q2 : ((ws.length : Int) != 1 + (fl.size : Int)) = true:=by
      rw [bne_iff_ne];omega
     have HR0 : Hid (eventE nodes.toNat ws = none):=by
      show _ = _;rw [HEV.out];exact things_len _ _ _ (by rw [List.length_drop];omega)
     have q4 : ¬ (ws.length : Int) = 1 + (f.2.2.length : Int):=by omega
     clear hlen;have HS:=HS8;clear HS8;obtain ⟨m,hm⟩ : ∃ m : Em,m = { Em.zero with kd:=fk }:=⟨_,rfl⟩;rw [← hm] at HS;clear hm;go_upto_region 14 with fail
     refine wp_region_lit ?_;refine wpList_value rfl (.agg m.cs) (ex_load 33 (.tmp 8) rfl _ rfl m.cs _ Tryz.underlying33 rfl (ld29 _ (em_size _)) (ebox_all HS.out.box)) ?_;simp only [Act.put,aSt,aSz,aSs];obtain ⟨Z9,hZs9,hZ9⟩:=HS.out.out;go_wp2_with (refine wpList_put_at rfl 33 (.tmp 4) (.tmp 75) rfl (w.heap.size) 0 m.cs rfl rfl 33 Z9 hZ9 (ld29 _ (em_size _)) (by rw [em_size,hZs9];omega) (ecs_all m) _ (eput_zero Z9 hZs9 m) ?_);refine bodyPost_ret (results_29b rfl _ rfl (hZ9.row _) rfl) rfl ?_;exact HS.out.fin (fun h => by cases h) (fun _ => HR0.out)
   ·have hne : ¬ y.toList = z.toList:=by
     rw [hy,HZZ.out,ByteArray.toList_eq,ByteArray.toList_eq,S_data,S_data];exact heq
    have hzy2 : ¬ y = z:=fun e => hne (by rw [e])
    have HFF : Hid (formL.find? (fun f => f.1 == d.1) = (formL.drop (j + 1)).find? (fun f => f.1 == d.1)):=by
     show _ = _;rw [HF.out,HDR.out,List.find?_cons];have : (f.1 == d.1) = false:=by rw [beq_eq_false_iff_ne];exact heq
     rw [this]
    clear hy heq;have hzy1 : (y.toList == z.toList) = false:=by rw [beq_eq_false_iff_ne];exact hne
    have hzy : (y == z) = false:=by rw [beq_toListBytes];exact hzy1
    have hzy3 : (y != z) = true:=by rw [bne,hzy];rfl
    have hzy4 : (y.toList != z.toList) = true:=by rw [bne,hzy1];rfl
    go_upto_region 11 with fail
    refine wp_region_L [] (fun V => RWd V w.heap.size g ws ∧ Blk V W1.heap.size 137 ruleV) (by kernel_rfl) ?_;refine tk 0 49 (v:=?_) rfl HX0.out ?_ ?_
    rotate_left;· intro V hV;go_simp;try with_reducible rfl
    try simp only [Act.put,aSt,aSz,aSs]
    refine tk 1 50 (v:=?_) rfl HX0.out ?_ ?_
    rotate_left;· intro V hV;go_simp;try with_reducible rfl
    try simp only [Act.put,aSt,aSz,aSs]
    refine tk 2 51 (v:=?_) rfl HX0.out ?_ ?_
    rotate_left;· intro V hV;go_simp;try with_reducible rfl
    try simp only [Act.put,aSt,aSz,aSs]
    refine tk 3 52 (v:=?_) rfl HX0.out ?_ ?_
    rotate_left;· intro V hV;go_simp;try with_reducible rfl
    try simp only [Act.put,aSt,aSz,aSs]
    refine tk 4 53 (v:=?_) rfl HX0.out ?_ ?_
    rotate_left
    ·intro V hV
     have k:=HCQ.out V hV.2;go_simp;try with_reducible rfl
    try simp only [Act.put,aSt,aSz,aSs]
    refine tk 5 54 (v:=?_) rfl HX0.out ?_ ?_
    rotate_left;· intro V hV;go_simp;try with_reducible rfl
    try simp only [Act.put,aSt,aSz,aSs]
    refine tk 6 55 (v:=?_) rfl HX0.out ?_ ?_
    rotate_left;· intro V hV;go_simp;try with_reducible rfl
    try simp only [Act.put,aSt,aSz,aSs]
    refine tk 7 56 (v:=?_) rfl HX0.out ?_ ?_
    rotate_left;· intro V hV;go_simp;try with_reducible rfl
    try simp only [Act.put,aSt,aSz,aSs]
    refine tk 8 57 (v:=?_) rfl HX0.out ?_ ?_
    rotate_left
    ·intro V hV
     have k:=HCO.out V hV.1;go_simp;try with_reducible rfl
    try simp only [Act.put,aSt,aSz,aSs]
    refine tk 9 58 (v:=?_) rfl HX0.out ?_ ?_
    rotate_left;· intro V hV;go_simp;try with_reducible rfl
    try simp only [Act.put,aSt,aSz,aSs]
    refine wpL_done (by kernel_rfl) ?_ _;have HL8 : Hid (RuLoop w d.1 W1.heap.size (.int .i64 ((j : Int) + 1)) wr.drew):=⟨j + 1,by omega,by go_num,HFF.out,HBQ.out.drew,⟨Z2,HZS.out,HZ2.out.drew⟩,HLO.out.drew⟩;go_wp2_with fail;go_roundw
    case rel => first | exact HL8.out | exact ⟨_,HL8.out,rfl⟩
    case measure => simp [intOf];omega
  ·have js : ¬ (j : Int) < 17:=by omega
   have HR0 : Hid (eventE nodes.toNat ws = none):=by
    show _ = _;rw [HR.out,HF.out,List.drop_eq_nil_of_le (show formL.length ≤ j from by show 17 ≤ j;omega)]
    rfl
   clear hlt;go_wp2_with (refine wpList_put_at rfl 33 (.tmp 4) (.tmp 105) rfl (w.heap.size) 0 Em.zero.cs rfl rfl 33 Z2 HZ2.out (ld29 _ (em_size _)) (by rw [em_size,HZS.out];omega) (ecs_all Em.zero) _ (eput_zero Z2 HZS.out Em.zero) ?_);refine bodyPost_ret (results_29b rfl _ rfl (HZ2.out.row _) rfl) rfl ?_;exact evb_out (Nat.le_refl _) HZ2.out (EmU.zero _ _) HLO.out (fun h => by cases h) (fun _ => HR0.out)
theorem event_any (g cap : Nat) (ws : List Wd) (nodes : Int) (w : World) (hw : RWd w w.heap.size g ws) (hlm : ws.length ≤ 90000000) (hz : ∀ d ∈ ws,d.1.length ≤ 100000000) (hn : 1 ≤ nodes ∧ nodes ≤ 16) :
  Calls Tryz.prog 76 #[.slice (some ⟨g,0,none⟩) ws.length cap,.int .i64 nodes] w fun e w' => EvB (eventE nodes.toNat ws) w.heap.size w e w':=by
 by_cases h0 : ws = []
 ·subst h0
  exact event_nil _ cap nodes w
 ·have hl : 0 < ws.length:=List.length_pos_iff.2 h0
  obtain ⟨d,hd⟩ : ∃ d,ws[0]? = some d:=⟨_,List.getElem?_eq_getElem hl⟩
  cases hq : d.2 with
  | true => exact event_quoted g cap ws nodes w hw hlm hz hn d hd hq
  | false =>
   by_cases h1 : d.1 = [100,111]
   ·exact event_do g cap ws nodes w hw hlm hz hn d hd hq h1
   ·by_cases h2 : d.1 = [115,112,108,105,116]
    ·exact event_split g cap ws nodes w hw hlm hz hn d hd hq h2
    ·exact event_main g cap ws nodes w hw hlm hz hn d hd hq h1 h2
end Go.Proofs.YtcibcmfaebbhnaaGreatDoor
