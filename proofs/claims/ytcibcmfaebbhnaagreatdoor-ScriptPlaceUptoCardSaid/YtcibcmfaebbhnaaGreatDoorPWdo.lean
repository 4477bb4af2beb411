/-
  The reference's doing: a line that begins with do. (Printed by wip/tools/mkwdo.py.)
-/
import Derived.Test.YtcibcmfaebbhnaaGreatDoorPWsp
import Derived.Test.YtcibcmfaebbhnaaGreatDoorPWords
set_option linter.unusedSimpArgs false
set_option linter.unusedVariables false
set_option maxRecDepth 100000
set_option maxHeartbeats 16000000

namespace Go.Proofs.YtcibcmfaebbhnaaGreatDoor
open Go.RowKit Go.WideShapes Go.ChangeShapes Q
def opW (j : Nat) : List UInt8:=([] :: opL).getD j []
def opV : Array Value:=#[.string ⟨#[]⟩,.string ⟨#[115,101,116]⟩,.string ⟨#[103,101,116]⟩,.string ⟨#[99,97,115]⟩,.string ⟨#[100,101,108]⟩,.string ⟨#[97,100,100]⟩,.string ⟨#[108,111,99,107]⟩,.string ⟨#[117,110,108,111,99,107]⟩,.string ⟨#[102,101,110,99,101]⟩,.string ⟨#[101,110,100]⟩]
theorem opV_at : ∀ j,j < 10 → opV[j]? = some (.string (S (opW j)))
 | 0,_ => rfl
 | 1,_ => rfl
 | 2,_ => rfl
 | 3,_ => rfl
 | 4,_ => rfl
 | 5,_ => rfl
 | 6,_ => rfl
 | 7,_ => rfl
 | 8,_ => rfl
 | 9,_ => rfl
 | j + 10,h => absurd h (by omega)
def opTo (s : List UInt8) : Nat → Nat
 | 0 => 0
 | j + 1 => if 1 ≤ j ∧ s = opW j then j else opTo s j
theorem opTo_all (s : List UInt8) : opTo s 10 = opNo s:=by
 by_cases h1 : s = [115,101,116]
 ·subst h1;rfl
 by_cases h2 : s = [103,101,116]
 ·subst h2;rfl
 by_cases h3 : s = [99,97,115]
 ·subst h3;rfl
 by_cases h4 : s = [100,101,108]
 ·subst h4;rfl
 by_cases h5 : s = [97,100,100]
 ·subst h5;rfl
 by_cases h6 : s = [108,111,99,107]
 ·subst h6;rfl
 by_cases h7 : s = [117,110,108,111,99,107]
 ·subst h7;rfl
 by_cases h8 : s = [102,101,110,99,101]
 ·subst h8;rfl
 by_cases h9 : s = [101,110,100]
 ·subst h9;rfl
 have e1 : opNo s = 0:=by
  have : opL.findIdx? (· == s) = none:=by
   rw [List.findIdx?_eq_none_iff];intro x hx;simp only [opL,List.mem_cons,List.mem_nil_iff,or_false] at hx;rw [beq_eq_false_iff_ne];rintro rfl
   rcases hx with h | h | h | h | h | h | h | h | h
   all_goals first | exact h1 h | exact h2 h | exact h3 h | exact h4 h | exact h5 h | exact h6 h | exact h7 h | exact h8 h | exact h9 h
  unfold opNo;rw [this]
 rw [e1];simp only [opTo];rw [if_neg (fun h => h9 h.2)];rw [if_neg (fun h => h8 h.2)];rw [if_neg (fun h => h7 h.2)];rw [if_neg (fun h => h6 h.2)];rw [if_neg (fun h => h5 h.2)];rw [if_neg (fun h => h4 h.2)];rw [if_neg (fun h => h3 h.2)];rw [if_neg (fun h => h2 h.2)];rw [if_neg (fun h => h1 h.2)]
 rfl
theorem ops_ref (w : World) : Calls Tryz.prog 72 #[] w fun e w' => e = .returned (.slice (some ⟨w.heap.size,0,none⟩) 10 10) ∧ w' = w.alloc (.cells opV 9):=by
 go_enter Tryz.func72,Tryz.ntmps72;go_wp2_with fail;go_ret;exact ⟨rfl,rfl⟩
def putM (m : Em) : List Wd → Em
 | [] => m
 | [a] => { m with key:=S a.1 }
 | [a,b] => { m with key:=S a.1,val:=S b.1 }
 | a :: b :: c :: _ => { m with key:=S a.1,val:=S b.1,old:=S c.1 }
def okT (d : Wd) : Prop:=d.2 = true ∧ d.1.length ≤ 16
theorem put0 {m : Em} {d : Wd} : ∀ {ts : List Wd},ts[0]? = some d → putM m (ts.take 1) = { putM m (ts.take 0) with key:=S d.1 }
 | a :: r,h => by
  obtain rfl : a = d:=by simpa using h
  rfl
theorem put1 {m : Em} {d : Wd} : ∀ {ts : List Wd},ts[1]? = some d → putM m (ts.take 2) = { putM m (ts.take 1) with val:=S d.1 }
 | a :: b :: r,h => by
  obtain rfl : b = d:=by simpa using h
  rfl
theorem put2 {m : Em} {d : Wd} : ∀ {ts : List Wd},ts[2]? = some d → putM m (ts.take 3) = { putM m (ts.take 2) with old:=S d.1 }
 | a :: b :: c :: r,h => by
  obtain rfl : c = d:=by simpa using h
  rfl
theorem take_ok {ts : List Wd} {k : Nat} {d : Wd} (h : ∀ x ∈ ts.take k,okT x) (hd : ts[k]? = some d) (hk : okT d) : ∀ x ∈ ts.take (k + 1),okT x:=by
 intro x hx;rw [List.take_add_one,hd] at hx
 rcases List.mem_append.1 hx with hx | hx
 ·exact h x hx
 ·obtain rfl : x = d:=by simpa using hx
  exact hk
theorem txts_bad {e : Ev} {d : Wd} {ts : List Wd} (hd : d ∈ ts) (hb : ¬ okT d) : txtsE e ts = none:=by
 have hn : ∀ x,x = d → txtE x = none:=fun x hx => by
  unfold txtE;rw [hx];exact if_neg hb
 match ts,hd with
 | [a],hd =>
  obtain rfl : d = a:=by simpa using hd
  simp only [txtsE,hn d rfl]
 | [a,b],hd =>
  simp only [List.mem_cons,List.mem_nil_iff,or_false] at hd;simp only [txtsE]
  rcases hd with rfl | rfl
  ·rw [hn _ rfl]
  ·rw [hn _ rfl]
   cases txtE a <;> rfl
 | [a,b,c],hd =>
  simp only [List.mem_cons,List.mem_nil_iff,or_false] at hd;simp only [txtsE]
  rcases hd with rfl | rfl | rfl
  ·rw [hn _ rfl]
  ·rw [hn _ rfl]
   cases txtE a <;> rfl
  ·rw [hn _ rfl]
   cases txtE a <;> cases txtE b <;> rfl
 | a :: b :: c :: x :: r,_ => rfl
theorem txts_good {m : Em} {ts : List Wd} (h1 : 1 ≤ ts.length) (h3 : ts.length ≤ 3) (h : ∀ x ∈ ts,okT x) : txtsE m.ev ts = some (putM m ts).ev:=by
 have hn : ∀ x,x ∈ ts → txtE x = some x.1:=fun x hx => by
  exact if_pos (h x hx)
 match ts,h1,h3,hn with
 | [a],_,_,hn => simp only [txtsE,hn a (by simp)];rfl
 | [a,b],_,_,hn => simp only [txtsE,hn a (by simp),hn b (by simp)];rfl
 | [a,b,c],_,_,hn => simp only [txtsE,hn a (by simp),hn b (by simp),hn c (by simp)];rfl
 | a :: b :: c :: x :: r,_,h3,_ => simp at h3
theorem txts_len {e : Ev} {ts : List Wd} (h : ts.length = 0 ∨ 3 < ts.length) : txtsE e ts = none:=by
 match ts,h with
 | [],_ => rfl
 | [a],h => simp at h
 | [a,b],h => simp at h
 | [a,b,c],h => simp at h
 | a :: b :: c :: x :: r,_ => rfl
theorem do_short {nodes : Nat} {rest : List Wd} (h : rest.length < 3 ∨ 5 < rest.length) : doE nodes rest = none:=by
 match rest,h with
 | [],_ => rfl
 | [a],_ => rfl
 | p :: o :: ts,h =>
  have h1 : ts.length = 0 ∨ 3 < ts.length:=by
   simp only [List.length_cons] at h;omega
  simp only [doE]
  cases wcnt p with
  | none => rfl
  | some x =>
   simp only
   split
   ·exact txts_len h1
   ·rfl
theorem put_sid (m : Em) : ∀ ts,(putM m ts).As = m.As ∧ (putM m ts).ns = m.ns ∧ (putM m ts).cs' = m.cs' ∧ (putM m ts).sd = m.sd ∧ (putM m ts).Ab = m.Ab ∧ (putM m ts).nb = m.nb ∧ (putM m ts).bd = m.bd ∧ (putM m ts).op = m.op ∧ (putM m ts).a = m.a
 | [] => ⟨rfl,rfl,rfl,rfl,rfl,rfl,rfl,rfl,rfl⟩
 | [_] => ⟨rfl,rfl,rfl,rfl,rfl,rfl,rfl,rfl,rfl⟩
 | [_,_] => ⟨rfl,rfl,rfl,rfl,rfl,rfl,rfl,rfl,rfl⟩
 | _ :: _ :: _ :: _ => ⟨rfl,rfl,rfl,rfl,rfl,rfl,rfl,rfl,rfl⟩
def doM (x : Int) (op : Nat) : Em:={ Em.zero with kd:=4,a:=x,op:=op }
def OLoop (w : World) (x : Int) (s : List UInt8) (q : Nat) (i : Value) (wr : World) : Prop:=∃ j : Nat,1 ≤ j ∧ j ≤ 10 ∧ i = .int .i64 j ∧ E2 w wr w.heap.size (w.heap.size + 1) w.heap.size (doM x (opTo s j)) ∧ Blk wr q 9 opV
def XSt (w : World) (m : Em) (ts : List Wd) (k : Nat) (wr : World) : Prop:=k ≤ ts.length ∧ (∀ d ∈ ts.take k,okT d) ∧ E2 w wr w.heap.size (w.heap.size + 1) w.heap.size (putM m (ts.take k))
def XLoop (w : World) (m : Em) (ts : List Wd) (i : Value) (wr : World) : Prop :=
 (i = .int .i64 3 ∧ XSt w m ts 0 wr) ∨ (i = .int .i64 4 ∧ XSt w m ts 1 wr) ∨ (i = .int .i64 5 ∧ XSt w m ts 2 wr) ∨ (i = .int .i64 6 ∧ XSt w m ts 3 wr)
theorem emu_of {w : World} {b : Nat} {m m' : Em} (h : EmU w b m) (h1 : m'.As = m.As) (h2 : m'.ns = m.ns) (h3 : m'.cs' = m.cs') (h4 : m'.sd = m.sd) (h5 : m'.Ab = m.Ab) (h6 : m'.nb = m.nb) (h7 : m'.bd = m.bd) : EmU w b m' :=
 ⟨by rw [h1,h2,h3,h4];exact h.sid,by rw [h5,h6,h7];exact h.body,by rw [h2];exact h.hs,by rw [h6];exact h.hb⟩
theorem doing_short (g cap : Nat) (ws : List Wd) (nodes : Int) (w : World) (hw : RWd w w.heap.size g ws) (rest : List Wd) (hrest : ws.drop 1 = rest) (hl : 1 ≤ ws.length) (hz : ∀ d ∈ ws,d.1.length ≤ 100000000) (hn : 1 ≤ nodes ∧ nodes ≤ 16) (hs : ws.length < 4 ∨ 6 < ws.length) :
  Calls Tryz.prog 91 #[.slice (some ⟨g,0,none⟩) ws.length cap,.int .i64 nodes] w fun e w' => EvB (doE nodes.toNat rest) w.heap.size w e w':=by
 have hrl : rest.length + 1 = ws.length:=by rw [← hrest,List.length_drop];omega
 have HR : Hid (doE nodes.toNat rest = none):=do_short (by omega);clear hrest hrl hw hz
 by_cases h4 : ws.length < 4
 ·have e1 : (ws.length : Int) < 4:=by omega
  go_enter Tryz.func91,Tryz.ntmps91;go_upto_region 2 with fail
  generalize hW1 : World.alloc (World.alloc w _) _ = W1;obtain ⟨m0,hm0⟩ : ∃ m0 : Em,m0 = { Em.zero with kd:=4 }:=⟨_,rfl⟩
  have HS1 : Hid (E2 w W1 w.heap.size (w.heap.size + 1) w.heap.size m0):=by
   show E2 _ _ _ _ _ _;rw [← hW1,hm0];refine E2.two (m:={ Em.zero with kd:=4 }) ⟨World.ownsRow_nil _ _ _ _,RB.nil _ _ _,Nat.zero_le _,Nat.zero_le _⟩ _ ?_ #[]
   rfl
  have HM0:=hide hm0;clear hW1 hm0;go_upto_region 3 with fail
  refine wp_region_lit ?_;refine wpList_value rfl (.agg m0.cs) (ex_load 33 (.tmp 6) rfl _ rfl m0.cs _ Tryz.underlying33 rfl (ld29 _ (em_size _)) (ebox_all HS1.out.box)) ?_;simp only [Act.put,aSt,aSz,aSs];obtain ⟨Z,hZs,hZ⟩:=HS1.out.out;go_wp2_with (refine wpList_put_at rfl 33 (.tmp 4) (.tmp 25) rfl (w.heap.size) 0 m0.cs rfl rfl 33 Z hZ (ld29 _ (em_size _)) (by rw [em_size,hZs];omega) (ecs_all m0) _ (eput_zero Z hZs m0) ?_);refine bodyPost_ret (results_29b rfl _ rfl (hZ.row _) rfl) rfl ?_;exact HS1.out.fin (fun h => by cases h) (fun _ => HR.out)
 ·have e1 : ¬ (ws.length : Int) < 4:=by omega
  have e2 : (6 : Int) < (ws.length : Int):=by omega
  clear hs;go_enter Tryz.func91,Tryz.ntmps91;go_upto_region 2 with fail
  generalize hW1 : World.alloc (World.alloc w _) _ = W1;obtain ⟨m0,hm0⟩ : ∃ m0 : Em,m0 = { Em.zero with kd:=4 }:=⟨_,rfl⟩
  have HS1 : Hid (E2 w W1 w.heap.size (w.heap.size + 1) w.heap.size m0):=by
   show E2 _ _ _ _ _ _;rw [← hW1,hm0];refine E2.two (m:={ Em.zero with kd:=4 }) ⟨World.ownsRow_nil _ _ _ _,RB.nil _ _ _,Nat.zero_le _,Nat.zero_le _⟩ _ ?_ #[]
   rfl
  have HM0:=hide hm0;clear hW1 hm0;go_upto_region 3 with fail
  refine wp_region_lit ?_;refine wpList_value rfl (.agg m0.cs) (ex_load 33 (.tmp 6) rfl _ rfl m0.cs _ Tryz.underlying33 rfl (ld29 _ (em_size _)) (ebox_all HS1.out.box)) ?_;simp only [Act.put,aSt,aSz,aSs];obtain ⟨Z,hZs,hZ⟩:=HS1.out.out;go_wp2_with (refine wpList_put_at rfl 33 (.tmp 4) (.tmp 25) rfl (w.heap.size) 0 m0.cs rfl rfl 33 Z hZ (ld29 _ (em_size _)) (by rw [em_size,hZs];omega) (ecs_all m0) _ (eput_zero Z hZs m0) ?_);refine bodyPost_ret (results_29b rfl _ rfl (hZ.row _) rfl) rfl ?_;exact HS1.out.fin (fun h => by cases h) (fun _ => HR.out)
theorem doing_quoted (g cap : Nat) (ws : List Wd) (nodes : Int) (w : World) (hw : RWd w w.heap.size g ws) (rest : List Wd) (hrest : ws.drop 1 = rest) (hl : 1 ≤ ws.length) (hz : ∀ d ∈ ws,d.1.length ≤ 100000000) (hn : 1 ≤ nodes ∧ nodes ≤ 16) (hs : ¬ (ws.length < 4 ∨ 6 < ws.length)) (o : Wd) (ho : ws[2]? = some o) (hq : o.2 = true) :
  Calls Tryz.prog 91 #[.slice (some ⟨g,0,none⟩) ws.length cap,.int .i64 nodes] w fun e w' => EvB (doE nodes.toNat rest) w.heap.size w e w':=by
 have HR : Hid (doE nodes.toNat rest = none):=by
  show _ = _;rw [← hrest]
  match ws,ho with
  | a :: p :: o' :: ts,ho =>
   obtain rfl : o' = o:=by simpa using ho
   simp only [List.drop_succ_cons,List.drop_zero,doE]
   cases wcnt p with
   | none => rfl
   | some x => simp only;rw [if_neg (fun h => by rw [hq] at h;cases h.2.1)]
 have e1 : ¬ (ws.length : Int) < 4:=by omega
 have e2 : ¬ (6 : Int) < (ws.length : Int):=by omega
 have e3 : (2 : Int) < (ws.length : Int):=by omega
 have HW:=hide hw;have HO:=hide ho;have HQ:=hide hq;clear hrest hw hz hs ho hq;go_enter Tryz.func91,Tryz.ntmps91;go_upto_region 2 with fail
 generalize hW1 : World.alloc (World.alloc w _) _ = W1;obtain ⟨m0,hm0⟩ : ∃ m0 : Em,m0 = { Em.zero with kd:=4 }:=⟨_,rfl⟩
 have HS1 : Hid (E2 w W1 w.heap.size (w.heap.size + 1) w.heap.size m0):=by
  show E2 _ _ _ _ _ _;rw [← hW1,hm0];refine E2.two (m:={ Em.zero with kd:=4 }) ⟨World.ownsRow_nil _ _ _ _,RB.nil _ _ _,Nat.zero_le _,Nat.zero_le _⟩ _ ?_ #[]
  rfl
 have HM0:=hide hm0;clear hW1 hm0;obtain ⟨c0,_⟩:=(HW.out.below HS1.out.low).at_ 2 o HO.out;rw [HQ.out] at c0;go_upto_region 3 with fail
 refine wp_region_lit ?_;refine wpList_value rfl (.agg m0.cs) (ex_load 33 (.tmp 6) rfl _ rfl m0.cs _ Tryz.underlying33 rfl (ld29 _ (em_size _)) (ebox_all HS1.out.box)) ?_;simp only [Act.put,aSt,aSz,aSs];obtain ⟨Z,hZs,hZ⟩:=HS1.out.out;go_wp2_with (refine wpList_put_at rfl 33 (.tmp 4) (.tmp 25) rfl (w.heap.size) 0 m0.cs rfl rfl 33 Z hZ (ld29 _ (em_size _)) (by rw [em_size,hZs];omega) (ecs_all m0) _ (eput_zero Z hZs m0) ?_);refine bodyPost_ret (results_29b rfl _ rfl (hZ.row _) rfl) rfl ?_;exact HS1.out.fin (fun h => by cases h) (fun _ => HR.out)
theorem doing_main (g cap : Nat) (ws : List Wd) (nodes : Int) (w : World) (hw : RWd w w.heap.size g ws) (rest : List Wd) (hrest : ws.drop 1 = rest) (hl : 1 ≤ ws.length) (hz : ∀ d ∈ ws,d.1.length ≤ 100000000) (hn : 1 ≤ nodes ∧ nodes ≤ 16) (hs : ¬ (ws.length < 4 ∨ 6 < ws.length)) (p o : Wd) (ts : List Wd) (hp : ws[1]? = some p) (ho : ws[2]? = some o) (hts : ws.drop 3 = ts) (hq : o.2 = false) :
  Calls Tryz.prog 91 #[.slice (some ⟨g,0,none⟩) ws.length cap,.int .i64 nodes] w fun e w' => EvB (doE nodes.toNat rest) w.heap.size w e w':=by
 have hre : rest = p :: o :: ts:=by
  rw [← hrest,← hts]
  match ws,hp,ho with
  | a :: p' :: o' :: r,hp,ho =>
   obtain rfl : p' = p:=by simpa using hp
   obtain rfl : o' = o:=by simpa using ho
   rfl
 have HDO : Hid (doE nodes.toNat rest = match wcnt p with | some x => if x < nodes.toNat ∧ 0 < opNo o.1 then txtsE (doM x (opNo o.1)).ev ts else none | none => none):=by
  show _ = _;rw [hre];simp only [doE]
  cases wcnt p with
  | none => rfl
  | some x =>
   simp only
   by_cases h : x < nodes.toNat ∧ 0 < opNo o.1
   ·rw [if_pos h,if_pos ⟨h.1,hq,h.2⟩]
    rfl
   ·rw [if_neg h,if_neg (fun h' => h ⟨h'.1,h'.2.2⟩)]
 have hdp : p.1.length ≤ 100000000:=hz p (List.mem_of_getElem? hp);have HNU : Hid (∀ W,Calls Tryz.prog 105 #[.agg #[.bool p.2,.string (S p.1)]] W fun e w' => e = .returned (.int .i64 (wcntZ p)) ∧ Below W.heap.size W w'):=fun W => number_ref p.2 (S p.1) W (by rw [S_size];omega)
 obtain ⟨x,hx⟩ : ∃ x,x = wcntZ p:=⟨_,rfl⟩;rw [← hx] at HNU;have HX:=hide hx;have HZ:=hide hz;have htl : ts.length + 3 = ws.length:=by rw [← hts,List.length_drop];omega
 have HTS : Hid (∀ k : Nat,ws[3 + k]? = ts[k]?):=fun k => by rw [← hts,List.getElem?_drop]
 have HTZ : Hid (∀ d ∈ ts,d.1.length ≤ 100000000):=fun d hd => hz d (by rw [← hts] at hd;exact List.mem_of_mem_drop hd)
 have e1 : ¬ (ws.length : Int) < 4:=by omega
 have e2 : ¬ (6 : Int) < (ws.length : Int):=by omega
 have e3 : (2 : Int) < (ws.length : Int):=by omega
 have e4 : (1 : Int) < (ws.length : Int):=by omega
 have hb3 : 1 ≤ ts.length ∧ ts.length ≤ 3:=by omega
 have HW:=hide hw;have HO:=hide ho;have HP:=hide hp;have HQ:=hide hq;clear hrest hw hz hs ho hq hp hts hre hx htl;go_enter Tryz.func91,Tryz.ntmps91;go_upto_region 2 with fail
 generalize hW1 : World.alloc (World.alloc w _) _ = W1;obtain ⟨m0,hm0⟩ : ∃ m0 : Em,m0 = { Em.zero with kd:=4 }:=⟨_,rfl⟩
 have HS1 : Hid (E2 w W1 w.heap.size (w.heap.size + 1) w.heap.size m0):=by
  show E2 _ _ _ _ _ _;rw [← hW1,hm0];refine E2.two (m:={ Em.zero with kd:=4 }) ⟨World.ownsRow_nil _ _ _ _,RB.nil _ _ _,Nat.zero_le _,Nat.zero_le _⟩ _ ?_ #[]
  rfl
 have HM0:=hide hm0;clear hW1 hm0;obtain ⟨c0,c1⟩:=(HW.out.below HS1.out.low).at_ 2 o HO.out;obtain ⟨c2,c3⟩:=(HW.out.below HS1.out.low).at_ 1 p HP.out;rw [HQ.out] at c0;go_upto_region 5 with (go_at_call 105;refine (HNU.out _).mono ?_;rintro e w2 ⟨rfl,hb2⟩;have HS2:=hide (HS1.out.step hb2);have c9:=eb1 HS2.out.box;have f9:=Blk.frozen HS2.out.box 1;clear hb2)
 obtain ⟨W3,hW3⟩ : ∃ W3,W3 = w2.setCell ⟨w.heap.size + 1,1,none⟩ (.int .i64 x):=⟨_,rfl⟩
 have HS3 : Hid (E2 w W3 w.heap.size (w.heap.size + 1) w.heap.size (doM x 0)):=by
  show E2 _ _ _ _ _ _;rw [hW3];refine HS2.out.set 1 _ ?_ ?_
  ·rw [HM0.out]
   rfl
  ·exact ⟨World.ownsRow_nil _ _ _ _,RB.nil _ _ _,Nat.zero_le _,Nat.zero_le _⟩
 rw [← hW3];clear hW3 c9 f9 HS2 HM0 c0 c1 c2 c3;have HOP:=hide (ops_ref W3);go_upto_region 7 with (go_at_call 72;refine HOP.out.mono ?_;rintro e w4 ⟨rfl,hw4⟩;have HS4 : Hid (E2 w w4 w.heap.size (w.heap.size + 1) w.heap.size (doM x 0)):=(by show E2 _ _ _ _ _ _;rw [hw4];exact HS3.out.step ((Below.refl _ _).alloc (Nat.le_refl _) _));have HQ4 : Hid (Blk w4 W3.heap.size 9 opV):=(by show Blk _ _ _ _;rw [hw4];exact Blk.new _ _ _);clear hw4)
 have HL0 : Hid (OLoop w x o.1 W3.heap.size (.int .i64 1) w4):=⟨1,Nat.le_refl _,by omega,rfl,HS4.out,HQ4.out⟩;clear HOP;go_loopw [8] (fun i wr => OLoop w x o.1 W3.heap.size i wr) (fun i _ => 10 - (intOf i).toNat)
 case atStart => exact HL0.out
 case round =>
  clear HL0 HS4 HQ4;unfold OLoop at hrel;obtain ⟨j,hj1,hj2,rfl,he2,hbq⟩:=hrel;have HS:=hide he2;have HBQ:=hide hbq;clear he2 hbq;have j0 : (0 : Int) ≤ (j : Int):=by omega
  by_cases hlt : j < 10
  ·have js : (j : Int) < 10:=by omega
   have HCQ : Hid (∀ V,Blk V W3.heap.size 9 opV → V.cell? ⟨W3.heap.size,j,none⟩ = some (.string (S (opW j)))):=fun V hV => by rw [hV.cell j,opV_at j hlt]
   obtain ⟨y,hy⟩ : ∃ y,y = S (opW j):=⟨_,rfl⟩;rw [← hy] at HCQ;obtain ⟨z,hz⟩ : ∃ z,z = S o.1:=⟨_,rfl⟩;have HCO : Hid (∀ V,RWd V w.heap.size g ws → V.cell? ⟨g,5,none⟩ = some (.string z)):=fun V hV => by rw [hz];exact (hV.at_ 2 o HO.out).2
   have HX0 : Hid (RWd wr.drew w.heap.size g ws ∧ Blk wr.drew W3.heap.size 9 opV):=⟨HW.out.below HS.out.drew.low,HBQ.out.drew⟩
   by_cases heq : o.1 = opW j
   ·have hzy2 : z = y:=by rw [hz,hy,heq]
    have HTO : Hid (opTo o.1 (j + 1) = j):=by
     show _ = _;rw [opTo,if_pos ⟨hj1,heq⟩]
    clear hy hz heq;subst hzy2;have hzy1 : (z.toList == z.toList) = true:=by simp
    have hzy : (z == z) = true:=by rw [beq_toListBytes];exact hzy1
    go_upto_region 9 with fail
    refine wp_region_L [] (fun V => RWd V w.heap.size g ws ∧ Blk V W3.heap.size 9 opV) (by kernel_rfl) ?_;refine tk 0 38 (v:=?_) rfl HX0.out ?_ ?_
    rotate_left;· intro V hV;go_simp;try with_reducible rfl
    try simp only [Act.put,aSt,aSz,aSs]
    refine tk 1 39 (v:=?_) rfl HX0.out ?_ ?_
    rotate_left;· intro V hV;go_simp;try with_reducible rfl
    try simp only [Act.put,aSt,aSz,aSs]
    refine tk 2 40 (v:=?_) rfl HX0.out ?_ ?_
    rotate_left;· intro V hV;go_simp;try with_reducible rfl
    try simp only [Act.put,aSt,aSz,aSs]
    refine tk 3 41 (v:=?_) rfl HX0.out ?_ ?_
    rotate_left
    ·intro V hV
     have k:=HCO.out V hV.1;go_simp;try with_reducible rfl
    try simp only [Act.put,aSt,aSz,aSs]
    refine tk 4 42 (v:=?_) rfl HX0.out ?_ ?_
    rotate_left;· intro V hV;go_simp;try with_reducible rfl
    try simp only [Act.put,aSt,aSz,aSs]
    refine tk 5 43 (v:=?_) rfl HX0.out ?_ ?_
    rotate_left;· intro V hV;go_simp;try with_reducible rfl
    try simp only [Act.put,aSt,aSz,aSs]
    refine tk 6 44 (v:=?_) rfl HX0.out ?_ ?_
    rotate_left;· intro V hV;go_simp;try with_reducible rfl
    try simp only [Act.put,aSt,aSz,aSs]
    refine tk 7 45 (v:=?_) rfl HX0.out ?_ ?_
    rotate_left
    ·intro V hV
     have k:=HCQ.out V hV.2;go_simp;try with_reducible rfl
    try simp only [Act.put,aSt,aSz,aSs]
    refine tk 8 46 (v:=?_) rfl HX0.out ?_ ?_
    rotate_left;· intro V hV;go_simp;try with_reducible rfl
    try simp only [Act.put,aSt,aSz,aSs]
    refine wpL_done (by kernel_rfl) ?_ _;have c9:=eb8 HS.out.drew.box;have f9:=Blk.frozen HS.out.drew.box 8
    have HL8 : Hid (OLoop w x o.1 W3.heap.size (.int .i64 ((j : Int) + 1)) (wr.drew.setCell ⟨w.heap.size + 1,8,none⟩ (.int .i64 (j : Int)))):=by
     refine ⟨j + 1,by omega,by omega,by go_num,?_,HBQ.out.drew.far (by
      intro e;have e : W3.heap.size = w.heap.size + 1:=e;have h1:=HS.out.box;have h2:=HBQ.out;rw [e] at h2;exact Blk.ne_ h2 h1 (by decide) rfl) _⟩
     rw [HTO.out];refine HS.out.drew.set 8 _ (eset_op _ _) ?_;exact emu_of HS.out.drew.t rfl rfl rfl rfl rfl rfl rfl
    go_wp2_with fail;go_roundw
    case rel => first | exact HL8.out | exact ⟨_,HL8.out,rfl⟩
    case measure => simp [intOf];omega
   ·have hzy2 : ¬ z = y:=by
     rw [hz,hy];intro e
     apply heq
     have:=congrArg (fun s : ByteArray => s.data.toList) e;exact this
    have hzy1 : (z.toList == y.toList) = false:=by
     rw [beq_eq_false_iff_ne,ByteArray.toList_eq,ByteArray.toList_eq];intro e
     apply hzy2
     apply ByteArray.ext
     exact Array.toList_inj.1 e
    have hzy : (z == y) = false:=by rw [beq_toListBytes];exact hzy1
    have HTO : Hid (opTo o.1 (j + 1) = opTo o.1 j):=by
     show _ = _;rw [opTo,if_neg (fun h => heq h.2)]
    clear hy hz heq;go_upto_region 9 with fail
    refine wp_region_L [] (fun V => RWd V w.heap.size g ws ∧ Blk V W3.heap.size 9 opV) (by kernel_rfl) ?_;refine tk 0 38 (v:=?_) rfl HX0.out ?_ ?_
    rotate_left;· intro V hV;go_simp;try with_reducible rfl
    try simp only [Act.put,aSt,aSz,aSs]
    refine tk 1 39 (v:=?_) rfl HX0.out ?_ ?_
    rotate_left;· intro V hV;go_simp;try with_reducible rfl
    try simp only [Act.put,aSt,aSz,aSs]
    refine tk 2 40 (v:=?_) rfl HX0.out ?_ ?_
    rotate_left;· intro V hV;go_simp;try with_reducible rfl
    try simp only [Act.put,aSt,aSz,aSs]
    refine tk 3 41 (v:=?_) rfl HX0.out ?_ ?_
    rotate_left
    ·intro V hV
     have k:=HCO.out V hV.1;go_simp;try with_reducible rfl
    try simp only [Act.put,aSt,aSz,aSs]
    refine tk 4 42 (v:=?_) rfl HX0.out ?_ ?_
    rotate_left;· intro V hV;go_simp;try with_reducible rfl
    try simp only [Act.put,aSt,aSz,aSs]
    refine tk 5 43 (v:=?_) rfl HX0.out ?_ ?_
    rotate_left;· intro V hV;go_simp;try with_reducible rfl
    try simp only [Act.put,aSt,aSz,aSs]
    refine tk 6 44 (v:=?_) rfl HX0.out ?_ ?_
    rotate_left;· intro V hV;go_simp;try with_reducible rfl
    try simp only [Act.put,aSt,aSz,aSs]
    refine tk 7 45 (v:=?_) rfl HX0.out ?_ ?_
    rotate_left
    ·intro V hV
     have k:=HCQ.out V hV.2;go_simp;try with_reducible rfl
    try simp only [Act.put,aSt,aSz,aSs]
    refine tk 8 46 (v:=?_) rfl HX0.out ?_ ?_
    rotate_left;· intro V hV;go_simp;try with_reducible rfl
    try simp only [Act.put,aSt,aSz,aSs]
    refine wpL_done (by kernel_rfl) ?_ _
    have HL8 : Hid (OLoop w x o.1 W3.heap.size (.int .i64 ((j : Int) + 1)) wr.drew):=by
     refine ⟨j + 1,by omega,by omega,by go_num,?_,HBQ.out.drew⟩;rw [HTO.out];exact HS.out.drew
    go_wp2_with fail;go_roundw
    case rel => first | exact HL8.out | exact ⟨_,HL8.out,rfl⟩
    case measure => simp [intOf];omega
  ·have js : ¬ (j : Int) < 10:=by omega
   obtain ⟨op,hop⟩ : ∃ op,op = opNo o.1:=⟨_,rfl⟩;obtain ⟨m1,hm1⟩ : ∃ m1,m1 = doM x op:=⟨_,rfl⟩;have HOPN:=hide hop;have HM1:=hide hm1
   have HL5 : Hid (XLoop w m1 ts (.int .i64 3) wr):=by
    refine .inl ⟨rfl,Nat.zero_le _,by simp,?_⟩;have:=HS.out;rw [show j = 10 by omega,opTo_all,← HOPN.out,← HM1.out] at this;exact this
   have hj10 : j = 10:=by omega
   subst hj10;clear hlt hop hm1 HBQ HS;go_upto_region 12 with fail
   clear js;go_loopw [9] (fun i wr => XLoop w m1 ts i wr) (fun i _ => 6 - (intOf i).toNat)
   case atStart => exact HL5.out
   case round =>
    clear HL5;unfold XLoop at hrel
    have HXB : Hid (ts.length ≤ 3 → ∀ d ∈ ts,¬ okT d → doE nodes.toNat rest = none):=by
     intro _ d hd hbad;rw [HDO.out]
     cases wcnt p with
     | none => rfl
     | some x =>
      simp only
      split
      ·exact txts_bad hd hbad
      ·rfl
    rcases hrel with ⟨rfl,hk,hok,he2⟩ | ⟨rfl,hk,hok,he2⟩ | ⟨rfl,hk,hok,he2⟩ | ⟨rfl,hk,hok,he2⟩
    ·have HS:=hide he2
     have HOK:=hide hok;obtain ⟨m2,hm2⟩ : ∃ m2,m2 = putM m1 (ts.take 0):=⟨_,rfl⟩;rw [← hm2] at HS;have HM2:=hide hm2;clear he2 hok hm2
     by_cases hlt : 0 < ts.length
     ·obtain ⟨d,hd⟩ : ∃ d,ts[0]? = some d:=⟨_,List.getElem?_eq_getElem hlt⟩
      have hdw : ws[3]? = some d:=(HTS.out 0).trans hd;have hdz : d.1.length ≤ 100000000:=HTZ.out d (List.mem_of_getElem? hd);obtain ⟨c0,c1⟩:=(HW.out.below HS.out.low).at_ 3 d hdw;have hsz:=S_size d.1
      have js : (3 : Int) < (ws.length : Int):=by
       have:=(List.getElem?_eq_some_iff.1 hdw).1;omega
      by_cases hok : okT d
      ·have q1:=hok.1
       have q2 : ¬ (16 : Int) < (d.1.length : Int):=by have:=hok.2;omega
       rw [q1] at c0
       have HL8 : Hid (XLoop w m1 ts (.int .i64 4) (wr.setCell ⟨w.heap.size + 1,9,none⟩ (.string (S d.1)))):=by
        refine .inr (.inl ⟨rfl,by omega,take_ok HOK.out hd hok,?_⟩);refine HS.out.set 9 _ ?_ ?_
        ·rw [put0 hd,HM2.out]
         exact eset_key _ _
        ·have h2:=put_sid m1 (ts.take 0)
         have h3:=put_sid m1 (ts.take 1);rw [← HM2.out] at h2;exact emu_of HS.out.t (h3.1.trans h2.1.symm) (h3.2.1.trans h2.2.1.symm) (h3.2.2.1.trans h2.2.2.1.symm) (h3.2.2.2.1.trans h2.2.2.2.1.symm) (h3.2.2.2.2.1.trans h2.2.2.2.2.1.symm) (h3.2.2.2.2.2.1.trans h2.2.2.2.2.2.1.symm) (h3.2.2.2.2.2.2.1.trans h2.2.2.2.2.2.2.1.symm)
       have c9:=eb9 HS.out.box;have f9:=Blk.frozen HS.out.box 9;clear hok hd hdw q1;go_wp2_with fail;go_roundw
       case rel => first | exact HL8.out | exact ⟨_,HL8.out,rfl⟩
       case measure => simp [intOf]
      ·have HR : Hid (doE nodes.toNat rest = none):=HXB.out hb3.2 d (List.mem_of_getElem? hd) hok
       cases hq2 : d.2 with
       | false =>
        rw [hq2] at c0;clear hok hq2 hd hdw;go_upto_region 15 with fail
        refine wp_region_lit ?_;refine wpList_value rfl (.agg m2.cs) (ex_load 33 (.tmp 6) rfl _ rfl m2.cs _ Tryz.underlying33 rfl (ld29 _ (em_size _)) (ebox_all HS.out.box)) ?_;simp only [Act.put,aSt,aSz,aSs];obtain ⟨Z,hZs,hZ⟩:=HS.out.out;go_wp2_with (refine wpList_put_at rfl 33 (.tmp 4) (.tmp 71) rfl (w.heap.size) 0 m2.cs rfl rfl 33 Z hZ (ld29 _ (em_size _)) (by rw [em_size,hZs];omega) (ecs_all m2) _ (eput_zero Z hZs m2) ?_);refine bodyPost_ret (results_29b rfl _ rfl (hZ.row _) rfl) rfl ?_;exact HS.out.fin (fun h => by cases h) (fun _ => HR.out)
       | true =>
        rw [hq2] at c0
        have q2 : (16 : Int) < (d.1.length : Int):=by
         rcases Nat.lt_or_ge 16 d.1.length with h | h
         ·omega
         ·exact absurd ⟨hq2,h⟩ hok
        clear hok hq2 hd hdw;go_upto_region 15 with fail
        refine wp_region_lit ?_;refine wpList_value rfl (.agg m2.cs) (ex_load 33 (.tmp 6) rfl _ rfl m2.cs _ Tryz.underlying33 rfl (ld29 _ (em_size _)) (ebox_all HS.out.box)) ?_;simp only [Act.put,aSt,aSz,aSs];obtain ⟨Z,hZs,hZ⟩:=HS.out.out;go_wp2_with (refine wpList_put_at rfl 33 (.tmp 4) (.tmp 71) rfl (w.heap.size) 0 m2.cs rfl rfl 33 Z hZ (ld29 _ (em_size _)) (by rw [em_size,hZs];omega) (ecs_all m2) _ (eput_zero Z hZs m2) ?_);refine bodyPost_ret (results_29b rfl _ rfl (hZ.row _) rfl) rfl ?_;exact HS.out.fin (fun h => by cases h) (fun _ => HR.out)
     ·have hlk : ts.length ≤ 0:=by omega
      exfalso
      omega
    ·have HS:=hide he2
     have HOK:=hide hok;obtain ⟨m2,hm2⟩ : ∃ m2,m2 = putM m1 (ts.take 1):=⟨_,rfl⟩;rw [← hm2] at HS;have HM2:=hide hm2;clear he2 hok hm2
     by_cases hlt : 1 < ts.length
     ·obtain ⟨d,hd⟩ : ∃ d,ts[1]? = some d:=⟨_,List.getElem?_eq_getElem hlt⟩
      have hdw : ws[4]? = some d:=(HTS.out 1).trans hd;have hdz : d.1.length ≤ 100000000:=HTZ.out d (List.mem_of_getElem? hd);obtain ⟨c0,c1⟩:=(HW.out.below HS.out.low).at_ 4 d hdw;have hsz:=S_size d.1
      have js : (4 : Int) < (ws.length : Int):=by
       have:=(List.getElem?_eq_some_iff.1 hdw).1;omega
      by_cases hok : okT d
      ·have q1:=hok.1
       have q2 : ¬ (16 : Int) < (d.1.length : Int):=by have:=hok.2;omega
       rw [q1] at c0
       have HL8 : Hid (XLoop w m1 ts (.int .i64 5) (wr.setCell ⟨w.heap.size + 1,10,none⟩ (.string (S d.1)))):=by
        refine .inr (.inr (.inl ⟨rfl,by omega,take_ok HOK.out hd hok,?_⟩));refine HS.out.set 10 _ ?_ ?_
        ·rw [put1 hd,HM2.out]
         exact eset_val _ _
        ·have h2:=put_sid m1 (ts.take 1)
         have h3:=put_sid m1 (ts.take 2);rw [← HM2.out] at h2;exact emu_of HS.out.t (h3.1.trans h2.1.symm) (h3.2.1.trans h2.2.1.symm) (h3.2.2.1.trans h2.2.2.1.symm) (h3.2.2.2.1.trans h2.2.2.2.1.symm) (h3.2.2.2.2.1.trans h2.2.2.2.2.1.symm) (h3.2.2.2.2.2.1.trans h2.2.2.2.2.2.1.symm) (h3.2.2.2.2.2.2.1.trans h2.2.2.2.2.2.2.1.symm)
       have c9:=eb10 HS.out.box;have f9:=Blk.frozen HS.out.box 10;clear hok hd hdw q1;go_wp2_with fail;go_roundw
       case rel => first | exact HL8.out | exact ⟨_,HL8.out,rfl⟩
       case measure => simp [intOf]
      ·have HR : Hid (doE nodes.toNat rest = none):=HXB.out hb3.2 d (List.mem_of_getElem? hd) hok
       cases hq2 : d.2 with
       | false =>
        rw [hq2] at c0;clear hok hq2 hd hdw;go_upto_region 15 with fail
        refine wp_region_lit ?_;refine wpList_value rfl (.agg m2.cs) (ex_load 33 (.tmp 6) rfl _ rfl m2.cs _ Tryz.underlying33 rfl (ld29 _ (em_size _)) (ebox_all HS.out.box)) ?_;simp only [Act.put,aSt,aSz,aSs];obtain ⟨Z,hZs,hZ⟩:=HS.out.out;go_wp2_with (refine wpList_put_at rfl 33 (.tmp 4) (.tmp 71) rfl (w.heap.size) 0 m2.cs rfl rfl 33 Z hZ (ld29 _ (em_size _)) (by rw [em_size,hZs];omega) (ecs_all m2) _ (eput_zero Z hZs m2) ?_);refine bodyPost_ret (results_29b rfl _ rfl (hZ.row _) rfl) rfl ?_;exact HS.out.fin (fun h => by cases h) (fun _ => HR.out)
       | true =>
        rw [hq2] at c0
        have q2 : (16 : Int) < (d.1.length : Int):=by
         rcases Nat.lt_or_ge 16 d.1.length with h | h
         ·omega
         ·exact absurd ⟨hq2,h⟩ hok
        clear hok hq2 hd hdw;go_upto_region 15 with fail
        refine wp_region_lit ?_;refine wpList_value rfl (.agg m2.cs) (ex_load 33 (.tmp 6) rfl _ rfl m2.cs _ Tryz.underlying33 rfl (ld29 _ (em_size _)) (ebox_all HS.out.box)) ?_;simp only [Act.put,aSt,aSz,aSs];obtain ⟨Z,hZs,hZ⟩:=HS.out.out;go_wp2_with (refine wpList_put_at rfl 33 (.tmp 4) (.tmp 71) rfl (w.heap.size) 0 m2.cs rfl rfl 33 Z hZ (ld29 _ (em_size _)) (by rw [em_size,hZs];omega) (ecs_all m2) _ (eput_zero Z hZs m2) ?_);refine bodyPost_ret (results_29b rfl _ rfl (hZ.row _) rfl) rfl ?_;exact HS.out.fin (fun h => by cases h) (fun _ => HR.out)
     ·have hlk : ts.length ≤ 1:=by omega
      have js : ¬ (4 : Int) < (ws.length : Int):=by
       have h:=HTS.out 1;rw [List.getElem?_eq_none hlk] at h;have:=List.getElem?_eq_none_iff.1 h;omega
      clear hlt
      have HALL : Hid (txtsE m1.ev ts = some m2.ev):=by
       show _ = _;rw [HM2.out,List.take_of_length_le hlk];exact txts_good hb3.1 hb3.2 (fun d hd => HOK.out d (by rw [List.take_of_length_le hlk];exact hd))
      have HA2 : Hid (m2.a = x ∧ m2.op = (op : Int)):=by
       have h2:=put_sid m1 (ts.take 1);rw [← HM2.out] at h2;refine ⟨h2.2.2.2.2.2.2.2.2.trans ?_,h2.2.2.2.2.2.2.2.1.trans ?_⟩ <;> (rw [HM1.out];rfl)
      go_upto_region 22 with fail
      obtain ⟨Z,hZs,hZ⟩:=HS.out.out;have HQ9 : Hid (Blk (wr.drew.setRow w.heap.size m2.cs) (w.heap.size + 1) 33 m2.cs):=HS.out.box.drew.row_far (by omega) _;have HQ8 : Hid (Blk wr.drew (w.heap.size + 1) 33 m2.cs):=HS.out.box.drew
      by_cases hop0 : op = 0
      ·have f1 : ((op : Int) != 0) = false:=by rw [hop0];rfl
       have HR : Hid (doE nodes.toNat rest = none):=by
        show _ = _;rw [HDO.out]
        cases wcnt p with
        | none => rfl
        | some x => simp only;rw [if_neg (fun h => by have:=HOPN.out;omega)]
       clear hop0;refine wp_region_L [] (fun V => Blk V (w.heap.size + 1) 33 m2.cs) (by kernel_rfl) ?_;refine tk 0 98 (v:=.agg m2.cs) rfl HQ8.out ?_ ?_
       ·intro V hV;exact ex_load 33 (.tmp 6) rfl _ rfl m2.cs _ Tryz.underlying33 rfl (ld29 _ (em_size _)) (ebox_all hV)
       try simp only [Act.put,aSt,aSz,aSs]
       refine tk 1 99 (v:=?_) rfl HQ8.out ?_ ?_
       rotate_left;· intro V hV;go_simp;try with_reducible rfl
       try simp only [Act.put,aSt,aSz,aSs]
       refine tk 2 100 (v:=?_) rfl HQ8.out ?_ ?_
       rotate_left;· intro V hV;go_simp;try with_reducible rfl
       try simp only [Act.put,aSt,aSz,aSs]
       refine tk 3 101 (v:=?_) rfl HQ8.out ?_ ?_
       rotate_left
       ·intro V hV
        have k:=eb8 hV;rw [HA2.out.2] at k;go_simp;try with_reducible rfl
       try simp only [Act.put,aSt,aSz,aSs]
       refine tk 4 102 (v:=?_) rfl HQ8.out ?_ ?_
       rotate_left;· intro V hV;go_simp;try with_reducible rfl
       try simp only [Act.put,aSt,aSz,aSs]
       refine tk 5 103 (v:=?_) rfl HQ8.out ?_ ?_
       rotate_left;· intro V hV;go_simp;try with_reducible rfl
       try simp only [Act.put,aSt,aSz,aSs]
       refine tn 6 104 rfl HQ8.out ?_;try simp only [Act.put,aSt,aSz,aSs]
       refine tn 7 105 rfl HQ8.out ?_;try simp only [Act.put,aSt,aSz,aSs]
       refine tn 8 106 rfl HQ8.out ?_;try simp only [Act.put,aSt,aSz,aSs]
       refine tk 9 107 (v:=?_) rfl HQ8.out ?_ ?_
       rotate_left;· intro V hV;go_simp;try with_reducible rfl
       try simp only [Act.put,aSt,aSz,aSs]
       refine tk 10 108 (v:=?_) rfl HQ8.out ?_ ?_
       rotate_left;· intro V hV;go_simp;try with_reducible rfl
       try simp only [Act.put,aSt,aSz,aSs]
       refine tn 11 109 rfl HQ8.out ?_;try simp only [Act.put,aSt,aSz,aSs]
       refine tn 12 110 rfl HQ8.out ?_;try simp only [Act.put,aSt,aSz,aSs]
       refine tn 13 111 rfl HQ8.out ?_;try simp only [Act.put,aSt,aSz,aSs]
       refine tn 14 112 rfl HQ8.out ?_;try simp only [Act.put,aSt,aSz,aSs]
       refine tk 15 113 (v:=?_) rfl HQ8.out ?_ ?_
       rotate_left;· intro V hV;go_simp;try with_reducible rfl
       try simp only [Act.put,aSt,aSz,aSs]
       refine wpL_one 16 (by kernel_rfl) rfl (fun K hK => ?_);refine one_skip (by rfl) (run_put_at 33 (.tmp 4) (.tmp 98) rfl (w.heap.size) 0 m2.cs rfl rfl 33 Z hZ.drew (ld29 _ (em_size _)) (by rw [em_size,hZs];omega) (ecs_all m2) _ (eput_zero Z hZs m2)) (hK _ _ (fun _ => HQ9.out) ?_);clear hK K;try simp only [Act.put,aSt,aSz,aSs]
       refine wpL_one 17 (by kernel_rfl) rfl (fun K hK => ?_);rw [if_pos (by rfl)];go_simp;refine hK _ _ (fun _ => HQ9.out) ?_;clear hK K;try simp only [Act.put,aSt,aSz,aSs]
       refine wpL_done (by kernel_rfl) ?_ _;go_wp2_with fail;refine bodyPost_ret (results_29b rfl _ rfl (hZ.drew.row _) rfl) rfl ?_;exact HS.out.drew.fin (fun h => by cases h) (fun _ => HR.out)
      have f1 : ((op : Int) != 0) = true:=by rw [bne_iff_ne];omega
      cases hc : wcnt p with
      | none =>
       have hx1 : x = -1:=HX.out.trans (wcntZ_none hc)
       have HR : Hid (doE nodes.toNat rest = none):=by
        show _ = _;rw [HDO.out,hc]
       have f2 : ¬ (0 : Int) ≤ x:=by omega
       clear hc hx1 hop0;refine wp_region_L [] (fun V => Blk V (w.heap.size + 1) 33 m2.cs) (by kernel_rfl) ?_;refine tk 0 98 (v:=.agg m2.cs) rfl HQ8.out ?_ ?_
       ·intro V hV;exact ex_load 33 (.tmp 6) rfl _ rfl m2.cs _ Tryz.underlying33 rfl (ld29 _ (em_size _)) (ebox_all hV)
       try simp only [Act.put,aSt,aSz,aSs]
       refine tk 1 99 (v:=?_) rfl HQ8.out ?_ ?_
       rotate_left;· intro V hV;go_simp;try with_reducible rfl
       try simp only [Act.put,aSt,aSz,aSs]
       refine tk 2 100 (v:=?_) rfl HQ8.out ?_ ?_
       rotate_left;· intro V hV;go_simp;try with_reducible rfl
       try simp only [Act.put,aSt,aSz,aSs]
       refine tk 3 101 (v:=?_) rfl HQ8.out ?_ ?_
       rotate_left
       ·intro V hV
        have k:=eb8 hV;rw [HA2.out.2] at k;go_simp;try with_reducible rfl
       try simp only [Act.put,aSt,aSz,aSs]
       refine tk 4 102 (v:=?_) rfl HQ8.out ?_ ?_
       rotate_left;· intro V hV;go_simp;try with_reducible rfl
       try simp only [Act.put,aSt,aSz,aSs]
       refine tk 5 103 (v:=?_) rfl HQ8.out ?_ ?_
       rotate_left;· intro V hV;go_simp;try with_reducible rfl
       try simp only [Act.put,aSt,aSz,aSs]
       refine tk 6 104 (v:=?_) rfl HQ8.out ?_ ?_
       rotate_left;· intro V hV;go_simp;try with_reducible rfl
       try simp only [Act.put,aSt,aSz,aSs]
       refine tk 7 105 (v:=?_) rfl HQ8.out ?_ ?_
       rotate_left
       ·intro V hV
        have k:=eb1 hV;rw [HA2.out.1] at k;go_simp;try with_reducible rfl
       try simp only [Act.put,aSt,aSz,aSs]
       refine tk 8 106 (v:=?_) rfl HQ8.out ?_ ?_
       rotate_left;· intro V hV;go_simp;try with_reducible rfl
       try simp only [Act.put,aSt,aSz,aSs]
       refine tk 9 107 (v:=?_) rfl HQ8.out ?_ ?_
       rotate_left;· intro V hV;go_simp;try with_reducible rfl
       try simp only [Act.put,aSt,aSz,aSs]
       refine tk 10 108 (v:=?_) rfl HQ8.out ?_ ?_
       rotate_left;· intro V hV;go_simp;try with_reducible rfl
       try simp only [Act.put,aSt,aSz,aSs]
       refine tn 11 109 rfl HQ8.out ?_;try simp only [Act.put,aSt,aSz,aSs]
       refine tn 12 110 rfl HQ8.out ?_;try simp only [Act.put,aSt,aSz,aSs]
       refine tn 13 111 rfl HQ8.out ?_;try simp only [Act.put,aSt,aSz,aSs]
       refine tn 14 112 rfl HQ8.out ?_;try simp only [Act.put,aSt,aSz,aSs]
       refine tk 15 113 (v:=?_) rfl HQ8.out ?_ ?_
       rotate_left;· intro V hV;go_simp;try with_reducible rfl
       try simp only [Act.put,aSt,aSz,aSs]
       refine wpL_one 16 (by kernel_rfl) rfl (fun K hK => ?_);refine one_skip (by rfl) (run_put_at 33 (.tmp 4) (.tmp 98) rfl (w.heap.size) 0 m2.cs rfl rfl 33 Z hZ.drew (ld29 _ (em_size _)) (by rw [em_size,hZs];omega) (ecs_all m2) _ (eput_zero Z hZs m2)) (hK _ _ (fun _ => HQ9.out) ?_);clear hK K;try simp only [Act.put,aSt,aSz,aSs]
       refine wpL_one 17 (by kernel_rfl) rfl (fun K hK => ?_);rw [if_pos (by rfl)];go_simp;refine hK _ _ (fun _ => HQ9.out) ?_;clear hK K;try simp only [Act.put,aSt,aSz,aSs]
       refine wpL_done (by kernel_rfl) ?_ _;go_wp2_with fail;refine bodyPost_ret (results_29b rfl _ rfl (hZ.drew.row _) rfl) rfl ?_;exact HS.out.drew.fin (fun h => by cases h) (fun _ => HR.out)
      | some n =>
       have hx1 : x = (n : Int):=HX.out.trans (wcntZ_some hc);have f2 : (0 : Int) ≤ x:=by omega
       by_cases hnn : n < nodes.toNat
       ·have f3 : x < nodes:=by omega
        have HR : Hid (doE nodes.toNat rest = some m2.ev):=by
         show _ = _;rw [HDO.out,hc];simp only;rw [if_pos ⟨hnn,by have:=HOPN.out;omega⟩,← HALL.out,HM1.out,HOPN.out,hx1]
        clear hc hx1 hop0 hnn;refine wp_region_L [] (fun V => Blk V (w.heap.size + 1) 33 m2.cs) (by kernel_rfl) ?_;refine tk 0 98 (v:=.agg m2.cs) rfl HQ8.out ?_ ?_
        ·intro V hV;exact ex_load 33 (.tmp 6) rfl _ rfl m2.cs _ Tryz.underlying33 rfl (ld29 _ (em_size _)) (ebox_all hV)
        try simp only [Act.put,aSt,aSz,aSs]
        refine tk 1 99 (v:=?_) rfl HQ8.out ?_ ?_
        rotate_left;· intro V hV;go_simp;try with_reducible rfl
        try simp only [Act.put,aSt,aSz,aSs]
        refine tk 2 100 (v:=?_) rfl HQ8.out ?_ ?_
        rotate_left;· intro V hV;go_simp;try with_reducible rfl
        try simp only [Act.put,aSt,aSz,aSs]
        refine tk 3 101 (v:=?_) rfl HQ8.out ?_ ?_
        rotate_left
        ·intro V hV
         have k:=eb8 hV;rw [HA2.out.2] at k;go_simp;try with_reducible rfl
        try simp only [Act.put,aSt,aSz,aSs]
        refine tk 4 102 (v:=?_) rfl HQ8.out ?_ ?_
        rotate_left;· intro V hV;go_simp;try with_reducible rfl
        try simp only [Act.put,aSt,aSz,aSs]
        refine tk 5 103 (v:=?_) rfl HQ8.out ?_ ?_
        rotate_left;· intro V hV;go_simp;try with_reducible rfl
        try simp only [Act.put,aSt,aSz,aSs]
        refine tk 6 104 (v:=?_) rfl HQ8.out ?_ ?_
        rotate_left;· intro V hV;go_simp;try with_reducible rfl
        try simp only [Act.put,aSt,aSz,aSs]
        refine tk 7 105 (v:=?_) rfl HQ8.out ?_ ?_
        rotate_left
        ·intro V hV
         have k:=eb1 hV;rw [HA2.out.1] at k;go_simp;try with_reducible rfl
        try simp only [Act.put,aSt,aSz,aSs]
        refine tk 8 106 (v:=?_) rfl HQ8.out ?_ ?_
        rotate_left;· intro V hV;go_simp;try with_reducible rfl
        try simp only [Act.put,aSt,aSz,aSs]
        refine tk 9 107 (v:=?_) rfl HQ8.out ?_ ?_
        rotate_left;· intro V hV;go_simp;try with_reducible rfl
        try simp only [Act.put,aSt,aSz,aSs]
        refine tk 10 108 (v:=?_) rfl HQ8.out ?_ ?_
        rotate_left;· intro V hV;go_simp;try with_reducible rfl
        try simp only [Act.put,aSt,aSz,aSs]
        refine tk 11 109 (v:=?_) rfl HQ8.out ?_ ?_
        rotate_left;· intro V hV;go_simp;try with_reducible rfl
        try simp only [Act.put,aSt,aSz,aSs]
        refine tk 12 110 (v:=?_) rfl HQ8.out ?_ ?_
        rotate_left
        ·intro V hV
         have k:=eb1 hV;rw [HA2.out.1] at k;go_simp;try with_reducible rfl
        try simp only [Act.put,aSt,aSz,aSs]
        refine tk 13 111 (v:=?_) rfl HQ8.out ?_ ?_
        rotate_left;· intro V hV;go_simp;try with_reducible rfl
        try simp only [Act.put,aSt,aSz,aSs]
        refine tk 14 112 (v:=?_) rfl HQ8.out ?_ ?_
        rotate_left;· intro V hV;go_simp;try with_reducible rfl
        try simp only [Act.put,aSt,aSz,aSs]
        refine tk 15 113 (v:=?_) rfl HQ8.out ?_ ?_
        rotate_left;· intro V hV;go_simp;try with_reducible rfl
        try simp only [Act.put,aSt,aSz,aSs]
        refine wpL_one 16 (by kernel_rfl) rfl (fun K hK => ?_);refine one_skip (by rfl) (run_put_at 33 (.tmp 4) (.tmp 98) rfl (w.heap.size) 0 m2.cs rfl rfl 33 Z hZ.drew (ld29 _ (em_size _)) (by rw [em_size,hZs];omega) (ecs_all m2) _ (eput_zero Z hZs m2)) (hK _ _ (fun _ => HQ9.out) ?_);clear hK K;try simp only [Act.put,aSt,aSz,aSs]
        refine wpL_one 17 (by kernel_rfl) rfl (fun K hK => ?_);rw [if_pos (by rfl)];go_simp;refine hK _ _ (fun _ => HQ9.out) ?_;clear hK K;try simp only [Act.put,aSt,aSz,aSs]
        refine wpL_done (by kernel_rfl) ?_ _;go_wp2_with fail;refine bodyPost_ret (results_29b rfl _ rfl (hZ.drew.row _) rfl) rfl ?_;exact HS.out.drew.fin (fun _ => HR.out) (fun h => by cases h)
       ·have f3 : ¬ x < nodes:=by omega
        have HR : Hid (doE nodes.toNat rest = none):=by
         show _ = _;rw [HDO.out,hc];simp only;rw [if_neg (fun h => hnn h.1)]
        clear hc hx1 hop0 hnn;refine wp_region_L [] (fun V => Blk V (w.heap.size + 1) 33 m2.cs) (by kernel_rfl) ?_;refine tk 0 98 (v:=.agg m2.cs) rfl HQ8.out ?_ ?_
        ·intro V hV;exact ex_load 33 (.tmp 6) rfl _ rfl m2.cs _ Tryz.underlying33 rfl (ld29 _ (em_size _)) (ebox_all hV)
        try simp only [Act.put,aSt,aSz,aSs]
        refine tk 1 99 (v:=?_) rfl HQ8.out ?_ ?_
        rotate_left;· intro V hV;go_simp;try with_reducible rfl
        try simp only [Act.put,aSt,aSz,aSs]
        refine tk 2 100 (v:=?_) rfl HQ8.out ?_ ?_
        rotate_left;· intro V hV;go_simp;try with_reducible rfl
        try simp only [Act.put,aSt,aSz,aSs]
        refine tk 3 101 (v:=?_) rfl HQ8.out ?_ ?_
        rotate_left
        ·intro V hV
         have k:=eb8 hV;rw [HA2.out.2] at k;go_simp;try with_reducible rfl
        try simp only [Act.put,aSt,aSz,aSs]
        refine tk 4 102 (v:=?_) rfl HQ8.out ?_ ?_
        rotate_left;· intro V hV;go_simp;try with_reducible rfl
        try simp only [Act.put,aSt,aSz,aSs]
        refine tk 5 103 (v:=?_) rfl HQ8.out ?_ ?_
        rotate_left;· intro V hV;go_simp;try with_reducible rfl
        try simp only [Act.put,aSt,aSz,aSs]
        refine tk 6 104 (v:=?_) rfl HQ8.out ?_ ?_
        rotate_left;· intro V hV;go_simp;try with_reducible rfl
        try simp only [Act.put,aSt,aSz,aSs]
        refine tk 7 105 (v:=?_) rfl HQ8.out ?_ ?_
        rotate_left
        ·intro V hV
         have k:=eb1 hV;rw [HA2.out.1] at k;go_simp;try with_reducible rfl
        try simp only [Act.put,aSt,aSz,aSs]
        refine tk 8 106 (v:=?_) rfl HQ8.out ?_ ?_
        rotate_left;· intro V hV;go_simp;try with_reducible rfl
        try simp only [Act.put,aSt,aSz,aSs]
        refine tk 9 107 (v:=?_) rfl HQ8.out ?_ ?_
        rotate_left;· intro V hV;go_simp;try with_reducible rfl
        try simp only [Act.put,aSt,aSz,aSs]
        refine tk 10 108 (v:=?_) rfl HQ8.out ?_ ?_
        rotate_left;· intro V hV;go_simp;try with_reducible rfl
        try simp only [Act.put,aSt,aSz,aSs]
        refine tk 11 109 (v:=?_) rfl HQ8.out ?_ ?_
        rotate_left;· intro V hV;go_simp;try with_reducible rfl
        try simp only [Act.put,aSt,aSz,aSs]
        refine tk 12 110 (v:=?_) rfl HQ8.out ?_ ?_
        rotate_left
        ·intro V hV
         have k:=eb1 hV;rw [HA2.out.1] at k;go_simp;try with_reducible rfl
        try simp only [Act.put,aSt,aSz,aSs]
        refine tk 13 111 (v:=?_) rfl HQ8.out ?_ ?_
        rotate_left;· intro V hV;go_simp;try with_reducible rfl
        try simp only [Act.put,aSt,aSz,aSs]
        refine tk 14 112 (v:=?_) rfl HQ8.out ?_ ?_
        rotate_left;· intro V hV;go_simp;try with_reducible rfl
        try simp only [Act.put,aSt,aSz,aSs]
        refine tk 15 113 (v:=?_) rfl HQ8.out ?_ ?_
        rotate_left;· intro V hV;go_simp;try with_reducible rfl
        try simp only [Act.put,aSt,aSz,aSs]
        refine wpL_one 16 (by kernel_rfl) rfl (fun K hK => ?_);refine one_skip (by rfl) (run_put_at 33 (.tmp 4) (.tmp 98) rfl (w.heap.size) 0 m2.cs rfl rfl 33 Z hZ.drew (ld29 _ (em_size _)) (by rw [em_size,hZs];omega) (ecs_all m2) _ (eput_zero Z hZs m2)) (hK _ _ (fun _ => HQ9.out) ?_);clear hK K;try simp only [Act.put,aSt,aSz,aSs]
        refine wpL_one 17 (by kernel_rfl) rfl (fun K hK => ?_);rw [if_pos (by rfl)];go_simp;refine hK _ _ (fun _ => HQ9.out) ?_;clear hK K;try simp only [Act.put,aSt,aSz,aSs]
        refine wpL_done (by kernel_rfl) ?_ _;go_wp2_with fail;refine bodyPost_ret (results_29b rfl _ rfl (hZ.drew.row _) rfl) rfl ?_;exact HS.out.drew.fin (fun h => by cases h) (fun _ => HR.out)
    ·have HS:=hide he2
     have HOK:=hide hok;obtain ⟨m2,hm2⟩ : ∃ m2,m2 = putM m1 (ts.take 2):=⟨_,rfl⟩;rw [← hm2] at HS;have HM2:=hide hm2;clear he2 hok hm2
     by_cases hlt : 2 < ts.length
     ·obtain ⟨d,hd⟩ : ∃ d,ts[2]? = some d:=⟨_,List.getElem?_eq_getElem hlt⟩
      have hdw : ws[5]? = some d:=(HTS.out 2).trans hd;have hdz : d.1.length ≤ 100000000:=HTZ.out d (List.mem_of_getElem? hd);obtain ⟨c0,c1⟩:=(HW.out.below HS.out.low).at_ 5 d hdw;have hsz:=S_size d.1
      have js : (5 : Int) < (ws.length : Int):=by
       have:=(List.getElem?_eq_some_iff.1 hdw).1;omega
      by_cases hok : okT d
      ·have q1:=hok.1
       have q2 : ¬ (16 : Int) < (d.1.length : Int):=by have:=hok.2;omega
       rw [q1] at c0
       have HL8 : Hid (XLoop w m1 ts (.int .i64 6) (wr.setCell ⟨w.heap.size + 1,11,none⟩ (.string (S d.1)))):=by
        refine .inr (.inr (.inr (⟨rfl,by omega,take_ok HOK.out hd hok,?_⟩)));refine HS.out.set 11 _ ?_ ?_
        ·rw [put2 hd,HM2.out]
         exact eset_old _ _
        ·have h2:=put_sid m1 (ts.take 2)
         have h3:=put_sid m1 (ts.take 3);rw [← HM2.out] at h2;exact emu_of HS.out.t (h3.1.trans h2.1.symm) (h3.2.1.trans h2.2.1.symm) (h3.2.2.1.trans h2.2.2.1.symm) (h3.2.2.2.1.trans h2.2.2.2.1.symm) (h3.2.2.2.2.1.trans h2.2.2.2.2.1.symm) (h3.2.2.2.2.2.1.trans h2.2.2.2.2.2.1.symm) (h3.2.2.2.2.2.2.1.trans h2.2.2.2.2.2.2.1.symm)
       have c9:=eb11 HS.out.box;have f9:=Blk.frozen HS.out.box 11;clear hok hd hdw q1;go_wp2_with fail;go_roundw
       case rel => first | exact HL8.out | exact ⟨_,HL8.out,rfl⟩
       case measure => simp [intOf]
      ·have HR : Hid (doE nodes.toNat rest = none):=HXB.out hb3.2 d (List.mem_of_getElem? hd) hok
       cases hq2 : d.2 with
       | false =>
        rw [hq2] at c0;clear hok hq2 hd hdw;go_upto_region 15 with fail
        refine wp_region_lit ?_;refine wpList_value rfl (.agg m2.cs) (ex_load 33 (.tmp 6) rfl _ rfl m2.cs _ Tryz.underlying33 rfl (ld29 _ (em_size _)) (ebox_all HS.out.box)) ?_;simp only [Act.put,aSt,aSz,aSs];obtain ⟨Z,hZs,hZ⟩:=HS.out.out;go_wp2_with (refine wpList_put_at rfl 33 (.tmp 4) (.tmp 71) rfl (w.heap.size) 0 m2.cs rfl rfl 33 Z hZ (ld29 _ (em_size _)) (by rw [em_size,hZs];omega) (ecs_all m2) _ (eput_zero Z hZs m2) ?_);refine bodyPost_ret (results_29b rfl _ rfl (hZ.row _) rfl) rfl ?_;exact HS.out.fin (fun h => by cases h) (fun _ => HR.out)
       | true =>
        rw [hq2] at c0
        have q2 : (16 : Int) < (d.1.length : Int):=by
         rcases Nat.lt_or_ge 16 d.1.length with h | h
         ·omega
         ·exact absurd ⟨hq2,h⟩ hok
        clear hok hq2 hd hdw;go_upto_region 15 with fail
        refine wp_region_lit ?_;refine wpList_value rfl (.agg m2.cs) (ex_load 33 (.tmp 6) rfl _ rfl m2.cs _ Tryz.underlying33 rfl (ld29 _ (em_size _)) (ebox_all HS.out.box)) ?_;simp only [Act.put,aSt,aSz,aSs];obtain ⟨Z,hZs,hZ⟩:=HS.out.out;go_wp2_with (refine wpList_put_at rfl 33 (.tmp 4) (.tmp 71) rfl (w.heap.size) 0 m2.cs rfl rfl 33 Z hZ (ld29 _ (em_size _)) (by rw [em_size,hZs];omega) (ecs_all m2) _ (eput_zero Z hZs m2) ?_);refine bodyPost_ret (results_29b rfl _ rfl (hZ.row _) rfl) rfl ?_;exact HS.out.fin (fun h => by cases h) (fun _ => HR.out)
     ·have hlk : ts.length ≤ 2:=by omega
      have js : ¬ (5 : Int) < (ws.length : Int):=by
       have h:=HTS.out 2;rw [List.getElem?_eq_none hlk] at h;have:=List.getElem?_eq_none_iff.1 h;omega
      clear hlt
      have HALL : Hid (txtsE m1.ev ts = some m2.ev):=by
       show _ = _;rw [HM2.out,List.take_of_length_le hlk];exact txts_good hb3.1 hb3.2 (fun d hd => HOK.out d (by rw [List.take_of_length_le hlk];exact hd))
      have HA2 : Hid (m2.a = x ∧ m2.op = (op : Int)):=by
       have h2:=put_sid m1 (ts.take 2);rw [← HM2.out] at h2;refine ⟨h2.2.2.2.2.2.2.2.2.trans ?_,h2.2.2.2.2.2.2.2.1.trans ?_⟩ <;> (rw [HM1.out];rfl)
      go_upto_region 22 with fail
      obtain ⟨Z,hZs,hZ⟩:=HS.out.out;have HQ9 : Hid (Blk (wr.drew.setRow w.heap.size m2.cs) (w.heap.size + 1) 33 m2.cs):=HS.out.box.drew.row_far (by omega) _;have HQ8 : Hid (Blk wr.drew (w.heap.size + 1) 33 m2.cs):=HS.out.box.drew
      by_cases hop0 : op = 0
      ·have f1 : ((op : Int) != 0) = false:=by rw [hop0];rfl
       have HR : Hid (doE nodes.toNat rest = none):=by
        show _ = _;rw [HDO.out]
        cases wcnt p with
        | none => rfl
        | some x => simp only;rw [if_neg (fun h => by have:=HOPN.out;omega)]
       clear hop0;refine wp_region_L [] (fun V => Blk V (w.heap.size + 1) 33 m2.cs) (by kernel_rfl) ?_;refine tk 0 98 (v:=.agg m2.cs) rfl HQ8.out ?_ ?_
       ·intro V hV;exact ex_load 33 (.tmp 6) rfl _ rfl m2.cs _ Tryz.underlying33 rfl (ld29 _ (em_size _)) (ebox_all hV)
       try simp only [Act.put,aSt,aSz,aSs]
       refine tk 1 99 (v:=?_) rfl HQ8.out ?_ ?_
       rotate_left;· intro V hV;go_simp;try with_reducible rfl
       try simp only [Act.put,aSt,aSz,aSs]
       refine tk 2 100 (v:=?_) rfl HQ8.out ?_ ?_
       rotate_left;· intro V hV;go_simp;try with_reducible rfl
       try simp only [Act.put,aSt,aSz,aSs]
       refine tk 3 101 (v:=?_) rfl HQ8.out ?_ ?_
       rotate_left
       ·intro V hV
        have k:=eb8 hV;rw [HA2.out.2] at k;go_simp;try with_reducible rfl
       try simp only [Act.put,aSt,aSz,aSs]
       refine tk 4 102 (v:=?_) rfl HQ8.out ?_ ?_
       rotate_left;· intro V hV;go_simp;try with_reducible rfl
       try simp only [Act.put,aSt,aSz,aSs]
       refine tk 5 103 (v:=?_) rfl HQ8.out ?_ ?_
       rotate_left;· intro V hV;go_simp;try with_reducible rfl
       try simp only [Act.put,aSt,aSz,aSs]
       refine tn 6 104 rfl HQ8.out ?_;try simp only [Act.put,aSt,aSz,aSs]
       refine tn 7 105 rfl HQ8.out ?_;try simp only [Act.put,aSt,aSz,aSs]
       refine tn 8 106 rfl HQ8.out ?_;try simp only [Act.put,aSt,aSz,aSs]
       refine tk 9 107 (v:=?_) rfl HQ8.out ?_ ?_
       rotate_left;· intro V hV;go_simp;try with_reducible rfl
       try simp only [Act.put,aSt,aSz,aSs]
       refine tk 10 108 (v:=?_) rfl HQ8.out ?_ ?_
       rotate_left;· intro V hV;go_simp;try with_reducible rfl
       try simp only [Act.put,aSt,aSz,aSs]
       refine tn 11 109 rfl HQ8.out ?_;try simp only [Act.put,aSt,aSz,aSs]
       refine tn 12 110 rfl HQ8.out ?_;try simp only [Act.put,aSt,aSz,aSs]
       refine tn 13 111 rfl HQ8.out ?_;try simp only [Act.put,aSt,aSz,aSs]
       refine tn 14 112 rfl HQ8.out ?_;try simp only [Act.put,aSt,aSz,aSs]
       refine tk 15 113 (v:=?_) rfl HQ8.out ?_ ?_
       rotate_left;· intro V hV;go_simp;try with_reducible rfl
       try simp only [Act.put,aSt,aSz,aSs]
       refine wpL_one 16 (by kernel_rfl) rfl (fun K hK => ?_);refine one_skip (by rfl) (run_put_at 33 (.tmp 4) (.tmp 98) rfl (w.heap.size) 0 m2.cs rfl rfl 33 Z hZ.drew (ld29 _ (em_size _)) (by rw [em_size,hZs];omega) (ecs_all m2) _ (eput_zero Z hZs m2)) (hK _ _ (fun _ => HQ9.out) ?_);clear hK K;try simp only [Act.put,aSt,aSz,aSs]
       refine wpL_one 17 (by kernel_rfl) rfl (fun K hK => ?_);rw [if_pos (by rfl)];go_simp;refine hK _ _ (fun _ => HQ9.out) ?_;clear hK K;try simp only [Act.put,aSt,aSz,aSs]
       refine wpL_done (by kernel_rfl) ?_ _;go_wp2_with fail;refine bodyPost_ret (results_29b rfl _ rfl (hZ.drew.row _) rfl) rfl ?_;exact HS.out.drew.fin (fun h => by cases h) (fun _ => HR.out)
      have f1 : ((op : Int) != 0) = true:=by rw [bne_iff_ne];omega
      cases hc : wcnt p with
      | none =>
       have hx1 : x = -1:=HX.out.trans (wcntZ_none hc)
       have HR : Hid (doE nodes.toNat rest = none):=by
        show _ = _;rw [HDO.out,hc]
       have f2 : ¬ (0 : Int) ≤ x:=by omega
       clear hc hx1 hop0;refine wp_region_L [] (fun V => Blk V (w.heap.size + 1) 33 m2.cs) (by kernel_rfl) ?_;refine tk 0 98 (v:=.agg m2.cs) rfl HQ8.out ?_ ?_
       ·intro V hV;exact ex_load 33 (.tmp 6) rfl _ rfl m2.cs _ Tryz.underlying33 rfl (ld29 _ (em_size _)) (ebox_all hV)
       try simp only [Act.put,aSt,aSz,aSs]
       refine tk 1 99 (v:=?_) rfl HQ8.out ?_ ?_
       rotate_left;· intro V hV;go_simp;try with_reducible rfl
       try simp only [Act.put,aSt,aSz,aSs]
       refine tk 2 100 (v:=?_) rfl HQ8.out ?_ ?_
       rotate_left;· intro V hV;go_simp;try with_reducible rfl
       try simp only [Act.put,aSt,aSz,aSs]
       refine tk 3 101 (v:=?_) rfl HQ8.out ?_ ?_
       rotate_left
       ·intro V hV
        have k:=eb8 hV;rw [HA2.out.2] at k;go_simp;try with_reducible rfl
       try simp only [Act.put,aSt,aSz,aSs]
       refine tk 4 102 (v:=?_) rfl HQ8.out ?_ ?_
       rotate_left;· intro V hV;go_simp;try with_reducible rfl
       try simp only [Act.put,aSt,aSz,aSs]
       refine tk 5 103 (v:=?_) rfl HQ8.out ?_ ?_
       rotate_left;· intro V hV;go_simp;try with_reducible rfl
       try simp only [Act.put,aSt,aSz,aSs]
       refine tk 6 104 (v:=?_) rfl HQ8.out ?_ ?_
       rotate_left;· intro V hV;go_simp;try with_reducible rfl
       try simp only [Act.put,aSt,aSz,aSs]
       refine tk 7 105 (v:=?_) rfl HQ8.out ?_ ?_
       rotate_left
       ·intro V hV
        have k:=eb1 hV;rw [HA2.out.1] at k;go_simp;try with_reducible rfl
       try simp only [Act.put,aSt,aSz,aSs]
       refine tk 8 106 (v:=?_) rfl HQ8.out ?_ ?_
       rotate_left;· intro V hV;go_simp;try with_reducible rfl
       try simp only [Act.put,aSt,aSz,aSs]
       refine tk 9 107 (v:=?_) rfl HQ8.out ?_ ?_
       rotate_left;· intro V hV;go_simp;try with_reducible rfl
       try simp only [Act.put,aSt,aSz,aSs]
       refine tk 10 108 (v:=?_) rfl HQ8.out ?_ ?_
       rotate_left;· intro V hV;go_simp;try with_reducible rfl
       try simp only [Act.put,aSt,aSz,aSs]
       refine tn 11 109 rfl HQ8.out ?_;try simp only [Act.put,aSt,aSz,aSs]
       refine tn 12 110 rfl HQ8.out ?_;try simp only [Act.put,aSt,aSz,aSs]
       refine tn 13 111 rfl HQ8.out ?_;try simp only [Act.put,aSt,aSz,aSs]
       refine tn 14 112 rfl HQ8.out ?_;try simp only [Act.put,aSt,aSz,aSs]
       refine tk 15 113 (v:=?_) rfl HQ8.out ?_ ?_
       rotate_left;· intro V hV;go_simp;try with_reducible rfl
       try simp only [Act.put,aSt,aSz,aSs]
       refine wpL_one 16 (by kernel_rfl) rfl (fun K hK => ?_);refine one_skip (by rfl) (run_put_at 33 (.tmp 4) (.tmp 98) rfl (w.heap.size) 0 m2.cs rfl rfl 33 Z hZ.drew (ld29 _ (em_size _)) (by rw [em_size,hZs];omega) (ecs_all m2) _ (eput_zero Z hZs m2)) (hK _ _ (fun _ => HQ9.out) ?_);clear hK K;try simp only [Act.put,aSt,aSz,aSs]
       refine wpL_one 17 (by kernel_rfl) rfl (fun K hK => ?_);rw [if_pos (by rfl)];go_simp;refine hK _ _ (fun _ => HQ9.out) ?_;clear hK K;try simp only [Act.put,aSt,aSz,aSs]
       refine wpL_done (by kernel_rfl) ?_ _;go_wp2_with fail;refine bodyPost_ret (results_29b rfl _ rfl (hZ.drew.row _) rfl) rfl ?_;exact HS.out.drew.fin (fun h => by cases h) (fun _ => HR.out)
      | some n =>
       have hx1 : x = (n : Int):=HX.out.trans (wcntZ_some hc);have f2 : (0 : Int) ≤ x:=by omega
       by_cases hnn : n < nodes.toNat
       ·have f3 : x < nodes:=by omega
        have HR : Hid (doE nodes.toNat rest = some m2.ev):=by
         show _ = _;rw [HDO.out,hc];simp only;rw [if_pos ⟨hnn,by have:=HOPN.out;omega⟩,← HALL.out,HM1.out,HOPN.out,hx1]
        clear hc hx1 hop0 hnn;refine wp_region_L [] (fun V => Blk V (w.heap.size + 1) 33 m2.cs) (by kernel_rfl) ?_;refine tk 0 98 (v:=.agg m2.cs) rfl HQ8.out ?_ ?_
        ·intro V hV;exact ex_load 33 (.tmp 6) rfl _ rfl m2.cs _ Tryz.underlying33 rfl (ld29 _ (em_size _)) (ebox_all hV)
        try simp only [Act.put,aSt,aSz,aSs]
        refine tk 1 99 (v:=?_) rfl HQ8.out ?_ ?_
        rotate_left;· intro V hV;go_simp;try with_reducible rfl
        try simp only [Act.put,aSt,aSz,aSs]
        refine tk 2 100 (v:=?_) rfl HQ8.out ?_ ?_
        rotate_left;· intro V hV;go_simp;try with_reducible rfl
        try simp only [Act.put,aSt,aSz,aSs]
        refine tk 3 101 (v:=?_) rfl HQ8.out ?_ ?_
        rotate_left
        ·intro V hV
         have k:=eb8 hV;rw [HA2.out.2] at k;go_simp;try with_reducible rfl
        try simp only [Act.put,aSt,aSz,aSs]
        refine tk 4 102 (v:=?_) rfl HQ8.out ?_ ?_
        rotate_left;· intro V hV;go_simp;try with_reducible rfl
        try simp only [Act.put,aSt,aSz,aSs]
        refine tk 5 103 (v:=?_) rfl HQ8.out ?_ ?_
        rotate_left;· intro V hV;go_simp;try with_reducible rfl
        try simp only [Act.put,aSt,aSz,aSs]
        refine tk 6 104 (v:=?_) rfl HQ8.out ?_ ?_
        rotate_left;· intro V hV;go_simp;try with_reducible rfl
        try simp only [Act.put,aSt,aSz,aSs]
        refine tk 7 105 (v:=?_) rfl HQ8.out ?_ ?_
        rotate_left
        ·intro V hV
         have k:=eb1 hV;rw [HA2.out.1] at k;go_simp;try with_reducible rfl
        try simp only [Act.put,aSt,aSz,aSs]
        refine tk 8 106 (v:=?_) rfl HQ8.out ?_ ?_
        rotate_left;· intro V hV;go_simp;try with_reducible rfl
        try simp only [Act.put,aSt,aSz,aSs]
        refine tk 9 107 (v:=?_) rfl HQ8.out ?_ ?_
        rotate_left;· intro V hV;go_simp;try with_reducible rfl
        try simp only [Act.put,aSt,aSz,aSs]
        refine tk 10 108 (v:=?_) rfl HQ8.out ?_ ?_
        rotate_left;· intro V hV;go_simp;try with_reducible rfl
        try simp only [Act.put,aSt,aSz,aSs]
        refine tk 11 109 (v:=?_) rfl HQ8.out ?_ ?_
        rotate_left;· intro V hV;go_simp;try with_reducible rfl
        try simp only [Act.put,aSt,aSz,aSs]
        refine tk 12 110 (v:=?_) rfl HQ8.out ?_ ?_
        rotate_left
        ·intro V hV
         have k:=eb1 hV;rw [HA2.out.1] at k;go_simp;try with_reducible rfl
        try simp only [Act.put,aSt,aSz,aSs]
        refine tk 13 111 (v:=?_) rfl HQ8.out ?_ ?_
        rotate_left;· intro V hV;go_simp;try with_reducible rfl
        try simp only [Act.put,aSt,aSz,aSs]
        refine tk 14 112 (v:=?_) rfl HQ8.out ?_ ?_
        rotate_left;· intro V hV;go_simp;try with_reducible rfl
        try simp only [Act.put,aSt,aSz,aSs]
        refine tk 15 113 (v:=?_) rfl HQ8.out ?_ ?_
        rotate_left;· intro V hV;go_simp;try with_reducible rfl
        try simp only [Act.put,aSt,aSz,aSs]
        refine wpL_one 16 (by kernel_rfl) rfl (fun K hK => ?_);refine one_skip (by rfl) (run_put_at 33 (.tmp 4) (.tmp 98) rfl (w.heap.size) 0 m2.cs rfl rfl 33 Z hZ.drew (ld29 _ (em_size _)) (by rw [em_size,hZs];omega) (ecs_all m2) _ (eput_zero Z hZs m2)) (hK _ _ (fun _ => HQ9.out) ?_);clear hK K;try simp only [Act.put,aSt,aSz,aSs]
        refine wpL_one 17 (by kernel_rfl) rfl (fun K hK => ?_);rw [if_pos (by rfl)];go_simp;refine hK _ _ (fun _ => HQ9.out) ?_;clear hK K;try simp only [Act.put,aSt,aSz,aSs]
        refine wpL_done (by kernel_rfl) ?_ _;go_wp2_with fail;refine bodyPost_ret (results_29b rfl _ rfl (hZ.drew.row _) rfl) rfl ?_;exact HS.out.drew.fin (fun _ => HR.out) (fun h => by cases h)
       ·have f3 : ¬ x < nodes:=by omega
        have HR : Hid (doE nodes.toNat rest = none):=by
         show _ = _;rw [HDO.out,hc];simp only;rw [if_neg (fun h => hnn h.1)]
        clear hc hx1 hop0 hnn;refine wp_region_L [] (fun V => Blk V (w.heap.size + 1) 33 m2.cs) (by kernel_rfl) ?_;refine tk 0 98 (v:=.agg m2.cs) rfl HQ8.out ?_ ?_
        ·intro V hV;exact ex_load 33 (.tmp 6) rfl _ rfl m2.cs _ Tryz.underlying33 rfl (ld29 _ (em_size _)) (ebox_all hV)
        try simp only [Act.put,aSt,aSz,aSs]
        refine tk 1 99 (v:=?_) rfl HQ8.out ?_ ?_
        rotate_left;· intro V hV;go_simp;try with_reducible rfl
        try simp only [Act.put,aSt,aSz,aSs]
        refine tk 2 100 (v:=?_) rfl HQ8.out ?_ ?_
        rotate_left;· intro V hV;go_simp;try with_reducible rfl
        try simp only [Act.put,aSt,aSz,aSs]
        refine tk 3 101 (v:=?_) rfl HQ8.out ?_ ?_
        rotate_left
        ·intro V hV
         have k:=eb8 hV;rw [HA2.out.2] at k;go_simp;try with_reducible rfl
        try simp only [Act.put,aSt,aSz,aSs]
        refine tk 4 102 (v:=?_) rfl HQ8.out ?_ ?_
        rotate_left;· intro V hV;go_simp;try with_reducible rfl
        try simp only [Act.put,aSt,aSz,aSs]
        refine tk 5 103 (v:=?_) rfl HQ8.out ?_ ?_
        rotate_left;· intro V hV;go_simp;try with_reducible rfl
        try simp only [Act.put,aSt,aSz,aSs]
        refine tk 6 104 (v:=?_) rfl HQ8.out ?_ ?_
        rotate_left;· intro V hV;go_simp;try with_reducible rfl
        try simp only [Act.put,aSt,aSz,aSs]
        refine tk 7 105 (v:=?_) rfl HQ8.out ?_ ?_
        rotate_left
        ·intro V hV
         have k:=eb1 hV;rw [HA2.out.1] at k;go_simp;try with_reducible rfl
        try simp only [Act.put,aSt,aSz,aSs]
        refine tk 8 106 (v:=?_) rfl HQ8.out ?_ ?_
        rotate_left;· intro V hV;go_simp;try with_reducible rfl
        try simp only [Act.put,aSt,aSz,aSs]
        refine tk 9 107 (v:=?_) rfl HQ8.out ?_ ?_
        rotate_left;· intro V hV;go_simp;try with_reducible rfl
        try simp only [Act.put,aSt,aSz,aSs]
        refine tk 10 108 (v:=?_) rfl HQ8.out ?_ ?_
        rotate_left;· intro V hV;go_simp;try with_reducible rfl
        try simp only [Act.put,aSt,aSz,aSs]
        refine tk 11 109 (v:=?_) rfl HQ8.out ?_ ?_
        rotate_left;· intro V hV;go_simp;try with_reducible rfl
        try simp only [Act.put,aSt,aSz,aSs]
        refine tk 12 110 (v:=?_) rfl HQ8.out ?_ ?_
        rotate_left
        ·intro V hV
         have k:=eb1 hV;rw [HA2.out.1] at k;go_simp;try with_reducible rfl
        try simp only [Act.put,aSt,aSz,aSs]
        refine tk 13 111 (v:=?_) rfl HQ8.out ?_ ?_
        rotate_left;· intro V hV;go_simp;try with_reducible rfl
        try simp only [Act.put,aSt,aSz,aSs]
        refine tk 14 112 (v:=?_) rfl HQ8.out ?_ ?_
        rotate_left;· intro V hV;go_simp;try with_reducible rfl
        try simp only [Act.put,aSt,aSz,aSs]
        refine tk 15 113 (v:=?_) rfl HQ8.out ?_ ?_
        rotate_left;· intro V hV;go_simp;try with_reducible rfl
        try simp only [Act.put,aSt,aSz,aSs]
        refine wpL_one 16 (by kernel_rfl) rfl (fun K hK => ?_);refine one_skip (by rfl) (run_put_at 33 (.tmp 4) (.tmp 98) rfl (w.heap.size) 0 m2.cs rfl rfl 33 Z hZ.drew (ld29 _ (em_size _)) (by rw [em_size,hZs];omega) (ecs_all m2) _ (eput_zero Z hZs m2)) (hK _ _ (fun _ => HQ9.out) ?_);clear hK K;try simp only [Act.put,aSt,aSz,aSs]
        refine wpL_one 17 (by kernel_rfl) rfl (fun K hK => ?_);rw [if_pos (by rfl)];go_simp;refine hK _ _ (fun _ => HQ9.out) ?_;clear hK K;try simp only [Act.put,aSt,aSz,aSs]
        refine wpL_done (by kernel_rfl) ?_ _;go_wp2_with fail;refine bodyPost_ret (results_29b rfl _ rfl (hZ.drew.row _) rfl) rfl ?_;exact HS.out.drew.fin (fun h => by cases h) (fun _ => HR.out)
    ·have HS:=hide he2
     have HOK:=hide hok;obtain ⟨m2,hm2⟩ : ∃ m2,m2 = putM m1 (ts.take 3):=⟨_,rfl⟩;rw [← hm2] at HS;have HM2:=hide hm2;clear he2 hok hm2;have hlk : ts.length ≤ 3:=hb3.2;have js : ¬ (6 : Int) < (ws.length : Int):=by omega
     have HALL : Hid (txtsE m1.ev ts = some m2.ev):=by
      show _ = _;rw [HM2.out,List.take_of_length_le hlk];exact txts_good hb3.1 hb3.2 (fun d hd => HOK.out d (by rw [List.take_of_length_le hlk];exact hd))
     have HA2 : Hid (m2.a = x ∧ m2.op = (op : Int)):=by
      have h2:=put_sid m1 (ts.take 3);rw [← HM2.out] at h2;refine ⟨h2.2.2.2.2.2.2.2.2.trans ?_,h2.2.2.2.2.2.2.2.1.trans ?_⟩ <;> (rw [HM1.out];rfl)
     go_upto_region 22 with fail
     obtain ⟨Z,hZs,hZ⟩:=HS.out.out;have HQ9 : Hid (Blk (wr.drew.setRow w.heap.size m2.cs) (w.heap.size + 1) 33 m2.cs):=HS.out.box.drew.row_far (by omega) _;have HQ8 : Hid (Blk wr.drew (w.heap.size + 1) 33 m2.cs):=HS.out.box.drew
     by_cases hop0 : op = 0
     ·have f1 : ((op : Int) != 0) = false:=by rw [hop0];rfl
      have HR : Hid (doE nodes.toNat rest = none):=by
       show _ = _;rw [HDO.out]
       cases wcnt p with
       | none => rfl
       | some x => simp only;rw [if_neg (fun h => by have:=HOPN.out;omega)]
      clear hop0;refine wp_region_L [] (fun V => Blk V (w.heap.size + 1) 33 m2.cs) (by kernel_rfl) ?_;refine tk 0 98 (v:=.agg m2.cs) rfl HQ8.out ?_ ?_
      ·intro V hV;exact ex_load 33 (.tmp 6) rfl _ rfl m2.cs _ Tryz.underlying33 rfl (ld29 _ (em_size _)) (ebox_all hV)
      try simp only [Act.put,aSt,aSz,aSs]
      refine tk 1 99 (v:=?_) rfl HQ8.out ?_ ?_
      rotate_left;· intro V hV;go_simp;try with_reducible rfl
      try simp only [Act.put,aSt,aSz,aSs]
      refine tk 2 100 (v:=?_) rfl HQ8.out ?_ ?_
      rotate_left;· intro V hV;go_simp;try with_reducible rfl
      try simp only [Act.put,aSt,aSz,aSs]
      refine tk 3 101 (v:=?_) rfl HQ8.out ?_ ?_
      rotate_left
      ·intro V hV
       have k:=eb8 hV;rw [HA2.out.2] at k;go_simp;try with_reducible rfl
      try simp only [Act.put,aSt,aSz,aSs]
      refine tk 4 102 (v:=?_) rfl HQ8.out ?_ ?_
      rotate_left;· intro V hV;go_simp;try with_reducible rfl
      try simp only [Act.put,aSt,aSz,aSs]
      refine tk 5 103 (v:=?_) rfl HQ8.out ?_ ?_
      rotate_left;· intro V hV;go_simp;try with_reducible rfl
      try simp only [Act.put,aSt,aSz,aSs]
      refine tn 6 104 rfl HQ8.out ?_;try simp only [Act.put,aSt,aSz,aSs]
      refine tn 7 105 rfl HQ8.out ?_;try simp only [Act.put,aSt,aSz,aSs]
      refine tn 8 106 rfl HQ8.out ?_;try simp only [Act.put,aSt,aSz,aSs]
      refine tk 9 107 (v:=?_) rfl HQ8.out ?_ ?_
      rotate_left;· intro V hV;go_simp;try with_reducible rfl
      try simp only [Act.put,aSt,aSz,aSs]
      refine tk 10 108 (v:=?_) rfl HQ8.out ?_ ?_
      rotate_left;· intro V hV;go_simp;try with_reducible rfl
      try simp only [Act.put,aSt,aSz,aSs]
      refine tn 11 109 rfl HQ8.out ?_;try simp only [Act.put,aSt,aSz,aSs]
      refine tn 12 110 rfl HQ8.out ?_;try simp only [Act.put,aSt,aSz,aSs]
      refine tn 13 111 rfl HQ8.out ?_;try simp only [Act.put,aSt,aSz,aSs]
      refine tn 14 112 rfl HQ8.out ?_;try simp only [Act.put,aSt,aSz,aSs]
      refine tk 15 113 (v:=?_) rfl HQ8.out ?_ ?_
      rotate_left;· intro V hV;go_simp;try with_reducible rfl
      try simp only [Act.put,aSt,aSz,aSs]
      refine wpL_one 16 (by kernel_rfl) rfl (fun K hK => ?_);refine one_skip (by rfl) (run_put_at 33 (.tmp 4) (.tmp 98) rfl (w.heap.size) 0 m2.cs rfl rfl 33 Z hZ.drew (ld29 _ (em_size _)) (by rw [em_size,hZs];omega) (ecs_all m2) _ (eput_zero Z hZs m2)) (hK _ _ (fun _ => HQ9.out) ?_);clear hK K;try simp only [Act.put,aSt,aSz,aSs]
      refine wpL_one 17 (by kernel_rfl) rfl (fun K hK => ?_);rw [if_pos (by rfl)];go_simp;refine hK _ _ (fun _ => HQ9.out) ?_;clear hK K;try simp only [Act.put,aSt,aSz,aSs]
      refine wpL_done (by kernel_rfl) ?_ _;go_wp2_with fail;refine bodyPost_ret (results_29b rfl _ rfl (hZ.drew.row _) rfl) rfl ?_;exact HS.out.drew.fin (fun h => by cases h) (fun _ => HR.out)
     have f1 : ((op : Int) != 0) = true:=by rw [bne_iff_ne];omega
     cases hc : wcnt p with
     | none =>
      have hx1 : x = -1:=HX.out.trans (wcntZ_none hc)
      have HR : Hid (doE nodes.toNat rest = none):=by
       show _ = _;rw [HDO.out,hc]
      have f2 : ¬ (0 : Int) ≤ x:=by omega
      clear hc hx1 hop0;refine wp_region_L [] (fun V => Blk V (w.heap.size + 1) 33 m2.cs) (by kernel_rfl) ?_;refine tk 0 98 (v:=.agg m2.cs) rfl HQ8.out ?_ ?_
      ·intro V hV;exact ex_load 33 (.tmp 6) rfl _ rfl m2.cs _ Tryz.underlying33 rfl (ld29 _ (em_size _)) (ebox_all hV)
      try simp only [Act.put,aSt,aSz,aSs]
      refine tk 1 99 (v:=?_) rfl HQ8.out ?_ ?_
      rotate_left;· intro V hV;go_simp;try with_reducible rfl
      try simp only [Act.put,aSt,aSz,aSs]
      refine tk 2 100 (v:=?_) rfl HQ8.out ?_ ?_
      rotate_left;· intro V hV;go_simp;try with_reducible rfl
      try simp only [Act.put,aSt,aSz,aSs]
      refine tk 3 101 (v:=?_) rfl HQ8.out ?_ ?_
      rotate_left
      ·intro V hV
       have k:=eb8 hV;rw [HA2.out.2] at k;go_simp;try with_reducible rfl
      try simp only [Act.put,aSt,aSz,aSs]
      refine tk 4 102 (v:=?_) rfl HQ8.out ?_ ?_
      rotate_left;· intro V hV;go_simp;try with_reducible rfl
      try simp only [Act.put,aSt,aSz,aSs]
      refine tk 5 103 (v:=?_) rfl HQ8.out ?_ ?_
      rotate_left;· intro V hV;go_simp;try with_reducible rfl
      try simp only [Act.put,aSt,aSz,aSs]
      refine tk 6 104 (v:=?_) rfl HQ8.out ?_ ?_
      rotate_left;· intro V hV;go_simp;try with_reducible rfl
      try simp only [Act.put,aSt,aSz,aSs]
      refine tk 7 105 (v:=?_) rfl HQ8.out ?_ ?_
      rotate_left
      ·intro V hV
       have k:=eb1 hV;rw [HA2.out.1] at k;go_simp;try with_reducible rfl
      try simp only [Act.put,aSt,aSz,aSs]
      refine tk 8 106 (v:=?_) rfl HQ8.out ?_ ?_
      rotate_left;· intro V hV;go_simp;try with_reducible rfl
      try simp only [Act.put,aSt,aSz,aSs]
      refine tk 9 107 (v:=?_) rfl HQ8.out ?_ ?_
      rotate_left;· intro V hV;go_simp;try with_reducible rfl
      try simp only [Act.put,aSt,aSz,aSs]
      refine tk 10 108 (v:=?_) rfl HQ8.out ?_ ?_
      rotate_left;· intro V hV;go_simp;try with_reducible rfl
      try simp only [Act.put,aSt,aSz,aSs]
      refine tn 11 109 rfl HQ8.out ?_;try simp only [Act.put,aSt,aSz,aSs]
      refine tn 12 110 rfl HQ8.out ?_;try simp only [Act.put,aSt,aSz,aSs]
      refine tn 13 111 rfl HQ8.out ?_;try simp only [Act.put,aSt,aSz,aSs]
      refine tn 14 112 rfl HQ8.out ?_;try simp only [Act.put,aSt,aSz,aSs]
      refine tk 15 113 (v:=?_) rfl HQ8.out ?_ ?_
      rotate_left;· intro V hV;go_simp;try with_reducible rfl
      try simp only [Act.put,aSt,aSz,aSs]
      refine wpL_one 16 (by kernel_rfl) rfl (fun K hK => ?_);refine one_skip (by rfl) (run_put_at 33 (.tmp 4) (.tmp 98) rfl (w.heap.size) 0 m2.cs rfl rfl 33 Z hZ.drew (ld29 _ (em_size _)) (by rw [em_size,hZs];omega) (ecs_all m2) _ (eput_zero Z hZs m2)) (hK _ _ (fun _ => HQ9.out) ?_);clear hK K;try simp only [Act.put,aSt,aSz,aSs]
      refine wpL_one 17 (by kernel_rfl) rfl (fun K hK => ?_);rw [if_pos (by rfl)];go_simp;refine hK _ _ (fun _ => HQ9.out) ?_;clear hK K;try simp only [Act.put,aSt,aSz,aSs]
      refine wpL_done (by kernel_rfl) ?_ _;go_wp2_with fail;refine bodyPost_ret (results_29b rfl _ rfl (hZ.drew.row _) rfl) rfl ?_;exact HS.out.drew.fin (fun h => by cases h) (fun _ => HR.out)
     | some n =>
      have hx1 : x = (n : Int):=HX.out.trans (wcntZ_some hc);have f2 : (0 : Int) ≤ x:=by omega
      by_cases hnn : n < nodes.toNat
      ·have f3 : x < nodes:=by omega
       have HR : Hid (doE nodes.toNat rest = some m2.ev):=by
        show _ = _;rw [HDO.out,hc];simp only;rw [if_pos ⟨hnn,by have:=HOPN.out;omega⟩,← HALL.out,HM1.out,HOPN.out,hx1]
       clear hc hx1 hop0 hnn;refine wp_region_L [] (fun V => Blk V (w.heap.size + 1) 33 m2.cs) (by kernel_rfl) ?_;refine tk 0 98 (v:=.agg m2.cs) rfl HQ8.out ?_ ?_
       ·intro V hV;exact ex_load 33 (.tmp 6) rfl _ rfl m2.cs _ Tryz.underlying33 rfl (ld29 _ (em_size _)) (ebox_all hV)
       try simp only [Act.put,aSt,aSz,aSs]
       refine tk 1 99 (v:=?_) rfl HQ8.out ?_ ?_
       rotate_left;· intro V hV;go_simp;try with_reducible rfl
       try simp only [Act.put,aSt,aSz,aSs]
       refine tk 2 100 (v:=?_) rfl HQ8.out ?_ ?_
       rotate_left;· intro V hV;go_simp;try with_reducible rfl
       try simp only [Act.put,aSt,aSz,aSs]
       refine tk 3 101 (v:=?_) rfl HQ8.out ?_ ?_
       rotate_left
       ·intro V hV
        have k:=eb8 hV;rw [HA2.out.2] at k;go_simp;try with_reducible rfl
       try simp only [Act.put,aSt,aSz,aSs]
       refine tk 4 102 (v:=?_) rfl HQ8.out ?_ ?_
       rotate_left;· intro V hV;go_simp;try with_reducible rfl
       try simp only [Act.put,aSt,aSz,aSs]
       refine tk 5 103 (v:=?_) rfl HQ8.out ?_ ?_
       rotate_left;· intro V hV;go_simp;try with_reducible rfl
       try simp only [Act.put,aSt,aSz,aSs]
       refine tk 6 104 (v:=?_) rfl HQ8.out ?_ ?_
       rotate_left;· intro V hV;go_simp;try with_reducible rfl
       try simp only [Act.put,aSt,aSz,aSs]
       refine tk 7 105 (v:=?_) rfl HQ8.out ?_ ?_
       rotate_left
       ·intro V hV
        have k:=eb1 hV;rw [HA2.out.1] at k;go_simp;try with_reducible rfl
       try simp only [Act.put,aSt,aSz,aSs]
       refine tk 8 106 (v:=?_) rfl HQ8.out ?_ ?_
       rotate_left;· intro V hV;go_simp;try with_reducible rfl
       try simp only [Act.put,aSt,aSz,aSs]
       refine tk 9 107 (v:=?_) rfl HQ8.out ?_ ?_
       rotate_left;· intro V hV;go_simp;try with_reducible rfl
       try simp only [Act.put,aSt,aSz,aSs]
       refine tk 10 108 (v:=?_) rfl HQ8.out ?_ ?_
       rotate_left;· intro V hV;go_simp;try with_reducible rfl
       try simp only [Act.put,aSt,aSz,aSs]
       refine tk 11 109 (v:=?_) rfl HQ8.out ?_ ?_
       rotate_left;· intro V hV;go_simp;try with_reducible rfl
       try simp only [Act.put,aSt,aSz,aSs]
       refine tk 12 110 (v:=?_) rfl HQ8.out ?_ ?_
       rotate_left
       ·intro V hV
        have k:=eb1 hV;rw [HA2.out.1] at k;go_simp;try with_reducible rfl
       try simp only [Act.put,aSt,aSz,aSs]
       refine tk 13 111 (v:=?_) rfl HQ8.out ?_ ?_
       rotate_left;· intro V hV;go_simp;try with_reducible rfl
       try simp only [Act.put,aSt,aSz,aSs]
       refine tk 14 112 (v:=?_) rfl HQ8.out ?_ ?_
       rotate_left;· intro V hV;go_simp;try with_reducible rfl
       try simp only [Act.put,aSt,aSz,aSs]
       refine tk 15 113 (v:=?_) rfl HQ8.out ?_ ?_
       rotate_left;· intro V hV;go_simp;try with_reducible rfl
       try simp only [Act.put,aSt,aSz,aSs]
       refine wpL_one 16 (by kernel_rfl) rfl (fun K hK => ?_);refine one_skip (by rfl) (run_put_at 33 (.tmp 4) (.tmp 98) rfl (w.heap.size) 0 m2.cs rfl rfl 33 Z hZ.drew (ld29 _ (em_size _)) (by rw [em_size,hZs];omega) (ecs_all m2) _ (eput_zero Z hZs m2)) (hK _ _ (fun _ => HQ9.out) ?_);clear hK K;try simp only [Act.put,aSt,aSz,aSs]
       refine wpL_one 17 (by kernel_rfl) rfl (fun K hK => ?_);rw [if_pos (by rfl)];go_simp;refine hK _ _ (fun _ => HQ9.out) ?_;clear hK K;try simp only [Act.put,aSt,aSz,aSs]
       refine wpL_done (by kernel_rfl) ?_ _;go_wp2_with fail;refine bodyPost_ret (results_29b rfl _ rfl (hZ.drew.row _) rfl) rfl ?_;exact HS.out.drew.fin (fun _ => HR.out) (fun h => by cases h)
      ·have f3 : ¬ x < nodes:=by omega
       have HR : Hid (doE nodes.toNat rest = none):=by
        show _ = _;rw [HDO.out,hc];simp only;rw [if_neg (fun h => hnn h.1)]
       clear hc hx1 hop0 hnn;refine wp_region_L [] (fun V => Blk V (w.heap.size + 1) 33 m2.cs) (by kernel_rfl) ?_;refine tk 0 98 (v:=.agg m2.cs) rfl HQ8.out ?_ ?_
       ·intro V hV;exact ex_load 33 (.tmp 6) rfl _ rfl m2.cs _ Tryz.underlying33 rfl (ld29 _ (em_size _)) (ebox_all hV)
       try simp only [Act.put,aSt,aSz,aSs]
       refine tk 1 99 (v:=?_) rfl HQ8.out ?_ ?_
       rotate_left;· intro V hV;go_simp;try with_reducible rfl
       try simp only [Act.put,aSt,aSz,aSs]
       refine tk 2 100 (v:=?_) rfl HQ8.out ?_ ?_
       rotate_left;· intro V hV;go_simp;try with_reducible rfl
       try simp only [Act.put,aSt,aSz,aSs]
       refine tk 3 101 (v:=?_) rfl HQ8.out ?_ ?_
       rotate_left
       ·intro V hV
        have k:=eb8 hV;rw [HA2.out.2] at k;go_simp;try with_reducible rfl
       try simp only [Act.put,aSt,aSz,aSs]
       refine tk 4 102 (v:=?_) rfl HQ8.out ?_ ?_
       rotate_left;· intro V hV;go_simp;try with_reducible rfl
       try simp only [Act.put,aSt,aSz,aSs]
       refine tk 5 103 (v:=?_) rfl HQ8.out ?_ ?_
       rotate_left;· intro V hV;go_simp;try with_reducible rfl
       try simp only [Act.put,aSt,aSz,aSs]
       refine tk 6 104 (v:=?_) rfl HQ8.out ?_ ?_
       rotate_left;· intro V hV;go_simp;try with_reducible rfl
       try simp only [Act.put,aSt,aSz,aSs]
       refine tk 7 105 (v:=?_) rfl HQ8.out ?_ ?_
       rotate_left
       ·intro V hV
        have k:=eb1 hV;rw [HA2.out.1] at k;go_simp;try with_reducible rfl
       try simp only [Act.put,aSt,aSz,aSs]
       refine tk 8 106 (v:=?_) rfl HQ8.out ?_ ?_
       rotate_left;· intro V hV;go_simp;try with_reducible rfl
       try simp only [Act.put,aSt,aSz,aSs]
       refine tk 9 107 (v:=?_) rfl HQ8.out ?_ ?_
       rotate_left;· intro V hV;go_simp;try with_reducible rfl
       try simp only [Act.put,aSt,aSz,aSs]
       refine tk 10 108 (v:=?_) rfl HQ8.out ?_ ?_
       rotate_left;· intro V hV;go_simp;try with_reducible rfl
       try simp only [Act.put,aSt,aSz,aSs]
       refine tk 11 109 (v:=?_) rfl HQ8.out ?_ ?_
       rotate_left;· intro V hV;go_simp;try with_reducible rfl
       try simp only [Act.put,aSt,aSz,aSs]
       refine tk 12 110 (v:=?_) rfl HQ8.out ?_ ?_
       rotate_left
       ·intro V hV
        have k:=eb1 hV;rw [HA2.out.1] at k;go_simp;try with_reducible rfl
       try simp only [Act.put,aSt,aSz,aSs]
       refine tk 13 111 (v:=?_) rfl HQ8.out ?_ ?_
       rotate_left;· intro V hV;go_simp;try with_reducible rfl
       try simp only [Act.put,aSt,aSz,aSs]
       refine tk 14 112 (v:=?_) rfl HQ8.out ?_ ?_
       rotate_left;· intro V hV;go_simp;try with_reducible rfl
       try simp only [Act.put,aSt,aSz,aSs]
       refine tk 15 113 (v:=?_) rfl HQ8.out ?_ ?_
       rotate_left;· intro V hV;go_simp;try with_reducible rfl
       try simp only [Act.put,aSt,aSz,aSs]
       refine wpL_one 16 (by kernel_rfl) rfl (fun K hK => ?_);refine one_skip (by rfl) (run_put_at 33 (.tmp 4) (.tmp 98) rfl (w.heap.size) 0 m2.cs rfl rfl 33 Z hZ.drew (ld29 _ (em_size _)) (by rw [em_size,hZs];omega) (ecs_all m2) _ (eput_zero Z hZs m2)) (hK _ _ (fun _ => HQ9.out) ?_);clear hK K;try simp only [Act.put,aSt,aSz,aSs]
       refine wpL_one 17 (by kernel_rfl) rfl (fun K hK => ?_);rw [if_pos (by rfl)];go_simp;refine hK _ _ (fun _ => HQ9.out) ?_;clear hK K;try simp only [Act.put,aSt,aSz,aSs]
       refine wpL_done (by kernel_rfl) ?_ _;go_wp2_with fail;refine bodyPost_ret (results_29b rfl _ rfl (hZ.drew.row _) rfl) rfl ?_;exact HS.out.drew.fin (fun h => by cases h) (fun _ => HR.out)
theorem doing_any (g cap : Nat) (ws : List Wd) (nodes : Int) (w : World) (hw : RWd w w.heap.size g ws) (rest : List Wd) (hrest : ws.drop 1 = rest) (hl : 1 ≤ ws.length) (hz : ∀ d ∈ ws,d.1.length ≤ 100000000) (hn : 1 ≤ nodes ∧ nodes ≤ 16) :
  Calls Tryz.prog 91 #[.slice (some ⟨g,0,none⟩) ws.length cap,.int .i64 nodes] w fun e w' => EvB (doE nodes.toNat rest) w.heap.size w e w':=by
 by_cases hs : ws.length < 4 ∨ 6 < ws.length
 ·exact doing_short g cap ws nodes w hw rest hrest hl hz hn hs
 ·obtain ⟨p,hp⟩ : ∃ p,ws[1]? = some p:=⟨_,List.getElem?_eq_getElem (by omega)⟩
  obtain ⟨o,ho⟩ : ∃ o,ws[2]? = some o:=⟨_,List.getElem?_eq_getElem (by omega)⟩
  cases hq : o.2 with
  | true => exact doing_quoted g cap ws nodes w hw rest hrest hl hz hn hs o ho hq
  | false => exact doing_main g cap ws nodes w hw rest hrest hl hz hn hs p o _ hp ho rfl hq
end Go.Proofs.YtcibcmfaebbhnaaGreatDoor
