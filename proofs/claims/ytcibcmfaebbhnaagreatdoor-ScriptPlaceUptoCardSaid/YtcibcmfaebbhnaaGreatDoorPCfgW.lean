/-
  The reference's ParseEvent. The program's CheckConfig by contract: a number is out of its range. A configuration in memory. The program's CheckConfig by contract.
-/
import Derived.Deep.WholeRow
import Derived.Test.YtcibcmfaebbhnaaGreatDoorPWev
import Derived.Test.YtcibcmfaebbhnaaGreatDoorPWrw
import Derived.Test.YtcibcmfaebbhnaaGreatDoorPHdr
import Derived.Test.YtcibcmfaebbhnaaGreatDoorPBln
import Derived.Test.YtcibcmfaebbhnaaGreatDoorPWords
set_option linter.unusedSimpArgs false
set_option linter.unusedVariables false
set_option maxRecDepth 100000
set_option maxHeartbeats 3000000

namespace Go.Proofs.YtcibcmfaebbhnaaGreatDoor
open Go.RowKit Go.WideShapes Go.ChangeShapes Q
theorem wds_sz {nl : Bool} : ∀ (n : Nat) (l : List UInt8),l.length ≤ n → ∀ ws,wordsG nl l = some ws → ws.length ≤ l.length ∧ ∀ d ∈ ws,d.1.length ≤ l.length
 | n,[],hn,ws,h => by
  rw [wds_nil] at h;obtain rfl:=Option.some.inj h;exact ⟨by simp,fun d hd => by cases hd⟩
 | 0,c :: r,hn,ws,h => by simp at hn
 | n + 1,c :: r,hn,ws,h => by
  have hr : r.length ≤ n:=by simpa using hn
  by_cases hb : blk c = true
  ·rw [wds_blank r hb] at h
   have:=wds_sz n r hr ws h;refine ⟨by simp;omega,fun d hd => ?_⟩;have:=this.2 d hd;simp;omega
  by_cases hq : c.toNat = 34
  ·rw [wds_str r hq] at h
   cases hu : unq r with
   | none => rw [hu] at h;cases h
   | some p =>
    obtain ⟨b,t⟩:=p;rw [hu] at h;simp only at h
    split at h
    ·obtain ⟨l2,h2,rfl⟩:=Option.map_eq_some_iff.1 h
     have h3:=unq_lt _ r (Nat.le_refl _) b t hu;have h4:=unq_len _ r (Nat.le_refl _) b t hu;have h5:=wds_sz n t (by omega) l2 h2;refine ⟨by simp;omega,fun d hd => ?_⟩
     rcases List.mem_cons.1 hd with rfl | hd
     ·simp only [List.length_cons];omega
     ·have:=h5.2 d hd
      simp only [List.length_cons];omega
    ·cases h
  ·have hbf : blk c = false:=by simpa using hb
   by_cases hp : plnB nl c = true
   ·rw [wds_run r hp] at h
    split at h
    ·obtain ⟨l2,h2,rfl⟩:=Option.map_eq_some_iff.1 h
     have h3:=drop_len (plnB nl) r;have h4 : (r.takeWhile (plnB nl)).length ≤ r.length:=(List.takeWhile_sublist _).length_le;have h5:=wds_sz n _ (by omega) l2 h2;refine ⟨by simp;omega,fun d hd => ?_⟩
     rcases List.mem_cons.1 hd with rfl | hd
     ·simp only [List.length_cons];omega
     ·have:=h5.2 d hd
      simp only [List.length_cons];omega
    ·cases h
   ·rw [wds_stop r hbf hq (by simpa using hp)] at h
    cases h
section
variable {P : Program}
theorem wpList_store_fresh {ops : Array Oper} {rest : List Oper} {o : Oper} {a : Act} {w : World} {Q : Exit → Act → World → Prop} (hgd : o.guard = none) (ty : TypeId) (x y : Operand) (ho : o.op = .store ty x y) (c c' : Array Value)
  (hx : a.eval x = .pointer (some ⟨w.heap.size,0,none⟩)) (hy : a.eval y = .agg c') (hi : (P.info? ty).map (·.size) = some c'.size) (hz : c.size = c'.size) (h1 : c'.all (·.oneCell') = true)
  (h : wpList P ops Q rest (a.put o.dst undef) (w.alloc (.cells c' ty))) : wpList P ops Q (o :: rest) a (w.alloc (.cells c ty)):=by
 refine wpList_plain hgd fun K hK => ?_
 unfold Oper.wp execOp;simp only [ho,hx,hy,run_storeAt_new w ty c c' hi hz h1,Sem.run_bind,Sem.run_pure,Result.andThen_ok];exact hK _ _ h
end
theorem evp_out {w W : World} {r b : Nat} {m : Em} {Z : Array Value} {f : Ev} (hr : w.heap.size ≤ r) (hZ : Blk W r 33 Z) (ht : EmU W b m) (hl : Below w.heap.size w W) (h1 : m.ev = f) :
  EvP f b w (.returned (.agg m.cs)) (W.setRow r m.cs):=by
 have hW:=only_setRow W r m.cs;exact ⟨m,rfl,h1,ht.far hZ (by decide) (by decide) hW,hl.trans (hW.below hl.size (fun k hk e => by omega))⟩
theorem event_row {w : World} {base : Nat} {A : Option Addr} {c : Nat} {ws : List Wd} (nodes : Int) (h : w.ownsRow base 165 2 (.slice A ws.length c) ws.length (rwc ws)) (hlm : ws.length ≤ 90000000) (hz : ∀ d ∈ ws,d.1.length ≤ 100000000) (hn : 1 ≤ nodes ∧ nodes ≤ 16) :
  Calls Tryz.prog 76 #[.slice A ws.length c,.int .i64 nodes] w fun e w' => EvB (eventE nodes.toNat ws) w.heap.size w e w':=by
 by_cases h0 : ws = []
 ·subst h0
  exact event_nil A c nodes w
 ·obtain ⟨g,cap,hv,_,hlt⟩:=h.form (List.length_pos_iff.2 h0)
  injection hv with e1 e2 e3
  subst e1 e3;exact event_any g c ws nodes w (RWd.of_own h hlt) hlm hz hn
theorem rparse_ev (s : ByteArray) (nodes : Int) (w : World) (hs : s.size ≤ 30000000) :
  Calls Tryz.prog 46 #[.string s,.int .i64 nodes] w fun e w' => EvP (lineE nodes s.data.toList) w.heap.size w e w':=by
 have HWD : Hid (∀ W,Calls Tryz.prog 75 #[.string s] W fun e w' => WdsP 165 rwc (wordsG true s.data.toList) W e w'):=fun W => words_ref s W (by omega)
 have HSZ : Hid (∀ ws,wordsG true s.data.toList = some ws → ws.length ≤ 90000000 ∧ ∀ d ∈ ws,d.1.length ≤ 100000000):=fun ws h => by
  have:=wds_sz _ _ (Nat.le_refl _) ws h;rw [str_len] at this;exact ⟨by omega,fun d hd => by have:=this.2 d hd;omega⟩
 go_enter Tryz.func46,Tryz.ntmps46;go_upto_region 1 with fail
 generalize hW1 : World.alloc w _ = W1
 obtain ⟨Z,hZs,hZ⟩ : ∃ Z : Array Value,Z.size = 13 ∧ Blk W1 w.heap.size 33 Z:=by
  rw [← hW1];exact ⟨_,rfl,Blk.new _ _ _⟩
 have HB : Hid (Below w.heap.size w W1):=by
  show Below _ _ _;rw [← hW1];exact (Below.refl _ _).alloc (Nat.le_refl _) _
 clear hW1;go_upto_region 2 with (go_at_call 75;refine (HWD.out _).mono ?_;rintro e w2 ⟨A,c,ws,ok,rfl,hrow,hb2,h1,h2⟩;have HO:=hide hrow;have HB2:=hide (HB.out.trans (hb2.mono HB.out.size));have HZ2:=hide (hZ.below hb2 hZ.lt);have H1:=hide h1;have H2:=hide h2;clear hrow hb2 h1 h2)
 clear hZ
 cases ok with
 | false =>
  have HR : Hid (lineE nodes s.data.toList = Ev.zero):=by
   show _ = _;unfold lineE;rw [H2.out rfl]
   split <;> rfl
  go_wp2_with (refine wpList_put_at rfl 33 (.tmp 4) (.tmp 24) rfl (w.heap.size) 0 Em.zero.cs rfl rfl 33 Z HZ2.out (ld29 _ (em_size _)) (by rw [em_size,hZs];omega) (ecs_all Em.zero) _ (eput_zero Z hZs Em.zero) ?_);refine bodyPost_ret (results_29 rfl _ rfl (HZ2.out.row _)) rfl ?_;exact evp_out (Nat.le_refl _) HZ2.out (EmU.zero _ _) HB2.out (zero_ev.trans HR.out.symm)
 | true =>
  by_cases hlo : nodes < 1
  ·have HR : Hid (lineE nodes s.data.toList = Ev.zero):=by
    show _ = _;unfold lineE;rw [if_neg (fun h => by omega)]
   go_wp2_with (refine wpList_put_at rfl 33 (.tmp 4) (.tmp 24) rfl (w.heap.size) 0 Em.zero.cs rfl rfl 33 Z HZ2.out (ld29 _ (em_size _)) (by rw [em_size,hZs];omega) (ecs_all Em.zero) _ (eput_zero Z hZs Em.zero) ?_);refine bodyPost_ret (results_29 rfl _ rfl (HZ2.out.row _)) rfl ?_;exact evp_out (Nat.le_refl _) HZ2.out (EmU.zero _ _) HB2.out (zero_ev.trans HR.out.symm)
  by_cases hhi : 16 < nodes
  ·have HR : Hid (lineE nodes s.data.toList = Ev.zero):=by
    show _ = _;unfold lineE;rw [if_neg (fun h => by omega)]
   go_wp2_with (refine wpList_put_at rfl 33 (.tmp 4) (.tmp 24) rfl (w.heap.size) 0 Em.zero.cs rfl rfl 33 Z HZ2.out (ld29 _ (em_size _)) (by rw [em_size,hZs];omega) (ecs_all Em.zero) _ (eput_zero Z hZs Em.zero) ?_);refine bodyPost_ret (results_29 rfl _ rfl (HZ2.out.row _)) rfl ?_;exact evp_out (Nat.le_refl _) HZ2.out (EmU.zero _ _) HB2.out (zero_ev.trans HR.out.symm)
  have hn : 1 ≤ nodes ∧ nodes ≤ 16:=by omega
  have HR : Hid (lineE nodes s.data.toList = (eventE nodes.toNat ws).getD Ev.zero):=by
   show _ = _;unfold lineE;rw [if_pos hn,H1.out rfl]
  have HEV:=hide (event_row nodes HO.out (HSZ.out ws (H1.out rfl)).1 (HSZ.out ws (H1.out rfl)).2 hn);obtain ⟨TE,hTE⟩ : ∃ TE,TE = eventE nodes.toNat ws:=⟨_,rfl⟩;rw [← hTE] at HEV HR;clear hTE;go_upto_region 4 with fail
  refine wp_region_lit ?_;refine wpList_value rfl (.slice A ws.length c) (by go_simp) ?_;refine wpList_value rfl (.int .i64 nodes) (by go_simp) ?_;try simp only [Act.put,aSt,aSz,aSs]
  refine wpList_step (fun K hK => ?_);rw [if_pos (by rfl)];go_simp;go_at_call 76;refine HEV.out.mono ?_;rintro e w3 ⟨m,good,rfl,ht,hb3,h1,h2⟩;have HT:=hide (ht.base HB2.out.size);have HB3:=hide (HB2.out.trans (hb3.mono HB2.out.size));have HZ3:=hide (HZ2.out.below hb3 HZ2.out.lt);have H3:=hide h1;have H4:=hide h2;clear ht hb3 h1 h2;refine hK _ _ ?_;clear hK K;try simp only [Act.put,aSt,aSz,aSs]
  refine wpList_value rfl (.tuple #[.agg m.cs,.bool good]) (by go_simp) ?_;try simp only [Act.put,aSt,aSz,aSs]
  refine wpList_value rfl (.agg m.cs) (by go_simp) ?_;try simp only [Act.put,aSt,aSz,aSs]
  refine wpList_value rfl (.bool good) (by go_simp) ?_;try simp only [Act.put,aSt,aSz,aSs]
  refine wpList_step (fun K hK => ?_);rw [if_pos (by rfl)];go_simp;refine hK _ _ ?_;clear hK K;refine wpList_store_fresh rfl 33 (.tmp 7) (.tmp 29) rfl _ m.cs rfl rfl (ld29 _ (em_size _)) rfl (ecs_all m) ?_;try simp only [Act.put,aSt,aSz,aSs]
  obtain ⟨W4,hW4⟩ : ∃ W4,W4 = w3.alloc (.cells m.cs 33):=⟨_,rfl⟩
  have HBX : Hid (Blk W4 w3.heap.size 33 m.cs):=by
   show Blk _ _ _ _;rw [hW4];exact Blk.new _ _ _
  have hb4 : Below w3.heap.size w3 W4:=by rw [hW4];exact (Below.refl _ _).alloc (Nat.le_refl _) _
  have HT4:=hide (HT.out.step hb4);have HB4:=hide (HB3.out.trans (hb4.mono HB3.out.size));have HZ4:=hide (HZ3.out.below hb4 HZ3.out.lt);rw [← hW4];clear hW4 hb4 HT HZ3
  cases good with
  | false =>
   have HR2 : Hid (lineE nodes s.data.toList = Ev.zero):=by
    show _ = _;rw [HR.out,H4.out rfl]
    rfl
   go_wp2_with (refine wpList_put_at rfl 33 (.tmp 4) (.tmp 33) rfl (w.heap.size) 0 Em.zero.cs rfl rfl 33 Z HZ4.out (ld29 _ (em_size _)) (by rw [em_size,hZs];omega) (ecs_all Em.zero) _ (eput_zero Z hZs Em.zero) ?_);refine bodyPost_ret (results_29 rfl _ rfl (HZ4.out.row _)) rfl ?_;exact evp_out (Nat.le_refl _) HZ4.out (EmU.zero _ _) HB4.out (zero_ev.trans HR2.out.symm)
  | true =>
   have HR2 : Hid (m.ev = lineE nodes s.data.toList):=by
    show _ = _;rw [HR.out,H3.out rfl]
    rfl
   go_upto_region 7 with fail
   refine wp_region_lit ?_;refine wpList_value rfl (.agg m.cs) (ex_load 33 (.tmp 7) rfl _ rfl m.cs _ Tryz.underlying33 rfl (ld29 _ (em_size _)) (ebox_all HBX.out)) ?_;simp only [Act.put,aSt,aSz,aSs];go_wp2_with (refine wpList_put_at rfl 33 (.tmp 4) (.tmp 34) rfl (w.heap.size) 0 m.cs rfl rfl 33 Z HZ4.out (ld29 _ (em_size _)) (by rw [em_size,hZs];omega) (ecs_all m) _ (eput_zero Z hZs m) ?_);refine bodyPost_ret (results_29 rfl _ rfl (HZ4.out.row _)) rfl ?_;exact evp_out (Nat.le_refl _) HZ4.out HT4.out HB4.out HR2.out
def cfgV (c : Cfg) (A : Option Addr) (n cp : Nat) : Value:=.agg #[.int .i64 c.nodes,.int .i64 c.window,.int .i64 c.base,.int .i64 c.step,.int .i64 c.cap,.int .i64 c.room,.int .i64 c.floor,.slice A n cp]
def cfgO (c : Cfg) (A : Option Addr) (n cp : Nat) : Obj:=.cells #[.int .i64 c.nodes,.int .i64 c.window,.int .i64 c.base,.int .i64 c.step,.int .i64 c.cap,.int .i64 c.room,.int .i64 c.floor,.slice A n cp] 24
theorem check_bad1 (nd wn bs st cp rm fl : Int) (vs : List Int) (A : Option Addr) (n k : Nat) (w : World) (h1 : inB nd 1 16 = false) :
  Calls Tryz.prog 10 #[cfgV ⟨nd,wn,bs,st,cp,rm,fl,vs⟩ A n k] w fun e w' => e = .returned (.int .i64 22) ∧ w.alloc (cfgO ⟨nd,wn,bs,st,cp,rm,fl,vs⟩ A n k) = w':=by
 unfold cfgV cfgO;go_enter Tryz.func10,Tryz.ntmps10;go_wp2_with (go_at_call 31;refine (within_any _ _ _ _).mono ?_;rintro e w' ⟨rfl,rfl⟩);go_ret;exact ⟨rfl,rfl⟩
theorem check_bad2 (nd wn bs st cp rm fl : Int) (vs : List Int) (A : Option Addr) (n k : Nat) (w : World) (h1 : inB nd 1 16 = true) (h2 : inB wn 1 8 = false) :
  Calls Tryz.prog 10 #[cfgV ⟨nd,wn,bs,st,cp,rm,fl,vs⟩ A n k] w fun e w' => e = .returned (.int .i64 22) ∧ w.alloc (cfgO ⟨nd,wn,bs,st,cp,rm,fl,vs⟩ A n k) = w':=by
 unfold cfgV cfgO;go_enter Tryz.func10,Tryz.ntmps10;go_wp2_with (go_at_call 31;refine (within_any _ _ _ _).mono ?_;rintro e w' ⟨rfl,rfl⟩);go_ret;exact ⟨rfl,rfl⟩
theorem check_bad3 (nd wn bs st cp rm fl : Int) (vs : List Int) (A : Option Addr) (n k : Nat) (w : World) (h1 : inB nd 1 16 = true) (h2 : inB wn 1 8 = true) (h3 : inB cp 1 64 = false) :
  Calls Tryz.prog 10 #[cfgV ⟨nd,wn,bs,st,cp,rm,fl,vs⟩ A n k] w fun e w' => e = .returned (.int .i64 22) ∧ w.alloc (cfgO ⟨nd,wn,bs,st,cp,rm,fl,vs⟩ A n k) = w':=by
 unfold cfgV cfgO;go_enter Tryz.func10,Tryz.ntmps10;go_wp2_with (go_at_call 31;refine (within_any _ _ _ _).mono ?_;rintro e w' ⟨rfl,rfl⟩);go_ret;exact ⟨rfl,rfl⟩
theorem check_bad4 (nd wn bs st cp rm fl : Int) (vs : List Int) (A : Option Addr) (n k : Nat) (w : World) (h1 : inB nd 1 16 = true) (h2 : inB wn 1 8 = true) (h3 : inB cp 1 64 = true) (h4 : inB bs 1 cp = false) :
  Calls Tryz.prog 10 #[cfgV ⟨nd,wn,bs,st,cp,rm,fl,vs⟩ A n k] w fun e w' => e = .returned (.int .i64 22) ∧ w.alloc (cfgO ⟨nd,wn,bs,st,cp,rm,fl,vs⟩ A n k) = w':=by
 unfold cfgV cfgO;go_enter Tryz.func10,Tryz.ntmps10;go_wp2_with (go_at_call 31;refine (within_any _ _ _ _).mono ?_;rintro e w' ⟨rfl,rfl⟩);go_ret;exact ⟨rfl,rfl⟩
theorem check_bad5 (nd wn bs st cp rm fl : Int) (vs : List Int) (A : Option Addr) (n k : Nat) (w : World) (h1 : inB nd 1 16 = true) (h2 : inB wn 1 8 = true) (h3 : inB cp 1 64 = true) (h4 : inB bs 1 cp = true) (h5 : inB st 1 cp = false) :
  Calls Tryz.prog 10 #[cfgV ⟨nd,wn,bs,st,cp,rm,fl,vs⟩ A n k] w fun e w' => e = .returned (.int .i64 22) ∧ w.alloc (cfgO ⟨nd,wn,bs,st,cp,rm,fl,vs⟩ A n k) = w':=by
 unfold cfgV cfgO;go_enter Tryz.func10,Tryz.ntmps10;go_wp2_with (go_at_call 31;refine (within_any _ _ _ _).mono ?_;rintro e w' ⟨rfl,rfl⟩);go_ret;exact ⟨rfl,rfl⟩
theorem check_bad6 (nd wn bs st cp rm fl : Int) (vs : List Int) (A : Option Addr) (n k : Nat) (w : World) (h1 : inB nd 1 16 = true) (h2 : inB wn 1 8 = true) (h3 : inB cp 1 64 = true) (h4 : inB bs 1 cp = true) (h5 : inB st 1 cp = true) (h6 : inB rm 1 20000 = false) :
  Calls Tryz.prog 10 #[cfgV ⟨nd,wn,bs,st,cp,rm,fl,vs⟩ A n k] w fun e w' => e = .returned (.int .i64 22) ∧ w.alloc (cfgO ⟨nd,wn,bs,st,cp,rm,fl,vs⟩ A n k) = w':=by
 unfold cfgV cfgO;go_enter Tryz.func10,Tryz.ntmps10;go_wp2_with (go_at_call 31;refine (within_any _ _ _ _).mono ?_;rintro e w' ⟨rfl,rfl⟩);go_ret;exact ⟨rfl,rfl⟩
theorem check_bad7 (nd wn bs st cp rm fl : Int) (vs : List Int) (A : Option Addr) (n k : Nat) (w : World) (h1 : inB nd 1 16 = true) (h2 : inB wn 1 8 = true) (h3 : inB cp 1 64 = true) (h4 : inB bs 1 cp = true) (h5 : inB st 1 cp = true) (h6 : inB rm 1 20000 = true) (h7 : inB fl 0 4611686018427387904 = false) :
  Calls Tryz.prog 10 #[cfgV ⟨nd,wn,bs,st,cp,rm,fl,vs⟩ A n k] w fun e w' => e = .returned (.int .i64 22) ∧ w.alloc (cfgO ⟨nd,wn,bs,st,cp,rm,fl,vs⟩ A n k) = w':=by
 unfold cfgV cfgO;go_enter Tryz.func10,Tryz.ntmps10;go_wp2_with (go_at_call 31;refine (within_any _ _ _ _).mono ?_;rintro e w' ⟨rfl,rfl⟩);go_ret;exact ⟨rfl,rfl⟩
theorem check_bad8 (nd wn bs st cp rm fl : Int) (vs : List Int) (A : Option Addr) (n k : Nat) (w : World) (h1 : inB nd 1 16 = true) (h2 : inB wn 1 8 = true) (h3 : inB cp 1 64 = true) (h4 : inB bs 1 cp = true) (h5 : inB st 1 cp = true) (h6 : inB rm 1 20000 = true) (h7 : inB fl 0 4611686018427387904 = true) (h8 : ((n : Int) == nd) = false) :
  Calls Tryz.prog 10 #[cfgV ⟨nd,wn,bs,st,cp,rm,fl,vs⟩ A n k] w fun e w' => e = .returned (.int .i64 22) ∧ w.alloc (cfgO ⟨nd,wn,bs,st,cp,rm,fl,vs⟩ A n k) = w':=by
 unfold cfgV cfgO;go_enter Tryz.func10,Tryz.ntmps10;go_wp2_with (go_at_call 31;refine (within_any _ _ _ _).mono ?_;rintro e w' ⟨rfl,rfl⟩);go_ret;exact ⟨rfl,rfl⟩
def cfC (c : Cfg) (A : Option Addr) (k : Nat) : Array Value:=#[.int .i64 c.nodes,.int .i64 c.window,.int .i64 c.base,.int .i64 c.step,.int .i64 c.cap,.int .i64 c.room,.int .i64 c.floor,.slice A c.votes.length k]
theorem cf_size (c : Cfg) (A : Option Addr) (k : Nat) : (cfC c A k).size = 8:=rfl
theorem cf_all (c : Cfg) (A : Option Addr) (k : Nat) : (cfC c A k).all (·.oneCell') = true:=by simp [cfC,Value.oneCell']
theorem ld44 (cs : Array Value) (h : cs.size = 8) : (Tryz.prog.info? 24).map (·.size) = some cs.size:=by rw [h];kernel_rfl
theorem box_all {w : World} {g : Nat} {t : TypeId} {cs : Array Value} (h : Blk w g t cs) : ∀ j v,cs[j]? = some v → w.cell? ((⟨g,0,none⟩ : Addr).add j) = some v:=by
 intro j v hv
 have e2 : (⟨g,0,none⟩ : Addr).add j = ⟨g,j,none⟩:=by
  unfold Addr.add
  split
  ·rename_i h0;subst h0;rfl
  ·simp
 rw [e2,h.cell j,hv]
structure CfU (w : World) (b : Nat) (c : Cfg) (A : Option Addr) (k : Nat) : Prop where
 own : w.ownsRow b 3 1 (.slice A c.votes.length k) c.votes.length (ints c.votes)
 hv : c.votes.length ≤ 16
section
variable {w w' : World} {b b' g : Nat} {t : TypeId} {cs : Array Value} {c : Cfg} {A : Option Addr} {k : Nat}
theorem CfU.step (h : CfU w b c A k) (hb : Below w.heap.size w w') : CfU w' b c A k:=⟨own_step h.own hb,h.hv⟩
theorem CfU.base (h : CfU w b c A k) (hb : b' ≤ b) : CfU w b' c A k:=⟨own_base h.own hb,h.hv⟩
theorem CfU.zero (w : World) (b : Nat) (k : Nat) : CfU w b Cfg.zero none 0:=⟨World.ownsRow_nil _ _ _ _,Nat.zero_le _⟩
theorem CfU.far (h : CfU w b c A k) (hg : Blk w g t cs) (h2 : t ≠ 3) (ho : Only (fun q => q = g) w w') : CfU w' b c A k:=by
 refine ⟨own_apart h.own ho ?_,h.hv⟩;intro k hk hq;subst hq;exact ⟨t,cs,hg,h2⟩
theorem CfU.push {b' n s : Nat} {e : TypeId} {v : Value} {xs : List Value} (h : CfU w b c A k) (h' : w.ownsRow b' e s v n xs) (h3 : e ≠ 3) (hg : w.grownBy w' v.ownBlock) : CfU w' b c A k :=
 ⟨own_kept h.own h' (fun e => h3 e.symm) hg,h.hv⟩
theorem CfU.reads (h : CfU w b c A k) : RI w w.heap.size A c.votes.length c.votes:=Reads.of_own h.own
end
theorem check_late (nd wn bs st cp rm fl : Int) (vs : List Int) (A : Option Addr) (n k : Nat) (w : World) (h : RI w w.heap.size A n vs) (hn : n ≤ 16)
  (h1 : inB nd 1 16 = true) (h2 : inB wn 1 8 = true) (h3 : inB cp 1 64 = true) (h4 : inB bs 1 cp = true) (h5 : inB st 1 cp = true) (h6 : inB rm 1 20000 = true) (h7 : inB fl 0 4611686018427387904 = true) (h8 : ((n : Int) == nd) = true) :
  Calls Tryz.prog 10 #[cfgV ⟨nd,wn,bs,st,cp,rm,fl,vs⟩ A n k] w fun e w' => e = .returned (.int .i64 (Cfg.err ⟨nd,wn,bs,st,cp,rm,fl,vs⟩)) ∧ w.alloc (cfgO ⟨nd,wn,bs,st,cp,rm,fl,vs⟩ A n k) = w':=by
 have hl:=h.len;subst hl
 have HC : Hid (VFine vs vs.length → sumOf vs vs.length ≠ 0 → Cfg.err ⟨nd,wn,bs,st,cp,rm,fl,vs⟩ = 0):=fun hv hs =>
  Cfg.err_ok ⟨inB_true h1,inB_true h2,inB_true h3,inB_true h4,inB_true h5,inB_true h6,inB_true h7,by simpa using h8,hv,hs⟩
 have HB : Hid (∀ j,j < vs.length → inB (nth vs j) 0 9 = false → Cfg.err ⟨nd,wn,bs,st,cp,rm,fl,vs⟩ = 22):=fun j hj hb =>
  Cfg.err_bad fun hok => by
   have q : 0 ≤ nth vs j ∧ nth vs j ≤ 9:=hok.fine j hj;have:=inB_false hb;omega
 have HZ : Hid (sumOf vs vs.length = 0 → Cfg.err ⟨nd,wn,bs,st,cp,rm,fl,vs⟩ = 22):=fun hz => Cfg.err_bad fun hok => hok.sum hz
 unfold cfgV cfgO;go_enter Tryz.func10,Tryz.ntmps10;go_wp2_with (go_at_call 31;refine (within_any _ _ _ _).mono ?_;rintro e w' ⟨rfl,rfl⟩);clear h1 h2 h3 h4 h5 h6 h7 h8;go_loop [5,67] (fun t i => ∃ k : Nat,k ≤ vs.length ∧ i = .int .i64 k ∧ t = .int .i64 (sumOf vs k) ∧ Hid (VFine vs k)) (fun _ i => vs.length - (intOf i).toNat)
 case atStart => exact ⟨0,Nat.zero_le _,rfl,rfl,VFine.zero vs⟩
 case round =>
  obtain ⟨k,hk,rfl,rfl,hfine⟩:=hrel;have b1:=sumOf_bound hfine.out k (Nat.le_refl _)
  by_cases hlt : k < vs.length
  ·obtain ⟨ad,rfl,hb,hc⟩:=h.at_ hlt
   have hc' : ∀ o,(w.alloc o).cell? (ad.add k) = some (.int .i64 (nth vs k)):=fun o => (World.cell?_alloc_lt w o _ (by rw [block_of_add];exact hb)).trans hc
   cases hv : inB (nth vs k) 0 9
   ·have he:=hide (HB.out k hlt hv)
    go_wp2_with (go_at_call 31;refine (within_any _ _ _ _).mono ?_;rintro e w' ⟨rfl,rfl⟩);go_ret;exact ⟨ret_int he.out.symm,rfl⟩
   ·have hf:=hide (hfine.out.succ (inB_true hv).1 (inB_true hv).2)
    have v1:=inB_true hv;go_wp2_with (go_at_call 31;refine (within_any _ _ _ _).mono ?_;rintro e w' ⟨rfl,rfl⟩);go_round
    case rel => exact ⟨k + 1,by omega,by go_num,rfl,hf⟩
    case measure => simp [intOf];omega
  ·obtain rfl : k = vs.length:=by omega
   by_cases hz : sumOf vs vs.length = 0
   ·have hb:=hide (HZ.out hz)
    have hz' : (sumOf vs vs.length == 0) = true:=by simp [hz]
    clear hz;go_wp2;go_ret;exact ⟨ret_int hb.out.symm,rfl⟩
   ·have hb:=hide (HC.out hfine.out hz)
    have hz' : (sumOf vs vs.length == 0) = false:=by simp [hz]
    go_wp2;go_ret;exact ⟨ret_int hb.out.symm,rfl⟩
theorem check_any (nd wn bs st cp rm fl : Int) (vs : List Int) (A : Option Addr) (n k : Nat) (w : World) (h : RI w w.heap.size A n vs) (hn : n ≤ 17592186044416) :
  Calls Tryz.prog 10 #[cfgV ⟨nd,wn,bs,st,cp,rm,fl,vs⟩ A n k] w fun e w' => e = .returned (.int .i64 (Cfg.err ⟨nd,wn,bs,st,cp,rm,fl,vs⟩)) ∧ w.alloc (cfgO ⟨nd,wn,bs,st,cp,rm,fl,vs⟩ A n k) = w':=by
 have hl:=h.len;have bad : ¬ Cfg.Ok ⟨nd,wn,bs,st,cp,rm,fl,vs⟩ → Cfg.err ⟨nd,wn,bs,st,cp,rm,fl,vs⟩ = 22:=Cfg.err_bad
 cases h1 : inB nd 1 16
 ·rw [bad (fun hok => by have q : 1 ≤ nd ∧ nd ≤ 16:=hok.nodes;have:=inB_false h1;omega)];exact check_bad1 nd wn bs st cp rm fl vs A n k w h1
 cases h2 : inB wn 1 8
 ·rw [bad (fun hok => by have q : 1 ≤ wn ∧ wn ≤ 8:=hok.window;have:=inB_false h2;omega)];exact check_bad2 nd wn bs st cp rm fl vs A n k w h1 h2
 cases h3 : inB cp 1 64
 ·rw [bad (fun hok => by have q : 1 ≤ cp ∧ cp ≤ 64:=hok.cap;have:=inB_false h3;omega)];exact check_bad3 nd wn bs st cp rm fl vs A n k w h1 h2 h3
 cases h4 : inB bs 1 cp
 ·rw [bad (fun hok => by have q : 1 ≤ bs ∧ bs ≤ cp:=hok.base;have:=inB_false h4;omega)];exact check_bad4 nd wn bs st cp rm fl vs A n k w h1 h2 h3 h4
 cases h5 : inB st 1 cp
 ·rw [bad (fun hok => by have q : 1 ≤ st ∧ st ≤ cp:=hok.step;have:=inB_false h5;omega)];exact check_bad5 nd wn bs st cp rm fl vs A n k w h1 h2 h3 h4 h5
 cases h6 : inB rm 1 20000
 ·rw [bad (fun hok => by have q : 1 ≤ rm ∧ rm ≤ 20000:=hok.room;have:=inB_false h6;omega)];exact check_bad6 nd wn bs st cp rm fl vs A n k w h1 h2 h3 h4 h5 h6
 cases h7 : inB fl 0 4611686018427387904
 ·rw [bad (fun hok => by have q : 0 ≤ fl ∧ fl ≤ 4611686018427387904:=hok.floor;have:=inB_false h7;omega)];exact check_bad7 nd wn bs st cp rm fl vs A n k w h1 h2 h3 h4 h5 h6 h7
 cases h8 : ((n : Int) == nd)
 ·rw [bad (fun hok => by have q : (vs.length : Int) = nd:=hok.len;simp at h8;omega)];exact check_bad8 nd wn bs st cp rm fl vs A n k w h1 h2 h3 h4 h5 h6 h7 h8
 have h16:=inB_true h1;have hn' : n ≤ 16:=by simp at h8;omega
 exact check_late nd wn bs st cp rm fl vs A n k w h hn' h1 h2 h3 h4 h5 h6 h7 h8
end Go.Proofs.YtcibcmfaebbhnaaGreatDoor
