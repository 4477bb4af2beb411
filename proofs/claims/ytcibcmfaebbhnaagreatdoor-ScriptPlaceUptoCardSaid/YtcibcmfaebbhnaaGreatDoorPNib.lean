/-
  An event in memory; a line's words in memory. Digits of a string's own form: the program's nibble, the reference's hex; what is read of what was quoted.
-/
import Derived.Test.YtcibcmfaebbhnaaGreatDoorPRb
import Derived.Test.YtcibcmfaebbhnaaGreatDoorPHdr
import Derived.Test.YtcibcmfaebbhnaaGreatDoorPRead
set_option linter.unusedSimpArgs false
set_option linter.unusedVariables false
set_option maxRecDepth 100000

namespace Go.Proofs.YtcibcmfaebbhnaaGreatDoor
open Go.RowKit Go.WideShapes Go.ChangeShapes Q
structure Em where
 (kd a b n : Int)
 Ab : Option Addr
 (nb cb : Nat)
 bd : List UInt8
 (cl cn rq op : Int)
 (key val old : ByteArray)
 As : Option Addr
 (ns cs' : Nat)
 sd : List Int
def Em.cs (m : Em) : Array Value:=#[.int .i64 m.kd,.int .i64 m.a,.int .i64 m.b,.int .i64 m.n,.slice m.Ab m.nb m.cb,.int .i64 m.cl,.int .i64 m.cn,.int .i64 m.rq,.int .i64 m.op,.string m.key,.string m.val,.string m.old,.slice m.As m.ns m.cs']
def Em.ev (m : Em) : Ev:=⟨m.kd,m.a,m.b,m.n,m.cl,m.cn,m.rq,m.op,m.key.data.toList,m.val.data.toList,m.old.data.toList,m.bd,m.sd⟩
def Em.zero : Em:=⟨0,0,0,0,none,0,0,[],0,0,0,0,⟨#[]⟩,⟨#[]⟩,⟨#[]⟩,none,0,0,[]⟩
theorem em_size (m : Em) : m.cs.size = 13:=rfl
theorem zero_ev : Em.zero.ev = Ev.zero:=rfl
structure EmIn (w : World) (B : Nat) (m : Em) : Prop where
 sid : RI w B m.As m.ns m.sd
 body : Reads w B 1 m.Ab m.nb (Lib.byteCells m.bd)
 hs : m.ns ≤ 17592186044416
 hb : m.nb ≤ 140737488351232
structure EmU (w : World) (b : Nat) (m : Em) : Prop where
 sid : w.ownsRow b 3 1 (.slice m.As m.ns m.cs') m.ns (ints m.sd)
 body : RB w b m.Ab m.nb m.bd
 hs : m.ns ≤ 100000000
 hb : m.nb ≤ 100000000
section
variable {w w' : World} {g b B : Nat} {t : TypeId} {cs : Array Value} {m : Em}
theorem EmU.inn (h : EmU w b m) : EmIn w w.heap.size m:=⟨Reads.of_own h.sid,h.body.reads,by have:=h.hs;omega,by have:=h.hb;omega⟩
theorem EmIn.below (h : EmIn w B m) (hb : Below B w w') : EmIn w' B m:=⟨Reads.below h.sid hb,h.body.below hb,h.hs,h.hb⟩
theorem EmU.step (h : EmU w b m) (hb : Below w.heap.size w w') : EmU w' b m:=⟨own_step h.sid hb,h.body.step hb,h.hs,h.hb⟩
theorem EmU.base {b' : Nat} (h : EmU w b m) (hb : b' ≤ b) : EmU w b' m:=⟨own_base h.sid hb,h.body.base hb,h.hs,h.hb⟩
theorem EmU.drew (h : EmU w b m) : EmU w.drew b m:=⟨h.sid,h.body,h.hs,h.hb⟩
theorem EmU.alloc (h : EmU w b m) (o : Obj) : EmU (w.alloc o) b m:=h.step ((Below.refl _ _).alloc (Nat.le_refl _) o)
theorem EmU.zero (w : World) (b : Nat) : EmU w b Em.zero:=⟨World.ownsRow_nil _ _ _ _,RB.nil _ _ _,Nat.zero_le _,Nat.zero_le _⟩
theorem EmU.push {b' n s : Nat} {e : TypeId} {v : Value} {xs : List Value} (h : EmU w b m) (h' : w.ownsRow b' e s v n xs) (h3 : e ≠ 3) (h5 : e ≠ 5) (hg : w.grownBy w' v.ownBlock) : EmU w' b m :=
 ⟨own_kept h.sid h' (fun e => h3 e.symm) hg,h.body.grown h' h5 hg,h.hs,h.hb⟩
theorem EmU.far (h : EmU w b m) (hg : Blk w g t cs) (h2 : t ≠ 3) (h3 : t ≠ 5) (ho : Only (fun q => q = g) w w') : EmU w' b m:=by
 refine ⟨own_apart h.sid ho ?_,h.body.only ho ?_,h.hs,h.hb⟩
 ·intro k hk hq
  subst hq;exact ⟨t,cs,hg,h2⟩
 rintro k c fr hk rfl;have:=hk.symm.trans hg;injection this with this
 injection this with _ ht
 exact h3 ht.symm
end
def EvP (f : Ev) (b : Nat) (w : World) (e : Ending) (w' : World) : Prop:=∃ m : Em,e = .returned (.agg m.cs) ∧ m.ev = f ∧ EmU w' b m ∧ Below w.heap.size w w'
def EvB (f : Option Ev) (b : Nat) (w : World) (e : Ending) (w' : World) : Prop:=∃ (m : Em) (ok : Bool),e = .returned (.tuple #[.agg m.cs,.bool ok]) ∧ EmU w' b m ∧ Below w.heap.size w w' ∧ (ok = true → f = some m.ev) ∧ (ok = false → f = none)
theorem ld29 (cs : Array Value) (h : cs.size = 13) : (Tryz.prog.info? 33).map (·.size) = some cs.size:=by rw [h];kernel_rfl
theorem ecs_all (m : Em) : m.cs.all (·.oneCell') = true:=by simp [Em.cs,Value.oneCell']
theorem ecs_one (m : Em) : ∀ u ∈ m.cs.toList,u.oneCell' = true:=fun u hu => (Array.all_eq_true_iff_forall_mem.1 (ecs_all m)) u (by simpa using hu)
section
variable {w : World} {g : Nat} {m : Em}
theorem ebox_all (h : Blk w g 33 m.cs) : ∀ j v,m.cs[j]? = some v → w.cell? ((⟨g,0,none⟩ : Addr).add j) = some v:=by
 intro j v hv
 have e2 : (⟨g,0,none⟩ : Addr).add j = ⟨g,j,none⟩:=by
  unfold Addr.add
  split
  ·rename_i h0;subst h0;rfl
  ·simp
 rw [e2,h.cell j,hv]
theorem run_load29 (h : Blk w g 33 m.cs) : (loadVar 33 ⟨g,0,none⟩).run Tryz.prog w = .ok (.agg m.cs) w:=run_load_at w ⟨g,0,none⟩ 33 m.cs _ Tryz.underlying33 rfl (ld29 _ (em_size _)) (ebox_all h)
theorem results_29 {fn : Func} {p : Tmp} (h : fn.results = #[.cell p 33]) (tmps : Array Value) (hp : tmps.getD p undef = .pointer (some ⟨g,0,none⟩)) (hb : Blk w g 33 m.cs) : (results fn tmps).run Tryz.prog w = .ok (.agg m.cs) w:=by
 have h0 : (results fn tmps).run Tryz.prog w = ((asAddr (tmps.getD p undef)).run Tryz.prog w).andThen fun a w₁ => (loadVar 33 a).run Tryz.prog w₁:=by
  simp only [results,h];simp [Sem.run_bind,Result.andThen]
 rw [h0,hp];have h1:=run_load29 hb;simp [Result.andThen,asAddr,h1]
theorem results_29b {fn : Func} {p u : Tmp} (h : fn.results = #[.cell p 33,.tmp u]) (tmps : Array Value) (hp : tmps.getD p undef = .pointer (some ⟨g,0,none⟩)) (hb : Blk w g 33 m.cs) {v : Value} (hv : tmps.getD u undef = v) : (results fn tmps).run Tryz.prog w = .ok (.tuple #[.agg m.cs,v]) w:=by
 rw [results_cell_tmp h,hp,hv];have h1:=run_load29 hb;simp [Result.andThen,asAddr,h1]
end
section
variable {w : World} {g : Nat} {m : Em}
theorem eb0 (h : Blk w g 33 m.cs) : w.cell? ⟨g,0,none⟩ = some (.int .i64 m.kd):=h.cell 0
theorem eb1 (h : Blk w g 33 m.cs) : w.cell? ⟨g,1,none⟩ = some (.int .i64 m.a):=h.cell 1
theorem eb2 (h : Blk w g 33 m.cs) : w.cell? ⟨g,2,none⟩ = some (.int .i64 m.b):=h.cell 2
theorem eb3 (h : Blk w g 33 m.cs) : w.cell? ⟨g,3,none⟩ = some (.int .i64 m.n):=h.cell 3
theorem eb4 (h : Blk w g 33 m.cs) : w.cell? ⟨g,4,none⟩ = some (.slice m.Ab m.nb m.cb):=h.cell 4
theorem eb8 (h : Blk w g 33 m.cs) : w.cell? ⟨g,8,none⟩ = some (.int .i64 m.op):=h.cell 8
theorem eb9 (h : Blk w g 33 m.cs) : w.cell? ⟨g,9,none⟩ = some (.string m.key):=h.cell 9
theorem eb10 (h : Blk w g 33 m.cs) : w.cell? ⟨g,10,none⟩ = some (.string m.val):=h.cell 10
theorem eb11 (h : Blk w g 33 m.cs) : w.cell? ⟨g,11,none⟩ = some (.string m.old):=h.cell 11
theorem eb12 (h : Blk w g 33 m.cs) : w.cell? ⟨g,12,none⟩ = some (.slice m.As m.ns m.cs'):=h.cell 12
theorem wb0 {q : Bool} {x : ByteArray} (h : Blk w g 165 #[.bool q,.string x]) : w.cell? ⟨g,0,none⟩ = some (.bool q):=h.cell 0
theorem wb1 {q : Bool} {x : ByteArray} (h : Blk w g 165 #[.bool q,.string x]) : w.cell? ⟨g,1,none⟩ = some (.string x):=h.cell 1
end
structure E2 (w W : World) (b p r : Nat) (m : Em) : Prop where
 box : Blk W p 33 m.cs
 out : ∃ Z : Array Value,Z.size = 13 ∧ Blk W r 33 Z
 t : EmU W b m
 low : Below w.heap.size w W
 hp : w.heap.size ≤ p
 hr : w.heap.size ≤ r
 ne : p ≠ r
section
variable {w W W' : World} {b p r : Nat} {m m' : Em}
theorem E2.step (h : E2 w W b p r m) (hb : Below W.heap.size W W') : E2 w W' b p r m:=by
 obtain ⟨Z,hz,hZ⟩:=h.out;exact ⟨h.box.below hb h.box.lt,⟨Z,hz,hZ.below hb hZ.lt⟩,h.t.step hb,h.low.trans (hb.mono h.low.size),h.hp,h.hr,h.ne⟩
theorem E2.drew (h : E2 w W b p r m) : E2 w W.drew b p r m:=h.step (below_drewN (Below.refl _ _) 1)
theorem E2.turn (h : E2 w W b p r m) (hW : Only (fun q => q = p) W W') (hbox : Blk W' p 33 m'.cs) (ht : EmU W' b m') : E2 w W' b p r m':=by
 obtain ⟨Z,hz,hZ⟩:=h.out;exact ⟨hbox,⟨Z,hz,hZ.only hW (fun e => h.ne e.symm)⟩,ht,h.low.trans (hW.below h.low.size (fun k hk e => by have:=h.hp;omega)),h.hp,h.hr,h.ne⟩
theorem E2.set (h : E2 w W b p r m) (i : Nat) (v : Value) (hc : m.cs.setIfInBounds i v = m'.cs) (ht : EmU W b m') : E2 w (W.setCell ⟨p,i,none⟩ v) b p r m' :=
 h.turn (only_setCell0 _ _ _ _) (hc ▸ h.box.set_ i v) (ht.far h.box (by decide) (by decide) (only_setCell0 _ _ _ _))
theorem E2.put (h : E2 w W b p r m) (ht : EmU W b m') : E2 w (W.setRow p m'.cs) b p r m' :=
 h.turn (only_setRow _ _ _) (h.box.row _) (ht.far h.box (by decide) (by decide) (only_setRow _ _ _))
theorem E2.fin {f : Option Ev} {ok : Bool} (h : E2 w W b p r m) (h1 : ok = true → f = some m.ev) (h2 : ok = false → f = none) : EvB f b w (.returned (.tuple #[.agg m.cs,.bool ok])) (W.setRow r m.cs):=by
 obtain ⟨Z,hz,hZ⟩:=h.out;have hW:=only_setRow W r m.cs;exact ⟨m,ok,rfl,h.t.far hZ (by decide) (by decide) hW,h.low.trans (hW.below h.low.size (fun k hk e => by have:=h.hr;omega)),h1,h2⟩
theorem E2.word {g : Nat} {cs : Array Value} {i : Nat} {v : Value} (h : E2 w W b p r m) (hb : Blk W g 165 cs) : Blk (W.setCell ⟨p,i,none⟩ v) g 165 cs:=hb.far (by
 rintro rfl;exact Blk.ne_ hb h.box (by decide) rfl) _
end
theorem eput_zero (Z : Array Value) (h : Z.size = 13) (m : Em) : putAt Z 0 m.cs = m.cs:=by
 unfold putAt;have h1 : Z.toList.drop (0 + m.cs.size) = []:=List.drop_eq_nil_of_le (by rw [em_size,Array.length_toList,h];omega);rw [h1];simp
theorem eset_a (m : Em) (x : Int) : m.cs.setIfInBounds 1 (.int .i64 x) = ({ m with a:=x } : Em).cs:=rfl
theorem eset_b (m : Em) (x : Int) : m.cs.setIfInBounds 2 (.int .i64 x) = ({ m with b:=x } : Em).cs:=rfl
theorem eset_n (m : Em) (x : Int) : m.cs.setIfInBounds 3 (.int .i64 x) = ({ m with n:=x } : Em).cs:=rfl
theorem eset_bd (m : Em) (A : Option Addr) (n c : Nat) (l : List UInt8) : m.cs.setIfInBounds 4 (.slice A n c) = ({ m with Ab:=A,nb:=n,cb:=c,bd:=l } : Em).cs:=rfl
theorem eset_op (m : Em) (x : Int) : m.cs.setIfInBounds 8 (.int .i64 x) = ({ m with op:=x } : Em).cs:=rfl
theorem eset_key (m : Em) (x : ByteArray) : m.cs.setIfInBounds 9 (.string x) = ({ m with key:=x } : Em).cs:=rfl
theorem eset_val (m : Em) (x : ByteArray) : m.cs.setIfInBounds 10 (.string x) = ({ m with val:=x } : Em).cs:=rfl
theorem eset_old (m : Em) (x : ByteArray) : m.cs.setIfInBounds 11 (.string x) = ({ m with old:=x } : Em).cs:=rfl
theorem eset_sd (m : Em) (A : Option Addr) (n c : Nat) (l : List Int) : m.cs.setIfInBounds 12 (.slice A n c) = ({ m with As:=A,ns:=n,cs':=c,sd:=l } : Em).cs:=rfl
def rwc (l : List Wd) : List Value:=l.flatMap fun d => [.bool d.2,.string (S d.1)]
def pwc (l : List Wd) : List Value:=l.flatMap fun d => [.string (S d.1),.bool d.2]
theorem rwc_snoc (l : List Wd) (d : Wd) : rwc (l ++ [d]) = rwc l ++ [.bool d.2,.string (S d.1)]:=by simp [rwc]
theorem pwc_snoc (l : List Wd) (d : Wd) : pwc (l ++ [d]) = pwc l ++ [.string (S d.1),.bool d.2]:=by simp [pwc]
theorem two_at {f g : Wd → Value} : ∀ (l : List Wd) (k : Nat) (d : Wd),l[k]? = some d → (l.flatMap fun d => [f d,g d])[2 * k]? = some (f d) ∧ (l.flatMap fun d => [f d,g d])[2 * k + 1]? = some (g d)
 | a :: l,0,d,h => by
  obtain rfl : a = d:=by simpa using h
  exact ⟨rfl,rfl⟩
 | a :: l,k + 1,d,h => by
  have h1:=two_at (f:=f) (g:=g) l k d (by simpa using h);simp only [List.flatMap_cons,List.cons_append,List.nil_append];rw [show 2 * (k + 1) = 2 * k + 1 + 1 by omega];exact ⟨by simpa using h1.1,by simpa using h1.2⟩
def WdsP (t : TypeId) (cells : List Wd → List Value) (f : Option (List Wd)) (w : World) (e : Ending) (w' : World) : Prop:=∃ (A : Option Addr) (c : Nat) (ws : List Wd) (ok : Bool),e = .returned (.tuple #[.slice A ws.length c,.bool ok]) ∧
 w'.ownsRow w.heap.size t 2 (.slice A ws.length c) ws.length (cells ws) ∧ Below w.heap.size w w' ∧ (ok = true → f = some ws) ∧ (ok = false → f = none)
def unqA (l : List UInt8) (k : Nat) : Option (List UInt8 × Nat):=if l[k]? = some 34 then (unq (l.drop (k + 1))).map fun p => (p.1,l.length - p.2.length) else none
theorem bdrop {s : ByteArray} {j : Nat} (h : j < s.size) : s.data.toList.drop j = s[j] :: s.data.toList.drop (j + 1):=by
 rw [List.drop_eq_getElem_cons (by rw [str_len];exact h)]
 rfl
def nibZ (c : UInt8) : Int:=match nib c with | some x => (x : Int) | none => -1
theorem nibble_any (c : UInt8) (w : World) : Calls Tryz.prog 102 #[.int .u8 (c.toNat : Int)] w fun e w' => e = .returned (.int .i64 (nibZ c)) ∧ w = w':=by
 have hlt : c.toNat < 256:=c.toNat_lt
 by_cases h1 : 48 ≤ c.toNat ∧ c.toNat ≤ 57
 ·have hn : Hid (nibZ c = (c.toNat : Int) - 48):=by
   show _ = _;unfold nibZ nib;rw [if_pos h1];simp only;omega
  have d1 : decide ((48 : Int) ≤ (c.toNat : Int)) = true:=decide_eq_true (by omega);have d2 : decide ((c.toNat : Int) ≤ 57) = true:=decide_eq_true (by omega);have k1 : (48 : Int) ≤ (c.toNat : Int):=by omega
  have k2 : (c.toNat : Int) ≤ 57:=by omega
  have hw : IntKind.u8.wrap ((c.toNat : Int) - 48) = (c.toNat : Int) - 48:=u8_wrap _ (by omega) (by omega);clear h1;go_enter Tryz.func102,Tryz.ntmps102;go_wp2_with fail;go_ret;refine ⟨?_,rfl⟩;rw [hn.out];exact ret_int (by omega)
 ·by_cases h2 : 97 ≤ c.toNat ∧ c.toNat ≤ 102
  ·have hn : Hid (nibZ c = (c.toNat : Int) - 87):=by
    show _ = _;unfold nibZ nib;rw [if_neg h1,if_pos h2];simp only;omega
   have k1 : (48 : Int) ≤ (c.toNat : Int):=by omega
   have k2 : ¬ (c.toNat : Int) ≤ 57:=by omega
   have k3 : (97 : Int) ≤ (c.toNat : Int):=by omega
   have k4 : (c.toNat : Int) ≤ 102:=by omega
   have hw : IntKind.u8.wrap ((c.toNat : Int) - 97) = (c.toNat : Int) - 97:=u8_wrap _ (by omega) (by omega);clear h1 h2;go_enter Tryz.func102,Tryz.ntmps102;go_wp2_with fail;go_ret;refine ⟨?_,rfl⟩;rw [hn.out];exact ret_int (by omega)
  ·have hn : Hid (nibZ c = -1):=by
    show _ = _;unfold nibZ nib;rw [if_neg h1,if_neg h2]
   have g1 : ¬ ((48 : Int) ≤ (c.toNat : Int) ∧ (c.toNat : Int) ≤ 57):=by omega
   have g2 : ¬ ((97 : Int) ≤ (c.toNat : Int) ∧ (c.toNat : Int) ≤ 102):=by omega
   clear h1 h2;go_enter Tryz.func102,Tryz.ntmps102;go_wp2_with fail
   all_goals try (exfalso;omega)
   all_goals go_ret
   all_goals exact ⟨by rw [hn.out];exact ret_int rfl,rfl⟩
theorem hex_any (c : UInt8) (w : World) : Calls Tryz.prog 104 #[.int .u8 (c.toNat : Int)] w fun e w' => e = .returned (.int .i64 (nibZ c)) ∧ w = w':=by
 have hlt : c.toNat < 256:=c.toNat_lt
 by_cases h1 : 48 ≤ c.toNat ∧ c.toNat ≤ 57
 ·have hn : Hid (nibZ c = (c.toNat : Int) - 48):=by
   show _ = _;unfold nibZ nib;rw [if_pos h1];simp only;omega
  have d1 : decide ((48 : Int) ≤ (c.toNat : Int)) = true:=decide_eq_true (by omega);have d2 : decide ((c.toNat : Int) ≤ 57) = true:=decide_eq_true (by omega);have k1 : (48 : Int) ≤ (c.toNat : Int):=by omega
  have k2 : (c.toNat : Int) ≤ 57:=by omega
  have hw : IntKind.u8.wrap ((c.toNat : Int) - 48) = (c.toNat : Int) - 48:=u8_wrap _ (by omega) (by omega);clear h1;go_enter Tryz.func104,Tryz.ntmps104;go_wp2_with fail;go_ret;refine ⟨?_,rfl⟩;rw [hn.out];exact ret_int (by omega)
 ·by_cases h2 : 97 ≤ c.toNat ∧ c.toNat ≤ 102
  ·have hn : Hid (nibZ c = (c.toNat : Int) - 87):=by
    show _ = _;unfold nibZ nib;rw [if_neg h1,if_pos h2];simp only;omega
   have k1 : (48 : Int) ≤ (c.toNat : Int):=by omega
   have k2 : ¬ (c.toNat : Int) ≤ 57:=by omega
   have k3 : (97 : Int) ≤ (c.toNat : Int):=by omega
   have k4 : (c.toNat : Int) ≤ 102:=by omega
   have hw : IntKind.u8.wrap ((c.toNat : Int) - 97) = (c.toNat : Int) - 97:=u8_wrap _ (by omega) (by omega);clear h1 h2;go_enter Tryz.func104,Tryz.ntmps104;go_wp2_with fail;go_ret;refine ⟨?_,rfl⟩;rw [hn.out];exact ret_int (by omega)
  ·have hn : Hid (nibZ c = -1):=by
    show _ = _;unfold nibZ nib;rw [if_neg h1,if_neg h2]
   have g1 : ¬ ((48 : Int) ≤ (c.toNat : Int) ∧ (c.toNat : Int) ≤ 57):=by omega
   have g2 : ¬ ((97 : Int) ≤ (c.toNat : Int) ∧ (c.toNat : Int) ≤ 102):=by omega
   clear h1 h2;go_enter Tryz.func104,Tryz.ntmps104;go_wp2_with fail
   all_goals try (exfalso;omega)
   all_goals go_ret
   all_goals exact ⟨by rw [hn.out];exact ret_int rfl,rfl⟩
end Go.Proofs.YtcibcmfaebbhnaaGreatDoor
