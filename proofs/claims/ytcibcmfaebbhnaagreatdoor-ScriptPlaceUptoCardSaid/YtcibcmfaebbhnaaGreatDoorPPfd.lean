/-
  The program's field: what a letter of a form names. (Printed by wip/tools/mkpfd.py.)
-/
import Derived.Test.YtcibcmfaebbhnaaGreatDoorPPcm
import Derived.Test.YtcibcmfaebbhnaaGreatDoorPWords
set_option linter.unusedSimpArgs false
set_option linter.unusedVariables false
set_option maxRecDepth 100000
set_option maxHeartbeats 3000000

namespace Go.Proofs.YtcibcmfaebbhnaaGreatDoor
open Go.RowKit Go.WideShapes Go.ChangeShapes Q
def FdF (w : World) (b r q : Nat) : Prop:=q = r ∨ (b ≤ q ∧ ∃ cs,Blk w q 3 cs)
theorem fd_of {w w' : World} {b r : Nat} (h : Only (fun q => q = r) w w') : Only (FdF w b r) w w':=h.mono fun k _ e => .inl e
theorem fd_trans {w w1 w' : World} {b r : Nat} (h : Only (FdF w b r) w w1) (h' : Only (FdF w1 b r) w1 w') : Only (FdF w b r) w w':=by
 refine h.trans' h' ?_;intro k hk hf
 rcases hf with e | ⟨hbk,cs,hb⟩
 ·exact .inl e
 ·rcases Classical.em (FdF w b r k) with h1 | h1
  ·exact h1
  ·refine .inr ⟨hbk,cs,?_⟩
   have:=h.block k hk h1;unfold Blk at hb ⊢;rw [← this];exact hb
theorem fd_grown {w w' : World} {r b n : Nat} {v : Value} {xs : List Value} (ho : w.ownsRow b 3 1 v n xs) (hg : w.grownBy w' v.ownBlock) : Only (FdF w b r) w w':=by
 refine Only.of_grown hg ?_;intro g hv _
 rcases ho.2 with ⟨rfl,_⟩ | ⟨g',cap,cur,rfl,hb,hk,_⟩
 ·cases hv
 ·obtain rfl : g' = g:=by simpa [Value.ownBlock] using hv
  exact .inr ⟨hb,cur,hk⟩
theorem fd_low {w w' : World} {b r : Nat} (h : Only (FdF w b r) w w') (hb : b ≤ w.heap.size) (hr : b ≤ r) : Below b w w':=h.below hb (fun q hq hf => by
 rcases hf with e | ⟨h1,_⟩ <;> omega)
def FdP (N : Nat) (ch : UInt8) (ws : List Wd) (b r : Nat) (nodes : Int) (m : Em) (w : World) (e : Ending) (w' : World) : Prop:=∃ (A : Option Addr) (c : Nat) (ok : Bool) (ws' : List Wd) (m' : Em),e = .returned (.bool ok) ∧ Rd w' b r A c nodes ws' m' ∧ Only (FdF w b r) w w' ∧
 (ok = true → fieldP N ch ws m.ev = some (ws',m'.ev) ∧ ∃ l,ws = l ++ ws') ∧ (ok = false → fieldP N ch ws m.ev = none)
theorem num_suf {lo hi x : Nat} {ws ws' : List Wd} (h : numP lo hi ws = some (x,ws')) : ∃ l,ws = l ++ ws':=by
 obtain ⟨⟨d,rfl⟩,_⟩:=numP_tail h;exact ⟨[d],rfl⟩
theorem txt_suf {k : Nat} {t : List UInt8} {ws ws' : List Wd} (h : txtP k ws = some (t,ws')) : ∃ l,ws = l ++ ws':=by
 obtain ⟨⟨d,rfl⟩,_⟩:=txtP_tail h;exact ⟨[d],rfl⟩
theorem field_P (N : Nat) (ws : List Wd) (b r : Nat) (A : Option Addr) (c : Nat) (m : Em) (w : World) (h : Rd w b r A c (N : Int) ws m) (hN : 1 ≤ N ∧ N ≤ 16) (hl : ws.length ≤ 90000000) (hz : ∀ d ∈ ws,d.1.length ≤ 100000000) :
  Calls Tryz.prog 64 #[.pointer (some ⟨r,0,none⟩),.int .i32 80] w fun e w' => FdP N 80 ws b r (N : Int) m w e w':=by
 obtain ⟨M,hM⟩ : ∃ M,M = N - 1:=⟨_,rfl⟩;have hMN : (N : Int) - 1 = (M : Int):=by omega
 have wM : IntKind.i64.wrap ((N : Int) - 1) = (M : Int):=by rw [hMN];exact i64_wrap _ (by omega) (by omega)
 have wM2 : IntKind.i64.wrap (M : Int) = (M : Int):=i64_wrap _ (by omega) (by omega);have cN:=h.c1;have HNU : Hid (Calls Tryz.prog 80 #[.pointer (some ⟨r,0,none⟩),.int .i64 0,.int .i64 (M : Int)] w fun e w' => NuP 0 M ws b r (N : Int) m w e w'):=number_any 0 M ws b r A c (N : Int) m w h hl hz
 have HF : Hid (fieldP N 80 ws m.ev = match numP 0 M ws with | some (x,r) => some (r,{ m.ev with a:=(x : Int) }) | none => none):=by
  show _ = _;rw [hM]
  rfl
 clear h hl hz hN hM;go_enter Tryz.func64,Tryz.ntmps64;go_upto_region 31 with (go_at_call 80;refine HNU.out.mono ?_;rintro e w2 ⟨A2,c2,v,ok,ws2,rfl,hr2,ho2,h1,h2⟩;have HR2:=hide hr2;have HO2:=hide ho2;have H1:=hide h1;have H2:=hide h2;have c9:=HR2.out.ca;have f9:=Blk.frozen HR2.out.box 3;clear hr2 ho2 h1 h2)
 obtain ⟨W3,hW3⟩ : ∃ W3,W3 = w2.setCell ⟨r,3,none⟩ (.int .i64 v):=⟨_,rfl⟩
 have HR3 : Hid (Rd W3 b r A2 c2 (N : Int) ws2 { m with a:=v }):=by
  show Rd _ _ _ _ _ _ _ _;rw [hW3];exact HR2.out.set 3 _ (rset_a _ _ _ _ _ _) (emu_with HR2.out.t rfl rfl rfl rfl rfl rfl rfl)
 have HO3 : Hid (Only (FdF w b r) w W3):=by
  show Only _ _ _;rw [hW3];exact fd_of (b:=b) (HO2.out.trans (only_setCell0 _ _ _ _))
 rw [← hW3];clear hW3 c9 f9
 cases ok with
 | false =>
  have HN : Hid (fieldP N 80 ws m.ev = none):=by
   show _ = _;rw [HF.out,H2.out rfl]
  go_wp2_with fail;go_ret;exact ⟨A2,c2,false,ws2,_,rfl,HR3.out,HO3.out,(fun h => by cases h),fun _ => HN.out⟩
 | true =>
  obtain ⟨x,hx,hnx⟩:=H1.out rfl;subst hx
  have HN : Hid (fieldP N 80 ws m.ev = some (ws2,{ m.ev with a:=(x : Int) })):=by
   show _ = _;rw [HF.out,hnx]
  have HSU:=hide (num_suf hnx);clear hnx;go_wp2_with fail;go_ret;exact ⟨A2,c2,true,ws2,_,rfl,HR3.out,HO3.out,(fun _ => ⟨HN.out,HSU.out⟩),fun h => by cases h⟩
theorem field_K (N : Nat) (ws : List Wd) (b r : Nat) (A : Option Addr) (c : Nat) (m : Em) (w : World) (h : Rd w b r A c (N : Int) ws m) (hN : 1 ≤ N ∧ N ≤ 16) (hl : ws.length ≤ 90000000) (hz : ∀ d ∈ ws,d.1.length ≤ 100000000) :
  Calls Tryz.prog 64 #[.pointer (some ⟨r,0,none⟩),.int .i32 75] w fun e w' => FdP N 75 ws b r (N : Int) m w e w':=by
 have HNU : Hid (Calls Tryz.prog 80 #[.pointer (some ⟨r,0,none⟩),.int .i64 0,.int .i64 4611686018427387904] w fun e w' => NuP 0 4611686018427387904 ws b r (N : Int) m w e w'):=number_any 0 4611686018427387904 ws b r A c (N : Int) m w h hl hz
 have HF : Hid (fieldP N 75 ws m.ev = match numP 0 4611686018427387904 ws with | some (x,r) => some (r,{ m.ev with a:=(x : Int) }) | none => none):=by
  show _ = _
  skip
  rfl
 clear h hl hz hN;go_enter Tryz.func64,Tryz.ntmps64;go_upto_region 31 with (go_at_call 80;refine HNU.out.mono ?_;rintro e w2 ⟨A2,c2,v,ok,ws2,rfl,hr2,ho2,h1,h2⟩;have HR2:=hide hr2;have HO2:=hide ho2;have H1:=hide h1;have H2:=hide h2;have c9:=HR2.out.ca;have f9:=Blk.frozen HR2.out.box 3;clear hr2 ho2 h1 h2)
 obtain ⟨W3,hW3⟩ : ∃ W3,W3 = w2.setCell ⟨r,3,none⟩ (.int .i64 v):=⟨_,rfl⟩
 have HR3 : Hid (Rd W3 b r A2 c2 (N : Int) ws2 { m with a:=v }):=by
  show Rd _ _ _ _ _ _ _ _;rw [hW3];exact HR2.out.set 3 _ (rset_a _ _ _ _ _ _) (emu_with HR2.out.t rfl rfl rfl rfl rfl rfl rfl)
 have HO3 : Hid (Only (FdF w b r) w W3):=by
  show Only _ _ _;rw [hW3];exact fd_of (b:=b) (HO2.out.trans (only_setCell0 _ _ _ _))
 rw [← hW3];clear hW3 c9 f9
 cases ok with
 | false =>
  have HN : Hid (fieldP N 75 ws m.ev = none):=by
   show _ = _;rw [HF.out,H2.out rfl]
  go_wp2_with fail;go_ret;exact ⟨A2,c2,false,ws2,_,rfl,HR3.out,HO3.out,(fun h => by cases h),fun _ => HN.out⟩
 | true =>
  obtain ⟨x,hx,hnx⟩:=H1.out rfl;subst hx
  have HN : Hid (fieldP N 75 ws m.ev = some (ws2,{ m.ev with a:=(x : Int) })):=by
   show _ = _;rw [HF.out,hnx]
  have HSU:=hide (num_suf hnx);clear hnx;go_wp2_with fail;go_ret;exact ⟨A2,c2,true,ws2,_,rfl,HR3.out,HO3.out,(fun _ => ⟨HN.out,HSU.out⟩),fun h => by cases h⟩
theorem field_N (N : Nat) (ws : List Wd) (b r : Nat) (A : Option Addr) (c : Nat) (m : Em) (w : World) (h : Rd w b r A c (N : Int) ws m) (hN : 1 ≤ N ∧ N ≤ 16) (hl : ws.length ≤ 90000000) (hz : ∀ d ∈ ws,d.1.length ≤ 100000000) :
  Calls Tryz.prog 64 #[.pointer (some ⟨r,0,none⟩),.int .i32 78] w fun e w' => FdP N 78 ws b r (N : Int) m w e w':=by
 have HNU : Hid (Calls Tryz.prog 80 #[.pointer (some ⟨r,0,none⟩),.int .i64 0,.int .i64 4611686018427387904] w fun e w' => NuP 0 4611686018427387904 ws b r (N : Int) m w e w'):=number_any 0 4611686018427387904 ws b r A c (N : Int) m w h hl hz
 have HF : Hid (fieldP N 78 ws m.ev = match numP 0 4611686018427387904 ws with | some (x,r) => some (r,{ m.ev with n:=(x : Int) }) | none => none):=by
  show _ = _
  skip
  rfl
 clear h hl hz hN;go_enter Tryz.func64,Tryz.ntmps64;go_upto_region 31 with (go_at_call 80;refine HNU.out.mono ?_;rintro e w2 ⟨A2,c2,v,ok,ws2,rfl,hr2,ho2,h1,h2⟩;have HR2:=hide hr2;have HO2:=hide ho2;have H1:=hide h1;have H2:=hide h2;have c9:=HR2.out.cn;have f9:=Blk.frozen HR2.out.box 5;clear hr2 ho2 h1 h2)
 obtain ⟨W3,hW3⟩ : ∃ W3,W3 = w2.setCell ⟨r,5,none⟩ (.int .i64 v):=⟨_,rfl⟩
 have HR3 : Hid (Rd W3 b r A2 c2 (N : Int) ws2 { m with n:=v }):=by
  show Rd _ _ _ _ _ _ _ _;rw [hW3];exact HR2.out.set 5 _ (rset_n _ _ _ _ _ _) (emu_with HR2.out.t rfl rfl rfl rfl rfl rfl rfl)
 have HO3 : Hid (Only (FdF w b r) w W3):=by
  show Only _ _ _;rw [hW3];exact fd_of (b:=b) (HO2.out.trans (only_setCell0 _ _ _ _))
 rw [← hW3];clear hW3 c9 f9
 cases ok with
 | false =>
  have HN : Hid (fieldP N 78 ws m.ev = none):=by
   show _ = _;rw [HF.out,H2.out rfl]
  go_wp2_with fail;go_ret;exact ⟨A2,c2,false,ws2,_,rfl,HR3.out,HO3.out,(fun h => by cases h),fun _ => HN.out⟩
 | true =>
  obtain ⟨x,hx,hnx⟩:=H1.out rfl;subst hx
  have HN : Hid (fieldP N 78 ws m.ev = some (ws2,{ m.ev with n:=(x : Int) })):=by
   show _ = _;rw [HF.out,hnx]
  have HSU:=hide (num_suf hnx);clear hnx;go_wp2_with fail;go_ret;exact ⟨A2,c2,true,ws2,_,rfl,HR3.out,HO3.out,(fun _ => ⟨HN.out,HSU.out⟩),fun h => by cases h⟩
theorem field_D (N : Nat) (ws : List Wd) (b r : Nat) (A : Option Addr) (c : Nat) (m : Em) (w : World) (h : Rd w b r A c (N : Int) ws m) (hN : 1 ≤ N ∧ N ≤ 16) (hl : ws.length ≤ 90000000) (hz : ∀ d ∈ ws,d.1.length ≤ 100000000) :
  Calls Tryz.prog 64 #[.pointer (some ⟨r,0,none⟩),.int .i32 68] w fun e w' => FdP N 68 ws b r (N : Int) m w e w':=by
 have HNU : Hid (Calls Tryz.prog 80 #[.pointer (some ⟨r,0,none⟩),.int .i64 1,.int .i64 16] w fun e w' => NuP 1 16 ws b r (N : Int) m w e w'):=number_any 1 16 ws b r A c (N : Int) m w h hl hz
 have HF : Hid (fieldP N 68 ws m.ev = match numP 1 16 ws with | some (x,r) => some (r,{ m.ev with n:=(x : Int) }) | none => none):=by
  show _ = _
  skip
  rfl
 clear h hl hz hN;go_enter Tryz.func64,Tryz.ntmps64;go_upto_region 31 with (go_at_call 80;refine HNU.out.mono ?_;rintro e w2 ⟨A2,c2,v,ok,ws2,rfl,hr2,ho2,h1,h2⟩;have HR2:=hide hr2;have HO2:=hide ho2;have H1:=hide h1;have H2:=hide h2;have c9:=HR2.out.cn;have f9:=Blk.frozen HR2.out.box 5;clear hr2 ho2 h1 h2)
 obtain ⟨W3,hW3⟩ : ∃ W3,W3 = w2.setCell ⟨r,5,none⟩ (.int .i64 v):=⟨_,rfl⟩
 have HR3 : Hid (Rd W3 b r A2 c2 (N : Int) ws2 { m with n:=v }):=by
  show Rd _ _ _ _ _ _ _ _;rw [hW3];exact HR2.out.set 5 _ (rset_n _ _ _ _ _ _) (emu_with HR2.out.t rfl rfl rfl rfl rfl rfl rfl)
 have HO3 : Hid (Only (FdF w b r) w W3):=by
  show Only _ _ _;rw [hW3];exact fd_of (b:=b) (HO2.out.trans (only_setCell0 _ _ _ _))
 rw [← hW3];clear hW3 c9 f9
 cases ok with
 | false =>
  have HN : Hid (fieldP N 68 ws m.ev = none):=by
   show _ = _;rw [HF.out,H2.out rfl]
  go_wp2_with fail;go_ret;exact ⟨A2,c2,false,ws2,_,rfl,HR3.out,HO3.out,(fun h => by cases h),fun _ => HN.out⟩
 | true =>
  obtain ⟨x,hx,hnx⟩:=H1.out rfl;subst hx
  have HN : Hid (fieldP N 68 ws m.ev = some (ws2,{ m.ev with n:=(x : Int) })):=by
   show _ = _;rw [HF.out,hnx]
  have HSU:=hide (num_suf hnx);clear hnx;go_wp2_with fail;go_ret;exact ⟨A2,c2,true,ws2,_,rfl,HR3.out,HO3.out,(fun _ => ⟨HN.out,HSU.out⟩),fun h => by cases h⟩
theorem field_Q (N : Nat) (ws : List Wd) (b r : Nat) (A : Option Addr) (c : Nat) (m : Em) (w : World) (h : Rd w b r A c (N : Int) ws m) (hN : 1 ≤ N ∧ N ≤ 16) (hl : ws.length ≤ 90000000) (hz : ∀ d ∈ ws,d.1.length ≤ 100000000) :
  Calls Tryz.prog 64 #[.pointer (some ⟨r,0,none⟩),.int .i32 81] w fun e w' => FdP N 81 ws b r (N : Int) m w e w':=by
 obtain ⟨M,hM⟩ : ∃ M,M = N - 1:=⟨_,rfl⟩;have hMN : (N : Int) - 1 = (M : Int):=by omega
 have wM : IntKind.i64.wrap ((N : Int) - 1) = (M : Int):=by rw [hMN];exact i64_wrap _ (by omega) (by omega)
 have wM2 : IntKind.i64.wrap (M : Int) = (M : Int):=i64_wrap _ (by omega) (by omega);have cN:=h.c1;have HNU : Hid (Calls Tryz.prog 80 #[.pointer (some ⟨r,0,none⟩),.int .i64 0,.int .i64 (M : Int)] w fun e w' => NuP 0 M ws b r (N : Int) m w e w'):=number_any 0 M ws b r A c (N : Int) m w h hl hz
 have HF : Hid (fieldP N 81 ws m.ev = match numP 0 M ws with | some (x,r) => if ¬ (x : Int) = m.ev.a then some (r,{ m.ev with b:=(x : Int) }) else none | none => none):=by
  show _ = _;rw [hM]
  rfl
 clear h hl hz hN hM;go_enter Tryz.func64,Tryz.ntmps64;go_upto_region 6 with (go_at_call 80;refine HNU.out.mono ?_;rintro e w2 ⟨A2,c2,v,ok,ws2,rfl,hr2,ho2,h1,h2⟩;have HR2:=hide hr2;have HO2:=hide ho2;have H1:=hide h1;have H2:=hide h2;have c9:=HR2.out.cb;have f9:=Blk.frozen HR2.out.box 4;clear hr2 ho2 h1 h2)
 obtain ⟨W3,hW3⟩ : ∃ W3,W3 = w2.setCell ⟨r,4,none⟩ (.int .i64 v):=⟨_,rfl⟩
 have HR3 : Hid (Rd W3 b r A2 c2 (N : Int) ws2 { m with b:=v }):=by
  show Rd _ _ _ _ _ _ _ _;rw [hW3];exact HR2.out.set 4 _ (rset_b _ _ _ _ _ _) (emu_with HR2.out.t rfl rfl rfl rfl rfl rfl rfl)
 have HO3 : Hid (Only (FdF w b r) w W3):=by
  show Only _ _ _;rw [hW3];exact fd_of (b:=b) (HO2.out.trans (only_setCell0 _ _ _ _))
 rw [← hW3];clear hW3 c9 f9
 cases ok with
 | false =>
  have HN : Hid (fieldP N 81 ws m.ev = none):=by
   show _ = _;rw [HF.out,H2.out rfl]
  have HQ3:=hide HR3.out.drew;have HO4:=hide (HO3.out.drew);refine wp_region_L [] (fun V => Rd V b r A2 c2 (N : Int) ws2 { m with b:=v }) (by kernel_rfl) ?_;refine tk 0 42 (v:=?_) rfl HQ3.out ?_ ?_
  rotate_left;· intro V hV;go_simp;try with_reducible rfl
  try simp only [Act.put,aSt,aSz,aSs]
  refine tk 1 43 (v:=?_) rfl HQ3.out ?_ ?_
  rotate_left;· intro V hV;go_simp;try with_reducible rfl
  try simp only [Act.put,aSt,aSz,aSs]
  refine tn 2 44 rfl HQ3.out ?_;try simp only [Act.put,aSt,aSz,aSs]
  refine tn 3 45 rfl HQ3.out ?_;try simp only [Act.put,aSt,aSz,aSs]
  refine tn 4 46 rfl HQ3.out ?_;try simp only [Act.put,aSt,aSz,aSs]
  refine tn 5 47 rfl HQ3.out ?_;try simp only [Act.put,aSt,aSz,aSs]
  refine tn 6 48 rfl HQ3.out ?_;try simp only [Act.put,aSt,aSz,aSs]
  refine tn 7 49 rfl HQ3.out ?_;try simp only [Act.put,aSt,aSz,aSs]
  refine tn 8 50 rfl HQ3.out ?_;try simp only [Act.put,aSt,aSz,aSs]
  refine tn 9 51 rfl HQ3.out ?_;try simp only [Act.put,aSt,aSz,aSs]
  refine tn 10 52 rfl HQ3.out ?_;try simp only [Act.put,aSt,aSz,aSs]
  refine tn 11 53 rfl HQ3.out ?_;try simp only [Act.put,aSt,aSz,aSs]
  refine tn 12 54 rfl HQ3.out ?_;try simp only [Act.put,aSt,aSz,aSs]
  refine tk 13 55 (v:=?_) rfl HQ3.out ?_ ?_
  rotate_left;· intro V hV;go_simp;try with_reducible rfl
  try simp only [Act.put,aSt,aSz,aSs]
  refine tk 14 4 (v:=?_) rfl HQ3.out ?_ ?_
  rotate_left;· intro V hV;go_simp;try with_reducible rfl
  try simp only [Act.put,aSt,aSz,aSs]
  refine wpL_done (by kernel_rfl) ?_ _;go_wp2_with fail;go_ret;exact ⟨A2,c2,false,ws2,_,rfl,HQ3.out,HO4.out,(fun h => by cases h),fun _ => HN.out⟩
 | true =>
  obtain ⟨x,hx,hnx⟩:=H1.out rfl;have HX:=hide hx;have HSU:=hide (num_suf hnx)
  by_cases hxa : v = m.a
  ·have e1 : (m.a != v) = false:=by rw [bne_eq_false_iff_eq];exact hxa.symm
   have HN : Hid (fieldP N 81 ws m.ev = none):=by
    show _ = _;rw [HF.out,hnx];simp only;rw [if_neg (show ¬ ¬ (x : Int) = m.ev.a from fun h => h (HX.out.symm.trans hxa))]
   clear hxa hnx hx;have HQ3:=hide HR3.out.drew;have HO4:=hide (HO3.out.drew);refine wp_region_L [] (fun V => Rd V b r A2 c2 (N : Int) ws2 { m with b:=v }) (by kernel_rfl) ?_;refine tk 0 42 (v:=?_) rfl HQ3.out ?_ ?_
   rotate_left;· intro V hV;go_simp;try with_reducible rfl
   try simp only [Act.put,aSt,aSz,aSs]
   refine tk 1 43 (v:=?_) rfl HQ3.out ?_ ?_
   rotate_left;· intro V hV;go_simp;try with_reducible rfl
   try simp only [Act.put,aSt,aSz,aSs]
   refine tk 2 44 (v:=?_) rfl HQ3.out ?_ ?_
   rotate_left;· intro V hV;go_simp;try with_reducible rfl
   try simp only [Act.put,aSt,aSz,aSs]
   refine tk 3 45 (v:=?_) rfl HQ3.out ?_ ?_
   rotate_left;· intro V hV;go_simp;try with_reducible rfl
   try simp only [Act.put,aSt,aSz,aSs]
   refine tk 4 46 (v:=?_) rfl HQ3.out ?_ ?_
   rotate_left;· intro V hV;go_simp;try with_reducible rfl
   try simp only [Act.put,aSt,aSz,aSs]
   refine tk 5 47 (v:=?_) rfl HQ3.out ?_ ?_
   rotate_left;· intro V hV;go_simp;try with_reducible rfl
   try simp only [Act.put,aSt,aSz,aSs]
   refine tk 6 48 (v:=?_) rfl HQ3.out ?_ ?_
   rotate_left
   ·intro V hV
    have k:=hV.ca;go_simp;try with_reducible rfl
   try simp only [Act.put,aSt,aSz,aSs]
   refine tk 7 49 (v:=?_) rfl HQ3.out ?_ ?_
   rotate_left;· intro V hV;go_simp;try with_reducible rfl
   try simp only [Act.put,aSt,aSz,aSs]
   refine tk 8 50 (v:=?_) rfl HQ3.out ?_ ?_
   rotate_left;· intro V hV;go_simp;try with_reducible rfl
   try simp only [Act.put,aSt,aSz,aSs]
   refine tk 9 51 (v:=?_) rfl HQ3.out ?_ ?_
   rotate_left;· intro V hV;go_simp;try with_reducible rfl
   try simp only [Act.put,aSt,aSz,aSs]
   refine tk 10 52 (v:=?_) rfl HQ3.out ?_ ?_
   rotate_left;· intro V hV;go_simp;try with_reducible rfl
   try simp only [Act.put,aSt,aSz,aSs]
   refine tk 11 53 (v:=?_) rfl HQ3.out ?_ ?_
   rotate_left
   ·intro V hV
    have k:=hV.cb;go_simp;try with_reducible rfl
   try simp only [Act.put,aSt,aSz,aSs]
   refine tk 12 54 (v:=?_) rfl HQ3.out ?_ ?_
   rotate_left;· intro V hV;go_simp;try with_reducible rfl
   try simp only [Act.put,aSt,aSz,aSs]
   refine tk 13 55 (v:=?_) rfl HQ3.out ?_ ?_
   rotate_left;· intro V hV;go_simp;try with_reducible rfl
   try simp only [Act.put,aSt,aSz,aSs]
   refine tk 14 4 (v:=?_) rfl HQ3.out ?_ ?_
   rotate_left;· intro V hV;go_simp;try with_reducible rfl
   try simp only [Act.put,aSt,aSz,aSs]
   refine wpL_done (by kernel_rfl) ?_ _;go_wp2_with fail;go_ret;exact ⟨A2,c2,false,ws2,_,rfl,HQ3.out,HO4.out,(fun h => by cases h),fun _ => HN.out⟩
  ·have e1 : (m.a != v) = true:=by rw [bne_iff_ne];exact fun e => hxa e.symm
   have HN : Hid (fieldP N 81 ws m.ev = some (ws2,{ m.ev with b:=v })):=by
    show _ = _;rw [HF.out,hnx];simp only;rw [if_pos (show ¬ (x : Int) = m.ev.a from fun h => hxa (HX.out.trans h)),HX.out]
   clear hxa hnx hx;have HQ3:=hide HR3.out.drew;have HO4:=hide (HO3.out.drew);refine wp_region_L [] (fun V => Rd V b r A2 c2 (N : Int) ws2 { m with b:=v }) (by kernel_rfl) ?_;refine tk 0 42 (v:=?_) rfl HQ3.out ?_ ?_
   rotate_left;· intro V hV;go_simp;try with_reducible rfl
   try simp only [Act.put,aSt,aSz,aSs]
   refine tk 1 43 (v:=?_) rfl HQ3.out ?_ ?_
   rotate_left;· intro V hV;go_simp;try with_reducible rfl
   try simp only [Act.put,aSt,aSz,aSs]
   refine tk 2 44 (v:=?_) rfl HQ3.out ?_ ?_
   rotate_left;· intro V hV;go_simp;try with_reducible rfl
   try simp only [Act.put,aSt,aSz,aSs]
   refine tk 3 45 (v:=?_) rfl HQ3.out ?_ ?_
   rotate_left;· intro V hV;go_simp;try with_reducible rfl
   try simp only [Act.put,aSt,aSz,aSs]
   refine tk 4 46 (v:=?_) rfl HQ3.out ?_ ?_
   rotate_left;· intro V hV;go_simp;try with_reducible rfl
   try simp only [Act.put,aSt,aSz,aSs]
   refine tk 5 47 (v:=?_) rfl HQ3.out ?_ ?_
   rotate_left;· intro V hV;go_simp;try with_reducible rfl
   try simp only [Act.put,aSt,aSz,aSs]
   refine tk 6 48 (v:=?_) rfl HQ3.out ?_ ?_
   rotate_left
   ·intro V hV
    have k:=hV.ca;go_simp;try with_reducible rfl
   try simp only [Act.put,aSt,aSz,aSs]
   refine tk 7 49 (v:=?_) rfl HQ3.out ?_ ?_
   rotate_left;· intro V hV;go_simp;try with_reducible rfl
   try simp only [Act.put,aSt,aSz,aSs]
   refine tk 8 50 (v:=?_) rfl HQ3.out ?_ ?_
   rotate_left;· intro V hV;go_simp;try with_reducible rfl
   try simp only [Act.put,aSt,aSz,aSs]
   refine tk 9 51 (v:=?_) rfl HQ3.out ?_ ?_
   rotate_left;· intro V hV;go_simp;try with_reducible rfl
   try simp only [Act.put,aSt,aSz,aSs]
   refine tk 10 52 (v:=?_) rfl HQ3.out ?_ ?_
   rotate_left;· intro V hV;go_simp;try with_reducible rfl
   try simp only [Act.put,aSt,aSz,aSs]
   refine tk 11 53 (v:=?_) rfl HQ3.out ?_ ?_
   rotate_left
   ·intro V hV
    have k:=hV.cb;go_simp;try with_reducible rfl
   try simp only [Act.put,aSt,aSz,aSs]
   refine tk 12 54 (v:=?_) rfl HQ3.out ?_ ?_
   rotate_left;· intro V hV;go_simp;try with_reducible rfl
   try simp only [Act.put,aSt,aSz,aSs]
   refine tk 13 55 (v:=?_) rfl HQ3.out ?_ ?_
   rotate_left;· intro V hV;go_simp;try with_reducible rfl
   try simp only [Act.put,aSt,aSz,aSs]
   refine tk 14 4 (v:=?_) rfl HQ3.out ?_ ?_
   rotate_left;· intro V hV;go_simp;try with_reducible rfl
   try simp only [Act.put,aSt,aSz,aSs]
   refine wpL_done (by kernel_rfl) ?_ _;go_wp2_with fail;go_ret;exact ⟨A2,c2,true,ws2,_,rfl,HQ3.out,HO4.out,(fun _ => ⟨HN.out,HSU.out⟩),fun h => by cases h⟩
theorem field_T (N : Nat) (ws : List Wd) (b r : Nat) (A : Option Addr) (c : Nat) (m : Em) (w : World) (h : Rd w b r A c (N : Int) ws m) (hN : 1 ≤ N ∧ N ≤ 16) (hl : ws.length ≤ 90000000) (hz : ∀ d ∈ ws,d.1.length ≤ 100000000) :
  Calls Tryz.prog 64 #[.pointer (some ⟨r,0,none⟩),.int .i32 84] w fun e w' => FdP N 84 ws b r (N : Int) m w e w':=by
 obtain ⟨most,hmost⟩ : ∃ most : Nat,most = if m.kd = 17 then 40000 else 4000:=⟨_,rfl⟩
 have HTX : Hid (Calls Tryz.prog 87 #[.pointer (some ⟨r,0,none⟩),.int .i64 (most : Int)] w fun e w' => TxP most ws b r (N : Int) m w e w'):=text_any most ws b r A c (N : Int) m w h hl hz (by rw [hmost];split <;> omega)
 have HF : Hid (fieldP N 84 ws m.ev = match txtP most ws with | some (t,r) => some (r,{ m.ev with bd:=t }) | none => none):=by
  show _ = _;rw [hmost]
  rfl
 have hbw:=h.bw;have ck:=h.ck;have HML : Hid (most ≤ 40000):=by show _ ≤ _;rw [hmost];split <;> omega
 clear h hl hz hN
 have HEND : Hid (∀ (w4 : World) (A2 : Option Addr) (c2 : Nat) (t : List UInt8) (ok : Bool) (ws2 : List Wd) (g4 c4 : Nat),Rd w4 b r A2 c2 (N : Int) ws2 m → Only (fun q => q = r) w w4 → (ok = true → txtP most ws = some (t,ws2)) → (ok = false → t = [] ∧ ws2 = ws ∧ txtP most ws = none) → RB w4 b (some ⟨g4,0,none⟩) t.length t →
   FdP N 84 ws b r (N : Int) m w (.returned (.bool ok)) (w4.setCell ⟨r,6,none⟩ (.slice (some ⟨g4,0,none⟩) t.length c4))):=by
  intro w4 A2 c2 t ok ws2 g4 c4 hr ho h1 h2 hrb;refine ⟨A2,c2,ok,ws2,{ m with Ab:=some ⟨g4,0,none⟩,nb:=t.length,cb:=c4,bd:=t },rfl,hr.set 6 _ (rset_d _ _ _ _ _ _ _ _ t) ⟨hr.t.sid,hrb,hr.t.hs,?_⟩,fd_of (b:=b) (ho.trans (only_setCell0 _ _ _ _)),?_,?_⟩
  ·cases ok with
   | false => rw [(h2 rfl).1];simp
   | true =>
    have:=(txtP_tail (h1 rfl)).2;have:=HML.out;show t.length ≤ 100000000;omega
  ·intro hok
   rw [HF.out,h1 hok];exact ⟨rfl,txt_suf (h1 hok)⟩
  ·intro hok
   rw [HF.out,(h2 hok).2.2]
 by_cases hk : m.kd = 17
 ·have hm : most = 40000:=by rw [hmost,if_pos hk]
  have e1 : (m.kd == 17) = true:=by rw [beq_iff_eq];exact hk
  have HTX2 : Hid (Calls Tryz.prog 87 #[.pointer (some ⟨r,0,none⟩),.int .i64 40000] w fun e w' => TxP most ws b r (N : Int) m w e w'):=by
   have:=HTX.out;rw [hm] at this ⊢;exact this
  clear hm hmost hk HTX;go_enter Tryz.func64,Tryz.ntmps64
  go_upto_region 31 with (first
   | (go_at_call 87;refine HTX2.out.mono ?_;rintro e w2 ⟨A2,c2,t,ok,ws2,rfl,hr2,ho2,h1,h2⟩;have hbw2:=hr2.bw;obtain ⟨c4,w4,hcv,hrb,hb4⟩:=conv_made w2 t hbw2;have HR4:=hide (hr2.step hb4);have HO4:=hide (Only.trans' ho2 (Only.of_below (F:=fun q => q = r) hb4 (Nat.le_refl _)) (fun _ _ h => h));have HRB:=hide hrb;have H1:=hide h1;have H2:=hide h2;have c9:=HR4.out.cd;have f9:=Blk.frozen HR4.out.box 6;clear hr2 ho2 h1 h2 hb4 hrb))
  have HE:=hide (HEND.out w4 A2 c2 t ok ws2 _ c4 HR4.out HO4.out H1.out H2.out HRB.out);clear c9 f9 hcv;go_wp2_with fail;go_ret;exact HE.out
 ·have hm : most = 4000:=by rw [hmost,if_neg hk]
  have e1 : (m.kd == 17) = false:=by rw [beq_eq_false_iff_ne];exact hk
  have HTX2 : Hid (Calls Tryz.prog 87 #[.pointer (some ⟨r,0,none⟩),.int .i64 4000] w fun e w' => TxP most ws b r (N : Int) m w e w'):=by
   have:=HTX.out;rw [hm] at this ⊢;exact this
  clear hm hmost hk HTX;go_enter Tryz.func64,Tryz.ntmps64
  go_upto_region 31 with (first
   | (go_at_call 87;refine HTX2.out.mono ?_;rintro e w2 ⟨A2,c2,t,ok,ws2,rfl,hr2,ho2,h1,h2⟩;have hbw2:=hr2.bw;obtain ⟨c4,w4,hcv,hrb,hb4⟩:=conv_made w2 t hbw2;have HR4:=hide (hr2.step hb4);have HO4:=hide (Only.trans' ho2 (Only.of_below (F:=fun q => q = r) hb4 (Nat.le_refl _)) (fun _ _ h => h));have HRB:=hide hrb;have H1:=hide h1;have H2:=hide h2;have c9:=HR4.out.cd;have f9:=Blk.frozen HR4.out.box 6;clear hr2 ho2 h1 h2 hb4 hrb))
  have HE:=hide (HEND.out w4 A2 c2 t ok ws2 _ c4 HR4.out HO4.out H1.out H2.out HRB.out);clear c9 f9 hcv;go_wp2_with fail;go_ret;exact HE.out
theorem field_O (N : Nat) (ws : List Wd) (b r : Nat) (A : Option Addr) (c : Nat) (m : Em) (w : World) (h : Rd w b r A c (N : Int) ws m) (hN : 1 ≤ N ∧ N ≤ 16) (hl : ws.length ≤ 90000000) (hz : ∀ d ∈ ws,d.1.length ≤ 100000000) (hT : OpT w) (h0 : 1 < b) (hop : m.op = 0) :
  Calls Tryz.prog 64 #[.pointer (some ⟨r,0,none⟩),.int .i32 79] w fun e w' => FdP N 79 ws b r (N : Int) m w e w':=by
 have HCM:=hide (command_any ws b r A c (N : Int) m w h hT h0 hop hl hz);have HF : Hid (fieldP N 79 ws m.ev = cmdP m.ev ws):=rfl;clear h hl hz hN hT h0 hop;go_enter Tryz.func64,Tryz.ntmps64;go_wp2_with (go_at_call 88;refine HCM.out.mono ?_;rintro e w2 ⟨A2,c2,ok,ws2,m2,rfl,hr2,ho2,h1,h2⟩;have HR2:=hide hr2;have HO2:=hide (fd_of (b:=b) ho2);have H1:=hide h1;have H2:=hide h2;clear hr2 ho2 h1 h2);go_ret;exact ⟨A2,c2,ok,ws2,m2,rfl,HR2.out,HO2.out,(fun h => ⟨HF.out.trans (H1.out h).1,(H1.out h).2⟩),fun h => HF.out.trans (H2.out h)⟩
theorem field_S_eq (N : Nat) (ws : List Wd) (e : Ev) : fieldP N 83 ws e = (sidesP N ws e.sd).map fun p => (p.1,{ e with sd:=p.2 }):=by
 have h : fieldP N 83 ws e = match sidesP N ws e.sd with | some (r,l) => some (r,{ e with sd:=l }) | none => none:=rfl
 rw [h]
 cases sidesP N ws e.sd <;> rfl
def SdLoop (w : World) (b r N : Nat) (W0 : List Wd) (m : Em) (T : Option (List Wd × List Int)) (i : Value) (wr : World) : Prop:=∃ (k : Nat) (A : Option Addr) (c : Nat) (ws : List Wd) (m' : Em),k ≤ N ∧ i = .int .i64 k ∧ Rd wr b r A c (N : Int) ws m' ∧ Only (FdF w b r) w wr ∧ m'.ev = { m.ev with sd:=m'.sd } ∧ m'.ns ≤ m.ns + k ∧
 T = sidesP (N - k) ws m'.sd ∧ ∃ l,W0 = l ++ ws
theorem field_S (N : Nat) (ws : List Wd) (b r : Nat) (A : Option Addr) (c : Nat) (m : Em) (w : World) (h : Rd w b r A c (N : Int) ws m) (hN : 1 ≤ N ∧ N ≤ 16) (hl : ws.length ≤ 90000000) (hz : ∀ d ∈ ws,d.1.length ≤ 100000000) (hns : m.ns ≤ 1000) :
  Calls Tryz.prog 64 #[.pointer (some ⟨r,0,none⟩),.int .i32 83] w fun e w' => FdP N 83 ws b r (N : Int) m w e w':=by
 obtain ⟨T,hT⟩ : ∃ T,T = sidesP N ws m.ev.sd:=⟨_,rfl⟩
 have HF : Hid (fieldP N 83 ws m.ev = T.map fun p => (p.1,{ m.ev with sd:=p.2 })):=by
  show _ = _;rw [hT];exact field_S_eq N ws m.ev
 obtain ⟨i3,hi3,hz3,hs3,hb3⟩:=info_parts info3;have I3:=hide hi3;have HL0 : Hid (SdLoop w b r N ws m T (.int .i64 0) w):=⟨0,A,c,ws,m,Nat.zero_le _,rfl,h,Only.refl _ _,rfl,by omega,hT,[],rfl⟩;have cN:=h.c1;have HZ:=hide hz;have HLN:=hide hl;clear h hz hl hi3 hT;go_enter Tryz.func64,Tryz.ntmps64;go_upto_region 24 with fail
 clear cN;go_loopw [119] (fun i wr => SdLoop w b r N ws m T i wr) (fun i _ => N - (intOf i).toNat)
 case atStart => exact HL0.out
 case round =>
  clear HL0;unfold SdLoop at hrel;obtain ⟨k,A2,c2,ws2,m2,hk,rfl,hr2,ho2,hev,hn2,hT2,l2,hl2⟩:=hrel;have HR:=hide hr2;have HO:=hide ho2;have HEV:=hide hev;have HT2:=hide hT2;have HL2:=hide hl2;have hsz : ws2.length ≤ 90000000:=by have:=HLN.out;rw [hl2,List.length_append] at this;omega
  have HZ2 : Hid (∀ d ∈ ws2,d.1.length ≤ 100000000):=fun d hd => HZ.out d (by rw [HL2.out];exact List.mem_append_right _ hd)
  have hbw:=hr2.bw;have k0 : (0 : Int) ≤ (k : Int):=by omega
  clear hr2 ho2 hev hT2 hl2
  by_cases hlt : k < N
  ·have ks : (k : Int) < (N : Int):=by omega
   have HNU : Hid (Calls Tryz.prog 80 #[.pointer (some ⟨r,0,none⟩),.int .i64 0,.int .i64 15] wr fun e w' => NuP 0 15 ws2 b r (N : Int) m2 wr e w'):=number_any 0 15 ws2 b r A2 c2 (N : Int) m2 wr HR.out hsz HZ2.out
   have HTS : Hid (T = match numP 0 15 ws2 with | some (x,ws') => sidesP (N - (k + 1)) ws' (m2.sd ++ [(x : Int)]) | none => none):=by
    show _ = _;rw [HT2.out,show N - k = (N - (k + 1)) + 1 by omega,sidesP]
    cases numP 0 15 ws2 <;> rfl
   go_upto_region 26 with (go_at_call 80;refine HNU.out.mono ?_;rintro e w3 ⟨A3,c3,v,ok,ws3,rfl,hr3,ho3,h1,h2⟩;have HR3:=hide hr3;have HO3:=hide (fd_trans HO.out (fd_of (b:=b) ho3));have H1:=hide h1;have H2:=hide h2;clear hr3 ho3 h1 h2)
   have hbw3:=HR3.out.bw
   cases ok with
   | false =>
    have HN : Hid (fieldP N 83 ws m.ev = none):=by
     show _ = _;rw [HF.out,HTS.out,H2.out rfl]
     rfl
    go_wp2_with fail;go_ret;exact ⟨A3,c3,false,ws3,_,rfl,HR3.out,HO3.out,(fun h => by cases h),fun _ => HN.out⟩
   | true =>
    obtain ⟨x,hx,hnx⟩:=H1.out rfl;subst hx
    have HTN : Hid (T = sidesP (N - (k + 1)) ws3 (m2.sd ++ [(x : Int)])):=by
     show _ = _;rw [HTS.out,hnx]
    have HSU:=hide (num_suf hnx);clear hnx;have cs:=HR3.out.cs;have hnn : m2.ns + 1 ≤ 2000:=by have:=hN.2;omega
    have HPU : Hid (∀ g8 c8 w8 o,w8.ownsRow b 3 1 (.slice (some ⟨g8,0,none⟩) (m2.ns + 1) c8) (m2.ns + 1) (ints m2.sd ++ [.int .i64 (x : Int)]) → (w3.alloc o).grownBy w8 (Value.slice m2.As m2.ns m2.cs').ownBlock → Blk w8 r 126 (rdC A3 ws3.length c3 (N : Int) m2) ∧ SdLoop w b r N ws m T (.int .i64 ((k : Int) + 1)) (w8.setCell ⟨r,14,none⟩ (.slice (some ⟨g8,0,none⟩) (m2.ns + 1) c8))):=by
     intro g8 c8 w8 o hown8 hgr8;have hal : Below w3.heap.size w3 (w3.alloc o):=(Below.refl _ _).alloc (Nat.le_refl _) o;have hra:=HR3.out.step hal;have hbox : Blk w8 r 126 (rdC A3 ws3.length c3 (N : Int) m2):=hra.box.grown hgr8 (own_ne hra.t.sid hra.box (by decide));have ho8 : Only (FdF w b r) w w8:=fd_trans (HO3.out.alloc o) (fd_grown hra.t.sid hgr8)
     have ht : EmU w8 b { m2 with As:=some ⟨g8,0,none⟩,ns:=m2.ns + 1,cs':=c8,sd:=m2.sd ++ [(x : Int)] }:=by
      refine ⟨?_,hra.t.body.grown hra.t.sid (by decide) hgr8,by show m2.ns + 1 ≤ 100000000;omega,hra.t.hb⟩;have e : ints (m2.sd ++ [(x : Int)]) = ints m2.sd ++ [.int .i64 (x : Int)]:=by simp [ints]
      rw [e];exact hown8
     have hpw : PWd w8 A3 ws3:=hra.wds.grown hra.t.sid (by decide) hgr8;have hW:=only_setCell0 w8 r 14 (.slice (some ⟨g8,0,none⟩) (m2.ns + 1) c8);refine ⟨hbox,k + 1,A3,c3,ws3,_,by omega,by go_num,⟨?_,hpw.apart hW ?_,HR3.out.hc,ht.far hbox (by decide) (by decide) hW,HR3.out.hr⟩,ho8.trans' (fd_of (b:=b) hW) ?_,?_,?_,HTN.out,?_⟩
     ·have:=hbox.set_ 14 (.slice (some ⟨g8,0,none⟩) (m2.ns + 1) c8)
      rw [rset_s _ _ _ _ m2 _ _ _ (m2.sd ++ [(x : Int)])] at this;exact this
     ·intro q hq e
      subst e;exact ⟨_,_,hbox,by decide⟩
     ·intro q hq hf
      rcases hf with e | ⟨hbk,cs,hb⟩
      ·exact .inl e
      ·rcases Classical.em (FdF w b r q) with h1 | h1
       ·exact h1
       ·refine .inr ⟨hbk,cs,?_⟩
        have:=ho8.block q hq h1;unfold Blk at hb ⊢;rw [← this];exact hb
     ·have:=HEV.out
      show ({ m2.ev with sd:=m2.sd ++ [(x : Int)] } : Ev) = _;rw [this]
     ·show m2.ns + 1 ≤ _
      omega
     ·obtain ⟨l3,hl3⟩:=HSU.out
      exact ⟨l2 ++ l3,by rw [HL2.out,hl3,List.append_assoc]⟩
    go_wp2_with (at_builtin;refine wpList_push (W:=w3) (cs:=#[.int .i64 (x : Int)]) rfl (.tmp 133) (.tmp 135) _ rfl b 3 i3 _ 1 8 Tryz.underlying22 I3.out hz3 hs3 hb3 rfl (by omega) (.slice m2.As m2.ns m2.cs') m2.ns _ rfl HR3.out.t.sid 1 1 rfl rfl (by simp [Value.oneCell']) (by omega) (by unfold maxLen;omega) (by omega) hbw3 ?_;intro g8 c8 w8 hown8 hgr8 hb8 _ _ _;have HB8:=hide (HPU.out g8 c8 w8 _ hown8 hgr8).1;have HL8:=hide (HPU.out g8 c8 w8 _ hown8 hgr8).2;have c9 : w8.cell? ⟨r,14,none⟩ = some (.slice m2.As m2.ns m2.cs'):=HB8.out.cell 14;have f9:=Blk.frozen HB8.out 14;clear hown8 hb8 hgr8);go_roundw
    case rel => first | exact HL8.out | exact ⟨_,HL8.out,rfl⟩
    case measure => simp [intOf];omega
  ·have ks : ¬ (k : Int) < (N : Int):=by omega
   have HTN : Hid (T = some (ws2,m2.sd)):=by
    show _ = _;rw [HT2.out,show N - k = 0 by omega,sidesP]
   go_wp2_with fail;go_ret;refine ⟨A2,c2,true,ws2,m2,rfl,HR.out,HO.out,(fun _ => ⟨?_,l2,HL2.out⟩),fun h => by cases h⟩;rw [HF.out,HTN.out,HEV.out]
   rfl
def isLt (c : UInt8) : Prop:=c = 80 ∨ c = 81 ∨ c = 75 ∨ c = 78 ∨ c = 68 ∨ c = 84 ∨ c = 79 ∨ c = 83
theorem field_any (ch : UInt8) (hch : isLt ch) (N : Nat) (ws : List Wd) (b r : Nat) (A : Option Addr) (c : Nat) (m : Em) (w : World) (h : Rd w b r A c (N : Int) ws m) (hN : 1 ≤ N ∧ N ≤ 16) (hl : ws.length ≤ 90000000) (hz : ∀ d ∈ ws,d.1.length ≤ 100000000) (hT : OpT w) (h0 : 1 < b) (hop : ch = 79 → m.op = 0) (hns : ch = 83 → m.ns ≤ 1000) :
  Calls Tryz.prog 64 #[.pointer (some ⟨r,0,none⟩),.int .i32 (ch.toNat : Int)] w fun e w' => FdP N ch ws b r (N : Int) m w e w':=by
 rcases hch with rfl | rfl | rfl | rfl | rfl | rfl | rfl | rfl
 ·exact field_P N ws b r A c m w h hN hl hz
 ·exact field_Q N ws b r A c m w h hN hl hz
 ·exact field_K N ws b r A c m w h hN hl hz
 ·exact field_N N ws b r A c m w h hN hl hz
 ·exact field_D N ws b r A c m w h hN hl hz
 ·exact field_T N ws b r A c m w h hN hl hz
 ·exact field_O N ws b r A c m w h hN hl hz hT h0 (hop rfl)
 ·exact field_S N ws b r A c m w h hN hl hz (hns rfl)
end Go.Proofs.YtcibcmfaebbhnaaGreatDoor
