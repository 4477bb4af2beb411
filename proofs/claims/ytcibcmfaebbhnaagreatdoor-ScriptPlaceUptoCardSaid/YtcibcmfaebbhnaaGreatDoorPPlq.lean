/-
  The law's scriptOf: a script of its own, its rows apart from one another. (Printed by wip/tools/mkplo.py.) The law's marksOf: marks of its own, their rows apart from one another. (Printed by wip/tools/mkpmk.py.) The law's over and overBytes: a list laid into a row. Rows of structs, written at a place: a whole struct, one cell. What the law Place keeps: a script and marks in rows of its own, apart from one another; what is being laid anew is exempt. Place: fronts of lists, what the walk keeps beside the state.
-/
import Derived.Test.YtcibcmfaebbhnaaGreatDoorPSco
import Derived.Test.YtcibcmfaebbhnaaGreatDoorPTMof
import Derived.Test.YtcibcmfaebbhnaaGreatDoorPLnk
import Derived.Test.YtcibcmfaebbhnaaGreatDoorPWords
set_option linter.unusedSimpArgs false
set_option linter.unusedVariables false
set_option maxRecDepth 100000
set_option maxHeartbeats 8000000

namespace Go.Proofs.YtcibcmfaebbhnaaGreatDoor
open Go.RowKit Go.WideShapes Go.ChangeShapes Q
def Sep (v v' : Value) : Prop:=∀ q,v.ownBlock = some q → ¬ v'.ownBlock = some q
theorem Sep.symm {v v' : Value} (h : Sep v v') : Sep v' v:=fun q h1 h2 => h q h2 h1
theorem sep_lt {w w' : World} {b b' n n' s s' : Nat} {e e' : TypeId} {v v' : Value} {xs xs' : List Value} (h : w.ownsRow b e s v n xs) (h' : w'.ownsRow b' e' s' v' n' xs') (hB : w.heap.size ≤ b') : Sep v v':=fun q h1 h2 => by
 have:=(h.lt q h1).2;have:=(h'.lt q h2).1;omega
theorem own_sep {w w' : World} {b n s : Nat} {e : TypeId} {v v' : Value} {xs : List Value} (h : w.ownsRow b e s v n xs) (hs : Sep v v') (hg : w.grownBy w' v'.ownBlock) : w'.ownsRow b e s v n xs:=by
 refine h.kept hg ?_
 cases hv : v.ownBlock with
 | none => exact .inl rfl
 | some q => exact .inr (fun e => hs q hv e.symm)
def Em.vs (m : Em) : Value:=.slice m.As m.ns m.cs'
def Em.vb (m : Em) : Value:=.slice m.Ab m.nb m.cb
structure EmO (w : World) (b : Nat) (m : Em) : Prop where
 sid : w.ownsRow b 3 1 m.vs m.ns (ints m.sd)
 body : w.ownsRow b 5 1 m.vb m.nb (Lib.byteCells m.bd)
 hs : m.ns ≤ 100000000
 hb : m.nb ≤ 100000000
section
variable {w w' : World} {g b B : Nat} {t : TypeId} {cs : Array Value} {m : Em}
theorem EmO.u (h : EmO w b m) : EmU w b m:=⟨h.sid,RB.of_own h.body,h.hs,h.hb⟩
theorem EmO.inn (h : EmO w b m) : EmIn w w.heap.size m:=h.u.inn
theorem EmO.step (h : EmO w b m) (hb : Below w.heap.size w w') : EmO w' b m:=⟨own_step h.sid hb,own_step h.body hb,h.hs,h.hb⟩
theorem EmO.base {b' : Nat} (h : EmO w b m) (hb : b' ≤ b) : EmO w b' m:=⟨own_base h.sid hb,own_base h.body hb,h.hs,h.hb⟩
theorem EmO.push {b' n s : Nat} {e : TypeId} {v : Value} {xs : List Value} (h : EmO w b m) (h' : w.ownsRow b' e s v n xs) (h3 : e ≠ 3) (h5 : e ≠ 5) (hg : w.grownBy w' v.ownBlock) : EmO w' b m :=
 ⟨own_kept h.sid h' (fun e => h3 e.symm) hg,own_kept h.body h' (fun e => h5 e.symm) hg,h.hs,h.hb⟩
theorem EmO.far (h : EmO w b m) (hg : Blk w g t cs) (h2 : t ≠ 3) (h3 : t ≠ 5) (ho : Only (fun q => q = g) w w') : EmO w' b m :=
 ⟨own_apart h.sid ho (fun k hk hq => by subst hq;exact ⟨t,cs,hg,h2⟩),own_apart h.body ho (fun k hk hq => by subst hq;exact ⟨t,cs,hg,h3⟩),h.hs,h.hb⟩
end
def EmSep (m m' : Em) : Prop:=Sep m.vs m'.vs ∧ Sep m.vb m'.vb
theorem emSep_lt {w w' : World} {b B : Nat} {m m' : Em} (h : EmO w b m) (h' : EmO w' B m') (hB : w.heap.size ≤ B) : EmSep m m':=⟨sep_lt h.sid h'.sid hB,sep_lt h.body h'.body hB⟩
def CpyO (m : Em) (w : World) (e : Ending) (w' : World) : Prop:=∃ m' : Em,e = .returned (.agg m'.cs) ∧ m'.ev = m.ev ∧ m'.ns = m.ns ∧ m'.nb = m.nb ∧ EmO w' w.heap.size m' ∧ Below w.heap.size w w'
theorem eventOf_row (m : Em) (w : World) (h : EmIn w w.heap.size m) (hsn : m.ns ≤ 10000000) (hbn : m.nb ≤ 10000000) :
  Calls Tryz.prog 48 #[.agg m.cs] w fun e w' => CpyO m w e w':=by
 have HIN:=hide h;obtain ⟨i3,hi3,hz3,hs3,hb3⟩:=info_parts info3;obtain ⟨i5,hi5,hz5,hs5,hb5⟩:=info_parts info5;have I3:=hide hi3;have I5:=hide hi5;have Z3:=hide hz3;have Z5:=hide hz5;have HSN:=hide hsn;have HBN:=hide hbn;clear hi3 hi5 hz3 hz5 h hsn hbn;obtain ⟨C0,hC0⟩ : ∃ C0,C0 = m.cs:=⟨_,rfl⟩;rw [← hC0];have HC0:=hide hC0;clear hC0;go_enter Tryz.func48,Tryz.ntmps48;go_upto_region 1 with fail
 obtain ⟨Z,hZ0,hZs⟩ : ∃ Z : Array Value,Z = Em.zero.cs ∧ Z.size = 13:=⟨_,rfl,rfl⟩;generalize hW0 : World.alloc (World.alloc w _) _ = W0
 have HP0 : Hid (Blk W0 w.heap.size 33 C0):=by
  show Blk _ _ _ _;rw [← hW0];exact (Blk.new _ _ _).alloc _
 have HR0 : Hid (Blk W0 (w.heap.size + 1) 33 Z):=by
  show Blk _ _ _ _;rw [← hW0,hZ0];exact blk_new _ _ _ _ (by simp)
 have HW0 : Hid (Below w.heap.size w W0):=by
  show Below _ _ _;rw [← hW0];exact ((Below.refl _ _).alloc (Nat.le_refl _) _).alloc (by simp) _
 clear hW0 hZ0;have hbig0 : m.nb ≤ 10000000:=HBN.out
 have kC : (W0.alloc (.cells #[] 5)).cell? ⟨w.heap.size,4,none⟩ = some (.slice m.Ab m.nb m.cb):=by
  have:=(HP0.out.alloc (.cells #[] 5)).cell 4;rw [this,HC0.out]
  rfl
 have HN0 : Hid ((W0.alloc (.cells #[] 5)).ownsRow w.heap.size 5 1 (.slice (some ⟨W0.heap.size,0,none⟩) 0 0) 0 []):=own_none (Blk.new W0 5 #[]) HW0.out.size;have HD0 : Hid (Reads (W0.alloc (.cells #[] 5)) w.heap.size 1 m.Ab m.nb (Lib.byteCells m.bd)):=(Reads.below HIN.out.body HW0.out).alloc (by have:=HW0.out.size;omega) _;have HWa0 : Hid (Below w.heap.size w (W0.alloc (.cells #[] 5))):=HW0.out.alloc HW0.out.size _;go_upto_region 2 with (at_builtin;refine wpList_append_any _ rfl (.tmp 3) (.tmp 5) 29 rfl w.heap.size 5 i5 _ 1 1 Tryz.underlying29 I5.out Z5.out hs5 hb5 rfl (by omega) (.slice (some ⟨W0.heap.size,0,none⟩) 0 0) 0 [] rfl HN0.out w.heap.size m.Ab m.nb m.cb (Lib.byteCells m.bd) rfl HD0.out (one_bytes _) (by unfold maxLen;omega) (by omega) HWa0.out.size ?_;intro v wa hown hgr _;rw [Nat.zero_add,List.nil_append] at hown;obtain ⟨A0,c0,rfl⟩:=own_slice' hown;have HPa0:=hide ((HP0.out.alloc _).grown hgr (by intro e;have h1 : w.heap.size = W0.heap.size:=Option.some.inj e;have h2:=HP0.out.lt;omega));have HRa0:=hide ((HR0.out.alloc _).grown hgr (by intro e;have h1 : w.heap.size + 1 = W0.heap.size:=Option.some.inj e;have h2:=HR0.out.lt;omega));have HOa0:=hide hown;have HGa0:=hide hgr;have HWb0:=hide (HWa0.out.grown hgr HWa0.out.size (fun q hq => by have h1 : W0.heap.size = q:=Option.some.inj hq;have h2:=HW0.out.size;omega));have kD : wa.cell? ⟨w.heap.size,4,none⟩ = some (.slice m.Ab m.nb m.cb):=(by have:=HPa0.out.cell 4;rw [this,HC0.out];rfl);have fD:=HPa0.out.frozen 4;clear hown hgr)
 clear kC;obtain ⟨W1,hW⟩ : ∃ W,W = World.setCell wa ⟨w.heap.size,4,none⟩ (.slice A0 m.nb c0):=⟨_,rfl⟩;obtain ⟨C1,hC⟩ : ∃ C,C = C0.setIfInBounds 4 (.slice A0 m.nb c0):=⟨_,rfl⟩
 have HP1 : Hid (Blk W1 w.heap.size 33 C1):=by
  show Blk _ _ _ _;rw [hW,hC];exact HPa0.out.set_ 4 _
 have HR1 : Hid (Blk W1 (w.heap.size + 1) 33 Z):=by
  show Blk _ _ _ _;rw [hW];exact HRa0.out.far (by simp) _
 have HW1 : Hid (Below w.heap.size w W1):=by
  show Below _ _ _;rw [hW];exact HWb0.out.setCell (Nat.le_refl _) _
 have HO0_1 : Hid (W1.ownsRow w.heap.size 5 1 (.slice A0 m.nb c0) m.nb (Lib.byteCells m.bd)):=by
  show World.ownsRow W1 _ _ _ _ _ _;rw [hW];exact ownsRow_setCell_other HOa0.out (own_blk_ne HOa0.out HPa0.out (by decide)) _
 have HC1:=hide hC;rw [← hW];clear hW hC kD fD HN0 HD0 HWa0 HPa0 HRa0 HOa0 HGa0 HWb0;have hbig1 : m.ns ≤ 10000000:=HSN.out
 have kC : (W1.alloc (.cells #[] 3)).cell? ⟨w.heap.size,12,none⟩ = some (.slice m.As m.ns m.cs'):=by
  have:=(HP1.out.alloc (.cells #[] 3)).cell 12;rw [this,HC1.out,HC0.out]
  rfl
 have HN1 : Hid ((W1.alloc (.cells #[] 3)).ownsRow w.heap.size 3 1 (.slice (some ⟨W1.heap.size,0,none⟩) 0 0) 0 []):=own_none (Blk.new W1 3 #[]) HW1.out.size;have HD1 : Hid (Reads (W1.alloc (.cells #[] 3)) w.heap.size 1 m.As m.ns (ints m.sd)):=(Reads.below HIN.out.sid HW1.out).alloc (by have:=HW1.out.size;omega) _;have HWa1 : Hid (Below w.heap.size w (W1.alloc (.cells #[] 3))):=HW1.out.alloc HW1.out.size _;go_upto_region 3 with (at_builtin;refine wpList_append_any _ rfl (.tmp 8) (.tmp 10) 22 rfl w.heap.size 3 i3 _ 1 8 Tryz.underlying22 I3.out Z3.out hs3 hb3 rfl (by omega) (.slice (some ⟨W1.heap.size,0,none⟩) 0 0) 0 [] rfl HN1.out w.heap.size m.As m.ns m.cs' (ints m.sd) rfl HD1.out (one_ints _) (by unfold maxLen;omega) (by omega) HWa1.out.size ?_;intro v wa hown hgr _;rw [Nat.zero_add,List.nil_append] at hown;obtain ⟨A1,c1,rfl⟩:=own_slice' hown;have HPa1:=hide ((HP1.out.alloc _).grown hgr (by intro e;have h1 : w.heap.size = W1.heap.size:=Option.some.inj e;have h2:=HP1.out.lt;omega));have HRa1:=hide ((HR1.out.alloc _).grown hgr (by intro e;have h1 : w.heap.size + 1 = W1.heap.size:=Option.some.inj e;have h2:=HR1.out.lt;omega));have HOa1:=hide hown;have HGa1:=hide hgr;have HWb1:=hide (HWa1.out.grown hgr HWa1.out.size (fun q hq => by have h1 : W1.heap.size = q:=Option.some.inj hq;have h2:=HW1.out.size;omega));have kD : wa.cell? ⟨w.heap.size,12,none⟩ = some (.slice m.As m.ns m.cs'):=(by have:=HPa1.out.cell 12;rw [this,HC1.out,HC0.out];rfl);have fD:=HPa1.out.frozen 12;clear hown hgr)
 clear kC;obtain ⟨W2,hW⟩ : ∃ W,W = World.setCell wa ⟨w.heap.size,12,none⟩ (.slice A1 m.ns c1):=⟨_,rfl⟩;obtain ⟨C2,hC⟩ : ∃ C,C = C1.setIfInBounds 12 (.slice A1 m.ns c1):=⟨_,rfl⟩
 have HP2 : Hid (Blk W2 w.heap.size 33 C2):=by
  show Blk _ _ _ _;rw [hW,hC];exact HPa1.out.set_ 12 _
 have HR2 : Hid (Blk W2 (w.heap.size + 1) 33 Z):=by
  show Blk _ _ _ _;rw [hW];exact HRa1.out.far (by simp) _
 have HW2 : Hid (Below w.heap.size w W2):=by
  show Below _ _ _;rw [hW];exact HWb1.out.setCell (Nat.le_refl _) _
 have HO1_2 : Hid (W2.ownsRow w.heap.size 3 1 (.slice A1 m.ns c1) m.ns (ints m.sd)):=by
  show World.ownsRow W2 _ _ _ _ _ _;rw [hW];exact ownsRow_setCell_other HOa1.out (own_blk_ne HOa1.out HPa1.out (by decide)) _
 have HO0_2 : Hid (W2.ownsRow w.heap.size 5 1 (.slice A0 m.nb c0) m.nb (Lib.byteCells m.bd)):=by
  show World.ownsRow W2 _ _ _ _ _ _;rw [hW];have h1:=own_kept (HO0_1.out.alloc (.cells #[] 3)) HN1.out (by decide) HGa1.out;exact ownsRow_setCell_other h1 (own_blk_ne h1 HPa1.out (by decide)) _
 have HC2:=hide hC;rw [← hW];clear hW hC kD fD HN1 HD1 HWa1 HPa1 HRa1 HOa1 HGa1 HWb1;obtain ⟨m',hm'⟩ : ∃ m' : Em,m' = { m with Ab:=A0,cb:=c0,As:=A1,cs':=c1 }:=⟨_,rfl⟩
 have HPF : Hid (Blk W2 w.heap.size 33 m'.cs):=by
  show Blk _ _ _ _;have h1:=HP2.out;rw [HC2.out,HC1.out,HC0.out] at h1;rw [hm'];exact h1
 have HM : Hid (m'.ev = m.ev ∧ m'.ns = m.ns ∧ m'.nb = m.nb):=by
  show _ ∧ _;rw [hm'];exact ⟨rfl,rfl,rfl⟩
 have HM':=hide hm';clear hm' HP2 HC2 HC1 HC0 HP0 HP1 HR0 HR1;refine wp_region_lit ?_;refine wpList_value rfl (.agg m'.cs) (ex_load 33 (.tmp 1) rfl _ rfl m'.cs _ Tryz.underlying33 rfl (ld29 _ (em_size _)) (ebox_all HPF.out)) ?_;try simp only [Act.put,aSt,aSz,aSs]
 refine wpList_put_at rfl 33 (.tmp 2) (.tmp 13) rfl (w.heap.size + 1) 0 m'.cs rfl rfl 33 Z HR2.out (ld29 _ (em_size _)) (by rw [em_size,hZs];omega) (ecs_all m') _ (eput_zero Z hZs m') ?_;try simp only [Act.put,aSt,aSz,aSs]
 go_wp2_with fail;refine bodyPost_ret (results_29 rfl _ rfl (HR2.out.row _)) rfl ?_;have hO:=only_setRow W2 (w.heap.size + 1) m'.cs;refine ⟨m',rfl,HM.out.1,HM.out.2.1,HM.out.2.2,?_,HW2.out.trans (hO.below HW2.out.size (fun k hk e => by omega))⟩
 have hA : ∀ (e : TypeId),e ≠ 33 → ∀ k,k < W2.heap.size → k = w.heap.size + 1 → ∃ t cs,Blk W2 k t cs ∧ t ≠ e:=fun e he k _ hq => by
  subst hq;exact ⟨33,Z,HR2.out,Ne.symm he⟩
 have k1:=own_apart HO1_2.out hO (hA _ (by decide));have k0:=own_apart HO0_2.out hO (hA _ (by decide));generalize W2.setRow (w.heap.size + 1) m'.cs = X at k1 k0 ⊢;rw [HM'.out];exact ⟨k1,k0,by show m.ns ≤ _;omega,by show m.nb ≤ _;omega⟩
structure SmO (w : World) (b : Nat) (s : Sm) : Prop where
 vot : w.ownsRow b 3 1 (.slice s.A s.c.votes.length s.k) s.c.votes.length (ints s.c.votes)
 row : w.ownsRow b 33 13 (.slice s.Ae s.ms.length s.ke) s.ms.length (emCells s.ms)
 ent : ∀ m ∈ s.ms,EmO w b m
 dis : s.ms.Pairwise EmSep
 vsp : ∀ m ∈ s.ms,Sep (.slice s.A s.c.votes.length s.k) m.vs
 hv : s.c.votes.length ≤ 10000000
 hn : s.ms.length ≤ 10000000
theorem SmO.v {w : World} {b : Nat} {s : Sm} (h : SmO w b s) : SmV w b s:=⟨h.vot,h.row,fun m hm => (h.ent m hm).u,h.hv,h.hn⟩
theorem SmO.step {w w' : World} {b : Nat} {s : Sm} (h : SmO w b s) (hb : Below w.heap.size w w') : SmO w' b s:=⟨own_step h.vot hb,own_step h.row hb,fun m hm => (h.ent m hm).step hb,h.dis,h.vsp,h.hv,h.hn⟩
theorem SmO.far {w w' : World} {b g : Nat} {t : TypeId} {cs : Array Value} {s : Sm} (h : SmO w b s) (hg : Blk w g t cs) (h2 : t ≠ 3) (h3 : t ≠ 5) (h4 : t ≠ 33) (ho : Only (fun q => q = g) w w') : SmO w' b s :=
 ⟨own_apart h.vot ho (fun k hk hq => by subst hq;exact ⟨t,cs,hg,h2⟩),own_apart h.row ho (fun k hk hq => by subst hq;exact ⟨t,cs,hg,h4⟩),fun m hm => (h.ent m hm).far hg h2 h3 ho,h.dis,h.vsp,h.hv,h.hn⟩
def ScoO (s : Sm) (w : World) (e : Ending) (w' : World) : Prop:=∃ s' : Sm,e = .returned (.agg s'.cs) ∧ s'.sc = s.sc ∧ SmO w' w.heap.size s' ∧ (∀ m ∈ s'.ms,m.ns ≤ 10000000 ∧ m.nb ≤ 10000000) ∧ Below w.heap.size w w'
def ScJO (s : Sm) (W4 : World) (g : Nat) (A : Option Addr) (k : Nat) (i : Value) (wr : World) : Prop:=∃ (j : Nat) (ms' : List Em) (Ae : Option Addr) (ke : Nat),j ≤ s.ms.length ∧ i = .int .i64 j ∧ ms'.length = j ∧ ms'.map Em.ev = (s.ms.take j).map Em.ev ∧ (∀ m ∈ ms',m.ns ≤ 10000000 ∧ m.nb ≤ 10000000) ∧
 Blk wr g 27 (Sm.cs ⟨s.c,A,k,Ae,ke,ms'⟩) ∧ wr.ownsRow W4.heap.size 33 13 (.slice Ae ms'.length ke) ms'.length (emCells ms') ∧ (∀ m ∈ ms',EmO wr W4.heap.size m) ∧ Below g W4 wr ∧ wr.ownsRow (g + 1) 3 1 (.slice A s.c.votes.length k) s.c.votes.length (ints s.c.votes) ∧ ms'.Pairwise EmSep
theorem scriptOf_row (s : Sm) (w : World) (h : SmIn w w.heap.size s) (hv : s.c.votes.length ≤ 10000000) (hn : s.ms.length ≤ 10000000) (hm : ∀ m ∈ s.ms,m.ns ≤ 10000000 ∧ m.nb ≤ 10000000) :
  Calls Tryz.prog 22 #[.agg s.cs] w fun e w' => ScoO s w e w':=by
 have HIN:=hide h;have HM:=hide hm;obtain ⟨i3,hi3,hz3,hs3,hb3⟩:=info_parts info3;obtain ⟨i29,hi29,hz29,hs29,hb29⟩:=info_parts info29;have I3:=hide hi3;have Z3:=hide hz3;have I29:=hide hi29;have Z29:=hide hz29;clear hi3 hz3 hi29 hz29 h hm;obtain ⟨C0,hC0⟩ : ∃ C0,C0 = s.cs:=⟨_,rfl⟩;rw [← hC0];have HC0:=hide hC0;clear hC0;obtain ⟨vn,hvn⟩ : ∃ vn,vn = s.c.votes.length:=⟨_,rfl⟩;obtain ⟨n,hnn⟩ : ∃ n,n = s.ms.length:=⟨_,rfl⟩;rw [← hvn] at hv;rw [← hnn] at hn;have HVN:=hide hvn;have HN:=hide hnn;clear hvn hnn;go_enter Tryz.func22,Tryz.ntmps22;go_upto_region 1 with fail
 obtain ⟨Z,hZ0,hZs⟩ : ∃ Z : Array Value,Z = Sm.zero.cs ∧ Z.size = 9:=⟨_,rfl,rfl⟩;generalize hW0 : World.alloc (World.alloc w _) _ = W0
 have HP0 : Hid (Blk W0 w.heap.size 27 s.cs):=by
  show Blk _ _ _ _;rw [← hW0,HC0.out];exact (Blk.new _ _ _).alloc _
 have HR0 : Hid (Blk W0 (w.heap.size + 1) 27 Z):=by
  show Blk _ _ _ _;rw [← hW0,hZ0];exact blk_new _ _ _ _ (by simp)
 have hb0 : Below w.heap.size w W0:=by
  rw [← hW0];exact ((Below.refl _ _).alloc (Nat.le_refl _) _).alloc (by simp) _
 have HW0:=hide hb0;have hs0 : w.heap.size + 1 < W0.heap.size:=HR0.out.lt;clear hW0 hZ0 hb0;refine wp_region_lit ?_;refine wpList_value rfl (.pointer (some ⟨w.heap.size,0,none⟩)) (by go_simp) ?_;try simp only [Act.put,aSt,aSz,aSs]
 refine wpList_value rfl (.agg (cfC s.c s.A s.k)) (ex_load 24 (.tmp 5) rfl _ rfl _ _ Tryz.underlying24 rfl (ld44 _ rfl) (sm_pre HP0.out)) ?_;try simp only [Act.put,aSt,aSz,aSs]
 refine wpList_value rfl (.agg (Sm.cs ⟨s.c,s.A,s.k,none,0,[]⟩)) (ex_build47 (.tmp 6) rfl s.c s.A s.k rfl) ?_;try simp only [Act.put,aSt,aSz,aSs]
 refine wpList_step (fun K hK => ?_);rw [if_pos (by rfl)];go_simp;refine hK _ _ ?_;clear hK K;refine wpList_store_fresh rfl 27 (.tmp 3) (.tmp 7) rfl _ (Sm.cs ⟨s.c,s.A,s.k,none,0,[]⟩) rfl rfl (ld47 _ rfl) rfl (sm_all _) ?_;try simp only [Act.put,aSt,aSz,aSs]
 obtain ⟨W1,hW1⟩ : ∃ W1,W1 = World.alloc W0 (.cells (Sm.cs ⟨s.c,s.A,s.k,none,0,[]⟩) 27):=⟨_,rfl⟩;obtain ⟨g,hg⟩ : ∃ g,g = W0.heap.size:=⟨_,rfl⟩;have hal : Below W0.heap.size W0 W1:=by rw [hW1];exact (Below.refl _ _).alloc (Nat.le_refl _) _
 have HX1 : Hid (Blk W1 g 27 (Sm.cs ⟨s.c,s.A,s.k,none,0,[]⟩)):=by show Blk _ _ _ _;rw [hW1,hg];exact Blk.new _ _ _
 have HP1:=hide (HP0.out.below hal HP0.out.lt);have HR1:=hide (HR0.out.below hal HR0.out.lt);have HW1:=hide (HW0.out.trans (hal.mono HW0.out.size));have hgl : w.heap.size + 1 < g:=by rw [hg];exact hs0
 have hg1 : W1.heap.size = g + 1:=by rw [hW1,hg];simp
 have HG1:=hide hg1;rw [← hW1];try rw [← hg]
 clear hW1 hg hal HP0 HR0 HW0 hs0 hg1
 have kC : (W1.alloc (.cells #[] 3)).cell? ⟨w.heap.size,7,none⟩ = some (.slice s.A vn s.k):=by
  rw [HVN.out];exact (HP1.out.alloc (.cells #[] 3)).cell 7
 have HNO : Hid ((W1.alloc (.cells #[] 3)).ownsRow (g + 1) 3 1 (.slice (some ⟨W1.heap.size,0,none⟩) 0 0) 0 []):=own_none (Blk.new W1 3 #[]) (by have:=HG1.out;omega)
 have HD : Hid (Reads (W1.alloc (.cells #[] 3)) w.heap.size 1 s.A vn (ints s.c.votes)):=by
  show Reads _ _ _ _ _ _;rw [HVN.out];exact (Reads.below HIN.out.vot HW1.out).alloc (by have:=HW1.out.size;omega) _
 have HWa : Hid (Below w.heap.size w (W1.alloc (.cells #[] 3))):=HW1.out.alloc HW1.out.size _;have hbase : g + 1 ≤ (W1.alloc (.cells #[] 3)).heap.size:=by have:=HG1.out;simp;omega
 go_upto_region 3 with (at_builtin;refine wpList_append_any _ rfl (.tmp 8) (.tmp 11) 22 rfl (g + 1) 3 i3 _ 1 8 Tryz.underlying22 I3.out Z3.out hs3 hb3 rfl (by omega) (.slice (some ⟨W1.heap.size,0,none⟩) 0 0) 0 [] rfl HNO.out w.heap.size s.A vn s.k (ints s.c.votes) rfl HD.out (one_ints _) (by unfold maxLen;omega) (by omega) hbase ?_;intro v wa hown hgr _;rw [Nat.zero_add,List.nil_append] at hown;obtain ⟨A1,c1,rfl⟩:=own_slice' hown;have HXa:=hide ((HX1.out.alloc _).grown hgr (by intro e;have h1 : g = W1.heap.size:=Option.some.inj e;have h2:=HX1.out.lt;omega));have HPa:=hide ((HP1.out.alloc _).grown hgr (by intro e;have h1 : w.heap.size = W1.heap.size:=Option.some.inj e;have h2:=HP1.out.lt;omega));have HRa:=hide ((HR1.out.alloc _).grown hgr (by intro e;have h1 : w.heap.size + 1 = W1.heap.size:=Option.some.inj e;have h2:=HR1.out.lt;omega));have HOa:=hide hown;have HWb:=hide (HWa.out.grown hgr HWa.out.size (fun q hq => by have h1 : W1.heap.size = q:=Option.some.inj hq;have h2:=HW1.out.size;omega));have kD : wa.cell? ⟨g,7,none⟩ = some (.slice s.A s.c.votes.length s.k):=HXa.out.cell 7;have fD:=Blk.frozen HXa.out 7;clear hown hgr)
 clear kC kD fD;obtain ⟨W4,hW4⟩ : ∃ W4,W4 = World.setCell wa ⟨g,7,none⟩ (.slice A1 vn c1):=⟨_,rfl⟩;have hW:=only_setCell0 wa g 7 (.slice A1 vn c1);rw [← hW4] at hW ⊢
 have HX4 : Hid (Blk W4 g 27 (Sm.cs ⟨s.c,A1,c1,none,0,[]⟩)):=by
  show Blk _ _ _ _;rw [hW4];have h1:=HXa.out.set_ 7 (.slice A1 vn c1);rw [HVN.out] at h1 ⊢;exact h1
 have HP4:=hide (HPa.out.only hW (by omega));have HR4:=hide (HRa.out.only hW (by omega))
 have HV4 : Hid (W4.ownsRow (g + 1) 3 1 (.slice A1 s.c.votes.length c1) s.c.votes.length (ints s.c.votes)):=by
  have h1:=own_apart HOa.out hW (fun k hk hq => by subst hq;exact ⟨_,_,HXa.out,by decide⟩);show World.ownsRow _ _ _ _ _ _ _;rw [← HVN.out];exact h1
 have HB4:=hide (HWb.out.trans (hW.below HWb.out.size (fun k hk e => by have e2 : k = g:=e;omega)));clear hW hW4 HXa HPa HRa HOa HWb HX1 HP1 HR1 HW1 HNO HD HWa hbase HG1;have hs4 : w.heap.size ≤ W4.heap.size:=HB4.out.size;have hg4 : g < W4.heap.size:=HX4.out.lt;have HL4 : Hid (ScJO s W4 g A1 c1 (.int .i64 0) W4):=⟨0,[],none,0,Nat.zero_le _,rfl,rfl,by simp,(fun m hm => by cases hm),HX4.out,World.ownsRow_nil _ _ _ _,(fun m hm => by cases hm),Below.refl _ _,HV4.out,List.Pairwise.nil⟩;go_upto_region 4 with fail
 go_loopw [4] (fun i wr => ScJO s W4 g A1 c1 i wr) (fun i _ => n - (intOf i).toNat)
 case atStart => exact HL4.out
 case round =>
  clear HL4;unfold ScJO at hrel;obtain ⟨j,ms',Ae,ke,hj,rfl,hml,hme,hmb,hbx,hrow,hent,hbr,hvo,hdis⟩:=hrel;have HDI:=hide hdis;rw [← HN.out] at hj;have HBX:=hide hbx;have HROW:=hide hrow;have HENT:=hide hent;have HBR:=hide hbr;have HVO:=hide hvo;have HME:=hide hme;have HMB:=hide hmb;have HML:=hide hml;have hmlb : ms'.length ≤ 10000000:=by omega
  clear hbx hrow hent hbr hvo hme hmb hml hdis;have hswr : W4.heap.size ≤ wr.heap.size:=HBR.out.size;have HPR:=hide (HP4.out.below HBR.out (by omega));have HRR:=hide (HR4.out.below HBR.out (by omega));have HBW:=hide (HB4.out.trans (HBR.out.mono (by omega)));have j0 : (0 : Int) ≤ (j : Int):=by omega
  have k8 : wr.cell? ⟨w.heap.size,8,none⟩ = some (.slice s.Ae n s.ke):=by rw [HN.out];exact HPR.out.cell 8
  by_cases hlt : j < n
  ·have js : (j : Int) < (n : Int):=by omega
   obtain ⟨b,off,m,hAe,hbB,hm,qc⟩:=ems_at (w:=wr) (B:=w.heap.size) (Reads.below HIN.out.row HBW.out) rfl (show j < s.ms.length by rw [← HN.out];exact hlt);have HAE:=hide hAe;have HLB:=hide hbB;have hmm:=HM.out m (List.mem_of_getElem? hm)
   have HTK : Hid ((s.ms.take (j + 1)).map Em.ev = ms'.map Em.ev ++ [m.ev]):=by
    show _ = _;rw [List.take_add_one,hm,List.map_append,HME.out]
    rfl
   have HIM:=hide (((HIN.out.ent m (List.mem_of_getElem? hm)).below HBW.out).more HBW.out.size);have HQ:=hide qc;rw [hAe] at k8;clear hm qc hAe;go_upto_region 6 with fail
   obtain ⟨wd,hwd⟩ : ∃ wd,wd = wr.drew:=⟨_,rfl⟩;have HS0 : Hid ((fun V : World => Blk V g 27 (Sm.cs ⟨s.c,A1,c1,Ae,ke,ms'⟩) ∧ V.cell? ⟨w.heap.size,8,none⟩ = some (.slice (some ⟨b,off,none⟩) n s.ke) ∧ ∀ j' v,m.cs[j']? = some v → V.cell? ((⟨b,off + j * 13,none⟩ : Addr).add j') = some v) wd):=by show _ ∧ _;rw [hwd];exact ⟨HBX.out.drew,k8,HQ.out⟩
   have hbd : Below wr.heap.size wr wd:=by rw [hwd];exact (Below.refl _ _).drew
   have HIM2 : Hid (EmIn wd wd.heap.size m):=by show EmIn _ _ _;rw [hwd];exact HIM.out.drew
   refine wp_region_L [11] (fun V : World => Blk V g 27 (Sm.cs ⟨s.c,A1,c1,Ae,ke,ms'⟩) ∧ V.cell? ⟨w.heap.size,8,none⟩ = some (.slice (some ⟨b,off,none⟩) n s.ke) ∧ ∀ j' v,m.cs[j']? = some v → V.cell? ((⟨b,off + j * 13,none⟩ : Addr).add j') = some v) (by kernel_rfl) ?_;rw [← hwd];clear hwd;refine tk 0 22 (v:=?_) rfl HS0.out ?_ ?_
   rotate_left;· intro V hV;go_simp;try with_reducible rfl
   try simp only [Act.put,aSt,aSz,aSs]
   refine tk 1 23 (v:=?_) rfl HS0.out ?_ ?_
   rotate_left
   ·intro V hV
    have a1 : V.cell? ⟨g,8,none⟩ = some (.slice Ae ms'.length ke):=hV.1.cell 8;go_simp;try with_reducible rfl
   try simp only [Act.put,aSt,aSz,aSs]
   refine tk 2 24 (v:=?_) rfl HS0.out ?_ ?_
   rotate_left;· intro V hV;go_simp;try with_reducible rfl
   try simp only [Act.put,aSt,aSz,aSs]
   refine tk 3 25 (v:=?_) rfl HS0.out ?_ ?_
   rotate_left
   ·intro V hV
    have a2:=hV.2.1;go_simp;try with_reducible rfl
   try simp only [Act.put,aSt,aSz,aSs]
   refine tk 4 26 (v:=?_) rfl HS0.out ?_ ?_
   rotate_left;· intro V hV;go_simp;try with_reducible rfl
   try simp only [Act.put,aSt,aSz,aSs]
   refine tk 5 27 (v:=?_) rfl HS0.out ?_ ?_
   rotate_left;· intro V hV;go_simp;try with_reducible rfl
   try simp only [Act.put,aSt,aSz,aSs]
   refine tk 6 28 (v:=.agg m.cs) rfl HS0.out ?_ ?_
   ·intro V hV;exact ex_load 33 (.tmp 27) rfl _ rfl m.cs _ Tryz.underlying33 rfl (ld29 _ (em_size _)) hV.2.2
   try simp only [Act.put,aSt,aSz,aSs]
   have hsd : W4.heap.size ≤ wd.heap.size:=Nat.le_trans hswr hbd.size;refine wpL_one 7 (by kernel_rfl) rfl (fun K hK => ?_);rw [if_pos (by rfl)];go_simp;go_at_call 48;refine (eventOf_row m wd HIM2.out hmm.1 hmm.2).mono ?_;rintro e w7 ⟨m2,rfl,hev,hns,hnb,hu,hb7⟩;have HEV:=hide hev;have HMB2 : Hid (m2.ns ≤ 10000000 ∧ m2.nb ≤ 10000000):=⟨by rw [hns];exact hmm.1,by rw [hnb];exact hmm.2⟩;have hb7w : Below wr.heap.size wr w7:=hbd.trans (hb7.mono hbd.size);have HBX7:=hide (HBX.out.below hb7w HBX.out.lt);have HROW7:=hide (own_step HROW.out hb7w);have HVO7:=hide (own_step HVO.out hb7w)
   have HE7 : Hid (∀ x ∈ ms' ++ [m2],EmO w7 W4.heap.size x):=fun x hx => by
    rcases List.mem_append.1 hx with hx | hx
    ·exact (HENT.out x hx).step hb7w
    ·obtain rfl : x = m2:=by simpa using hx
     exact hu.base hsd
   have HD7 : Hid ((ms' ++ [m2]).Pairwise EmSep):=by
    show List.Pairwise _ _;refine List.pairwise_append.2 ⟨HDI.out,List.pairwise_singleton _ _,fun x hx y hy => ?_⟩;obtain rfl : y = m2:=by simpa using hy
    exact emSep_lt (HENT.out x hx) hu hbd.size
   have HBR7:=hide (HBR.out.trans (hb7w.mono (by omega)));have HS7 : Hid ((fun V : World => Blk V g 27 (Sm.cs ⟨s.c,A1,c1,Ae,ke,ms'⟩) ∧ V.cell? ⟨w.heap.size,8,none⟩ = some (.slice (some ⟨b,off,none⟩) n s.ke) ∧ ∀ j' v,m.cs[j']? = some v → V.cell? ((⟨b,off + j * 13,none⟩ : Addr).add j') = some v) w7):=⟨HBX7.out,(hb7.cell (p:=⟨w.heap.size,8,none⟩) (by have:=HPR.out.lt;have:=hbd.size;show w.heap.size < _;omega)).trans HS0.out.2.1,fun j' v hv => (hb7.cell (by rw [block_of_add];have:=HLB.out;have:=hbd.size;show b < _;omega)).trans (HS0.out.2.2 j' v hv)⟩;have hs7 : W4.heap.size ≤ w7.heap.size:=HBR7.out.size;refine hK _ _ (fun _ => HS7.out) ?_;clear hK K hev hns hnb hu hb7 hb7w;try simp only [Act.put,aSt,aSz,aSs]
   refine wpL_one 8 (by kernel_rfl) rfl (fun K hK => ?_);rw [if_pos (by rfl)];unfold Oper.wp;rw [run_one29 (.tmp 29) rfl m2 rfl];have hal:=(Below.refl w7.heap.size w7).alloc (Nat.le_refl _) (.cells m2.cs 33);have HS8' : Hid ((fun V : World => Blk V g 27 (Sm.cs ⟨s.c,A1,c1,Ae,ke,ms'⟩) ∧ V.cell? ⟨w.heap.size,8,none⟩ = some (.slice (some ⟨b,off,none⟩) n s.ke) ∧ ∀ j' v,m.cs[j']? = some v → V.cell? ((⟨b,off + j * 13,none⟩ : Addr).add j') = some v) (w7.alloc (.cells m2.cs 33))):=⟨HBX7.out.alloc _,(hal.cell (p:=⟨w.heap.size,8,none⟩) (by show w.heap.size < _;omega)).trans HS7.out.2.1,fun j' v hv => (hal.cell (by rw [block_of_add];have:=HLB.out;have:=hs7;show b < _;omega)).trans (HS7.out.2.2 j' v hv)⟩;refine hK _ _ (fun _ => HS8'.out) ?_;clear hK K hal;try simp only [Act.put,aSt,aSz,aSs]
   refine wpL_one 9 (by kernel_rfl) rfl (fun K hK => ?_);refine step_push (w7.alloc (.cells m2.cs 33)) rfl (.tmp 23) (.tmp 30) 25 rfl W4.heap.size 33 i29 _ 13 160 Tryz.underlying25 I29.out Z29.out hs29 hb29 rfl (by omega) (.slice Ae ms'.length ke) ms'.length (emCells ms') rfl (own_step HROW7.out ((Below.refl w7.heap.size w7).alloc (Nat.le_refl _) _)) w7.heap.size 1 1 m2.cs rfl (Blk.new _ _ _) rfl (ecs_one m2) (by omega) (by unfold maxLen;omega) (by omega) (by simp;omega) ?_;intro g8 c8 w8 hown8 hgr8 _ _;have hal:=(Below.refl w7.heap.size w7).alloc (Nat.le_refl _) (.cells m2.cs 33);have hrowA:=own_step HROW7.out hal;have HB8 : Hid (Blk w8 g 27 (Sm.cs ⟨s.c,A1,c1,Ae,ke,ms'⟩)):=(HBX7.out.alloc _).grown hgr8 (own_ne hrowA (HBX7.out.alloc _) (by decide));have HO8:=hide hown8;have HE8 : Hid (∀ x ∈ ms' ++ [m2],EmO w8 W4.heap.size x):=fun x hx => ((HE7.out x hx).step hal).push hrowA (by decide) (by decide) hgr8
   have HVO8:=hide (own_kept (own_step HVO7.out hal) hrowA (by decide) hgr8);have HL8 : Hid (Below g W4 w8):=((HBR7.out.trans (hal.mono (by omega))).grown hgr8 (by simp;omega) (fun q hq => by have:=(hrowA.lt q hq).1;omega));have HS8 : Hid ((fun V : World => Blk V g 27 (Sm.cs ⟨s.c,A1,c1,Ae,ke,ms'⟩) ∧ V.cell? ⟨w.heap.size,8,none⟩ = some (.slice (some ⟨b,off,none⟩) n s.ke) ∧ ∀ j' v,m.cs[j']? = some v → V.cell? ((⟨b,off + j * 13,none⟩ : Addr).add j') = some v) w8):=⟨HB8.out,(HL8.out.cell (p:=⟨w.heap.size,8,none⟩) (by show w.heap.size < g;omega)).trans ((HBR.out.cell (p:=⟨w.heap.size,8,none⟩) (by show w.heap.size < g;omega)).symm.trans k8),fun j' v hv => (HL8.out.cell (by rw [block_of_add];have:=HLB.out;show b < g;omega)).trans ((HBR.out.cell (by rw [block_of_add];have:=HLB.out;show b < g;omega)).symm.trans (HQ.out j' v hv))⟩;refine hK _ _ (fun _ => HS8.out) ?_;clear hK K hown8 hgr8 hal hrowA;try simp only [Act.put,aSt,aSz,aSs]
   refine tk 10 32 (v:=?_) rfl HS8.out ?_ ?_
   rotate_left;· intro V hV;go_simp;try with_reducible rfl
   try simp only [Act.put,aSt,aSz,aSs]
   have c9:=HB8.out.cell 8;have f9:=Blk.frozen HB8.out 8;refine wpL_one 11 (by kernel_rfl) rfl (fun K hK => ?_);rw [if_pos (by rfl)];go_simp;refine hK _ _ (fun h => by cases h) ?_;clear hK K c9 f9;try simp only [Act.put,aSt,aSz,aSs]
   refine wpL_done (by kernel_rfl) ?_ _;obtain ⟨W9,hW9⟩ : ∃ W9,W9 = World.setCell w8 ⟨g,8,none⟩ (.slice (some ⟨g8,0,none⟩) (ms'.length + 1) c8):=⟨_,rfl⟩;rw [← hW9];have hWW : Only (fun q => q = g) w8 W9:=by rw [hW9];exact only_setCell0 w8 g 8 _
   have hn1 : (ms' ++ [m2]).length = ms'.length + 1:=by simp
   have HL9 : Hid (ScJO s W4 g A1 c1 (.int .i64 ((j : Int) + 1)) W9):=by
    refine ⟨j + 1,ms' ++ [m2],some ⟨g8,0,none⟩,c8,by rw [← HN.out];omega,by go_num,by rw [hn1,HML.out],?_,?_,?_,?_,?_,?_,?_,HD7.out⟩
    ·rw [List.map_append,HTK.out,← HEV.out]
     rfl
    ·intro x hx
     rcases List.mem_append.1 hx with hx | hx
     ·exact HMB.out x hx
     ·obtain rfl : x = m2:=by simpa using hx
      exact HMB2.out
    ·have:=HB8.out.set_ 8 (.slice (some ⟨g8,0,none⟩) (ms'.length + 1) c8)
     rw [← hW9] at this;rw [← hn1] at this;exact this
    ·rw [emCells_snoc,hn1]
     exact own_apart HO8.out hWW (fun k hk hq => by subst hq;exact ⟨_,_,HB8.out,by decide⟩)
    ·intro x hx
     exact (HE8.out x hx).far HB8.out (by decide) (by decide) hWW
    ·exact HL8.out.trans (hWW.below (by have:=HL8.out.size;omega) (fun k hk e => by have e2 : k = g:=e;omega))
    ·exact own_apart HVO8.out hWW (fun k hk hq => by subst hq;exact ⟨_,_,HB8.out,by decide⟩)
   clear hWW hW9;go_wp2_with fail;go_roundw
   case rel => first | exact HL9.out | exact ⟨_,HL9.out,rfl⟩
   case measure => simp [intOf];omega
  ·have js : ¬ (j : Int) < (n : Int):=by omega
   have hjn : j = n:=by omega
   have HF : Hid (ms'.map Em.ev = s.ms.map Em.ev):=by show _ = _;rw [HME.out,hjn,HN.out,List.take_length]
   go_upto_region 7 with fail
   refine wp_region_lit ?_;refine wpList_value rfl (.agg (Sm.cs ⟨s.c,A1,c1,Ae,ke,ms'⟩)) (ex_load 27 (.tmp 3) rfl _ rfl _ _ Tryz.underlying27 rfl (ld47 _ rfl) (box_all HBX.out)) ?_;simp only [Act.put,aSt,aSz,aSs];go_wp2_with (refine wpList_put_at rfl 27 (.tmp 2) (.tmp 33) rfl (w.heap.size + 1) 0 (Sm.cs ⟨s.c,A1,c1,Ae,ke,ms'⟩) rfl rfl 27 Z HRR.out (ld47 _ rfl) (by rw [sm_size,hZs];omega) (sm_all _) _ (sput Z _ hZs rfl) ?_);refine bodyPost_ret (results_47c rfl _ rfl (HRR.out.row _) rfl) rfl ?_;have hWW:=only_setRow wr (w.heap.size + 1) (Sm.cs ⟨s.c,A1,c1,Ae,ke,ms'⟩);refine ⟨⟨s.c,A1,c1,Ae,ke,ms'⟩,rfl,?_,SmO.far ⟨own_base HVO.out (by omega),own_base HROW.out hs4,fun m hm => (HENT.out m hm).base hs4,HDI.out,fun m hm => sep_lt HV4.out (HENT.out m hm).sid (Nat.le_refl _),by show s.c.votes.length ≤ _;rw [← HVN.out];omega,hmlb⟩ HRR.out (by decide) (by decide) (by decide) hWW,HMB.out,HBW.out.trans (hWW.below HBW.out.size (fun k hk e => by have e2 : k = w.heap.size + 1:=e;omega))⟩;show Sc.mk _ _ = Sc.mk _ _;rw [HF.out]
end Go.Proofs.YtcibcmfaebbhnaaGreatDoor
namespace Go.Proofs.YtcibcmfaebbhnaaGreatDoor.Tr
open Go.RowKit Go.WideShapes Go.ChangeShapes Q
def Mk.vm (m : Mk) : Value:=.slice m.Am m.nm m.cm
def Mk.vt (m : Mk) : Value:=.slice m.At m.nt m.ct
def Mk.vb (m : Mk) : Value:=.slice m.Ab m.nb m.cb
def MkSep (m m' : Mk) : Prop:=Sep m.vm m'.vm ∧ Sep m.vt m'.vt ∧ Sep m.vb m'.vb
theorem mkSep_lt {w w' : World} {b B : Nat} {m m' : Mk} (h : MkT w b m) (h' : MkT w' B m') (hB : w.heap.size ≤ B) : MkSep m m':=⟨sep_lt h.mem h'.mem hB,sep_lt h.tr h'.tr hB,sep_lt h.body h'.body hB⟩
def CLoopR (l : List Mk) (n : Nat) (w : World) (v i : Value) (wr : World) : Prop:=∃ (j : Nat) (l' : List Mk),j ≤ n ∧ i = .int .i64 j ∧ SameC (l.take j) l' ∧ wr.ownsRow w.heap.size 51 26 v j (mkCells l') ∧ (∀ m ∈ l',MkT wr w.heap.size m) ∧ Below w.heap.size w wr ∧ l'.Pairwise MkSep
def CPostR (l : List Mk) (n : Nat) (w : World) (e : Ending) (w' : World) : Prop:=∃ A' c' l',e = .returned (.slice A' n c') ∧ SameC l l' ∧ w'.ownsRow w.heap.size 51 26 (.slice A' n c') n (mkCells l') ∧ (∀ m ∈ l',MkT w' w.heap.size m) ∧ l'.Pairwise MkSep ∧ Below w.heap.size w w'
theorem marksOf_row (A : Option Addr) (n c : Nat) (l : List Mk) (w : World) (h : MsIn w w.heap.size A n l) (hn : n ≤ 1048576) :
  Calls Tryz.prog 23 #[.slice A n c] w fun e w' => CPostR l n w e w':=by
 have H:=hide h;have hll:=hide h.len;obtain ⟨i3,hi3,hz3,hs3,hb3⟩:=info_parts info3;obtain ⟨i5,hi5,hz5,hs5,hb5⟩:=info_parts info5;obtain ⟨i69,hi69,hz69,hs69,hb69⟩:=info_parts info69;obtain ⟨i48,hi48,hz48,hs48,hb48⟩:=info_parts info48;have I3:=hide hi3;have I5:=hide hi5;have I69:=hide hi69;have I48:=hide hi48;have Z3:=hide hz3;have Z5:=hide hz5;have Z69:=hide hz69;have Z48:=hide hz48;have HL1 : Hid (CLoopR l n w (.slice none 0 0) (.int .i64 0) w):=⟨0,[],Nat.zero_le _,rfl,⟨rfl,fun k m m' h1 h2 => by simp at h2⟩,World.ownsRow_nil _ _ _ _,fun m hm => by simp at hm,Below.refl _ _,List.Pairwise.nil⟩;clear hi3 hi5 hi69 hi48 hz3 hz5 hz69 hz48 h;go_enter Tryz.func23,Tryz.ntmps23;go_upto_region 3 with fail
 go_loopw [3,4,5] (fun v i _ wr => CLoopR l n w v i wr) (fun _ i _ _ => n - (intOf i).toNat)
 case atStart => exact HL1.out
 case round =>
  clear HL1;unfold CLoopR at hrel;obtain ⟨j,l',hj,rfl,hsame,hown,hent,hb,hdi⟩:=hrel;have HDI:=hide hdi;have HSA:=hide hsame;have HO:=hide hown;have HE:=hide hent;have HBB:=hide hb;obtain ⟨Av,cv,rfl⟩:=own_slice' hown;clear hsame hown hent hb hdi;have hsw : w.heap.size ≤ wr.heap.size:=HBB.out.size
  by_cases hlt : j < n
  ·obtain ⟨b,off,m,rfl,hbB,hm,hin,qc⟩:=(H.out.below HBB.out).at_ hlt
   have HQ:=hide (cells_add qc);have HMJ:=hide hm;have HIN:=hide hin;have hbW : b < wr.heap.size:=by omega
   clear hm hin qc;have k0 : (0 : Int) ≤ (j : Int):=by omega
   have kn : (j : Int) < (n : Int):=by omega
   go_upto_region 5 with fail
   refine wp_region_lit ?_;refine wpList_value rfl (.slice (some ⟨b,off,none⟩) n c) (by go_simp) ?_;refine wpList_value rfl (.int .i64 (j : Int)) (by go_simp) ?_;refine wpList_value rfl (.pointer (some ⟨b,off + j * 26,none⟩)) (by simp only [Act.put,aSt,aSz,aSs];go_simp) ?_;refine wpList_value rfl (.agg m.cs) (ex_load 51 (.tmp 14) rfl ⟨b,off + j * 26,none⟩ rfl m.cs _ Tryz.underlying51 rfl (ld48 _ (mk_size _)) HQ.out) ?_;simp only [Act.put,aSt,aSz,aSs];refine wpList_step (fun K hK => ?_);rw [if_pos (by rfl)];go_simp;refine hK _ _ ?_;clear hK K;refine wpList_store_fresh rfl 51 (.tmp 5) (.tmp 15) rfl _ m.cs rfl rfl (ld48 _ (mk_size _)) rfl (by simp [Mk.cs,Value.oneCell']) ?_;simp only [Act.put,aSt,aSz,aSs];go_upto_region 6 with fail
   obtain ⟨W0,hW0⟩ : ∃ W0,W0 = World.alloc wr (.cells m.cs 51):=⟨_,rfl⟩
   have HP0 : Hid (Blk W0 wr.heap.size 51 m.cs):=by
    show Blk W0 wr.heap.size 51 m.cs;rw [hW0];exact Blk.new _ _ _
   have HW0 : Hid (Below wr.heap.size wr W0):=by
    show Below wr.heap.size wr W0;rw [hW0];exact (Below.refl _ _).alloc (Nat.le_refl _) _
   rw [← hW0];clear hW0 HQ;obtain ⟨C0,hC0⟩ : ∃ C0,C0 = m.cs:=⟨_,rfl⟩;rw [← hC0] at HP0;have HC0:=hide hC0;clear hC0;have hbig0 : m.nm ≤ 100000000:=by have:=HIN.out.hm;omega
   have kC : (W0.alloc (.cells #[] 84)).cell? ⟨wr.heap.size,8,none⟩ = some (.slice m.Am m.nm m.cm):=by
    have:=(HP0.out.alloc (.cells #[] 84)).cell 8;rw [this,HC0.out]
    rfl
   have HN0 : Hid ((W0.alloc (.cells #[] 84)).ownsRow wr.heap.size 84 3 (.slice (some ⟨W0.heap.size,0,none⟩) 0 0) 0 []):=own_none (Blk.new W0 84 #[]) HW0.out.size;have HR0 : Hid (Reads (W0.alloc (.cells #[] 84)) w.heap.size 3 m.Am m.nm (sts m.ms)):=(Reads.below HIN.out.mem (HW0.out.mono hsw)).alloc (by have:=HW0.out.size;omega) _;have HWa0 : Hid (Below wr.heap.size wr (W0.alloc (.cells #[] 84))):=HW0.out.alloc HW0.out.size _;go_upto_region 7 with (at_builtin;refine wpList_append_any _ rfl (.tmp 16) (.tmp 18) 46 rfl wr.heap.size 84 i69 _ 3 24 Tryz.underlying46 I69.out Z69.out hs69 hb69 rfl (by omega) (.slice (some ⟨W0.heap.size,0,none⟩) 0 0) 0 [] rfl HN0.out w.heap.size m.Am m.nm m.cm (sts m.ms) rfl HR0.out (sts_one _) (by unfold maxLen;omega) (by omega) HWa0.out.size ?_;intro v wa hown hgr _;rw [Nat.zero_add,List.nil_append] at hown;obtain ⟨A0,c0,rfl⟩:=own_slice' hown;have HPa0:=hide ((HP0.out.alloc _).grown hgr (by intro e;have h1 : wr.heap.size = W0.heap.size:=Option.some.inj e;have h2:=HP0.out.lt;omega));have HOa0:=hide hown;have HGa0:=hide hgr;have HWb0:=hide (HWa0.out.grown hgr HWa0.out.size (fun q hq => by have h1 : W0.heap.size = q:=Option.some.inj hq;have h2:=HW0.out.size;omega));have kD : wa.cell? ⟨wr.heap.size,8,none⟩ = some (.slice m.Am m.nm m.cm):=(by have:=HPa0.out.cell 8;rw [this,HC0.out];rfl);have fD:=HPa0.out.frozen 8;clear hown hgr)
   clear kC;obtain ⟨W1,hW⟩ : ∃ W,W = World.setCell wa ⟨wr.heap.size,8,none⟩ (.slice A0 m.nm c0):=⟨_,rfl⟩;obtain ⟨C1,hC⟩ : ∃ C,C = C0.setIfInBounds 8 (.slice A0 m.nm c0):=⟨_,rfl⟩
   have HP1 : Hid (Blk W1 wr.heap.size 51 C1):=by
    show Blk W1 wr.heap.size 51 C1;rw [hW,hC];exact HPa0.out.set_ 8 _
   have HW1 : Hid (Below wr.heap.size wr W1):=by
    show Below wr.heap.size wr W1;rw [hW];exact HWb0.out.setCell (Nat.le_refl _) _
   have HO0_1 : Hid (W1.ownsRow wr.heap.size 84 3 (.slice A0 m.nm c0) m.nm (sts m.ms)):=by
    show World.ownsRow W1 _ _ _ _ _ _;rw [hW];exact ownsRow_setCell_other HOa0.out (own_blk_ne HOa0.out HPa0.out (by decide)) _
   have HC1:=hide hC;rw [← hW];clear hW hC kD fD HN0 HR0 HWa0 HPa0 HOa0 HGa0 HWb0;have hbig1 : m.nt ≤ 100000000:=by have:=HIN.out.ht;omega
   have kC : (W1.alloc (.cells #[] 3)).cell? ⟨wr.heap.size,9,none⟩ = some (.slice m.At m.nt m.ct):=by
    have:=(HP1.out.alloc (.cells #[] 3)).cell 9;rw [this,HC1.out,HC0.out]
    rfl
   have HN1 : Hid ((W1.alloc (.cells #[] 3)).ownsRow wr.heap.size 3 1 (.slice (some ⟨W1.heap.size,0,none⟩) 0 0) 0 []):=own_none (Blk.new W1 3 #[]) HW1.out.size;have HR1 : Hid (Reads (W1.alloc (.cells #[] 3)) w.heap.size 1 m.At m.nt (ints m.ts)):=(Reads.below HIN.out.tr (HW1.out.mono hsw)).alloc (by have:=HW1.out.size;omega) _;have HWa1 : Hid (Below wr.heap.size wr (W1.alloc (.cells #[] 3))):=HW1.out.alloc HW1.out.size _;go_upto_region 8 with (at_builtin;refine wpList_append_any _ rfl (.tmp 21) (.tmp 23) 22 rfl wr.heap.size 3 i3 _ 1 8 Tryz.underlying22 I3.out Z3.out hs3 hb3 rfl (by omega) (.slice (some ⟨W1.heap.size,0,none⟩) 0 0) 0 [] rfl HN1.out w.heap.size m.At m.nt m.ct (ints m.ts) rfl HR1.out (ints_one' _) (by unfold maxLen;omega) (by omega) HWa1.out.size ?_;intro v wa hown hgr _;rw [Nat.zero_add,List.nil_append] at hown;obtain ⟨A1,c1,rfl⟩:=own_slice' hown;have HPa1:=hide ((HP1.out.alloc _).grown hgr (by intro e;have h1 : wr.heap.size = W1.heap.size:=Option.some.inj e;have h2:=HP1.out.lt;omega));have HOa1:=hide hown;have HGa1:=hide hgr;have HWb1:=hide (HWa1.out.grown hgr HWa1.out.size (fun q hq => by have h1 : W1.heap.size = q:=Option.some.inj hq;have h2:=HW1.out.size;omega));have kD : wa.cell? ⟨wr.heap.size,9,none⟩ = some (.slice m.At m.nt m.ct):=(by have:=HPa1.out.cell 9;rw [this,HC1.out,HC0.out];rfl);have fD:=HPa1.out.frozen 9;clear hown hgr)
   clear kC;obtain ⟨W2,hW⟩ : ∃ W,W = World.setCell wa ⟨wr.heap.size,9,none⟩ (.slice A1 m.nt c1):=⟨_,rfl⟩;obtain ⟨C2,hC⟩ : ∃ C,C = C1.setIfInBounds 9 (.slice A1 m.nt c1):=⟨_,rfl⟩
   have HP2 : Hid (Blk W2 wr.heap.size 51 C2):=by
    show Blk W2 wr.heap.size 51 C2;rw [hW,hC];exact HPa1.out.set_ 9 _
   have HW2 : Hid (Below wr.heap.size wr W2):=by
    show Below wr.heap.size wr W2;rw [hW];exact HWb1.out.setCell (Nat.le_refl _) _
   have HO1_2 : Hid (W2.ownsRow wr.heap.size 3 1 (.slice A1 m.nt c1) m.nt (ints m.ts)):=by
    show World.ownsRow W2 _ _ _ _ _ _;rw [hW];exact ownsRow_setCell_other HOa1.out (own_blk_ne HOa1.out HPa1.out (by decide)) _
   have HO0_2 : Hid (W2.ownsRow wr.heap.size 84 3 (.slice A0 m.nm c0) m.nm (sts m.ms)):=by
    show World.ownsRow W2 _ _ _ _ _ _;rw [hW];have h1:=own_kept (HO0_1.out.alloc (.cells #[] 3)) HN1.out (by decide) HGa1.out;exact ownsRow_setCell_other h1 (own_blk_ne h1 HPa1.out (by decide)) _
   have HC2:=hide hC;rw [← hW];clear hW hC kD fD HN1 HR1 HWa1 HPa1 HOa1 HGa1 HWb1;have hbig2 : m.nb ≤ 100000000:=by have:=HIN.out.hb;omega
   have kC : (W2.alloc (.cells #[] 5)).cell? ⟨wr.heap.size,14,none⟩ = some (.slice m.Ab m.nb m.cb):=by
    have:=(HP2.out.alloc (.cells #[] 5)).cell 14;rw [this,HC2.out,HC1.out,HC0.out]
    rfl
   have HN2 : Hid ((W2.alloc (.cells #[] 5)).ownsRow wr.heap.size 5 1 (.slice (some ⟨W2.heap.size,0,none⟩) 0 0) 0 []):=own_none (Blk.new W2 5 #[]) HW2.out.size;have HR2 : Hid (Reads (W2.alloc (.cells #[] 5)) w.heap.size 1 m.Ab m.nb (Lib.byteCells m.bd)):=(Reads.below HIN.out.body (HW2.out.mono hsw)).alloc (by have:=HW2.out.size;omega) _;have HWa2 : Hid (Below wr.heap.size wr (W2.alloc (.cells #[] 5))):=HW2.out.alloc HW2.out.size _;go_upto_region 9 with (at_builtin;refine wpList_append_any _ rfl (.tmp 26) (.tmp 28) 29 rfl wr.heap.size 5 i5 _ 1 1 Tryz.underlying29 I5.out Z5.out hs5 hb5 rfl (by omega) (.slice (some ⟨W2.heap.size,0,none⟩) 0 0) 0 [] rfl HN2.out w.heap.size m.Ab m.nb m.cb (Lib.byteCells m.bd) rfl HR2.out (bytes_one _) (by unfold maxLen;omega) (by omega) HWa2.out.size ?_;intro v wa hown hgr _;rw [Nat.zero_add,List.nil_append] at hown;obtain ⟨A2,c2,rfl⟩:=own_slice' hown;have HPa2:=hide ((HP2.out.alloc _).grown hgr (by intro e;have h1 : wr.heap.size = W2.heap.size:=Option.some.inj e;have h2:=HP2.out.lt;omega));have HOa2:=hide hown;have HGa2:=hide hgr;have HWb2:=hide (HWa2.out.grown hgr HWa2.out.size (fun q hq => by have h1 : W2.heap.size = q:=Option.some.inj hq;have h2:=HW2.out.size;omega));have kD : wa.cell? ⟨wr.heap.size,14,none⟩ = some (.slice m.Ab m.nb m.cb):=(by have:=HPa2.out.cell 14;rw [this,HC2.out,HC1.out,HC0.out];rfl);have fD:=HPa2.out.frozen 14;clear hown hgr)
   clear kC;obtain ⟨W3,hW⟩ : ∃ W,W = World.setCell wa ⟨wr.heap.size,14,none⟩ (.slice A2 m.nb c2):=⟨_,rfl⟩;obtain ⟨C3,hC⟩ : ∃ C,C = C2.setIfInBounds 14 (.slice A2 m.nb c2):=⟨_,rfl⟩
   have HP3 : Hid (Blk W3 wr.heap.size 51 C3):=by
    show Blk W3 wr.heap.size 51 C3;rw [hW,hC];exact HPa2.out.set_ 14 _
   have HW3 : Hid (Below wr.heap.size wr W3):=by
    show Below wr.heap.size wr W3;rw [hW];exact HWb2.out.setCell (Nat.le_refl _) _
   have HO2_3 : Hid (W3.ownsRow wr.heap.size 5 1 (.slice A2 m.nb c2) m.nb (Lib.byteCells m.bd)):=by
    show World.ownsRow W3 _ _ _ _ _ _;rw [hW];exact ownsRow_setCell_other HOa2.out (own_blk_ne HOa2.out HPa2.out (by decide)) _
   have HO0_3 : Hid (W3.ownsRow wr.heap.size 84 3 (.slice A0 m.nm c0) m.nm (sts m.ms)):=by
    show World.ownsRow W3 _ _ _ _ _ _;rw [hW];have h1:=own_kept (HO0_2.out.alloc (.cells #[] 5)) HN2.out (by decide) HGa2.out;exact ownsRow_setCell_other h1 (own_blk_ne h1 HPa2.out (by decide)) _
   have HO1_3 : Hid (W3.ownsRow wr.heap.size 3 1 (.slice A1 m.nt c1) m.nt (ints m.ts)):=by
    show World.ownsRow W3 _ _ _ _ _ _;rw [hW];have h1:=own_kept (HO1_2.out.alloc (.cells #[] 5)) HN2.out (by decide) HGa2.out;exact ownsRow_setCell_other h1 (own_blk_ne h1 HPa2.out (by decide)) _
   have HC3:=hide hC;rw [← hW];clear hW hC kD fD HN2 HR2 HWa2 HPa2 HOa2 HGa2 HWb2;obtain ⟨m',hm'⟩ : ∃ m',m' = m.at A0 c0 A1 c1 A2 c2:=⟨_,rfl⟩;have HM':=hide hm'
   have HPF : Hid (Blk W3 wr.heap.size 51 m'.cs):=by
    show Blk W3 wr.heap.size 51 m'.cs;have h1:=HP3.out;rw [HC3.out,HC2.out,HC1.out,HC0.out] at h1;rw [hm'];exact h1
   have HMW : Hid (MkT W3 wr.heap.size m'):=by
    show MkT W3 wr.heap.size m';rw [hm'];exact ⟨HO0_3.out,HO1_3.out,HO2_3.out,HIN.out.hm,HIN.out.ht,HIN.out.hb⟩
   have HMT:=hide (HMW.out.base hsw)
   have HD3 : Hid ((l' ++ [m']).Pairwise MkSep):=by
    show List.Pairwise _ _;refine List.pairwise_append.2 ⟨HDI.out,List.pairwise_singleton _ _,fun x hx y hy => ?_⟩;obtain rfl : y = m':=by simpa using hy
    exact mkSep_lt (HE.out x hx) HMW.out (Nat.le_refl _)
   have HOv : Hid (W3.ownsRow w.heap.size 51 26 (.slice Av j cv) j (mkCells l')):=own_step HO.out HW3.out;have HE3 : Hid (∀ q ∈ l',MkT W3 w.heap.size q):=fun q hq => (HE.out q hq).step HW3.out
   have HB3:=hide (HBB.out.trans (HW3.out.mono hsw));clear hm' HP3 HC3 HC2 HC1 HC0 HO0_3 HO1_3 HO2_3 HO HE HW3 HP0 HP1 HP2;refine wp_region_lit ?_;refine wpList_value rfl (.slice Av j cv) (by go_simp) ?_;refine wpList_value rfl (.agg m'.cs) (ex_load 51 (.tmp 5) rfl _ rfl m'.cs _ Tryz.underlying51 rfl (ld48 _ (mk_size _)) (box_all HPF.out)) ?_;simp only [Act.put,aSt,aSz,aSs];refine wpList_one48 rfl (.tmp 32) rfl m' rfl ?_;simp only [Act.put,aSt,aSz,aSs];refine wpList_push (W:=W3) (cs:=m'.cs) rfl (.tmp 31) (.tmp 33) 28 rfl w.heap.size 51 i48 _ 26 288 Tryz.underlying28 I48.out Z48.out hs48 hb48 rfl (by omega) (.slice Av j cv) j (mkCells l') rfl HOv.out 1 1 rfl rfl (cs_one m') (by omega) (by unfold maxLen;omega) (by omega) HB3.out.size ?_;intro g4 c4 W4 hown4 hgr4 hb4 _ _ _
   have HL4 : Hid (CLoopR l n w (.slice (some ⟨g4,0,none⟩) (j + 1) c4) (.int .i64 ((j : Int) + 1)) W4):=by
    refine ⟨j + 1,l' ++ [m'],by omega,by go_num,HSA.out.snoc HMJ.out ⟨_,_,_,_,_,_,HM'.out⟩,?_,?_,HB3.out.trans hb4,HD3.out⟩
    ·rw [mkCells_snoc]
     exact hown4
    ·intro q hq
     rcases List.mem_append.1 hq with hq | hq
     ·exact ((HE3.out q hq).step ((Below.refl _ _).alloc (Nat.le_refl _) _)).push (HOv.out.alloc _) hgr4
     ·obtain rfl : q = m':=by simpa using hq
      exact (HMT.out.step ((Below.refl _ _).alloc (Nat.le_refl _) _)).push (HOv.out.alloc _) hgr4
   clear hown4 hgr4 hb4 HOv HE3 HB3 HMT HPF;simp only [Act.put,aSt,aSz,aSs];go_wp2_with fail;go_roundw
   case rel => first | exact HL4.out | exact ⟨_,_,_,HL4.out,rfl,rfl,rfl⟩
   case measure => simp [intOf];omega
  ·have kn : ¬ (j : Int) < (n : Int):=by omega
   obtain rfl : j = n:=by omega
   clear hlt;go_wp2_with fail;go_ret;have ht : l.take j = l:=List.take_of_length_le (by have:=hll.out;omega);have hs:=HSA.out;rw [ht] at hs;exact ⟨Av,cv,l',rfl,hs,HO.out,HE.out,HDI.out,HBB.out⟩
end Go.Proofs.YtcibcmfaebbhnaaGreatDoor.Tr
namespace Go.Proofs.YtcibcmfaebbhnaaGreatDoor
open Go.RowKit Go.WideShapes Go.ChangeShapes Q
def OvP (b : Nat) (t : TypeId) (sz : Nat) (v : Value) (m : Nat) (xs : List Value) (w : World) (e : Ending) (w' : World) : Prop:=∃ A' c',e = .returned (.slice A' m c') ∧ w'.ownsRow b t sz (.slice A' m c') m xs ∧ w.grownBy w' v.ownBlock ∧ ((Value.slice A' m c').ownBlock = v.ownBlock ∨ (Value.slice A' m c').ownBlock = some w.heap.size)
theorem own_front {w : World} {b t sz n c : Nat} {A : Option Addr} {xs : List Value} (h : w.ownsRow b t sz (.slice A n c) n xs) : w.ownsRow b t sz (.slice A 0 c) 0 []:=by
 refine ⟨by simp,?_⟩
 rcases h.2 with ⟨hv,h0⟩ | ⟨g,cap,cur,hv,hb,hg,h1,h2,h3,h4⟩
 ·injection hv with e1 e2 e3
  subst e1 e3;exact .inl ⟨rfl,rfl⟩
 ·injection hv with e1 e2 e3
  subst e1 e3;exact .inr ⟨g,c,cur,rfl,hb,hg,Nat.zero_le _,h2,h3,by simp⟩
theorem over_any (A0 : Option Addr) (n0 c0 : Nat) (xs0 : List Value) (A : Option Addr) (m c : Nat) (l : List Int) (b : Nat) (w : World) (h0 : w.ownsRow b 3 1 (.slice A0 n0 c0) n0 xs0) (h : Reads w b 1 A m (ints l)) (hm : m ≤ 10000000) (hb : b ≤ w.heap.size) :
  Calls Tryz.prog 24 #[.slice A0 n0 c0,.slice A m c] w fun e w' => OvP b 3 1 (.slice A0 n0 c0) m (ints l) w e w':=by
 obtain ⟨i_,hi,hz,hs,hb_⟩:=info_parts info3;have HI:=hide hi;have HZ:=hide hz;have HF:=hide (own_front h0);have HR:=hide h;have hcap : 0 ≤ c0:=Nat.zero_le _;clear hi hz h0 h;go_enter Tryz.func24,Tryz.ntmps24;go_wp2_with (at_builtin;refine wpList_append_any _ rfl (.tmp 6) (.tmp 7) 22 rfl b 3 i_ _ 1 8 Tryz.underlying22 HI.out HZ.out hs hb_ rfl (by omega) (.slice A0 0 c0) 0 [] (by go_simp) HF.out b A m c (ints l) (by go_simp) HR.out (one_ints _) (by unfold maxLen;omega) (by omega) hb ?_;intro v wa hown hgr hor;rw [Nat.zero_add,List.nil_append] at hown;obtain ⟨A1,c1,rfl⟩:=own_slice' hown;have HOW:=hide hown;have HGR:=hide hgr;have HOR:=hide hor;clear hown hgr hor);go_ret;have e : (Value.slice A0 0 c0).ownBlock = (Value.slice A0 n0 c0).ownBlock:=by cases A0 <;> rfl
 have h1:=HGR.out;have h2:=HOR.out;rw [e] at h1 h2;exact ⟨A1,c1,rfl,HOW.out,h1,h2⟩
theorem overBytes_any (A0 : Option Addr) (n0 c0 : Nat) (xs0 : List Value) (A : Option Addr) (m c : Nat) (l : List UInt8) (b : Nat) (w : World) (h0 : w.ownsRow b 5 1 (.slice A0 n0 c0) n0 xs0) (h : Reads w b 1 A m (Lib.byteCells l)) (hm : m ≤ 10000000) (hb : b ≤ w.heap.size) :
  Calls Tryz.prog 25 #[.slice A0 n0 c0,.slice A m c] w fun e w' => OvP b 5 1 (.slice A0 n0 c0) m (Lib.byteCells l) w e w':=by
 obtain ⟨i_,hi,hz,hs,hb_⟩:=info_parts info5;have HI:=hide hi;have HZ:=hide hz;have HF:=hide (own_front h0);have HR:=hide h;have hcap : 0 ≤ c0:=Nat.zero_le _;clear hi hz h0 h;go_enter Tryz.func25,Tryz.ntmps25;go_wp2_with (at_builtin;refine wpList_append_any _ rfl (.tmp 6) (.tmp 7) 29 rfl b 5 i_ _ 1 1 Tryz.underlying29 HI.out HZ.out hs hb_ rfl (by omega) (.slice A0 0 c0) 0 [] (by go_simp) HF.out b A m c (Lib.byteCells l) (by go_simp) HR.out (one_bytes _) (by unfold maxLen;omega) (by omega) hb ?_;intro v wa hown hgr hor;rw [Nat.zero_add,List.nil_append] at hown;obtain ⟨A1,c1,rfl⟩:=own_slice' hown;have HOW:=hide hown;have HGR:=hide hgr;have HOR:=hide hor;clear hown hgr hor);go_ret;have e : (Value.slice A0 0 c0).ownBlock = (Value.slice A0 n0 c0).ownBlock:=by cases A0 <;> rfl
 have h1:=HGR.out;have h2:=HOR.out;rw [e] at h1 h2;exact ⟨A1,c1,rfl,HOW.out,h1,h2⟩
section
variable {α : Type} {cel : α → List Value} {sz : Nat}
theorem flat_len2 (hc : ∀ x,(cel x).length = sz) : ∀ l : List α,(l.flatMap cel).length = l.length * sz
 | [] => by simp
 | a :: l => by rw [List.flatMap_cons,List.length_append,hc,flat_len2 hc l,List.length_cons,Nat.succ_mul,Nat.add_comm]
theorem flat_cell (hc : ∀ x,(cel x).length = sz) {x x' : α} {i : Nat} {v : Value} (hi : i < sz) (hx : cel x' = (cel x).set i v) : ∀ {l : List α} {j : Nat},l[j]? = some x → (l.set j x').flatMap cel = (l.flatMap cel).set (j * sz + i) v
 | [],j,h => by simp at h
 | a :: r,0,h => by
  obtain rfl : a = x:=by simpa using h
  rw [List.set_cons_zero,List.flatMap_cons,List.flatMap_cons,hx,Nat.zero_mul,Nat.zero_add,List.set_append_left _ _ (by rw [hc];exact hi)]
 | a :: r,j + 1,h => by
  have h2 : r[j]? = some x:=by simpa using h
  rw [List.set_cons_succ,List.flatMap_cons,List.flatMap_cons,flat_cell hc hi hx h2,List.set_append_right _ _ (by rw [hc,Nat.succ_mul];omega),hc,Nat.succ_mul]
  congr 1
  congr 1
  omega
theorem flat_put (hc : ∀ x,(cel x).length = sz) (x : α) : ∀ {l : List α} {j : Nat},j < l.length → (l.set j x).flatMap cel = (l.flatMap cel).take (j * sz) ++ cel x ++ (l.flatMap cel).drop (j * sz + sz)
 | [],j,h => by simp at h
 | a :: r,0,h => by
  rw [List.set_cons_zero,List.flatMap_cons,List.flatMap_cons,Nat.zero_mul,Nat.zero_add,List.take_zero,List.nil_append];have:=hc a;rw [← this,List.drop_left]
 | a :: r,j + 1,h => by
  have h2 : j < r.length:=by simpa using h
  rw [List.set_cons_succ,List.flatMap_cons,List.flatMap_cons,flat_put hc x h2];have h3:=hc a;have e1 : (j + 1) * sz = (cel a).length + j * sz:=by rw [h3,Nat.succ_mul];omega
  have e2 : (j + 1) * sz + sz = (cel a).length + (j * sz + sz):=by rw [e1];omega
  rw [e2,e1,List.take_length_add_append,List.drop_length_add_append];simp
theorem own_cell {w : World} {b g c n j i : Nat} {t : TypeId} {l : List α} {x x' : α} {v : Value} (hc : ∀ x,(cel x).length = sz) (h : w.ownsRow b t sz (.slice (some ⟨g,0,none⟩) n c) n (l.flatMap cel)) (hl : l.length = n) (hj : l[j]? = some x) (hi : i < sz) (hx : cel x' = (cel x).set i v) :
  (w.setCell ⟨g,j * sz + i,none⟩ v).ownsRow b t sz (.slice (some ⟨g,0,none⟩) n c) n ((l.set j x').flatMap cel):=by
 refine ⟨by rw [flat_len2 hc,List.length_set,hl],?_⟩
 rcases h.2 with ⟨h0,_⟩ | ⟨g2,cap,cur,e,hb,hg,h1,h2,h3,h4⟩
 ·cases h0
 ·injection e with e1 e2 e3
  injection e1 with e1
  injection e1 with e1
  subst e1 e3;refine .inr ⟨g,c,cur.setIfInBounds (j * sz + i) v,rfl,hb,Blk.set_ hg _ _,h1,h2,by simp [h3],?_⟩;rw [flat_cell hc hi hx hj,← h4,Array.toList_setIfInBounds,List.take_set]
theorem own_put {w : World} {b g c n j : Nat} {t : TypeId} {l : List α} (x : α) {cur : Array Value} (hc : ∀ x,(cel x).length = sz) (h : w.ownsRow b t sz (.slice (some ⟨g,0,none⟩) n c) n (l.flatMap cel)) (hl : l.length = n) (hj : j < n) (hk : Blk w g t cur) :
  (w.setRow g (putAt cur (j * sz) (cel x).toArray)).ownsRow b t sz (.slice (some ⟨g,0,none⟩) n c) n ((l.set j x).flatMap cel):=by
 refine ⟨by rw [flat_len2 hc,List.length_set,hl],?_⟩
 rcases h.2 with ⟨h0,_⟩ | ⟨g2,cap,cur2,e,hb,hg,h1,h2,h3,h4⟩
 ·cases h0
 ·injection e with e1 e2 e3
  injection e1 with e1
  injection e1 with e1
  subst e1 e3
  obtain rfl : cur2 = cur:=by
   have:=hg.symm.trans hk;injection this with this
   injection this
  have hcs : cur2.toList.length = c * sz:=by simpa using h3
  have hjs : j * sz + sz ≤ n * sz:=by rw [← Nat.succ_mul];exact Nat.mul_le_mul_right _ hj
  have hns : n * sz ≤ c * sz:=Nat.mul_le_mul_right _ h1;have hx:=hc x;refine .inr ⟨g,c,putAt cur2 (j * sz) (cel x).toArray,rfl,hb,hk.row _,h1,h2,?_,?_⟩
  ·unfold putAt
   simp [hx];omega
  ·rw [flat_put hc x (by omega),← h4]
   unfold putAt;simp only [List.size_toArray,hx]
   have hA : (cur2.toList.take (j * sz) ++ (cel x)).length = j * sz + sz:=by
    rw [List.length_append,List.length_take,hx,hcs];omega
   rw [List.take_take,Nat.min_eq_left (by omega),List.drop_take,List.take_append,List.take_of_length_le (by rw [hA];exact hjs),hA]
end
end Go.Proofs.YtcibcmfaebbhnaaGreatDoor
namespace Go.Proofs.YtcibcmfaebbhnaaGreatDoor
open Go.RowKit Go.WideShapes Go.ChangeShapes Q Tr
def Sm.vv (s : Sm) : Value:=.slice s.A s.c.votes.length s.k
structure PS (b pin : Nat) (s : Sm) (ls : List Mk) (Am : Option Addr) (cm : Nat) (xv : Bool) (xe xm : Option Nat) (W : World) : Prop where
 bx : Blk W pin 27 s.cs
 vot : xv = false → W.ownsRow b 3 1 s.vv s.c.votes.length (ints s.c.votes)
 row : W.ownsRow b 33 13 (.slice s.Ae s.ms.length s.ke) s.ms.length (emCells s.ms)
 ent : ∀ j m,s.ms[j]? = some m → xe ≠ some j → EmO W b m
 mrow : W.ownsRow b 51 26 (.slice Am ls.length cm) ls.length (mkCells ls)
 ment : ∀ j m,ls[j]? = some m → xm ≠ some j → MkT W b m
 ve : xv = false → ∀ j m,s.ms[j]? = some m → xe ≠ some j → Sep s.vv m.vs
 vm : xv = false → ∀ j m,ls[j]? = some m → xm ≠ some j → Sep s.vv m.vt
 ee : ∀ j j' m m',s.ms[j]? = some m → s.ms[j']? = some m' → j ≠ j' → xe ≠ some j → xe ≠ some j' → EmSep m m'
 mm : ∀ j j' m m',ls[j]? = some m → ls[j']? = some m' → j ≠ j' → xm ≠ some j → xm ≠ some j' → MkSep m m'
 em : ∀ j j' m m',s.ms[j]? = some m → ls[j']? = some m' → xe ≠ some j → xm ≠ some j' → Sep m.vs m'.vt ∧ Sep m.vb m'.vb
structure PI (s : Sm) (ls : List Mk) (xv : Bool) (xe xm : Option Nat) (v : Value) : Prop where
 pv : xv = false → Sep s.vv v
 e : ∀ j m,s.ms[j]? = some m → xe ≠ some j → Sep m.vs v
 m : ∀ j m,ls[j]? = some m → xm ≠ some j → Sep m.vt v
structure PB (s : Sm) (ls : List Mk) (xe xm : Option Nat) (v : Value) : Prop where
 e : ∀ j m,s.ms[j]? = some m → xe ≠ some j → Sep m.vb v
 m : ∀ j m,ls[j]? = some m → xm ≠ some j → Sep m.vb v
structure PM (ls : List Mk) (xm : Option Nat) (v : Value) : Prop where
 m : ∀ j m,ls[j]? = some m → xm ≠ some j → Sep m.vm v
section
variable {b pin cm : Nat} {s : Sm} {ls : List Mk} {Am : Option Addr} {xv : Bool} {xe xm : Option Nat} {W W' : World}
theorem sep_new {t b n sz B : Nat} {v v0 v' : Value} {xs : List Value} {W : World} (h : W.ownsRow b t sz v n xs) (hs : Sep v v0) (h' : v'.ownBlock = v0.ownBlock ∨ v'.ownBlock = some W.heap.size) : Sep v v':=by
 intro q h1 h2
 rcases h' with e | e
 ·exact hs q h1 (e ▸ h2)
 ·have:=(h.lt q h1).2
  rw [e] at h2;injection h2 with h2
  omega
theorem PS.step (h : PS b pin s ls Am cm xv xe xm W) (hb : Below W.heap.size W W') : PS b pin s ls Am cm xv xe xm W' :=
 ⟨h.bx.below hb h.bx.lt,fun e => own_step (h.vot e) hb,own_step h.row hb,fun j m hm hj => (h.ent j m hm hj).step hb,own_step h.mrow hb,fun j m hm hj => (h.ment j m hm hj).step hb,h.ve,h.vm,h.ee,h.mm,h.em⟩
theorem PS.int (h : PS b pin s ls Am cm xv xe xm W) {b' n sz : Nat} {v0 : Value} {xs : List Value} (h0 : W.ownsRow b' 3 sz v0 n xs) (hp : PI s ls xv xe xm v0) (hg : W.grownBy W' v0.ownBlock) : PS b pin s ls Am cm xv xe xm W' :=
 ⟨h.bx.grown hg (own_ne h0 h.bx (by decide)),fun e => own_sep (h.vot e) (hp.pv e) hg,own_kept h.row h0 (by decide) hg,
  fun j m hm hj => ⟨own_sep (h.ent j m hm hj).sid (hp.e j m hm hj) hg,own_kept (h.ent j m hm hj).body h0 (by decide) hg,(h.ent j m hm hj).hs,(h.ent j m hm hj).hb⟩,
  own_kept h.mrow h0 (by decide) hg,
  fun j m hm hj => ⟨own_kept (h.ment j m hm hj).mem h0 (by decide) hg,own_sep (h.ment j m hm hj).tr (hp.m j m hm hj) hg,own_kept (h.ment j m hm hj).body h0 (by decide) hg,(h.ment j m hm hj).hm,(h.ment j m hm hj).ht,(h.ment j m hm hj).hb⟩,
  h.ve,h.vm,h.ee,h.mm,h.em⟩
theorem PS.int_new (h : PS b pin s ls Am cm xv xe xm W) {v0 v' : Value} (hp : PI s ls xv xe xm v0) (h' : v'.ownBlock = v0.ownBlock ∨ v'.ownBlock = some W.heap.size) : PI s ls xv xe xm v' :=
 ⟨fun e => sep_new (B:=0) (h.vot e) (hp.pv e) h',fun j m hm hj => sep_new (B:=0) (h.ent j m hm hj).sid (hp.e j m hm hj) h',fun j m hm hj => sep_new (B:=0) (h.ment j m hm hj).tr (hp.m j m hm hj) h'⟩
theorem PS.byt (h : PS b pin s ls Am cm xv xe xm W) {b' n sz : Nat} {v0 : Value} {xs : List Value} (h0 : W.ownsRow b' 5 sz v0 n xs) (hp : PB s ls xe xm v0) (hg : W.grownBy W' v0.ownBlock) : PS b pin s ls Am cm xv xe xm W' :=
 ⟨h.bx.grown hg (own_ne h0 h.bx (by decide)),fun e => own_kept (h.vot e) h0 (by decide) hg,own_kept h.row h0 (by decide) hg,
  fun j m hm hj => ⟨own_kept (h.ent j m hm hj).sid h0 (by decide) hg,own_sep (h.ent j m hm hj).body (hp.e j m hm hj) hg,(h.ent j m hm hj).hs,(h.ent j m hm hj).hb⟩,
  own_kept h.mrow h0 (by decide) hg,
  fun j m hm hj => ⟨own_kept (h.ment j m hm hj).mem h0 (by decide) hg,own_kept (h.ment j m hm hj).tr h0 (by decide) hg,own_sep (h.ment j m hm hj).body (hp.m j m hm hj) hg,(h.ment j m hm hj).hm,(h.ment j m hm hj).ht,(h.ment j m hm hj).hb⟩,
  h.ve,h.vm,h.ee,h.mm,h.em⟩
theorem PS.byt_new (h : PS b pin s ls Am cm xv xe xm W) {v0 v' : Value} (hp : PB s ls xe xm v0) (h' : v'.ownBlock = v0.ownBlock ∨ v'.ownBlock = some W.heap.size) : PB s ls xe xm v' :=
 ⟨fun j m hm hj => sep_new (B:=0) (h.ent j m hm hj).body (hp.e j m hm hj) h',fun j m hm hj => sep_new (B:=0) (h.ment j m hm hj).body (hp.m j m hm hj) h'⟩
theorem PS.mem (h : PS b pin s ls Am cm xv xe xm W) {b' n sz : Nat} {v0 : Value} {xs : List Value} (h0 : W.ownsRow b' 84 sz v0 n xs) (hp : PM ls xm v0) (hg : W.grownBy W' v0.ownBlock) : PS b pin s ls Am cm xv xe xm W' :=
 ⟨h.bx.grown hg (own_ne h0 h.bx (by decide)),fun e => own_kept (h.vot e) h0 (by decide) hg,own_kept h.row h0 (by decide) hg,
  fun j m hm hj => ⟨own_kept (h.ent j m hm hj).sid h0 (by decide) hg,own_kept (h.ent j m hm hj).body h0 (by decide) hg,(h.ent j m hm hj).hs,(h.ent j m hm hj).hb⟩,
  own_kept h.mrow h0 (by decide) hg,
  fun j m hm hj => ⟨own_sep (h.ment j m hm hj).mem (hp.m j m hm hj) hg,own_kept (h.ment j m hm hj).tr h0 (by decide) hg,own_kept (h.ment j m hm hj).body h0 (by decide) hg,(h.ment j m hm hj).hm,(h.ment j m hm hj).ht,(h.ment j m hm hj).hb⟩,
  h.ve,h.vm,h.ee,h.mm,h.em⟩
theorem PS.mem_new (h : PS b pin s ls Am cm xv xe xm W) {v0 v' : Value} (hp : PM ls xm v0) (h' : v'.ownBlock = v0.ownBlock ∨ v'.ownBlock = some W.heap.size) : PM ls xm v' :=
 ⟨fun j m hm hj => sep_new (B:=0) (h.ment j m hm hj).mem (hp.m j m hm hj) h'⟩
theorem PS.openE (h : PS b pin s ls Am cm xv none xm W) (i : Nat) : PS b pin s ls Am cm xv (some i) xm W :=
 ⟨h.bx,h.vot,h.row,fun j m hm _ => h.ent j m hm (by simp),h.mrow,h.ment,fun e j m hm _ => h.ve e j m hm (by simp),h.vm,fun j j' m m' h1 h2 h3 _ _ => h.ee j j' m m' h1 h2 h3 (by simp) (by simp),h.mm,fun j j' m m' h1 h2 _ h4 => h.em j j' m m' h1 h2 (by simp) h4⟩
theorem PS.sideE (h : PS b pin s ls Am cm xv none xm W) {i : Nat} {m : Em} (hm : s.ms[i]? = some m) : PI s ls xv (some i) xm m.vs :=
 ⟨fun e => h.ve e i m hm (by simp),fun j m' hj hx => (h.ee j i m' m hj hm (fun e => hx (by rw [e])) (by simp) (by simp)).1,fun j m' hj hx => (h.em i j m m' hm hj (by simp) hx).1.symm⟩
theorem PS.bodyE (h : PS b pin s ls Am cm xv none xm W) {i : Nat} {m : Em} (hm : s.ms[i]? = some m) : PB s ls (some i) xm m.vb :=
 ⟨fun j m' hj hx => (h.ee j i m' m hj hm (fun e => hx (by rw [e])) (by simp) (by simp)).2,fun j m' hj hx => (h.em i j m m' hm hj (by simp) hx).2.symm⟩
theorem PS.closeE {i : Nat} (h : PS b pin s ls Am cm xv (some i) xm W) {x : Em} (hx : s.ms[i]? = some x) (ho : EmO W b x) (hi : PI s ls xv (some i) xm x.vs) (hb : PB s ls (some i) xm x.vb) : PS b pin s ls Am cm xv none xm W:=by
 have key : ∀ j m,s.ms[j]? = some m → (j = i ∧ m = x) ∨ (some i ≠ some j):=fun j m hm => by
  by_cases e : j = i
  ·subst e
   exact .inl ⟨rfl,Option.some.inj (hm.symm.trans hx)⟩
  ·exact .inr (fun e2 => e (Option.some.inj e2).symm)
 refine ⟨h.bx,h.vot,h.row,fun j m hm _ => ?_,h.mrow,h.ment,fun e j m hm _ => ?_,h.vm,fun j j' m m' h1 h2 h3 _ _ => ?_,h.mm,fun j j' m m' h1 h2 _ h4 => ?_⟩
 ·rcases key j m hm with ⟨_,rfl⟩ | hj
  ·exact ho
  ·exact h.ent j m hm hj
 ·rcases key j m hm with ⟨_,rfl⟩ | hj
  ·exact hi.pv e
  ·exact h.ve e j m hm hj
 ·rcases key j m h1 with ⟨e1,rfl⟩ | hj
  ·rcases key j' m' h2 with ⟨e2,_⟩ | hj'
   ·exact absurd (e1.trans e2.symm) h3
   ·exact ⟨(hi.e j' m' h2 hj').symm,(hb.e j' m' h2 hj').symm⟩
  ·rcases key j' m' h2 with ⟨_,rfl⟩ | hj'
   ·exact ⟨hi.e j m h1 hj,hb.e j m h1 hj⟩
   ·exact h.ee j j' m m' h1 h2 h3 hj hj'
 ·rcases key j m h1 with ⟨_,rfl⟩ | hj
  ·exact ⟨(hi.m j' m' h2 h4).symm,(hb.m j' m' h2 h4).symm⟩
  ·exact h.em j j' m m' h1 h2 hj h4
theorem PI.setE {v : Value} {i : Nat} (h : PI s ls xv (some i) xm v) (x : Em) : PI { s with ms:=s.ms.set i x } ls xv (some i) xm v :=
 ⟨h.pv,fun j m hm hj => h.e j m (by rw [← hm];exact (List.getElem?_set_ne (fun e => hj (by rw [e]))).symm) hj,h.m⟩
theorem PB.setE {v : Value} {i : Nat} (h : PB s ls (some i) xm v) (x : Em) : PB { s with ms:=s.ms.set i x } ls (some i) xm v :=
 ⟨fun j m hm hj => h.e j m (by rw [← hm];exact (List.getElem?_set_ne (fun e => hj (by rw [e]))).symm) hj,h.m⟩
theorem PS.setE {i gE : Nat} {cs : Array Value} (h : PS b pin s ls Am cm xv (some i) xm W) (x : Em) (hg : Blk W gE 33 cs) (ho : Only (fun q => q = gE) W W') (hr : W'.ownsRow b 33 13 (.slice s.Ae s.ms.length s.ke) s.ms.length (emCells (s.ms.set i x))) : PS b pin { s with ms:=s.ms.set i x } ls Am cm xv (some i) xm W':=by
 have ne : ∀ j m,(s.ms.set i x)[j]? = some m → some i ≠ some j → s.ms[j]? = some m:=fun j m hm hj => by rw [← hm];exact (List.getElem?_set_ne (fun e => hj (by rw [e]))).symm
 have ap : ∀ t',33 ≠ t' → ∀ q,q < W.heap.size → q = gE → ∃ t cs,Blk W q t cs ∧ t ≠ t':=fun t' ht q hq e => by
  subst e;exact ⟨_,_,hg,ht⟩
 refine ⟨?_,fun e => own_apart (h.vot e) ho (ap _ (by decide)),?_,fun j m hm hj => ?_,own_apart h.mrow ho (ap _ (by decide)),fun j m hm hj => ?_,fun e j m hm hj => h.ve e j m (ne j m hm hj) hj,h.vm,fun j j' m m' h1 h2 h3 h4 h5 => h.ee j j' m m' (ne j m h1 h4) (ne j' m' h2 h5) h3 h4 h5,h.mm,fun j j' m m' h1 h2 h3 h4 => h.em j j' m m' (ne j m h1 h3) h2 h3 h4⟩
 ·have h1:=h.bx.apart ho (ap _ (by decide))
  unfold Sm.cs at h1 ⊢;rw [List.length_set];exact h1
 ·show W'.ownsRow _ _ _ (.slice s.Ae (s.ms.set i x).length s.ke) (s.ms.set i x).length _
  rw [List.length_set];exact hr
 ·have h1:=h.ent j m (ne j m hm hj) hj
  exact ⟨own_apart h1.sid ho (ap _ (by decide)),own_apart h1.body ho (ap _ (by decide)),h1.hs,h1.hb⟩
 ·have h1:=h.ment j m hm hj
  exact ⟨own_apart h1.mem ho (ap _ (by decide)),own_apart h1.tr ho (ap _ (by decide)),own_apart h1.body ho (ap _ (by decide)),h1.hm,h1.ht,h1.hb⟩
theorem PS.openM (h : PS b pin s ls Am cm xv xe none W) (i : Nat) : PS b pin s ls Am cm xv xe (some i) W :=
 ⟨h.bx,h.vot,h.row,h.ent,h.mrow,fun j m hm _ => h.ment j m hm (by simp),h.ve,fun e j m hm _ => h.vm e j m hm (by simp),h.ee,fun j j' m m' h1 h2 h3 _ _ => h.mm j j' m m' h1 h2 h3 (by simp) (by simp),fun j j' m m' h1 h2 h3 _ => h.em j j' m m' h1 h2 h3 (by simp)⟩
theorem PS.traM (h : PS b pin s ls Am cm xv xe none W) {i : Nat} {m : Mk} (hm : ls[i]? = some m) : PI s ls xv xe (some i) m.vt :=
 ⟨fun e => h.vm e i m hm (by simp),fun j m' hj hx => (h.em j i m' m hj hm hx (by simp)).1,fun j m' hj hx => (h.mm j i m' m hj hm (fun e => hx (by rw [e])) (by simp) (by simp)).2.1⟩
theorem PS.bodyM (h : PS b pin s ls Am cm xv xe none W) {i : Nat} {m : Mk} (hm : ls[i]? = some m) : PB s ls xe (some i) m.vb :=
 ⟨fun j m' hj hx => (h.em j i m' m hj hm hx (by simp)).2,fun j m' hj hx => (h.mm j i m' m hj hm (fun e => hx (by rw [e])) (by simp) (by simp)).2.2⟩
theorem PS.memM (h : PS b pin s ls Am cm xv xe none W) {i : Nat} {m : Mk} (hm : ls[i]? = some m) : PM ls (some i) m.vm :=
 ⟨fun j m' hj hx => (h.mm j i m' m hj hm (fun e => hx (by rw [e])) (by simp) (by simp)).1⟩
theorem PS.closeM {i : Nat} (h : PS b pin s ls Am cm xv xe (some i) W) {x : Mk} (hx : ls[i]? = some x) (ho : MkT W b x) (hi : PI s ls xv xe (some i) x.vt) (hb : PB s ls xe (some i) x.vb) (hp : PM ls (some i) x.vm) : PS b pin s ls Am cm xv xe none W:=by
 have key : ∀ j m,ls[j]? = some m → (j = i ∧ m = x) ∨ (some i ≠ some j):=fun j m hm => by
  by_cases e : j = i
  ·subst e
   exact .inl ⟨rfl,Option.some.inj (hm.symm.trans hx)⟩
  ·exact .inr (fun e2 => e (Option.some.inj e2).symm)
 refine ⟨h.bx,h.vot,h.row,h.ent,h.mrow,fun j m hm _ => ?_,h.ve,fun e j m hm _ => ?_,h.ee,fun j j' m m' h1 h2 h3 _ _ => ?_,fun j j' m m' h1 h2 h4 _ => ?_⟩
 ·rcases key j m hm with ⟨_,rfl⟩ | hj
  ·exact ho
  ·exact h.ment j m hm hj
 ·rcases key j m hm with ⟨_,rfl⟩ | hj
  ·exact hi.pv e
  ·exact h.vm e j m hm hj
 ·rcases key j m h1 with ⟨e1,rfl⟩ | hj
  ·rcases key j' m' h2 with ⟨e2,_⟩ | hj'
   ·exact absurd (e1.trans e2.symm) h3
   ·exact ⟨(hp.m j' m' h2 hj').symm,(hi.m j' m' h2 hj').symm,(hb.m j' m' h2 hj').symm⟩
  ·rcases key j' m' h2 with ⟨_,rfl⟩ | hj'
   ·exact ⟨hp.m j m h1 hj,hi.m j m h1 hj,hb.m j m h1 hj⟩
   ·exact h.mm j j' m m' h1 h2 h3 hj hj'
 ·rcases key j' m' h2 with ⟨_,rfl⟩ | hj
  ·exact ⟨hi.e j m h1 h4,hb.e j m h1 h4⟩
  ·exact h.em j j' m m' h1 h2 h4 hj
theorem PI.setM {v : Value} {i : Nat} (h : PI s ls xv xe (some i) v) (x : Mk) : PI s (ls.set i x) xv xe (some i) v :=
 ⟨h.pv,h.e,fun j m hm hj => h.m j m (by rw [← hm];exact (List.getElem?_set_ne (fun e => hj (by rw [e]))).symm) hj⟩
theorem PB.setM {v : Value} {i : Nat} (h : PB s ls xe (some i) v) (x : Mk) : PB s (ls.set i x) xe (some i) v :=
 ⟨h.e,fun j m hm hj => h.m j m (by rw [← hm];exact (List.getElem?_set_ne (fun e => hj (by rw [e]))).symm) hj⟩
theorem PM.setM {v : Value} {i : Nat} (h : PM ls (some i) v) (x : Mk) : PM (ls.set i x) (some i) v :=
 ⟨fun j m hm hj => h.m j m (by rw [← hm];exact (List.getElem?_set_ne (fun e => hj (by rw [e]))).symm) hj⟩
theorem PS.setM {i gM : Nat} {cs : Array Value} (h : PS b pin s ls Am cm xv xe (some i) W) (x : Mk) (hg : Blk W gM 51 cs) (ho : Only (fun q => q = gM) W W') (hr : W'.ownsRow b 51 26 (.slice Am ls.length cm) ls.length (mkCells (ls.set i x))) : PS b pin s (ls.set i x) Am cm xv xe (some i) W':=by
 have ne : ∀ j m,(ls.set i x)[j]? = some m → some i ≠ some j → ls[j]? = some m:=fun j m hm hj => by rw [← hm];exact (List.getElem?_set_ne (fun e => hj (by rw [e]))).symm
 have ap : ∀ t',51 ≠ t' → ∀ q,q < W.heap.size → q = gM → ∃ t cs,Blk W q t cs ∧ t ≠ t':=fun t' ht q hq e => by
  subst e;exact ⟨_,_,hg,ht⟩
 refine ⟨h.bx.apart ho (ap _ (by decide)),fun e => own_apart (h.vot e) ho (ap _ (by decide)),own_apart h.row ho (ap _ (by decide)),fun j m hm hj => ?_,?_,fun j m hm hj => ?_,h.ve,fun e j m hm hj => h.vm e j m (ne j m hm hj) hj,h.ee,fun j j' m m' h1 h2 h3 h4 h5 => h.mm j j' m m' (ne j m h1 h4) (ne j' m' h2 h5) h3 h4 h5,fun j j' m m' h1 h2 h3 h4 => h.em j j' m m' h1 (ne j' m' h2 h4) h3 h4⟩
 ·have h1:=h.ent j m hm hj
  exact ⟨own_apart h1.sid ho (ap _ (by decide)),own_apart h1.body ho (ap _ (by decide)),h1.hs,h1.hb⟩
 ·rw [List.length_set]
  exact hr
 ·have h1:=h.ment j m (ne j m hm hj) hj
  exact ⟨own_apart h1.mem ho (ap _ (by decide)),own_apart h1.tr ho (ap _ (by decide)),own_apart h1.body ho (ap _ (by decide)),h1.hm,h1.ht,h1.hb⟩
theorem PS.openV (h : PS b pin s ls Am cm false xe xm W) : PS b pin s ls Am cm true xe xm W :=
 ⟨h.bx,(fun e => nomatch e),h.row,h.ent,h.mrow,h.ment,(fun e => nomatch e),(fun e => nomatch e),h.ee,h.mm,h.em⟩
theorem PS.votV (h : PS b pin s ls Am cm false xe xm W) : PI s ls true xe xm s.vv :=
 ⟨(fun e => nomatch e),fun j m hm hj => (h.ve rfl j m hm hj).symm,fun j m hm hj => (h.vm rfl j m hm hj).symm⟩
theorem PS.box {s' : Sm} (h : PS b pin s ls Am cm true xe xm W) (hA : s'.Ae = s.Ae) (hk : s'.ke = s.ke) (hms : s'.ms = s.ms) (hb : Blk W' pin 27 s'.cs) (ho : Only (fun q => q = pin) W W') : PS b pin s' ls Am cm true xe xm W':=by
 have ap : ∀ t',27 ≠ t' → ∀ q,q < W.heap.size → q = pin → ∃ t cs,Blk W q t cs ∧ t ≠ t':=fun t' ht q hq e => by
  subst e;exact ⟨_,_,h.bx,ht⟩
 refine ⟨hb,(fun e => nomatch e),?_,fun j m hm hj => ?_,own_apart h.mrow ho (ap _ (by decide)),fun j m hm hj => ?_,(fun e => nomatch e),(fun e => nomatch e),?_,h.mm,?_⟩
 ·rw [hA,hk,hms]
  exact own_apart h.row ho (ap _ (by decide))
 ·rw [hms] at hm
  have h1:=h.ent j m hm hj;exact ⟨own_apart h1.sid ho (ap _ (by decide)),own_apart h1.body ho (ap _ (by decide)),h1.hs,h1.hb⟩
 ·have h1:=h.ment j m hm hj
  exact ⟨own_apart h1.mem ho (ap _ (by decide)),own_apart h1.tr ho (ap _ (by decide)),own_apart h1.body ho (ap _ (by decide)),h1.hm,h1.ht,h1.hb⟩
 ·rw [hms]
  exact h.ee
 ·rw [hms]
  exact h.em
theorem PI.sc {s' : Sm} {v : Value} (h : PI s ls true xe xm v) (hms : s'.ms = s.ms) : PI s' ls true xe xm v:=⟨(fun e => nomatch e),fun j m hm hj => h.e j m (by rw [← hms];exact hm) hj,h.m⟩
theorem PS.closeV (h : PS b pin s ls Am cm true xe xm W) (ho : W.ownsRow b 3 1 s.vv s.c.votes.length (ints s.c.votes)) (hi : PI s ls true xe xm s.vv) : PS b pin s ls Am cm false xe xm W :=
 ⟨h.bx,fun _ => ho,h.row,h.ent,h.mrow,h.ment,fun _ j m hm hj => (hi.e j m hm hj).symm,fun _ j m hm hj => (hi.m j m hm hj).symm,h.ee,h.mm,h.em⟩
theorem pair_at {α : Type} {R : α → α → Prop} {l : List α} (hs : ∀ a c,R a c → R c a) (h : l.Pairwise R) {j j' : Nat} {m m' : α} (hj : l[j]? = some m) (hj' : l[j']? = some m') (hne : j ≠ j') : R m m':=by
 obtain ⟨h1,rfl⟩:=List.getElem?_eq_some_iff.1 hj;obtain ⟨h2,rfl⟩:=List.getElem?_eq_some_iff.1 hj'
 rcases Nat.lt_or_gt_of_ne hne with h3 | h3
 ·exact List.pairwise_iff_getElem.1 h j j' h1 h2 h3
 ·exact hs _ _ (List.pairwise_iff_getElem.1 h j' j h2 h1 h3)
theorem PS.made {b1 : Nat} (hs : SmO W b s) (hbx : Blk W pin 27 s.cs) (hm : W'.ownsRow b1 51 26 (.slice Am ls.length cm) ls.length (mkCells ls)) (hent : ∀ m ∈ ls,MkT W' b1 m) (hd : ls.Pairwise MkSep) (hB : W.heap.size ≤ b1) (hb : b ≤ b1) (hbel : Below W.heap.size W W') : PS b pin s ls Am cm false none none W' :=
 ⟨hbx.below hbel hbx.lt,fun _ => own_step hs.vot hbel,own_step hs.row hbel,fun j m hj _ => (hs.ent m (List.mem_of_getElem? hj)).step hbel,own_base hm hb,fun j m hj _ => (hent m (List.mem_of_getElem? hj)).base hb,
  fun _ j m hj _ => hs.vsp m (List.mem_of_getElem? hj),fun _ j m hj _ => sep_lt hs.vot (hent m (List.mem_of_getElem? hj)).tr hB,
  fun j j' m m' h1 h2 h3 _ _ => pair_at (fun a c h => ⟨h.1.symm,h.2.symm⟩) hs.dis h1 h2 h3,fun j j' m m' h1 h2 h3 _ _ => pair_at (fun a c h => ⟨h.1.symm,h.2.1.symm,h.2.2.symm⟩) hd h1 h2 h3,
  fun j j' m m' h1 h2 _ _ => ⟨sep_lt (hs.ent m (List.mem_of_getElem? h1)).sid (hent m' (List.mem_of_getElem? h2)).tr hB,sep_lt (hs.ent m (List.mem_of_getElem? h1)).body (hent m' (List.mem_of_getElem? h2)).body hB⟩⟩
theorem PS.script (h : PS b pin s ls Am cm false none xm W) (hv : s.c.votes.length ≤ 10000000) (hn : s.ms.length ≤ 10000000) : SmIn W W.heap.size s :=
 ⟨Reads.of_own (h.vot rfl),Reads.of_own h.row,fun m hm => by
  obtain ⟨j,hj,rfl⟩:=List.getElem_of_mem hm;exact (h.ent j _ (List.getElem?_eq_getElem hj) (by simp)).inn,by omega,by omega⟩
theorem PS.marks (h : PS b pin s ls Am cm xv xe none W) : MsIn W W.heap.size Am ls.length ls :=
 ⟨Reads.of_own h.mrow,fun m hm => by
  obtain ⟨j,hj,rfl⟩:=List.getElem_of_mem hm;exact (h.ment j _ (List.getElem?_eq_getElem hj) (by simp)).inn⟩
end
theorem addr_zero (a : Addr) : a.add 0 = a:=by
 obtain ⟨b,o,s⟩:=a;unfold Addr.add
 cases s <;> simp
theorem run_front {w : World} {t e : TypeId} (he : Tryz.prog.elem t = e) (ht : Tryz.prog.underlying t = some (.slice e)) {i : Nat} (hz : (sizeOf e).run Tryz.prog w = .ok i w) (A : Option Addr) (len cap h : Nat) (h2 : h ≤ cap) :
  (Instr.slice t (.slice A len cap) none (some (.int .i64 (h : Int))) none).run Tryz.prog w = .ok (.slice A h cap) w:=by
 subst he;rw [run_slice_h _ t A len cap ht .i64 (h : Int) (by omega) (by omega),hz];show Result.ok (sliced A 0 (h : Int).toNat cap i) w = _;unfold sliced
 have e : A.map (fun x => x.add (0 * i)) = A:=by
  rw [Nat.zero_mul]
  cases A with
  | none => rfl
  | some a => rw [Option.map_some,addr_zero]
 rw [e];simp
theorem ex_front {o : Oper} {a : Act} {V : World} (t : TypeId) {e : TypeId} (he : Tryz.prog.elem t = e) (ht : Tryz.prog.underlying t = some (.slice e)) {i : Nat} (hz : (sizeOf e).run Tryz.prog V = .ok i V) (x y : Operand) (ho : o.op = .slice t x none (some y) none) (A : Option Addr) (len cap n : Nat) (hx : a.eval x = .slice A len cap) (hy : a.eval y = .int .i64 (n : Int)) (hn : n ≤ cap) :
  (execOp a.eval o).run Tryz.prog V = .ok (.value (.slice A n cap)) V:=by
 unfold execOp;simp only [ho,Option.map_some,Option.map_none,hx,hy];have h1:=run_front he ht hz A len cap n hn
 have h2 : (Instr.sliceAt t (.slice A len cap) none (some (.int .i64 (n : Int))) none).run Tryz.prog V = .ok (.slice A n cap) V:=by
  rw [run_sliceAt_slice _ t _ _ _ _ (by rw [he];exact ht)];exact h1
 simp only [Sem.run_bind,Sem.run_pure,h2,Result.andThen_ok]
theorem ex_build47b {o : Oper} {a : Act} {V : World} (x y : Operand) (ho : o.op = .build 27 #[(0,x),(1,y)]) (c : Cfg) (A : Option Addr) (k : Nat) (Ae : Option Addr) (ke : Nat) (ms : List Em) (hx : a.eval x = .agg (cfC c A k)) (hy : a.eval y = .slice Ae ms.length ke) :
  (execOp a.eval o).run Tryz.prog V = .ok (.value (.agg (Sm.cs ⟨c,A,k,Ae,ke,ms⟩))) V:=by
 unfold execOp;simp only [ho,List.map_toArray,List.map_cons,List.map_nil,hx,hy];unfold cfC;go_simp
 rfl
theorem flat_take {α : Type} {cel : α → List Value} {sz : Nat} (hc : ∀ x,(cel x).length = sz) : ∀ (l : List α) (k : Nat),(l.take k).flatMap cel = (l.flatMap cel).take (k * sz)
 | [],k => by simp
 | a :: l,0 => by simp
 | a :: l,k + 1 => by
  rw [List.take_succ_cons,List.flatMap_cons,List.flatMap_cons,flat_take hc l k,Nat.succ_mul,Nat.add_comm,← hc a,List.take_length_add_append]
theorem Reads.front {w : World} {B sz n k : Nat} {A : Option Addr} {xs : List Value} (h : Reads w B sz A n xs) (hk : k ≤ n) : Reads w B sz A k (xs.take (k * sz)):=by
 have hl:=h.1;have hm : k * sz ≤ n * sz:=Nat.mul_le_mul_right _ hk;refine ⟨by rw [List.length_take];omega,fun h0 => ?_⟩;obtain ⟨ad,e,hb,hc⟩:=h.2 (by omega);refine ⟨ad,e,hb,fun j u hu => hc j u ?_⟩;rw [List.getElem?_take] at hu
 split at hu
 ·exact hu
 ·cases hu
theorem em_len (x : Em) : x.cs.toList.length = 13:=by have:=em_size x;rw [← this];rfl
theorem mk_len (x : Mk) : x.cs.toList.length = 26:=by have:=mk_size x;rw [← this];rfl
def Sm.front (s : Sm) (n : Nat) : Sm:=⟨s.c,s.A,s.k,s.Ae,s.ke,s.ms.take n⟩
theorem SmIn.front {w : World} {B n : Nat} {s : Sm} (h : SmIn w B s) (hn : n ≤ s.ms.length) : SmIn w B (s.front n):=by
 have e : (s.ms.take n).length = n:=by rw [List.length_take];omega
 refine ⟨h.vot,?_,fun m hm => h.ent m (List.mem_of_mem_take hm),h.hv,by have:=h.hn;show (s.ms.take n).length ≤ _;omega⟩;have h1:=Reads.front h.row hn;show Reads w B 13 s.Ae (s.ms.take n).length (emCells (s.ms.take n));rw [e];unfold emCells at h1 ⊢;rw [flat_take em_len];exact h1
theorem MsIn.front {w : World} {B n k : Nat} {A : Option Addr} {l : List Mk} (h : MsIn w B A n l) (hk : k ≤ n) : MsIn w B A k (l.take k):=by
 refine ⟨?_,fun m hm => h.ent m (List.mem_of_mem_take hm)⟩;have h1:=Reads.front h.row hk;unfold mkCells at h1 ⊢;rw [flat_take mk_len];exact h1
structure PQ (b p3 p4 : Nat) (C0 : Array Value) (s t : Sm) (w W : World) : Prop where
 bp : Blk W b 70 C0
 bs : Blk W p3 27 s.cs
 bt : Blk W p4 27 t.cs
 lo : Below b w W
theorem PQ.step {b p3 p4 : Nat} {C0 : Array Value} {s t : Sm} {w W W' : World} (h : PQ b p3 p4 C0 s t w W) (hb : Below W.heap.size W W') : PQ b p3 p4 C0 s t w W' :=
 ⟨h.bp.below hb h.bp.lt,h.bs.below hb h.bs.lt,h.bt.below hb h.bt.lt,h.lo.trans (hb.mono (by have:=h.bp.lt;omega))⟩
theorem PQ.grown {b p3 p4 b' n sz e : Nat} {C0 : Array Value} {s t : Sm} {w W W' : World} {v : Value} {xs : List Value} (h : PQ b p3 p4 C0 s t w W) (h0 : W.ownsRow b' e sz v n xs) (h1 : 70 ≠ e) (h2 : 27 ≠ e) (hb : b ≤ b') (hg : W.grownBy W' v.ownBlock) : PQ b p3 p4 C0 s t w W' :=
 ⟨h.bp.grown hg (own_ne h0 h.bp h1),h.bs.grown hg (own_ne h0 h.bs h2),h.bt.grown hg (own_ne h0 h.bt h2),h.lo.grown hg (by have:=h.bp.lt;omega) (fun q hq => by have:=(h0.lt q hq).1;omega)⟩
theorem PQ.only {b p3 p4 g : Nat} {C0 : Array Value} {s t : Sm} {w W W' : World} (h : PQ b p3 p4 C0 s t w W) (h1 : g ≠ b) (h2 : g ≠ p3) (h3 : g ≠ p4) (h4 : b ≤ g) (ho : Only (fun q => q = g) W W') : PQ b p3 p4 C0 s t w W' :=
 ⟨h.bp.only ho (fun e => h1 e.symm),h.bs.only ho (fun e => h2 e.symm),h.bt.only ho (fun e => h3 e.symm),h.lo.trans (ho.below (by have:=h.bp.lt;omega) (fun q hq e => by have e2 : q = g:=e;omega))⟩
theorem Blk.ne_ty {W : World} {g g' : Nat} {t t' : TypeId} {cs cs' : Array Value} (h : Blk W g t cs) (h' : Blk W g' t' cs') (hn : t ≠ t') : g ≠ g':=fun e => by
 subst e;have:=h.symm.trans h';injection this with this
 injection this with _ this
 exact hn this
theorem PS.laidV {b pin cm : Nat} {s s2 : Sm} {ls : List Mk} {Am : Option Addr} {W W1 W3 : World} (h : PS b pin s ls Am cm false none none W) (ho : W1.ownsRow b 3 1 s2.vv s2.c.votes.length (ints s2.c.votes)) (hg : W.grownBy W1 s.vv.ownBlock) (h' : s2.vv.ownBlock = s.vv.ownBlock ∨ s2.vv.ownBlock = some W.heap.size)
  (hA : s2.Ae = s.Ae) (hk : s2.ke = s.ke) (hms : s2.ms = s.ms) (hO : Only (fun q => q = pin) W1 W3) (hb : Blk W3 pin 27 s2.cs) : PS b pin s2 ls Am cm false none none W3:=by
 have P0:=h.openV;have hp:=h.votV;have h0:=h.vot rfl;have P1:=P0.int h0 hp hg;have hi:=P0.int_new hp h';have P3:=P1.box hA hk hms hb hO;exact P3.closeV (own_apart ho hO (fun q hq e => by subst e;exact ⟨_,_,P1.bx,by decide⟩)) (hi.sc hms)
theorem PS.laidE {b pin cm i gE : Nat} {s : Sm} {ls : List Mk} {Am : Option Addr} {W W1 W1' W2 W2' W5 : World} {x m2 : Em} {cur : Array Value} (h : PS b pin s ls Am cm false none none W) (hx : s.ms[i]? = some x)
  (hoB : W1.ownsRow b 5 1 m2.vb m2.nb (Lib.byteCells m2.bd)) (hgB : W.grownBy W1 x.vb.ownBlock) (hB : m2.vb.ownBlock = x.vb.ownBlock ∨ m2.vb.ownBlock = some W.heap.size)
  (hd1 : Below W1.heap.size W1 W1') (hoS : W2.ownsRow b 3 1 m2.vs m2.ns (ints m2.sd)) (hgS : W1'.grownBy W2 x.vs.ownBlock) (hS : m2.vs.ownBlock = x.vs.ownBlock ∨ m2.vs.ownBlock = some W1'.heap.size)
  (hd2 : Below W2.heap.size W2 W2') (hg : Blk W2' gE 33 cur) (hO : Only (fun q => q = gE) W2' W5) (hr : W5.ownsRow b 33 13 (.slice s.Ae s.ms.length s.ke) s.ms.length (emCells (s.ms.set i m2))) (hs : m2.ns ≤ 100000000) (hb : m2.nb ≤ 100000000) :
  PS b pin { s with ms:=s.ms.set i m2 } ls Am cm false none none W5:=by
 have P0:=h.openE i;have pB:=h.bodyE hx;have pS:=h.sideE hx;have e0:=h.ent i x hx (by simp);have P1:=P0.byt e0.body pB hgB;have pB1:=P0.byt_new pB hB;have sid1:=own_step (own_kept e0.sid e0.body (by decide) hgB) hd1;have Q1:=P1.step hd1;have P2:=(Q1.int sid1 pS hgS).step hd2;have pS2:=Q1.int_new pS hS;have body2:=own_step (own_kept (own_step hoB hd1) sid1 (by decide) hgS) hd2;have sid2:=own_step hoS hd2;have P5:=P2.setE m2 hg hO hr;have hi : i < s.ms.length:=(List.getElem?_eq_some_iff.1 hx).1;refine P5.closeE (x:=m2) (by show (s.ms.set i m2)[i]? = _;rw [List.getElem?_set_self hi]) ⟨own_apart sid2 hO (fun q hq e => by subst e;exact ⟨_,_,hg,by decide⟩),own_apart body2 hO (fun q hq e => by subst e;exact ⟨_,_,hg,by decide⟩),hs,hb⟩ (pS2.setE m2) (pB1.setE m2)
theorem PS.laidM {b pin cm i gM : Nat} {s : Sm} {ls : List Mk} {Am : Option Addr} {W W1 W1' W2 W2' W3 W3' W7 : World} {x m2 : Mk} {cur : Array Value} (h : PS b pin s ls Am cm false none none W) (hx : ls[i]? = some x)
  (hoB : W1.ownsRow b 5 1 m2.vb m2.nb (Lib.byteCells m2.bd)) (hgB : W.grownBy W1 x.vb.ownBlock) (hB : m2.vb.ownBlock = x.vb.ownBlock ∨ m2.vb.ownBlock = some W.heap.size)
  (hd1 : Below W1.heap.size W1 W1') (hoT : W2.ownsRow b 3 1 m2.vt m2.nt (ints m2.ts)) (hgT : W1'.grownBy W2 x.vt.ownBlock) (hT : m2.vt.ownBlock = x.vt.ownBlock ∨ m2.vt.ownBlock = some W1'.heap.size)
  (hd2 : Below W2.heap.size W2 W2') (hoM : W3.ownsRow b 84 3 m2.vm m2.nm (sts m2.ms)) (hgM : W2'.grownBy W3 x.vm.ownBlock) (hM : m2.vm.ownBlock = x.vm.ownBlock ∨ m2.vm.ownBlock = some W2'.heap.size)
  (hd3 : Below W3.heap.size W3 W3') (hg : Blk W3' gM 51 cur) (hO : Only (fun q => q = gM) W3' W7) (hr : W7.ownsRow b 51 26 (.slice Am ls.length cm) ls.length (mkCells (ls.set i m2))) (hm : m2.nm ≤ 10000000) (ht : m2.nt ≤ 10000000) (hb : m2.nb ≤ 100000000) :
  PS b pin s (ls.set i m2) Am cm false none none W7:=by
 have P0:=h.openM i;have pB:=h.bodyM hx;have pT:=h.traM hx;have pM:=h.memM hx;have e0:=h.ment i x hx (by simp);have P1:=P0.byt e0.body pB hgB;have pB1:=P0.byt_new pB hB;have Q1:=P1.step hd1;have tr1:=own_step (own_kept e0.tr e0.body (by decide) hgB) hd1;have mem1:=own_step (own_kept e0.mem e0.body (by decide) hgB) hd1;have P2:=(Q1.int tr1 pT hgT).step hd2;have pT2:=Q1.int_new pT hT;have mem2:=own_step (own_kept mem1 tr1 (by decide) hgT) hd2;have body2:=own_step (own_kept (own_step hoB hd1) tr1 (by decide) hgT) hd2;have P3:=(P2.mem mem2 pM hgM).step hd3;have pM3:=P2.mem_new pM hM;have body3:=own_step (own_kept body2 mem2 (by decide) hgM) hd3;have tr3:=own_step (own_kept (own_step hoT hd2) mem2 (by decide) hgM) hd3;have mem3:=own_step hoM hd3;have P7:=P3.setM m2 hg hO hr;have hi : i < ls.length:=(List.getElem?_eq_some_iff.1 hx).1
 have ap : ∀ t',51 ≠ t' → ∀ q,q < W3'.heap.size → q = gM → ∃ t cs,Blk W3' q t cs ∧ t ≠ t':=fun t' ht q hq e => by
  subst e;exact ⟨_,_,hg,ht⟩
 refine P7.closeM (x:=m2) (by rw [List.getElem?_set_self hi]) ⟨own_apart mem3 hO (ap _ (by decide)),own_apart tr3 hO (ap _ (by decide)),own_apart body3 hO (ap _ (by decide)),hm,ht,hb⟩ (pT2.setM m2) (pB1.setM m2) (pM3.setM m2)
theorem own_box {w : World} {b t sz n c : Nat} {A : Option Addr} {xs : List Value} (h : w.ownsRow b t sz (.slice A n c) n xs) (hn : 0 < n) : ∃ g cur,A = some ⟨g,0,none⟩ ∧ Blk w g t cur ∧ b ≤ g ∧ cur.size = c * sz ∧ n ≤ c:=by
 rcases h.2 with ⟨hv,h0⟩ | ⟨g,cap,cur,hv,hb,hg,h1,h2,h3,h4⟩
 ·injection hv with e1 e2 e3
  omega
 ·injection hv with e1 e2 e3
  subst e1 e3;exact ⟨g,cur,rfl,hg,hb,h3,h1⟩
theorem em_three {W : World} {b gE n c i : Nat} {l : List Em} {cur : Array Value} (me : Em) (A1 : Option Addr) (c1 : Nat) (A2 : Option Addr) (c2 : Nat) (h : W.ownsRow b 33 13 (.slice (some ⟨gE,0,none⟩) n c) n (emCells l)) (hl : l.length = n) (hi : i < n) (hk : Blk W gE 33 cur) :
  (((W.setRow gE (putAt cur (i * 13) me.cs)).setCell ⟨gE,i * 13 + 4,none⟩ (.slice A1 me.nb c1)).setCell ⟨gE,i * 13 + 12,none⟩ (.slice A2 me.ns c2)).ownsRow b 33 13 (.slice (some ⟨gE,0,none⟩) n c) n (emCells (l.set i { me with Ab:=A1,cb:=c1,As:=A2,cs':=c2 })):=by
 unfold emCells at h ⊢;have h1:=own_put (cel:=fun m : Em => m.cs.toList) me em_len h hl hi hk;rw [Array.toArray_toList] at h1;have hl1 : (l.set i me).length = n:=by rw [List.length_set,hl]
 have g1 : (l.set i me)[i]? = some me:=by rw [List.getElem?_set_self (by omega)]
 have h2:=own_cell (x':={ me with Ab:=A1,cb:=c1 }) (i:=4) (v:=.slice A1 me.nb c1) em_len h1 hl1 g1 (by omega) rfl;rw [List.set_set] at h2;have hl2 : (l.set i { me with Ab:=A1,cb:=c1 }).length = n:=by rw [List.length_set,hl]
 have g2 : (l.set i { me with Ab:=A1,cb:=c1 })[i]? = some { me with Ab:=A1,cb:=c1 }:=by rw [List.getElem?_set_self (by omega)]
 have h3:=own_cell (x':={ me with Ab:=A1,cb:=c1,As:=A2,cs':=c2 }) (i:=12) (v:=.slice A2 me.ns c2) em_len h2 hl2 g2 (by omega) rfl;rw [List.set_set] at h3;exact h3
theorem mk_four {W : World} {b gM n c i : Nat} {l : List Mk} {cur : Array Value} (me : Mk) (A1 : Option Addr) (c1 : Nat) (A2 : Option Addr) (c2 : Nat) (A3 : Option Addr) (c3 : Nat) (h : W.ownsRow b 51 26 (.slice (some ⟨gM,0,none⟩) n c) n (mkCells l)) (hl : l.length = n) (hi : i < n) (hk : Blk W gM 51 cur) :
  ((((W.setRow gM (putAt cur (i * 26) me.cs)).setCell ⟨gM,i * 26 + 14,none⟩ (.slice A1 me.nb c1)).setCell ⟨gM,i * 26 + 9,none⟩ (.slice A2 me.nt c2)).setCell ⟨gM,i * 26 + 8,none⟩ (.slice A3 me.nm c3)).ownsRow b 51 26 (.slice (some ⟨gM,0,none⟩) n c) n (mkCells (l.set i (me.at A3 c3 A2 c2 A1 c1))):=by
 unfold mkCells at h ⊢;have h1:=own_put (cel:=fun m : Mk => m.cs.toList) me mk_len h hl hi hk;rw [Array.toArray_toList] at h1;have hl1 : (l.set i me).length = n:=by rw [List.length_set,hl]
 have g1 : (l.set i me)[i]? = some me:=by rw [List.getElem?_set_self (by omega)]
 have h2:=own_cell (x':=me.at me.Am me.cm me.At me.ct A1 c1) (i:=14) (v:=.slice A1 me.nb c1) mk_len h1 hl1 g1 (by omega) rfl;rw [List.set_set] at h2;have hl2 : (l.set i (me.at me.Am me.cm me.At me.ct A1 c1)).length = n:=by rw [List.length_set,hl]
 have g2 : (l.set i (me.at me.Am me.cm me.At me.ct A1 c1))[i]? = some (me.at me.Am me.cm me.At me.ct A1 c1):=by rw [List.getElem?_set_self (by omega)]
 have h3:=own_cell (x':=me.at me.Am me.cm A2 c2 A1 c1) (i:=9) (v:=.slice A2 me.nt c2) mk_len h2 hl2 g2 (by omega) rfl;rw [List.set_set] at h3;have hl3 : (l.set i (me.at me.Am me.cm A2 c2 A1 c1)).length = n:=by rw [List.length_set,hl]
 have g3 : (l.set i (me.at me.Am me.cm A2 c2 A1 c1))[i]? = some (me.at me.Am me.cm A2 c2 A1 c1):=by rw [List.getElem?_set_self (by omega)]
 have h4:=own_cell (x':=me.at A3 c3 A2 c2 A1 c1) (i:=8) (v:=.slice A3 me.nm c3) mk_len h3 hl3 g3 (by omega) rfl;rw [List.set_set] at h4;exact h4
theorem SmO.base {w : World} {b b' : Nat} {s : Sm} (h : SmO w b s) (hb : b' ≤ b) : SmO w b' s:=⟨own_base h.vot hb,own_base h.row hb,fun m hm => (h.ent m hm).base hb,h.dis,h.vsp,h.hv,h.hn⟩
theorem PS.box_far {b pin cm pf : Nat} {s : Sm} {ls : List Mk} {Am : Option Addr} {xv : Bool} {xe xm : Option Nat} {W W' : World} {cs : Array Value} (h : PS b pin s ls Am cm xv xe xm W) (hg : Blk W pf 27 cs) (hne : pf ≠ pin) (ho : Only (fun q => q = pf) W W') : PS b pin s ls Am cm xv xe xm W':=by
 have ap : ∀ t',27 ≠ t' → ∀ q,q < W.heap.size → q = pf → ∃ t cs,Blk W q t cs ∧ t ≠ t':=fun t' ht q hq e => by
  subst e;exact ⟨_,_,hg,ht⟩
 exact ⟨h.bx.only ho (fun e => hne e.symm),fun e => own_apart (h.vot e) ho (ap _ (by decide)),own_apart h.row ho (ap _ (by decide)),
  fun j m hm hj => ⟨own_apart (h.ent j m hm hj).sid ho (ap _ (by decide)),own_apart (h.ent j m hm hj).body ho (ap _ (by decide)),(h.ent j m hm hj).hs,(h.ent j m hm hj).hb⟩,
  own_apart h.mrow ho (ap _ (by decide)),
  fun j m hm hj => ⟨own_apart (h.ment j m hm hj).mem ho (ap _ (by decide)),own_apart (h.ment j m hm hj).tr ho (ap _ (by decide)),own_apart (h.ment j m hm hj).body ho (ap _ (by decide)),(h.ment j m hm hj).hm,(h.ment j m hm hj).ht,(h.ment j m hm hj).hb⟩,
  h.ve,h.vm,h.ee,h.mm,h.em⟩
theorem size_of {e : TypeId} {i : TypeInfo} (hi : Tryz.prog.info? e = some i) (V : World) : (sizeOf e).run Tryz.prog V = .ok i.size V:=by
 simp [sizeOf,typeInfo,hi]
theorem size29 (V : World) : (sizeOf 33).run Tryz.prog V = .ok 13 V:=by
 obtain ⟨i,hi,_,hs,_⟩:=info_parts info29;rw [size_of hi V,hs]
theorem size48 (V : World) : (sizeOf 51).run Tryz.prog V = .ok 26 V:=by
 obtain ⟨i,hi,_,hs,_⟩:=info_parts info48;rw [size_of hi V,hs]
def PlA (W : World) (sF : Sm) (v : Value) (wx : World) : Prop:=∃ (pin : Nat) (sm : Sm),v = .pointer (some ⟨pin,0,none⟩) ∧ W.heap.size ≤ pin ∧ Blk wx pin 27 sm.cs ∧ SmO wx W.heap.size sm ∧ sm.sc = sF.sc ∧ Below W.heap.size W wx
structure FromS (w : World) (b n : Nat) (f : Sm) : Prop where
 inn : SmIn w b f
 vn : f.c.votes.length ≤ 1048576
 len : n ≤ f.ms.length
 mn : f.ms.length ≤ 1048576
 ok : ∀ m ∈ f.ms,EvOk m
structure FromL (w : World) (b k : Nat) (Af : Option Addr) (fn : Nat) (lf : List Mk) : Prop where
 inn : MsIn w b Af fn lf
 len : k ≤ fn
 z : ∀ m ∈ lf,MkZ m
def PL1 (b B p3 p4 pin : Nat) (C0 : Array Value) (s t : Sm) (w : World) (n k : Nat) (Ae : Option Addr) (ke : Nat) (Am : Option Addr) (cm : Nat) (i : Value) (wr : World) : Prop:=∃ (j : Nat) (sm : Sm) (ls : List Mk),j ≤ 3 ∧ i = .int .i64 j ∧ sm.Ae = Ae ∧ sm.ke = ke ∧
 PS B pin sm ls Am cm false none none wr ∧ PQ b p3 p4 C0 s t w wr ∧ sm.ms.length = n ∧ ls.length = k ∧ sm.c.votes.length ≤ 1048576 ∧ (∀ m ∈ sm.ms,EvOk m) ∧ ∀ m ∈ ls,MkZ m
def PlF (b B p3 p4 pin pf : Nat) (C0 : Array Value) (s t : Sm) (w : World) (n k : Nat) (sm : Sm) (ls : List Mk) (Am : Option Addr) (cm : Nat) (v : Value) (wx : World) : Prop:=∃ (f : Sm) (Af : Option Addr) (fn fc : Nat) (lf : List Mk),v = .slice Af fn fc ∧ Blk wx pf 27 f.cs ∧ FromS w b n f ∧ FromL w b k Af fn lf ∧
 PS B pin sm ls Am cm false none none wx ∧ PQ b p3 p4 C0 s t w wx
def PL2 (b B p3 p4 pin pf : Nat) (C0 : Array Value) (s t : Sm) (w : World) (n : Nat) (f : Sm) (A1 : Option Addr) (c1 : Nat) (Ae : Option Addr) (ke : Nat) (ls : List Mk) (Am : Option Addr) (cm : Nat) (i : Value) (wr : World) : Prop:=∃ (q : Nat) (ms : List Em),q ≤ n ∧ i = .int .i64 q ∧
 PS B pin ⟨f.c,A1,c1,Ae,ke,ms⟩ ls Am cm false none none wr ∧ PQ b p3 p4 C0 s t w wr ∧ Blk wr pf 27 f.cs ∧ ms.length = n ∧ ∀ m ∈ ms,EvOk m
def PL3 (b B p3 p4 pin : Nat) (C0 : Array Value) (s t : Sm) (w : World) (k : Nat) (sm : Sm) (Am : Option Addr) (cm : Nat) (i : Value) (wr : World) : Prop:=∃ (q : Nat) (ls : List Mk),q ≤ k ∧ i = .int .i64 q ∧
 PS B pin sm ls Am cm false none none wr ∧ PQ b p3 p4 C0 s t w wr ∧ ls.length = k ∧ ∀ m ∈ ls,MkZ m
structure SE (b B pin pf : Nat) (sm f : Sm) (w V : World) : Prop where
 bx : Blk V pin 27 sm.cs
 bf : Blk V pf 27 f.cs
 row : V.ownsRow B 33 13 (.slice sm.Ae sm.ms.length sm.ke) sm.ms.length (emCells sm.ms)
 lo : Below b w V
theorem SE.grown {b B pin pf b' n sz e : Nat} {sm f : Sm} {w V V' : World} {v : Value} {xs : List Value} (h : SE b B pin pf sm f w V) (h0 : V.ownsRow b' e sz v n xs) (h1 : 27 ≠ e) (h2 : 33 ≠ e) (hb : b ≤ b') (hB : b ≤ V.heap.size) (hg : V.grownBy V' v.ownBlock) : SE b B pin pf sm f w V' :=
 ⟨h.bx.grown hg (own_ne h0 h.bx h1),h.bf.grown hg (own_ne h0 h.bf h1),own_kept h.row h0 h2 hg,h.lo.grown hg hB (fun q hq => by have:=(h0.lt q hq).1;omega)⟩
theorem ems_cells {w : World} {B n k : Nat} {A : Option Addr} {l : List Em} (h : Reads w B 13 A n (emCells l)) (hn : l.length = n) (hk : k < n) {g o : Nat} (hA : A = some ⟨g,o,none⟩) {m : Em} (hm : l[k]? = some m) : ∀ j v,m.cs[j]? = some v → w.cell? ((⟨g,o + k * 13,none⟩ : Addr).add j) = some v:=by
 obtain ⟨b',off,m',e,_,hm',hc⟩:=ems_at h hn hk;obtain rfl : m = m':=Option.some.inj (hm.symm.trans hm');rw [hA] at e;injection e with e
 injection e with e1 e2
 subst e1 e2;exact hc
theorem cell_add {w : World} {g o j : Nat} {v : Value} (hj : 0 < j) (h : w.cell? ((⟨g,o,none⟩ : Addr).add j) = some v) : w.cell? ⟨g,o + j,none⟩ = some v:=by
 have e : (⟨g,o,none⟩ : Addr).add j = ⟨g,o + j,none⟩:=by
  unfold Addr.add;rw [if_neg (by omega)]
 rw [← e];exact h
theorem SE.cells {b B pin pf q gE oE gF oF : Nat} {sm f : Sm} {w V : World} (h : SE b B pin pf sm f w V) (hin : SmIn w b f) {x me : Em} (hx : sm.ms[q]? = some x) (hme : f.ms[q]? = some me) (hA : sm.Ae = some ⟨gE,oE,none⟩) (hF : f.Ae = some ⟨gF,oF,none⟩) :
  V.cell? ⟨pin,8,none⟩ = some (.slice (some ⟨gE,oE,none⟩) sm.ms.length sm.ke) ∧ V.cell? ⟨pf,8,none⟩ = some (.slice (some ⟨gF,oF,none⟩) f.ms.length f.ke) ∧ V.cell? ⟨gE,oE + q * 13 + 4,none⟩ = some x.vb ∧ V.cell? ⟨gF,oF + q * 13 + 4,none⟩ = some me.vb ∧ V.cell? ⟨gE,oE + q * 13 + 12,none⟩ = some x.vs ∧ V.cell? ⟨gF,oF + q * 13 + 12,none⟩ = some me.vs ∧ ∀ j v,me.cs[j]? = some v → V.cell? ((⟨gF,oF + q * 13,none⟩ : Addr).add j) = some v:=by
 have hq:=(List.getElem?_eq_some_iff.1 hx).1;have hq2:=(List.getElem?_eq_some_iff.1 hme).1;have k1:=ems_cells (Reads.of_own h.row) rfl hq hA hx;have k2:=ems_cells (Reads.below hin.row h.lo) rfl hq2 hF hme;refine ⟨?_,?_,cell_add (by omega) (k1 4 _ rfl),cell_add (by omega) (k2 4 _ rfl),cell_add (by omega) (k1 12 _ rfl),cell_add (by omega) (k2 12 _ rfl),k2⟩
 ·rw [← hA]
  exact h.bx.cell 8
 ·rw [← hF]
  exact h.bf.cell 8
structure SK (b B : Nat) (Am : Option Addr) (cm : Nat) (ls : List Mk) (w V : World) : Prop where
 row : V.ownsRow B 51 26 (.slice Am ls.length cm) ls.length (mkCells ls)
 lo : Below b w V
theorem SK.grown {b B b' n sz e cm : Nat} {Am : Option Addr} {ls : List Mk} {w V V' : World} {v : Value} {xs : List Value} (h : SK b B Am cm ls w V) (h0 : V.ownsRow b' e sz v n xs) (h2 : 51 ≠ e) (hb : b ≤ b') (hB : b ≤ V.heap.size) (hg : V.grownBy V' v.ownBlock) : SK b B Am cm ls w V' :=
 ⟨own_kept h.row h0 h2 hg,h.lo.grown hg hB (fun q hq => by have:=(h0.lt q hq).1;omega)⟩
theorem mks_cells {w : World} {B n k : Nat} {A : Option Addr} {l : List Mk} (h : Reads w B 26 A n (mkCells l)) (hk : k < n) {g o : Nat} (hA : A = some ⟨g,o,none⟩) {m : Mk} (hm : l[k]? = some m) : ∀ j v,m.cs[j]? = some v → w.cell? ((⟨g,o + k * 26,none⟩ : Addr).add j) = some v:=by
 intro j v hv;obtain ⟨ad,e,hb,hc⟩:=h.2 (by omega);rw [hA] at e;obtain rfl:=Option.some.inj e
 have hj : j < 26:=by
  have:=(Array.getElem?_eq_some_iff.1 hv).1;rw [mk_size] at this;exact this
 have h1:=mkCells_at l k j m hm hj;have h3:=hc _ _ (h1.trans hv)
 have e2 : (⟨g,o + k * 26,none⟩ : Addr).add j = (⟨g,o,none⟩ : Addr).add (k * 26 + j):=by
  unfold Addr.add
  split <;> split <;> simp_all <;> omega
 rw [e2];exact h3
theorem SK.cells {b B q gM oM gR oR fn cm : Nat} {Am Af : Option Addr} {ls lf : List Mk} {w V : World} (h : SK b B Am cm ls w V) (hin : MsIn w b Af fn lf) (hq : q < fn) {x me : Mk} (hx : ls[q]? = some x) (hme : lf[q]? = some me) (hA : Am = some ⟨gM,oM,none⟩) (hF : Af = some ⟨gR,oR,none⟩) :
  V.cell? ⟨gM,oM + q * 26 + 14,none⟩ = some x.vb ∧ V.cell? ⟨gR,oR + q * 26 + 14,none⟩ = some me.vb ∧ V.cell? ⟨gM,oM + q * 26 + 9,none⟩ = some x.vt ∧ V.cell? ⟨gR,oR + q * 26 + 9,none⟩ = some me.vt ∧ V.cell? ⟨gM,oM + q * 26 + 8,none⟩ = some x.vm ∧ V.cell? ⟨gR,oR + q * 26 + 8,none⟩ = some me.vm ∧ ∀ j v,me.cs[j]? = some v → V.cell? ((⟨gR,oR + q * 26,none⟩ : Addr).add j) = some v:=by
 have hq1:=(List.getElem?_eq_some_iff.1 hx).1;have k1:=mks_cells (Reads.of_own h.row) hq1 hA hx;have k2:=mks_cells (Reads.below hin.row h.lo) hq hF hme;exact ⟨cell_add (by omega) (k1 14 _ rfl),cell_add (by omega) (k2 14 _ rfl),cell_add (by omega) (k1 9 _ rfl),cell_add (by omega) (k2 9 _ rfl),cell_add (by omega) (k1 8 _ rfl),cell_add (by omega) (k2 8 _ rfl),k2⟩
theorem size69 (V : World) : (sizeOf 84).run Tryz.prog V = .ok 3 V:=by
 obtain ⟨i,hi,_,hs,_⟩:=info_parts info69;rw [size_of hi V,hs]
theorem own_len (A : Option Addr) (n n' c : Nat) : (Value.slice A n c).ownBlock = (Value.slice A n' c).ownBlock:=by cases A <;> rfl
theorem SE.drew {b B pin pf : Nat} {sm f : Sm} {w V : World} (h : SE b B pin pf sm f w V) : SE b B pin pf sm f w V.drew:=⟨h.bx,h.bf,own_step h.row (Below.refl _ _).drew,h.lo.drew⟩
theorem SK.drew {b B cm : Nat} {Am : Option Addr} {ls : List Mk} {w V : World} (h : SK b B Am cm ls w V) : SK b B Am cm ls w V.drew:=⟨own_step h.row (Below.refl _ _).drew,h.lo.drew⟩
end Go.Proofs.YtcibcmfaebbhnaaGreatDoor
