/-
  ScriptPlace, for scripts and marks that hold together at most 1048576 values and letters: what CheckConfig, Print and PrintTrace answer hangs on what they are handed, not on where it lies.
-/
import Derived.Test.YtcibcmfaebbhnaaGreatDoorCards
import Derived.Test.YtcibcmfaebbhnaaGreatDoorTie
import Derived.WalkKit
import Derived.ProofKit
import Derived.OpenShut
import Derived.ChangeMaps5
import Derived.Shelf.Vars
import Derived.Deep.DeepHandedRow
import Derived.Test.YtcibcmfaebbhnaaGreatDoorPPlw
import Derived.Test.YtcibcmfaebbhnaaGreatDoorPTGbm
import Derived.Test.YtcibcmfaebbhnaaGreatDoorPTKnl
import Derived.Test.YtcibcmfaebbhnaaGreatDoorPLad
import Derived.Test.YtcibcmfaebbhnaaGreatDoorPLat
import Derived.Test.YtcibcmfaebbhnaaGreatDoorPLnk
import Derived.Test.YtcibcmfaebbhnaaGreatDoorPRdc
set_option linter.unusedSimpArgs false
set_option linter.unusedVariables false
set_option maxRecDepth 100000

namespace Go.Proofs.YtcibcmfaebbhnaaGreatDoor.rowPlace
open Go.ChangeShapes Go.WideShapes Go.ChangeAt Go.RowKit Go.Deep Q Tr
theorem laid_facts {W : World} (h : laidMetH Tryz.prog Rows.scriptPlaceUptoRow.laid W) : OpT W ∧ Tab W ∧ KT W:=by
 have h' : laidMet Tryz.prog Rows.scriptPlaceUptoRow.laid W:=h;obtain ⟨ps,h1,_⟩:=h';obtain ⟨_,h2⟩:=tail_laid h1;obtain ⟨_,h3⟩:=tail_laid h2;obtain ⟨_,h4⟩:=tail_laid h3;obtain ⟨_,h5⟩:=tail_laid h4;obtain ⟨_,h6⟩:=tail_laid h5;obtain ⟨_,h7⟩:=tail_laid h6;exact ⟨ops_laid (by kernel_rfl) h6,tab_laid (by kernel_rfl) h3,kinds_laid (by kernel_rfl) h7⟩
theorem cellsPm : Tryz.prog.cellsOf 28 = 1:=by kernel_rfl
theorem cellsPr : Tryz.prog.cellsOf 70 = 20:=by kernel_rfl
theorem gb_cap {H : Type} {enc : TypeId × Value → H} {W : World} {t e : TypeId} {A : Option Addr} {n c : Nat} {d : DataW H} (ht : Tryz.prog.underlying t = some (.slice e)) (hC : 0 < Tryz.prog.cellsOf e) (h : GB enc W t [.slice A n c] d) : n ≤ c:=by
 rcases GB.slice ht hC h with e | ⟨a,len,cap,D,cs,e,hl,_⟩
 ·injection e with _ e1 e2
  omega
 ·injection e with _ e1 e2
  omega
theorem gb_pair {H : Type} {enc : TypeId × Value → H} {W : World} {cs : List Value} {d : DataW H} (hl : cs.length = 20) (h : GB enc W 70 cs d) :
  ∃ (s t : Sm) (Al : Option Addr) (ln lc : Nat) (l : List Mk) (Ar : Option Addr) (rn rc : Nat) (r : List Mk),cs = (prCs s t (.slice Al ln lc) (.slice Ar rn rc)).toList ∧ (s.ms.length ≤ s.ke ∧ ln ≤ lc) ∧ (SmIn W W.heap.size s ∧ s.c.votes.length ≤ 1048576 ∧ s.ms.length ≤ 1048576 ∧ ∀ m ∈ s.ms,EvOk m) ∧ (SmIn W W.heap.size t ∧ t.c.votes.length ≤ 1048576 ∧ t.ms.length ≤ 1048576 ∧ ∀ m ∈ t.ms,EvOk m) ∧ (MsIn W W.heap.size Al ln l ∧ ln ≤ 1048576 ∧ ∀ m ∈ l,MkZ m) ∧ MsIn W W.heap.size Ar rn r ∧ rn ≤ 1048576 ∧ ∀ m ∈ r,MkZ m:=by
 obtain ⟨_,g0⟩:=GB.fld Tryz.underlying70 h 0 27 0 9 ⟨_,rfl,rfl,rfl⟩ cellsSc;obtain ⟨_,g1⟩:=GB.fld Tryz.underlying70 h 1 27 9 9 ⟨_,rfl,rfl,rfl⟩ cellsSc;obtain ⟨_,g2⟩:=GB.fld Tryz.underlying70 h 2 28 18 1 ⟨_,rfl,rfl,rfl⟩ cellsPm;obtain ⟨_,g3⟩:=GB.fld Tryz.underlying70 h 3 28 19 1 ⟨_,rfl,rfl,rfl⟩ cellsPm;obtain ⟨s,hs,h1⟩:=GB.script (cs:=(cs.drop 0).take 9) (by simp;omega) g0;obtain ⟨t,ht,h2⟩:=GB.script (cs:=(cs.drop 9).take 9) (by simp;omega) g1;obtain ⟨x,hx⟩:=list1 (l:=(cs.drop 18).take 1) (by simp;omega);obtain ⟨y,hy⟩:=list1 (l:=(cs.drop 19).take 1) (by simp;omega);rw [hx] at g2;rw [hy] at g3;obtain ⟨Al,ln,lc,l,rfl,h3⟩:=GB.marks g2;obtain ⟨Ar,rn,rc,r,rfl,h4⟩:=GB.marks g3
 have hse : s.ms.length ≤ s.ke:=by
  obtain ⟨_,g8⟩:=GB.fld Tryz.underlying27 g0 1 25 8 1 ⟨_,rfl,rfl,rfl⟩ cellsEs;rw [hs] at g8;exact gb_cap Tryz.underlying25 (by rw [cellsEv];omega) (show GB enc W _ [.slice s.Ae s.ms.length s.ke] _ from g8)
 have hlc : ln ≤ lc:=gb_cap Tryz.underlying28 (by rw [cellsT48];omega) g2;refine ⟨s,t,Al,ln,lc,l,Ar,rn,rc,r,?_,⟨hse,hlc⟩,h1,h2,h3,h4⟩;have a1 : cs = cs.take 9 ++ cs.drop 9:=(List.take_append_drop 9 cs).symm
 have a2 : cs.drop 9 = (cs.drop 9).take 9 ++ cs.drop 18:=by
  have:=List.take_append_drop 9 (cs.drop 9);rw [List.drop_drop] at this;exact this.symm
 have a3 : cs.drop 18 = (cs.drop 18).take 1 ++ cs.drop 19:=by
  have:=List.take_append_drop 1 (cs.drop 18);rw [List.drop_drop] at this;exact this.symm
 have a4 : cs.drop 19 = (cs.drop 19).take 1:=(List.take_of_length_le (by simp;omega)).symm;rw [List.drop_zero] at hs;rw [hs] at a1;rw [ht] at a2;rw [hx] at a3;rw [hy] at a4;unfold prCs;rw [Array.toList_append,Array.toList_append,a1,a2,a3,a4,List.append_assoc]
 rfl
theorem contract (H : Type) (enc : TypeId × Value → H) (W : World) (base : Nat) (args : Array Value) (ds gs : List (DataW H)) (before : List MemPlace)
  (hval : ∀ (j : Nat) t v,Tryz.f4.params[j]? = some t → args[j]? = some v → Value.okWide Tryz.prog W .any base t v)
  (hW : DataW.Whole enc Tryz.prog Tryz.f4.params.toList Rows.scriptPlaceSpec.vars false W args.toList ds gs before) (hk : Rows.uptoSmall H (ds ++ gs) = true) (hL : laidMetH Tryz.prog Rows.scriptPlaceUptoRow.laid W) :
  Calls Tryz.prog 4 args W fun e W' => ∃ v,e = .returned v ∧ Rows.scriptPlaceSpec.post enc Tryz.prog Tryz.f4 false true false false W args v W':=by
 have hW':=hW;have hlt0 : ∀ x ∈ before,x.block < W.heap.size:=fun x hx => hW'.lt x hx
 obtain ⟨p,q,hA0,hV,rfl,hfz,hnd⟩:=hW;have hA : DataW.TrodAll enc Tryz.prog W 0 (fun _ => true) true Tryz.f4.params.toList args.toList ds p:=hA0;rw [Tryz.params4] at hA hval;obtain ⟨v0,d0,rfl,rfl,h0⟩:=trodAll_one hA;obtain ⟨rfl,rfl⟩:=trodVars_none hV;obtain ⟨cs0,rfl,_⟩:=okWide_struct Tryz.underlying70 (hval 0 70 v0 rfl rfl)
 have hbulk : Rows.uptoBulk d0 ≤ 1048576:=by
  have h1 : Rows.uptoBulkAll ([d0] ++ ([] : List (DataW H))) ≤ 1048576:=of_decide_eq_true hk;rw [List.append_nil,Rows.uptoBulkAll,Rows.uptoBulkAll] at h1;exact h1
 obtain ⟨fuel,hf⟩:=h0;have hG : GB enc W 70 cs0.toList d0:=⟨fuel,p,hf,fun x hx => hlt0 x (by simp [hx]),hbulk⟩;obtain ⟨_,_,_,_,hcl,_⟩:=DataW.trod_struct Tryz.underlying70 (show DataW.trod enc Tryz.prog W 0 (fun _ => true) true fuel 70 cs0.toList = some (d0,p) from hf);obtain ⟨s,t,Al,ln,lc,l,Ar,rn,rc,r,hv,⟨c1,c2⟩,⟨s1,s2,s3,s4⟩,⟨t1,t2,t3,t4⟩,⟨l1,l2,l3⟩,r1,r2,r3⟩:=gb_pair (hcl.trans cellsPr) hG;obtain ⟨hT,hTb,hKT⟩:=laid_facts hL;obtain rfl : cs0 = prCs s t (.slice Al ln lc) (.slice Ar rn rc):=Array.toList_inj.1 hv
 exact (place_law s t Al ln lc l Ar rn rc r W s1 t1 s2 t2 s3 t3 s4 t4 l1 r1 l3 r3 c1 c2 l2 r2 hT hTb hKT).mono fun e W' ⟨he,hb⟩ =>
  ⟨_,he,post_law hW' rfl rfl rfl rfl Tryz.laidOut (by rw [Tryz.params4];intro t ht;simp at ht;subst ht;exact ⟨by kernel_rfl,of_decide_eq_true (by kernel_rfl)⟩) rfl Tryz.underlying4 hb⟩
theorem laid_met (os : Os) : laidMet Tryz.prog Rows.scriptPlaceUptoRow.laid ((laidWorldK os).forCall (fun _ _ => 0) ⟨#[],#[.agg #[.int .i64 0,.int .i64 0,.int .i64 0,.int .i64 0,.int .i64 0,.int .i64 0,.int .i64 0,.slice none 0 0,.slice none 0 0,.int .i64 0,.int .i64 0,.int .i64 0,.int .i64 0,.int .i64 0,.int .i64 0,.int .i64 0,.slice none 0 0,.slice none 0 0,.slice none 0 0,.slice none 0 0]],[]⟩).memory :=
 laidMet_of_run' 8 (by kernel_rfl) (by kernel_rfl)
theorem reads (os : Os) {H : Type} (enc : TypeId × Value → H) : ∃ places,DataW.whole enc Tryz.prog ((laidWorldK os).forCall (fun _ _ => 0) ⟨#[],#[.agg #[.int .i64 0,.int .i64 0,.int .i64 0,.int .i64 0,.int .i64 0,.int .i64 0,.int .i64 0,.slice none 0 0,.slice none 0 0,.int .i64 0,.int .i64 0,.int .i64 0,.int .i64 0,.int .i64 0,.int .i64 0,.int .i64 0,.slice none 0 0,.slice none 0 0,.slice none 0 0,.slice none 0 0]],[]⟩).memory Tryz.f4.params.toList Rows.scriptPlaceSpec.vars false (#[.agg #[.int .i64 0,.int .i64 0,.int .i64 0,.int .i64 0,.int .i64 0,.int .i64 0,.int .i64 0,.slice none 0 0,.slice none 0 0,.int .i64 0,.int .i64 0,.int .i64 0,.int .i64 0,.int .i64 0,.int .i64 0,.int .i64 0,.slice none 0 0,.slice none 0 0,.slice none 0 0,.slice none 0 0]] : Array Value).toList 8 = some ([.agg [.agg [.agg [.lit (.int .i64 0),.lit (.int .i64 0),.lit (.int .i64 0),.lit (.int .i64 0),.lit (.int .i64 0),.lit (.int .i64 0),.lit (.int .i64 0),.nil],.nil],.agg [.agg [.lit (.int .i64 0),.lit (.int .i64 0),.lit (.int .i64 0),.lit (.int .i64 0),.lit (.int .i64 0),.lit (.int .i64 0),.lit (.int .i64 0),.nil],.nil],.nil,.nil]],[],places) :=
 ⟨[],by kernel_rfl⟩
theorem lifted (os : Os) (started : os.Started) (H : Type) (enc : TypeId × Value → H) (F : Stop.Interp) :
  ReturnsInHanded {} Tryz.checked os 4 .any ((Rows.OpenSpec.upto Rows.scriptPlaceSpec).preRow enc Tryz.prog Tryz.f4 Rows.scriptPlaceUptoRow.domain false Rows.scriptPlaceUptoRow.laid) (((Rows.OpenSpec.upto Rows.scriptPlaceSpec).at F).post enc Tryz.prog Tryz.f4 false true false false):=by
 obtain ⟨places,hx⟩:=reads os enc
 refine returnsInHanded_of_row (C:=Tryz.checked) (s:=Rows.OpenSpec.upto Rows.scriptPlaceSpec) Tryz.own started (by kernel_rfl) Tryz.func4
  (witness_row_at (enc:=enc) (C:=Tryz.checked) false (laidWorldK os) #[.agg #[.int .i64 0,.int .i64 0,.int .i64 0,.int .i64 0,.int .i64 0,.int .i64 0,.int .i64 0,.slice none 0 0,.slice none 0 0,.int .i64 0,.int .i64 0,.int .i64 0,.int .i64 0,.int .i64 0,.int .i64 0,.int .i64 0,.slice none 0 0,.slice none 0 0,.slice none 0 0,.slice none 0 0]] rfl (by kernel_rfl) (by kernel_rfl) (by kernel_rfl)
   (OpenSpec.preRow_of_cond 8 hx (by kernel_rfl) (fun k hk => by cases hk;kernel_rfl) (by kernel_rfl) (laid_met os))) ?_
 intro W base args ds gs before hval hW _ hcond _ hL _ _;exact contract H enc W base args ds gs before hval hW (hcond _ rfl) hL
theorem saidUpto : Rows.ScriptPlaceUptoSaid :=
 OpenClaim.holds_of_cond 4 Tryz.f4 rfl rfl rfl rfl rfl rfl rfl ⟨rfl,rfl,rfl,rfl,rfl⟩ rfl rfl rfl rfl rfl (by kernel_rfl) Tryz.func4 (by kernel_rfl)
  (of_decide_eq_true (by kernel_rfl)) (by unfold Func.isWrapper;first | (rw [if_pos (by decide +kernel)];kernel_rfl) | (rw [if_neg (by decide +kernel)];exact ⟨rfl,rfl⟩))
  (fun os started H enc _ F => by rw [OpenClaim.pre_eq_preRow];exact lifted os started H enc F)
theorem plain (f : FuncId) (fn : Func) (hf : Tryz.pinned.checked.prog.funcNamed "quorate/quoratelaw02.ScriptPlace" = some f) (hfn : Tryz.pinned.checked.prog.funcs[f]? = some fn) :
  true = Tryz.pinned.checked.prog.looks [] ∧ ∀ (j : Nat) t,fn.params[j]? = some t → Tryz.pinned.checked.prog.wantsStandIn t = false:=by
 obtain rfl : f = 4 := Option.some.inj ((show Tryz.prog.funcNamed "quorate/quoratelaw02.ScriptPlace" = some 4 by kernel_rfl).symm.trans hf) |>.symm;obtain rfl : fn = Tryz.f4:=(Option.some.inj (Tryz.func4.symm.trans hfn)).symm;refine ⟨by kernel_rfl,fun j t ht => ?_⟩;rw [Tryz.params4] at ht;obtain rfl : t = 70:=by simpa using Array.mem_of_getElem? ht
 exact (show Tryz.prog.wantsStandIn 70 = false by kernel_rfl)
theorem holds : Rows.ScriptPlaceUptoCardSaid :=
 Claim7.holds_tied_plain_at .later [] _ _ _ _ saidUpto (fun _ h => by cases h) (by kernel_rfl) (fun _ h => by cases h) scriptPlaceUpto_row_tie rfl ⟨rfl,rfl⟩ (by kernel_rfl) rfl plain (by kernel_rfl)
#print axioms holds
end Go.Proofs.YtcibcmfaebbhnaaGreatDoor.rowPlace
