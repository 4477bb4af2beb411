/-
  ScriptKept, for scripts, marks and events that hold together at most 1048576 values and letters: what CheckConfig, Print, PrintEvent and PrintTrace are handed stays as it is, and all that lies behind the ends of its lists.
-/
import Derived.Test.YtcibcmfaebbhnaaGreatDoorCards
import Derived.Test.YtcibcmfaebbhnaaGreatDoorTie
import Derived.WalkKit
import Derived.ProofKit
import Derived.OpenShut
import Derived.ChangeMaps5
import Derived.Shelf.Vars
import Derived.Deep.DeepHandedRow
import Derived.Test.YtcibcmfaebbhnaaGreatDoorLKpt
import Derived.Test.YtcibcmfaebbhnaaGreatDoorLTGbm
import Derived.Test.YtcibcmfaebbhnaaGreatDoorLTKnl
import Derived.Test.YtcibcmfaebbhnaaGreatDoorLLad
import Derived.Test.YtcibcmfaebbhnaaGreatDoorLLat
import Derived.Test.YtcibcmfaebbhnaaGreatDoorLLnk
import Derived.Test.YtcibcmfaebbhnaaGreatDoorLRdc
set_option linter.unusedSimpArgs false
set_option linter.unusedVariables false
set_option maxRecDepth 100000

namespace Go.Proofs.YtcibcmfaebbhnaaGreatDoor.rowKept
open Go.ChangeShapes Go.WideShapes Go.ChangeAt Go.RowKit Go.Deep Q Tr
theorem laid_facts {W : World} (h : laidMetH Tryz.prog Rows.scriptKeptUptoRow.laid W) : OpT W ∧ Tab W ∧ KT W:=by
 have h' : laidMet Tryz.prog Rows.scriptKeptUptoRow.laid W:=h;obtain ⟨ps,h1,_⟩:=h';obtain ⟨_,h2⟩:=tail_laid h1;obtain ⟨_,h3⟩:=tail_laid h2;obtain ⟨_,h4⟩:=tail_laid h3;obtain ⟨_,h5⟩:=tail_laid h4;obtain ⟨_,h6⟩:=tail_laid h5;obtain ⟨_,h7⟩:=tail_laid h6;exact ⟨ops_laid (by kernel_rfl) h6,tab_laid (by kernel_rfl) h3,kinds_laid (by kernel_rfl) h7⟩
theorem contract (H : Type) (enc : TypeId × Value → H) (W : World) (base : Nat) (args : Array Value) (ds gs : List (DataW H)) (before : List MemPlace)
  (hval : ∀ (j : Nat) t v,Tryz.f3.params[j]? = some t → args[j]? = some v → Value.okWide Tryz.prog W .any base t v)
  (hW : DataW.Whole enc Tryz.prog Tryz.f3.params.toList Rows.scriptKeptSpec.vars false W args.toList ds gs before) (hk : Rows.uptoSmall H (ds ++ gs) = true) (hL : laidMetH Tryz.prog Rows.scriptKeptUptoRow.laid W) :
  Calls Tryz.prog 3 args W fun e W' => ∃ v,e = .returned v ∧ Rows.scriptKeptSpec.post enc Tryz.prog Tryz.f3 false true false false W args v W':=by
 have hW':=hW;have hlt0 : ∀ x ∈ before,x.block < W.heap.size:=fun x hx => hW'.lt x hx
 obtain ⟨p,q,hA0,hV,rfl,hfz,hnd⟩:=hW;have hA : DataW.TrodAll enc Tryz.prog W 0 (fun _ => true) true Tryz.f3.params.toList args.toList ds p:=hA0;rw [Tryz.params3] at hA hval;obtain ⟨v0,v1,v2,d0,d1,d2,p0,p1,p2,rfl,rfl,rfl,h0,h1,h2⟩:=trodAll_three hA;obtain ⟨rfl,rfl⟩:=trodVars_none hV;obtain ⟨cs0,rfl,_⟩:=okWide_struct Tryz.underlying27 (hval 0 27 v0 rfl rfl);obtain ⟨A1,c1,rfl⟩ : ∃ (A : Option Addr) (c : Nat × Nat),v1 = .slice A c.1 c.2:=by obtain ⟨a,l,c,h⟩:=okWide_slice Tryz.underlying28 (hval 1 28 v1 rfl rfl);exact ⟨a,(l,c),h⟩
 obtain ⟨cs2,rfl,_⟩:=okWide_struct Tryz.underlying35 (hval 2 35 v2 rfl rfl)
 have hbulk : Rows.uptoBulk d0 + Rows.uptoBulk d1 + Rows.uptoBulk d2 ≤ 1048576:=by
  have h1 : Rows.uptoBulkAll ([d0,d1,d2] ++ ([] : List (DataW H))) ≤ 1048576:=of_decide_eq_true hk;rw [List.append_nil,Rows.uptoBulkAll,Rows.uptoBulkAll,Rows.uptoBulkAll,Rows.uptoBulkAll] at h1;omega
 obtain ⟨fuel0,hf0⟩:=h0;obtain ⟨fuel1,hf1⟩:=h1;obtain ⟨fuel2,hf2⟩:=h2;have hG0 : GB enc W 27 cs0.toList d0:=⟨fuel0,p0,hf0,fun x hx => hlt0 x (by simp [hx]),by omega⟩;have hG1 : GB enc W 28 [.slice A1 c1.1 c1.2] d1:=⟨fuel1,p1,hf1,fun x hx => hlt0 x (by simp [hx]),by omega⟩;have hG2 : GB enc W 35 cs2.toList d2:=⟨fuel2,p2,hf2,fun x hx => hlt0 x (by simp [hx]),by omega⟩;obtain ⟨_,_,_,_,hcl0,_⟩:=DataW.trod_struct Tryz.underlying27 (show DataW.trod enc Tryz.prog W 0 (fun _ => true) true fuel0 27 cs0.toList = some (d0,p0) from hf0);obtain ⟨_,_,_,_,hcl2,_⟩:=DataW.trod_struct Tryz.underlying35 (show DataW.trod enc Tryz.prog W 0 (fun _ => true) true fuel2 35 cs2.toList = some (d2,p2) from hf2);obtain ⟨s,hv,hin,hvn,hmn,hok⟩:=GB.script (hcl0.trans cellsSc) hG0;obtain ⟨A,n,c,l,hv1,hin1,hn1,hz1⟩:=GB.marks hG1;obtain ⟨m,nodes,hv2,hin2,hok2⟩:=GB.thing (hcl2.trans cellsTh) hG2;obtain ⟨hT,hTb,hKT⟩:=laid_facts hL;obtain rfl : cs0 = s.cs:=Array.toList_inj.1 hv;obtain rfl : cs2 = m.th nodes:=Array.toList_inj.1 hv2;rw [hv1] at hW' ⊢
 exact (kept_law s A n c l m nodes W hin hvn hmn hok hin1 hz1 hn1 hin2 hok2 hT hTb hKT).mono fun e W' ⟨he,hb⟩ =>
  ⟨_,he,post_law hW' rfl rfl rfl rfl Tryz.laidOut (by rw [Tryz.params3];intro t ht;simp at ht;rcases ht with rfl | rfl | rfl <;> exact ⟨by kernel_rfl,of_decide_eq_true (by kernel_rfl)⟩) rfl Tryz.underlying4 hb⟩
theorem laid_met (os : Os) : laidMet Tryz.prog Rows.scriptKeptUptoRow.laid ((laidWorldK os).forCall (fun _ _ => 0) ⟨#[],#[.agg #[.int .i64 0,.int .i64 0,.int .i64 0,.int .i64 0,.int .i64 0,.int .i64 0,.int .i64 0,.slice none 0 0,.slice none 0 0],.slice none 0 0,.agg #[.int .i64 0,.int .i64 0,.int .i64 0,.int .i64 0,.slice none 0 0,.int .i64 0,.int .i64 0,.int .i64 0,.int .i64 0,.string ⟨#[]⟩,.string ⟨#[]⟩,.string ⟨#[]⟩,.slice none 0 0,.int .i64 0]],[]⟩).memory :=
 laidMet_of_run' 8 (by kernel_rfl) (by kernel_rfl)
theorem reads (os : Os) {H : Type} (enc : TypeId × Value → H) : ∃ places,DataW.whole enc Tryz.prog ((laidWorldK os).forCall (fun _ _ => 0) ⟨#[],#[.agg #[.int .i64 0,.int .i64 0,.int .i64 0,.int .i64 0,.int .i64 0,.int .i64 0,.int .i64 0,.slice none 0 0,.slice none 0 0],.slice none 0 0,.agg #[.int .i64 0,.int .i64 0,.int .i64 0,.int .i64 0,.slice none 0 0,.int .i64 0,.int .i64 0,.int .i64 0,.int .i64 0,.string ⟨#[]⟩,.string ⟨#[]⟩,.string ⟨#[]⟩,.slice none 0 0,.int .i64 0]],[]⟩).memory Tryz.f3.params.toList Rows.scriptKeptSpec.vars false (#[.agg #[.int .i64 0,.int .i64 0,.int .i64 0,.int .i64 0,.int .i64 0,.int .i64 0,.int .i64 0,.slice none 0 0,.slice none 0 0],.slice none 0 0,.agg #[.int .i64 0,.int .i64 0,.int .i64 0,.int .i64 0,.slice none 0 0,.int .i64 0,.int .i64 0,.int .i64 0,.int .i64 0,.string ⟨#[]⟩,.string ⟨#[]⟩,.string ⟨#[]⟩,.slice none 0 0,.int .i64 0]] : Array Value).toList 8 = some ([.agg [.agg [.lit (.int .i64 0),.lit (.int .i64 0),.lit (.int .i64 0),.lit (.int .i64 0),.lit (.int .i64 0),.lit (.int .i64 0),.lit (.int .i64 0),.nil],.nil],.nil,.agg [.agg [.lit (.int .i64 0),.lit (.int .i64 0),.lit (.int .i64 0),.lit (.int .i64 0),.nil,.agg [.lit (.int .i64 0),.lit (.int .i64 0),.lit (.int .i64 0),.lit (.int .i64 0),.lit (.string []),.lit (.string []),.lit (.string [])],.nil],.lit (.int .i64 0)]],[],places) :=
 ⟨[],by kernel_rfl⟩
theorem lifted (os : Os) (started : os.Started) (H : Type) (enc : TypeId × Value → H) (F : Stop.Interp) :
  ReturnsInHanded {} Tryz.checked os 3 .any ((Rows.OpenSpec.upto Rows.scriptKeptSpec).preRow enc Tryz.prog Tryz.f3 Rows.scriptKeptUptoRow.domain false Rows.scriptKeptUptoRow.laid) (((Rows.OpenSpec.upto Rows.scriptKeptSpec).at F).post enc Tryz.prog Tryz.f3 false true false false):=by
 obtain ⟨places,hx⟩:=reads os enc
 refine returnsInHanded_of_row (C:=Tryz.checked) (s:=Rows.OpenSpec.upto Rows.scriptKeptSpec) Tryz.own started (by kernel_rfl) Tryz.func3
  (witness_row_at (enc:=enc) (C:=Tryz.checked) false (laidWorldK os) #[.agg #[.int .i64 0,.int .i64 0,.int .i64 0,.int .i64 0,.int .i64 0,.int .i64 0,.int .i64 0,.slice none 0 0,.slice none 0 0],.slice none 0 0,.agg #[.int .i64 0,.int .i64 0,.int .i64 0,.int .i64 0,.slice none 0 0,.int .i64 0,.int .i64 0,.int .i64 0,.int .i64 0,.string ⟨#[]⟩,.string ⟨#[]⟩,.string ⟨#[]⟩,.slice none 0 0,.int .i64 0]] rfl (by kernel_rfl) (by kernel_rfl) (by kernel_rfl)
   (OpenSpec.preRow_of_cond 8 hx (by kernel_rfl) (fun k hk => by cases hk;kernel_rfl) (by kernel_rfl) (laid_met os))) ?_
 intro W base args ds gs before hval hW _ hcond _ hL _ _;exact contract H enc W base args ds gs before hval hW (hcond _ rfl) hL
theorem saidUpto : Rows.ScriptKeptUptoSaid :=
 OpenClaim.holds_of_cond 3 Tryz.f3 rfl rfl rfl rfl rfl rfl rfl ⟨rfl,rfl,rfl,rfl,rfl⟩ rfl rfl rfl rfl rfl (by kernel_rfl) Tryz.func3 (by kernel_rfl)
  (of_decide_eq_true (by kernel_rfl)) (by unfold Func.isWrapper;first | (rw [if_pos (by decide +kernel)];kernel_rfl) | (rw [if_neg (by decide +kernel)];exact ⟨rfl,rfl⟩))
  (fun os started H enc _ F => by rw [OpenClaim.pre_eq_preRow];exact lifted os started H enc F)
theorem plain (f : FuncId) (fn : Func) (hf : Tryz.pinned.checked.prog.funcNamed "quorate/quoratelaw02.ScriptKept" = some f) (hfn : Tryz.pinned.checked.prog.funcs[f]? = some fn) :
  true = Tryz.pinned.checked.prog.looks [] ∧ ∀ (j : Nat) t,fn.params[j]? = some t → Tryz.pinned.checked.prog.wantsStandIn t = false:=by
 obtain rfl : f = 3 := Option.some.inj ((show Tryz.prog.funcNamed "quorate/quoratelaw02.ScriptKept" = some 3 by kernel_rfl).symm.trans hf) |>.symm;obtain rfl : fn = Tryz.f3:=(Option.some.inj (Tryz.func3.symm.trans hfn)).symm;refine ⟨by kernel_rfl,fun j t ht => ?_⟩;rw [Tryz.params3] at ht;have h3 : t = 27 ∨ t = 28 ∨ t = 35:=by simpa using Array.mem_of_getElem? ht
 rcases h3 with rfl | rfl | rfl
 ·exact (show Tryz.prog.wantsStandIn 27 = false by kernel_rfl)
 ·exact (show Tryz.prog.wantsStandIn 28 = false by kernel_rfl)
 ·exact (show Tryz.prog.wantsStandIn 35 = false by kernel_rfl)
theorem holds : Rows.ScriptKeptUptoCardSaid :=
 Claim7.holds_tied_plain_at .later [] _ _ _ _ saidUpto (fun _ h => by cases h) (by kernel_rfl) (fun _ h => by cases h) scriptKeptUpto_row_tie rfl ⟨rfl,rfl⟩ (by kernel_rfl) rfl plain (by kernel_rfl)
#print axioms holds
end Go.Proofs.YtcibcmfaebbhnaaGreatDoor.rowKept
