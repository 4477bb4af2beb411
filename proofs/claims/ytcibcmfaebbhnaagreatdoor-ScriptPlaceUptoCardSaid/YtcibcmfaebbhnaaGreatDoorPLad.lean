/-
  What the rows' listed variables give: the operations' words, the table of powers; the heap of a witness. (Printed by wip/tools/mkrle.py.)
-/
import Derived.Test.YtcibcmfaebbhnaaGreatDoorRows
import Derived.Lib.LaidTab
import Derived.Test.YtcibcmfaebbhnaaGreatDoorPPcm
set_option linter.unusedSimpArgs false
set_option linter.unusedVariables false

namespace Go.Proofs.YtcibcmfaebbhnaaGreatDoor
open Go.RowKit Go.WideShapes Go.ChangeShapes Q
def strs (ls : List (List UInt8)) : List Value:=ls.map fun l => .string (S l)
theorem cells_of_texts {H : Type} {enc : TypeId × Value → H} {P : Program} {w : World} {base : Nat} {sp : Nat → Bool} {held : Bool} {fuel : Nat} {t e : TypeId} {n : Nat} {cs : List Value} {zs : List (List UInt8)} {p : List MemPlace}
  (ht : P.underlying t = some (.array n e)) (he : P.underlying e = some .string) (hce : P.cellsOf e = 1) (hct : P.cellsOf t = n)
  (h : DataW.trod enc P w base sp held fuel t cs = some (.agg (zs.map fun z => .lit (.string z)),p)) : cs = strs zs:=by
 cases fuel with
 | zero => simp [DataW.trod] at h
 | succ fuel =>
  simp only [DataW.trod,ht,hce,hct,Nat.mul_one] at h
  split at h
  ·rename_i hl
   obtain ⟨xs,hm,hx⟩:=Option.map_eq_some_iff.1 h
   have hxs : xs.map (·.1) = zs.map fun z => (DataW.lit (.string z) : DataW H):=by
    have:=congrArg Prod.fst hx;simpa using this
   have hxl : xs.length = n:=by simpa using Lib.mapM_length hm
   have hzl : zs.length = n:=by
    have:=congrArg List.length hxs;simp at this;omega
   unfold strs
   apply List.ext_getElem?
   intro i
   by_cases hi : i < n
   ·obtain ⟨b,hb,hf⟩:=Lib.mapM_at hm i i (by simp [hi])
    obtain ⟨z,hc,rfl,_⟩:=DataW.trod_string he hf
    have h1 : cs[i]? = some (.string z):=by
     have:=congrArg (·[0]?) hc;simpa [List.getElem?_take,List.getElem?_drop] using this
    have h2 : (xs.map (·.1))[i]? = some (DataW.lit (.string z.data.toList) : DataW H):=by simp [hb]
    rw [hxs] at h2;simp only [List.getElem?_map,Option.map_eq_some_iff,DataW.lit.injEq,Lit.string.injEq] at h2;obtain ⟨z',hz',hzz⟩:=h2;simp [h1,hz',hzz,S_self]
   ·rw [List.getElem?_eq_none (by omega),List.getElem?_eq_none (by simp;omega)]
  ·cases h
theorem gOps : Tryz.prog.globalNamed "quorate/script.operations" = some 1 := by kernel_rfl
theorem gOpsType : (Tryz.prog.globals[1]?).map (·.type) = some 157:=by kernel_rfl
theorem cellsOps : Tryz.prog.cellsOf 157 = 10:=by kernel_rfl
theorem cells9 : Tryz.prog.cellsOf 9 = 1:=by kernel_rfl
theorem opV_eq : opV = (strs ([] :: opL)).toArray:=rfl
theorem ops_laid {W : World} {d : DataW Unit} {l : List (String × DataW Unit)} {ps : List MemPlace} (hd : d = .agg (([] :: opL).map fun z => .lit (.string z)))
  (h : DataW.LaidVars Tryz.prog W (("quorate/script.operations", d) :: l) ps) : OpT W := by
 obtain ⟨g,t,cs,fuel,p,q,hg,ht,hv,hr,_,_⟩:=h;obtain rfl:=Option.some.inj (gOps.symm.trans hg);obtain rfl:=Option.some.inj (gOpsType.symm.trans ht);subst hd;have hc:=cells_of_texts Tryz.underlying157 Tryz.underlying9 cells9 cellsOps hr
 have hat : ∀ k,k < 10 → W.cell? ⟨1,k,none⟩ = opV[k]?:=fun k hk => by
  rw [World.var?_cell gOps hv k,opV_eq,List.getElem?_toArray,← hc,Array.getElem?_toList]
 refine ⟨?_,hat⟩;have h0:=hat 0 (by omega);exact World.block_lt_of_cell? W _ (h0.trans (opV_at 0 (by omega)))
theorem tail_laid {P : Program} {W : World} {x : String × DataW Unit} {l : List (String × DataW Unit)} {ps : List MemPlace} (h : DataW.LaidVars P W (x :: l) ps) : ∃ qs,DataW.LaidVars P W l qs:=by
 obtain ⟨_,_,_,_,_,q,_,_,_,_,h,_⟩:=h;exact ⟨q,h⟩
def putRow (cs : Array Value) : Obj → Obj
 | .cells _ t frozen => .cells cs t frozen
 | o => o
def powV : Array Value:=#[.int .u64 1,.int .u64 10,.int .u64 100,.int .u64 1000,.int .u64 10000,.int .u64 100000,.int .u64 1000000,.int .u64 10000000,.int .u64 100000000,.int .u64 1000000000,.int .u64 10000000000,.int .u64 100000000000,.int .u64 1000000000000,.int .u64 10000000000000,.int .u64 100000000000000,.int .u64 1000000000000000,.int .u64 10000000000000000,.int .u64 100000000000000000,.int .u64 1000000000000000000,.int .u64 10000000000000000000]
def d32V : Array Value:=#[.int .u8 0,.int .u8 1,.int .u8 28,.int .u8 2,.int .u8 29,.int .u8 14,.int .u8 24,.int .u8 3,.int .u8 30,.int .u8 22,.int .u8 20,.int .u8 15,.int .u8 25,.int .u8 17,.int .u8 4,.int .u8 8,.int .u8 31,.int .u8 27,.int .u8 13,.int .u8 23,.int .u8 21,.int .u8 19,.int .u8 16,.int .u8 7,.int .u8 26,.int .u8 12,.int .u8 18,.int .u8 6,.int .u8 11,.int .u8 5,.int .u8 10,.int .u8 9]
def d64V : Array Value:=#[.int .u8 0,.int .u8 1,.int .u8 56,.int .u8 2,.int .u8 57,.int .u8 49,.int .u8 28,.int .u8 3,.int .u8 61,.int .u8 58,.int .u8 42,.int .u8 50,.int .u8 38,.int .u8 29,.int .u8 17,.int .u8 4,.int .u8 62,.int .u8 47,.int .u8 59,.int .u8 36,.int .u8 45,.int .u8 43,.int .u8 51,.int .u8 22,.int .u8 53,.int .u8 39,.int .u8 33,.int .u8 30,.int .u8 24,.int .u8 18,.int .u8 12,.int .u8 5,.int .u8 63,.int .u8 55,.int .u8 48,.int .u8 27,.int .u8 60,.int .u8 41,.int .u8 37,.int .u8 16,.int .u8 46,.int .u8 35,.int .u8 44,.int .u8 21,.int .u8 52,.int .u8 32,.int .u8 23,.int .u8 11,.int .u8 54,.int .u8 26,.int .u8 40,.int .u8 15,.int .u8 34,.int .u8 20,.int .u8 31,.int .u8 10,.int .u8 25,.int .u8 14,.int .u8 19,.int .u8 9,.int .u8 13,.int .u8 8,.int .u8 7,.int .u8 6]
abbrev rangeS : ByteArray:={ data:=#[118,97,108,117,101,32,111,117,116,32,111,102,32,114,97,110,103,101] }
abbrev syntaxS : ByteArray:={ data:=#[105,110,118,97,108,105,100,32,115,121,110,116,97,120] }
noncomputable def low : Nat:=(World.holding Tryz.prog default ⟨#[],#[],[]⟩).heap.size
def laidHeap (lo : Nat) (h : Array Obj) : Array Obj:=(((((h.modify 1 (putRow opV)).modify 2 (putRow powV)).modify 6 (putRow #[.iface 205 (.pointer (some ⟨lo + 1,0,none⟩))])).modify 7 (putRow #[.iface 205 (.pointer (some ⟨lo,0,none⟩))])).modify 4 (putRow d32V)).modify 5 (putRow d64V)
end Go.Proofs.YtcibcmfaebbhnaaGreatDoor
