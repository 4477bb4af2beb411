/-
  The law's scriptOf: a script of its own. (Printed by wip/tools/mksco.py.)
-/
import Derived.Test.YtcibcmfaebbhnaaGreatDoorPPrp
import Derived.Test.YtcibcmfaebbhnaaGreatDoorPWsg
set_option linter.unusedSimpArgs false
set_option linter.unusedVariables false

namespace Go.Proofs.YtcibcmfaebbhnaaGreatDoor
open Go.RowKit Go.WideShapes Go.ChangeShapes Q
structure SmV (w : World) (b : Nat) (s : Sm) : Prop where
 vot : w.ownsRow b 3 1 (.slice s.A s.c.votes.length s.k) s.c.votes.length (ints s.c.votes)
 row : w.ownsRow b 33 13 (.slice s.Ae s.ms.length s.ke) s.ms.length (emCells s.ms)
 ent : ∀ m ∈ s.ms,EmU w b m
 hv : s.c.votes.length ≤ 10000000
 hn : s.ms.length ≤ 10000000
theorem SmV.inn {w : World} {b : Nat} {s : Sm} (h : SmV w b s) : SmIn w w.heap.size s:=⟨Reads.of_own h.vot,Reads.of_own h.row,fun m hm => (h.ent m hm).inn,by have:=h.hv;omega,by have:=h.hn;omega⟩
theorem SmV.step {w w' : World} {b : Nat} {s : Sm} (h : SmV w b s) (hb : Below w.heap.size w w') : SmV w' b s:=⟨own_step h.vot hb,own_step h.row hb,fun m hm => (h.ent m hm).step hb,h.hv,h.hn⟩
theorem SmV.far {w w' : World} {b g : Nat} {t : TypeId} {cs : Array Value} {s : Sm} (h : SmV w b s) (hg : Blk w g t cs) (h2 : t ≠ 3) (h3 : t ≠ 5) (h4 : t ≠ 33) (ho : Only (fun q => q = g) w w') : SmV w' b s :=
 ⟨own_apart h.vot ho (fun k hk hq => by subst hq;exact ⟨t,cs,hg,h2⟩),own_apart h.row ho (fun k hk hq => by subst hq;exact ⟨t,cs,hg,h4⟩),fun m hm => (h.ent m hm).far hg h2 h3 ho,h.hv,h.hn⟩
theorem sm_pre {W : World} {g : Nat} {s : Sm} (h : Blk W g 27 s.cs) : ∀ j v,(cfC s.c s.A s.k)[j]? = some v → W.cell? ((⟨g,0,none⟩ : Addr).add j) = some v:=by
 intro j v hv;have hj : j < 8:=by have:=(Array.getElem?_eq_some_iff.1 hv).1;rw [cf_size] at this;exact this
 refine box_all h j v ?_
 match j,hj with
 | 0,_ => exact hv
 | 1,_ => exact hv
 | 2,_ => exact hv
 | 3,_ => exact hv
 | 4,_ => exact hv
 | 5,_ => exact hv
 | 6,_ => exact hv
 | 7,_ => exact hv
theorem results_47c {w : World} {g : Nat} {cs : Array Value} {fn : Func} {p : Tmp} (h : fn.results = #[.cell p 27]) (tmps : Array Value) (hp : tmps.getD p undef = .pointer (some ⟨g,0,none⟩)) (hb : Blk w g 27 cs) (hc : cs.size = 9) : (results fn tmps).run Tryz.prog w = .ok (.agg cs) w:=by
 have h0 : (results fn tmps).run Tryz.prog w = ((asAddr (tmps.getD p undef)).run Tryz.prog w).andThen fun a w₁ => (loadVar 27 a).run Tryz.prog w₁:=by
  simp only [results,h];simp [Sem.run_bind,Result.andThen]
 rw [h0,hp];have h1:=run_load47 hb hc;simp [Result.andThen,asAddr,h1]
end Go.Proofs.YtcibcmfaebbhnaaGreatDoor
