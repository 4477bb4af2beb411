/-
  A guarded operation with its value; the law's num. The law ScriptWrites, walked: the program and the reference write the same text of every script, and leave it as it is. What the rows' listed variables give: the operations' words, the table of powers; the heap of a witness. (Printed by wip/tools/mkrle.py.) What the rows' listed variables give: the table of powers.
-/
import Derived.Test.YtcibcmfaebbhnaaDoorZRun
import Derived.Test.YtcibcmfaebbhnaaDoorZPpr
import Derived.Test.YtcibcmfaebbhnaaDoorRows
import Derived.Lib.LaidTab
import Derived.Test.YtcibcmfaebbhnaaDoorZPcm
import Derived.Test.YtcibcmfaebbhnaaDoorZIts
set_option linter.unusedVariables false
set_option linter.unusedSimpArgs false
namespace Go.Proofs.YtcibcmfaebbhnaaDoor
open Go.RowKit Go.WideShapes Go.ChangeShapes Q
theorem wpList_gvalue {P : Program} {ops : Array Oper} {rest : List Oper} {o : Oper} {a : Act} {V : World} {Q : Exit → Act → World → Prop} (hw : Region.wanted o (yielded ops a.tmps) = true) (v : Value) (he : (execOp a.eval o).run P V = .ok (.value v) V)
    (h : wpList P ops Q rest (a.put o.dst v) V) : wpList P ops Q (o :: rest) a V := by
  refine wpList_step (fun K hK => ?_)
  rw [if_pos hw]
  unfold Oper.wp
  rw [he]
  exact hK _ _ h
theorem numz_any (x : Int) (w : World) : Calls Tryd.prog 15 #[.int .i64 x] w fun e w' => e = .returned (.int .i64 x) ∧ w = w' := by
  go_enter Tryd.func15, Tryd.ntmps15
  go_wp2
  go_ret
  exact ⟨rfl, rfl⟩
end Go.Proofs.YtcibcmfaebbhnaaDoor
set_option linter.unusedVariables false
set_option linter.unusedSimpArgs false
namespace Go.Proofs.YtcibcmfaebbhnaaDoor
open Go.RowKit Go.WideShapes Go.ChangeShapes Q
theorem SmIn.up {w : World} {B B' : Nat} {s : Sm} (h : SmIn w B s) (hB : B ≤ B') : SmIn w B' s := ⟨reads_up h.vot hB, reads_up h.row hB, fun m hm => (h.ent m hm).up hB, h.hv, h.hn⟩
/-- A copy's events may be written where the script's may. -/
theorem copy_ok {w w' : World} {B b : Nat} {s s' : Sm} (he : s'.sc = s.sc) (hm : ∀ m ∈ s.ms, EvOk m) (hi : ∀ m ∈ s.ms, EmIn w B m) (hi' : ∀ m ∈ s'.ms, EmIn w' b m) : ∀ m ∈ s'.ms, EvOk m := by
  intro m' hm'
  have h1 : s'.ms.map Em.ev = s.ms.map Em.ev := congrArg Sc.es he
  have h2 : m'.ev ∈ s.ms.map Em.ev := by rw [← h1]; exact List.mem_map_of_mem hm'
  obtain ⟨m, hms, hev⟩ := List.mem_map.1 h2
  have a := hi m hms
  have a' := hi' m' hm'
  refine (hm m hms).of hev.symm ?_ ?_
  · rw [← RI.len a'.sid, ← RI.len a.sid, show m'.sd = m.sd from congrArg Ev.sd hev.symm]
  · rw [← a'.nb_len, ← a.nb_len, show m'.bd = m.bd from congrArg Ev.bd hev.symm]
theorem copy_votes {s s' : Sm} (he : s'.sc = s.sc) : s'.c = s.c ∧ s'.ms.length = s.ms.length := by
  have h1 : s'.ms.map Em.ev = s.ms.map Em.ev := congrArg Sc.es he
  have h2 := congrArg List.length h1
  rw [List.length_map, List.length_map] at h2
  exact ⟨congrArg Sc.c he, h2⟩
set_option maxRecDepth 100000 in
set_option maxHeartbeats 3000000 in
theorem writes_script (s : Sm) (w : World) (h : SmIn w w.heap.size s) (hv : s.c.votes.length ≤ 1048576) (hn : s.ms.length ≤ 1048576) (hm : ∀ m ∈ s.ms, EvOk m) (hT : OpT w) (hTb : Tab w) :
    Calls Tryd.prog 7 #[.agg s.cs] w fun e w' => e = .returned (.bool true) ∧ Below w.heap.size w w' := by
  have h0w : 0 < w.heap.size := hT.lt
  have HIN := hide h
  obtain ⟨px, hpx⟩ : ∃ px, px = S (printS s.sc).1 := ⟨_, rfl⟩
  obtain ⟨pn, hpn⟩ : ∃ pn, pn = (printS s.sc).2 := ⟨_, rfl⟩
  have HSC : Hid (∀ W, Below w.heap.size w W → Calls Tryd.prog 21 #[.agg s.cs] W fun e w' => ScoP s W e w') := fun W hb =>
    scriptOf_any s W ((h.below hb).up hb.size) (by omega) (by omega) (fun m hmm => by have := (hm m hmm).bulk; omega)
  have HPR : Hid (∀ W, Below w.heap.size w W → Calls Tryd.prog 23 #[.agg s.cs] W fun e w' => e = .returned (.tuple #[.string px, .int .i64 pn]) ∧ Below W.heap.size W w') := fun W hb => by
    rw [hpx, hpn]
    exact rprint_script s W ((h.below hb).up hb.size) (by omega) (by omega) hm
  have HPP : Hid (∀ (s' : Sm) (b : Nat) (W : World), Below w.heap.size w W → s'.sc = s.sc → SmV W b s' → Calls Tryd.prog 22 #[.agg s'.cs] W fun e w' => e = .returned (.tuple #[.string px, .int .i64 pn]) ∧ Below W.heap.size W w') := fun s' b W hb he hu => by
    rw [hpx, hpn, ← he]
    obtain ⟨e1, e2⟩ := copy_votes he
    exact pprint_script s' W hu.inn (by rw [e1]; omega) (by rw [e2]; omega) (copy_ok he hm h.ent hu.inn.ent) (hT.below hb h0w) (hTb.below hb)
  obtain ⟨C0, hC0⟩ : ∃ C0, C0 = s.cs := ⟨_, rfl⟩
  rw [← hC0]
  have HC0 := hide hC0
  clear hC0 h hm hT hTb hpx hpn
  go_enter Tryd.func7, Tryd.ntmps7
  go_upto_region 1 with fail
  generalize hW0 : World.alloc w _ = W0
  have HP0 : Hid (Blk W0 w.heap.size 47 s.cs) := by
    show Blk _ _ _ _
    rw [← hW0, HC0.out]
    exact Blk.new _ _ _
  have hb0 : Below w.heap.size w W0 := by rw [← hW0]; exact (Below.refl _ _).alloc (Nat.le_refl _) _
  have HB0 := hide hb0
  clear hW0 hb0
  refine wp_region_lit ?_
  refine wpList_value rfl (.agg s.cs) (ex_load 47 (.tmp 1) rfl _ rfl _ _ Tryd.underlying47 rfl (ld47 _ (sm_size _)) (box_all HP0.out)) ?_
  try simp only [Act.put, List.setIfInBounds_toArray, List.set_cons_zero, List.set_cons_succ]
  refine wpList_step (fun K hK => ?_)
  rw [if_pos (by rfl)]
  go_simp
  go_at_call 21
  refine (HSC.out W0 HB0.out).mono ?_
  rintro e w1 ⟨s1, rfl, hse, hu1, _, hb1⟩
  have HSE := hide hse
  have HU1 := hide hu1
  have HP1 := hide (HP0.out.below hb1 HP0.out.lt)
  have HB1 := hide (HB0.out.trans (hb1.mono HB0.out.size))
  refine hK _ _ ?_
  clear hK K hse hu1 hb1 HSC HP0 HB0
  try simp only [Act.put, List.setIfInBounds_toArray, List.set_cons_zero, List.set_cons_succ]
  refine wpList_step (fun K hK => ?_)
  rw [if_pos (by rfl)]
  go_simp
  refine hK _ _ ?_
  clear hK K
  refine wpList_store_fresh rfl 47 (.tmp 3) (.tmp 9) rfl _ s1.cs rfl rfl (ld47 _ (sm_size _)) rfl (sm_all _) ?_
  try simp only [Act.put, List.setIfInBounds_toArray, List.set_cons_zero, List.set_cons_succ]
  obtain ⟨w2, hw2⟩ : ∃ w2, w2 = World.alloc w1 (.cells s1.cs 47) := ⟨_, rfl⟩
  obtain ⟨g1, hg1⟩ : ∃ g1, g1 = w1.heap.size := ⟨_, rfl⟩
  have hal : Below w1.heap.size w1 w2 := by rw [hw2]; exact (Below.refl _ _).alloc (Nat.le_refl _) _
  have HX2 : Hid (Blk w2 g1 47 s1.cs) := by show Blk _ _ _ _; rw [hw2, hg1]; exact Blk.new _ _ _
  have HU2 := hide (HU1.out.step hal)
  have HP2 := hide (HP1.out.below hal HP1.out.lt)
  have HB2 := hide (HB1.out.trans (hal.mono HB1.out.size))
  rw [← hw2]
  try rw [← hg1]
  clear hw2 hg1 hal HU1 HB1 HP1
  have hsw2 : w.heap.size ≤ w2.heap.size := HB2.out.size
  go_upto_region 2 with fail
  refine wp_region_lit ?_
  refine wpList_value rfl (.agg s1.cs) (ex_load 47 (.tmp 3) rfl _ rfl _ _ Tryd.underlying47 rfl (ld47 _ (sm_size _)) (box_all HX2.out)) ?_
  try simp only [Act.put, List.setIfInBounds_toArray, List.set_cons_zero, List.set_cons_succ]
  refine wpList_step (fun K hK => ?_)
  rw [if_pos (by rfl)]
  go_simp
  go_at_call 22
  refine (HPP.out s1 _ w2 HB2.out HSE.out HU2.out).mono ?_
  rintro e w3 ⟨rfl, hb2⟩
  have HU3 := hide (HU2.out.step hb2)
  have HX3 := hide (HX2.out.below hb2 HX2.out.lt)
  have HP3 := hide (HP2.out.below hb2 HP2.out.lt)
  have HB3 := hide (HB2.out.trans (hb2.mono hsw2))
  refine hK _ _ ?_
  clear hK K hb2 HU2 HX2 HP2 HB2 HPP
  try simp only [Act.put, List.setIfInBounds_toArray, List.set_cons_zero, List.set_cons_succ]
  have hsw3 : w.heap.size ≤ w3.heap.size := HB3.out.size
  go_upto_region 3 with fail
  refine wp_region_lit ?_
  refine wpList_value rfl (.agg s.cs) (ex_load 47 (.tmp 1) rfl _ rfl _ _ Tryd.underlying47 rfl (ld47 _ (sm_size _)) (box_all HP3.out)) ?_
  try simp only [Act.put, List.setIfInBounds_toArray, List.set_cons_zero, List.set_cons_succ]
  refine wpList_step (fun K hK => ?_)
  rw [if_pos (by rfl)]
  go_simp
  go_at_call 23
  refine (HPR.out w3 HB3.out).mono ?_
  rintro e w4 ⟨rfl, hb3⟩
  have HU4 := hide (HU3.out.step hb3)
  have HX4 := hide (HX3.out.below hb3 HX3.out.lt)
  have HP4 := hide (HP3.out.below hb3 HP3.out.lt)
  have HB4 := hide (HB3.out.trans (hb3.mono hsw3))
  refine hK _ _ ?_
  clear hK K hb3 HU3 HX3 HP3 HB3 HPR
  try simp only [Act.put, List.setIfInBounds_toArray, List.set_cons_zero, List.set_cons_succ]
  have hsw4 : w.heap.size ≤ w4.heap.size := HB4.out.size
  have HSS : Hid (Calls Tryd.prog 18 #[.agg s1.cs, .agg s.cs] w4 fun e w' => e = .returned (.bool true) ∧ Below w4.heap.size w4 w') := same_scripts w4 HU4.out.inn ((HIN.out.below HB4.out).up hsw4) HSE.out
  have q1 : (pn == pn) = true := beq_self_eq_true pn
  have q3 : (px.toList == px.toList) = true := by simp
  have q2 : (px == px) = true := by rw [beq_toListBytes]; exact q3
  go_wp2_with first
    | (refine wpList_gvalue (by rfl) (.agg s1.cs) (ex_load 47 (.tmp 3) rfl _ rfl _ _ Tryd.underlying47 rfl (ld47 _ (sm_size _)) (box_all HX4.out)) ?_)
    | (refine wpList_gvalue (by rfl) (.agg s.cs) (ex_load 47 (.tmp 1) rfl _ rfl _ _ Tryd.underlying47 rfl (ld47 _ (sm_size _)) (box_all HP4.out)) ?_)
    | (go_at_call 15; refine (numz_any _ _).mono ?_; rintro e w5 ⟨rfl, rfl⟩)
    | (go_at_call 18; refine HSS.out.mono ?_; rintro e w5 ⟨rfl, hb5⟩; have HB5 := hide (HB4.out.trans (hb5.mono hsw4)); clear hb5)
  go_ret
  exact ⟨rfl, HB5.out⟩
end Go.Proofs.YtcibcmfaebbhnaaDoor
set_option linter.unusedVariables false
set_option linter.unusedSimpArgs false
namespace Go.Proofs.YtcibcmfaebbhnaaDoor
open Go.RowKit Go.WideShapes Go.ChangeShapes Q
/-- A text's cells. -/
def strs (ls : List (List UInt8)) : List Value := ls.map fun l => .string (S l)
/-- An array of texts that reads as these texts holds them, cell for cell. -/
theorem cells_of_texts {H : Type} {enc : TypeId × Value → H} {P : Program} {w : World} {base : Nat} {sp : Nat → Bool} {held : Bool} {fuel : Nat} {t e : TypeId} {n : Nat} {cs : List Value} {zs : List (List UInt8)} {p : List MemPlace}
    (ht : P.underlying t = some (.array n e)) (he : P.underlying e = some .string) (hce : P.cellsOf e = 1) (hct : P.cellsOf t = n)
    (h : DataW.trod enc P w base sp held fuel t cs = some (.agg (zs.map fun z => .lit (.string z)), p)) : cs = strs zs := by
  cases fuel with
  | zero => simp [DataW.trod] at h
  | succ fuel =>
    simp only [DataW.trod, ht, hce, hct, Nat.mul_one] at h
    split at h
    · rename_i hl
      obtain ⟨xs, hm, hx⟩ := Option.map_eq_some_iff.1 h
      have hxs : xs.map (·.1) = zs.map fun z => (DataW.lit (.string z) : DataW H) := by
        have := congrArg Prod.fst hx
        simpa using this
      have hxl : xs.length = n := by simpa using Lib.mapM_length hm
      have hzl : zs.length = n := by
        have := congrArg List.length hxs
        simp at this
        omega
      unfold strs
      apply List.ext_getElem?
      intro i
      by_cases hi : i < n
      · obtain ⟨b, hb, hf⟩ := Lib.mapM_at hm i i (by simp [hi])
        obtain ⟨z, hc, rfl, _⟩ := DataW.trod_string he hf
        have h1 : cs[i]? = some (.string z) := by
          have := congrArg (·[0]?) hc
          simpa [List.getElem?_take, List.getElem?_drop] using this
        have h2 : (xs.map (·.1))[i]? = some (DataW.lit (.string z.data.toList) : DataW H) := by simp [hb]
        rw [hxs] at h2
        simp only [List.getElem?_map, Option.map_eq_some_iff, DataW.lit.injEq, Lit.string.injEq] at h2
        obtain ⟨z', hz', hzz⟩ := h2
        simp [h1, hz', hzz, S_self]
      · rw [List.getElem?_eq_none (by omega), List.getElem?_eq_none (by simp; omega)]
    · cases h
theorem gOps : Tryd.prog.globalNamed "quorate/script.operations" = some 0 := by kernel_rfl
theorem gOpsType : (Tryd.prog.globals[0]?).map (·.type) = some 124 := by kernel_rfl
theorem cellsOps : Tryd.prog.cellsOf 124 = 10 := by kernel_rfl
theorem cells9 : Tryd.prog.cellsOf 9 = 1 := by kernel_rfl
theorem opV_eq : opV = (strs ([] :: opL)).toArray := rfl
theorem ops_laid {W : World} {d : DataW Unit} {l : List (String × DataW Unit)} {ps : List MemPlace} (hd : d = .agg (([] :: opL).map fun z => .lit (.string z)))
    (h : DataW.LaidVars Tryd.prog W (("quorate/script.operations", d) :: l) ps) : OpT W := by
  obtain ⟨g, t, cs, fuel, p, q, hg, ht, hv, hr, _, _⟩ := h
  obtain rfl := Option.some.inj (gOps.symm.trans hg)
  obtain rfl := Option.some.inj (gOpsType.symm.trans ht)
  subst hd
  have hc := cells_of_texts Tryd.underlying124 Tryd.underlying9 cells9 cellsOps hr
  have hat : ∀ k, k < 10 → W.cell? ⟨0, k, none⟩ = opV[k]? := fun k hk => by
    rw [World.var?_cell gOps hv k, opV_eq, List.getElem?_toArray, ← hc, Array.getElem?_toList]
  refine ⟨?_, hat⟩
  have h0 := hat 0 (by omega)
  rcases Nat.eq_zero_or_pos W.heap.size with h1 | h1
  · have h2 : W.cell? ⟨0, 0, none⟩ = none := by simp [World.cell?, h1]
    rw [h2, opV_at 0 (by omega)] at h0
    cases h0
  · exact h1
theorem tail_laid {P : Program} {W : World} {x : String × DataW Unit} {l : List (String × DataW Unit)} {ps : List MemPlace} (h : DataW.LaidVars P W (x :: l) ps) : ∃ qs, DataW.LaidVars P W l qs := by
  obtain ⟨_, _, _, _, _, q, _, _, _, _, h, _⟩ := h
  exact ⟨q, h⟩
def putRow (cs : Array Value) : Obj → Obj
  | .cells _ t frozen => .cells cs t frozen
  | o => o
def powV : Array Value := #[.int .u64 1, .int .u64 10, .int .u64 100, .int .u64 1000, .int .u64 10000, .int .u64 100000, .int .u64 1000000, .int .u64 10000000, .int .u64 100000000, .int .u64 1000000000, .int .u64 10000000000, .int .u64 100000000000, .int .u64 1000000000000, .int .u64 10000000000000, .int .u64 100000000000000, .int .u64 1000000000000000, .int .u64 10000000000000000, .int .u64 100000000000000000, .int .u64 1000000000000000000, .int .u64 10000000000000000000]
def d32V : Array Value := #[.int .u8 0, .int .u8 1, .int .u8 28, .int .u8 2, .int .u8 29, .int .u8 14, .int .u8 24, .int .u8 3, .int .u8 30, .int .u8 22, .int .u8 20, .int .u8 15, .int .u8 25, .int .u8 17, .int .u8 4, .int .u8 8, .int .u8 31, .int .u8 27, .int .u8 13, .int .u8 23, .int .u8 21, .int .u8 19, .int .u8 16, .int .u8 7, .int .u8 26, .int .u8 12, .int .u8 18, .int .u8 6, .int .u8 11, .int .u8 5, .int .u8 10, .int .u8 9]
def d64V : Array Value := #[.int .u8 0, .int .u8 1, .int .u8 56, .int .u8 2, .int .u8 57, .int .u8 49, .int .u8 28, .int .u8 3, .int .u8 61, .int .u8 58, .int .u8 42, .int .u8 50, .int .u8 38, .int .u8 29, .int .u8 17, .int .u8 4, .int .u8 62, .int .u8 47, .int .u8 59, .int .u8 36, .int .u8 45, .int .u8 43, .int .u8 51, .int .u8 22, .int .u8 53, .int .u8 39, .int .u8 33, .int .u8 30, .int .u8 24, .int .u8 18, .int .u8 12, .int .u8 5, .int .u8 63, .int .u8 55, .int .u8 48, .int .u8 27, .int .u8 60, .int .u8 41, .int .u8 37, .int .u8 16, .int .u8 46, .int .u8 35, .int .u8 44, .int .u8 21, .int .u8 52, .int .u8 32, .int .u8 23, .int .u8 11, .int .u8 54, .int .u8 26, .int .u8 40, .int .u8 15, .int .u8 34, .int .u8 20, .int .u8 31, .int .u8 10, .int .u8 25, .int .u8 14, .int .u8 19, .int .u8 9, .int .u8 13, .int .u8 8, .int .u8 7, .int .u8 6]
abbrev rangeS : ByteArray := { data := #[118, 97, 108, 117, 101, 32, 111, 117, 116, 32, 111, 102, 32, 114, 97, 110, 103, 101] }
abbrev syntaxS : ByteArray := { data := #[105, 110, 118, 97, 108, 105, 100, 32, 115, 121, 110, 116, 97, 120] }
noncomputable def low : Nat := (World.holding Tryd.prog default ⟨#[], #[], []⟩).heap.size
/-- The listed variables hold what their initialisers lay. -/
def laidHeap (lo : Nat) (h : Array Obj) : Array Obj := (((((h.modify 0 (putRow opV)).modify 2 (putRow powV)).modify 3 (putRow #[.iface 173 (.pointer (some ⟨lo + 1, 0, none⟩))])).modify 4 (putRow #[.iface 173 (.pointer (some ⟨lo, 0, none⟩))])).modify 5 (putRow d32V)).modify 6 (putRow d64V)
/-- A world for the witness: the settled one, with the listed variables. -/
noncomputable def laidWorld (os : Os) : World :=
  let w0 := World.holding Tryd.prog os ⟨#[.cells #[.string rangeS] 175, .cells #[.string syntaxS] 175], #[], []⟩
  { w0 with heap := laidHeap low w0.heap }
end Go.Proofs.YtcibcmfaebbhnaaDoor
set_option linter.unusedVariables false
set_option linter.unusedSimpArgs false
namespace Go.Proofs.YtcibcmfaebbhnaaDoor
open Go.RowKit Go.WideShapes Go.ChangeShapes Q
theorem gPow : Tryd.prog.globalNamed "internal/strconv.uint64pow10" = some 2 := by kernel_rfl
theorem gPowType : (Tryd.prog.globals[2]?).map (·.type) = some 155 := by kernel_rfl
theorem cells128 : Tryd.prog.cellsOf 155 = 20 := by kernel_rfl
theorem cells110 : Tryd.prog.cellsOf 137 = 1 := by kernel_rfl
theorem tab_laid0 {W : World} {zs : List Int} {l : List (String × DataW Unit)} {ps : List MemPlace}
    (h : DataW.LaidVars Tryd.prog W (("internal/strconv.uint64pow10", Lib.tabData .u64 zs) :: l) ps) : Lib.TabIs Tryd.prog W "internal/strconv.uint64pow10" .u64 zs := by
  obtain ⟨g, t, cs, fuel, p, q, hg, ht, hv, hr, _, _⟩ := h
  obtain rfl := Option.some.inj (gPow.symm.trans hg)
  obtain rfl := Option.some.inj (gPowType.symm.trans ht)
  unfold Lib.TabIs
  rw [hv, ← Lib.cells_of_tab Tryd.underlying155 Tryd.underlying137 cells110 cells128 hr]
theorem tab_laid {W : World} {d : DataW Unit} {l : List (String × DataW Unit)} {ps : List MemPlace} (hd : d = Lib.tabData .u64 Lib.pow10Tab)
    (h : DataW.LaidVars Tryd.prog W (("internal/strconv.uint64pow10", d) :: l) ps) : Tab W := by
  rw [hd] at h
  exact tab_laid0 h
end Go.Proofs.YtcibcmfaebbhnaaDoor
