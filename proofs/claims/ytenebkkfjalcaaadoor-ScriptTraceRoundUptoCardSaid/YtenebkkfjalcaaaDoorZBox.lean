/-
  A mark in a block of its own: its cells one by one; what a mark's walk keeps; the contracts that its line asks. (Printed by wip/tools/mkbox.py.)
-/
import Derived.Test.YtenebkkfjalcaaaDoorZNib
set_option linter.unusedVariables false
set_option linter.unusedSimpArgs false
namespace Go.Proofs.YtenebkkfjalcaaaDoor
open Go.RowKit Go.WideShapes Go.ChangeShapes Q

section
variable {V : World} {b : Nat} {m : Mk}
theorem mb0 (h : Blk V b 48 m.cs) : V.cell? ⟨b, 0, none⟩ = some (.int .i64 m.aT) := h.cell 0
theorem mb1 (h : Blk V b 48 m.cs) : V.cell? ⟨b, 1, none⟩ = some (.int .i64 m.kd) := h.cell 1
theorem mb2 (h : Blk V b 48 m.cs) : V.cell? ⟨b, 2, none⟩ = some (.int .i64 m.nd) := h.cell 2
theorem mb3 (h : Blk V b 48 m.cs) : V.cell? ⟨b, 3, none⟩ = some (.int .i64 m.ic) := h.cell 3
theorem mb4 (h : Blk V b 48 m.cs) : V.cell? ⟨b, 4, none⟩ = some (.int .i64 m.ep) := h.cell 4
theorem mb5 (h : Blk V b 48 m.cs) : V.cell? ⟨b, 5, none⟩ = some (.int .i64 m.ld) := h.cell 5
theorem mb6 (h : Blk V b 48 m.cs) : V.cell? ⟨b, 6, none⟩ = some (.int .i64 m.ii) := h.cell 6
theorem mb7 (h : Blk V b 48 m.cs) : V.cell? ⟨b, 7, none⟩ = some (.int .i64 m.ci) := h.cell 7
theorem mb8 (h : Blk V b 48 m.cs) : V.cell? ⟨b, 8, none⟩ = some (.slice m.Am m.nm m.cm) := h.cell 8
theorem mb9 (h : Blk V b 48 m.cs) : V.cell? ⟨b, 9, none⟩ = some (.slice m.At m.nt m.ct) := h.cell 9
theorem mb10 (h : Blk V b 48 m.cs) : V.cell? ⟨b, 10, none⟩ = some (.int .i64 m.se) := h.cell 10
theorem mb11 (h : Blk V b 48 m.cs) : V.cell? ⟨b, 11, none⟩ = some (.int .i64 m.sq) := h.cell 11
theorem mb12 (h : Blk V b 48 m.cs) : V.cell? ⟨b, 12, none⟩ = some (.int .i64 m.po) := h.cell 12
theorem mb13 (h : Blk V b 48 m.cs) : V.cell? ⟨b, 13, none⟩ = some (.int .i64 m.n) := h.cell 13
theorem mb14 (h : Blk V b 48 m.cs) : V.cell? ⟨b, 14, none⟩ = some (.slice m.Ab m.nb m.cb) := h.cell 14
theorem mb15 (h : Blk V b 48 m.cs) : V.cell? ⟨b, 15, none⟩ = some (.int .i64 m.cl) := h.cell 15
theorem mb16 (h : Blk V b 48 m.cs) : V.cell? ⟨b, 16, none⟩ = some (.int .i64 m.cn) := h.cell 16
theorem mb17 (h : Blk V b 48 m.cs) : V.cell? ⟨b, 17, none⟩ = some (.int .i64 m.rq) := h.cell 17
theorem mb18 (h : Blk V b 48 m.cs) : V.cell? ⟨b, 18, none⟩ = some (.int .i64 m.op) := h.cell 18
theorem mb19 (h : Blk V b 48 m.cs) : V.cell? ⟨b, 19, none⟩ = some (.string m.key) := h.cell 19
theorem mb20 (h : Blk V b 48 m.cs) : V.cell? ⟨b, 20, none⟩ = some (.string m.val) := h.cell 20
theorem mb21 (h : Blk V b 48 m.cs) : V.cell? ⟨b, 21, none⟩ = some (.string m.old) := h.cell 21
theorem mb22 (h : Blk V b 48 m.cs) : V.cell? ⟨b, 22, none⟩ = some (.int .i64 m.co) := h.cell 22
theorem mb23 (h : Blk V b 48 m.cs) : V.cell? ⟨b, 23, none⟩ = some (.string m.rv) := h.cell 23
theorem mb24 (h : Blk V b 48 m.cs) : V.cell? ⟨b, 24, none⟩ = some (.int .i64 m.rn) := h.cell 24
theorem mb25 (h : Blk V b 48 m.cs) : V.cell? ⟨b, 25, none⟩ = some (.int .i64 m.er) := h.cell 25
theorem box_id (h : Blk V b 48 m.cs) : ∀ j v, (idCs m)[j]? = some v → V.cell? ((⟨b, 4, none⟩ : Addr).add j) = some v := by
  intro j v hv
  have hj : j < 4 := (Array.getElem?_eq_some_iff.1 hv).1
  have hc : ∀ i, (⟨b, 4, none⟩ : Addr).add i = ⟨b, 4 + i, none⟩ := fun i => by
    unfold Addr.add
    split
    · rename_i h0; subst h0; rfl
    · rfl
  rw [hc, h.cell, ← hv]
  have : j = 0 ∨ j = 1 ∨ j = 2 ∨ j = 3 := by omega
  rcases this with rfl | rfl | rfl | rfl <;> rfl
theorem own_id (h : Blk V b 39 (idCs m)) : ∀ j v, (idCs m)[j]? = some v → V.cell? ((⟨b, 0, none⟩ : Addr).add j) = some v := by
  intro j v hv
  have hc : (⟨b, 0, none⟩ : Addr).add j = ⟨b, j, none⟩ := by
    unfold Addr.add
    split
    · rename_i h0; subst h0; rfl
    · simp
  rw [hc, h.cell, ← hv]
theorem sz_id : (Tryd.prog.info? 39).map (·.size) = some (idCs m).size := by
  show (Tryd.prog.info? 39).map (·.size) = some 4
  kernel_rfl
theorem id0_ (h : Blk V b 39 (idCs m)) : V.cell? ⟨b, 0, none⟩ = some (.int .i64 m.ep) := h.cell 0
theorem id1_ (h : Blk V b 39 (idCs m)) : V.cell? ⟨b, 1, none⟩ = some (.int .i64 m.ld) := h.cell 1
theorem id2_ (h : Blk V b 39 (idCs m)) : V.cell? ⟨b, 2, none⟩ = some (.int .i64 m.ii) := h.cell 2
theorem id3_ (h : Blk V b 39 (idCs m)) : V.cell? ⟨b, 3, none⟩ = some (.int .i64 m.ci) := h.cell 3
theorem box_cmd (h : Blk V b 48 m.cs) : ∀ j v, (cmdCs m)[j]? = some v → V.cell? ((⟨b, 15, none⟩ : Addr).add j) = some v := by
  intro j v hv
  have hj : j < 7 := (Array.getElem?_eq_some_iff.1 hv).1
  have hc : ∀ i, (⟨b, 15, none⟩ : Addr).add i = ⟨b, 15 + i, none⟩ := fun i => by
    unfold Addr.add
    split
    · rename_i h0; subst h0; rfl
    · rfl
  rw [hc, h.cell, ← hv]
  have : j = 0 ∨ j = 1 ∨ j = 2 ∨ j = 3 ∨ j = 4 ∨ j = 5 ∨ j = 6 := by omega
  rcases this with rfl | rfl | rfl | rfl | rfl | rfl | rfl <;> rfl
theorem own_cmd (h : Blk V b 44 (cmdCs m)) : ∀ j v, (cmdCs m)[j]? = some v → V.cell? ((⟨b, 0, none⟩ : Addr).add j) = some v := by
  intro j v hv
  have hc : (⟨b, 0, none⟩ : Addr).add j = ⟨b, j, none⟩ := by
    unfold Addr.add
    split
    · rename_i h0; subst h0; rfl
    · simp
  rw [hc, h.cell, ← hv]
theorem sz_cmd : (Tryd.prog.info? 44).map (·.size) = some (cmdCs m).size := by
  show (Tryd.prog.info? 44).map (·.size) = some 7
  kernel_rfl
theorem cmd0_ (h : Blk V b 44 (cmdCs m)) : V.cell? ⟨b, 0, none⟩ = some (.int .i64 m.cl) := h.cell 0
theorem cmd1_ (h : Blk V b 44 (cmdCs m)) : V.cell? ⟨b, 1, none⟩ = some (.int .i64 m.cn) := h.cell 1
theorem cmd2_ (h : Blk V b 44 (cmdCs m)) : V.cell? ⟨b, 2, none⟩ = some (.int .i64 m.rq) := h.cell 2
theorem cmd3_ (h : Blk V b 44 (cmdCs m)) : V.cell? ⟨b, 3, none⟩ = some (.int .i64 m.op) := h.cell 3
theorem cmd4_ (h : Blk V b 44 (cmdCs m)) : V.cell? ⟨b, 4, none⟩ = some (.string m.key) := h.cell 4
theorem cmd5_ (h : Blk V b 44 (cmdCs m)) : V.cell? ⟨b, 5, none⟩ = some (.string m.val) := h.cell 5
theorem cmd6_ (h : Blk V b 44 (cmdCs m)) : V.cell? ⟨b, 6, none⟩ = some (.string m.old) := h.cell 6
theorem box_res (h : Blk V b 48 m.cs) : ∀ j v, (resCs m)[j]? = some v → V.cell? ((⟨b, 22, none⟩ : Addr).add j) = some v := by
  intro j v hv
  have hj : j < 3 := (Array.getElem?_eq_some_iff.1 hv).1
  have hc : ∀ i, (⟨b, 22, none⟩ : Addr).add i = ⟨b, 22 + i, none⟩ := fun i => by
    unfold Addr.add
    split
    · rename_i h0; subst h0; rfl
    · rfl
  rw [hc, h.cell, ← hv]
  have : j = 0 ∨ j = 1 ∨ j = 2 := by omega
  rcases this with rfl | rfl | rfl <;> rfl
theorem own_res (h : Blk V b 46 (resCs m)) : ∀ j v, (resCs m)[j]? = some v → V.cell? ((⟨b, 0, none⟩ : Addr).add j) = some v := by
  intro j v hv
  have hc : (⟨b, 0, none⟩ : Addr).add j = ⟨b, j, none⟩ := by
    unfold Addr.add
    split
    · rename_i h0; subst h0; rfl
    · simp
  rw [hc, h.cell, ← hv]
theorem sz_res : (Tryd.prog.info? 46).map (·.size) = some (resCs m).size := by
  show (Tryd.prog.info? 46).map (·.size) = some 3
  kernel_rfl
theorem res0_ (h : Blk V b 46 (resCs m)) : V.cell? ⟨b, 0, none⟩ = some (.int .i64 m.co) := h.cell 0
theorem res1_ (h : Blk V b 46 (resCs m)) : V.cell? ⟨b, 1, none⟩ = some (.string m.rv) := h.cell 1
theorem res2_ (h : Blk V b 46 (resCs m)) : V.cell? ⟨b, 2, none⟩ = some (.int .i64 m.rn) := h.cell 2
theorem blk_cells {t : TypeId} {cs : Array Value} (h : Blk V b t cs) : ∀ j v, cs[j]? = some v → V.cell? ((⟨b, 0, none⟩ : Addr).add j) = some v := by
  intro j v hv
  have hc : (⟨b, 0, none⟩ : Addr).add j = ⟨b, j, none⟩ := by
    unfold Addr.add
    split
    · rename_i h0; subst h0; rfl
    · simp
  rw [hc, h.cell, ← hv]
theorem box_all (h : Blk V b 48 m.cs) : ∀ j v, m.cs[j]? = some v → V.cell? ((⟨b, 0, none⟩ : Addr).add j) = some v := by
  intro j v hv
  have hc : (⟨b, 0, none⟩ : Addr).add j = ⟨b, j, none⟩ := by
    unfold Addr.add
    split
    · rename_i h0; subst h0; rfl
    · simp
  rw [hc, h.cell, ← hv]
end
/-- What stays while a mark's line is made: the mark's box, and all that was there before. -/
structure BX (m : Mk) (w V : World) : Prop where
  box : Blk V w.heap.size 48 m.cs
  low : Below w.heap.size w V
theorem BX.step {m : Mk} {w V V' : World} (h : BX m w V) (hb : Below V.heap.size V V') : BX m w V' := ⟨h.box.below hb h.box.lt, h.low.trans (hb.mono h.low.size)⟩
theorem BX.drew {m : Mk} {w V : World} (h : BX m w V) : BX m w V.drew := ⟨h.box.drew, h.low.drew⟩
theorem BX.alloc {m : Mk} {w V : World} (h : BX m w V) (o : Obj) : BX m w (V.alloc o) := ⟨h.box.alloc o, h.low.alloc h.low.size o⟩
theorem BX.new (m : Mk) (w : World) : BX m w (w.alloc (.cells m.cs 48)) := ⟨Blk.new _ _ _, (Below.refl _ _).alloc (Nat.le_refl _) _⟩
theorem BX.lt {m : Mk} {w V : World} (h : BX m w V) : w.heap.size < V.heap.size := h.box.lt
theorem BX.inn {m : Mk} {w V : World} (h : BX m w V) (hm : MkIn w w.heap.size m) : MkIn V V.heap.size m := (hm.below h.low).more (Nat.le_of_lt h.box.lt)

/-- A count. -/
def Ct (x : Int) : Prop := ∃ n : Nat, x = n ∧ n ≤ 4611686018427387904
theorem Ct.fit {x : Int} (h : Ct x) : Fit x := by obtain ⟨n, rfl, h⟩ := h; exact ⟨by omega, by omega⟩
theorem digI {x : Int} (h : Ct x) (w : World) : Calls Tryd.prog 36 #[.int .i64 x] w fun e w' => e = .returned (.string (S (Lib.itoa x))) ∧ Below w.heap.size w w' := by
  obtain ⟨n, rfl, h⟩ := h
  rw [itoa_nat]
  exact dig_any n w (by omega)
theorem plainI (nm : List UInt8) {x : Int} (h : Ct x) (w : World) (hn : nm.length ≤ 1000) : Calls Tryd.prog 38 #[.string (S nm), .int .i64 x] w fun e w' => e = .returned (.string (S (numL nm x))) ∧ Below w.heap.size w w' := by
  obtain ⟨n, rfl, h⟩ := h
  rw [← num_plain]
  exact plain_any nm n w (by omega) hn
theorem slashI {a b c d : Int} (h1 : Ct a) (h2 : Ct b) (h3 : Ct c) (h4 : Ct d) (w : World) (g : Nat) (hB : Blk w g 3 #[.int .i64 a, .int .i64 b, .int .i64 c, .int .i64 d]) :
    Calls Tryd.prog 40 #[.slice (some ⟨g, 0, none⟩) 4 4] w fun e w' => e = .returned (.string (S (sl4 a b c d))) ∧ Below w.heap.size w w' := by
  obtain ⟨a1, rfl, _⟩ := h1
  obtain ⟨a2, rfl, _⟩ := h2
  obtain ⟨a3, rfl, _⟩ := h3
  obtain ⟨a4, rfl, _⟩ := h4
  rw [sl4_nat]
  exact slashed_any _ w.heap.size 4 4 [a1, a2, a3, a4] w (ri_of_blk (l := [(a1 : Int), a2, a3, a4]) hB) (Nat.le_refl _) (by intro x hx; simp at hx; rcases hx with rfl | rfl | rfl | rfl <;> omega) (by omega)
theorem signI {x : Int} (h0 : -4611686018427387904 ≤ x) (h1 : x ≤ 4611686018427387904) (w : World) : Calls Tryd.prog 41 #[.int .i64 x] w fun e w' => e = .returned (.string (S (Lib.itoa x))) ∧ Below w.heap.size w w' := signed_any x w (by omega) (by omega) (by omega)
theorem QuoteS {s : ByteArray} (h : s.size ≤ 1048576) (w : World) : Calls Tryd.prog 39 #[.string s] w fun e w' => e = .returned (.string (S (quoteL s.data.toList))) ∧ Below w.heap.size w w' := Quote_any s w (by omega)
theorem listsI {m : Mk} {w : World} (hm : MkIn w w.heap.size m) (hw : wrB m = true) : Calls Tryd.prog 37 #[.agg m.cs] w fun e w' => e = .returned (.string (S (listsL m))) ∧ Below w.heap.size w w' := by
  have h := lists_any m w hm hw
  rw [lists_part (cnts hw) hm.mem.len (RI.len hm.tr)] at h
  exact h
/-- How long the parts are. -/
theorem itoa_ct {x : Int} (h : Ct x) : (Lib.itoa x).length ≤ 21 := itoa_len x h.fit.1 h.fit.2
theorem part_len (b : Bool) (nm v : List UInt8) : (partL b nm v).length ≤ nm.length + v.length + 2 := by
  unfold partL
  split <;> simp <;> omega
theorem num_len (nm : List UInt8) {x : Int} (h : Ct x) : (numL nm x).length ≤ nm.length + 23 := by
  have h1 := part_len (x != 0) nm (Lib.itoa x)
  have h2 := itoa_ct h
  unfold numL
  omega
theorem quote_len (l : List UInt8) : (quoteL l).length ≤ 4 * l.length + 2 := by
  have := qbs_len l
  unfold quoteL
  simp only [List.length_append, List.length_cons, List.length_nil]
  omega
theorem sl4_len {a b c d : Int} (h1 : Ct a) (h2 : Ct b) (h3 : Ct c) (h4 : Ct d) : (sl4 a b c d).length ≤ 88 := by
  have := join_le 21 [Lib.itoa a, Lib.itoa b, Lib.itoa c, Lib.itoa d] [47] (fun l hl => by
    simp at hl
    rcases hl with rfl | rfl | rfl | rfl
    · exact itoa_ct h1
    · exact itoa_ct h2
    · exact itoa_ct h3
    · exact itoa_ct h4)
  simpa [sl4] using this
theorem Cnts.ct {m : Mk} (h : Cnts m) {x : Int} (hx : x ∈ m.ns) : Ct x := h.ns x hx
theorem tri_ct {m : Mk} (h : Cnts m) {k : Nat} (hk : k < m.ms.length) : Ct (pidA m.ms k) ∧ Ct (incA m.ms k) ∧ Ct (cidA m.ms k) := by
  obtain ⟨x, y, z, ex, ey, ez, hx, hy, hz⟩ := h.ms k hk
  exact ⟨⟨x, ex, hx⟩, ⟨y, ey, hy⟩, ⟨z, ez, hz⟩⟩
theorem triI_len {m : Mk} (h : Cnts m) : ∀ l ∈ m.ms.map triI, l.length ≤ 70 := by
  intro l hl
  obtain ⟨s, hs, rfl⟩ := List.mem_map.1 hl
  obtain ⟨k, hk, rfl⟩ := List.getElem_of_mem hs
  obtain ⟨h1, h2, h3⟩ := tri_ct h hk
  have e : m.ms.getD k (0, 0, 0) = m.ms[k] := by simp [hk]
  unfold pidA at h1
  unfold incA at h2
  unfold cidA at h3
  rw [e] at h1 h2 h3
  have := join_le 21 [Lib.itoa m.ms[k].1, Lib.itoa m.ms[k].2.1, Lib.itoa m.ms[k].2.2] [47] (fun l hl => by
    simp at hl
    rcases hl with rfl | rfl | rfl
    · exact itoa_ct h1
    · exact itoa_ct h2
    · exact itoa_ct h3)
  have e2 : triI m.ms[k] = Lib.join [Lib.itoa m.ms[k].1, Lib.itoa m.ms[k].2.1, Lib.itoa m.ms[k].2.2] [47] := rfl
  rw [e2]
  simp at this
  omega
theorem lists_len {m : Mk} (h : Cnts m) (hz : MkZ m) (h1 : m.ms.length = m.nm) (h2 : m.ts.length = m.nt) : (listsL m).length ≤ 98000000 := by
  have q1 := part_len (idB m) [105, 100] (sl4 m.ep m.ld m.ii m.ci)
  have q2 := part_len (decide (0 < m.nm)) [109, 101, 109, 98, 101, 114, 115] (Lib.join (m.ms.map triI) [44])
  have q3 := part_len (decide (0 < m.nt)) [116, 114, 97, 110, 115] (Lib.join (m.ts.map Lib.itoa) [44])
  have r1 := sl4_len (a := m.ep) (b := m.ld) (c := m.ii) (d := m.ci) (h.ct (by simp [Mk.ns])) (h.ct (by simp [Mk.ns])) (h.ct (by simp [Mk.ns])) (h.ct (by simp [Mk.ns]))
  have r2 := join_le 70 (m.ms.map triI) [44] (triI_len h)
  have r3 := join_le 21 (m.ts.map Lib.itoa) [44] (fun l hl => by
    obtain ⟨s, hs, rfl⟩ := List.mem_map.1 hl
    obtain ⟨k, hk, rfl⟩ := List.getElem_of_mem hs
    obtain ⟨x, ex, hx⟩ := h.ts k hk
    refine itoa_ct ⟨x, ?_, hx⟩
    rw [← ex]
    simp [nth, hk])
  have z1 := hz.nm
  have z2 := hz.nt
  simp only [List.length_map, List.length_cons, List.length_nil] at q1 q2 q3 r2 r3
  rw [h1] at r2
  rw [h2] at r3
  unfold listsL
  simp only [List.length_append]
  omega
end Go.Proofs.YtenebkkfjalcaaaDoor
