/-
  A script in memory; what a text says as a script, plainly. The reference's SameEvent: two events that say the same.
-/
import Derived.Test.YtcibcmfaebbhnaaDoorZCfgW
import Derived.Test.YtcibcmfaebbhnaaDoorZPpe
import Derived.Test.YtcibcmfaebbhnaaDoorZNib
set_option linter.unusedVariables false
set_option linter.unusedSimpArgs false
namespace Go.Proofs.YtcibcmfaebbhnaaDoor
open Go.RowKit Go.WideShapes Go.ChangeShapes Q
/-- A script. -/
structure Sc where
  c : Cfg
  es : List Ev
def Sc.zero : Sc := ⟨Cfg.zero, []⟩
/-- The lines that are not passed over. -/
def keepL (t : List UInt8) : List (List UInt8) := (linG [] t).filter fun l => !overB l
/-- The first three lines' configuration, the lines behind them. -/
def headE : List (List UInt8) → Option (Cfg × List (List UInt8))
  | a :: b :: c :: rest => if firstB a = true then (cfgL b c).map (fun x => (x, rest)) else none
  | _ => none
/-- How many events are none. -/
def idleN (es : List Ev) : Nat := (es.filter fun e => e.kd == 0).length
/-- What a head and its lines say: a script, its no-ops, the error. -/
noncomputable def parseH : Option (Cfg × List (List UInt8)) → Sc × Int × Int
  | none => (Sc.zero, 0, 21)
  | some (c, rest) => if c.err = 0 then if 4000 < rest.length then (Sc.zero, 0, 25) else (⟨c, rest.map (lineE c.nodes)⟩, (idleN (rest.map (lineE c.nodes)) : Int), 0) else (Sc.zero, 0, c.err)
/-- What a text says. -/
noncomputable def parseE (t : List UInt8) : Sc × Int × Int := if 400000 < t.length then (Sc.zero, 0, 20) else parseH (headE (keepL t))
theorem headE_cons (a b c : List UInt8) (rest : List (List UInt8)) : headE (a :: b :: c :: rest) = if firstB a = true then (cfgL b c).map (fun x => (x, rest)) else none := rfl
/-- A script's places in memory. -/
structure Sm where
  c : Cfg
  A : Option Addr
  k : Nat
  Ae : Option Addr
  ke : Nat
  ms : List Em
def emCells (l : List Em) : List Value := l.flatMap (·.cs.toList)
theorem emCells_snoc (l : List Em) (m : Em) : emCells (l ++ [m]) = emCells l ++ m.cs.toList := by simp [emCells]
def Sm.cs (s : Sm) : Array Value := #[.int .i64 s.c.nodes, .int .i64 s.c.window, .int .i64 s.c.base, .int .i64 s.c.step, .int .i64 s.c.cap, .int .i64 s.c.room, .int .i64 s.c.floor, .slice s.A s.c.votes.length s.k, .slice s.Ae s.ms.length s.ke]
def Sm.sc (s : Sm) : Sc := ⟨s.c, s.ms.map Em.ev⟩
def Sm.zero : Sm := ⟨Cfg.zero, none, 0, none, 0, []⟩
theorem sm_size (s : Sm) : s.cs.size = 9 := rfl
theorem sm_all (s : Sm) : s.cs.all (·.oneCell') = true := by simp [Sm.cs, Value.oneCell']
/-- A script whose lists are the call's own. -/
structure SmU (w : World) (b : Nat) (s : Sm) : Prop where
  cfg : CfU w b s.c s.A s.k
  row : w.ownsRow b 29 13 (.slice s.Ae s.ms.length s.ke) s.ms.length (emCells s.ms)
  ent : ∀ m ∈ s.ms, EmU w b m
  hn : s.ms.length ≤ 4000
/-- A script whose lists are read. -/
structure SmIn (w : World) (B : Nat) (s : Sm) : Prop where
  vot : RI w B s.A s.c.votes.length s.c.votes
  row : Reads w B 13 s.Ae s.ms.length (emCells s.ms)
  ent : ∀ m ∈ s.ms, EmIn w B m
  hv : s.c.votes.length ≤ 17592186044416
  hn : s.ms.length ≤ 17592186044416
section
variable {w w' : World} {b b' B g : Nat} {t : TypeId} {cs : Array Value} {s : Sm}
theorem SmU.inn (h : SmU w b s) : SmIn w w.heap.size s := ⟨h.cfg.reads, Reads.of_own h.row, fun m hm => (h.ent m hm).inn, by have := h.cfg.hv; omega, by have := h.hn; omega⟩
theorem SmIn.below (h : SmIn w B s) (hb : Below B w w') : SmIn w' B s := ⟨Reads.below h.vot hb, Reads.below h.row hb, fun m hm => (h.ent m hm).below hb, h.hv, h.hn⟩
theorem SmU.step (h : SmU w b s) (hb : Below w.heap.size w w') : SmU w' b s := ⟨h.cfg.step hb, own_step h.row hb, fun m hm => (h.ent m hm).step hb, h.hn⟩
theorem SmU.base (h : SmU w b s) (hb : b' ≤ b) : SmU w b' s := ⟨h.cfg.base hb, own_base h.row hb, fun m hm => (h.ent m hm).base hb, h.hn⟩
theorem SmU.zero (w : World) (b : Nat) : SmU w b Sm.zero := ⟨CfU.zero w b 0, World.ownsRow_nil _ _ _ _, fun m hm => (by cases hm), Nat.zero_le _⟩
theorem SmU.far (h : SmU w b s) (hg : Blk w g t cs) (h2 : t ≠ 3) (h3 : t ≠ 5) (h4 : t ≠ 29) (ho : Only (fun q => q = g) w w') : SmU w' b s := by
  refine ⟨h.cfg.far hg h2 ho, own_apart h.row ho ?_, fun m hm => (h.ent m hm).far hg h2 h3 ho, h.hn⟩
  intro k hk hq
  subst hq
  exact ⟨t, cs, hg, h4⟩
end
theorem ld47 (cs : Array Value) (h : cs.size = 9) : (Tryd.prog.info? 47).map (·.size) = some cs.size := by rw [h]; kernel_rfl
theorem sput (Z cs : Array Value) (h : Z.size = 9) (hc : cs.size = 9) : putAt Z 0 cs = cs := by
  unfold putAt
  have h1 : Z.toList.drop (0 + cs.size) = [] := List.drop_eq_nil_of_le (by rw [hc, Array.length_toList, h]; omega)
  rw [h1]
  simp
theorem results_cell_tmp2 {P : Program} {fn : Func} {p u v : Tmp} {ty : TypeId} (h : fn.results = #[.cell p ty, .tmp u, .tmp v]) (tmps : Array Value) (w : World) :
    (results fn tmps).run P w = ((asAddr (tmps.getD p undef)).run P w).andThen fun a w₁ => ((loadVar ty a).run P w₁).andThen fun x w₂ => .ok (.tuple #[x, tmps.getD u undef, tmps.getD v undef]) w₂ := by
  simp [results, h, Sem.run_bind, Result.andThen]
theorem run_load47 {w : World} {g : Nat} {cs : Array Value} (h : Blk w g 47 cs) (hc : cs.size = 9) : (loadVar 47 ⟨g, 0, none⟩).run Tryd.prog w = .ok (.agg cs) w := run_load_at w ⟨g, 0, none⟩ 47 cs _ Tryd.underlying47 rfl (ld47 _ hc) (box_all h)
/-- A script, and two values beside it, as a result. -/
theorem results_47 {w : World} {g : Nat} {cs : Array Value} {fn : Func} {p u u' : Tmp} (h : fn.results = #[.cell p 47, .tmp u, .tmp u']) (tmps : Array Value) (hp : tmps.getD p undef = .pointer (some ⟨g, 0, none⟩)) (hb : Blk w g 47 cs) (hc : cs.size = 9) {v v' : Value} (hv : tmps.getD u undef = v) (hv' : tmps.getD u' undef = v') : (results fn tmps).run Tryd.prog w = .ok (.tuple #[.agg cs, v, v']) w := by
  rw [results_cell_tmp2 h, hp, hv, hv']
  have h1 := run_load47 hb hc
  simp [Result.andThen, asAddr, h1]
/-- What comes out of a reader. -/
def ParP (T : Sc × Int × Int) (w : World) (e : Ending) (w' : World) : Prop := ∃ (s : Sm) (n f : Int), e = .returned (.tuple #[.agg s.cs, .int .i64 n, .int .i64 f]) ∧ T = (s.sc, n, f) ∧ SmU w' w.heap.size s ∧ Below w.heap.size w w'
theorem par_out {w W : World} {g : Nat} {Z : Array Value} {T : Sc × Int × Int} {s : Sm} {n f : Int} (hr : w.heap.size ≤ g) (hZ : Blk W g 47 Z) (hl : Below w.heap.size w W) (hs : SmU W w.heap.size s) (h : T = (s.sc, n, f)) :
    ParP T w (.returned (.tuple #[.agg s.cs, .int .i64 n, .int .i64 f])) (W.setRow g s.cs) := by
  have hW := only_setRow W g s.cs
  exact ⟨s, n, f, rfl, h, hs.far hZ (by decide) (by decide) (by decide) hW, hl.trans (hW.below hl.size (fun k hk e => by omega))⟩
theorem par_no {w W : World} {g : Nat} {Z : Array Value} {T : Sc × Int × Int} {f : Int} (hr : w.heap.size ≤ g) (hZ : Blk W g 47 Z) (hl : Below w.heap.size w W) (h : T = (Sc.zero, 0, f)) :
    ParP T w (.returned (.tuple #[.agg Sm.zero.cs, .int .i64 0, .int .i64 f])) (W.setRow g Sm.zero.cs) := par_out hr hZ hl (SmU.zero _ _) h
/-- Sizes of the lines. -/
theorem lin_mem : ∀ (l cur : List UInt8) (x : List UInt8), x ∈ linG cur l → x.length ≤ cur.length + l.length
  | [], cur, x, h => by
    rw [linG] at h
    split at h
    · cases h
    · simp at h; subst h; simp
  | c :: r, cur, x, h => by
    rw [linG] at h
    split at h
    · rcases List.mem_cons.1 h with h | h
      · subst h; simp
      · have := lin_mem r [] x h
        simp at this ⊢
        omega
    · have := lin_mem r (cur ++ [c]) x h
      simp at this ⊢
      omega
theorem lin_len : ∀ (l cur : List UInt8), (linG cur l).length ≤ l.length + 1
  | [], cur => by rw [linG]; split <;> simp
  | c :: r, cur => by
    rw [linG]
    split
    · have := lin_len r []
      simp; omega
    · have := lin_len r (cur ++ [c])
      simp; omega
theorem keep_mem {t x : List UInt8} (h : x ∈ keepL t) : x.length ≤ t.length := by
  have := lin_mem t [] x (List.mem_filter.1 h).1
  simpa using this
theorem keep_len (t : List UInt8) : (keepL t).length ≤ t.length + 1 := Nat.le_trans (List.length_filter_le _ _) (lin_len t [])
theorem idle_snoc (es : List Ev) (e : Ev) : idleN (es ++ [e]) = idleN es + (if e.kd = 0 then 1 else 0) := by
  unfold idleN
  rw [List.filter_append, List.length_append]
  congr 1
  by_cases h : e.kd = 0
  · simp [h]
  · simp [h]
theorem headE_len {l : List (List UInt8)} (h : l.length < 3) : headE l = none := by
  match l, h with
  | [], _ => rfl
  | [_], _ => rfl
  | [_, _], _ => rfl
  | _ :: _ :: _ :: _, h => exact absurd h (by simp)
set_option maxRecDepth 100000 in
theorem run_one29 {o : Oper} {a : Act} {V : World} (x : Operand) (ho : o.op = .buildSlice 45 1 #[(0, x)]) (m : Em) (hx : a.eval x = .agg m.cs) :
    (execOp a.eval o).run Tryd.prog V = .ok (.value (.slice (some ⟨V.heap.size, 0, none⟩) 1 1)) (V.alloc (.cells m.cs 29)) := by
  unfold execOp
  simp only [ho, List.map_toArray, List.map_cons, List.map_nil, hx]
  unfold Em.cs
  go_simp
theorem wpList_one29 {ops : Array Oper} {rest : List Oper} {o : Oper} {a : Act} {V : World} {Q : Exit → Act → World → Prop} (hgd : o.guard = none) (x : Operand) (ho : o.op = .buildSlice 45 1 #[(0, x)]) (m : Em) (hx : a.eval x = .agg m.cs)
    (h : wpList Tryd.prog ops Q rest (a.put o.dst (.slice (some ⟨V.heap.size, 0, none⟩) 1 1)) (V.alloc (.cells m.cs 29))) : wpList Tryd.prog ops Q (o :: rest) a V := by
  refine wpList_plain hgd fun K hK => ?_
  unfold Oper.wp
  rw [run_one29 x ho m hx]
  exact hK _ _ h
set_option maxRecDepth 100000 in
/-- A script built of a configuration. -/
theorem ex_build47 {o : Oper} {a : Act} {V : World} (x : Operand) (ho : o.op = .build 47 #[(0, x)]) (c : Cfg) (A : Option Addr) (k : Nat) (hx : a.eval x = .agg (cfC c A k)) :
    (execOp a.eval o).run Tryd.prog V = .ok (.value (.agg (Sm.cs ⟨c, A, k, none, 0, []⟩))) V := by
  unfold execOp
  simp only [ho, List.map_toArray, List.map_cons, List.map_nil, hx]
  unfold cfC
  go_simp
  rfl
end Go.Proofs.YtcibcmfaebbhnaaDoor
set_option linter.unusedVariables false
set_option linter.unusedSimpArgs false
namespace Go.Proofs.YtcibcmfaebbhnaaDoor
open Go.RowKit Go.WideShapes Go.ChangeShapes Q
theorem em_same {m m' : Em} (h : m.ev = m'.ev) (h1 : m.sd.length = m.ns) (h2 : m.bd.length = m.nb) (h3 : m'.sd.length = m'.ns) (h4 : m'.bd.length = m'.nb) : m' = { m with Ab := m'.Ab, cb := m'.cb, As := m'.As, cs' := m'.cs' } := by
  obtain ⟨kd, a, b, n, Ab, nb, cb, bd, cl, cn, rq, op, key, val, old, As, ns, cs, sd⟩ := m
  obtain ⟨kd', a', b', n', Ab', nb', cb', bd', cl', cn', rq', op', key', val', old', As', ns', cs', sd'⟩ := m'
  simp only [Em.ev, Ev.mk.injEq] at h
  obtain ⟨rfl, rfl, rfl, rfl, rfl, rfl, rfl, rfl, hk, hv, ho, rfl, rfl⟩ := h
  simp only at h1 h2 h3 h4
  have e1 : key = key' := ByteArray.ext (Array.toList_inj.1 hk)
  have e2 : val = val' := ByteArray.ext (Array.toList_inj.1 hv)
  have e3 : old = old' := ByteArray.ext (Array.toList_inj.1 ho)
  subst e1 e2 e3
  have e4 : ns' = ns := by omega
  have e5 : nb' = nb := by omega
  subst e4 e5
  rfl
set_option maxRecDepth 100000 in
set_option maxHeartbeats 4000000 in
theorem same_at (m : Em) (Ab' : Option Addr) (cb' : Nat) (As' : Option Addr) (cs2 : Nat) (w : World) (hm : EmIn w w.heap.size m) (hm' : EmIn w w.heap.size { m with Ab := Ab', cb := cb', As := As', cs' := cs2 }) :
    Calls Tryd.prog 10 #[.agg m.cs, .agg ({ m with Ab := Ab', cb := cb', As := As', cs' := cs2 } : Em).cs] w fun e w' => e = .returned (.bool true) ∧ Below w.heap.size w w' := by
  have HM := hide hm
  have HM' := hide hm'
  obtain ⟨kd, a, b, n, Ab, nb, cb, bd, cl, cn, rq, op, key, val, old, As, ns, cs1, sd⟩ := m
  have h1 := HM.out.sid
  have h2 := HM.out.body
  have h3 := HM'.out.sid
  have h4 := HM'.out.body
  have h5 := HM.out.hs
  simp only [Em.cs] at h1 h2 h3 h4 h5 ⊢
  obtain ⟨W, hW⟩ : ∃ W, W = (w.alloc (.cells #[.int .i64 kd, .int .i64 a, .int .i64 b, .int .i64 n, .slice Ab nb cb, .int .i64 cl, .int .i64 cn, .int .i64 rq, .int .i64 op, .string key, .string val, .string old, .slice As ns cs1] 29)).alloc (.cells #[.int .i64 kd, .int .i64 a, .int .i64 b, .int .i64 n, .slice Ab' nb cb', .int .i64 cl, .int .i64 cn, .int .i64 rq, .int .i64 op, .string key, .string val, .string old, .slice As' ns cs2] 29) := ⟨_, rfl⟩
  have HWE := hide hW
  have HB : Hid (Below w.heap.size w W) := by rw [hW]; exact ((Below.refl _ _).alloc (Nat.le_refl _) _).alloc (by simp) _
  have H1 := hide (Reads.below h1 HB.out)
  have H3 := hide (Reads.below h3 HB.out)
  have HC2 := conv_reads (c := cb) (Reads.below h2 HB.out)
  have HC4 := conv_reads (c := cb') (Reads.below h4 HB.out)
  have htl := hide (RI.len h1)
  have c12 : W.cell? ⟨w.heap.size, 12, none⟩ = some (.slice As ns cs1) := by
    rw [hW]
    exact ((Blk.new _ _ _).alloc _).cell 12
  have d12 : W.cell? ⟨w.heap.size + 1, 12, none⟩ = some (.slice As' ns cs2) := by
    rw [hW]
    exact (blk_new _ _ _ _ (by simp)).cell 12
  rw [hW] at HC2 HC4
  clear h1 h2 h3 h4 hm hm' hW
  go_enter Tryd.func10, Tryd.ntmps10
  go_upto_region 4 with fail
  rw [← HWE.out]
  clear HC2 HC4
  go_loopw [5] (fun i wr => ∃ k q : Nat, k ≤ ns ∧ i = .int .i64 k ∧ wr = W.drewN q) (fun i _ => ns - (intOf i).toNat)
  case atStart => exact ⟨0, 0, Nat.zero_le _, rfl, rfl⟩
  case round =>
    obtain ⟨k, q, hk, rfl, rfl⟩ := hrel
    by_cases hlt : k < ns
    · obtain ⟨ad, rfl, _, q0⟩ := RI.at_ H1.out hlt
      obtain ⟨ad', rfl, _, r0⟩ := RI.at_ H3.out hlt
      have k0 : (0 : Int) ≤ (k : Int) := by omega
      have kn : (k : Int) < (ns : Int) := by omega
      obtain ⟨x, hx⟩ : ∃ x, x = nth sd k := ⟨_, rfl⟩
      rw [← hx] at q0 r0
      clear hx
      go_wp2_with fail
      go_quiet (fail)
      go_wp2_with fail
      go_roundw
      case rel => exact ⟨k + 1, _, by omega, by go_num, rfl⟩
      case measure => simp [intOf]; omega
    · have kn : ¬ (k : Int) < (ns : Int) := by omega
      clear hlt
      go_wp2_with fail
      go_ret
      exact ⟨rfl, below_drewN HB.out q⟩
theorem same_true {m m' : Em} (w : World) (hm : EmIn w w.heap.size m) (hm' : EmIn w w.heap.size m') (h : m.ev = m'.ev) :
    Calls Tryd.prog 10 #[.agg m.cs, .agg m'.cs] w fun e w' => e = .returned (.bool true) ∧ Below w.heap.size w w' := by
  have e := em_same h (RI.len hm.sid) (by have := Reads.len_ hm.body; simpa [Lib.byteCells] using this) (RI.len hm'.sid) (by have := Reads.len_ hm'.body; simpa [Lib.byteCells] using this)
  have hm2 := hm'
  rw [e] at hm2 ⊢
  exact same_at m m'.Ab m'.cb m'.As m'.cs' w hm hm2
end Go.Proofs.YtcibcmfaebbhnaaDoor
