/-
  The law's eventOf: a copy of an event, its lists in memory of their own. (Printed by wip/tools/mkevo.py.) The law ScriptWritesLine, walked: the program and the reference write the same line of every event. (Printed by wip/tools/mklwl.py.) Plain: the text of a script. The law's scriptOf: a script of its own. (Printed by wip/tools/mksco.py.) The reference's Print. (Printed by wip/tools/mkrpr.py.) strconv.AppendInt at base 10 laid at this program. (Printed by wip/tools/mkapi.py.)
-/
import Derived.Deep.WholeRow
import Derived.Test.YtcibcmfaebbhnaaDoorZNib
import Derived.Test.YtcibcmfaebbhnaaDoorZWdo
import Derived.Test.YtcibcmfaebbhnaaDoorZRb
import Derived.Test.YtcibcmfaebbhnaaDoorZPpv
import Derived.Test.YtcibcmfaebbhnaaDoorZRpv
import Derived.Test.YtcibcmfaebbhnaaDoorZSev
import Derived.Lib.AppendStr
import Derived.Test.YtcibcmfaebbhnaaDoorZSms
import Derived.Shelf.Strconv.AppendIntPublic10
import Derived.Test.YtcibcmfaebbhnaaDoorZIts
set_option linter.unusedVariables false
set_option linter.unusedSimpArgs false
namespace Go.Proofs.YtcibcmfaebbhnaaDoor
open Go.RowKit Go.WideShapes Go.ChangeShapes Q
theorem RB.of_own {w : World} {b : Nat} {A : Option Addr} {n c : Nat} {l : List UInt8} (h : w.ownsRow b 5 1 (.slice A n c) n (Lib.byteCells l)) : RB w b A n l := by
  have hl : l.length = n := by have := h.1; simpa [Lib.byteCells] using this
  refine ⟨hl, ?_⟩
  rcases h.2 with ⟨_, h0⟩ | ⟨g, cap, cur, hv, hb, hg, _⟩
  · exact .inl h0
  · injection hv with e1 e2 e3
    refine .inr ⟨g, cur, (0, 0), e1, hb, hg, fun j hj => ?_⟩
    have h1 : (Lib.byteCells l)[j]? = some (.int .u8 ((l[j]'(by omega)).toNat : Int)) := by simp [Lib.byteCells, hl, hj]
    have h2 := World.ownsRow.cells (g := g) h (by rw [e1]; rfl) j _ h1
    have e : (⟨g, 0, none⟩ : Addr).add j = ⟨g, j, none⟩ := by
      unfold Addr.add
      split
      · rename_i h0; subst h0; rfl
      · simp
    rw [e, Blk.cell (show Blk w g 5 cur from hg)] at h2
    rw [h1, h2]
end Go.Proofs.YtcibcmfaebbhnaaDoor
set_option linter.unusedVariables false
set_option linter.unusedSimpArgs false
namespace Go.Proofs.YtcibcmfaebbhnaaDoor
open Go.RowKit Go.WideShapes Go.ChangeShapes Q
theorem EvOk.of {m m1 : Em} (h : EvOk m) (e : m1.ev = m.ev) (e1 : m1.ns = m.ns) (e2 : m1.nb = m.nb) : EvOk m1 := by
  have ha : m1.a = m.a := congrArg Ev.a e
  have hb : m1.b = m.b := congrArg Ev.b e
  have hn : m1.n = m.n := congrArg Ev.n e
  have hs : m1.sd = m.sd := congrArg Ev.sd e
  have ho : m1.op = m.op := congrArg Ev.op e
  have hk : m1.key.size = m.key.size := by have := congrArg (fun e => (Ev.key e).length) e; simpa [Em.ev, str_len] using this
  have hv : m1.val.size = m.val.size := by have := congrArg (fun e => (Ev.val e).length) e; simpa [Em.ev, str_len] using this
  have hl : m1.old.size = m.old.size := by have := congrArg (fun e => (Ev.old e).length) e; simpa [Em.ev, str_len] using this
  exact ⟨by rw [ha]; exact h.a, by rw [hb]; exact h.b, by rw [hn]; exact h.n, by rw [hs]; exact h.sd, by rw [ho]; exact h.op, by rw [e1, e2, hk, hv, hl]; exact h.bulk⟩
theorem print_sz {m : Em} (nodes : Int) (ho : EvOk m) (hb : m.bd.length = m.nb) (hn : m.sd.length = m.ns) : (printE nodes m.ev).1.length ≤ 30000000 := by
  unfold printE
  split
  · split
    · exact writ_sz ho hb hn
    · simp
  · simp
end Go.Proofs.YtcibcmfaebbhnaaDoor
set_option linter.unusedVariables false
set_option linter.unusedSimpArgs false
namespace Go.Proofs.YtcibcmfaebbhnaaDoor
open Go.RowKit Go.WideShapes Go.ChangeShapes Q
def cvals (c : Cfg) : List Int := [c.nodes, c.window, c.base, c.step, c.cap, c.room, c.floor]
/-- A name and its number; a blank ahead of all but the first. -/
def pairT (c : Cfg) (q : Nat) : List UInt8 := (if q = 0 then [] else [32]) ++ (cfNames.getD q [] ++ ([32] ++ Lib.decDigits (nth (cvals c) q).toNat))
def quo1 : List UInt8 := [113, 117, 111, 114, 97, 116, 101, 32, 49, 10]
def vots : List UInt8 := [10, 118, 111, 116, 101, 115]
def votT (l : List Int) : List UInt8 := l.flatMap fun v => [32] ++ Lib.decDigits v.toNat
/-- The first three lines. -/
def headTx (c : Cfg) : List UInt8 := quo1 ++ (List.range 7).flatMap (pairT c) ++ vots ++ votT c.votes ++ [10]
/-- A line for each event; none where one is none. -/
noncomputable def linesT (nodes : Int) : List Ev → Option (List UInt8)
  | [] => some []
  | e :: es => if (printE nodes e).2 = 0 then (linesT nodes es).map ((printE nodes e).1 ++ [10] ++ ·) else none
noncomputable def printS (s : Sc) : List UInt8 × Int :=
  if s.c.err = 0 then if 4000 < s.es.length then ([], 25) else match linesT s.c.nodes s.es with
    | none => ([], 24)
    | some t => if 400000 < (headTx s.c ++ t).length then ([], 20) else (headTx s.c ++ t, 0)
  else ([], s.c.err)
def PrtP (s : Sc) (w : World) (e : Ending) (w' : World) : Prop := e = .returned (.tuple #[.string (S (printS s).1), .int .i64 (printS s).2]) ∧ Below w.heap.size w w'
theorem prt_out {s : Sc} {w w' : World} {x : List UInt8} {y : Int} (h : printS s = (x, y)) (hb : Below w.heap.size w w') : PrtP s w (.returned (.tuple #[.string (S x), .int .i64 y])) w' := by
  unfold PrtP
  rw [h]
  exact ⟨rfl, hb⟩
theorem str_cells (l : List UInt8) : Lib.strCells (S l) = Lib.byteCells l := by
  unfold Lib.strCells Lib.byteCells
  simp [S_data]
/-- Bytes of the call's own. -/
def BO (w : World) (b : Nat) (v : Value) (out : List UInt8) : Prop := w.ownsRow b 5 1 v out.length (Lib.byteCells out)
theorem BO.app {w : World} {b : Nat} {v : Value} {out t : List UInt8} (h : w.ownsRow b 5 1 v (out.length + (S t).size) (Lib.byteCells out ++ Lib.strCells (S t))) : BO w b v (out ++ t) := by
  rw [S_size, str_cells] at h
  have e1 : Lib.byteCells out ++ Lib.byteCells t = Lib.byteCells (out ++ t) := by simp [Lib.byteCells]
  have e2 : out.length + t.length = (out ++ t).length := by simp
  rw [e1, e2] at h
  exact h
theorem BO.one {w : World} {b : Nat} {v : Value} {out : List UInt8} {c : UInt8} (h : w.ownsRow b 5 1 v (out.length + 1) (Lib.byteCells out ++ [.int .u8 (c.toNat : Int)])) : BO w b v (out ++ [c]) := by
  show World.ownsRow _ _ _ _ _ _ _
  rw [List.length_append, Lib.byteCells_append]
  exact h
theorem linesT_step {nodes : Int} {pre : List UInt8} {e : Ev} {r : List Ev} (h : (printE nodes e).2 = 0) : (linesT nodes (e :: r)).map (pre ++ ·) = (linesT nodes r).map ((pre ++ ((printE nodes e).1 ++ [10])) ++ ·) := by
  rw [linesT, if_pos h, Option.map_map]
  congr 1
  funext l
  simp
theorem linesT_no {nodes : Int} {e : Ev} {r : List Ev} (h : ¬ (printE nodes e).2 = 0) : linesT nodes (e :: r) = none := by
  rw [linesT, if_neg h]
theorem printE_err (nodes : Int) (e : Ev) (hn : 1 ≤ nodes ∧ nodes ≤ 16) : (printE nodes e).2 = 0 ∨ (printE nodes e).2 = 24 := by
  unfold printE
  rw [if_pos hn]
  split
  · exact .inl rfl
  · exact .inr rfl
/-- The numbers of a configuration that may be. -/
theorem cvals_ok {c : Cfg} (h : c.Ok) (q : Nat) (hq : q < 7) : 0 ≤ nth (cvals c) q ∧ nth (cvals c) q ≤ 4611686018427387904 := by
  have h1 := h.nodes
  have h2 := h.window
  have h3 := h.cap
  have h4 := h.base
  have h5 := h.step
  have h6 := h.room
  have h7 := h.floor
  match q, hq with
  | 0, _ => show 0 ≤ c.nodes ∧ c.nodes ≤ _; omega
  | 1, _ => show 0 ≤ c.window ∧ c.window ≤ _; omega
  | 2, _ => show 0 ≤ c.base ∧ c.base ≤ _; omega
  | 3, _ => show 0 ≤ c.step ∧ c.step ≤ _; omega
  | 4, _ => show 0 ≤ c.cap ∧ c.cap ≤ _; omega
  | 5, _ => show 0 ≤ c.room ∧ c.room ≤ _; omega
  | 6, _ => show 0 ≤ c.floor ∧ c.floor ≤ _; omega
theorem names_len (q : Nat) : (cfNames.getD q []).length ≤ 6 := by
  match q with
  | 0 => decide
  | 1 => decide
  | 2 => decide
  | 3 => decide
  | 4 => decide
  | 5 => decide
  | 6 => decide
  | q + 7 => simp [cfNames]
end Go.Proofs.YtcibcmfaebbhnaaDoor
set_option linter.unusedVariables false
set_option linter.unusedSimpArgs false
namespace Go.Proofs.YtcibcmfaebbhnaaDoor
open Go.RowKit Go.WideShapes Go.ChangeShapes Q
/-- A script whose lists are the call's own, however many. -/
structure SmV (w : World) (b : Nat) (s : Sm) : Prop where
  vot : w.ownsRow b 3 1 (.slice s.A s.c.votes.length s.k) s.c.votes.length (ints s.c.votes)
  row : w.ownsRow b 29 13 (.slice s.Ae s.ms.length s.ke) s.ms.length (emCells s.ms)
  ent : ∀ m ∈ s.ms, EmU w b m
  hv : s.c.votes.length ≤ 10000000
  hn : s.ms.length ≤ 10000000
theorem SmV.inn {w : World} {b : Nat} {s : Sm} (h : SmV w b s) : SmIn w w.heap.size s := ⟨Reads.of_own h.vot, Reads.of_own h.row, fun m hm => (h.ent m hm).inn, by have := h.hv; omega, by have := h.hn; omega⟩
theorem SmV.step {w w' : World} {b : Nat} {s : Sm} (h : SmV w b s) (hb : Below w.heap.size w w') : SmV w' b s := ⟨own_step h.vot hb, own_step h.row hb, fun m hm => (h.ent m hm).step hb, h.hv, h.hn⟩
theorem SmV.far {w w' : World} {b g : Nat} {t : TypeId} {cs : Array Value} {s : Sm} (h : SmV w b s) (hg : Blk w g t cs) (h2 : t ≠ 3) (h3 : t ≠ 5) (h4 : t ≠ 29) (ho : Only (fun q => q = g) w w') : SmV w' b s :=
  ⟨own_apart h.vot ho (fun k hk hq => by subst hq; exact ⟨t, cs, hg, h2⟩), own_apart h.row ho (fun k hk hq => by subst hq; exact ⟨t, cs, hg, h4⟩), fun m hm => (h.ent m hm).far hg h2 h3 ho, h.hv, h.hn⟩
theorem sm_pre {W : World} {g : Nat} {s : Sm} (h : Blk W g 47 s.cs) : ∀ j v, (cfC s.c s.A s.k)[j]? = some v → W.cell? ((⟨g, 0, none⟩ : Addr).add j) = some v := by
  intro j v hv
  have hj : j < 8 := by have := (Array.getElem?_eq_some_iff.1 hv).1; rw [cf_size] at this; exact this
  refine box_all h j v ?_
  match j, hj with
  | 0, _ => exact hv
  | 1, _ => exact hv
  | 2, _ => exact hv
  | 3, _ => exact hv
  | 4, _ => exact hv
  | 5, _ => exact hv
  | 6, _ => exact hv
  | 7, _ => exact hv
end Go.Proofs.YtcibcmfaebbhnaaDoor
set_option linter.unusedVariables false
set_option linter.unusedSimpArgs false
namespace Go.Proofs.YtcibcmfaebbhnaaDoor
open Go.RowKit Go.WideShapes Go.ChangeShapes Q
/-- What the loop over the votes keeps. -/
def VoJ2 (c : Cfg) (W : World) (v i : Value) (wr : World) : Prop := ∃ (j : Nat) (out : List UInt8), j ≤ c.votes.length ∧ i = .int .i64 j ∧ out = quo1 ++ (List.range 7).flatMap (pairT c) ++ vots ++ votT (c.votes.take j) ∧ out.length ≤ 300 + 21 * j ∧ BO wr W.heap.size v out ∧ Below W.heap.size W wr
/-- What the loop over the events keeps. -/
def EvJ2 (s : Sc) (W : World) (v i : Value) (wr : World) : Prop := ∃ (j : Nat) (t : List UInt8), j ≤ s.es.length ∧ i = .int .i64 j ∧ linesT s.c.nodes s.es = (linesT s.c.nodes (s.es.drop j)).map (t ++ ·) ∧ t.length ≤ 30000001 * j ∧ BO wr W.heap.size v (headTx s.c ++ t) ∧ Below W.heap.size W wr
theorem dec_len19' {n : Nat} (h : n ≤ 4611686018427387904) : (Lib.decDigits n).length ≤ 19 := dec_len19 (n := n) (by omega)
end Go.Proofs.YtcibcmfaebbhnaaDoor
set_option linter.unusedVariables false
namespace Go.Proofs.YtcibcmfaebbhnaaDoor
open Go.RowKit Go.WideShapes Go.ChangeShapes Go.Shelf Q
def aren : Go.Shelf.Ren := ⟨fun | 129 => 99 | 176 => 43 | 249 => 70 | 283 => 87 | 284 => 88 | 285 => 89 | 286 => 90 | 288 => 81 | 317 => 98 | 318 => 100 | 319 => 101 | 320 => 102 | 337 => 110 | 338 => 111 | n => n,
  fun | 0 => 0 | 2 => 2 | 3 => 3 | 4 => 4 | 5 => 5 | 9 => 9 | 20 => 20 | 37 => 24 | 46 => 122 | 51 => 156 | 53 => 137 | 171 => 144 | 173 => 147 | 212 => 155 | 213 => 157 | 232 => 171 | 233 => 172 | n => n,
  fun | 17 => 2 | 18 => 5 | 19 => 6 | n => n⟩
theorem la176 : LaysM.n176 Tryd.prog aren := {
  mixed := by kernel_rfl,
  f129 := Tryd.func99.trans (congrArg some (by kernel_rfl)),
  f176 := Tryd.func43.trans (congrArg some (by kernel_rfl)),
  f249 := Tryd.func70.trans (congrArg some (by kernel_rfl)),
  f283 := Tryd.func87.trans (congrArg some (by kernel_rfl)),
  f284 := Tryd.func88.trans (congrArg some (by kernel_rfl)),
  f285 := Tryd.func89.trans (congrArg some (by kernel_rfl)),
  f286 := Tryd.func90.trans (congrArg some (by kernel_rfl)),
  f288 := Tryd.func81.trans (congrArg some (by kernel_rfl)),
  f317 := Tryd.func98.trans (congrArg some (by kernel_rfl)),
  f318 := Tryd.func100.trans (congrArg some (by kernel_rfl)),
  f319 := Tryd.func101.trans (congrArg some (by kernel_rfl)),
  f320 := Tryd.func102.trans (congrArg some (by kernel_rfl)),
  f337 := Tryd.func110.trans (congrArg some (by kernel_rfl)),
  f338 := Tryd.func111.trans (congrArg some (by kernel_rfl)),
  t0 := Tryd.underlying0,
  a0 := Tryd.isAgg0,
  z0 := Tryd.sizeOf0,
  v0 := Tryd.zeroValue0,
  t2 := Tryd.underlying2,
  a2 := Tryd.isAgg2,
  z2 := Tryd.sizeOf2,
  v2 := Tryd.zeroValue2,
  t3 := Tryd.underlying3,
  a3 := Tryd.isAgg3,
  z3 := Tryd.sizeOf3,
  v3 := Tryd.zeroValue3,
  t4 := Tryd.underlying4,
  a4 := Tryd.isAgg4,
  z4 := Tryd.sizeOf4,
  v4 := Tryd.zeroValue4,
  t5 := Tryd.underlying5,
  a5 := Tryd.isAgg5,
  z5 := Tryd.sizeOf5,
  v5 := Tryd.zeroValue5,
  t9 := Tryd.underlying9,
  a9 := Tryd.isAgg9,
  z9 := Tryd.sizeOf9,
  v9 := Tryd.zeroValue9,
  t20 := Tryd.underlying20,
  a20 := Tryd.isAgg20,
  z20 := Tryd.sizeOf20,
  v20 := Tryd.zeroValue20,
  t37 := Tryd.underlying24,
  a37 := Tryd.isAgg24,
  z37 := Tryd.sizeOf24,
  v37 := Tryd.zeroValue24,
  t46 := Tryd.underlying122,
  a46 := Tryd.isAgg122,
  z46 := Tryd.sizeOf122,
  v46 := Tryd.zeroValue122,
  t51 := Tryd.underlying156,
  a51 := Tryd.isAgg156,
  z51 := Tryd.sizeOf156,
  v51 := Tryd.zeroValue156,
  t53 := Tryd.underlying137,
  a53 := Tryd.isAgg137,
  z53 := Tryd.sizeOf137,
  v53 := Tryd.zeroValue137,
  t171 := Tryd.underlying144,
  a171 := Tryd.isAgg144,
  z171 := Tryd.sizeOf144,
  v171 := Tryd.zeroValue144,
  t173 := Tryd.underlying147,
  a173 := Tryd.isAgg147,
  z173 := Tryd.sizeOf147,
  v173 := Tryd.zeroValue147,
  t212 := Tryd.underlying155,
  a212 := Tryd.isAgg155,
  z212 := Tryd.sizeOf155,
  v212 := Tryd.zeroValue155,
  t213 := Tryd.underlying157,
  a213 := Tryd.isAgg157,
  z213 := Tryd.sizeOf157,
  t232 := Tryd.underlying171,
  a232 := Tryd.isAgg171,
  z232 := Tryd.sizeOf171,
  v232 := Tryd.zeroValue171,
  t233 := Tryd.underlying172,
  a233 := Tryd.isAgg172,
  z233 := Tryd.sizeOf172,
  v233 := Tryd.zeroValue172,
  g17 := by kernel_rfl,
  g18 := by kernel_rfl,
  g19 := by kernel_rfl,
  i0 := by kernel_rfl,
  i2 := by kernel_rfl,
  i3 := by kernel_rfl,
  i4 := by kernel_rfl,
  i5 := by kernel_rfl,
  i9 := by kernel_rfl,
  i20 := by kernel_rfl,
  i37 := by kernel_rfl,
  i46 := by kernel_rfl,
  i51 := by kernel_rfl,
  i53 := by kernel_rfl,
  i171 := by kernel_rfl,
  i173 := by kernel_rfl,
  i212 := by kernel_rfl,
  i232 := by kernel_rfl,
  i233 := by kernel_rfl,
  m17 := by kernel_rfl,
  m18 := by kernel_rfl,
  m19 := by kernel_rfl }
/-- A number's digits put behind bytes. -/
theorem appint_any (B n : Nat) (i : Int) (h0 : -9223372036854775808 ≤ i) (h1 : i ≤ 9223372036854775807) (sv : Value) (xs : List Value) (w : World) (hown : w.ownsRow B 5 1 sv n xs) (hB : B ≤ w.heap.size) (hl : n + 21 ≤ 140737488355328) (hT : Lib.TabBelow Tryd.prog B w "internal/strconv.uint64pow10" .u64 Lib.pow10Tab) :
    Calls Tryd.prog 43 #[sv, .int .i64 i, .int .i64 10] w fun e w' => ∃ v', e = .returned v' ∧ w'.ownsRow B 5 1 v' (n + (Lib.itoa i).length) (xs ++ Lib.byteCells (Lib.itoa i)) ∧ Below B w w' ∧ Lib.OthersKept 5 none w w' :=
  (Any.strconv_AppendInt_10 la176 B n i h0 h1 sv xs w hown hB hl hT).mono fun e w' ⟨v', h1, h2, h3, h4⟩ => ⟨v', h1, h2, h3, h4⟩
end Go.Proofs.YtcibcmfaebbhnaaDoor
