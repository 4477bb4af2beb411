/-
  What both walks of the program's ParseTrace use (the head of Ppa, and what Lrt and Lot say of its results; beside Ppa it cannot stand).
-/
import Derived.Test.YtenebkkfjalcaaaDoorZRpa
import Derived.Test.YtenebkkfjalcaaaDoorZLwt
import Derived.Shelf.Small.Wraps
import Derived.Shelf.Strings.Cut
set_option linter.unusedVariables false
set_option linter.unusedSimpArgs false
namespace Go.Proofs.YtenebkkfjalcaaaDoor
open Go.RowKit Go.WideShapes Go.ChangeShapes Q
open Go.Shelf

/-- The variable that strings.Cut looks at. -/
def ML (w : World) : Prop := ∃ m : Int, w.cell? ⟨1, 0, none⟩ = some (.int .i64 m)
theorem ML.below {w w' : World} (h : ML w) (hb : Below w.heap.size w w') : ML w' := by
  obtain ⟨m, hm⟩ := h
  exact ⟨m, (hb.cell (p := ⟨1, 0, none⟩) (World.block_lt_of_cell? w _ hm)).trans hm⟩
theorem cutp_any (s p : ByteArray) (w : World) : Calls Tryd.prog 22 #[.string s, .string p] w fun e w' => e = .returned (.tuple #[.string (S (Lib.trimPrefix s.data.toList p.data.toList)), .bool (Lib.hasPrefix s.data.toList p.data.toList)]) ∧ w = w' :=
  (Any.strings_CutPrefix lq103 s p w).mono fun e w' ⟨h1, h2⟩ => ⟨h1, h2.symm⟩
theorem scut_any (s p : ByteArray) (w : World) (hs : s.size < 4294967281) (h : ML w) : Calls Tryd.prog 23 #[.string s, .string p] w fun e w' => e = .returned (.tuple #[.string (S (Lib.cut s.data.toList p.data.toList).1), .string (S (Lib.cut s.data.toList p.data.toList).2.1), .bool (Lib.cut s.data.toList p.data.toList).2.2]) ∧ ∃ n, w' = w.drewN n := by
  obtain ⟨m, hm⟩ := h
  exact Any.strings_Cut lq145 s p m w hs hm
def strLen : Value → Nat
  | .string s => s.size
  | _ => 0
/-- What comes out of a ParseTrace, its content named. -/
def TrQ (L : List PM) (n c : Int) (w : World) (e : Ending) (w' : World) : Prop := ∃ (A : Option Addr) (cap : Nat) (ms : List Mk), e = .returned (.tuple #[.slice A L.length cap, .int .i64 n, .int .i64 c]) ∧ ms.map Mk.pm = L ∧ MsIn w' w'.heap.size A L.length ms ∧ Below w.heap.size w w' ∧ (∀ m ∈ ms, m.ms.length = m.nm ∧ m.ts.length = m.nt ∧ m.bd.length = m.nb)
theorem TrR.q {t : List UInt8} {w w' : World} {e : Ending} (h : TrR t w e w') : TrQ (traceT t).1 ((traceT t).2.1 : Int) (traceT t).2.2 w e w' := by
  obtain ⟨A, cap, ms, he, hm, hr, hent, hb⟩ := h
  have hl : ms.length = (traceT t).1.length := by rw [← hm, List.length_map]
  rw [hl] at he hr
  exact ⟨A, cap, ms, he, hm, ⟨Reads.of_own hr, fun m hx => (hent m hx).inn⟩, hb, fun m hx => ⟨RS.len (hent m hx).inn.mem, RI.len (hent m hx).inn.tr, (hent m hx).body.1⟩⟩
/-- Lists of marks that say the same. -/
theorem same_of {l l' : List Mk} (h : l.map Mk.pm = l'.map Mk.pm) (h1 : ∀ m ∈ l, m.ms.length = m.nm ∧ m.ts.length = m.nt ∧ m.bd.length = m.nb) (h2 : ∀ m ∈ l', m.ms.length = m.nm ∧ m.ts.length = m.nt ∧ m.bd.length = m.nb) : SameC l l' := by
  have hlen : l.length = l'.length := by
    have := congrArg List.length h
    simpa using this
  refine ⟨hlen.symm, fun k m m' hm hm' => ?_⟩
  have e : m.pm = m'.pm := by
    have := congrArg (·[k]?) h
    simp only [List.getElem?_map, hm, hm', Option.map_some, Option.some.injEq] at this
    exact this
  have a1 := h1 m (List.mem_of_getElem? hm)
  have a2 := h2 m' (List.mem_of_getElem? hm')
  have e1 : m'.ms = m.ms := (congrArg PM.ms e).symm
  have e2 : m'.ts = m.ts := (congrArg PM.ts e).symm
  have e3 : m'.bd = m.bd := (congrArg PM.bd e).symm
  exact ⟨_, _, _, _, _, _, pm_at e.symm (by rw [← a2.1, ← a1.1, e1]) (by rw [← a2.2.1, ← a1.2.1, e2]) (by rw [← a2.2.2, ← a1.2.2, e3])⟩
theorem trL_len (E : Bool) : ∀ (ls : List (List UInt8)) (n : Nat) (acc : List PM), (trL E n acc ls).1.length ≤ acc.length + ls.length
  | [], n, acc => by rw [trL]; simp
  | s :: rest, n, acc => by
    cases hg : goodL s with
    | none => rw [trL_no hg]; simp
    | some p =>
      by_cases hr : rest = [] ∧ E = false
      · rw [trL_cut hr.1 hr.2]; simp
      · rw [trL_yes hg hr]
        have := trL_len E rest (n + 1) (acc ++ [p])
        simp only [List.length_append, List.length_cons, List.length_nil] at this ⊢
        omega
theorem traceT_len (t : List UInt8) : (traceT t).1.length ≤ t.length + 1 := by
  unfold traceT
  split
  · have h1 := trL_len (endsNL t) ((linG [] t).drop 1) 2 []
    have h2 := lin_len t []
    rw [List.length_drop] at h1
    simp only [List.length_nil] at h1
    omega
  · simp
theorem mk_lens {m : Mk} {w : World} {B : Nat} (h : MkIn w B m) : m.ms.length = m.nm ∧ m.ts.length = m.nt ∧ m.bd.length = m.nb := by
  refine ⟨RS.len h.mem, RI.len h.tr, ?_⟩
  have := Reads.len_ h.body
  simpa [Lib.byteCells] using this
end Go.Proofs.YtenebkkfjalcaaaDoor
