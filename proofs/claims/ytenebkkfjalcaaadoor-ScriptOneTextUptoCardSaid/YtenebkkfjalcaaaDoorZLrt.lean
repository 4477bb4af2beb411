/-
  The law ScriptReadsTrace, walked: the program and the reference read the same of every text.
-/
import Derived.Test.YtenebkkfjalcaaaDoorZPpa
import Derived.Test.YtenebkkfjalcaaaDoorZLwt
set_option linter.unusedVariables false
set_option linter.unusedSimpArgs false
namespace Go.Proofs.YtenebkkfjalcaaaDoor
open Go.RowKit Go.WideShapes Go.ChangeShapes Q

/-- What comes out of a ParseTrace, its content named. -/
def TrQ (L : List PM) (n c : Int) (w : World) (e : Ending) (w' : World) : Prop := ∃ (A : Option Addr) (cap : Nat) (ms : List Mk), e = .returned (.tuple #[.slice A L.length cap, .int .i64 n, .int .i64 c]) ∧ ms.map Mk.pm = L ∧ MsIn w' w'.heap.size A L.length ms ∧ Below w.heap.size w w' ∧ (∀ m ∈ ms, m.ms.length = m.nm ∧ m.ts.length = m.nt ∧ m.bd.length = m.nb)
theorem TrR.q {t : List UInt8} {w w' : World} {e : Ending} (h : TrR t w e w') : TrQ (traceT t).1 ((traceT t).2.1 : Int) (traceT t).2.2 w e w' := by
  obtain ⟨A, cap, ms, he, hm, hr, hent, hb⟩ := h
  have hl : ms.length = (traceT t).1.length := by rw [← hm, List.length_map]
  rw [hl] at he hr
  exact ⟨A, cap, ms, he, hm, ⟨Reads.of_own hr, fun m hx => (hent m hx).inn⟩, hb, fun m hx => ⟨RS.len (hent m hx).inn.mem, RI.len (hent m hx).inn.tr, (hent m hx).body.1⟩⟩
/-- Lists of marks that say the same. -/
theorem same_of {l l' : List Mk} (h : l.map Mk.pm = l'.map Mk.pm) (h1 : ∀ m ∈ l, m.ms.length = m.nm ∧ m.ts.length = m.nt ∧ m.bd.length = m.nb) (h2 : ∀ m ∈ l', m.ms.length = m.nm ∧ m.ts.length = m.nt ∧ m.bd.length = m.nb) : SameC l l' := by
  have hlen : l.length = l'.length := by
    have := congrArg List.length h
    simpa using this
  refine ⟨hlen.symm, fun k m m' hm hm' => ?_⟩
  have e : m.pm = m'.pm := by
    have := congrArg (·[k]?) h
    simp only [List.getElem?_map, hm, hm', Option.map_some, Option.some.injEq] at this
    exact this
  have a1 := h1 m (List.mem_of_getElem? hm)
  have a2 := h2 m' (List.mem_of_getElem? hm')
  have e1 : m'.ms = m.ms := (congrArg PM.ms e).symm
  have e2 : m'.ts = m.ts := (congrArg PM.ts e).symm
  have e3 : m'.bd = m.bd := (congrArg PM.bd e).symm
  exact ⟨_, _, _, _, _, _, pm_at e.symm (by rw [← a2.1, ← a1.1, e1]) (by rw [← a2.2.1, ← a1.2.1, e2]) (by rw [← a2.2.2, ← a1.2.2, e3])⟩
theorem trL_len (E : Bool) : ∀ (ls : List (List UInt8)) (n : Nat) (acc : List PM), (trL E n acc ls).1.length ≤ acc.length + ls.length
  | [], n, acc => by rw [trL]; simp
  | s :: rest, n, acc => by
    cases hg : goodL s with
    | none => rw [trL_no hg]; simp
    | some p =>
      by_cases hr : rest = [] ∧ E = false
      · rw [trL_cut hr.1 hr.2]; simp
      · rw [trL_yes hg hr]
        have := trL_len E rest (n + 1) (acc ++ [p])
        simp only [List.length_append, List.length_cons, List.length_nil] at this ⊢
        omega
theorem traceT_len (t : List UInt8) : (traceT t).1.length ≤ t.length + 1 := by
  unfold traceT
  split
  · have h1 := trL_len (endsNL t) ((linG [] t).drop 1) 2 []
    have h2 := lin_len t []
    rw [List.length_drop] at h1
    simp only [List.length_nil] at h1
    omega
  · simp

set_option maxRecDepth 100000 in
set_option maxHeartbeats 4000000 in
theorem reads_any (s : ByteArray) (w : World) (hs : s.size ≤ 1048576) (hT : Tab w) (hK : KT w) (hM : ML w) :
    Calls Tryd.prog 4 #[.string s] w fun e w' => e = .returned (.bool true) ∧ Below w.heap.size w w' := by
  have HP1 : Hid (Calls Tryd.prog 12 #[.string s] w fun e w' => TrQ (traceT s.data.toList).1 ((traceT s.data.toList).2.1 : Int) (traceT s.data.toList).2.2 w e w') := (pparse_any s w hs hT hK hM).mono fun e w' h => h.q
  have HP2 : Hid (∀ W, Calls Tryd.prog 13 #[.string s] W fun e w' => TrQ (traceT s.data.toList).1 ((traceT s.data.toList).2.1 : Int) (traceT s.data.toList).2.2 W e w') := fun W => (rparse_any s W hs).mono fun e w' h => h.q
  have hll := traceT_len s.data.toList
  rw [str_len] at hll
  obtain ⟨L, hL⟩ : ∃ L, L = (traceT s.data.toList).1 := ⟨_, rfl⟩
  obtain ⟨N, hN⟩ : ∃ N : Int, N = ((traceT s.data.toList).2.1 : Int) := ⟨_, rfl⟩
  obtain ⟨C, hC⟩ : ∃ C, C = (traceT s.data.toList).2.2 := ⟨_, rfl⟩
  rw [← hL, ← hN, ← hC] at HP1 HP2
  rw [← hL] at hll
  have HN10 := hide (num_any C)
  clear hT hK hM hL hN hC
  go_enter Tryd.func4, Tryd.ntmps4
  go_upto_region 2 with (go_at_call 12; refine HP1.out.mono ?_; rintro e w1 ⟨A, c, ms, rfl, hpm, hin, hb, hlen⟩; have HPM := hide hpm; have HIN := hide hin; have HB1 := hide hb; have HLE := hide hlen; clear hpm hin hb hlen)
  go_upto_region 3 with (go_at_call 13; refine (HP2.out _).mono ?_; rintro e w2 ⟨A', c', ms', rfl, hpm, hin, hb, hlen⟩; have HIN1 := hide ((HIN.out.below hb).more hb.size); have HPM2 := hide hpm; have HIN2 := hide hin; have HB2 := hide (HB1.out.trans (hb.mono HB1.out.size)); have HLE2 := hide hlen; clear hpm hin hb hlen)
  have HS : Hid (Calls Tryd.prog 11 #[.slice A L.length c, .slice A' L.length c'] w2 fun e w' => e = .returned (.bool true) ∧ Below w2.heap.size w2 w') :=
    sameMarks_true A A' L.length c c' ms ms' w2 HIN1.out HIN2.out (same_of (HPM.out.trans HPM2.out.symm) HLE.out HLE2.out) (by omega)
  go_wp2_with (first | (go_at_call 10; refine (HN10.out _).mono ?_; rintro e w5 ⟨rfl, rfl⟩) | (go_at_call 11; refine HS.out.mono ?_; rintro e w4 ⟨rfl, hb4⟩; have HB4 := hide (HB2.out.trans (hb4.mono HB2.out.size)); clear hb4))
  all_goals go_ret
  all_goals exact ⟨rfl, HB4.out⟩
end Go.Proofs.YtenebkkfjalcaaaDoor
