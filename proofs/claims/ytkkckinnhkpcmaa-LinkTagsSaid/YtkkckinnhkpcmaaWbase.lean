/-
  What the walks of the wire's functions share: the questions and Push by contract at the wire, the piece brought into its bounds, steps put together.
-/
import Derived.Test.YtkkckinnhkpcmaaPlay
import Derived.Test.YtkkckinnhkpcmaaFwalk
import Derived.Test.YtkkckinnhkpcmaaCopied
set_option linter.unusedVariables false
namespace Go.Proofs.Ytkkckinnhkpcmaa
open Go.RowKit Go.WideShapes Go.ChangeShapes Q

theorem m12 {w : World} {g : Nat} {t : TypeId} {a0 a1 a2 a3 a4 a5 a6 a7 a8 a9 a10 a11 : Value} (h : Blk w g t #[a0, a1, a2, a3, a4, a5, a6, a7, a8, a9, a10, a11]) :
    w.cell? ⟨g, 0, none⟩ = some a0 ∧ w.cell? ⟨g, 1, none⟩ = some a1 ∧ w.cell? ⟨g, 2, none⟩ = some a2 ∧ w.cell? ⟨g, 3, none⟩ = some a3 ∧ w.cell? ⟨g, 4, none⟩ = some a4 ∧ w.cell? ⟨g, 5, none⟩ = some a5 ∧ w.cell? ⟨g, 6, none⟩ = some a6 ∧ w.cell? ⟨g, 7, none⟩ = some a7 ∧ w.cell? ⟨g, 8, none⟩ = some a8 ∧ w.cell? ⟨g, 9, none⟩ = some a9 ∧ w.cell? ⟨g, 10, none⟩ = some a10 ∧ w.cell? ⟨g, 11, none⟩ = some a11 :=
  ⟨h.cell 0, h.cell 1, h.cell 2, h.cell 3, h.cell 4, h.cell 5, h.cell 6, h.cell 7, h.cell 8, h.cell 9, h.cell 10, h.cell 11⟩

theorem pidz_any (z : Int) (w : World) (h0 : 0 ≤ z) (h1 : z ≤ 1) : Calls Try.prog 21 #[.int .i64 z] w fun r w' => r = .returned (.int .i64 (2 + 3 * z)) ∧ w = w' := by
  obtain ⟨s, rfl⟩ : ∃ s : Nat, z = s := ⟨z.toNat, by omega⟩
  exact pid_any s w (by omega)

section
variable {w : World} {o : Nat → Nat} {wb W Sp n : Nat} {g : Gw} {x : Wr}
theorem WireAt.nums (h : WireAt w o wb W Sp g x) : 1 ≤ W ∧ W ≤ Sp ∧ Sp ≤ 20000 := by
  have h1 := h.mux 0 (by omega)
  have h2 := h.isX 0 (by omega)
  obtain ⟨_, _, a, b, c, _⟩ := h1
  rw [h2.1, h2.2.1] at a
  rw [h2.2.1] at b
  rw [h2.1] at c
  exact ⟨c, a, b⟩
theorem Inv.fits (hI : Inv W Sp n x) (hn : n ≤ 5000) (hSp : W ≤ 20000) (hS : Sp ≤ 20000) {s : Nat} (hs : s < 2) : (x.st s).Fits := by
  obtain ⟨p, q, h1⟩ := hI s (1 - s) (by omega)
  obtain ⟨p', q', h2⟩ := hI (1 - s) s (by omega)
  have a := h1.af
  have b := h2.bn
  have c := h1.pP
  have d := h1.cP
  have e := h2.qP
  have f := h2.cP
  have r := h1.room
  have l := h2.el
  exact ⟨by omega, by omega, by omega, by omega, by omega, by omega⟩
end
section
variable {w : World} {o : Nat → Nat} {wb W Sp n : Nat} {g : Gw} {x : Wr}
theorem WireAt.room (h : WireAt w o wb W Sp g x) (hI : Inv W Sp n x) (hn : n ≤ 5000) {s : Nat} (hs : s < 2) {p : Int} (hp : 2 + 3 * (1 - (s : Int)) = p) :
    Calls Try.prog 24 #[.pointer (some ⟨g.m s, 0, none⟩), .int .i64 p] w fun r w' => r = .returned (.int .i64 (Sp - (x.st s).out.length)) ∧ ∃ m, w' = w.drewN m := by
  subst hp
  obtain ⟨a, b, c⟩ := h.nums
  have := room_any _ (g.m s) (g.sb s) (g.X s) _ (x.st s) w (h.mux s hs) (h.isX s hs).2.2.2 (h.str s hs) (hI.fits hn (by omega) c hs)
  rw [(h.isX s hs).2.1] at this
  exact this
theorem WireAt.sent (h : WireAt w o wb W Sp g x) (hI : Inv W Sp n x) (hn : n ≤ 5000) {s : Nat} (hs : s < 2) {p : Int} (hp : 2 + 3 * (1 - (s : Int)) = p) :
    Calls Try.prog 32 #[.pointer (some ⟨g.m s, 0, none⟩), .int .i64 p] w fun r w' => r = .returned (.int .i64 (x.P s).length) ∧ ∃ m, w' = w.drewN m := by
  subst hp
  obtain ⟨a, b, c⟩ := h.nums
  have := sent_any _ (g.m s) (g.sb s) (g.X s) _ (x.st s) w (h.mux s hs) (h.isX s hs).2.2.2 (h.str s hs) (hI.fits hn (by omega) c hs)
  obtain ⟨p', q', hh⟩ := hI s (1 - s) (by omega)
  have h1 := hh.outLen
  rw [show (x.st s).first + ((x.st s).out.length : Int) - 1 = ((x.P s).length : Int) by rw [hh.af]; omega] at this
  exact this
theorem WireAt.waiting (h : WireAt w o wb W Sp g x) (hI : Inv W Sp n x) (hn : n ≤ 5000) {s : Nat} (hs : s < 2) {p : Int} (hp : 2 + 3 * (1 - (s : Int)) = p) :
    Calls Try.prog 20 #[.pointer (some ⟨g.m s, 0, none⟩), .int .i64 p] w fun r w' => r = .returned (.int .i64 (x.st s).out.length) ∧ w = w' := by
  subst hp
  obtain ⟨a, b, c⟩ := h.nums
  exact waiting_any _ (g.m s) (g.sb s) (g.X s) _ (x.st s) w (h.mux s hs) (h.isX s hs).2.2.2 (h.str s hs) (hI.fits hn (by omega) c hs)
theorem WireAt.got (h : WireAt w o wb W Sp g x) (hI : Inv W Sp n x) (hn : n ≤ 5000) {s : Nat} (hs : s < 2) {p : Int} (hp : 2 + 3 * (1 - (s : Int)) = p) :
    Calls Try.prog 30 #[.pointer (some ⟨g.m s, 0, none⟩), .int .i64 p] w fun r w' => r = .returned (.int .i64 (x.O s).length) ∧ w = w' := by
  subst hp
  obtain ⟨a, b, c⟩ := h.nums
  have := got_any _ (g.m s) (g.sb s) (g.X s) _ (x.st s) w (h.mux s hs) (h.isX s hs).2.2.2 (h.str s hs) (hI.fits hn (by omega) c hs)
  obtain ⟨p', q', hh⟩ := hI (1 - s) s (by omega)
  rw [show (x.st s).next - 1 = ((x.O s).length : Int) by rw [hh.bn, hh.oLen]; omega] at this
  exact this
theorem WireAt.cells (h : WireAt w o wb W Sp g x) : Blk w wb 45 #[.pointer (some ⟨g.m 0, 0, none⟩), .pointer (some ⟨g.m 1, 0, none⟩), .int .i64 W, .int .i64 Sp, g.row 0 0, g.row 0 1, g.row 1 0, g.row 1 1, g.row 2 0, g.row 2 1, g.row 3 0, g.row 3 1] := h.head
theorem WireAt.mpush (h : WireAt w o wb W Sp g x) (hI : Inv W Sp n x) (hn : n ≤ 5000) {s : Nat} (hs : s < 2) {p : Int} (hp : 2 + 3 * (1 - (s : Int)) = p) {v : Value} {bs : List Int} (hb : Bod w v bs) (hn1 : 1 ≤ bs.length) (hn2 : bs.length ≤ 300) :
    Calls Try.prog 37 #[.pointer (some ⟨g.m s, 0, none⟩), .int .i64 p, v] w fun e w' =>
      (Sp ≤ (x.st s).out.length → e = .returned (.int .i64 42) ∧ St (fun _ => False) w w') ∧
      ((x.st s).out.length < Sp → e = .returned (.int .i64 0) ∧ WStep w o wb W Sp g { x with st := upd x.st s { x.st s with out := (x.st s).out ++ [bs] } } w') := by
  subst hp
  obtain ⟨a, b, c⟩ := h.nums
  obtain ⟨A, cv, rfl, hr, _⟩ := hb.val
  refine (mpush_any _ (g.m s) (g.sb s) (g.X s) _ (x.st s) A cv bs w (h.mux s hs) (h.isX s hs).2.2.2 (h.str s hs) (hI.fits hn (by omega) c hs) hr hn1 hn2).mono fun e w' hp => ?_
  unfold PushP at hp
  rw [(h.isX s hs).2.1] at hp
  rcases hp with ⟨h1, he, m, rfl⟩ | ⟨h1, he, hst, hs'⟩
  · exact ⟨fun _ => ⟨he, (St.refl _ w).drewN m⟩, fun hc => by omega⟩
  · exact ⟨fun hc => by omega, fun _ => ⟨he, h.stream hs hst hs'⟩⟩
end
section
variable {w : World} {o : Nat → Nat} {wb W Sp n : Nat} {g : Gw} {x : Wr}
theorem WireAt.cellM (h : WireAt w o wb W Sp g x) (s : Nat) (hs : s < 2) : w.cell? ⟨wb, s, none⟩ = some (.pointer (some ⟨g.m s, 0, none⟩)) := by
  have hs' : s = 0 ∨ s = 1 := by omega
  rcases hs' with rfl | rfl
  · exact h.cells.cell 0
  · exact h.cells.cell 1
theorem WireAt.cellR (h : WireAt w o wb W Sp g x) (k s : Nat) (hk : k < 4) (hs : s < 2) : w.cell? ⟨wb, 4 + 2 * k + s, none⟩ = some (g.row k s) := by
  have hk' : k = 0 ∨ k = 1 ∨ k = 2 ∨ k = 3 := by omega
  have hs' : s = 0 ∨ s = 1 := by omega
  rcases hk' with rfl | rfl | rfl | rfl <;> rcases hs' with rfl | rfl
  · exact h.cells.cell 4
  · exact h.cells.cell 5
  · exact h.cells.cell 6
  · exact h.cells.cell 7
  · exact h.cells.cell 8
  · exact h.cells.cell 9
  · exact h.cells.cell 10
  · exact h.cells.cell 11
theorem WireAt.cellN (h : WireAt w o wb W Sp g x) : w.cell? ⟨wb, 2, none⟩ = some (.int .i64 W) ∧ w.cell? ⟨wb, 3, none⟩ = some (.int .i64 Sp) := ⟨h.cells.cell 2, h.cells.cell 3⟩
end
theorem pid1 (w : World) : Calls Try.prog 21 #[.int .i64 1] w fun r w' => r = .returned (.int .i64 5) ∧ w = w' := pid_any 1 w (by omega)
theorem pid0 (w : World) : Calls Try.prog 21 #[.int .i64 0] w fun r w' => r = .returned (.int .i64 2) ∧ w = w' := pid_any 0 w (by omega)
theorem bod_take {w : World} {B : Nat} {A : Option Addr} {bs : List Int} (h : Reads w B 1 A bs.length (byts bs)) (hl : 20 < bs.length) : Reads w B 1 A 20 (byts (bs.take 20)) := by
  refine ⟨by simp [byts]; omega, fun _ => ?_⟩
  obtain ⟨ad, e, hb, hc⟩ := h.2 (by omega)
  refine ⟨ad, e, hb, fun j u hu => hc j u ?_⟩
  simp only [byts, List.getElem?_map, List.getElem?_take] at hu ⊢
  split at hu
  · exact hu
  · simp at hu

def bodM (bs : List Int) : List Int := if bs.length = 0 then [1] else bs
theorem bodN_of (bs : List Int) : bodN bs = (bodM bs).take 20 := by
  unfold bodN bodM
  split <;> rfl
theorem step_in {P : Program} {ops : Array Oper} {o : Oper} {a : Act} {w : World} {K : Act → World → Prop} {Q : Exit → Act → World → Prop} {E : Prop} (hgd : o.guard = none) (h : Oper.wp P o a w K Q) :
    if Region.wanted o (yielded ops a.tmps) = true then Oper.wp P o a w K Q else E := by
  have hw : Region.wanted o (yielded ops a.tmps) = true := by simp [Region.wanted, hgd]
  rw [if_pos hw]
  exact h
/-- The piece to push, on its way into its bounds. -/
def BodC (w : World) (o : Nat → Nat) (ys : List Int) (s2 : Value) (wx : World) : Prop := ∃ A c, s2 = .slice A ys.length c ∧ Reads wx wx.heap.size 1 A ys.length (byts ys) ∧ St (fun _ => False) w wx ∧ ys.length ≤ c ∧ c ≤ 140737488351232 ∧ ∀ ad, A = some ad → o ad.block = 0
theorem Reads.only {F : Nat → Prop} {w w' : World} {B size n : Nat} {A : Option Addr} {xs : List Value} (h : Reads w B size A n xs) (hs : Only F w w') (hA : ∀ ad, A = some ad → ¬ F ad.block) : Reads w' B size A n xs :=
  ⟨h.1, fun hn => by
    obtain ⟨ad, e, hb, hc⟩ := h.2 hn
    exact ⟨ad, e, hb, fun j u hu => hs.cell (hc j u hu) (by rw [block_of_add]; exact hA ad e)⟩⟩
theorem bodC_nil {w : World} {o : Nat → Nat} {bs : List Int} (h : bs.length = 0) (hl : ∀ q, w.heap.size ≤ q → o q = 0) : BodC w o (bodM bs) (.slice (some ⟨w.heap.size, 0, none⟩) 1 1) (w.alloc (.cells #[.int .u8 1] 5)) := by
  have e : bodM bs = [1] := if_pos h
  rw [e]
  exact ⟨_, _, rfl, reads_blk (cs := [Value.int .u8 1]) (Blk.new w 5 #[.int .u8 1]) (Nat.le_refl _), (St.refl _ w).alloc _, by simp, by omega, fun ad e => by injection e with e; rw [← e]; exact hl _ (Nat.le_refl _)⟩
theorem bodC_same {w : World} {o : Nat → Nat} {bs : List Int} {A : Option Addr} {c : Nat} (h : ¬ bs.length = 0) (hb : Reads w w.heap.size 1 A bs.length (byts bs)) (hc : bs.length ≤ c) (hcc : c ≤ 140737488351232) (ho : ∀ ad, A = some ad → o ad.block = 0) : BodC w o (bodM bs) (.slice A bs.length c) w := by
  have e : bodM bs = bs := if_neg h
  rw [e]
  exact ⟨_, _, rfl, hb, St.refl _ w, hc, hcc, ho⟩
theorem bodC_cut {w w1 : World} {o : Nat → Nat} {ys : List Int} {A : Option Addr} {c : Nat} (h : 20 < ys.length) (hb : Reads w1 w1.heap.size 1 A ys.length (byts ys)) (hs : St (fun _ => False) w w1) (hc : ys.length ≤ c) (hcc : c ≤ 140737488351232) (ho : ∀ ad, A = some ad → o ad.block = 0) : BodC w o (ys.take 20) (.slice A 20 c) w1 := by
  have e : (ys.take 20).length = 20 := by rw [List.length_take]; omega
  refine ⟨A, c, ?_, ?_, hs, ?_, hcc, ho⟩
  · rw [e]
  · rw [e]; exact bod_take hb h
  · omega
theorem bodC_all {w w1 : World} {o : Nat → Nat} {ys : List Int} {A : Option Addr} {c : Nat} (h : ¬ 20 < ys.length) (hb : Reads w1 w1.heap.size 1 A ys.length (byts ys)) (hs : St (fun _ => False) w w1) (hc : ys.length ≤ c) (hcc : c ≤ 140737488351232) (ho : ∀ ad, A = some ad → o ad.block = 0) : BodC w o (ys.take 20) (.slice A ys.length c) w1 := by
  rw [List.take_of_length_le (by omega)]
  exact ⟨_, _, rfl, hb, hs, hc, hcc, ho⟩

theorem WStep.after {w w1 w2 : World} {o o1 : Nat → Nat} {wb W Sp : Nat} {g g1 : Gw} {y : Wr} (hs : St (fun q => o q ≠ 0) w w1) (ho : ∀ q, q < w.heap.size → o1 q = o q) (hg : g1.m = g.m ∧ g1.X = g.X ∧ g1.sb = g.sb) (h : WStep w1 o1 wb W Sp g1 y w2) : WStep w o wb W Sp g y w2 := by
  obtain ⟨o2, g2, a, b, c, d, e, f⟩ := h
  exact ⟨o2, g2, a, hs.trans' b fun q hq hn => by rw [← ho q hq]; exact hn, fun q hq => (c q (Nat.lt_of_lt_of_le hq hs.size)).trans (ho q hq), d.trans hg.1, e.trans hg.2.1, f.trans hg.2.2⟩
theorem rows_P {x1 x : Wr} {s : Nat} {bd : List Int} (h : x1.O = x.O ∧ x1.F = x.F ∧ x1.A = x.A ∧ x1.P = x.P) :
    ∀ k' s', k' < 4 → s' < 2 → ¬ (k' = 0 ∧ s' = s) → ∀ w S v, RowIs w S x1 k' s' v → RowIs w S { x1 with P := upd x1.P s (x1.P s ++ [bd]) } k' s' v := by
  intro k' s' hk hs hne w S v hr
  match k', hk, hr with
  | 0, _, hr =>
    show BRow w S v (upd x1.P s (x1.P s ++ [bd]) s')
    rw [upd_ne _ _ _ _ (by omega)]
    exact hr
  | 1, _, hr => exact hr
  | 2, _, hr => exact hr
  | 3, _, hr => exact hr
end Go.Proofs.Ytkkckinnhkpcmaa
