/-
  Owed, Acked, Take by contract at the wire.
-/
import Derived.Test.YtkkckinnhkpcmaaFrow
import Derived.Test.YtkkckinnhkpcmaaHeldL
set_option linter.unusedVariables false
namespace Go.Proofs.Ytkkckinnhkpcmaa
open Go.RowKit Go.WideShapes Go.ChangeShapes Q

section
variable {w : World} {o : Nat → Nat} {wb W Sp n : Nat} {g : Gw} {x : Wr}
theorem Inv.next1 (hI : Inv W Sp n x) {s : Nat} (hs : s < 2) : (x.st s).next - 1 = ((x.O s).length : Int) := by
  obtain ⟨p, q, h⟩ := hI (1 - s) s (by omega)
  rw [h.bn, h.oLen]; omega
theorem WireAt.owedY (h : WireAt w o wb W Sp g x) (hI : Inv W Sp n x) (hn : n ≤ 5000) {s : Nat} (hs : s < 2) {p : Int} (hp : 2 + 3 * (1 - (s : Int)) = p) (ho : (x.st s).owed = true) :
    Calls Try.prog 33 #[.pointer (some ⟨g.m s, 0, none⟩), .int .i64 p] w fun e w' => e = .returned (.tuple #[.agg (akC tg (x.O s).length), .bool true]) ∧ WStep w o wb W Sp g { x with st := upd x.st s { x.st s with owed := false } } w' := by
  subst hp
  obtain ⟨a, b, c⟩ := h.nums
  have hh := owed_yes _ (g.m s) (g.sb s) (g.X s) _ (x.st s) w (h.mux s hs) (h.isX s hs).2.2.2 (h.str s hs) (hI.fits hn (by omega) c hs) ho (by rw [(h.omux s hs).1]; omega)
  rw [(h.isX s hs).2.2.1, hI.next1 hs] at hh
  exact hh.mono fun e w' ⟨he, hst, hs'⟩ => ⟨he, h.stream hs hst (hs'.mono fun q hq => .inl hq)⟩
theorem WireAt.owedN (h : WireAt w o wb W Sp g x) {s : Nat} (hs : s < 2) {p : Int} (hp : 2 + 3 * (1 - (s : Int)) = p) (ho : (x.st s).owed = false) :
    Calls Try.prog 33 #[.pointer (some ⟨g.m s, 0, none⟩), .int .i64 p] w fun e w' => e = .returned (.tuple #[.agg (akC ⟨0, 0, 0, 0⟩ 0), .bool false]) ∧ St (fun _ => False) w w' := by
  subst hp
  exact owed_no _ (g.m s) (g.sb s) (g.X s) _ (x.st s) w (h.mux s hs) (h.isX s hs).2.2.2 (h.str s hs) ho
/-- Whatever frame of the other side: Take. -/
theorem WireAt.take_ (h : WireAt w o wb W Sp g x) (hI : Inv W Sp n x) (hn : n ≤ 5000) {s t : Nat} (hst : s + t = 1) {p : Int} (hp : 2 + 3 * (1 - (t : Int)) = p) {f : Int × List Int} (hf : f ∈ x.F s) {v : Value} (hb : Bod w v f.2) :
    Calls Try.prog 28 #[.pointer (some ⟨g.m t, 0, none⟩), .int .i64 p, .agg (frC tg f.1 v)] w fun e w' => ∃ v', e = .returned (.tuple #[v', .int .i64 0]) ∧ BRow w' (fun q => w.heap.size ≤ q) v' (takeO (x.st t) f.1 f.2) ∧
      WStep w o wb W Sp g { x with st := upd x.st t (takeS (x.st t) f.1 f.2) } w' := by
  subst hp
  have ht : t < 2 := by omega
  obtain ⟨a, b, c⟩ := h.nums
  obtain ⟨p', q', hh⟩ := hI s t hst
  obtain ⟨j, h1, h2, h3⟩ := hh.fr f hf
  have hlen := hh.len f.2 (List.mem_of_getElem? h3)
  have hjP := (List.getElem?_eq_some_iff.1 h3).1
  have hcP := hh.cP
  have hbn := hh.bn
  have hpq := hh.pq
  have hel := hh.el
  have hfit := hI.fits hn (by omega) c ht
  obtain ⟨A, cv, rfl, _, _⟩ := hb.val
  have hWd : (g.X t).window = W := (h.isX t ht).1
  have key : Calls Try.prog 28 #[.pointer (some ⟨g.m t, 0, none⟩), .int .i64 (2 + 3 * (1 - (t : Int))), .agg (frC tg f.1 (.slice A f.2.length cv))] w (TakeP (fun q => o q = 3 + t) (g.sb t) (x.st t) f.1 f.2 w) := by
    rw [← (h.isX t ht).2.2.1]
    by_cases hhas : hasB (x.st t) f.1 = true
    · exact take_has _ (g.m t) (g.sb t) (g.X t) _ (x.st t) f.1 A cv f.2 w (h.mux t ht) (h.isX t ht).2.2.2 (h.str t ht) hfit hb hlen.1 (by omega) (by omega) (by omega) (by rw [hWd]; omega) (by rw [hWd]; exact hel) hhas
    · have hge : (x.st t).next ≤ f.1 := by
        rcases Int.lt_or_le f.1 (x.st t).next with hlt | hge
        · exfalso; apply hhas; unfold hasB; rw [if_pos hlt]
        · exact hge
      have e1 : f.1 = (x.st t).next + ((f.1 - (x.st t).next).toNat : Int) := by omega
      rw [e1] at hhas ⊢
      exact take_miss _ (g.m t) (g.sb t) (g.X t) _ (x.st t) _ A cv f.2 w (h.mux t ht) (h.isX t ht).2.2.2 (h.str t ht) hfit hb hlen.1 (by omega) (by omega) (by omega) (by rw [hWd]; omega) (by rw [hWd]; exact hel) (by simpa using hhas)
  refine key.mono fun e w' hp => ?_
  obtain ⟨v', he, hr, hs', hz⟩ := hp
  exact ⟨v', he, hr, h.stream ht hs' (hz.mono fun q hq => .inl hq)⟩
/-- Whatever ack of the other side: Acked. -/
theorem WireAt.acked (h : WireAt w o wb W Sp g x) (hI : Inv W Sp n x) (hn : n ≤ 5000) {s t : Nat} (hst : s + t = 1) {p : Int} (hp : 2 + 3 * (1 - (t : Int)) = p) {u : Int} (hu : u ∈ x.A s) :
    Calls Try.prog 29 #[.pointer (some ⟨g.m t, 0, none⟩), .int .i64 p, .agg (akC tg u)] w fun e w' => e = .returned (.int .i64 0) ∧ WStep w o wb W Sp g (answerU x t u) w' := by
  subst hp
  have ht : t < 2 := by omega
  obtain ⟨a, b, c⟩ := h.nums
  obtain ⟨p', q', hh⟩ := hI t s (by omega)
  obtain ⟨j, h1, h2⟩ := hh.ak u hu
  have hqP := hh.qP
  have hcP := hh.cP
  have haf := hh.af
  have hol := hh.outLen
  have hqW := hh.qW
  have hfit := hI.fits hn (by omega) c ht
  have hWd : (g.X t).window = W := (h.isX t ht).1
  have key : Calls Try.prog 29 #[.pointer (some ⟨g.m t, 0, none⟩), .int .i64 (2 + 3 * (1 - (t : Int))), .agg (akC tg u)] w (AckP (fun q => o q = 3 + t) (g.sb t) (x.st t) u w) := by
    rw [← (h.isX t ht).2.2.1]
    by_cases hlt : u < (x.st t).first
    · exact acked_old _ (g.m t) (g.sb t) (g.X t) _ (x.st t) u w (h.mux t ht) (h.isX t ht).2.2.2 (h.str t ht) hfit (by omega) (by omega) hlt
    · have e1 : u = (x.st t).first + ((u - (x.st t).first + 1).toNat : Int) - 1 := by omega
      rw [e1]
      exact acked_new _ (g.m t) (g.sb t) (g.X t) _ (x.st t) _ w (h.mux t ht) (h.isX t ht).2.2.2 (h.str t ht) hfit (by omega) (by omega) (by omega) (by rw [hWd]; omega)
  exact key.mono fun e w' ⟨he, hs', hz⟩ => ⟨he, h.stream ht hs' hz⟩
end
theorem cell_alloc {w : World} {a : Addr} {v : Value} (h : w.cell? a = some v) (o : Obj) : (w.alloc o).cell? a = some v := (World.cell?_alloc_lt w o a (World.block_lt_of_cell? w a h)).trans h
theorem cell_set {w : World} {p a : Addr} {u v : Value} (hne : a.block ≠ p.block) (h : w.cell? a = some v) : (w.setCell p u).cell? a = some v :=
  (World.cell?_setCell_other w p a u (fun e => hne (by rw [e]))).trans h
theorem WireAt.off {w w' : World} {o : Nat → Nat} {wb W Sp : Nat} {g : Gw} {x : Wr} (h : WireAt w o wb W Sp g x) (hs : St (fun q => o q = 0) w w') : WireAt w' o wb W Sp g x :=
  ⟨h.head.st hs (by rw [h.ohead]; omega), h.ohead, fun s h2 => (h.mux s h2).st hs (by rw [(h.omux s h2).1]; omega) (by rw [(h.omux s h2).2]; omega), h.omux, h.isX, fun s h2 => (h.str s h2).far hs (fun _ _ e => by omega),
    fun k s hk h2 => (h.row k s hk h2).far hs (fun _ _ e => by omega), fun q hq => h.lim q (Nat.le_trans hs.size hq)⟩
theorem WStep.cellM {w w' : World} {o : Nat → Nat} {wb W Sp : Nat} {g : Gw} {x : Wr} (h : WStep w o wb W Sp g x w') (s : Nat) (hs : s < 2) : w'.cell? ⟨wb, s, none⟩ = some (.pointer (some ⟨g.m s, 0, none⟩)) := by
  obtain ⟨o', g', a, b, c, d, e, f⟩ := h
  rw [← d]
  exact a.cellM s hs
theorem WStep.blk {w w' : World} {o : Nat → Nat} {wb W Sp : Nat} {g : Gw} {x : Wr} (h : WStep w o wb W Sp g x w') {b : Nat} {t : TypeId} {cs : Array Value} (hb : Blk w b t cs) (ho : o b = 0) : Blk w' b t cs := by
  obtain ⟨o', g', _, hst, _⟩ := h
  exact hb.st hst (fun e => e ho)
/-- A wire's step, and a box of an ack beside it. -/
def OweC (w : World) (o : Nat → Nat) (wb W Sp : Nat) (g : Gw) (x : Wr) (u : Int) (fl : Bool) (s5 s6 : Value) (wx : World) : Prop :=
  ∃ b, s5 = .pointer (some ⟨b, 0, none⟩) ∧ s6 = .bool fl ∧ Blk wx b 60 #[.int .i64 3, .int .i64 2, .int .i64 4, .int .i64 9, .int .i64 u] ∧
    ∃ o' g', WireAt wx o' wb W Sp g' x ∧ St (fun q => o q ≠ 0) w wx ∧ (∀ q, q < w.heap.size → o' q = o q) ∧ g'.m = g.m ∧ g'.X = g.X ∧ g'.sb = g.sb ∧ o' b = 0
section
variable {w w1 : World} {o : Nat → Nat} {wb W Sp : Nat} {g : Gw} {x y : Wr} {u : Int} {fl : Bool}
theorem OweC.late (h0 : WireAt w o wb W Sp g y) (h : WStep w.drew o wb W Sp g x w1) : OweC w o wb W Sp g x u fl (.pointer (some ⟨w1.heap.size, 0, none⟩)) (.bool fl) (w1.alloc (.cells #[.int .i64 3, .int .i64 2, .int .i64 4, .int .i64 9, .int .i64 u] 60)) := by
  obtain ⟨o', g', a, b, c, d, e, f⟩ := h
  have b' : St (fun q => o q ≠ 0) w w1 := ⟨⟨b.only.os, b.only.tape, b.only.output, b.only.size, b.only.block⟩, b.byt⟩
  exact ⟨_, rfl, rfl, Blk.new _ _ _, o', g', a.quiet ((St.refl _ w1).alloc _), b'.alloc _, c, d, e, f, a.lim _ (Nat.le_refl _)⟩
theorem OweC.early (h0 : WireAt w o wb W Sp g y) {z : Array Value} (h : WStep (w.alloc (.cells z 60)).drew o wb W Sp g x w1) {a0 a1 a2 a3 a4 : Value} (hz : z = #[a0, a1, a2, a3, a4]) :
    OweC w o wb W Sp g x u fl (.pointer (some ⟨w.heap.size, 0, none⟩)) (.bool fl) (((((w1.setCell ⟨w.heap.size, 0, none⟩ (.int .i64 3)).setCell ⟨w.heap.size, 1, none⟩ (.int .i64 2)).setCell ⟨w.heap.size, 2, none⟩ (.int .i64 4)).setCell ⟨w.heap.size, 3, none⟩ (.int .i64 9)).setCell ⟨w.heap.size, 4, none⟩ (.int .i64 u)) := by
  have hob : o w.heap.size = 0 := h0.lim _ (Nat.le_refl _)
  have hb := h.blk (Blk.drew (Blk.new w 60 z)) hob
  obtain ⟨o', g', a, b, c, d, e, f⟩ := h
  rw [hz] at hb
  have hb0 : o' w.heap.size = 0 := (c _ (by simp [World.drew])).trans hob
  obtain ⟨b5, s5⟩ := box5 (S := fun q => o' q = 0) (u0 := .int .i64 3) (u1 := .int .i64 2) (u2 := .int .i64 4) (u3 := .int .i64 9) (u4 := .int .i64 u) (St.refl _ w1) hb (by decide) (fun _ => hb0)
  have hw1 : St (fun q => o q ≠ 0) w w1 := ((St.refl _ w).alloc _).drew.trans b
  obtain ⟨b6, s6⟩ := box5 (S := fun q => o q ≠ 0) (u0 := .int .i64 3) (u1 := .int .i64 2) (u2 := .int .i64 4) (u3 := .int .i64 9) (u4 := .int .i64 u) hw1 hb (by decide) (fun hlt => absurd hlt (Nat.lt_irrefl _))
  exact ⟨_, rfl, rfl, b5, o', g', a.off s5, s6, fun q hq => c q (by simp [World.drew]; omega), d, e, f, hb0⟩
end
/-- A box of no ack. -/
def OweZ (w : World) (s5 s6 : Value) (wx : World) : Prop :=
  ∃ b, s5 = .pointer (some ⟨b, 0, none⟩) ∧ s6 = .bool false ∧ Blk wx b 60 #[.int .i64 0, .int .i64 0, .int .i64 0, .int .i64 0, .int .i64 0] ∧ St (fun _ => False) w wx
section
variable {w w1 : World}
theorem OweZ.late (h : St (fun _ => False) w.drew w1) : OweZ w (.pointer (some ⟨w1.heap.size, 0, none⟩)) (.bool false) (w1.alloc (.cells #[.int .i64 0, .int .i64 0, .int .i64 0, .int .i64 0, .int .i64 0] 60)) :=
  ⟨_, rfl, rfl, Blk.new _ _ _, ((St.refl _ w).drew.trans h).alloc _⟩
theorem OweZ.early (h : St (fun _ => False) (w.alloc (.cells #[.int .i64 0, .int .i64 0, .int .i64 0, .int .i64 0, .int .i64 0] 60)).drew w1) :
    OweZ w (.pointer (some ⟨w.heap.size, 0, none⟩)) (.bool false) (((((w1.setCell ⟨w.heap.size, 0, none⟩ (.int .i64 0)).setCell ⟨w.heap.size, 1, none⟩ (.int .i64 0)).setCell ⟨w.heap.size, 2, none⟩ (.int .i64 0)).setCell ⟨w.heap.size, 3, none⟩ (.int .i64 0)).setCell ⟨w.heap.size, 4, none⟩ (.int .i64 0)) := by
  have hb := (Blk.drew (Blk.new w 60 #[.int .i64 0, .int .i64 0, .int .i64 0, .int .i64 0, .int .i64 0])).st h (fun e => e)
  obtain ⟨b6, s6⟩ := box5 (S := fun _ => False) (u0 := .int .i64 0) (u1 := .int .i64 0) (u2 := .int .i64 0) (u3 := .int .i64 0) (u4 := .int .i64 0) (((St.refl _ w).alloc _).drew.trans h) hb (by decide) (fun hlt => absurd hlt (Nat.lt_irrefl _))
  exact ⟨_, rfl, rfl, b6, s6⟩
end
theorem info60z : (Try.prog.info? 60).map (fun i => (i.zero, i.size, i.bytes)) = some (some (.agg #[.int .i64 0, .int .i64 0, .int .i64 0, .int .i64 0, .int .i64 0]), 5, 40) := by kernel_rfl
theorem rows_A {x y : Wr} {s : Nat} (h1 : y.P = x.P) (h2 : y.O = x.O) (h3 : y.F = x.F) (h4 : ∀ k, k ≠ s → y.A k = x.A k) :
    ∀ k' s', k' < 4 → s' < 2 → ¬ (k' = 3 ∧ s' = s) → ∀ w S v, RowIs w S x k' s' v → RowIs w S y k' s' v := by
  intro k' s' hk hs hne w S v hr
  match k', hk, hr with
  | 0, _, hr => show BRow w S v (y.P s'); rw [h1]; exact hr
  | 1, _, hr => show BRow w S v (y.O s'); rw [h2]; exact hr
  | 2, _, hr => show FRow w S v (frs (y.F s')); rw [h3]; exact hr
  | 3, _, hr => show ARow w S v (y.A s'); rw [h4 s' (by omega)]; exact hr
theorem oweS_owed (x : Wr) (s : Nat) : ((oweS x s).st s).owed = false := by
  unfold oweS
  split
  · have e : (upd x.st s { x.st s with owed := false } s).owed = false := by rw [upd_same]
    exact e
  · rename_i h
    simpa using h
end Go.Proofs.Ytkkckinnhkpcmaa
