/-
  Two wires side by side: no block is both's; each one's step leaves the other.
-/
import Derived.Test.YtkkckinnhkpcmaaTurnN
import Derived.Test.YtkkckinnhkpcmaaRefuse
import Derived.Test.YtkkckinnhkpcmaaSlists
set_option linter.unusedVariables false
set_option linter.unusedSimpArgs false
namespace Go.Proofs.Ytkkckinnhkpcmaa
open Go.RowKit Go.WideShapes Go.ChangeShapes Q

/-- Two wires that the call has made. -/
def Two (w : World) (wb vb W Sp : Nat) (x y : Wr) (wr : World) : Prop :=
  ∃ o g o2 g2, WireAt wr o wb W Sp g x ∧ WireAt wr o2 vb W Sp g2 y ∧ St (fun _ => False) w wr ∧ (∀ q, q < w.heap.size → o q = 0 ∧ o2 q = 0) ∧ ∀ q, o q = 0 ∨ o2 q = 0
section
variable {w wr w' : World} {wb vb W Sp n : Nat} {x x' y : Wr} {o o2 : Nat → Nat} {g g2 : Gw}
theorem Two.swap (h : Two w wb vb W Sp x y wr) : Two w vb wb W Sp y x wr := by
  obtain ⟨o, g, o2, g2, a, b, c, d, e⟩ := h
  exact ⟨o2, g2, o, g, b, a, c, fun q hq => ⟨(d q hq).2, (d q hq).1⟩, fun q => (e q).symm⟩
theorem Two.quiet (h : Two w wb vb W Sp x y wr) (hs : St (fun _ => False) wr w') : Two w wb vb W Sp x y w' := by
  obtain ⟨o, g, o2, g2, a, b, c, d, e⟩ := h
  exact ⟨o, g, o2, g2, a.quiet hs, b.quiet hs, c.trans hs, d, e⟩
theorem Two.st (h : Two w wb vb W Sp x y wr) : St (fun _ => False) w wr := by
  obtain ⟨o, g, o2, g2, a, b, c, d, e⟩ := h
  exact c
theorem two_step (hA : WireAt wr o wb W Sp g x) (hB : WireAt wr o2 vb W Sp g2 y) (hst : St (fun _ => False) w wr) (hown : ∀ q, q < w.heap.size → o q = 0 ∧ o2 q = 0) (hd : ∀ q, o q = 0 ∨ o2 q = 0) (h : WStep wr o wb W Sp g x' w') : Two w wb vb W Sp x' y w' := by
  obtain ⟨o', g', a, b, c, _⟩ := h
  refine ⟨o', g', o2, g2, a, hB.off (b.mono fun q _ hq => (hd q).resolve_left hq), hst.trans' b fun q hq hn => hn (hown q hq).1, fun q hq => ⟨(c q (Nat.lt_of_lt_of_le hq hst.size)).trans (hown q hq).1, (hown q hq).2⟩, fun q => ?_⟩
  rcases Nat.lt_or_ge q wr.heap.size with hq | hq
  · rw [c q hq]; exact hd q
  · exact .inr (hB.lim q hq)
theorem Two.act (h : Two w wb vb W Sp x y wr) (hI : Inv W Sp n x) (hn : n < 5000) (hW5 : W ≤ 5) {a : Ai} (hg : a.Good w) :
    Calls Try.prog 26 #[.pointer (some ⟨wb, 0, none⟩), .agg #[.int .i64 a.a.side, .int .i64 a.a.kind, .int .i64 a.a.n, .slice a.A a.a.bs.length a.c]] wr fun e w' => e = .returned (.bool true) ∧ Two w wb vb W Sp (actS W Sp x a.a) y w' := by
  obtain ⟨o, g, o2, g2, hA, hB, hst, ho, hd⟩ := h
  have hg' := hg.st hst
  refine (wact wr o wb W Sp n g x a.a a.A a.c hA hI hn hW5 hg'.s0 hg'.s1 hg'.n0 hg'.n1 hg'.body hg'.cap hg'.fits fun hp ad e => ?_).mono fun e w' hh => ⟨hh.1, two_step hA hB hst ho hd hh.2⟩
  obtain ⟨ad', e', hb', _⟩ := hg.body.2 hp
  rw [e] at e'
  injection e' with e'
  subst e'
  exact (ho _ hb').1
theorem Two.turn (h : Two w wb vb W Sp x y wr) (hI : Inv W Sp n x) (hn : n + 10 < 5000) (hW5 : W ≤ 5) :
    Calls Try.prog 22 #[.pointer (some ⟨wb, 0, none⟩)] wr fun e w' => e = .returned (.bool true) ∧ Two w wb vb W Sp (turnS W x) y w' := by
  obtain ⟨o, g, o2, g2, hA, hB, hst, ho, hd⟩ := h
  refine (turnN_any wr wr (fun q => o2 q ≠ 0 ∨ q < w.heap.size) wb W Sp n x ⟨o, g, hA, St.refl _ wr, fun q hq hN => ?_⟩ hI hn hW5).mono ?_
  · rcases hN with hN | hN
    · exact (hd q).resolve_right hN
    · exact (ho q hN).1
  · rintro e w' ⟨rfl, o', g', a, b, c⟩
    refine ⟨rfl, o', g', o2, g2, a, hB.off (b.mono fun q _ hq => ?_), hst.trans' b fun q hq hn => hn (.inr hq), fun q hq => ⟨c q (Nat.lt_of_lt_of_le hq hst.size) (.inr hq), (ho q hq).2⟩, fun q => ?_⟩
    · rcases Nat.eq_zero_or_pos (o2 q) with h0 | h0
      · exact h0
      · exact absurd (.inl (by omega)) hq
    · rcases Nat.lt_or_ge q wr.heap.size with hq | hq
      · rcases Nat.eq_zero_or_pos (o2 q) with h0 | h0
        · exact .inr h0
        · exact .inl (c q hq (.inl (by omega)))
      · exact .inr (hB.lim q hq)
/-- A piece of one byte that lies in a block of nobody's is pushed. -/
theorem WireAt.pushOne (hA : WireAt wr o wb W Sp g x) (hI : Inv W Sp n x) (hn : n < 5000) {b : Nat} {z : Int} (hb : Blk wr b 5 #[.int .u8 z]) (hob : o b = 0) :
    Calls Try.prog 17 #[.pointer (some ⟨wb, 0, none⟩), .int .i64 0, .slice (some ⟨b, 0, none⟩) 1 1] wr fun e w' => e = .returned (.bool true) ∧ WStep wr o wb W Sp g (pushS Sp x 0 [z]) w' := by
  have hr : Reads wr wr.heap.size 1 (some ⟨b, 0, none⟩) 1 (byts [z]) := reads_blk (cs := byts [z]) hb (Nat.le_refl 1)
  exact hA.push' hI hn (s := 0) (by omega) (bs := [z]) (A := some ⟨b, 0, none⟩) hr (Nat.le_refl _) (by decide) (fun _ ad e => by injection e with e; rw [← e]; exact hob)
/-- What bears another tag is refused. -/
theorem WireAt.takeT (hA : WireAt wr o wb W Sp g x) {s : Nat} (hs : s < 2) {p : Int} (hp : 2 + 3 * (1 - (s : Int)) = p) {ea eb ec ed : Int} (ht : (⟨ea, eb, ec, ed⟩ : Tg) ≠ tg) (k : Int) (A : Option Addr) (m c : Nat) :
    Calls Try.prog 28 #[.pointer (some ⟨g.m s, 0, none⟩), .int .i64 p, .agg #[.int .i64 ea, .int .i64 eb, .int .i64 ec, .int .i64 ed, .int .i64 k, .slice A m c]] wr fun e w' => (∃ z : Int, (z = 1 ∨ z = 40) ∧ e = .returned (.tuple #[.slice none 0 0, .int .i64 z])) ∧ St (fun _ => False) wr w' := by
  subst hp
  refine (take_tag (g.m s) (g.sb s) (g.X s) _ ea eb ec ed k A m c wr (hA.mux s hs) (hA.isX s hs).2.2.2 (by rw [(hA.isX s hs).2.2.1]; exact ht)).mono fun e w' hh => ⟨?_, hh.2⟩
  rcases hh.1 with e | e
  · exact ⟨1, .inl rfl, e⟩
  · exact ⟨40, .inr rfl, e⟩
theorem WireAt.ackedT (hA : WireAt wr o wb W Sp g x) {s : Nat} (hs : s < 2) {p : Int} (hp : 2 + 3 * (1 - (s : Int)) = p) {ea eb ec ed : Int} (ht : (⟨ea, eb, ec, ed⟩ : Tg) ≠ tg) (k : Int) :
    Calls Try.prog 29 #[.pointer (some ⟨g.m s, 0, none⟩), .int .i64 p, .agg #[.int .i64 ea, .int .i64 eb, .int .i64 ec, .int .i64 ed, .int .i64 k]] wr fun e w' => (∃ z : Int, (z = 1 ∨ z = 40) ∧ e = .returned (.int .i64 z)) ∧ St (fun _ => False) wr w' := by
  subst hp
  refine (acked_tag (g.m s) (g.sb s) (g.X s) _ ea eb ec ed k wr (hA.mux s hs) (hA.isX s hs).2.2.2 (by rw [(hA.isX s hs).2.2.1]; exact ht)).mono fun e w' hh => ⟨?_, hh.2⟩
  rcases hh.1 with e | e
  · exact ⟨1, .inl rfl, e⟩
  · exact ⟨40, .inr rfl, e⟩
/-- What came out at a side of each is one. -/
theorem Two.lists (hA : WireAt wr o wb W Sp g x) (hB : WireAt wr o2 vb W Sp g2 x) (hI : Inv W Sp n x) (hn : n ≤ 5000) {s : Nat} (hs : s < 2) :
    ∃ A c A' c', g.row 1 s = .slice A (x.O s).length c ∧ g2.row 1 s = .slice A' (x.O s).length c' ∧ Hid (∀ m, Calls Try.prog 23 #[.slice A (x.O s).length c, .slice A' (x.O s).length c'] (wr.drewN m) fun e w' => e = .returned (.bool true) ∧ ∃ k, w' = (wr.drewN m).drewN k) := by
  obtain ⟨p, q, hh⟩ := hI (1 - s) s (by omega)
  have hoq := hh.oq
  have hqP := hh.qP
  have hcP := hh.cP
  have hol := hh.oLen
  have hO : BRow wr _ (g.row 1 s) (x.O s) := hA.row 1 s (by omega) hs
  have hO' : BRow wr _ (g2.row 1 s) (x.O s) := hB.row 1 s (by omega) hs
  obtain ⟨A, c, _, e, _⟩ := hO.val
  obtain ⟨A', c', _, e', _⟩ := hO'.val
  refine ⟨A, c, A', c', e, e', fun m => ?_⟩
  have hd : St (fun _ => False) wr (wr.drewN m) := (St.refl _ wr).drewN m
  have hh2 := lists_any _ _ _ (wr.drewN m) _ _ (hO.far hd fun _ _ e => e) (hO'.far hd fun _ _ e => e) (fun y hy => ?_) (by omega)
  · rw [e, e'] at hh2
    exact hh2
  · rw [hoq] at hy
    have := (hh.len y (List.mem_of_mem_take hy)).2
    omega
/-- A step leaves bytes as they were. -/
theorem WStep.byt5 (h : WStep wr o wb W Sp g x w') {b : Nat} {cs : Array Value} (hb : Blk wr b 5 cs) : Blk w' b 5 cs := by
  obtain ⟨o', g', a, c, _⟩ := h
  exact c.byt _ _ hb
/-- Each has taken a step. -/
theorem two_both {V w1 V1 w2 : World} (hA : WireAt wr o wb W Sp g x) (hB : WireAt wr o2 vb W Sp g2 x) (hst : St (fun _ => False) w wr) (hown : ∀ q, q < w.heap.size → o q = 0 ∧ o2 q = 0) (hd : ∀ q, o q = 0 ∨ o2 q = 0)
    (hV : St (fun _ => False) wr V) (h1 : WStep V o wb W Sp g x' w1) (hV1 : St (fun _ => False) w1 V1) (h2 : WStep V1 o2 vb W Sp g2 y w2) : Two w wb vb W Sp x' y w2 := by
  obtain ⟨o', g', a, b, c, _⟩ := h1
  have hBV := hB.quiet hV
  have hB1 := (hBV.off (b.mono fun q _ hq => (hd q).resolve_left hq)).quiet hV1
  have hs1 : St (fun _ => False) w w1 := (hst.trans hV).trans' b fun q hq hn => hn (hown q hq).1
  refine (two_step hB1 (a.quiet hV1) (hs1.trans hV1) (fun q hq => ⟨(hown q hq).2, (c q ?_).trans (hown q hq).1⟩) (fun q => ?_) h2).swap
  · exact Nat.lt_of_lt_of_le hq (hst.trans hV).size
  · rcases Nat.lt_or_ge q V.heap.size with hq | hq
    · rw [c q hq]; exact (hd q).symm
    · exact .inl (hBV.lim q hq)
end
end Go.Proofs.Ytkkckinnhkpcmaa
