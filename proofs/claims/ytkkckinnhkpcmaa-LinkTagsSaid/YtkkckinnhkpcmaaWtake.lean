/-
  Take by contract at the wire; what comes out, one by one; whom a number picks.
-/
import Derived.Test.YtkkckinnhkpcmaaWowe
set_option linter.unusedVariables false
namespace Go.Proofs.Ytkkckinnhkpcmaa
open Go.RowKit Go.WideShapes Go.ChangeShapes Q

section
variable {w : World} {o : Nat → Nat} {wb W Sp n : Nat} {g : Gw} {x : Wr}
theorem WireAt.stream0 {w' : World} (h : WireAt w o wb W Sp g x) {s : Nat} (hs : s < 2) (st : St (fun q => o q = 3 + s) w w') {z : Str}
    (hz : StreamAt w' (fun q => o q = 3 + s) (g.sb s) z) : WireAt w' o wb W Sp g { x with st := upd x.st s z } := by
  refine ⟨h.head.st st (by rw [h.ohead]; omega), h.ohead, fun s' h2 => (h.mux s' h2).st st (by rw [(h.omux s' h2).1]; omega) (by rw [(h.omux s' h2).2]; omega), h.omux, h.isX, fun s' h2 => ?_, fun k s' hk h2 => ?_, fun q hq => h.lim q (Nat.le_trans st.size hq)⟩
  · by_cases e : s' = s
    · subst e
      show StreamAt w' _ (g.sb s') (upd x.st s' z s')
      rw [upd_same]
      exact hz
    · show StreamAt w' _ (g.sb s') (upd x.st s z s')
      rw [upd_ne _ _ _ _ e]
      exact (h.str s' h2).far st fun q hq => by omega
  · have := (h.row k s' hk h2).far st fun q hq => by omega
    match k, hk, this with
    | 0, _, t => exact t
    | 1, _, t => exact t
    | 2, _, t => exact t
    | 3, _, t => exact t
/-- Whatever frame of the other side: Take. -/
theorem WireAt.take2 (h : WireAt w o wb W Sp g x) (hI : Inv W Sp n x) (hn : n ≤ 5000) {s t : Nat} (hst : s + t = 1) {p : Int} (hp : 2 + 3 * (1 - (t : Int)) = p) {f : Int × List Int} (hf : f ∈ x.F s) {v : Value} (hb : Bod w v f.2) :
    Calls Try.prog 28 #[.pointer (some ⟨g.m t, 0, none⟩), .int .i64 p, .agg (frC tg f.1 v)] w fun e w' => ∃ v', e = .returned (.tuple #[v', .int .i64 0]) ∧ BRow w' (fun q => o q = 0) v' (takeO (x.st t) f.1 f.2) ∧
      WireAt w' o wb W Sp g { x with st := upd x.st t (takeS (x.st t) f.1 f.2) } ∧ St (fun q => o q ≠ 0) w w' := by
  subst hp
  have ht : t < 2 := by omega
  obtain ⟨a, b, c⟩ := h.nums
  obtain ⟨p', q', hh⟩ := hI s t hst
  obtain ⟨j, h1, h2, h3⟩ := hh.fr f hf
  have hlen := hh.len f.2 (List.mem_of_getElem? h3)
  have hjP := (List.getElem?_eq_some_iff.1 h3).1
  have hcP := hh.cP
  have hbn := hh.bn
  have hpq := hh.pq
  have hel := hh.el
  have hfit := hI.fits hn (by omega) c ht
  obtain ⟨A, cv, rfl, _, _⟩ := hb.val
  have hWd : (g.X t).window = W := (h.isX t ht).1
  have key : Calls Try.prog 28 #[.pointer (some ⟨g.m t, 0, none⟩), .int .i64 (2 + 3 * (1 - (t : Int))), .agg (frC tg f.1 (.slice A f.2.length cv))] w (TakeP (fun q => o q = 3 + t) (g.sb t) (x.st t) f.1 f.2 w) := by
    rw [← (h.isX t ht).2.2.1]
    by_cases hhas : hasB (x.st t) f.1 = true
    · exact take_has _ (g.m t) (g.sb t) (g.X t) _ (x.st t) f.1 A cv f.2 w (h.mux t ht) (h.isX t ht).2.2.2 (h.str t ht) hfit hb hlen.1 (by omega) (by omega) (by omega) (by rw [hWd]; omega) (by rw [hWd]; exact hel) hhas
    · have hge : (x.st t).next ≤ f.1 := by
        rcases Int.lt_or_le f.1 (x.st t).next with hlt | hge
        · exfalso; apply hhas; unfold hasB; rw [if_pos hlt]
        · exact hge
      have e1 : f.1 = (x.st t).next + ((f.1 - (x.st t).next).toNat : Int) := by omega
      rw [e1] at hhas ⊢
      exact take_miss _ (g.m t) (g.sb t) (g.X t) _ (x.st t) _ A cv f.2 w (h.mux t ht) (h.isX t ht).2.2.2 (h.str t ht) hfit hb hlen.1 (by omega) (by omega) (by omega) (by rw [hWd]; omega) (by rw [hWd]; exact hel) (by simpa using hhas)
  refine key.mono fun e w' hp => ?_
  obtain ⟨v', he, hr, hs', hz⟩ := hp
  exact ⟨v', he, hr.mono (fun q hq => h.lim q hq), h.stream0 ht hs' hz, hs'.mono fun q _ e => by omega⟩
end
/-- The first k of what comes out lie with the rest. -/
def outK (x1 : Wr) (t : Nat) (os : List (List Int)) (k : Nat) : Wr := { x1 with O := upd x1.O t (x1.O t ++ os.take k) }
theorem outK_0 (x1 : Wr) (t : Nat) (os : List (List Int)) : outK x1 t os 0 = x1 := by
  have e : upd x1.O t (x1.O t ++ os.take 0) = x1.O := by
    funext k
    by_cases h : k = t
    · subst h; rw [upd_same]; simp
    · rw [upd_ne _ _ _ _ h]
  unfold outK
  rw [e]
theorem outK_O (x1 : Wr) (t : Nat) (os : List (List Int)) (k : Nat) : (outK x1 t os k).O t = x1.O t ++ os.take k := upd_same _ _ _
theorem rows_O {x y : Wr} {s : Nat} (h1 : y.P = x.P) (h2 : y.F = x.F) (h3 : y.A = x.A) (h4 : ∀ k, k ≠ s → y.O k = x.O k) :
    ∀ k' s', k' < 4 → s' < 2 → ¬ (k' = 1 ∧ s' = s) → ∀ w S v, RowIs w S x k' s' v → RowIs w S y k' s' v := by
  intro k' s' hk hs hne w S v hr
  match k', hk, hr with
  | 0, _, hr => show BRow w S v (y.P s'); rw [h1]; exact hr
  | 1, _, hr => show BRow w S v (y.O s'); rw [h4 s' (by omega)]; exact hr
  | 2, _, hr => show FRow w S v (frs (y.F s')); rw [h2]; exact hr
  | 3, _, hr => show ARow w S v (y.A s'); rw [h3]; exact hr
/-- A body in its row. -/
theorem BRow.at_ {w : World} {S : Nat → Prop} {v : Value} {xs : List (List Int)} (h : BRow w S v xs) {k : Nat} (hk : k < xs.length) {y : List Int} (hy : xs[k]? = some y) :
    ∃ gl cap u, v = .slice (some ⟨gl, 0, none⟩) xs.length cap ∧ xs.length ≤ cap ∧ S gl ∧ Bod w u y ∧ w.cell? ⟨gl, k, none⟩ = some u := by
  obtain ⟨vs, h1, h2, h3⟩ := h
  have hvl := h2.1
  have hvk : vs[k]? = some (vs[k]'(by omega)) := List.getElem?_eq_getElem (by omega)
  rcases h1.2 with ⟨_, e⟩ | ⟨g, cap, cur, e, _, hh, hc, _⟩
  · omega
  · refine ⟨g, cap, _, e, by omega, h3 g (by rw [e]; rfl), h2.2 k _ y hvk hy, ?_⟩
    have hcs := h1.cells (g := g) (by rw [e]; rfl) k _ hvk
    rwa [addr0] at hcs
theorem absZ_nonneg (n : Int) : 0 ≤ absZ n := by unfold absZ; split <;> omega
theorem absZ_le {n : Int} (h0 : -9223372036854775808 ≤ n) (h1 : n ≤ 9223372036854775807) : absZ n ≤ 9223372036854775807 := by unfold absZ; split <;> omega
/-- Whom a number picks. -/
theorem pick_at {α : Type} (l : List α) (n : Int) (hl : l.length ≠ 0) : ∃ j a, j < l.length ∧ absZ n % (l.length : Int) = (j : Int) ∧ l[j]? = some a ∧ pick l n = some a := by
  have h0 := absZ_nonneg n
  have h1 : 0 ≤ absZ n % (l.length : Int) := Int.emod_nonneg _ (by omega)
  have h2 : absZ n % (l.length : Int) < (l.length : Int) := Int.emod_lt_of_pos _ (by omega)
  refine ⟨(absZ n % (l.length : Int)).toNat, l[(absZ n % (l.length : Int)).toNat]'(by omega), by omega, by omega, List.getElem?_eq_getElem (by omega), ?_⟩
  unfold pick
  exact List.getElem?_eq_getElem (by omega)
theorem pick_none {α : Type} (l : List α) (n : Int) (hl : l.length = 0) : pick l n = none := by
  unfold pick
  exact List.getElem?_eq_none (by omega)
/-- A frame is chosen: its box. -/
def BoxF (w : World) (o : Nat → Nat) (f : Int) (v : Value) (s7 : Value) (wx : World) : Prop :=
  ∃ b, s7 = .pointer (some ⟨b, 0, none⟩) ∧ Blk wx b 57 #[.int .i64 3, .int .i64 2, .int .i64 4, .int .i64 9, .int .i64 f, v] ∧ St (fun _ => False) w wx ∧ o b = 0
/-- An ack is chosen: its box. -/
def BoxA (w : World) (u : Int) (s7 : Value) (wx : World) : Prop :=
  ∃ b, s7 = .pointer (some ⟨b, 0, none⟩) ∧ Blk wx b 60 #[.int .i64 3, .int .i64 2, .int .i64 4, .int .i64 9, .int .i64 u] ∧ St (fun _ => False) w wx
end Go.Proofs.Ytkkckinnhkpcmaa
