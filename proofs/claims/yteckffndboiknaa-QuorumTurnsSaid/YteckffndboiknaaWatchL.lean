/-
  QuorumWatch, the walk.
-/
import Derived.Test.YteckffndboiknaaWatched
set_option linter.unusedVariables false
namespace Go.Proofs.Yteckffndboiknaa
open Go.RowKit Go.WideShapes Go.ChangeShapes Q

def ocells (l : List Oe) : List Value := l.flatMap Oe.cells
theorem ocells_len (L : List Oe) : (ocells L).length = L.length * 6 := by
  induction L with
  | nil => rfl
  | cons a l ih => simp [ocells, Oe.cells, Ve.cells] at ih ⊢; omega
theorem ocells_at : ∀ (L : List Oe) (k : Nat) (h : k < L.length), (ocells L)[k * 6]? = some (.int .i64 L[k].kind) ∧ (ocells L)[k * 6 + 1]? = some (.int .i64 L[k].e.v.ep) ∧ (ocells L)[k * 6 + 2]? = some (.int .i64 L[k].e.v.lead) ∧ (ocells L)[k * 6 + 3]? = some (.int .i64 L[k].e.v.inc) ∧
    (ocells L)[k * 6 + 4]? = some (.int .i64 L[k].e.v.cid) ∧ (ocells L)[k * 6 + 5]? = some (.slice L[k].e.A L[k].e.v.ms.length L[k].e.c)
  | [], k, h => absurd h (by simp)
  | a :: l, 0, h => by simp [ocells, Oe.cells, Ve.cells]
  | a :: l, k + 1, h => by
    have ih := ocells_at l k (by simpa using h)
    have e : ocells (a :: l) = a.cells ++ ocells l := rfl
    have f : ∀ j, (ocells (a :: l))[(k + 1) * 6 + j]? = (ocells l)[k * 6 + j]? := fun j => by
      rw [e, List.getElem?_append_right (by simp [Oe.cells, Ve.cells]; omega)]
      congr 1
      simp [Oe.cells, Ve.cells]; omega
    have f0 := f 0
    simp only [Nat.add_zero] at f0
    rw [f0, f 1, f 2, f 3, f 4, f 5]
    exact ih
/-- The steps, as they came in. -/
def OpsIn (w : World) (B : Nat) (A : Option Addr) (n : Nat) (l : List Oe) : Prop :=
  Reads w B 6 A n (ocells l) ∧ ∀ o ∈ l, RS w B o.e.A o.e.v.ms.length o.e.v.ms ∧ o.e.v.ms.length * 24 ≤ 140737488351232
theorem OpsIn.len {w : World} {B n : Nat} {A : Option Addr} {l : List Oe} (h : OpsIn w B A n l) : l.length = n := by
  have := h.1.1
  rw [ocells_len] at this
  omega
theorem OpsIn.below {w w' : World} {B n : Nat} {A : Option Addr} {l : List Oe} (h : OpsIn w B A n l) (hb : Below B w w') : OpsIn w' B A n l :=
  ⟨Reads.below h.1 hb, fun o ho => ⟨Reads.below (h.2 o ho).1 hb, (h.2 o ho).2⟩⟩
theorem OpsIn.at_ {w : World} {B n k : Nat} {A : Option Addr} {l : List Oe} (h : OpsIn w B A n l) (hk : k < n) :
    ∃ (o : Oe) (b off : Nat), A = some ⟨b, off, none⟩ ∧ b < B ∧ (w.cell? ⟨b, off + k * 6, none⟩ = some (.int .i64 o.kind) ∧ w.cell? ⟨b, off + k * 6 + 1, none⟩ = some (.int .i64 o.e.v.ep) ∧ w.cell? ⟨b, off + k * 6 + 2, none⟩ = some (.int .i64 o.e.v.lead) ∧
      w.cell? ⟨b, off + k * 6 + 3, none⟩ = some (.int .i64 o.e.v.inc) ∧ w.cell? ⟨b, off + k * 6 + 4, none⟩ = some (.int .i64 o.e.v.cid) ∧ w.cell? ⟨b, off + k * 6 + 5, none⟩ = some (.slice o.e.A o.e.v.ms.length o.e.c)) ∧
      RS w B o.e.A o.e.v.ms.length o.e.v.ms ∧ o.e.v.ms.length * 24 ≤ 140737488351232 := by
  have hl := h.len
  obtain ⟨h0', hm⟩ := h
  obtain ⟨ad, e, hb, hc⟩ := h0'.2 (by omega)
  obtain ⟨h0, h1, h2, h3, h4, h5⟩ := ocells_at l k (by omega)
  have c0 := hc _ _ h0
  have c1 := hc _ _ h1
  have c2 := hc _ _ h2
  have c3 := hc _ _ h3
  have c4 := hc _ _ h4
  have c5 := hc _ _ h5
  obtain ⟨b, off, spot⟩ := ad
  have hs : spot = none := by
    have := World.cell?_spot (hc 0 _ (ocells_at l 0 (by omega)).1)
    simpa [Addr.add] using this
  subst hs
  have ea : ∀ m, (⟨b, off, none⟩ : Addr).add m = ⟨b, off + m, none⟩ := fun m => by
    unfold Addr.add
    split
    · rename_i h0; subst h0; rfl
    · rfl
  rw [ea] at c0 c1 c2 c3 c4 c5
  obtain ⟨m1, m2⟩ := hm l[k] (List.getElem_mem (by omega))
  exact ⟨l[k], b, off, e, hb, ⟨c0, c1, c2, c3, c4, c5⟩, m1, m2⟩

set_option maxRecDepth 100000 in
set_option maxHeartbeats 4000000 in
theorem watch_walk (A A' : Option Addr) (n c n' c' : Nat) (vs : List Int) (ops : List Oe) (w : World) (h : RI w w.heap.size A n vs) (h' : OpsIn w w.heap.size A' n' ops) (hn : n * 8 ≤ 140737488351232) (hn' : n' * 64 ≤ 140737488351232) :
    Calls Try.prog 7 #[.agg #[.slice A n c, .slice A' n' c']] w fun e w' => e = .returned (.bool true) ∧ Below w.heap.size w w' := by
  have H0 : Below w.heap.size w (w.alloc (.cells #[.slice A n c, .slice A' n' c'] 53)) := (Below.refl _ w).alloc (Nat.le_refl _) _
  have B0 : Blk (w.alloc (.cells #[.slice A n c, .slice A' n' c'] 53)) w.heap.size 53 #[.slice A n c, .slice A' n' c'] := Blk.new _ _ _
  have V0 : RI (w.alloc (.cells #[.slice A n c, .slice A' n' c'] 53)) w.heap.size A n vs := Reads.below h H0
  go_enter Try.func7, Try.ntmps7
  go_wp2_with fail
  obtain ⟨w0, hw0⟩ : ∃ w0, w0 = w.alloc (.cells #[.slice A n c, .slice A' n' c'] 53) := ⟨_, rfl⟩
  rw [← hw0] at H0 B0 V0 ⊢
  clear hw0
  have hs0 := H0.size
  refine (watch_any A A' n c n' c' vs w0 (Reads.more V0 hs0) hn).mono ?_
  rintro e w1 ⟨hb1, hres⟩
  have hs1 := hb1.size
  have B1 := B0.below hb1 B0.lt
  have H1 := H0.trans (hb1.mono hs0)
  have hx0 : w.heap.size < w0.heap.size := B0.lt
  clear H0 B0 V0 hb1
  rcases hres with ⟨p, r, rfl, hok, P1, R1⟩ | ⟨rfl, hbad⟩
  · have HP1 := hide (P1.base hs0)
    have HR1 := hide (R1.base hs0)
    have HH1 := hide H1
    clear P1 R1 hok H1
    go_wp2
    go_loopw [6] (fun i wr => ∃ (k : Nat) (g : Option Nat) (L : List Ve), k ≤ n' ∧ i = .int .i64 k ∧ PW wr w.heap.size p vs (hist L) ∧ RW wr w.heap.size r g vs L ∧ L.length ≤ k ∧ Below w.heap.size w wr ∧ Blk wr w.heap.size 53 #[.slice A n c, .slice A' n' c']) (fun i _ => n' - (intOf i).toNat)
    case atStart => exact ⟨0, none, [], Nat.zero_le _, rfl, HP1.out, HR1.out, Nat.le_refl _, HH1.out, B1⟩
    case round =>
      obtain ⟨k, g, L, hk, rfl, P, R, hLk, hb, hB⟩ := hrel
      obtain ⟨k0, k1⟩ := blk2 hB
      have hbs := hb.size
      have hBl := hB.lt
      by_cases hlt : k < n'
      · obtain ⟨o, b, off, rfl, hab, ⟨q0, q1, q2, q3, q4, q5⟩, RM, hms⟩ := (h'.below hb).at_ hlt
        go_wp2_with fail
        have HE := watched1_any o w.heap.size p r g vs L wr P R RM hms (by omega)
        refine HE.mono ?_
        clear HE
        rintro e w2 ⟨rfl, g2, L2, P2, R2, hh2, ho2, _⟩
        have hl2 : Hid (L2.length ≤ k + 1) := by
          show _ ≤ _
          have h1 := stH_len vs (hist L) o
          rw [← hh2, hist_len, hist_len] at h1
          omega
        have hpb : w.heap.size < p := by
          rcases Nat.lt_or_ge w.heap.size p with hx | hx
          · exact hx
          · have e1 : p = w.heap.size := by
              obtain ⟨_, _, hq, _⟩ := id P
              omega
            obtain ⟨cs, hc⟩ := P.pblk
            exact absurd e1 (Blk.ne_ hc hB (by decide))
        have hbr : w.heap.size ≤ r := by obtain ⟨_, _, _, _, _, hq, _⟩ := id R; exact hq
        have hne : ¬ (w.heap.size = p ∨ w.heap.size = r ∨ g = some w.heap.size) := by
          rintro (hx | hx | hx)
          · omega
          · obtain ⟨cs, hc⟩ := R.rblk
            exact Blk.ne_ hB hc (by decide) hx
          · obtain ⟨cs, hc⟩ := R.gblk _ hx
            exact Blk.ne_ hB hc (by decide) rfl
        have hB2 := hB.only ho2 hne
        have hb2 := hb.trans (ho2.below hbs (by
          rintro x hx (hf | hf | hf)
          · omega
          · omega
          · have := R.vbase x hf; omega))
        have HB2 := hide hB2
        have hb2 := hide hb2
        have P2 := hide P2
        have R2 := hide R2
        clear P R hh2 ho2 hB hb RM hne hB2
        go_wp2
        go_roundw
        case rel => exact ⟨k + 1, g2, L2, by omega, by go_num, P2.out, R2.out, hl2.out, hb2.out, HB2.out⟩
        case measure => simp [intOf]; omega
      · obtain rfl : k = n' := by omega
        go_wp2_with fail
        refine (asks_any 2 w.heap.size p r g vs L wr P R (by omega)).mono ?_
        rintro e w2 ⟨rfl, hb2⟩
        have P2 := P.below hb2
        have R2 := R.below hb2
        have hb3 := hb.trans (hb2.mono hbs)
        clear P R hb hb2
        go_wp2_with fail
        refine (asks_any 3 w.heap.size p r g vs L w2 P2 R2 (by omega)).mono ?_
        rintro e w3 ⟨rfl, hb2⟩
        have P3 := P2.below hb2
        have R3 := R2.below hb2
        have hb4 := hb3.trans (hb2.mono hb3.size)
        clear P2 R2 hb3 hb2
        go_wp2_with fail
        refine (asks_any 4 w.heap.size p r g vs L w3 P3 R3 (by omega)).mono ?_
        rintro e w4 ⟨rfl, hb2⟩
        have hb5 := hide (hb4.trans (hb2.mono hb4.size))
        clear P3 R3 hb4 hb2
        go_wp2
        go_ret
        exact ⟨rfl, hb5.out⟩
  · have HH1 := hide H1
    clear H1 hbad
    go_wp2
    go_ret
    exact ⟨rfl, HH1.out⟩
end Go.Proofs.Yteckffndboiknaa
