/-
  The reference's watch in memory; contracts of its New, In.
-/
import Derived.Test.YteckffndboiknaaEnter
set_option linter.unusedVariables false
namespace Go.Proofs.Yteckffndboiknaa
open Go.RowKit Go.WideShapes Go.ChangeShapes Q

/-- A view, and where its members lie. -/
structure Ve where
  v : Vw
  A : Option Addr
  c : Nat
def Ve.cells (e : Ve) : List Value := [.int .i64 e.v.ep, .int .i64 e.v.lead, .int .i64 e.v.inc, .int .i64 e.v.cid, .slice e.A e.v.ms.length e.c]
def vcells (L : List Ve) : List Value := L.flatMap Ve.cells
theorem vcells_len (L : List Ve) : (vcells L).length = L.length * 5 := by
  induction L with
  | nil => rfl
  | cons a l ih => simp [vcells, Ve.cells] at ih ⊢; omega
theorem vcells_append (a b : List Ve) : vcells (a ++ b) = vcells a ++ vcells b := by simp [vcells]
theorem vcells_at : ∀ (L : List Ve) (k : Nat) (h : k < L.length), (vcells L)[k * 5]? = some (.int .i64 L[k].v.ep) ∧ (vcells L)[k * 5 + 1]? = some (.int .i64 L[k].v.lead) ∧ (vcells L)[k * 5 + 2]? = some (.int .i64 L[k].v.inc) ∧
    (vcells L)[k * 5 + 3]? = some (.int .i64 L[k].v.cid) ∧ (vcells L)[k * 5 + 4]? = some (.slice L[k].A L[k].v.ms.length L[k].c)
  | [], k, h => absurd h (by simp)
  | a :: l, 0, h => by simp [vcells, Ve.cells]
  | a :: l, k + 1, h => by
    have ih := vcells_at l k (by simpa using h)
    have e : vcells (a :: l) = a.cells ++ vcells l := rfl
    have f : ∀ j, (vcells (a :: l))[(k + 1) * 5 + j]? = (vcells l)[k * 5 + j]? := fun j => by
      rw [e, List.getElem?_append_right (by simp [Ve.cells]; omega)]
      congr 1
      simp [Ve.cells]; omega
    have f0 := f 0
    simp only [Nat.add_zero] at f0
    rw [f0, f 1, f 2, f 3, f 4]
    exact ih
theorem rv_at {w : World} {B n k : Nat} {A : Option Addr} {L : List Ve} (h : Reads w B 5 A n (vcells L)) (hk : k < L.length) :
    ∃ b off, A = some ⟨b, off, none⟩ ∧ b < B ∧ w.cell? ⟨b, off + k * 5, none⟩ = some (.int .i64 L[k].v.ep) ∧ w.cell? ⟨b, off + k * 5 + 1, none⟩ = some (.int .i64 L[k].v.lead) ∧ w.cell? ⟨b, off + k * 5 + 2, none⟩ = some (.int .i64 L[k].v.inc) ∧
      w.cell? ⟨b, off + k * 5 + 3, none⟩ = some (.int .i64 L[k].v.cid) ∧ w.cell? ⟨b, off + k * 5 + 4, none⟩ = some (.slice L[k].A L[k].v.ms.length L[k].c) := by
  have hn : L.length = n := by have := h.1; rw [vcells_len] at this; omega
  obtain ⟨ad, e, hb, hc⟩ := h.2 (by omega)
  obtain ⟨h0, h1, h2, h3, h4⟩ := vcells_at L k hk
  have c0 := hc _ _ h0
  have c1 := hc _ _ h1
  have c2 := hc _ _ h2
  have c3 := hc _ _ h3
  have c4 := hc _ _ h4
  obtain ⟨b, off, spot⟩ := ad
  have hs : spot = none := by
    have := World.cell?_spot (hc 0 _ (vcells_at L 0 (by omega)).1)
    simpa [Addr.add] using this
  subst hs
  have ea : ∀ m, (⟨b, off, none⟩ : Addr).add m = ⟨b, off + m, none⟩ := fun m => by
    unfold Addr.add
    split
    · rename_i h0; subst h0; rfl
    · rfl
  rw [ea] at c0 c1 c2 c3 c4
  exact ⟨b, off, e, hb, c0, c1, c2, c3, c4⟩

/-- The history that a list of views tells. -/
def hist (L : List Ve) : List Vw := L.map (·.v)
theorem hist_len (L : List Ve) : (hist L).length = L.length := by simp [hist]
theorem hist_snoc (L : List Ve) (e : Ve) : hist (L ++ [e]) = hist L ++ [e.v] := by simp [hist]
theorem hist_take (L : List Ve) (k : Nat) (h : k < L.length) : (hist L).take (k + 1) = (hist L).take k ++ [L[k].v] := by
  rw [Q.take_snoc _ _ (by rw [hist_len]; exact h)]
  simp [hist]

/-- The reference's watch in memory: the views' row is the block g. -/
def RW (w : World) (base r : Nat) (g : Option Nat) (vs : List Int) (L : List Ve) : Prop :=
  ∃ Av cv Aw cw, Blk w r 117 #[.slice Av vs.length cv, .slice Aw L.length cw] ∧ base ≤ r ∧ w.ownsRow base 3 1 (.slice Av vs.length cv) vs.length (ints vs) ∧ w.ownsRow base 63 5 (.slice Aw L.length cw) L.length (vcells L) ∧ (Value.slice Aw L.length cw).ownBlock = g ∧
    (∀ e ∈ L, w.ownsRow base 103 3 (.slice e.A e.v.ms.length e.c) e.v.ms.length (sts e.v.ms)) ∧ Ok vs ∧ HOk vs (hist L)
theorem RW.apart {w w' : World} {F : Nat → Prop} {base r : Nat} {g : Option Nat} {vs : List Int} {L : List Ve} (h : RW w base r g vs L) (ho : Only F w w') (h0 : ¬ F r) (hg : ∀ k, g = some k → ¬ F k) (h1 : Apart w F 3) (h2 : Apart w F 103) : RW w' base r g vs L := by
  obtain ⟨Av, cv, Aw, cw, hb, hbase, hv, hw, hgg, hm, hok, hh⟩ := h
  exact ⟨Av, cv, Aw, cw, hb.only ho h0, hbase, own_apart hv ho h1, own_only hw ho (fun k hk => hg k (by rw [← hgg]; exact hk)), hgg, fun e he => own_apart (hm e he) ho h2, hok, hh⟩
theorem RW.below {w w' : World} {base r : Nat} {g : Option Nat} {vs : List Int} {L : List Ve} (h : RW w base r g vs L) (hb : Below w.heap.size w w') : RW w' base r g vs L :=
  h.apart (F := fun _ => False) (Only.of_below hb (Nat.le_refl _)) (fun h => h) (fun _ _ h => h) (fun _ _ h => h.elim) (fun _ _ h => h.elim)
theorem RW.lt {w : World} {base r : Nat} {g : Option Nat} {vs : List Int} {L : List Ve} (h : RW w base r g vs L) : r < w.heap.size := by
  obtain ⟨Av, cv, Aw, cw, hb, _⟩ := h; exact hb.lt

/-- What the reference's New answers. -/
def RNewP (vs : List Int) (w : World) (e : Ending) (w' : World) : Prop :=
  Below w.heap.size w w' ∧ ((∃ r, e = .returned (.tuple #[.pointer (some ⟨r, 0, none⟩), .int .i64 0]) ∧ Ok vs ∧ RW w' w.heap.size r none vs []) ∨ (e = .returned (.tuple #[.pointer none, .int .i64 110]) ∧ ¬ Ok vs))

theorem ints_one' (vs : List Int) : ∀ u ∈ ints vs, u.oneCell' = true := by
  intro u hu
  simp [ints] at hu
  obtain ⟨x, _, rfl⟩ := hu
  rfl

set_option maxRecDepth 100000 in
set_option maxHeartbeats 1000000 in
theorem rnew_any (A : Option Addr) (n c : Nat) (vs : List Int) (w : World) (h : RI w w.heap.size A n vs) (hn : n ≤ 17592186044416) :
    Calls Try.prog 51 #[.slice A n c] w (RNewP vs w) := by
  obtain ⟨i0, hi, hz0, hz1, hz2⟩ := info_parts info3
  have hl := h.len
  by_cases hok : Ok vs
  · have he := hide (chkE_ok hok)
    have HOK := hide hok
    go_enter Try.func51, Try.ntmps51
    go_wp2_with (first
      | (go_at_call 26; refine (refCheck_any A w.heap.size n c vs _ h hn).mono ?_; rintro e w' ⟨rfl, rfl⟩; rw [he.out])
      | (at_builtin; refine wpList_append_any _ rfl _ _ _ rfl w.heap.size 3 i0 _ 1 8 Try.underlying32 hi hz0 hz1 hz2 rfl (by omega) (.slice none 0 0) 0 [] rfl (World.ownsRow_nil _ _ _ _) w.heap.size A n c (ints vs) rfl h (ints_one' vs) (by unfold maxLen; omega) (by omega) (Nat.le_refl _) ?_; intro v1 w1 hown1 hg1 hat1; obtain ⟨A1, c1, hv1, _, _⟩ := own_val hown1; simp only [Nat.zero_add, List.nil_append] at hown1 hv1; rw [hv1] at hown1 ⊢; have hbw1 : Below w.heap.size w w1 := (Below.refl _ _).grown hg1 (Nat.le_refl _) (by simp [Value.ownBlock]); clear hv1 hat1 hg1))
    go_ret2
    refine ⟨hbw1.alloc hbw1.size _, .inl ⟨_, rfl, HOK.out, A1, c1, none, 0, by rw [hl]; exact Blk.new _ _ _, hbw1.size, by rw [hl]; exact hown1.alloc _, World.ownsRow_nil _ _ _ _, rfl, (fun e he => by cases he), HOK.out, HOk.nil _⟩⟩
  · have he := hide (chkE_bad hok)
    have HOK := hide hok
    go_enter Try.func51, Try.ntmps51
    go_wp2_with (go_at_call 26; refine (refCheck_any A w.heap.size n c vs _ h hn).mono ?_; rintro e w' ⟨rfl, rfl⟩; rw [he.out])
    go_ret2
    exact ⟨Below.refl _ _, .inr ⟨rfl, HOK.out⟩⟩
end Go.Proofs.Yteckffndboiknaa
