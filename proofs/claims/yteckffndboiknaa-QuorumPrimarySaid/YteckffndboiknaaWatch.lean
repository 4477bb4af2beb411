/-
  Contracts of the program's watch: New, In, Last, Count.
-/
import Derived.Test.YteckffndboiknaaView2
set_option linter.unusedVariables false
namespace Go.Proofs.Yteckffndboiknaa
open Go.RowKit Go.WideShapes Go.ChangeShapes Q

theorem Ballot.apart {w w' : World} {F : Nat → Prop} {base b : Nat} {vs : List Int} (h : Ballot w base b vs) (ho : Only F w w') (h1 : Apart w F 110) (h2 : Apart w F 3) : Ballot w' base b vs := by
  obtain ⟨g, cap, hb, hbase, hg, hown⟩ := h
  exact ⟨g, cap, hb.apart ho h1, hbase, hg, own_apart hown ho h2⟩
theorem apart_one {w : World} {p : Nat} {t e : TypeId} {cs : Array Value} (h : Blk w p t cs) (hne : t ≠ e) : Apart w (fun k => k = p) e := fun k _ hk => by
  subst hk; exact ⟨t, cs, h, hne⟩

/-- The program's watch in memory. -/
noncomputable def pwC (b : Nat) (vs : List Int) (h : List Vw) : Array Value :=
  #[.pointer (some ⟨b, 0, none⟩), .int .i64 (lastEp h), .bool (inW vs h), .int .i64 (lastW vs h).1, .int .i64 (lastW vs h).2.1, .int .i64 (lastW vs h).2.2.1, .int .i64 (lastW vs h).2.2.2, .int .i64 h.length, .int .i64 (cntW vs h)]
def PW (w : World) (base p : Nat) (vs : List Int) (h : List Vw) : Prop :=
  ∃ b, Blk w p 114 (pwC b vs h) ∧ base ≤ p ∧ Ballot w base b vs ∧ Ok vs ∧ HOk vs h
theorem PW.apart {w w' : World} {F : Nat → Prop} {base p : Nat} {vs : List Int} {h : List Vw} (hp : PW w base p vs h) (ho : Only F w w') (h0 : ¬ F p) (h1 : Apart w F 110) (h2 : Apart w F 3) : PW w' base p vs h := by
  obtain ⟨b, hb, hbase, hbal, hok, hh⟩ := hp
  exact ⟨b, hb.only ho h0, hbase, hbal.apart ho h1 h2, hok, hh⟩
theorem PW.below {w w' : World} {base p : Nat} {vs : List Int} {h : List Vw} (hp : PW w base p vs h) (hb : Below w.heap.size w w') : PW w' base p vs h :=
  hp.apart (F := fun _ => False) (Only.of_below hb (Nat.le_refl _)) (fun h => h) (fun _ _ h => h.elim) (fun _ _ h => h.elim)
theorem PW.lt {w : World} {base p : Nat} {vs : List Int} {h : List Vw} (hp : PW w base p vs h) : p < w.heap.size := by
  obtain ⟨b, hb, _⟩ := hp; exact hb.lt

theorem blk9 {w : World} {g : Nat} {t : TypeId} {a0 a1 a2 a3 a4 a5 a6 a7 a8 : Value} (h : Blk w g t #[a0, a1, a2, a3, a4, a5, a6, a7, a8]) : w.cell? ⟨g, 0, none⟩ = some a0 ∧ w.cell? ⟨g, 1, none⟩ = some a1 ∧ w.cell? ⟨g, 2, none⟩ = some a2 ∧ w.cell? ⟨g, 3, none⟩ = some a3 ∧
    w.cell? ⟨g, 4, none⟩ = some a4 ∧ w.cell? ⟨g, 5, none⟩ = some a5 ∧ w.cell? ⟨g, 6, none⟩ = some a6 ∧ w.cell? ⟨g, 7, none⟩ = some a7 ∧ w.cell? ⟨g, 8, none⟩ = some a8 := by
  refine ⟨?_, ?_, ?_, ?_, ?_, ?_, ?_, ?_, ?_⟩ <;> rw [h.cell] <;> rfl

/-- What New answers. -/
def NewP (vs : List Int) (w : World) (e : Ending) (w' : World) : Prop :=
  Below w.heap.size w w' ∧ ((∃ p, e = .returned (.tuple #[.pointer (some ⟨p, 0, none⟩), .int .i64 0]) ∧ Ok vs ∧ PW w' w.heap.size p vs []) ∨ (e = .returned (.tuple #[.pointer none, .int .i64 110]) ∧ ¬ Ok vs))

set_option maxRecDepth 100000 in
theorem new_any (A : Option Addr) (n c : Nat) (vs : List Int) (w : World) (h : RI w w.heap.size A n vs) (hn : n ≤ 17592186044416) :
    Calls Try.prog 50 #[.slice A n c] w (NewP vs w) := by
  go_enter Try.func50, Try.ntmps50
  go_wp2_with fail
  refine (count_all A n c vs _ h hn).mono ?_
  rintro e w' (⟨b, rfl, hok, hbal, hb⟩ | ⟨rfl, hbad, hb⟩)
  · have HOK := hide hok
    have HBAL := hide hbal
    go_wp2
    go_ret2
    exact ⟨hb.alloc hb.size _, .inl ⟨_, rfl, HOK.out, b, Blk.new _ _ _, hb.size, HBAL.out.below ((Below.refl _ _).alloc (Nat.le_refl _) _), HOK.out, HOk.nil _⟩⟩
  · have HOK := hide hbad
    go_wp2
    go_ret2
    exact ⟨hb, .inr ⟨rfl, HOK.out⟩⟩

theorem in_w (base p : Nat) (vs : List Int) (h : List Vw) (w : World) (hp : PW w base p vs h) :
    Calls Try.prog 53 #[.pointer (some ⟨p, 0, none⟩)] w fun e w' => e = .returned (.bool (inW vs h)) ∧ w = w' := by
  obtain ⟨b, hb, _⟩ := hp
  obtain ⟨k0, k1, k2, k3, k4, k5, k6, k7, k8⟩ := blk9 hb
  clear hb
  go_enter Try.func53, Try.ntmps53
  go_wp2
  go_ret
  exact ⟨rfl, rfl⟩

theorem last_w (base p : Nat) (vs : List Int) (h : List Vw) (w : World) (hp : PW w base p vs h) :
    Calls Try.prog 55 #[.pointer (some ⟨p, 0, none⟩)] w fun e w' => e = .returned (.agg #[.int .i64 (lastW vs h).1, .int .i64 (lastW vs h).2.1, .int .i64 (lastW vs h).2.2.1, .int .i64 (lastW vs h).2.2.2]) ∧ Below w.heap.size w w' := by
  obtain ⟨b, hb, _⟩ := hp
  have hb' := hb.alloc (.cells #[.int .i64 0, .int .i64 0, .int .i64 0, .int .i64 0] 60)
  obtain ⟨k0, k1, k2, k3, k4, k5, k6, k7, k8⟩ := blk9 hb'
  have hlt := hb.lt
  have HB := (Below.refl w.heap.size w)
  clear hb hb'
  go_enter Try.func55, Try.ntmps55
  go_wp2
  exact bodyPost_ret (v := .agg #[.int .i64 (lastW vs h).1, .int .i64 (lastW vs h).2.1, .int .i64 (lastW vs h).2.2.1, .int .i64 (lastW vs h).2.2.2]) (by simp [results, Try.results55, go_sem]) rfl ⟨rfl, (Below.refl _ _).alloc (Nat.le_refl _) _⟩

theorem count_w (base p : Nat) (vs : List Int) (h : List Vw) (w : World) (hp : PW w base p vs h) :
    Calls Try.prog 57 #[.pointer (some ⟨p, 0, none⟩)] w fun e w' => e = .returned (.tuple #[.int .i64 h.length, .int .i64 (cntW vs h)]) ∧ Below w.heap.size w w' := by
  obtain ⟨b, hb, _⟩ := hp
  obtain ⟨k0, k1, k2, k3, k4, k5, k6, k7, k8⟩ := blk9 hb
  clear hb
  go_enter Try.func57, Try.ntmps57
  go_wp2
  go_quiet (fail)
  go_wp2
  go_ret2
  exact ⟨rfl, below_drewN (Below.refl _ _) _⟩
end Go.Proofs.Yteckffndboiknaa
