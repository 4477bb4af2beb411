/-
  Contract of shift over a row of its own: bool, []byte. (Printed by wip/tools/mkshift.py.)
-/
import Derived.Test.YtkkckinnhkpcmaaDrop
import Derived.Lib.SliceRun
import Derived.Laws.CopyOwn
set_option linter.unusedVariables false
namespace Go.Proofs.Ytkkckinnhkpcmaa
open Go.RowKit Go.WideShapes Go.ChangeShapes Q

theorem blk_setCells {g : Nat} {t : TypeId} : ∀ (vs pre mid : List Value) (w : World), mid.length = vs.length → Blk w g t (pre ++ mid).toArray → Blk (w.setCells g pre.length vs) g t (pre ++ vs).toArray
  | [], pre, mid, w, h, hb => by
    obtain rfl : mid = [] := List.eq_nil_of_length_eq_zero h
    exact hb
  | v :: r, pre, [], w, h, hb => by simp at h
  | v :: r, pre, m :: mid, w, h, hb => by
    have h2 := hb.set_ pre.length v
    have e : (pre ++ m :: mid).toArray.setIfInBounds pre.length v = ((pre ++ [v]) ++ mid).toArray := by simp
    rw [e] at h2
    have h3 := blk_setCells r (pre ++ [v]) mid _ (by simpa using h) h2
    rw [World.setCells]
    simpa using h3
theorem St.setCells {S : Nat → Prop} {w : World} {g : Nat} {t : TypeId} (ht : t ≠ 5) (hg : g < w.heap.size → S g) : ∀ (vs : List Value) (o : Nat) (w1 : World) (cs : Array Value), St S w w1 → Blk w1 g t cs → St S w (w1.setCells g o vs)
  | [], o, w1, cs, h, _ => h
  | v :: r, o, w1, cs, h, hb => St.setCells ht hg r (o + 1) _ _ (h.setCell hb ht hg v) (hb.set_ o v)
theorem Blk.setRow {w : World} {g : Nat} {t : TypeId} {cs : Array Value} (hb : Blk w g t cs) (u : Array Value) : Blk (w.setRow g u) g t u := by
  unfold Blk at hb ⊢
  simp [World.setRow, Array.getElem?_modify, hb]
theorem blk_cells_src {w : World} {g n : Nat} {t : TypeId} {cs : List Value} (h : Blk w g t cs.toArray) : ∀ j v, (cs.drop n)[j]? = some v → w.cell? ((⟨g, n, none⟩ : Addr).add j) = some v := by
  intro j v hv
  have e : (⟨g, n, none⟩ : Addr).add j = ⟨g, n + j, none⟩ := by
    unfold Addr.add
    split
    · rename_i h0; subst h0; rfl
    · rfl
  rw [e, h.cell, ← hv]
  simp

theorem zero4 (w : World) : (zeroValue 4).run Try.prog w = .ok (.bool false) w := by kernel_rfl
theorem clr0_76 (a : Option Addr) (c : Nat) (w : World) (ty : TypeId) : (Builtin.clear_ #[76] ty #[.slice a 0 c]).run Try.prog w = .ok (.tuple #[]) w := by
  cases a <;> simp [Builtin.clear_, run_underlying Try.underlying76]
theorem clr_76 {w : World} {g : Nat} {cs : List Value} (o n c : Nat) (hb : Blk w g 4 cs.toArray) (hn : 0 < n) (hl : o + n ≤ cs.length) (ty : TypeId) : (Builtin.clear_ #[76] ty #[.slice (some ⟨g, o, none⟩) n c]).run Try.prog w = .ok (.tuple #[]) (w.setCells g o (List.replicate n (.bool false))) :=
  Lib.run_clear_slice w 76 4 ty (.bool false) Try.underlying76 zero4 rfl rfl g o n c hn (fun j hj => by rw [hb.cell]; simp; omega) (fun j _ => hb.frozen _)

set_option maxRecDepth 100000 in
theorem shift4_any (g n : Nat) (cs : List Value) (w : World) (hb : Blk w g 4 cs.toArray) (h1 : ∀ u ∈ cs, u.oneCell' = true) (hn : n ≤ cs.length) (hl : 0 < cs.length) (hm : cs.length ≤ 20000) :
    Calls Try.prog 56 #[.slice (some ⟨g, 0, none⟩) cs.length cs.length, .int .i64 n] w fun e w' => e = .returned (.tuple #[]) ∧ St (fun k => k = g) w w' ∧ Blk w' g 4 (shifted cs (.bool false) n).toArray := by
  have HB := hide hb
  have hz : (Try.prog.info? 4).map (·.size) = some 1 := by kernel_rfl
  have hst : ∀ u, Hid (St (fun k => k = g) w (w.setRow g u)) := fun u => (St.refl (fun k => k = g) w).setRow hb (by decide) (fun _ => rfl) u
  have wr : IntKind.i64.wrap ((cs.length : Int) - (n : Int)) = ((cs.length - n : Nat) : Int) := by rw [IntWalk.i64_in _ (by constructor <;> omega)]; omega
  by_cases h0 : n = 0
  · subst h0
    have e1 : ¬ cs.length = 0 := by omega
    have hsrc := blk_cells_src (n := 0) hb
    rw [List.drop_zero] at hsrc
    have HSRC := hide hsrc
    have hc0 := clr0_76 (some ⟨g, 0, none⟩) 0 (w.setRow g cs.toArray)
    clear hsrc
    go_enter Try.func56, Try.ntmps56
    go_wp2_with (first
      | (refine wpList_copy_own rfl _ _ _ _ rfl 4 Try.underlying76 hz _ _ _ _ _ _ _ rfl rfl cs.toArray 4 HB.out cs ?_ ?_ ?_ h1 ?_; (simp); exact HSRC.out; (simp); simp only [List.take_zero, List.nil_append, Nat.zero_add, List.drop_length, List.append_nil])
      | simp only [hc0])
    refine bodyPost_end (results_none rfl _ _ _) rfl ?_
    refine ⟨rfl, (hst _).out, ?_⟩
    have := Blk.setRow HB.out cs.toArray
    simpa [shifted] using this
  · by_cases hL : cs.length = n
    · have h0' : ¬ n = 0 := h0
      have hsub : n - n = 0 := by omega
      have hB2 := hide (Blk.setRow HB.out cs.toArray)
      have hc0 := clr_76 (cs := cs) 0 n n hB2.out (by omega) (by omega)
      rw [hL] at wr ⊢
      rw [hsub] at wr
      have e1 : ¬ (0 : Nat) = n := by omega
      go_enter Try.func56, Try.ntmps56
      go_wp2_with (first
        | (refine wpList_copy_own rfl _ _ _ _ rfl 4 Try.underlying76 hz _ _ _ _ _ _ _ rfl rfl cs.toArray 4 HB.out [] ?_ ?_ ?_ ?_ ?_; (simp); (intro j v hv; simp at hv); (simp); (intro u hu; simp at hu); simp only [List.take_zero, List.nil_append, List.length_nil, Nat.zero_add, List.drop_zero])
        | simp only [hc0])
      refine bodyPost_end (results_none rfl _ _ _) rfl ?_
      refine ⟨rfl, St.setCells (S := fun k => k = g) (t := 4) (by decide) (fun _ => rfl) _ _ _ _ (hst _).out hB2.out, ?_⟩
      have := blk_setCells (g := g) (t := 4) (List.replicate n (.bool false)) [] cs (w.setRow g cs.toArray) (by simp [hL]) hB2.out
      have e : shifted cs (.bool false) n = List.replicate n (.bool false) := by simp [shifted, hL]
      rw [e]
      simpa using this
    · have hlt : n < cs.length := by omega
      have hB2 := hide (Blk.setRow HB.out (cs.drop n ++ cs.drop (cs.length - n)).toArray)
      have hc0 := clr_76 (cs := cs.drop n ++ cs.drop (cs.length - n)) (cs.length - n) n n hB2.out (by omega) (by simp; omega)
      have HSRC := hide (blk_cells_src (n := n) hb)
      have e1 : ¬ cs.length = n := by omega
      have e2 : ¬ cs.length = cs.length - n := by omega
      have e3 : cs.length - (cs.length - n) = n := by omega
      go_enter Try.func56, Try.ntmps56
      go_wp2_with (first
        | (refine wpList_copy_own rfl _ _ _ _ rfl 4 Try.underlying76 hz _ _ _ _ _ _ _ rfl rfl cs.toArray 4 HB.out (cs.drop n) ?_ ?_ ?_ ?_ ?_; (simp); exact HSRC.out; (simp); (intro u hu; exact h1 u (List.mem_of_mem_drop hu)); simp only [List.take_zero, List.nil_append, List.length_drop, Nat.zero_add])
        | simp only [hc0])
      refine bodyPost_end (results_none rfl _ _ _) rfl ?_
      refine ⟨rfl, St.setCells (S := fun k => k = g) (t := 4) (by decide) (fun _ => rfl) _ _ _ _ (hst _).out hB2.out, ?_⟩
      have := blk_setCells (g := g) (t := 4) (List.replicate n (.bool false)) (cs.drop n) (cs.drop (cs.length - n)) _ (by simp; omega) hB2.out
      rw [List.length_drop] at this
      exact this

theorem zero28 (w : World) : (zeroValue 28).run Try.prog w = .ok (.slice none 0 0) w := by kernel_rfl
theorem clr0_36 (a : Option Addr) (c : Nat) (w : World) (ty : TypeId) : (Builtin.clear_ #[36] ty #[.slice a 0 c]).run Try.prog w = .ok (.tuple #[]) w := by
  cases a <;> simp [Builtin.clear_, run_underlying Try.underlying36]
theorem clr_36 {w : World} {g : Nat} {cs : List Value} (o n c : Nat) (hb : Blk w g 28 cs.toArray) (hn : 0 < n) (hl : o + n ≤ cs.length) (ty : TypeId) : (Builtin.clear_ #[36] ty #[.slice (some ⟨g, o, none⟩) n c]).run Try.prog w = .ok (.tuple #[]) (w.setCells g o (List.replicate n (.slice none 0 0))) :=
  Lib.run_clear_slice w 36 28 ty (.slice none 0 0) Try.underlying36 zero28 rfl rfl g o n c hn (fun j hj => by rw [hb.cell]; simp; omega) (fun j _ => hb.frozen _)

set_option maxRecDepth 100000 in
theorem shift28_any (g n : Nat) (cs : List Value) (w : World) (hb : Blk w g 28 cs.toArray) (h1 : ∀ u ∈ cs, u.oneCell' = true) (hn : n ≤ cs.length) (hl : 0 < cs.length) (hm : cs.length ≤ 20000) :
    Calls Try.prog 57 #[.slice (some ⟨g, 0, none⟩) cs.length cs.length, .int .i64 n] w fun e w' => e = .returned (.tuple #[]) ∧ St (fun k => k = g) w w' ∧ Blk w' g 28 (shifted cs (.slice none 0 0) n).toArray := by
  have HB := hide hb
  have hz : (Try.prog.info? 28).map (·.size) = some 1 := by kernel_rfl
  have hst : ∀ u, Hid (St (fun k => k = g) w (w.setRow g u)) := fun u => (St.refl (fun k => k = g) w).setRow hb (by decide) (fun _ => rfl) u
  have wr : IntKind.i64.wrap ((cs.length : Int) - (n : Int)) = ((cs.length - n : Nat) : Int) := by rw [IntWalk.i64_in _ (by constructor <;> omega)]; omega
  by_cases h0 : n = 0
  · subst h0
    have e1 : ¬ cs.length = 0 := by omega
    have hsrc := blk_cells_src (n := 0) hb
    rw [List.drop_zero] at hsrc
    have HSRC := hide hsrc
    have hc0 := clr0_36 (some ⟨g, 0, none⟩) 0 (w.setRow g cs.toArray)
    clear hsrc
    go_enter Try.func57, Try.ntmps57
    go_wp2_with (first
      | (refine wpList_copy_own rfl _ _ _ _ rfl 28 Try.underlying36 hz _ _ _ _ _ _ _ rfl rfl cs.toArray 28 HB.out cs ?_ ?_ ?_ h1 ?_; (simp); exact HSRC.out; (simp); simp only [List.take_zero, List.nil_append, Nat.zero_add, List.drop_length, List.append_nil])
      | simp only [hc0])
    refine bodyPost_end (results_none rfl _ _ _) rfl ?_
    refine ⟨rfl, (hst _).out, ?_⟩
    have := Blk.setRow HB.out cs.toArray
    simpa [shifted] using this
  · by_cases hL : cs.length = n
    · have h0' : ¬ n = 0 := h0
      have hsub : n - n = 0 := by omega
      have hB2 := hide (Blk.setRow HB.out cs.toArray)
      have hc0 := clr_36 (cs := cs) 0 n n hB2.out (by omega) (by omega)
      rw [hL] at wr ⊢
      rw [hsub] at wr
      have e1 : ¬ (0 : Nat) = n := by omega
      go_enter Try.func57, Try.ntmps57
      go_wp2_with (first
        | (refine wpList_copy_own rfl _ _ _ _ rfl 28 Try.underlying36 hz _ _ _ _ _ _ _ rfl rfl cs.toArray 28 HB.out [] ?_ ?_ ?_ ?_ ?_; (simp); (intro j v hv; simp at hv); (simp); (intro u hu; simp at hu); simp only [List.take_zero, List.nil_append, List.length_nil, Nat.zero_add, List.drop_zero])
        | simp only [hc0])
      refine bodyPost_end (results_none rfl _ _ _) rfl ?_
      refine ⟨rfl, St.setCells (S := fun k => k = g) (t := 28) (by decide) (fun _ => rfl) _ _ _ _ (hst _).out hB2.out, ?_⟩
      have := blk_setCells (g := g) (t := 28) (List.replicate n (.slice none 0 0)) [] cs (w.setRow g cs.toArray) (by simp [hL]) hB2.out
      have e : shifted cs (.slice none 0 0) n = List.replicate n (.slice none 0 0) := by simp [shifted, hL]
      rw [e]
      simpa using this
    · have hlt : n < cs.length := by omega
      have hB2 := hide (Blk.setRow HB.out (cs.drop n ++ cs.drop (cs.length - n)).toArray)
      have hc0 := clr_36 (cs := cs.drop n ++ cs.drop (cs.length - n)) (cs.length - n) n n hB2.out (by omega) (by simp; omega)
      have HSRC := hide (blk_cells_src (n := n) hb)
      have e1 : ¬ cs.length = n := by omega
      have e2 : ¬ cs.length = cs.length - n := by omega
      have e3 : cs.length - (cs.length - n) = n := by omega
      go_enter Try.func57, Try.ntmps57
      go_wp2_with (first
        | (refine wpList_copy_own rfl _ _ _ _ rfl 28 Try.underlying36 hz _ _ _ _ _ _ _ rfl rfl cs.toArray 28 HB.out (cs.drop n) ?_ ?_ ?_ ?_ ?_; (simp); exact HSRC.out; (simp); (intro u hu; exact h1 u (List.mem_of_mem_drop hu)); simp only [List.take_zero, List.nil_append, List.length_drop, Nat.zero_add])
        | simp only [hc0])
      refine bodyPost_end (results_none rfl _ _ _) rfl ?_
      refine ⟨rfl, St.setCells (S := fun k => k = g) (t := 28) (by decide) (fun _ => rfl) _ _ _ _ (hst _).out hB2.out, ?_⟩
      have := blk_setCells (g := g) (t := 28) (List.replicate n (.slice none 0 0)) (cs.drop n) (cs.drop (cs.length - n)) _ (by simp; omega) hB2.out
      rw [List.length_drop] at this
      exact this
end Go.Proofs.Ytkkckinnhkpcmaa
