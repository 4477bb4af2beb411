/-
  Contract of the law's watch: a watch of the program and one of the reference are made.
-/
import Derived.Test.YteckffndboiknaaAsks
set_option linter.unusedVariables false
namespace Go.Proofs.Yteckffndboiknaa
open Go.RowKit Go.WideShapes Go.ChangeShapes Q

/-- What lies from base on stays where what is written lies below. -/
theorem own_above {w w' : World} {F : Nat → Prop} {base : Nat} {e : TypeId} {size n : Nat} {v : Value} {xs : List Value} (ho : w.ownsRow base e size v n xs) (h : Only F w w') (hF : ∀ k, F k → k < base) : w'.ownsRow base e size v n xs :=
  own_only ho h fun g hg hf => by have := (ho.lt g hg).1; have := hF g hf; omega
theorem PW.above {w w' : World} {F : Nat → Prop} {base p : Nat} {vs : List Int} {h : List Vw} (hp : PW w base p vs h) (ho : Only F w w') (hF : ∀ k, F k → k < base) : PW w' base p vs h := by
  obtain ⟨b, hb, hbase, ⟨g, cap, hbb, h1, h2, h3⟩, hok, hh⟩ := hp
  exact ⟨b, hb.only ho (fun hf => by have := hF _ hf; omega), hbase, ⟨g, cap, hbb.only ho (fun hf => by have := hF _ hf; omega), h1, h2, own_above h3 ho hF⟩, hok, hh⟩
theorem RW.above {w w' : World} {F : Nat → Prop} {base r : Nat} {g : Option Nat} {vs : List Int} {L : List Ve} (h : RW w base r g vs L) (ho : Only F w w') (hF : ∀ k, F k → k < base) : RW w' base r g vs L := by
  obtain ⟨Av, cv, Aw, cw, hb, hbase, hv, hw, hgg, hm, hok, hh⟩ := h
  exact ⟨Av, cv, Aw, cw, hb.only ho (fun hf => by have := hF _ hf; omega), hbase, own_above hv ho hF, own_above hw ho hF, hgg, fun e he => own_above (hm e he) ho hF, hok, hh⟩
theorem PW.base {w : World} {base base' p : Nat} {vs : List Int} {h : List Vw} (hp : PW w base p vs h) (hb : base' ≤ base) : PW w base' p vs h := by
  obtain ⟨b, hbb, hbase, ⟨g, cap, h0, h1, h2, h3⟩, hok, hh⟩ := hp
  exact ⟨b, hbb, by omega, ⟨g, cap, h0, by omega, by omega, own_base h3 hb⟩, hok, hh⟩
theorem RW.base {w : World} {base base' r : Nat} {g : Option Nat} {vs : List Int} {L : List Ve} (h : RW w base r g vs L) (hb : base' ≤ base) : RW w base' r g vs L := by
  obtain ⟨Av, cv, Aw, cw, hbb, hbase, hv, hw, hgg, hm, hok, hh⟩ := h
  exact ⟨Av, cv, Aw, cw, hbb, by omega, own_base hv hb, own_base hw hb, hgg, fun e he => own_base (hm e he) hb, hok, hh⟩

/-- A block whose first m cells are ints, whatever ints. -/
def IntRoom (w : World) (g m : Nat) : Prop := ∃ cur : Array Value, Blk w g 3 cur ∧ ∀ j, j < m → ∃ x, cur[j]? = some (.int .i64 x)
theorem IntRoom.at_ {w : World} {g m : Nat} (h : IntRoom w g m) {j : Nat} (hj : j < m) : (∃ x, w.cell? ⟨g, j, none⟩ = some (.int .i64 x)) ∧ w.frozen? ⟨g, j, none⟩ = false := by
  obtain ⟨cur, hb, hs⟩ := h
  obtain ⟨x, hx⟩ := hs j hj
  exact ⟨⟨x, by rw [hb.cell, hx]⟩, hb.frozen j⟩
theorem IntRoom.set_ {w : World} {g m : Nat} (h : IntRoom w g m) (j : Nat) (y : Int) : IntRoom (w.setCell ⟨g, j, none⟩ (.int .i64 y)) g m := by
  obtain ⟨cur, hb, hs⟩ := h
  refine ⟨_, hb.set_ j _, fun i hi => ?_⟩
  obtain ⟨x, hx⟩ := hs i hi
  by_cases e : j = i
  · subst e
    have hl : j < cur.size := (Array.getElem?_eq_some_iff.1 hx).1
    exact ⟨y, by rw [Array.getElem?_setIfInBounds_self_of_lt hl]⟩
  · exact ⟨x, by rw [Array.getElem?_setIfInBounds_ne e]; exact hx⟩
theorem own_introom {w : World} {base g n c m : Nat} {vs : List Int} (h : w.ownsRow base 3 1 (.slice (some ⟨g, 0, none⟩) n c) n (ints vs)) (hm : m ≤ n) : IntRoom w g m := by
  obtain ⟨hl, h0⟩ := h
  rcases h0 with ⟨hv, h0⟩ | ⟨g', cap, cur, hv, hg, hh, hc, _, hs, ht⟩
  · injection hv with h1; cases h1
  · injection hv with h1
    injection h1 with h1
    injection h1 with h1
    subst h1
    refine ⟨cur, hh, fun j hj => ?_⟩
    have hl' : (ints vs).length = n := by omega
    have hx : (ints vs)[j]? = cur.toList[j]? := by
      rw [← ht, List.getElem?_take, if_pos (by omega)]
    have hj' : j < vs.length := by rw [ints_len] at hl'; omega
    refine ⟨vs[j], ?_⟩
    rw [← Array.getElem?_toList, ← hx]
    simp [ints, hj']

/-- What watch answers. -/
def WatchP (vs : List Int) (w : World) (e : Ending) (w' : World) : Prop :=
  Below w.heap.size w w' ∧ ((∃ p r, e = .returned (.tuple #[.pointer (some ⟨p, 0, none⟩), .pointer (some ⟨r, 0, none⟩), .bool true]) ∧ Ok vs ∧ PW w' w.heap.size p vs [] ∧ RW w' w.heap.size r none vs []) ∨
    (e = .returned (.tuple #[.pointer none, .pointer none, .bool true]) ∧ ¬ Ok vs))

set_option maxRecDepth 100000 in
set_option maxHeartbeats 4000000 in
theorem watch_any (A A' : Option Addr) (n c n' c' : Nat) (vs : List Int) (w : World) (h : RI w w.heap.size A n vs) (hn : n * 8 ≤ 140737488351232) :
    Calls Try.prog 28 #[.agg #[.slice A n c, .slice A' n' c']] w (WatchP vs w) := by
  have hl := hide h.len
  have H0 : Below w.heap.size w (w.alloc (.cells #[.slice A n c, .slice A' n' c'] 53)) := (Below.refl _ w).alloc (Nat.le_refl _) _
  have B0 : Blk (w.alloc (.cells #[.slice A n c, .slice A' n' c'] 53)) w.heap.size 53 #[.slice A n c, .slice A' n' c'] := Blk.new _ _ _
  have V0 : RI (w.alloc (.cells #[.slice A n c, .slice A' n' c'] 53)) w.heap.size A n vs := Reads.below h H0
  go_enter Try.func28, Try.ntmps28
  go_wp2_with fail
  obtain ⟨w0, hw0⟩ : ∃ w0, w0 = w.alloc (.cells #[.slice A n c, .slice A' n' c'] 53) := ⟨_, rfl⟩
  rw [← hw0] at H0 B0 V0 ⊢
  clear hw0
  have hs0 := H0.size
  refine (lent_any A n c vs w0 (Reads.more V0 hs0) hn).mono ?_
  rintro e w1 ⟨gf, cf, rfl, hown1, hb1⟩
  have hs1 := hb1.size
  have B1 := B0.below hb1 B0.lt
  have V1 : RI w1 w.heap.size A n vs := Reads.below V0 (hb1.mono hs0)
  have H1 := hide (H0.trans (hb1.mono hs0))
  have hgf := hown1.lt gf rfl
  have hx0 : w.heap.size < w0.heap.size := B0.lt
  have O1 := hide hown1
  have hcf : n + 64 ≤ cf := by
    obtain ⟨_, h2⟩ := hown1
    rcases h2 with ⟨hv, _⟩ | ⟨g', cap, cur, hv, hg, hh, hc, r⟩
    · injection hv with h1; cases h1
    · injection hv with _ _ h1
      omega
  clear H0 B0 V0 hb1 hown1
  obtain ⟨k0, k1⟩ := blk2 B1
  go_wp2_with fail
  have hfr : RI w1 w1.heap.size (some ⟨gf, 0, none⟩) n vs := RI.front (us := marks 64) (Reads.of_own O1.out) hl.out
  refine (new_any (some ⟨gf, 0, none⟩) n cf vs w1 hfr (by omega)).mono ?_
  rintro e w2 ⟨hb2, hnew⟩
  have hs2 := hb2.size
  have B2 := B1.below hb2 B1.lt
  have V2 : RI w2 w.heap.size A n vs := Reads.below V1 (hb2.mono (by omega))
  have H2 := hide (H1.out.trans (hb2.mono (by omega)))
  have O2 := hide (own_below O1.out hb2)
  clear B1 V1 H1 O1 hb2 hfr k0 k1
  obtain ⟨k0, k1⟩ := blk2 B2
  rcases hnew with ⟨p, rfl, hok, P2⟩ | ⟨rfl, hbad⟩
  · have HOK := hide hok
    go_wp2_with fail
    refine (rnew_any A n c vs w2 (Reads.more V2 (by omega)) (by omega)).mono ?_
    rintro e w3 ⟨hb3, hnew⟩
    rcases hnew with ⟨r, rfl, _, R3⟩ | ⟨rfl, hbad⟩
    · have hs3 := hb3.size
      have B3 := B2.below hb3 B2.lt
      have V3 : RI w3 w.heap.size A n vs := Reads.below V2 (hb3.mono (by omega))
      have H3 := hide (H2.out.trans (hb3.mono (by omega)))
      have O3 := hide (own_below O2.out hb3)
      have P3 := P2.below hb3
      clear B2 V2 H2 O2 hb3 P2 k0 k1 hok
      obtain ⟨k0, k1⟩ := blk2 B3
      go_wp2_with (go_at_call 17; refine (num_any _ _).mono ?_; rintro e w' ⟨rfl, rfl⟩)
      refine (kept_true (some ⟨gf, 0, none⟩) A w3.heap.size w.heap.size n cf c vs w3 (Reads.of_own O3.out) hcf V3 (by omega)).mono ?_
      rintro e w4 ⟨rfl, m4, rfl⟩
      have hir : IntRoom w3 gf n := own_introom O3.out (by omega)
      clear k0 k1
      go_wp2
      go_loopw [12] (fun i wr => ∃ (k : Nat), k ≤ n ∧ i = .int .i64 k ∧ Only (fun x => x = gf) w3 wr ∧ Hid (IntRoom wr gf n)) (fun i _ => n - (intOf i).toNat)
      case atStart => exact ⟨0, Nat.zero_le _, rfl, (Only.refl _ _).drewN _, hir⟩
      case round =>
        obtain ⟨k, hk, rfl, hor, hRr⟩ := hrel
        by_cases hlt : k < n
        · obtain ⟨⟨x, q0⟩, f0⟩ := hRr.out.at_ hlt
          have hor := hide hor
          go_wp2
          go_roundw
          case rel => exact ⟨k + 1, by omega, by go_num, Only.set1 hor.out _ _, IntRoom.set_ hRr.out _ _⟩
          case measure => simp [intOf]; omega
        · obtain rfl : k = n := by omega
          go_wp2
          go_ret3
          refine ⟨H3.out.trans (hor.below (by omega) (by intro x hx; omega)), .inl ⟨p, r, rfl, HOK.out, (P3.above hor (by intro x hx; omega)).base (by omega), (R3.above hor (by intro x hx; omega)).base (by omega)⟩⟩
    · exact absurd HOK.out hbad
  · have HOK := hide hbad
    go_wp2_with fail
    refine (rnew_any A n c vs w2 (Reads.more V2 (by omega)) (by omega)).mono ?_
    rintro e w3 ⟨hb3, hnew⟩
    rcases hnew with ⟨r, rfl, hok, R3⟩ | ⟨rfl, _⟩
    · exact absurd hok HOK.out
    · have hs3 := hb3.size
      have B3 := B2.below hb3 B2.lt
      have V3 : RI w3 w.heap.size A n vs := Reads.below V2 (hb3.mono (by omega))
      have H3 := hide (H2.out.trans (hb3.mono (by omega)))
      have O3 := hide (own_below O2.out hb3)
      clear B2 V2 H2 O2 hb3 k0 k1 hbad
      obtain ⟨k0, k1⟩ := blk2 B3
      go_wp2_with (go_at_call 17; refine (num_any _ _).mono ?_; rintro e w' ⟨rfl, rfl⟩)
      refine (kept_true (some ⟨gf, 0, none⟩) A w3.heap.size w.heap.size n cf c vs w3 (Reads.of_own O3.out) hcf V3 (by omega)).mono ?_
      rintro e w4 ⟨rfl, m4, rfl⟩
      have hir : IntRoom w3 gf n := own_introom O3.out (by omega)
      clear k0 k1
      go_wp2
      go_loopw [12] (fun i wr => ∃ (k : Nat), k ≤ n ∧ i = .int .i64 k ∧ Only (fun x => x = gf) w3 wr ∧ Hid (IntRoom wr gf n)) (fun i _ => n - (intOf i).toNat)
      case atStart => exact ⟨0, Nat.zero_le _, rfl, (Only.refl _ _).drewN _, hir⟩
      case round =>
        obtain ⟨k, hk, rfl, hor, hRr⟩ := hrel
        by_cases hlt : k < n
        · obtain ⟨⟨x, q0⟩, f0⟩ := hRr.out.at_ hlt
          have hor := hide hor
          go_wp2
          go_roundw
          case rel => exact ⟨k + 1, by omega, by go_num, Only.set1 hor.out _ _, IntRoom.set_ hRr.out _ _⟩
          case measure => simp [intOf]; omega
        · obtain rfl : k = n := by omega
          go_wp2
          go_ret3
          exact ⟨H3.out.trans (hor.below (by omega) (by intro x hx; omega)), .inr ⟨rfl, HOK.out⟩⟩
end Go.Proofs.Yteckffndboiknaa
