/-
  Contract of the law's enters: one Enter, of the program and of the reference.
-/
import Derived.Test.YteckffndboiknaaLawW
set_option linter.unusedVariables false
namespace Go.Proofs.Yteckffndboiknaa
open Go.RowKit Go.WideShapes Go.ChangeShapes Q

theorem RW.apart' {w w' : World} {F : Nat → Prop} {base r : Nat} {g : Option Nat} {vs : List Int} {L : List Ve} (h : RW w base r g vs L) (ho : Only F w w') (h0 : ¬ F r) (hg : ∀ k, g = some k → ¬ F k) (h1 : Apart w F 3)
    (h2 : ∀ e ∈ L, ∀ k, (Value.slice e.A e.v.ms.length e.c).ownBlock = some k → ¬ F k) : RW w' base r g vs L := by
  obtain ⟨Av, cv, Aw, cw, hb, hbase, hv, hw, hgg, hm, hok, hh⟩ := h
  exact ⟨Av, cv, Aw, cw, hb.only ho h0, hbase, own_apart hv ho h1, own_only hw ho (fun k hk => hg k (by rw [← hgg]; exact hk)), hgg, fun e he => own_only (hm e he) ho (h2 e he), hok, hh⟩
theorem RW.rowlt {w : World} {base r : Nat} {g : Option Nat} {vs : List Int} {L : List Ve} (h : RW w base r g vs L) : ∀ e ∈ L, ∀ k, (Value.slice e.A e.v.ms.length e.c).ownBlock = some k → k < w.heap.size := by
  obtain ⟨Av, cv, Aw, cw, hb, hbase, hv, hw, hgg, hm, hok, hh⟩ := h
  exact fun e he k hk => ((hm e he).lt k hk).2
/-- A row of the call's own as a block known to its length. -/
theorem own_blk {w : World} {base : Nat} {e : TypeId} {size n : Nat} {A : Option Addr} {c : Nat} {xs : List Value} (h : w.ownsRow base e size (.slice A n c) n xs) (hn : 0 < n) : ∃ g cur, A = some ⟨g, 0, none⟩ ∧ base ≤ g ∧ Blk w g e cur ∧ n * size ≤ cur.size := by
  rcases h.2 with ⟨_, h0⟩ | ⟨g, cap, cur, hv, hg, hh, hc, _, hs, _⟩
  · omega
  · have e : A = some ⟨g, 0, none⟩ := by injection hv
    exact ⟨g, cur, e, hg, hh, by rw [hs]; exact Nat.mul_le_mul_right _ hc⟩
/-- The cells of a block known by its length alone may be written. -/
def Room (w : World) (g : Nat) (t : TypeId) (m : Nat) : Prop := ∃ cur, Blk w g t cur ∧ m ≤ cur.size
theorem Room.at_ {w : World} {g m : Nat} {t : TypeId} (h : Room w g t m) {j : Nat} (hj : j < m) : (∃ u, w.cell? ⟨g, j, none⟩ = some u) ∧ w.frozen? ⟨g, j, none⟩ = false := by
  obtain ⟨cur, hb, hs⟩ := h
  refine ⟨⟨cur[j]'(by omega), ?_⟩, hb.frozen j⟩
  rw [hb.cell, Array.getElem?_eq_getElem]
theorem Room.set_ {w : World} {g m : Nat} {t : TypeId} (h : Room w g t m) (j : Nat) (u : Value) : Room (w.setCell ⟨g, j, none⟩ u) g t m := by
  obtain ⟨cur, hb, hs⟩ := h
  exact ⟨_, hb.set_ j u, by simpa using hs⟩

/-- What a step of the law on both watches does. -/
def StepP (base p r : Nat) (g : Option Nat) (vs : List Int) (L : List Ve) (h' : List Vw) (w : World) (e : Ending) (w' : World) : Prop :=
  e = .returned (.bool true) ∧ ∃ g' L', PW w' base p vs (hist L') ∧ RW w' base r g' vs L' ∧ hist L' = h' ∧ Only (fun k => k = p ∨ k = r ∨ g = some k) w w' ∧ (g' = g ∨ ∃ k, g' = some k ∧ w.heap.size ≤ k)

theorem own_room {w : World} {base : Nat} {e : TypeId} {size n : Nat} {A : Option Addr} {c : Nat} {xs : List Value} (h : w.ownsRow base e size (.slice A n c) n xs) : ∀ g, A = some ⟨g, 0, none⟩ → Room w g e (n * size) := by
  intro g hA
  rcases h.2 with ⟨hv, h0⟩ | ⟨g', cap, cur, hv, hg, hh, hc, _, hs, _⟩
  · subst hA; injection hv with h1; cases h1
  · subst hA
    injection hv with h1
    injection h1 with h1
    injection h1 with h1
    subst h1
    exact ⟨cur, hh, by rw [hs]; exact Nat.mul_le_mul_right _ hc⟩
theorem Only.setRow {w w1 : World} {A : Option Addr} {n c g : Nat} (hA : A = some ⟨g, 0, none⟩) (h : Only (fun k => (Value.slice A n c).ownBlock = some k) w w1) (i : Nat) (u : Value) : Only (fun k => (Value.slice A n c).ownBlock = some k) w (w1.setCell ⟨g, i, none⟩ u) :=
  Only.setCell (F := fun k => (Value.slice A n c).ownBlock = some k) h (p := ⟨g, i, none⟩) (fun _ => by subst hA; rfl) u
theorem RW.vbase {w : World} {base r : Nat} {g : Option Nat} {vs : List Int} {L : List Ve} (h : RW w base r g vs L) : ∀ k, g = some k → base ≤ k := by
  obtain ⟨Av, cv, Aw, cw, hb, hbase, hv, hw, hgg, _⟩ := h
  intro k hk
  exact (hw.lt k (by rw [hgg]; exact hk)).1
theorem RW.gblk {w : World} {base r : Nat} {g : Option Nat} {vs : List Int} {L : List Ve} (h : RW w base r g vs L) : ∀ k, g = some k → ∃ cs, Blk w k 63 cs := by
  obtain ⟨Av, cv, Aw, cw, hb, hbase, hv, hw, hgg, _⟩ := h
  intro k hk
  exact own_is_blk hw (by rw [hgg]; exact hk)
theorem RW.rblk {w : World} {base r : Nat} {g : Option Nat} {vs : List Int} {L : List Ve} (h : RW w base r g vs L) : ∃ cs, Blk w r 117 cs := by
  obtain ⟨Av, cv, Aw, cw, hb, _⟩ := h
  exact ⟨_, hb⟩
theorem PW.pblk {w : World} {base p : Nat} {vs : List Int} {h : List Vw} (hp : PW w base p vs h) : ∃ cs, Blk w p 114 cs := by
  obtain ⟨b, hb, _⟩ := hp; exact ⟨_, hb⟩
theorem RW.apartF {w : World} {base r : Nat} {g : Option Nat} {vs : List Int} {L : List Ve} (h : RW w base r g vs L) {t : TypeId} (h1 : t ≠ 117) (h2 : t ≠ 63) : Apart w (fun k => k = r ∨ g = some k) t := fun k _ hk => by
  rcases hk with rfl | hk
  · obtain ⟨cs, hb⟩ := h.rblk; exact ⟨117, cs, hb, fun h => h1 h.symm⟩
  · obtain ⟨cs, hb⟩ := h.gblk k hk; exact ⟨63, cs, hb, fun h => h2 h.symm⟩
/-- The reference's watch behind a step of the program's. -/
theorem RW.behindP {w w' : World} {base p r : Nat} {g : Option Nat} {vs us : List Int} {h : List Vw} {L : List Ve} (hr : RW w base r g vs L) (hp : PW w base p us h) (ho : Only (fun k => k = p) w w') : RW w' base r g vs L := by
  obtain ⟨cs, hb⟩ := hp.pblk
  refine hr.apart ho ?_ ?_ (apart_one hb (by decide)) (apart_one hb (by decide))
  · rintro rfl
    obtain ⟨cs', hb'⟩ := hr.rblk
    exact Blk.ne_ hb hb' (by decide) rfl
  · rintro k hk rfl
    obtain ⟨cs', hb'⟩ := hr.gblk k hk
    exact Blk.ne_ hb hb' (by decide) rfl
/-- The program's watch behind a step of the reference's. -/
theorem PW.behindR {w w' : World} {base p r : Nat} {g : Option Nat} {vs us : List Int} {h : List Vw} {L : List Ve} (hp : PW w base p us h) (hr : RW w base r g vs L) (ho : Only (fun k => k = r ∨ g = some k) w w') : PW w' base p us h := by
  obtain ⟨cs, hb⟩ := hp.pblk
  refine hp.apart ho ?_ (hr.apartF (by decide) (by decide)) (hr.apartF (by decide) (by decide))
  rintro (rfl | hk)
  · obtain ⟨cs', hb'⟩ := hr.rblk
    exact Blk.ne_ hb hb' (by decide) rfl
  · obtain ⟨cs', hb'⟩ := hr.gblk p hk
    exact Blk.ne_ hb hb' (by decide) rfl

set_option maxRecDepth 100000 in
set_option maxHeartbeats 4000000 in
theorem enters_any (v : Vw) (A : Option Addr) (n c base p r : Nat) (g : Option Nat) (vs : List Int) (L : List Ve) (w : World) (hp : PW w base p vs (hist L)) (hr : RW w base r g vs L) (hv : RS w base A n v.ms) (hn : n * 24 ≤ 140737488351232) (hL : (L.length + 1) * 56 ≤ 140737488351232) :
    Calls Try.prog 52 #[.pointer (some ⟨p, 0, none⟩), .pointer (some ⟨r, 0, none⟩), vwV v A n c] w (StepP base p r g vs L (enH vs (hist L) v) w) := by
  have hpl := hp.lt
  have hrl := hr.lt
  have hgl := hide hr.glt
  have hrow := hide hr.rowlt
  have hbr : base ≤ r := by obtain ⟨_, _, _, _, _, hq, _⟩ := id hr; exact hq
  have hbp : base ≤ p := by obtain ⟨_, _, hq, _⟩ := id hp; exact hq
  have hgb := hide hr.vbase
  have hbw : base ≤ w.heap.size := by omega
  have H0 : Below w.heap.size w (w.alloc (vwO v A n c)) := (Below.refl _ w).alloc (Nat.le_refl _) _
  have B0 : Blk (w.alloc (vwO v A n c)) w.heap.size 63 #[.int .i64 v.ep, .int .i64 v.lead, .int .i64 v.inc, .int .i64 v.cid, .slice A n c] := Blk.new _ _ _
  have P0 := hp.below H0
  have R0 := hr.below H0
  have V0 : RS _ base A n v.ms := Reads.below hv (H0.mono hbw)
  unfold vwV
  unfold vwO at H0 B0 P0 R0 V0
  go_enter Try.func52, Try.ntmps52
  go_wp2_with fail
  obtain ⟨w0, hw0⟩ : ∃ w0, w0 = w.alloc (.cells #[.int .i64 v.ep, .int .i64 v.lead, .int .i64 v.inc, .int .i64 v.cid, .slice A n c] 63) := ⟨_, rfl⟩
  rw [← hw0] at H0 B0 P0 R0 V0 ⊢
  clear hw0
  have hs0 := H0.size
  refine (memcopy_any v A n c w0 (V0.more (by omega)) hn).mono ?_
  rintro e w1 ⟨A1, c1, rfl, hown1, hb1⟩
  have hs01 := hb1.size
  have hlt1 := hide hown1.lt
  have H1 := H0.trans (hb1.mono hs0)
  have B1 := hide (B0.below hb1 B0.lt)
  have P1 := P0.below hb1
  have R1 := R0.below hb1
  have V1 : RS w1 base A n v.ms := Reads.below V0 (hb1.mono (by omega))
  have hs1 := H1.size
  have hx0 : w.heap.size < w0.heap.size := B0.lt
  have HA1 := (Below.refl w1.heap.size w1).alloc (Nat.le_refl _) (vwO v A1 n c1)
  have H2 : Below w.heap.size w (w1.alloc (vwO v A1 n c1)) := H1.alloc hs1 _
  have I2 : Blk (w1.alloc (vwO v A1 n c1)) w1.heap.size 63 #[.int .i64 v.ep, .int .i64 v.lead, .int .i64 v.inc, .int .i64 v.cid, .slice A1 n c1] := Blk.new _ _ _
  have B2 := B1.out.alloc (vwO v A1 n c1)
  have P2 := P1.below HA1
  have R2 := R1.below HA1
  have O2 := hide (hown1.alloc (vwO v A1 n c1))
  have V2 : RS _ base A n v.ms := Reads.below V1 (HA1.mono (by omega))
  clear H0 H1 P0 P1 R0 R1 V0 V1 B0 B1 hb1 hown1 hs0 HA1
  unfold vwV vwO at *
  go_wp2_with fail
  obtain ⟨w2, hw2⟩ : ∃ w2, w2 = w1.alloc (.cells #[.int .i64 v.ep, .int .i64 v.lead, .int .i64 v.inc, .int .i64 v.cid, .slice A1 n c1] 63) := ⟨_, rfl⟩
  rw [← hw2] at H2 I2 B2 P2 R2 O2 V2 ⊢
  have hs2 : w2.heap.size = w1.heap.size + 1 := by rw [hw2]; simp
  clear hw2
  have hs2' : w1.heap.size < w2.heap.size := by omega
  have HS2 := hide hs2
  clear hs2
  have hH2 := hide H2
  clear H2
  have HE := enter_any v.ep v.lead v.inc v.cid v.ms A1 n c1 base p vs (hist L) w2 P2 (Reads.of_own O2.out) hn (by rw [hist_len]; omega)
  refine HE.mono ?_
  clear HE
  rintro e w3 ⟨rfl, ho3, P3⟩
  have R3 := R2.behindP P2 ho3
  have B3 := B2.only ho3 (by omega)
  have I3 := I2.only ho3 (by omega)
  have O3 := hide (own_apart O2.out ho3 (by obtain ⟨cs, hb⟩ := P2.pblk; exact apart_one hb (by decide)))
  have V3 : RS w3 base A n v.ms := Reads.below V2 (ho3.below (by omega) (by intro k hk; omega))
  have H3 := hide ho3
  have hs3 := ho3.size
  clear R2 B2 I2 O2 V2 P2 ho3
  obtain ⟨k0, k1, k2, k3, k4⟩ := blk5 B3
  go_wp2_with fail
  refine (memcopy_any v A n c w3 (V3.more (by omega)) hn).mono ?_
  rintro e w4 ⟨A4, c4, rfl, hown4, hb4⟩
  clear k0 k1 k2 k3 k4
  have hs4 := hb4.size
  have P4 := P3.below hb4
  have R4 := R3.below hb4
  have B4 := B3.below hb4 B3.lt
  have I4 := I3.below hb4 I3.lt
  have O4 := hide (own_below O3.out hb4)
  have V4 : RS w4 base A n v.ms := Reads.below V3 (hb4.mono (by omega))
  have H4 := hide hb4
  clear P3 R3 B3 I3 O3 V3 hb4
  unfold vwV
  go_wp2_with fail
  have HE := renter_any v.ep v.lead v.inc v.cid v.ms A4 n c4 w3.heap.size base r g vs L w4 R4 hown4 hn hL
  refine HE.mono ?_
  clear HE
  rintro e w5 ⟨rfl, ho5, g', L', R5, hh5, hg5, hn5⟩
  have hs5 := ho5.size
  have P5 := P4.behindR R4 ho5
  have hI : ∀ x, w.heap.size ≤ x → ¬ (x = r ∨ g = some x) := fun x hx hf => by
    rcases hf with hf | hf
    · omega
    · have := hgl.out x hf; omega
  have B5 := B4.only ho5 (hI _ (by omega))
  have I5 := I4.only ho5 (hI _ (by omega))
  have O5 := hide (own_apart O4.out ho5 (R4.apartF (by decide) (by decide)))
  have V5 : RS w5 base A n v.ms := Reads.below V4 (ho5.below (by omega) (by
    intro k hk hf
    rcases hf with hf | hf
    · omega
    · have := hgb.out k hf; omega))
  have H5 := hide ho5
  have HN5 := hide hn5
  clear P4 R4 B4 I4 O4 V4 ho5 hown4 hI hn5
  obtain ⟨k0, k1, k2, k3, k4⟩ := blk5 B5
  obtain ⟨l0, l1, l2, l3, l4⟩ := blk5 I5
  go_wp2_with fail
  have HE := sameView_true v A1 A n c1 c w5 (Reads.of_own O5.out) (V5.more (by omega)) (by omega)
  refine HE.mono ?_
  clear HE
  rintro e w6 ⟨rfl, hb6⟩
  clear k0 k1 k2 k3 k4 l0 l1 l2 l3 l4
  have hs6 := hb6.size
  have P6 := P5.below hb6
  have R6 := R5.below hb6
  have I6 := I5.below hb6 I5.lt
  have O6 := hide (own_below O5.out hb6)
  have H6 := hide hb6
  clear P5 R5 B5 I5 O5 V5 hb6
  have HP6 := hide P6
  have HR6 := hide R6
  have hh5 := hide hh5
  have hg5 := hide hg5
  have HI6 := hide (own_room O6.out)
  have hil := I6.lt
  have hw16 : w1.heap.size < w6.heap.size := hil
  clear P6 R6
  go_wp2
  go_loopw [13] (fun i wr => ∃ (k : Nat), k ≤ n ∧ i = .int .i64 k ∧ Only (fun x => (Value.slice A1 n c1).ownBlock = some x) w6 wr ∧ Blk wr w1.heap.size 63 #[.int .i64 v.ep, .int .i64 v.lead, .int .i64 v.inc, .int .i64 v.cid, .slice A1 n c1] ∧ Hid (∀ gi, A1 = some ⟨gi, 0, none⟩ → Room wr gi 103 (n * 3))) (fun i _ => n - (intOf i).toNat)
  case atStart => exact ⟨0, Nat.zero_le _, rfl, Only.refl _ _, I6, HI6⟩
  case round =>
    obtain ⟨k, hk, rfl, hor, hIr, hRr⟩ := hrel
    obtain ⟨l0, l1, l2, l3, l4⟩ := blk5 hIr
    by_cases hlt : k < n
    · obtain ⟨gi, cur, hA, hgi, hbi, _⟩ := own_blk O6.out (by omega)
      have hA' := hide hA
      subst hA
      have hrm := hRr.out gi rfl
      obtain ⟨⟨u0, q0⟩, f0⟩ := hrm.at_ (j := k * 3) (by omega)
      obtain ⟨⟨u1, q1⟩, f1⟩ := hrm.at_ (j := k * 3 + 1) (by omega)
      obtain ⟨⟨u2, q2⟩, f2⟩ := hrm.at_ (j := k * 3 + 2) (by omega)
      have hrm := hide hrm
      have hne : ¬ gi = w1.heap.size := by
        intro e
        obtain ⟨cu, hb, _⟩ := hrm.out
        exact Blk.ne_ hb hIr (by decide) e
      have hne2 : ¬ w1.heap.size = gi := fun e => hne e.symm
      have hIr := hide hIr
      have hor := hide hor
      clear hbi
      go_wp2
      go_roundw
      case rel =>
        refine ⟨k + 1, by omega, by go_num, ?_, ?_, ?_⟩
        · repeat (first | with_reducible exact hor.out | with_reducible refine Only.setRow hA'.out ?_ _ _)
        · repeat (first | with_reducible exact hIr.out | with_reducible refine Blk.far ?_ hne2 _)
        · intro gj hj
          injection hj with hj
          injection hj with hj
          subst hj
          repeat (first | with_reducible exact hrm.out | with_reducible refine Room.set_ ?_ _ _)
      case measure => simp [intOf]; omega
    · obtain rfl : k = n := by omega
      go_wp2_with (go_at_call 17; refine (num_any _ _).mono ?_; rintro e w' ⟨rfl, rfl⟩)
      go_ret
      have hF : ∀ x, (Value.slice A1 k c1).ownBlock = some x → w0.heap.size ≤ x ∧ x < w1.heap.size := fun x hx => hlt1.out x hx
      have hap : ∀ t, t ≠ 103 → Apart w6 (fun x => (Value.slice A1 k c1).ownBlock = some x) t := fun t ht x _ hx => by
        obtain ⟨cs, hb⟩ := own_is_blk O6.out hx
        exact ⟨103, cs, hb, fun h => ht h.symm⟩
      refine ⟨rfl, g', L', ?_, ?_, hh5.out, ?_, ?_⟩
      · rw [hh5.out]
        exact HP6.out.apart hor (fun h => by have := hF p h; omega) (hap _ (by decide)) (hap _ (by decide))
      · refine HR6.out.apart' hor (fun h => by have := hF r h; omega) (fun x hx h => ?_) (hap _ (by decide)) (fun e he x hx h => ?_)
        · have := hF x h
          rcases hg5.out with hg | ⟨y, hg, hy⟩
          · rw [hg] at hx
            have := hgl.out x hx
            omega
          · rw [hg] at hx
            injection hx with hx
            omega
        · have := hF x h
          rcases HN5.out e he with he | he
          · have := hrow.out e he x hx
            omega
          · have := he x hx
            omega
      · have a1 := Only.of_below (F := fun k => k = p ∨ k = r ∨ g = some k) hH2.out (Nat.le_refl _)
        have a2 := a1.trans (H3.out.mono fun k _ hk => Or.inl hk)
        have a3 := a2.trans (Only.of_below H4.out (Nat.le_refl _))
        have a4 := a3.trans (H5.out.mono fun k _ hk => Or.inr hk)
        have a5 := a4.trans (Only.of_below H6.out (Nat.le_refl _))
        exact a5.trans' hor fun x hx h => by have := hF x h; omega
      · rcases hg5.out with hg | ⟨y, hg, hy⟩
        · exact .inl hg
        · exact .inr ⟨y, hg, by omega⟩
end Go.Proofs.Yteckffndboiknaa
