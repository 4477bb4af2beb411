/-
  Contract of the reference's Enter.
-/
import Derived.Test.YteckffndboiknaaRAsk
import Derived.Deep.RegionLaw
set_option linter.unusedVariables false
namespace Go.Proofs.Yteckffndboiknaa
open Go.RowKit Go.WideShapes Go.ChangeShapes Q

theorem info103 : (Try.prog.info? 103).map (fun i => (i.zero, i.size, i.bytes)) = some (some (.agg #[.int .i64 0, .int .i64 0, .int .i64 0]), 3, 24) := by kernel_rfl
theorem info63 : (Try.prog.info? 63).map (fun i => (i.zero, i.size, i.bytes)) = some (some (.agg #[.int .i64 0, .int .i64 0, .int .i64 0, .int .i64 0, .slice none 0 0]), 5, 56) := by kernel_rfl
theorem sts_one (l : List (Int × Int × Int)) : ∀ u ∈ sts l, u.oneCell' = true := by
  intro u hu
  simp only [sts, List.mem_flatMap, List.mem_cons, List.not_mem_nil, or_false] at hu
  obtain ⟨x, _, rfl | rfl | rfl⟩ := hu <;> rfl

/-- An append of elements that lie in a block known whole, as a step of a region that draws. -/
theorem step_push {P : Program} (w : World) {ops : Array Oper} {o : Oper} {a : Act} {K : Act → World → Prop} {Q : Exit → Act → World → Prop} {E : Prop} (hgd : o.guard = none) (s x : Operand) (t : TypeId)
    (ho : o.op = .call { callee := .builtin .append, args := #[s, x], argTypes := #[t, t] })
    (base : Nat) (e : TypeId) (i : TypeInfo) (z : Value) (size bytes : Nat) (ht : P.underlying t = some (.slice e)) (hi : P.info? e = some i) (hz : i.zero = some z)
    (hsize : i.size = size) (hby : i.bytes = bytes) (hzs : z.cells.size = size) (hsz : 0 < size)
    (v : Value) (n : Nat) (xs : List Value) (hs : a.eval s = v) (hown : w.ownsRow base e size v n xs)
    (gx m c : Nat) (cs : Array Value) (hx : a.eval x = .slice (some ⟨gx, 0, none⟩) m c) (hb : Blk w gx e cs) (hcs : cs.size = m * size) (h1 : ∀ u ∈ cs.toList, u.oneCell' = true)
    (hm : 0 < m) (h63 : n + m ≤ maxLen) (hbytes : (n + m) * bytes ≤ 140737488355328) (hbase : base ≤ w.heap.size)
    (h : ∀ g cap w', w'.ownsRow base e size (.slice (some ⟨g, 0, none⟩) (n + m) cap) (n + m) (xs ++ cs.toList) → w.grownBy w' v.ownBlock → (v.ownBlock = some g ∨ g = w.heap.size) → g < w'.heap.size → K (a.put o.dst (.slice (some ⟨g, 0, none⟩) (n + m) cap)) w') :
    if Region.wanted o (yielded ops a.tmps) = true then Oper.wp P o a w K Q else E :=
  step_append_lies w hgd s x t ho base e i z size bytes ht hi hz hsize hby hzs hsz v n xs hs hown ⟨gx, 0, none⟩ m c cs.toList hx (by simpa using hcs) (World.news_of_block hb) h1 hm h63 hbytes hbase w.heap.size rfl h

theorem RW.glt {w : World} {base r : Nat} {g : Option Nat} {vs : List Int} {L : List Ve} (h : RW w base r g vs L) : ∀ k, g = some k → k < w.heap.size := by
  obtain ⟨Av, cv, Aw, cw, hb, hbase, hv, hw, hgg, _⟩ := h
  intro k hk
  exact (hw.lt k (by rw [hgg]; exact hk)).2
theorem own_below {w w' : World} {base : Nat} {e : TypeId} {size n : Nat} {v : Value} {xs : List Value} (ho : w.ownsRow base e size v n xs) (h : Below w.heap.size w w') : w'.ownsRow base e size v n xs :=
  own_only ho (F := fun _ => False) (Only.of_below h (Nat.le_refl _)) (fun _ _ hf => hf)
theorem own_is_blk {w : World} {base : Nat} {e : TypeId} {size n : Nat} {v : Value} {xs : List Value} (ho : w.ownsRow base e size v n xs) {k : Nat} (hk : v.ownBlock = some k) : ∃ cs, Blk w k e cs := by
  rcases ho.2 with ⟨rfl, _⟩ | ⟨g', cap, cur, rfl, hb, hgg, rest⟩
  · simp [Value.ownBlock] at hk
  · obtain rfl : g' = k := by simpa [Value.ownBlock] using hk
    exact ⟨cur, hgg⟩
theorem b2_1 {w : World} {p : Nat} {t : TypeId} {a0 a1 u : Value} (hb : Blk w p t #[a0, a1]) : Blk (w.setCell ⟨p, 1, none⟩ u) p t #[a0, u] := hb.set_ 1 u

/-- Behind the append of a view and the store of the new list. -/
theorem renter_mem {w2 w3 w4 : World} {base r n c2 bv cA x0 : Nat} {g : Option Nat} {vs : List Int} {L : List Ve} {ms : List (Int × Int × Int)} {ep lead inc cid : Int} {s : Nat} {Av2 Aw2 A2 A : Option Addr} {cv2 cw2 g3 cap3 : Nat} {bx : Array Value}
    (hb2 : Blk w2 r 117 #[.slice Av2 vs.length cv2, .slice Aw2 L.length cw2]) (hvv2 : w2.ownsRow base 3 1 (.slice Av2 vs.length cv2) vs.length (ints vs)) (hw2 : w2.ownsRow base 63 5 (.slice Aw2 L.length cw2) L.length (vcells L))
    (hm2 : ∀ e ∈ L, w2.ownsRow base 103 3 (.slice e.A e.v.ms.length e.c) e.v.ms.length (sts e.v.ms)) (hown2 : w2.ownsRow base 103 3 (.slice A2 n c2) n (sts ms)) (hbx : Blk w2 x0 63 bx) (hvo : w2.ownsRow bv 103 3 (.slice A n cA) n (sts ms))
    (hgg2 : (Value.slice Aw2 L.length cw2).ownBlock = g) (hbase : base ≤ r) (hok : Ok vs) (hh : HOk vs (hist L)) (hs : (Vw.mk ep lead inc cid ms).set vs.length = some s) (hnl : ms.length = n)
    (hg3 : ((w2.alloc (.cells #[.int .i64 ep, .int .i64 lead, .int .i64 inc, .int .i64 cid, .slice A2 n c2] 63)).drew).grownBy w3 (Value.slice Aw2 L.length cw2).ownBlock)
    (hown3 : w3.ownsRow base 63 5 (.slice (some ⟨g3, 0, none⟩) (L.length + 1) cap3) (L.length + 1) (vcells L ++ [.int .i64 ep, .int .i64 lead, .int .i64 inc, .int .i64 cid, .slice A2 n c2]))
    (hat3 : (Value.slice Aw2 L.length cw2).ownBlock = some g3 ∨ g3 = ((w2.alloc (.cells #[.int .i64 ep, .int .i64 lead, .int .i64 inc, .int .i64 cid, .slice A2 n c2] 63)).drew).heap.size)
    (hw4 : w4 = w3.setCell ⟨r, 1, none⟩ (.slice (some ⟨g3, 0, none⟩) (L.length + 1) cap3)) (hx0 : x0 ≠ r) (hxg : ∀ k, g = some k → k ≠ x0) :
    Blk w4 r 117 #[.slice Av2 vs.length cv2, .slice (some ⟨g3, 0, none⟩) (L.length + 1) cap3] ∧ Blk w4 x0 63 bx ∧ w4.ownsRow bv 103 3 (.slice A n cA) n (sts ms) ∧
      RW w4 base r (some g3) vs (L ++ [⟨⟨ep, lead, inc, cid, ms⟩, A2, c2⟩]) ∧ (Only (fun k => k = r ∨ g = some k) w2 w4 ∧ (g = some g3 ∨ w2.heap.size < g3)) := by
  subst hw4
  have ho3 : Only (fun k => g = some k) w2 w3 :=
    (((Only.refl _ w2).alloc (.cells #[.int .i64 ep, .int .i64 lead, .int .i64 inc, .int .i64 cid, .slice A2 n c2] 63)).drew).trans' (Only.of_grown hg3 fun k hk _ => by rw [← hgg2]; exact hk) (fun _ _ h => h)
  have hF : ∀ k, g = some k → ∃ cs, Blk w2 k 63 cs := fun k hk => own_is_blk hw2 (by rw [hgg2]; exact hk)
  have hR3 : Blk w3 r 117 #[.slice Av2 vs.length cv2, .slice Aw2 L.length cw2] := hb2.only ho3 fun hf => by
    obtain ⟨cs, hc⟩ := hF r hf
    exact Blk.ne_ hc hb2 (by decide) rfl
  have ho4 : Only (fun k => k = r ∨ g = some k) w2 (w3.setCell ⟨r, 1, none⟩ (.slice (some ⟨g3, 0, none⟩) (L.length + 1) cap3)) :=
    Only.setCell (F := fun k => k = r ∨ g = some k) (ho3.mono fun k _ h => Or.inr h) (p := ⟨r, 1, none⟩) (fun _ => Or.inl rfl) _
  have hap : ∀ t, t ≠ 117 → t ≠ 63 → Apart w2 (fun k => k = r ∨ g = some k) t := fun t h1 h2 k _ hk => by
    rcases hk with rfl | hk
    · exact ⟨117, _, hb2, fun h => h1 h.symm⟩
    · obtain ⟨cs, hc⟩ := hF k hk
      exact ⟨63, cs, hc, fun h => h2 h.symm⟩
  have hR4 := b2_1 (u := .slice (some ⟨g3, 0, none⟩) (L.length + 1) cap3) hR3
  have hown4 := own_apart hown3 ((Only.refl (fun k => k = r) w3).set1 1 (.slice (some ⟨g3, 0, none⟩) (L.length + 1) cap3)) (apart_one hR3 (by decide))
  refine ⟨hR4, hbx.only ho4 fun hf => ?_, own_apart hvo ho4 (hap 103 (by decide) (by decide)), ⟨Av2, cv2, some ⟨g3, 0, none⟩, cap3, by simpa using hR4, hbase, own_apart hvv2 ho4 (hap 3 (by decide) (by decide)), ?_, rfl, ?_, hok, ?_⟩, ho4, ?_⟩
  · rcases hf with hf | hf
    · exact hx0 hf
    · exact hxg _ hf rfl
  · rw [vcells_append]
    have e : vcells [⟨⟨ep, lead, inc, cid, ms⟩, A2, c2⟩] = [.int .i64 ep, .int .i64 lead, .int .i64 inc, .int .i64 cid, .slice A2 n c2] := by subst hnl; rfl
    rw [e]
    simpa using hown4
  · intro e he
    rcases List.mem_append.1 he with he | he
    · exact own_apart (hm2 e he) ho4 (hap 103 (by decide) (by decide))
    · obtain rfl : e = ⟨⟨ep, lead, inc, cid, ms⟩, A2, c2⟩ := by simpa using he
      subst hnl
      exact own_apart hown2 ho4 (hap 103 (by decide) (by decide))
  · rw [hist_snoc]
    exact hh.snoc hs
  · rcases hat3 with h | h
    · left; rw [← hgg2]; exact h
    · right
      rw [h]
      show w2.heap.size < (w2.alloc _).heap.size
      simp

/-- The members' rows that are not old are new. -/
def NewRows (w : World) (L L' : List Ve) : Prop := ∀ e ∈ L', e ∈ L ∨ ∀ k, (Value.slice e.A e.v.ms.length e.c).ownBlock = some k → w.heap.size ≤ k
theorem NewRows.same (w : World) (L : List Ve) : NewRows w L L := fun e h => .inl h
theorem NewRows.snoc {w : World} {L : List Ve} {e : Ve} (h : ∀ k, (Value.slice e.A e.v.ms.length e.c).ownBlock = some k → w.heap.size ≤ k) : NewRows w L (L ++ [e]) := fun x hx => by
  rcases List.mem_append.1 hx with hx | hx
  · exact .inl hx
  · obtain rfl : x = e := by simpa using hx
    exact .inr h

/-- What the reference's Enter answers. -/
def REnterP (base r : Nat) (g : Option Nat) (vs : List Int) (L : List Ve) (v : Vw) (w : World) (e : Ending) (w' : World) : Prop :=
  e = .returned (.tuple #[.bool (enB vs (hist L) v), .int .i64 (enE vs (hist L) v)]) ∧ Only (fun k => k = r ∨ g = some k) w w' ∧
    ∃ g' L', RW w' base r g' vs L' ∧ hist L' = enH vs (hist L) v ∧ (g' = g ∨ ∃ k, g' = some k ∧ w.heap.size ≤ k) ∧ NewRows w L L'

set_option maxRecDepth 100000 in
set_option maxHeartbeats 4000000 in
theorem renter_any (ep lead inc cid : Int) (ms : List (Int × Int × Int)) (A : Option Addr) (n c bv base r : Nat) (g : Option Nat) (vs : List Int) (L : List Ve) (w : World) (hr : RW w base r g vs L) (hvo : w.ownsRow bv 103 3 (.slice A n c) n (sts ms)) (hn : n * 24 ≤ 140737488351232) (hL : (L.length + 1) * 56 ≤ 140737488351232) :
    Calls Try.prog 72 #[.pointer (some ⟨r, 0, none⟩), vwV ⟨ep, lead, inc, cid, ms⟩ A n c] w (REnterP base r g vs L ⟨ep, lead, inc, cid, ms⟩ w) := by
  obtain ⟨i0, hi, hz0, hz1, hz2⟩ := info_parts info103
  obtain ⟨j0, hj, hy0, hy1, hy2⟩ := info_parts info63
  have hv : RS w w.heap.size A n ms := Reads.of_own hvo
  have hnl := hide hv.len
  have hglt := hide hr.glt
  have hrlt := hr.lt
  have hbw : base ≤ w.heap.size := by obtain ⟨_, _, _, _, _, hq, _⟩ := id hr; omega
  have H0 : Below w.heap.size w (w.alloc (vwO ⟨ep, lead, inc, cid, ms⟩ A n c)) := (Below.refl _ w).alloc (Nat.le_refl _) _
  have B0 : Blk (w.alloc (vwO ⟨ep, lead, inc, cid, ms⟩ A n c)) w.heap.size 63 #[.int .i64 ep, .int .i64 lead, .int .i64 inc, .int .i64 cid, .slice A n c] := Blk.new _ _ _
  have P0 := hr.below H0
  have V0 := (Reads.below hv H0).more H0.size
  have VO0 := own_below hvo H0
  unfold vwV
  unfold vwO at H0 B0 P0 V0 VO0
  simp only at H0 B0 P0 V0 VO0 ⊢
  go_enter Try.func72, Try.ntmps72
  go_wp2
  obtain ⟨w0, hw0⟩ : ∃ w0, w0 = w.alloc (.cells #[.int .i64 ep, .int .i64 lead, .int .i64 inc, .int .i64 cid, .slice A n c] 63) := ⟨_, rfl⟩
  rw [← hw0] at H0 B0 P0 V0 VO0 ⊢
  have VO0 := hide VO0
  clear hw0
  have HP0 := hide P0
  obtain ⟨Av, cv, Aw, cw, hb, hbase, hvv, hw, hgg, hm, hok, hh⟩ := P0
  have h16 := hok.2.1
  obtain ⟨k0, k1, k2, k3, k4⟩ := blk5 B0
  obtain ⟨m0, m1⟩ := blk2 hb
  have hrl := hb.lt
  have hwl := B0.lt
  have hs0 := H0.size
  clear hb hvv hw hm
  go_region_held3 (fun W => W.cell? ⟨w.heap.size, 0, none⟩ = some (.int .i64 ep) ∧ W.cell? ⟨w.heap.size, 1, none⟩ = some (.int .i64 lead) ∧ W.cell? ⟨w.heap.size, 2, none⟩ = some (.int .i64 inc) ∧ W.cell? ⟨w.heap.size, 3, none⟩ = some (.int .i64 cid) ∧ W.cell? ⟨w.heap.size, 4, none⟩ = some (.slice A n c) ∧ W.cell? ⟨r, 0, none⟩ = some (.slice Av vs.length cv))
    (first | exact ⟨k0, k1, k2, k3, k4, m0⟩ | exact ⟨(hbf.cell (p := ⟨w.heap.size, 0, none⟩) hwl).trans k0, (hbf.cell (p := ⟨w.heap.size, 1, none⟩) hwl).trans k1, (hbf.cell (p := ⟨w.heap.size, 2, none⟩) hwl).trans k2, (hbf.cell (p := ⟨w.heap.size, 3, none⟩) hwl).trans k3, (hbf.cell (p := ⟨w.heap.size, 4, none⟩) hwl).trans k4, (hbf.cell (p := ⟨r, 0, none⟩) hrl).trans m0⟩)
    ((go_at_call 85; refine (valid_any ep lead inc cid ms A n c vs.length _ (Reads.drew V0) (by omega) h16).mono ?_; rintro e w1 ⟨rfl, hbf⟩))
  have P1 : RW w1 base r g vs L := RW.below (w := w0.drew) HP0.out hbf
  have B1 : Blk w1 w.heap.size 63 #[.int .i64 ep, .int .i64 lead, .int .i64 inc, .int .i64 cid, .slice A n c] := Blk.below (w := w0.drew) B0 hbf hwl
  have V1 : RS w1 w1.heap.size A n ms := (Reads.below (Reads.drew V0) hbf).more hbf.size
  have VO1 := hide (own_below (w := w0.drew) VO0.out hbf)
  have O1 : Below w.heap.size w w1 := H0.trans ((below_drew (Below.refl _ w0)).trans (hbf.mono (by exact hs0)))
  clear hbf HP0 B0 V0 VO0 H0 k0 k1 k2 k3 k4 m0 m1 hrl hwl hs0
  have HP1 := hide P1
  obtain ⟨Av, cv, Aw, cw, hb, hbase, hvv, hw, hgg, hm, hok, hh⟩ := P1
  have HB := hide hb
  have hrl := hb.lt
  obtain ⟨k0, k1, k2, k3, k4⟩ := blk5 B1
  obtain ⟨m0, m1⟩ := blk2 hb
  clear hb
  cases hs : (Vw.mk ep lead inc cid ms).set vs.length with
  | none =>
    have he := hide (en_view (h := hist L) hs)
    simp only [Option.isSome_none]
    clear hs
    go_wp2
    go_ret2
    exact ⟨ret2_ (vbool he.out.2.1.symm) (vint he.out.1.symm), Only.of_below O1 (Nat.le_refl _), g, L, HP1.out, he.out.2.2.symm, .inl rfl, NewRows.same _ _⟩
  | some s =>
    simp only [Option.isSome_some]
    have hs16 : s < 65536 := Nat.lt_of_lt_of_le (Vw.set_lt hs) (two_pow_lt _ h16)
    have hms := set_short h16 hs
    simp only at hms
    have RV : RI w1 w1.heap.size Av vs.length vs := Reads.of_own hvv
    have RL := Reads.of_own hw
    have hbw1 : base ≤ w1.heap.size := Nat.le_trans hbw O1.size
    rcases Nat.eq_zero_or_pos L.length with h0 | h0
    · have hl0 : ¬ ep ≤ lastEp (hist L) := by
        obtain rfl := List.eq_nil_of_length_eq_zero h0
        have := (Vw.set_sound_of hs).2.1.1
        show ¬ ep ≤ lastEp []
        rw [lastEp_nil]; simp only at this; omega
      have he := hide (en_ok (v := Vw.mk ep lead inc cid ms) (h := hist L) hs hl0)
      have i2' : decide (0 < L.length) = false := by rw [decide_eq_false_iff_not]; omega
      clear hl0 h0
      have HS := hide hs
      clear hs
      go_wp2
      go_quiet (fail)
      go_wp2_with (at_builtin; refine wpList_append_any _ rfl (.tmp 39) (.tmp 41) _ rfl base 103 i0 _ 3 24 Try.underlying61 hi hz0 hz1 hz2 rfl (by omega) (.slice none 0 0) 0 [] rfl (World.ownsRow_nil _ _ _ _) w1.heap.size A n c (sts ms) rfl (Reads.drewN V1 _) (sts_one ms) (by unfold maxLen; omega) (by omega) hbw1 ?_; intro v2 w2 hown2 hg2 hat2; obtain ⟨A2, c2, hv2, _, _⟩ := own_val hown2; simp only [Nat.zero_add, List.nil_append] at hown2 hv2; rw [hv2] at hown2 hat2 ⊢; have HAT2 : Hid (∀ k, (Value.slice A2 n c2).ownBlock = some k → w.heap.size ≤ k) := (fun k hk => by have hle := O1.size; rcases hat2 with h | h <;> rw [h] at hk <;> simp [Value.ownBlock] at hk; omega); have G2 : Below w1.heap.size w1 w2 := (below_drewN (Below.refl _ w1) _).grown hg2 (Nat.le_refl _) (by simp [Value.ownBlock]); clear hv2 hat2 hg2)
      have P2 : RW w2 base r g vs L := RW.below HP1.out G2
      have B2 : Blk w2 w.heap.size 63 #[.int .i64 ep, .int .i64 lead, .int .i64 inc, .int .i64 cid, .slice A n c] := B1.below G2 B1.lt
      have V2 : RS w2 w2.heap.size A n ms := (Reads.below V1 G2).more G2.size
      have VO2 := hide (own_below VO1.out G2)
      have hown2 := hide hown2
      have O2 : Below w.heap.size w w2 := O1.trans (G2.mono O1.size)
      clear G2 HP1 B1 V1 VO1 O1 k0 k1 k2 k3 k4 m0 m1 hw hvv hm hgg HB RV RL hok hh
      obtain ⟨Av2, cv2, Aw2, cw2, hb2, hbase2, hvv2, hw2, hgg2, hm2, hok2, hh2⟩ := P2
      obtain ⟨k0, k1, k2, k3, k4⟩ := blk5 B2
      obtain ⟨m0, m1⟩ := blk2 hb2
      have hne2 := (own_blk_ne hw2 hb2 (by decide)).symm
      have m1a : ∀ o, (w2.alloc o).cell? ⟨r, 1, none⟩ = some (.slice Aw2 L.length cw2) := fun o => (World.cell?_alloc_lt w2 o _ hb2.lt).trans m1
      have HM2 := hide hm2
      have HVV2 := hide hvv2
      have HB2 := hide hb2
      have HW2 := hide hw2
      have HB2X := hide B2
      have hs2 := O2.size
      have HGG2 := hide hgg2
      clear hm2 hvv2 B2 hgg2
      have hbw2 : base ≤ w2.heap.size := Nat.le_trans hbw O2.size
      go_region_law ((refine step_push _ (by rfl) (.tmp 47) (.tmp 52) _ (by rfl) base 63 j0 _ 5 56 Try.underlying115 hj hy0 hy1 hy2 (by rfl) (by omega) (.slice Aw2 L.length cw2) L.length (vcells L) (by rfl) ?_ w2.heap.size 1 1 #[.int .i64 ep, .int .i64 lead, .int .i64 inc, .int .i64 cid, .slice A2 n c2] (by rfl) ?_ (by rfl) ?_ (by omega) ?_ ?_ ?_ ?_; exact hw2.alloc _; exact Blk.new w2 _ _; (intro u hu; simp at hu; rcases hu with rfl | rfl | rfl | rfl | rfl <;> rfl); (unfold maxLen; omega); omega; (have := hbw2; simp; omega); intro g3 cap3 w3 hown3 hg3 hat3 hlt3; have hR3 := Blk.grown (Blk.drew (hb2.alloc (.cells #[.int .i64 ep, .int .i64 lead, .int .i64 inc, .int .i64 cid, .slice A2 n c2] 63))) hg3 hne2; have f1 := hR3.frozen 1; obtain ⟨p0, p1⟩ := blk2 hR3))
      all_goals
        obtain ⟨w4, hw4⟩ : ∃ w4, w4 = w3.setCell ⟨r, 1, none⟩ (.slice (some ⟨g3, 0, none⟩) (L.length + 1) cap3) := ⟨_, rfl⟩
        rw [← hw4]
        obtain ⟨hR4, hB4, hVO4, hRW4, hO4⟩ := renter_mem HB2.out HVV2.out HW2.out HM2.out hown2.out HB2X.out (VO2.out) HGG2.out hbase2 hok2 hh2 HS.out hnl.out hg3 hown3 hat3 hw4 (by omega) (fun k hk => by have := hglt.out k hk; omega)
        clear hR3 hg3 hown3 hat3 hlt3 p0 p1 f1 hw4 m0 m1 k0 k1 k2 k3 k4 m1a hb2 hw2
        go_wp2
        obtain ⟨m0, m1⟩ := blk2 hR4
        obtain ⟨k0, k1, k2, k3, k4⟩ := blk5 hB4
        have hrl4 := hR4.lt
        have hxl4 := hB4.lt
        have RM4 : RS w4 w4.heap.size A n ms := Reads.of_own hVO4
        have RV4 : RI w4 w4.heap.size Av2 vs.length vs := by
          obtain ⟨Av5, cv5, Aw5, cw5, hb5, _, hv5, _⟩ := hRW4
          have e := hR4.cell 0
          rw [hb5.cell 0] at e
          simp at e
          obtain ⟨rfl, rfl⟩ := e
          exact Reads.of_own hv5
        have HPK := hide (Vw.set_pack HS.out)
        have hn' : n ≤ 17592186044416 := by omega
        go_region_held3 (fun W => W.cell? ⟨w.heap.size, 0, none⟩ = some (.int .i64 ep) ∧ W.cell? ⟨w.heap.size, 1, none⟩ = some (.int .i64 lead) ∧ W.cell? ⟨w.heap.size, 2, none⟩ = some (.int .i64 inc) ∧ W.cell? ⟨w.heap.size, 3, none⟩ = some (.int .i64 cid) ∧ W.cell? ⟨w.heap.size, 4, none⟩ = some (.slice A n c) ∧ W.cell? ⟨r, 0, none⟩ = some (.slice Av2 vs.length cv2))
          (first | exact ⟨k0, k1, k2, k3, k4, m0⟩ | exact ⟨(hbf.cell (p := ⟨w.heap.size, 0, none⟩) hxl4).trans k0, (hbf.cell (p := ⟨w.heap.size, 1, none⟩) hxl4).trans k1, (hbf.cell (p := ⟨w.heap.size, 2, none⟩) hxl4).trans k2, (hbf.cell (p := ⟨w.heap.size, 3, none⟩) hxl4).trans k3, (hbf.cell (p := ⟨w.heap.size, 4, none⟩) hxl4).trans k4, (hbf.cell (p := ⟨r, 0, none⟩) hrl4).trans m0⟩)
          (first
            | ((go_at_call 74; refine (pids_any ep lead inc cid ms A n c vs.length s _ (Reads.drew RM4) hn' h16 HPK.out).mono ?_; rintro e w' ⟨rfl, rfl⟩; have hbf := (Below.refl w4.heap.size w4.drew).alloc (Nat.le_refl _) (vwO ⟨ep, lead, inc, cid, ms⟩ A n c)))
            | ((go_at_call 48; refine (wins_any s Av2 w4.heap.size vs.length cv2 vs _ (Reads.below (Reads.drew RV4) hbf) (by omega) hok2).mono ?_; rintro e w' ⟨rfl, rfl⟩)))
        go_wp2
        go_ret2
        refine ⟨ret2_ (vbool (by rw [he.out.2.1])) (vint he.out.1.symm), ?_, _, _, RW.below hRW4 ((below_drew (Below.refl _ w4)).trans hbf), ?_, ?_, NewRows.snoc (fun k hk => HAT2.out k (by have h := hnl.out; subst h; exact hk))⟩
        · exact (Only.of_below (F := fun k => k = r ∨ g = some k) O2 (Nat.le_refl _)).trans (hO4.1.trans (Only.of_below ((below_drew (Below.refl w4.heap.size w4)).trans hbf) (Nat.le_refl _)))
        · rw [he.out.2.2, hist_snoc]
        · rcases hO4.2 with h | h
          · exact .inl h.symm
          · exact .inr ⟨_, rfl, by omega⟩
    · obtain ⟨m, hmm⟩ : ∃ m, L.length = m + 1 := ⟨L.length - 1, by omega⟩
      have hml : m < L.length := by omega
      have wr1 : IntKind.i64.wrap ((L.length : Int) - 1) = (m : Int) := by rw [IntWalk.i64_in _ (by constructor <;> omega)]; omega
      have i0' : (0 : Int) ≤ (m : Int) := by omega
      have i1' : (m : Int) < (L.length : Int) := by omega
      have i2' : decide (0 < L.length) = true := by rw [decide_eq_true_eq]; omega
      obtain ⟨b, off, rfl, hab, q0, q1, q2, q3, q4⟩ := rv_at RL hml
      have HE : L[m].v.ep = lastEp (hist L) := by
        have e := hist_take L m hml
        rw [List.take_of_length_le (by rw [hist_len]; omega)] at e
        rw [e, lastEp_snoc]
      rw [HE] at q0
      clear hmm hml h0 HE q1 q2 q3 q4
      by_cases hl : ep ≤ lastEp (hist L)
      · have he := hide (en_order (v := Vw.mk ep lead inc cid ms) hs hl)
        have d1 : decide (ep ≤ lastEp (hist L)) = true := by simpa using hl
        clear hs hl
        go_wp2
        go_quiet (fail)
        go_wp2
        go_ret2
        exact ⟨ret2_ (vbool he.out.2.1.symm) (vint he.out.1.symm), Only.of_below (below_drewN O1 _) (Nat.le_refl _), g, L, HP1.out, he.out.2.2.symm, .inl rfl, NewRows.same _ _⟩
      · have he := hide (en_ok (v := Vw.mk ep lead inc cid ms) (h := hist L) hs hl)
        have d1 : decide (ep ≤ lastEp (hist L)) = false := by simpa using hl
        have HS := hide hs
        clear hs hl
        go_wp2
        go_quiet (fail)
        go_wp2_with (at_builtin; refine wpList_append_any _ rfl (.tmp 39) (.tmp 41) _ rfl base 103 i0 _ 3 24 Try.underlying61 hi hz0 hz1 hz2 rfl (by omega) (.slice none 0 0) 0 [] rfl (World.ownsRow_nil _ _ _ _) w1.heap.size A n c (sts ms) rfl (Reads.drewN V1 _) (sts_one ms) (by unfold maxLen; omega) (by omega) hbw1 ?_; intro v2 w2 hown2 hg2 hat2; obtain ⟨A2, c2, hv2, _, _⟩ := own_val hown2; simp only [Nat.zero_add, List.nil_append] at hown2 hv2; rw [hv2] at hown2 hat2 ⊢; have HAT2 : Hid (∀ k, (Value.slice A2 n c2).ownBlock = some k → w.heap.size ≤ k) := (fun k hk => by have hle := O1.size; rcases hat2 with h | h <;> rw [h] at hk <;> simp [Value.ownBlock] at hk; omega); have G2 : Below w1.heap.size w1 w2 := (below_drewN (Below.refl _ w1) _).grown hg2 (Nat.le_refl _) (by simp [Value.ownBlock]); clear hv2 hat2 hg2)
        have P2 : RW w2 base r g vs L := RW.below HP1.out G2
        have B2 : Blk w2 w.heap.size 63 #[.int .i64 ep, .int .i64 lead, .int .i64 inc, .int .i64 cid, .slice A n c] := B1.below G2 B1.lt
        have V2 : RS w2 w2.heap.size A n ms := (Reads.below V1 G2).more G2.size
        have VO2 := hide (own_below VO1.out G2)
        have hown2 := hide hown2
        have O2 : Below w.heap.size w w2 := O1.trans (G2.mono O1.size)
        clear G2 HP1 B1 V1 VO1 O1 k0 k1 k2 k3 k4 m0 m1 hw hvv hm hgg HB RV RL hok hh
        obtain ⟨Av2, cv2, Aw2, cw2, hb2, hbase2, hvv2, hw2, hgg2, hm2, hok2, hh2⟩ := P2
        obtain ⟨k0, k1, k2, k3, k4⟩ := blk5 B2
        obtain ⟨m0, m1⟩ := blk2 hb2
        have hne2 := (own_blk_ne hw2 hb2 (by decide)).symm
        have m1a : ∀ o, (w2.alloc o).cell? ⟨r, 1, none⟩ = some (.slice Aw2 L.length cw2) := fun o => (World.cell?_alloc_lt w2 o _ hb2.lt).trans m1
        have HM2 := hide hm2
        have HVV2 := hide hvv2
        have HB2 := hide hb2
        have HW2 := hide hw2
        have HB2X := hide B2
        have hs2 := O2.size
        have HGG2 := hide hgg2
        clear hm2 hvv2 B2 hgg2
        have hbw2 : base ≤ w2.heap.size := Nat.le_trans hbw O2.size
        go_region_law ((refine step_push _ (by rfl) (.tmp 47) (.tmp 52) _ (by rfl) base 63 j0 _ 5 56 Try.underlying115 hj hy0 hy1 hy2 (by rfl) (by omega) (.slice Aw2 L.length cw2) L.length (vcells L) (by rfl) ?_ w2.heap.size 1 1 #[.int .i64 ep, .int .i64 lead, .int .i64 inc, .int .i64 cid, .slice A2 n c2] (by rfl) ?_ (by rfl) ?_ (by omega) ?_ ?_ ?_ ?_; exact hw2.alloc _; exact Blk.new w2 _ _; (intro u hu; simp at hu; rcases hu with rfl | rfl | rfl | rfl | rfl <;> rfl); (unfold maxLen; omega); omega; (have := hbw2; simp; omega); intro g3 cap3 w3 hown3 hg3 hat3 hlt3; have hR3 := Blk.grown (Blk.drew (hb2.alloc (.cells #[.int .i64 ep, .int .i64 lead, .int .i64 inc, .int .i64 cid, .slice A2 n c2] 63))) hg3 hne2; have f1 := hR3.frozen 1; obtain ⟨p0, p1⟩ := blk2 hR3))
        all_goals
          obtain ⟨w4, hw4⟩ : ∃ w4, w4 = w3.setCell ⟨r, 1, none⟩ (.slice (some ⟨g3, 0, none⟩) (L.length + 1) cap3) := ⟨_, rfl⟩
          rw [← hw4]
          obtain ⟨hR4, hB4, hVO4, hRW4, hO4⟩ := renter_mem HB2.out HVV2.out HW2.out HM2.out hown2.out HB2X.out (VO2.out) HGG2.out hbase2 hok2 hh2 HS.out hnl.out hg3 hown3 hat3 hw4 (by omega) (fun k hk => by have := hglt.out k hk; omega)
          clear hR3 hg3 hown3 hat3 hlt3 p0 p1 f1 hw4 m0 m1 k0 k1 k2 k3 k4 m1a hb2 hw2
          go_wp2
          obtain ⟨m0, m1⟩ := blk2 hR4
          obtain ⟨k0, k1, k2, k3, k4⟩ := blk5 hB4
          have hrl4 := hR4.lt
          have hxl4 := hB4.lt
          have RM4 : RS w4 w4.heap.size A n ms := Reads.of_own hVO4
          have RV4 : RI w4 w4.heap.size Av2 vs.length vs := by
            obtain ⟨Av5, cv5, Aw5, cw5, hb5, _, hv5, _⟩ := hRW4
            have e := hR4.cell 0
            rw [hb5.cell 0] at e
            simp at e
            obtain ⟨rfl, rfl⟩ := e
            exact Reads.of_own hv5
          have HPK := hide (Vw.set_pack HS.out)
          have hn' : n ≤ 17592186044416 := by omega
          go_region_held3 (fun W => W.cell? ⟨w.heap.size, 0, none⟩ = some (.int .i64 ep) ∧ W.cell? ⟨w.heap.size, 1, none⟩ = some (.int .i64 lead) ∧ W.cell? ⟨w.heap.size, 2, none⟩ = some (.int .i64 inc) ∧ W.cell? ⟨w.heap.size, 3, none⟩ = some (.int .i64 cid) ∧ W.cell? ⟨w.heap.size, 4, none⟩ = some (.slice A n c) ∧ W.cell? ⟨r, 0, none⟩ = some (.slice Av2 vs.length cv2))
            (first | exact ⟨k0, k1, k2, k3, k4, m0⟩ | exact ⟨(hbf.cell (p := ⟨w.heap.size, 0, none⟩) hxl4).trans k0, (hbf.cell (p := ⟨w.heap.size, 1, none⟩) hxl4).trans k1, (hbf.cell (p := ⟨w.heap.size, 2, none⟩) hxl4).trans k2, (hbf.cell (p := ⟨w.heap.size, 3, none⟩) hxl4).trans k3, (hbf.cell (p := ⟨w.heap.size, 4, none⟩) hxl4).trans k4, (hbf.cell (p := ⟨r, 0, none⟩) hrl4).trans m0⟩)
            (first
              | ((go_at_call 74; refine (pids_any ep lead inc cid ms A n c vs.length s _ (Reads.drew RM4) hn' h16 HPK.out).mono ?_; rintro e w' ⟨rfl, rfl⟩; have hbf := (Below.refl w4.heap.size w4.drew).alloc (Nat.le_refl _) (vwO ⟨ep, lead, inc, cid, ms⟩ A n c)))
              | ((go_at_call 48; refine (wins_any s Av2 w4.heap.size vs.length cv2 vs _ (Reads.below (Reads.drew RV4) hbf) (by omega) hok2).mono ?_; rintro e w' ⟨rfl, rfl⟩)))
          go_wp2
          go_ret2
          refine ⟨ret2_ (vbool (by rw [he.out.2.1])) (vint he.out.1.symm), ?_, _, _, RW.below hRW4 ((below_drew (Below.refl _ w4)).trans hbf), ?_, ?_, NewRows.snoc (fun k hk => HAT2.out k (by have h := hnl.out; subst h; exact hk))⟩
          · exact (Only.of_below (F := fun k => k = r ∨ g = some k) O2 (Nat.le_refl _)).trans (hO4.1.trans (Only.of_below ((below_drew (Below.refl w4.heap.size w4)).trans hbf) (Nat.le_refl _)))
          · rw [he.out.2.2, hist_snoc]
          · rcases hO4.2 with h | h
            · exact .inl h.symm
            · exact .inr ⟨_, rfl, by omega⟩
end Go.Proofs.Yteckffndboiknaa
