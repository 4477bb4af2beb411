/-
  Contract of the law's watched: one node's life, told to a watch.
-/
import Derived.Test.YteckffndboiknaaFit
import Derived.Test.YteckffndboiknaaWins
import Derived.Test.YteckffndboiknaaEnter
import Derived.Test.YteckffndboiknaaREnter
import Derived.Test.YteckffndboiknaaPlainP
set_option linter.unusedVariables false
namespace Go.Proofs.Yteckffndboiknaa
open Go.RowKit Go.WideShapes Go.ChangeShapes Q

def memOf (l : List Int) (i : Int) : List (Int × Int × Int) := l.map fun p => (p, 1 + i, 2 + i)
theorem memOf_len (l : List Int) (i : Int) : (memOf l i).length = l.length := by simp [memOf]
theorem memOf_pids (l : List Int) (i : Int) : pids (memOf l i) = l := by simp [memOf, pids, Function.comp_def]
theorem memOf_at (l : List Int) (i : Int) (k : Nat) (h : k < l.length) : pidA (memOf l i) k = nth l k ∧ epA (memOf l i) k = 1 + i ∧ lenA (memOf l i) k = 2 + i := by
  simp [memOf, pidA, epA, lenA, nth, h]
theorem memOf_snoc (l : List Int) (i : Int) (k : Nat) (h : k < l.length) : memOf (l.take (k + 1)) i = memOf (l.take k) i ++ [(nth l k, 1 + i, 2 + i)] := by
  unfold memOf
  rw [List.take_succ_eq_append_getElem h, List.map_append]
  simp [nth, h]
theorem listTo_ne {s N : Nat} (h1 : 1 ≤ s) (hs : s < 2 ^ N) : 1 ≤ (listTo s N).length := by
  have hp := pack_list s N hs
  rcases Nat.eq_zero_or_pos (listTo s N).length with h0 | h0
  · have e := List.eq_nil_of_length_eq_zero h0
    rw [e] at hp
    have : pack [] N = some 0 := rfl
    rw [this] at hp
    injection hp with hp
    omega
  · exact h0
theorem life_set {ep i : Int} {s N : Nat} (h1 : 1 ≤ s) (hs : s < 2 ^ N) (e1 : 1 ≤ ep) (e2 : ep ≤ 4611686018427387904) (i0 : 0 ≤ i) (i1 : i ≤ 40) :
    (Vw.mk ep (nth (listTo s N) 0) (1 + i) (2 + i) (memOf (listTo s N) i)).set N = some s := by
  have hl := listTo_ne h1 hs
  have hlen := memOf_len (listTo s N) i
  have h0 := memOf_at (listTo s N) i 0 (by omega)
  rw [Vw.set_sound]
  · simp only
    rw [memOf_pids]
    exact pack_list s N hs
  · refine ⟨by show 1 ≤ (memOf (listTo s N) i).length; omega, ⟨e1, e2⟩, fun j hj => ?_, h0.1.symm, h0.2.1.symm, h0.2.2.symm⟩
    have hj' : j < (memOf (listTo s N) i).length := hj
    obtain ⟨_, a, b⟩ := memOf_at (listTo s N) i j (by omega)
    show Whole (epA (memOf (listTo s N) i) j) ∧ Whole (lenA (memOf (listTo s N) i) j)
    rw [a, b]
    unfold Whole
    omega
theorem and_setN (x : Int) (N : Nat) (hn : N ≤ 16) : bits BinOp.and IntKind.i64 x (2 ^ N - 1) = (((BitVec.ofInt 64 x).toNat &&& allOf N : Nat) : Int) := by
  have hm : ((2 : Int) ^ N - 1) = ((allOf N : Nat) : Int) := (allOf_cast N).symm
  have hlt := allOf_lt N hn
  rw [hm]
  show IntKind.i64.wrap ((BitVec.ofInt 64 x &&& BitVec.ofInt 64 ((allOf N : Nat) : Int)).toNat : Int) = _
  rw [BitVec.toNat_and, ofInt_i64 _ (by omega), IntKind.wrap_i64]
  have : (BitVec.ofInt 64 x).toNat &&& allOf N ≤ allOf N := Nat.and_le_right
  omega
theorem tmod1000 (x : Int) (h : 0 < x) : 0 ≤ x.tmod 1000 ∧ x.tmod 1000 ≤ 999 := by
  rw [Int.tmod_eq_emod_of_nonneg (by omega)]
  omega

set_option maxRecDepth 100000 in
theorem list_own (s n : Nat) (w : World) (hs : s < 9223372036854775808) (hn : n ≤ 16) :
    Calls Try.prog 45 #[.int .i64 s, .int .i64 n] w fun e w' => ∃ A c, e = .returned (.slice A (listTo s n).length c) ∧ w'.ownsRow w.heap.size 3 1 (.slice A (listTo s n).length c) (listTo s n).length (ints (listTo s n)) ∧ Below w.heap.size w w' := by
  obtain ⟨i0, hi, hz0, hz1, hz2⟩ := info_parts info3
  have hown0 : (w.alloc (.cells #[] 3)).ownsRow w.heap.size 3 1 (.slice (some ⟨w.heap.size, 0, none⟩) 0 0) 0 [] := own_of_alloc w 3 [] 0 rfl (by unfold maxLen; omega)
  have HO := hide hown0
  clear hown0
  go_enter Try.func45, Try.ntmps45
  go_wp2
  go_loopw [5, 6] (fun v i wr => ∃ k : Nat, k ≤ n ∧ i = .int .i64 k ∧ Hid (wr.ownsRow w.heap.size 3 1 v (listTo s k).length (ints (listTo s k))) ∧ Below w.heap.size w wr) (fun _ i _ => 16 - (intOf i).toNat)
  case atStart => exact ⟨0, by omega, rfl, HO, (Below.refl _ _).alloc (Nat.le_refl _) _⟩
  case round =>
    obtain ⟨k, hk, rfl, hown, hb⟩ := hrel
    have hll := listTo_len s k
    have hsz := hb.size
    obtain ⟨A1, c1, hv1, _, hc1⟩ := own_val hown.out
    rw [hv1] at hown ⊢
    clear hv1
    by_cases hlt : k < n
    · have hbit := and_one_i64 s k hs
      cases hq : s.testBit k
      · rw [hq] at hbit
        have HL : Hid (listTo s (k + 1) = listTo s k) := by show _ = _; rw [listTo, hq]; rfl
        clear hq
        go_wp2
        go_roundw
        case rel => exact ⟨k + 1, by omega, by go_num, by rw [HL.out]; exact hown, hb⟩
        case measure => simp [intOf]; omega
      · rw [hq] at hbit
        have HL : Hid (listTo s (k + 1) = listTo s k ++ [(k : Int)]) := by show _ = _; rw [listTo, hq]; rfl
        clear hq
        go_wp2_with (at_builtin; refine wpList_push rfl (.tmp 19) (.tmp 21) _ rfl w.heap.size 3 i0 _ 1 8 Try.underlying32 hi hz0 hz1 hz2 rfl (by omega) _ _ _ rfl hown.out 1 1 #[.int .i64 (k : Int)] rfl rfl (by simp [Value.oneCell']) (by omega) (by unfold maxLen; omega) (by omega) hsz ?_; intro g' cap' w1 hown1 _ hb1 _ _ _)
        have hown2 : Hid (w1.ownsRow w.heap.size 3 1 (.slice (some ⟨g', 0, none⟩) ((listTo s k).length + 1) cap') (listTo s (k + 1)).length (ints (listTo s (k + 1)))) := by
          rw [HL.out, ints_append, List.length_append, List.length_singleton]; exact hown1
        have hb2 := hb.trans hb1
        clear hown1 hb1 hb
        go_wp2
        go_roundw
        case rel => exact ⟨k + 1, by omega, by go_num, hown2, hb2⟩
        case measure => simp [intOf]; omega
    · obtain rfl : k = n := by omega
      go_wp2
      go_ret
      exact ⟨A1, c1, rfl, hown.out, hb⟩

/-- Is there a gap ahead of view k? -/
def gapB (gs : List Int) (m k : Nat) : Bool := decide (k < m) && decide (0 < nth gs k)
theorem gapB_yes {gs : List Int} {m k : Nat} (h : gapB gs m k = true) : k < m ∧ 0 < nth gs k := by simpa [gapB] using h
theorem gapB_mk {gs : List Int} {m k : Nat} (h1 : k < m) (h2 : 0 < nth gs k) : gapB gs m k = true := by simp [gapB, h1, h2]
theorem gapB_no1 {gs : List Int} {m k : Nat} (h1 : ¬ k < m) : gapB gs m k = false := by simp [gapB, h1]
theorem gapB_no2 {gs : List Int} {m k : Nat} (h1 : k < m) (h2 : ¬ 0 < nth gs k) : gapB gs m k = false := by simp [gapB, h2]

/-- What stands at a round's head: the watch. -/
structure LifeM (base bl p b g cap : Nat) (vs : List Int) (w wr : World) (ep : Int) (hs : List Vw) : Prop where
  P : Blk wr p 114 (pwC b vs hs)
  B : Blk wr b 110 #[.slice (some ⟨g, 0, none⟩) vs.length cap, .int .i64 (tot vs), .int .i64 (fst vs)]
  V : wr.ownsRow base 3 1 (.slice (some ⟨g, 0, none⟩) vs.length cap) vs.length (ints vs)
  O : HOk vs hs
  E : lastEp hs ≤ ep
  H : Below w.heap.size w wr
  S : bl ≤ wr.heap.size
section
variable {base bl p b g cap : Nat} {vs : List Int} {w wr w' : World} {ep : Int} {hs : List Vw}
theorem LifeM.pw (h : LifeM base bl p b g cap vs w wr ep hs) (hok : Ok vs) (h1 : base ≤ p) (h2 : base ≤ b) (h3 : base ≤ g) : PW wr base p vs hs :=
  ⟨b, h.P, h1, ⟨g, cap, h.B, h2, h3, h.V⟩, hok, h.O⟩
/-- Writes from bl on, and what is new. -/
theorem LifeM.far (h : LifeM base bl p b g cap vs w wr ep hs) {F : Nat → Prop} (ho : Only F wr w') (hF : ∀ k, k < wr.heap.size → F k → bl ≤ k) (hp : p < bl) (hb : b < bl) (hg : g < bl) (hw : w.heap.size ≤ bl) : LifeM base bl p b g cap vs w w' ep hs := by
  have hs := h.S
  refine ⟨h.P.only ho fun hf => ?_, h.B.only ho fun hf => ?_, own_only h.V ho fun g' hg' hf => ?_, h.O, h.E, h.H.trans (ho.below (by omega) fun k hk hf => ?_), Nat.le_trans hs ho.size⟩
  · have := hF p h.P.lt hf; omega
  · have := hF b h.B.lt hf; omega
  · have := hF g' ((h.V.lt g' hg').2) hf
    have : g' = g := by simp [Value.ownBlock] at hg'; omega
    omega
  · have := hF k (by omega) hf; omega
/-- The watch alone has gone on. -/
theorem LifeM.step (h : LifeM base bl p b g cap vs w wr ep hs) {hs' : List Vw} {ep' : Int} (ho : Only (fun k => k = p) wr w') (hp : w.heap.size ≤ p) (hP : Blk w' p 114 (pwC b vs hs')) (hO : HOk vs hs') (hE : lastEp hs' ≤ ep') : LifeM base bl p b g cap vs w w' ep' hs' := by
  have hs := h.S
  have hw := h.H.size
  refine ⟨hP, h.B.only ho fun hf => Blk.ne_ h.B h.P (by decide) hf, own_apart h.V ho (apart_one h.P (by decide)), hO, hE, h.H.trans (ho.below hw fun k hk hf => by omega), Nat.le_trans hs ho.size⟩
end

theorem b5_0 {w : World} {p : Nat} {t : TypeId} {a0 a1 a2 a3 a4 u : Value} (hb : Blk w p t #[a0, a1, a2, a3, a4]) : Blk (w.setCell ⟨p, 0, none⟩ u) p t #[u, a1, a2, a3, a4] := hb.set_ 0 u
theorem b5_1 {w : World} {p : Nat} {t : TypeId} {a0 a1 a2 a3 a4 u : Value} (hb : Blk w p t #[a0, a1, a2, a3, a4]) : Blk (w.setCell ⟨p, 1, none⟩ u) p t #[a0, u, a2, a3, a4] := hb.set_ 1 u
theorem b5_2 {w : World} {p : Nat} {t : TypeId} {a0 a1 a2 a3 a4 u : Value} (hb : Blk w p t #[a0, a1, a2, a3, a4]) : Blk (w.setCell ⟨p, 2, none⟩ u) p t #[a0, a1, u, a3, a4] := hb.set_ 2 u
theorem b5_3 {w : World} {p : Nat} {t : TypeId} {a0 a1 a2 a3 a4 u : Value} (hb : Blk w p t #[a0, a1, a2, a3, a4]) : Blk (w.setCell ⟨p, 3, none⟩ u) p t #[a0, a1, a2, u, a4] := hb.set_ 3 u
theorem b5_4 {w : World} {p : Nat} {t : TypeId} {a0 a1 a2 a3 a4 u : Value} (hb : Blk w p t #[a0, a1, a2, a3, a4]) : Blk (w.setCell ⟨p, 4, none⟩ u) p t #[a0, a1, a2, a3, u] := hb.set_ 4 u
/-- What watched answers. -/
def LifeP (vs ns : List Int) (w : World) (e : Ending) (w' : World) : Prop :=
  ∃ A c, e = .returned (.tuple #[.slice A (selTo vs ns (min ns.length 40)).length c, .bool true]) ∧ RI w' w'.heap.size A (selTo vs ns (min ns.length 40)).length (selTo vs ns (min ns.length 40)) ∧ (selTo vs ns (min ns.length 40)).length ≤ c ∧ Below w.heap.size w w'

set_option maxRecDepth 100000 in
set_option maxHeartbeats 8000000 in
theorem life_any (A G M : Option Addr) (n c m d q r : Nat) (vs gs ns : List Int) (w : World) (h : RI w w.heap.size A n vs) (hg : RI w w.heap.size G m gs) (hns : RI w w.heap.size M q ns) (hok : Ok vs) (hm : m ≤ 17592186044416) (hq : q ≤ 17592186044416) :
    Calls Try.prog 31 #[.slice A n c, .slice G m d, .slice M q r] w (LifeP vs ns w) := by
  obtain ⟨i0, hi, hz0, hz1, hz2⟩ := info_parts info3
  obtain ⟨j0, hj, hy0, hy1, hy2⟩ := info_parts info103
  have hl := h.len
  subst hl
  have hnl := hns.len
  subst hnl
  have h16 := hok.2.1
  have h1 := hok.1
  go_enter Try.func31, Try.ntmps31
  go_wp2_with fail
  refine (copied_any A _ c vs _ h (by omega)).mono ?_
  rintro e w1 ⟨rfl, rfl⟩
  have H1 : Below w.heap.size w (w.alloc (.cells (ints vs).toArray 3)) := (Below.refl _ w).alloc (Nat.le_refl _) _
  have R1 : RI (w.alloc (.cells (ints vs).toArray 3)) (w.alloc (.cells (ints vs).toArray 3)).heap.size (some ⟨w.heap.size, 0, none⟩) vs.length vs := Reads.of_own (own_of_alloc w 3 (ints vs) vs.length (ints_len vs) (by unfold maxLen; omega))
  go_wp2_with fail
  refine (new_any (some ⟨w.heap.size, 0, none⟩) vs.length vs.length vs _ R1 (by omega)).mono ?_
  rintro e w2 ⟨hb2, hres⟩
  rcases hres with ⟨p, rfl, _, P2⟩ | ⟨rfl, hbad⟩
  · have hs12 := hb2.size
    have H2 := H1.trans (hb2.mono H1.size)
    have hs2 := H2.size
    clear R1 H1 hb2
    obtain ⟨b, hb, hbase, ⟨g, cap, hbb, hb1, hb2', hbo⟩, _, hho⟩ := P2
    have hpl := hb.lt
    have hbl := hbb.lt
    have hgl := (hbo.lt g rfl).2
    have HI2 : Hid (LifeM (w.alloc (.cells (ints vs).toArray 3)).heap.size w2.heap.size p b g cap vs w w2 0 []) :=
      ⟨hb, hbb, hbo, hho, Int.le_refl _, H2, Nat.le_refl _⟩
    have hwb : w.heap.size ≤ (w.alloc (.cells (ints vs).toArray 3)).heap.size := by simp
    obtain ⟨base, hbd⟩ : ∃ base, base = (w.alloc (.cells (ints vs).toArray 3)).heap.size := ⟨_, rfl⟩
    rw [← hbd] at HI2 hbase hb1 hb2' hwb hs12
    clear hb hbb hbo hho H2 hbd
    have p1 := two_pow_le vs.length h16
    go_wp2
    go_loopw [10, 11, 12] (fun v e i wr => ∃ (k : Nat) (ep : Int) (hs : List Vw) (A1 : Option Addr) (c1 : Nat), k ≤ ns.length ∧ k ≤ 40 ∧ i = .int .i64 k ∧ e = .int .i64 ep ∧ v = .slice A1 (selTo vs ns k).length c1 ∧ 0 ≤ ep ∧ ep ≤ 1000 * k ∧ Hid (LifeM base w2.heap.size p b g cap vs w wr ep hs) ∧ Hid (hs.length = k ∧ cntW vs hs = (selTo vs ns k).length) ∧ Hid (wr.ownsRow w2.heap.size 3 1 (.slice A1 (selTo vs ns k).length c1) (selTo vs ns k).length (ints (selTo vs ns k)))) (fun _ _ i _ => 40 - (intOf i).toNat)
    case atStart => exact ⟨0, 0, [], none, 0, Nat.zero_le _, by omega, rfl, rfl, rfl, by omega, by omega, HI2, ⟨rfl, rfl⟩, World.ownsRow_nil _ _ _ _⟩
    case round =>
      obtain ⟨k, ep, hs, A1, c1, hkn, hk40, rfl, rfl, rfl, he0, he1, hI, hNC, hL⟩ := hrel
      by_cases hlt : k < ns.length ∧ k < 40
      · obtain ⟨hltn, hlt40⟩ := hlt
        have d40 : decide ((k : Int) < 40) = true := by rw [decide_eq_true_eq]; omega
        obtain ⟨ad, rfl, hab, hc⟩ := hns.at_ hltn
        have hc' := (hI.out.H.cell (p := ad.add k) (by rw [block_of_add]; exact hab)).trans hc
        clear hc
        obtain ⟨x, hx⟩ : ∃ x, x = nth ns k := ⟨_, rfl⟩
        rw [← hx] at hc'
        have hX := hide hx
        have hbit := and_setN x vs.length h16
        obtain ⟨a, ha⟩ : ∃ a : Nat, a = (BitVec.ofInt 64 x).toNat &&& allOf vs.length := ⟨_, rfl⟩
        rw [← ha] at hbit
        have HA := hide ha
        clear hx ha
        have hsb := setN_bound x vs.length h1
        obtain ⟨s, hs'⟩ : ∃ s, s = setN x vs.length := ⟨_, rfl⟩
        rw [← hs'] at hsb
        have HS := hide hs'
        clear hs'
        have hsl : s < 65536 := Nat.lt_of_lt_of_le hsb.2 (two_pow_lt _ h16)
        have hal : a < 65536 := by
          have h0 := allOf_lt vs.length h16
          have h2 : (BitVec.ofInt 64 x).toNat &&& allOf vs.length ≤ allOf vs.length := Nat.and_le_right
          have := HA.out
          omega
        go_upto_if 54 with (fail)
        go_cut [13] (fun s13 wx => s13 = .int .i64 s ∧ wx = wr)
        case first =>
          by_cases h0 : a = 0
          · have d0 : ((a : Int) == 0) = true := by simp [h0]
            have hsv : Hid (s = 1) := by
              show _ = _
              have e1 := HS.out
              have e2 := HA.out
              rw [e1]
              unfold setN
              rw [← e2, if_pos h0]
            clear h0
            go_wp2
            go_meet
            exact ⟨by rw [hsv.out]; rfl, rfl⟩
          · have d0 : ((a : Int) == 0) = false := by simp [h0]
            have hsv : Hid (s = a) := by
              show _ = _
              have e1 := HS.out
              have e2 := HA.out
              rw [e1]
              unfold setN
              rw [← e2, if_neg h0]
            clear h0
            go_wp2
            go_meet
            exact ⟨by rw [hsv.out], rfl⟩
        case rest =>
          obtain ⟨rfl, rfl⟩ := hcut
          clear hbit hc'
          go_upto_region 13 with (fail)
          go_cut [67] (fun c67 wx => c67 = .bool (gapB gs m k) ∧ wx = wc)
          case first =>
            by_cases hkm : k < m
            · obtain ⟨ag, rfl, hag, hcg⟩ := hg.at_ hkm
              have hcg' := (hI.out.H.cell (p := ag.add k) (by rw [block_of_add]; exact hag)).trans hcg
              have dk : decide (k < m) = true := decide_eq_true hkm
              clear hcg
              by_cases hgp : 0 < nth gs k
              · have dg : decide (0 < nth gs k) = true := decide_eq_true hgp
                have hv := hide (gapB_mk hkm hgp)
                go_wp2
                go_meet
                exact ⟨by rw [hv.out], rfl⟩
              · have dg : decide (0 < nth gs k) = false := decide_eq_false hgp
                have hv := hide (gapB_no2 hkm hgp)
                go_wp2
                go_meet
                exact ⟨by rw [hv.out], rfl⟩
            · have dk : decide (k < m) = false := decide_eq_false hkm
              have hv := hide (gapB_no1 (gs := gs) hkm)
              go_wp2
              go_meet
              exact ⟨by rw [hv.out], rfl⟩
          case rest =>
            obtain ⟨rfl, rfl⟩ := hcut
            go_upto_if 67 with (fail)
            go_cut [11] (fun e11 wx => ∃ ep' : Int, e11 = .int .i64 ep' ∧ ep + 1 ≤ ep' ∧ ep' ≤ ep + 1000 ∧ wx = wc)
            case first =>
              cases hgv : gapB gs m k
              · clear hgv
                go_wp2
                go_meet
                exact ⟨ep + 1, rfl, by omega, by omega, rfl⟩
              · obtain ⟨hkm, hgp⟩ := gapB_yes hgv
                clear hgv
                obtain ⟨ag, rfl, hag, hcg⟩ := hg.at_ hkm
                have hcg' := (hI.out.H.cell (p := ag.add k) (by rw [block_of_add]; exact hag)).trans hcg
                obtain ⟨y, hy⟩ : ∃ y, y = nth gs k := ⟨_, rfl⟩
                rw [← hy] at hcg' hgp
                have ht := tmod1000 _ hgp
                clear hcg hy
                go_wp2
                go_meet
                exact ⟨_, rfl, by omega, by omega, rfl⟩
            case rest =>
              obtain ⟨ep', rfl, hep1, hep2, rfl⟩ := hcut
              have hwl := hI.out.H.size
              have hcl := hI.out.S
              have B0 : Blk (wc.alloc (.cells #[.int .i64 0, .int .i64 0, .int .i64 0, .int .i64 0, .slice none 0 0] 63)) wc.heap.size 63 #[.int .i64 0, .int .i64 0, .int .i64 0, .int .i64 0, .slice none 0 0] := Blk.new _ _ _
              have H0 : Below wc.heap.size wc (wc.alloc (.cells #[.int .i64 0, .int .i64 0, .int .i64 0, .int .i64 0, .slice none 0 0] 63)) := (Below.refl _ wc).alloc (Nat.le_refl _) _
              go_wp2_with fail
              obtain ⟨w3, hw3⟩ : ∃ w3, w3 = wc.alloc (.cells #[.int .i64 0, .int .i64 0, .int .i64 0, .int .i64 0, .slice none 0 0] 63) := ⟨_, rfl⟩
              rw [← hw3] at B0 H0 ⊢
              clear hw3
              refine (list_own s vs.length w3 (by omega) h16).mono ?_
              rintro e w4 ⟨Am, cm, rfl, hown4, hb4⟩
              have hs3 := H0.size
              have hs4 := hb4.size
              have B4 := B0.below hb4 B0.lt
              have H4 := H0.trans (hb4.mono hs3)
              have hbvl := B4.lt
              obtain ⟨bv, hbv⟩ : ∃ bv, bv = wc.heap.size := ⟨_, rfl⟩
              rw [← hbv] at B4 hbvl H4 hs3 hcl ⊢
              have HBV := hide hbv
              clear hbv B0 H0 hb4
              obtain ⟨l, hll⟩ : ∃ l, l = listTo s vs.length := ⟨_, rfl⟩
              rw [← hll] at hown4 ⊢
              have hlen : l.length ≤ 16 := by rw [hll]; have := listTo_len s vs.length; omega
              have hlen1 : 1 ≤ l.length := by rw [hll]; exact listTo_ne hsb.1 hsb.2
              have HLL := hide hll
              have HO4 := hide hown4
              have H4 := hide H4
              clear hll hown4
              go_wp2
              go_loopw [16] (fun jv wq => ∃ (j : Nat) (A2 : Option Addr) (c2 : Nat), j ≤ l.length ∧ jv = .int .i64 j ∧ Blk wq bv 63 #[.int .i64 0, .int .i64 0, .int .i64 0, .int .i64 0, .slice A2 j c2] ∧ Hid (wq.ownsRow w4.heap.size 103 3 (.slice A2 j c2) j (sts (memOf (l.take j) k))) ∧ Hid (Only (fun x => x = bv) w4 wq)) (fun jv _ => l.length - (intOf jv).toNat)
              case atStart => exact ⟨0, none, 0, Nat.zero_le _, rfl, B4, World.ownsRow_nil _ _ _ _, Only.refl _ _⟩
              case round =>
                obtain ⟨j, A2, c2, hjl, rfl, hBq, hOq, hF⟩ := hrel
                obtain ⟨z0, z1, z2, z3, z4⟩ := blk5 hBq
                have hqs := hF.out.size
                have hM := own_apart HO4.out hF.out (apart_one B4 (by decide))
                by_cases hjlt : j < l.length
                · have RM : RI wr wr.heap.size Am l.length l := Reads.of_own hM
                  obtain ⟨am, rfl, ham, hcm⟩ := RM.at_ hjlt
                  have hcma : ∀ o, (wr.alloc o).cell? (am.add j) = some (.int .i64 (nth l j)) := fun o => (World.cell?_alloc_lt wr o _ (by rw [block_of_add]; exact ham)).trans hcm
                  have z4a : ∀ o, (wr.alloc o).cell? ⟨bv, 4, none⟩ = some (.slice A2 j c2) := fun o => (World.cell?_alloc_lt wr o _ hBq.lt).trans z4
                  have hne5 := (own_blk_ne hOq.out hBq (by decide)).symm
                  have HSN := hide (memOf_snoc l k j hjlt)
                  have wr1 : IntKind.i64.wrap (1 + (k : Int)) = 1 + (k : Int) := IntWalk.i64_in _ (by constructor <;> omega)
                  have wr2 : IntKind.i64.wrap (2 + (k : Int)) = 2 + (k : Int) := IntWalk.i64_in _ (by constructor <;> omega)
                  go_wp2
                  go_region_law ((refine step_push _ (by rfl) (.tmp 86) (.tmp 96) _ (by rfl) w4.heap.size 103 j0 _ 3 24 Try.underlying61 hj hy0 hy1 hy2 (by rfl) (by omega) (.slice A2 j c2) j (sts (memOf (l.take j) k)) (by rfl) ?_ wr.heap.size 1 1 #[.int .i64 (nth l j), .int .i64 (1 + k), .int .i64 (2 + k)] (by rfl) ?_ (by rfl) ?_ (by omega) ?_ ?_ ?_ ?_; exact hOq.out.alloc _; exact Blk.new wr _ _; (intro u hu; simp at hu; rcases hu with rfl | rfl | rfl <;> rfl); (clear wr1 wr2; unfold maxLen; omega); (clear wr1 wr2; omega); (clear wr1 wr2; have := hqs; simp; omega); intro g3 cap3 w5 hown5 hg5 hat5 hlt5; have hB5 := Blk.grown (Blk.drew (hBq.alloc (.cells #[.int .i64 (nth l j), .int .i64 (1 + k), .int .i64 (2 + k)] 103))) hg5 hne5; have f4 := hB5.frozen 4; obtain ⟨y0, y1, y2, y3, y4⟩ := blk5 hB5))
                  all_goals
                    clear wr1 wr2
                    have hF5 : Only (fun x => x = bv) w4 w5 := (((hF.out.alloc (.cells #[.int .i64 (nth l j), .int .i64 (1 + k), .int .i64 (2 + k)] 103)).drew).trans' (Only.of_grown (F := fun x => (Value.slice A2 j c2).ownBlock = some x) hg5 (fun x hx _ => hx)) (fun x hx h => by have := (hOq.out.lt x h).1; omega))
                    have hO5 : w5.ownsRow w4.heap.size 103 3 (.slice (some ⟨g3, 0, none⟩) (j + 1) cap3) (j + 1) (sts (memOf (l.take (j + 1)) k)) := by
                      rw [HSN.out]
                      unfold sts at hown5 ⊢
                      rw [List.flatMap_append]
                      exact hown5
                    have hF5 := hide hF5
                    have hO5 := hide hO5
                    have hB5' := hide hB5
                    clear hown5 hg5 hat5 hlt5 hB5 y0 y1 y2 y3
                    go_wp2
                    go_roundw
                    case rel => exact ⟨j + 1, _, cap3, by omega, by go_num, b5_4 hB5'.out, own_apart hO5.out ((Only.refl _ w5).set1 4 _) (apart_one hB5'.out (by decide)), hF5.out.set1 4 _⟩
                    case measure => simp [intOf]; omega
                · obtain rfl : j = l.length := by omega
                  have RM : RI wr wr.heap.size Am l.length l := Reads.of_own hM
                  obtain ⟨am, rfl, ham, hcm⟩ := RM.at_ (k := 0) (by omega)
                  have hcm0 : wr.cell? am = some (.int .i64 (nth l 0)) := by simpa [Addr.add] using hcm
                  have f0 := hBq.frozen 0
                  have f1 := hBq.frozen 1
                  have f2 := hBq.frozen 2
                  have f3 := hBq.frozen 3
                  have B5 : Blk ((((wr.setCell ⟨bv, 0, none⟩ (.int .i64 ep')).setCell ⟨bv, 1, none⟩ (.int .i64 (nth l 0))).setCell ⟨bv, 2, none⟩ (.int .i64 (1 + k))).setCell ⟨bv, 3, none⟩ (.int .i64 (2 + k))) bv 63 #[.int .i64 ep', .int .i64 (nth l 0), .int .i64 (1 + k), .int .i64 (2 + k), .slice A2 l.length c2] := b5_3 (b5_2 (b5_1 (b5_0 hBq)))
                  have F5 : Only (fun x => x = bv) wr ((((wr.setCell ⟨bv, 0, none⟩ (.int .i64 ep')).setCell ⟨bv, 1, none⟩ (.int .i64 (nth l 0))).setCell ⟨bv, 2, none⟩ (.int .i64 (1 + k))).setCell ⟨bv, 3, none⟩ (.int .i64 (2 + k))) := ((((Only.refl _ wr).set1 0 _).set1 1 _).set1 2 _).set1 3 _
                  have ham : decide (0 < l.length) = true := by rw [decide_eq_true_eq]; omega
                  go_wp2_with fail
                  obtain ⟨w5, hw5⟩ : ∃ w5, w5 = ((((wr.setCell ⟨bv, 0, none⟩ (.int .i64 ep')).setCell ⟨bv, 1, none⟩ (.int .i64 (nth l 0))).setCell ⟨bv, 2, none⟩ (.int .i64 (1 + k))).setCell ⟨bv, 3, none⟩ (.int .i64 (2 + k))) := ⟨_, rfl⟩
                  rw [← hw5] at B5 F5 ⊢
                  clear hw5 hcm hcm0 f0 f1 f2 f3 z0 z1 z2 z3 z4
                  have O5 := own_apart hOq.out F5 (apart_one hBq (by decide))
                  rw [List.take_length] at O5
                  have hbvw : wc.heap.size ≤ bv := by have := HBV.out; omega
                  have hb45 : Below wc.heap.size w4 w5 := (hF.out.trans F5).below (by omega) (fun x hx h => by omega)
                  have hb5 : Below wc.heap.size wc w5 := (H4.out.mono hbvw).trans hb45
                  have hbls := hI.out.S
                  have I5 := hI.out.far (Only.of_below (F := fun _ => False) hb5 (Nat.le_refl _)) (fun _ _ h => h.elim) hpl hbl hgl hs2
                  have L5 := own_below hL.out hb5
                  clear F5 RM hBq hOq hF hM hb45 hb5
                  have hset : (Vw.mk ep' (nth l 0) (1 + k) (2 + k) (memOf l k)).set vs.length = some s := by rw [HLL.out]; exact life_set hsb.1 hsb.2 (by omega) (by omega) (by omega) (by omega)
                  have hen := en_ok (h := hs) hset (by have := hI.out.E; show ¬ ep' ≤ _; omega)
                  have hml := memOf_len l k
                  have HE := enter_any ep' (nth l 0) (1 + k) (2 + k) (memOf l k) A2 l.length c2 base p vs hs w5 (I5.pw hok hbase hb1 hb2') (Reads.of_own O5) (by omega) (by have := hNC.out.1; omega)
                  unfold EnterP at HE
                  rw [hen.1, hen.2.1, hen.2.2] at HE
                  unfold vwV at HE
                  refine HE.mono ?_
                  clear HE
                  rintro e w6 ⟨rfl, ho6, P6, hsm⟩
                  obtain ⟨v, hv⟩ : ∃ v : Vw, v = ⟨ep', nth l 0, 1 + k, 2 + k, memOf l k⟩ := ⟨_, rfl⟩
                  have hHO : HOk vs (hs ++ [v]) := by rw [hv]; exact I5.O.snoc hset
                  have hwV : winV vs v = winsB vs s := by rw [hv]; exact winV_some hset
                  have hve : v.ep = ep' ∧ v.lead = nth l 0 ∧ v.inc = 1 + k ∧ v.cid = 2 + k := by rw [hv]; exact ⟨rfl, rfl, rfl, rfl⟩
                  rw [← hv] at P6 hsm
                  have I6 := I5.step ho6 (by omega) (hsm b I5.P) hHO (ep' := ep') (by rw [lastEp_snoc, hve.1]; exact Int.le_refl _)
                  have L6 := own_apart L5 ho6 (apart_one I5.P (by decide))
                  have hbp : bv ≠ p := by omega
                  have B6 := B5.only ho6 hbp
                  have hin : inW vs (hs ++ [v]) = winsB vs s := by rw [inW_snoc, hwV]
                  have hlw : lastW vs (hs ++ [v]) = if winsB vs s = true then (ep', nth l 0, 1 + (k : Int), 2 + (k : Int)) else lastW vs hs := by rw [lastW_snoc, hwV, hve.1, hve.2.1, hve.2.2.1, hve.2.2.2]
                  have hcw : cntW vs (hs ++ [v]) = if winsB vs s = true then (selTo vs ns k).length + 1 else (selTo vs ns k).length := by rw [cntW_snoc, hwV, hNC.out.2]
                  have hln : (hs ++ [v]).length = k + 1 := by simp [hNC.out.1]
                  have hsk : selTo vs ns (k + 1) = if winsB vs s = true then selTo vs ns k ++ [(s : Int)] else selTo vs ns k := by rw [selTo, ← hX.out, ← HS.out]
                  have HIN := hide hin
                  have HLW := hide hlw
                  have HCW := hide hcw
                  have HLN := hide hln
                  have HSK := hide hsk
                  have HI6 := hide I6
                  have HL6 := hide L6
                  have HP6 := hide P6
                  clear hin hlw hcw hln hsk I5 L5 B5 O5 ho6 hsm hHO hwV hve hv I6 L6 P6 hset hen hI hL H4 HO4 hNC HBV HLL
                  obtain ⟨y0, y1, y2, y3, y4⟩ := blk5 B6
                  have HCC : Hid (∀ W, PW W base p vs (hs ++ [v]) → Calls Try.prog 57 #[.pointer (some ⟨p, 0, none⟩)] W fun e w' => e = .returned (.tuple #[.int .i64 ((k : Int) + 1), .int .i64 (((if winsB vs s = true then (selTo vs ns k).length + 1 else (selTo vs ns k).length : Nat)) : Int)]) ∧ Below W.heap.size W w') := fun W hW => by
                    have := count_w base p vs _ W hW
                    rw [HLN.out, HCW.out] at this
                    exact this
                  have hslen := selTo_len vs ns k
                  cases hw : winsB vs s
                  · have HW := hide hw
                    rw [hw] at HCC HSK HIN
                    have hcw' : Hid (cntW vs (hs ++ [v]) = (selTo vs ns (k + 1)).length ∧ selTo vs ns (k + 1) = selTo vs ns k) := by
                      have e1 := HCW.out
                      have e2 := HSK.out
                      rw [hw] at e1
                      simp only [Bool.false_eq_true, if_false] at e1 e2
                      exact ⟨by rw [e1, e2], e2⟩
                    simp only [Bool.false_eq_true, if_false] at HCC
                    clear hw
                    go_wp2_with (first | (go_at_call 53; refine (in_w base p vs _ w6 HP6.out).mono ?_; rintro e w' ⟨rfl, rfl⟩; rw [HIN.out]) | (go_at_call 57; refine (HCC.out _ HP6.out).mono ?_; rintro e w7 ⟨rfl, hb7⟩))
                    have HI7 := hide (HI6.out.far (Only.of_below (F := fun _ => False) hb7 (Nat.le_refl _)) (fun _ _ h => h.elim) hpl hbl hgl hs2)
                    have HL7 := hide (own_below HL6.out hb7)
                    clear hb7
                    go_roundw
                    case rel => exact ⟨k + 1, ep', hs ++ [v], A1, c1, by omega, by omega, by go_num, rfl, by rw [hcw'.out.2], by omega, by omega, HI7, ⟨HLN.out, hcw'.out.1⟩, by rw [hcw'.out.2]; exact HL7⟩
                    case measure => simp [intOf]; omega
                  · have HW := hide hw
                    rw [hw] at HCC HSK HIN HLW
                    have hcw' : Hid (cntW vs (hs ++ [v]) = (selTo vs ns (k + 1)).length ∧ selTo vs ns (k + 1) = selTo vs ns k ++ [(s : Int)] ∧ (selTo vs ns (k + 1)).length = (selTo vs ns k).length + 1) := by
                      have e1 := HCW.out
                      have e2 := HSK.out
                      rw [hw] at e1
                      simp only [if_true] at e1 e2
                      have e3 : (selTo vs ns (k + 1)).length = (selTo vs ns k).length + 1 := by rw [e2]; simp
                      exact ⟨by rw [e1, e3], e2, e3⟩
                    have HLC : Hid (∀ W, PW W base p vs (hs ++ [v]) → Calls Try.prog 55 #[.pointer (some ⟨p, 0, none⟩)] W fun e w' => e = .returned (.agg #[.int .i64 ep', .int .i64 (nth l 0), .int .i64 (1 + (k : Int)), .int .i64 (2 + (k : Int))]) ∧ Below W.heap.size W w') := fun W hW => by
                      have := last_w base p vs _ W hW
                      rw [HLW.out] at this
                      exact this
                    simp only [if_true] at HCC
                    clear hw
                    have hb6s := HI6.out.S
                    go_wp2_with (first | (go_at_call 53; refine (in_w base p vs _ w6 HP6.out).mono ?_; rintro e w' ⟨rfl, rfl⟩; rw [HIN.out]) | (at_builtin; refine wpList_push rfl (.tmp 124) (.tmp 126) _ rfl w2.heap.size 3 i0 _ 1 8 Try.underlying32 hi hz0 hz1 hz2 rfl (by omega) _ (selTo vs ns k).length _ rfl HL6.out 1 1 #[.int .i64 s] rfl rfl (by simp [Value.oneCell']) (by omega) (by unfold maxLen; omega) (by omega) hb6s ?_; intro g7 cap7 w7 hown7 hg7 _ _ _ _))
                    have hF7 : Only (fun x => (Value.slice A1 (selTo vs ns k).length c1).ownBlock = some x) w6 w7 := ((Only.refl _ w6).alloc (.cells #[.int .i64 s] 3)).trans' (Only.of_grown (F := fun x => (Value.slice A1 (selTo vs ns k).length c1).ownBlock = some x) hg7 (fun x hx _ => hx)) (fun _ _ h => h)
                    have I7 := HI6.out.far hF7 (fun x hx h => (HL6.out.lt x h).1) hpl hbl hgl hs2
                    have B7 := B6.only hF7 (fun h => own_blk_ne HL6.out B6 (by decide) h)
                    have P7 := I7.pw hok hbase hb1 hb2'
                    have hb7s := I7.S
                    have HI7 := hide I7
                    have hown7 := hide hown7
                    clear hF7 hg7 HP6 HI6 HL6 B6 y0 y1 y2 y3 y4 I7
                    obtain ⟨y0, y1, y2, y3, y4⟩ := blk5 B7
                    have hbl7 := B7.lt
                    go_region_held3 (fun W => W.cell? ⟨bv, 0, none⟩ = some (.int .i64 ep') ∧ W.cell? ⟨bv, 1, none⟩ = some (.int .i64 (nth l 0)) ∧ W.cell? ⟨bv, 2, none⟩ = some (.int .i64 (1 + k)) ∧ W.cell? ⟨bv, 3, none⟩ = some (.int .i64 (2 + k)))
                      (first | exact ⟨y0, y1, y2, y3⟩ | exact ⟨(hbf.cell (p := ⟨bv, 0, none⟩) hbl7).trans y0, (hbf.cell (p := ⟨bv, 1, none⟩) hbl7).trans y1, (hbf.cell (p := ⟨bv, 2, none⟩) hbl7).trans y2, (hbf.cell (p := ⟨bv, 3, none⟩) hbl7).trans y3⟩)
                      ((go_at_call 55; refine (HLC.out _ (PW.below P7 (below_drew (Below.refl _ w7)))).mono ?_; rintro e w8 ⟨rfl, hbf⟩))
                    have hb8 : Below w7.heap.size w7 w8 := (below_drew (Below.refl _ w7)).trans hbf
                    have I8 := HI7.out.far (Only.of_below (F := fun _ => False) hb8 (Nat.le_refl _)) (fun _ _ h => h.elim) hpl hbl hgl hs2
                    have L8 := hide (own_below hown7.out hb8)
                    have P8 := I8.pw hok hbase hb1 hb2'
                    have HI8 := hide I8
                    clear hbf hb8 HI7 hown7 P7 B7 y0 y1 y2 y3 y4 hbl7 hb7s I8
                    go_wp2_with (go_at_call 57; refine (HCC.out _ P8).mono ?_; rintro e w9 ⟨rfl, hb9⟩)
                    have HI9 := hide (HI8.out.far (Only.of_below (F := fun _ => False) hb9 (Nat.le_refl _)) (fun _ _ h => h.elim) hpl hbl hgl hs2)
                    have HL9 := hide (own_below L8.out hb9)
                    clear hb9
                    go_roundw
                    case rel => exact ⟨k + 1, ep', hs ++ [v], _, cap7, by omega, by omega, by go_num, rfl, by rw [hcw'.out.2.2], by omega, by omega, HI9, ⟨HLN.out, hcw'.out.1⟩, by rw [hcw'.out.2.1, ints_append, List.length_append, List.length_singleton]; exact HL9⟩
                    case measure => simp [intOf]; omega
      · have hke : k = min ns.length 40 := by omega
        have HI := hI.out
        obtain ⟨A3, c3, hv3, R3, hc3⟩ := own_val hL.out
        have hH := hide HI.H
        injection hv3 with a1 a2 a3
        subst a1 a3
        have hout : LifeP vs ns w (.returned (.tuple #[.slice A1 (selTo vs ns k).length c1, .bool true])) wr := by
          subst hke
          exact ⟨A1, c1, rfl, R3, hc3, hH.out⟩
        have hout := hide hout
        have dd : (decide (k < ns.length) && decide ((k : Int) < 40)) = false := by
          rw [Bool.and_eq_false_iff, decide_eq_false_iff_not, decide_eq_false_iff_not]; omega
        clear HI hI hL R3 hke
        by_cases hh : k < ns.length
        · have hh2 : decide ((k : Int) < 40) = false := by rw [decide_eq_false_iff_not]; omega
          clear dd
          go_wp2
          go_ret2
          exact hout.out
        · clear dd
          go_wp2
          go_ret2
          exact hout.out
  · exact absurd hok hbad
end Go.Proofs.Yteckffndboiknaa
