/-
  QuorumGround answers true.
-/
import Derived.Test.YteckffndboiknaaLeastS
import Derived.Test.YteckffndboiknaaMeet
import Derived.Test.YteckffndboiknaaPlainR
set_option linter.unusedVariables false
set_option linter.unusedSimpArgs false
namespace Go.Proofs.Yteckffndboiknaa
open Go.RowKit Go.WideShapes Go.ChangeShapes Q

theorem mSets_len (vs : List Int) : (mSets vs).length ≤ 2 ^ vs.length := fromN_len vs _ _ _
theorem take_snoc {l : List Nat} {k m : Nat} (h : l[k]? = some m) : (l.take (k + 1)).map (fun m => ((m : Nat) : Int)) = (l.take k).map (fun m => ((m : Nat) : Int)) ++ [((m : Nat) : Int)] := by
  rw [List.take_add_one, h]
  simp
theorem nth_take {l : List Nat} {k j a : Nat} (hj : j < k) (h : l[j]? = some a) : nth ((l.take k).map fun m => ((m : Nat) : Int)) j = ((a : Nat) : Int) := by
  simp [nth, List.getElem?_map, List.getElem?_take, hj, h]

set_option maxRecDepth 100000 in
set_option maxHeartbeats 8000000 in
theorem ground_walk (A : Option Addr) (n c : Nat) (vs : List Int) (x y : Int) (w : World) (h : RI w w.heap.size A n vs) (hn : n ≤ 17592186044416) :
    Calls Try.prog 13 #[.agg #[.slice A n c, .int .i64 x, .int .i64 y]] w fun e w' => e = .returned (.bool true) ∧ Below w.heap.size w w' := by
  have H0 : Below w.heap.size w (w.alloc (.cells #[.slice A n c, .int .i64 x, .int .i64 y] 38)) := (Below.refl _ _).alloc (Nat.le_refl _) _
  have B0 : Blk (w.alloc (.cells #[.slice A n c, .int .i64 x, .int .i64 y] 38)) w.heap.size 38 #[.slice A n c, .int .i64 x, .int .i64 y] := Blk.new _ _ _
  go_enter Try.func13, Try.ntmps13
  go_wp2_with fail
  refine (fit_any A n c vs _ ((Reads.below h H0).more H0.size) hn).mono ?_
  rintro e w1 ⟨A1, k1, c1, fs, rfl, R1, hc1, hok, hb1⟩
  have H1 := H0.trans (hb1.mono H0.size)
  have B1 := B0.below hb1 B0.lt
  have hl := R1.len
  subst hl
  have h16 := hok.2.1
  go_upto_if 19 with (fail)
  go_cut [3] (fun v wx => ∃ A2 c2 gs, v = .slice A2 gs.length c2 ∧ RI wx wx.heap.size A2 gs.length gs ∧ gs.length ≤ c2 ∧ Ok gs ∧ Below w.heap.size w wx ∧ Blk wx w.heap.size 38 #[.slice A n c, .int .i64 x, .int .i64 y])
  case first =>
    by_cases h9 : 9 < fs.length
    · obtain ⟨ad, had, _⟩ := R1.2 (by omega)
      subst had
      have R9 := R1.take (m := 9) (by omega)
      go_wp2_with fail
      refine (fit_any _ 9 c1 (fs.take 9) _ R9 (by omega)).mono ?_
      rintro e w2 ⟨A2, k2, c2, gs, rfl, R2, hc2, hok2, hb2⟩
      have hl2 := R2.len
      subst hl2
      go_wp2_with fail
      go_meet
      exact ⟨A2, c2, gs, rfl, R2, hc2, hok2, H1.trans (hb2.mono H1.size), B1.below hb2 B1.lt⟩
    · go_wp2_with fail
      go_meet
      exact ⟨A1, c1, fs, rfl, R1, hc1, hok, H1, B1⟩
  case rest =>
    obtain ⟨A2, c2, gs, rfl, R2, hc2, hok2, H2, B2⟩ := hcut
    clear hok R1 hc1 h16 H1 hb1 h H0 B0 B1
    have h16 := hok2.2.1
    have p1 := two_pow_le gs.length h16
    have HOK := hide hok2
    have HBX := hide B2
    have HW := hide H2
    have HR2 := hide R2
    have HCO := hide (copied_any A2 _ c2 gs _ R2 (by omega))
    have R3 : RI (wc.alloc (.cells (ints gs).toArray 3)) (wc.alloc (.cells (ints gs).toArray 3)).heap.size (some ⟨wc.heap.size, 0, none⟩) gs.length gs := Reads.of_own (own_of_alloc wc 3 (ints gs) gs.length (ints_len gs) (by unfold maxLen; omega))
    have H3 : Hid (Below wc.heap.size wc (wc.alloc (.cells (ints gs).toArray 3))) := (Below.refl _ _).alloc (Nat.le_refl _) _
    have HMC := hide (minimal_prog _ _ gs.length gs _ R3 (by omega))
    rw [chkE_ok hok2, minR_ok hok2] at HMC
    have hsz := H2.size
    have hbxl := B2.lt
    obtain ⟨bc, hbc⟩ : ∃ b, b = wc.heap.size := ⟨_, rfl⟩
    have HBC := hide hbc
    rw [← hbc] at HCO HR2 H3 hbxl hsz HMC
    clear R2 R3 H2 B2 hok2 hbc
    go_upto_region 5 with (first | (go_at_call 20; refine HCO.out.mono ?_; rintro e w' ⟨rfl, rfl⟩) | (go_at_call 36; refine HMC.out.mono ?_; rintro e w4 ⟨v, es, rfl, hl, hm, hbl⟩; obtain ⟨Am, cm, rfl, _, _⟩ := own_slice hl.row; have HLM := hide hl; have HM := hide hm; have HB4 := hide hbl; clear hl hm hbl))
    obtain ⟨b4, hb4⟩ : ∃ b, b = w4.heap.size := ⟨_, rfl⟩
    have HB4E := hide hb4
    have hbc4 : bc < b4 := by
      have h1 := HB4.out.size
      rw [show (wc.alloc (.cells (ints gs).toArray 3)).heap.size = wc.heap.size + 1 by simp] at h1
      have := HBC.out
      omega
    have HB4C : Hid (Below bc wc w4) := H3.out.trans (HB4.out.mono (by rw [show (wc.alloc (.cells (ints gs).toArray 3)).heap.size = wc.heap.size + 1 by simp]; have := HBC.out; omega))
    obtain ⟨N, hN⟩ : ∃ N, N = es.length := ⟨_, rfl⟩
    have HN := hide hN
    have HSL : Hid ((mSets gs).length = N) := by
      have := congrArg List.length HM.out
      rw [minL_sets, List.length_map, List.length_map] at this
      show _ = _
      omega
    have hN1 : 0 < N := by have := sets_ne HOK.out; have := HSL.out; omega
    have hN2 : N ≤ 65536 := by have h1 := mSets_len gs; have := HSL.out; have : 2 ^ gs.length ≤ 65536 := show 2 ^ gs.length ≤ 2 ^ 16 from Nat.pow_le_pow_right (by omega) h16; omega
    have hNz : ((N : Int) == 0) = false := by rw [beq_eq_false_iff_ne]; omega
    have HROW : Hid (Reads w4 b4 1 Am N (es.map En.v)) := by
      obtain ⟨_, _, q1, r1, _⟩ := own_slice HLM.out.row
      injection q1 with q1 _ _
      subst q1
      rw [hN, hb4]
      exact r1
    have HSET : Hid (∀ k, k < N → ∃ (e : En) (m : Nat), es[k]? = some e ∧ (mSets gs)[k]? = some m ∧ e.l = listTo m gs.length ∧ m < 2 ^ gs.length ∧ RI w4 b4 (some ⟨e.g, 0, none⟩) e.l.length e.l) := fun k hk => by
      have h1 : es[k]? = some (es[k]'(by omega)) := List.getElem?_eq_getElem _
      have h2 : (mSets gs)[k]? = some ((mSets gs)[k]'(by have := HSL.out; omega)) := List.getElem?_eq_getElem _
      refine ⟨_, _, h1, h2, ?_, ?_, ?_⟩
      · have h3 := HM.out
        rw [minL_sets] at h3
        have h4 := congrArg (fun l => l[k]?) h3
        simp only [List.getElem?_map, h1, h2, Option.map_some] at h4
        injection h4 with h4
      · exact ((mem_sets HOK.out).1 (List.mem_of_getElem? h2)).1
      · rw [hb4]
        exact (HLM.out.ent _ (List.mem_of_getElem? h1)).ri
    have HBX4 : Hid (Blk w4 w.heap.size 38 #[Value.slice A n c, Value.int IntKind.i64 x, Value.int IntKind.i64 y]) := HBX.out.below HB4C.out hbxl
    have HR4 : Hid (RI w4 b4 A2 gs.length gs) := Reads.more (Reads.below HR2.out HB4C.out) (by omega)
    have HW4 : Hid (Below w.heap.size w w4) := HW.out.trans (HB4C.out.mono hsz)
    obtain ⟨i3, hi3, hz3, hs3, hb3⟩ := info_parts info3
    have I3 := hide hi3
    rw [← hN]
    clear hb4 hN HMC HCO H3 HR2 HB4 HB4C HW HBX hi3
    go_upto_region 9 with fail
    go_loopw [6, 7] (fun v iv wr => ∃ k : Nat, k ≤ N ∧ iv = .int .i64 k ∧ Hid (wr.ownsRow b4 3 1 v k (ints (((mSets gs).take k).map fun m => ((m : Nat) : Int)))) ∧ Hid (Below b4 w4 wr)) (fun _ iv _ => N - (intOf iv).toNat)
    case atStart => exact ⟨0, Nat.zero_le _, rfl, World.ownsRow_nil _ _ _ _, Below.refl _ _⟩
    case round =>
      obtain ⟨k, hk, rfl, hown, hb⟩ := hrel
      obtain ⟨A6, c6, hv6, hrd6, _⟩ := own_slice hown.out
      have HRD6 := hide hrd6
      rw [hv6] at hown ⊢
      obtain ⟨wo, hwo⟩ : ∃ wo, wo = wr := ⟨_, rfl⟩
      rw [← hwo] at hown hb HRD6 ⊢
      clear hv6 hrd6 hwo
      have hsb : b4 ≤ wo.heap.size := by have := hb.out.size; have := HB4E.out; omega
      by_cases hlt : k < N
      · obtain ⟨e, m, hie, him, hel, hm2, hre⟩ := HSET.out k hlt
        obtain ⟨adm, u, rfl, _, hu, hcell⟩ := (Reads.below HROW.out hb.out).at_ hlt
        rw [List.getElem?_map, hie] at hu
        injection hu with hu
        subst hu
        unfold En.v at hcell
        have HIM := hide him
        have HEL := hide hel
        have HRE : Hid (RI wo b4 (some ⟨e.g, 0, none⟩) e.l.length e.l) := Reads.below hre hb.out
        have ik0 : (0 : Int) ≤ (k : Int) := by omega
        have ikN : (k : Int) < (N : Int) := by omega
        have hll : e.l.length ≤ 16 := by rw [hel]; have := listTo_len m gs.length; omega
        have HM2 := hide hm2
        obtain ⟨E, hE⟩ : ∃ E, E = e.l.length := ⟨_, rfl⟩
        have HE := hide hE
        rw [← hE] at hcell hll
        clear hie him hel hm2 hre hlt hE
        go_upto_region 13 with fail
        go_loopw [8, 9] (fun sv iv wy => ∃ i : Nat, i ≤ E ∧ iv = .int .i64 i ∧ sv = .int .i64 ((orL (e.l.take i) : Nat) : Int) ∧ wy = wo) (fun _ iv _ => E - (intOf iv).toNat)
        case atStart => exact ⟨0, Nat.zero_le _, rfl, rfl, rfl⟩
        case round =>
          obtain ⟨i, hi, rfl, rfl, hwr⟩ := hrel
          obtain rfl := hwr.symm
          clear hwr
          by_cases hli : i < E
          · obtain ⟨b, hbn, hbe⟩ := listTo_at m gs.length i (by rw [← HEL.out, ← HE.out]; exact hli)
            rw [← HEL.out] at hbe
            obtain ⟨ad1, had, _, hc1⟩ := HRE.out.at_ (k := i) (by rw [← HE.out]; exact hli)
            injection had with had
            subst had
            rw [hbe, show (⟨e.g, 0, none⟩ : Addr).add i = ⟨e.g, i, none⟩ by simp [Addr.add]; try exact fun e => e.symm] at hc1
            have ii0 : (0 : Int) ≤ (i : Int) := by omega
            have iiN : (i : Int) < (E : Int) := by omega
            have bb0 : (0 : Int) ≤ (b : Int) := by omega
            have bbN : (b : Int) < (gs.length : Int) := by omega
            have bd1 : decide ((b : Int) < 0) = false := decide_eq_false (by omega)
            have bd2 : decide ((gs.length : Int) ≤ (b : Int)) = false := decide_eq_false (by omega)
            have q1 := two_pow_le b (by omega)
            obtain ⟨o, ho⟩ : ∃ o, o = orL (e.l.take i) := ⟨_, rfl⟩
            obtain ⟨o2, ho2⟩ : ∃ o2, o2 = orL (e.l.take (i + 1)) := ⟨_, rfl⟩
            have HO2 := hide ho2
            have hlt : o < 65536 := by
              have h1 := orL_lt (n := 16) (e.l.take i) (fun x hx => by
                have hx2 := List.mem_of_mem_take hx
                obtain ⟨j, hj, hjx⟩ := List.getElem_of_mem hx2
                rw [HEL.out] at hj
                obtain ⟨b', hb1, hb2⟩ := listTo_at m gs.length j hj
                rw [← HEL.out] at hb2
                refine ⟨b', by omega, ?_⟩
                rw [← hb2, ← hjx]
                simp [nth, hj, HEL.out])
              have : (2 : Nat) ^ 16 = 65536 := by decide
              omega
            have hor : bits BinOp.or IntKind.i64 (o : Int) ((2 : Int) ^ b) = (o2 : Int) := by
              have h1 := orL_step (l := e.l) (i := i) (b := b) (by rw [← HE.out]; exact hli) hbe
              rw [← ho, ← ho2] at h1
              have h2 : ((2 : Int) ^ b) = ((2 ^ b : Nat) : Int) := (nat_pow_cast' b).symm
              have h3 : 2 ^ b ≤ 65536 := show 2 ^ b ≤ 2 ^ 16 from Nat.pow_le_pow_right (by omega) (by omega)
              obtain ⟨P, hP⟩ : ∃ P, P = 2 ^ b := ⟨_, rfl⟩
              rw [h2, h1, ← hP, i64_or_nat o P (by omega) (by omega)]
            rw [← ho]
            clear ho ho2 hbe
            go_wp2_with fail
            go_roundw
            case rel => exact ⟨i + 1, by omega, by go_num, by rw [HO2.out], trivial⟩
            case measure => simp [intOf]; omega
          · obtain hie : i = E := by omega
            have ho : orL (e.l.take i) = m := by rw [hie, HE.out, List.take_length, HEL.out]; exact orL_list HM2.out
            have hil : ¬ (i : Int) < (E : Int) := by omega
            rw [ho]
            clear hie ho hli
            have hm16 : m < 65536 := Nat.lt_of_lt_of_le HM2.out (show 2 ^ gs.length ≤ 2 ^ 16 from Nat.pow_le_pow_right (by omega) h16)
            go_upto_region 19 with fail
            go_loopw [10] (fun jv wy => ∃ j : Nat, j ≤ k ∧ jv = .int .i64 j ∧ ∃ q, wy = wo.drewN q) (fun jv _ => k - (intOf jv).toNat)
            case atStart => exact ⟨0, Nat.zero_le _, rfl, 0, rfl⟩
            case round =>
              obtain ⟨j, hj, rfl, q, rfl⟩ := hrel
              by_cases hlj : j < k
              · obtain ⟨a, hja⟩ : ∃ a, (mSets gs)[j]? = some a := ⟨_, List.getElem?_eq_getElem (by have := HSL.out; omega)⟩
                have hap := sets_apart HOK.out hja HIM.out (by omega)
                have ha16 : a < 65536 := Nat.lt_of_lt_of_le ((mem_sets HOK.out).1 (List.mem_of_getElem? hja)).1 (show 2 ^ gs.length ≤ 2 ^ 16 from Nat.pow_le_pow_right (by omega) h16)
                obtain ⟨ad6, rfl, _, hc6⟩ := RI.at_ HRD6.out hlj
                rw [nth_take hlj hja] at hc6
                have hand : bits BinOp.and IntKind.i64 (m : Int) (a : Int) = ((m &&& a : Nat) : Int) := i64_and_nat m a (by omega) (by omega)
                obtain ⟨r, hr⟩ : ∃ r, r = m &&& a := ⟨_, rfl⟩
                rw [← hr] at hand hap
                have e1 : ((r : Int) == (a : Int)) = false := by have := hap.1; rw [beq_eq_false_iff_ne] at this ⊢; omega
                have e2 : ((r : Int) == (m : Int)) = false := by have := hap.2; rw [beq_eq_false_iff_ne] at this ⊢; omega
                have ij0 : (0 : Int) ≤ (j : Int) := by omega
                have ijk : (j : Int) < (k : Int) := by omega
                clear hja hap hr
                go_wp2_with fail
                go_quiet (fail)
                go_wp2_with fail
                go_roundw
                case rel => exact ⟨j + 1, by omega, by go_num, _, rfl⟩
                case measure => simp [intOf]; omega
              · obtain hjk : j = k := by omega
                have hjl : ¬ (j : Int) < (k : Int) := by omega
                have hown2 : Hid ((wo.drewN q).ownsRow b4 3 1 (.slice A6 k c6) k (ints (((mSets gs).take k).map fun m => ((m : Nat) : Int)))) := hown.out
                have hb2 : Hid (Below b4 w4 (wo.drewN q)) := below_drewN hb.out q
                have hsb2 : b4 ≤ (wo.drewN q).heap.size := hsb
                obtain ⟨wp, hwp⟩ : ∃ wp, wp = wo.drewN q := ⟨_, rfl⟩
                rw [← hwp] at hown2 hb2 hsb2 ⊢
                clear hwp hlj hjk
                go_wp2_with (at_builtin; refine wpList_push rfl (.tmp 109) (.tmp 111) _ rfl b4 3 i3 _ 1 8 Try.underlying32 I3.out hz3 hs3 hb3 rfl (by omega) (.slice A6 k c6) k _ rfl hown2.out 1 1 #[.int .i64 (m : Int)] rfl rfl (by simp [Value.oneCell']) (by omega) (by unfold maxLen; omega) (by omega) hsb2 ?_; intro g' cap' wz hown1 _ hbz _ _ _; have HZ := hide hown1; have HBZ := hide hbz; clear hown1 hbz)
                have HZ2 : Hid (wz.ownsRow b4 3 1 (.slice (some ⟨g', 0, none⟩) (k + 1) cap') (k + 1) (ints (((mSets gs).take (k + 1)).map fun m => ((m : Nat) : Int)))) := by
                  rw [take_snoc HIM.out, ints_append]
                  exact HZ.out
                have HBZ2 : Hid (Below b4 w4 wz) := hb2.out.trans HBZ.out
                go_roundw
                case rel => exact ⟨k + 1, by omega, by go_num, HZ2, HBZ2⟩
                case measure => simp [intOf]; omega
      · obtain hkN : k = N := by omega
        have hkl : ¬ (k : Int) < (N : Int) := by omega
        have HBXo := HBX4.out.below hb.out (by omega)
        obtain ⟨_, yc, _⟩ := blk3 HBXo
        obtain ⟨a, ha, hea⟩ := and_all x gs.length h16
        have hp := nat_pow_cast' gs.length
        have ha16 : a < 65536 := by have := p1; omega
        have HA := hide ha
        have HWI := hide (fun W (hW : Below b4 w4 W) => lwins_any a A2 b4 gs.length c2 gs W (Reads.below HR4.out hW) (by have := hW.size; have := HB4E.out; omega) HOK.out ha)
        clear hlt HBXo ha
        go_upto_region 27 with fail
        go_loopw [12, 13] (fun sv jv wy => ∃ j : Nat, j ≤ k ∧ jv = .int .i64 j ∧ sv = .bool (holdsB a ((mSets gs).take j)) ∧ ∃ q, wy = wo.drewN q) (fun _ jv _ => k - (intOf jv).toNat)
        case atStart => exact ⟨0, Nat.zero_le _, rfl, rfl, 0, rfl⟩
        case round =>
          obtain ⟨j, hj, rfl, rfl, q, rfl⟩ := hrel
          by_cases hlj : j < k
          · obtain ⟨m, hja⟩ : ∃ a, (mSets gs)[j]? = some a := ⟨_, List.getElem?_eq_getElem (by have := HSL.out; omega)⟩
            have hm16 : m < 65536 := Nat.lt_of_lt_of_le ((mem_sets HOK.out).1 (List.mem_of_getElem? hja)).1 (show 2 ^ gs.length ≤ 2 ^ 16 from Nat.pow_le_pow_right (by omega) h16)
            obtain ⟨ad6, rfl, _, hc6⟩ := RI.at_ HRD6.out hlj
            rw [nth_take hlj hja] at hc6
            have HST := hide (holdsB_step (a := a) hja)
            have hand : bits BinOp.and IntKind.i64 (a : Int) (m : Int) = ((a &&& m : Nat) : Int) := i64_and_nat a m (by omega) (by omega)
            obtain ⟨r, hr⟩ : ∃ r, r = a &&& m := ⟨_, rfl⟩
            rw [← hr] at hand HST
            have ij0 : (0 : Int) ≤ (j : Int) := by omega
            have ijk : (j : Int) < (k : Int) := by omega
            clear hja hr
            cases hh : holdsB a ((mSets gs).take j)
            · cases hrm : (r == m)
              all_goals
                have e1 : ((r : Int) == (m : Int)) = (r == m) := by
                  cases hq : (r == m)
                  · rw [beq_eq_false_iff_ne] at hq ⊢; omega
                  · rw [beq_iff_eq] at hq ⊢; omega
                rw [hrm] at e1
                rw [hh, hrm] at HST
                clear hrm hh
                go_wp2_with fail
                go_quiet (fail)
                go_wp2_with fail
                go_roundw
                case rel => exact ⟨j + 1, by omega, by go_num, by rw [HST.out]; first | done | rfl, _, rfl⟩
                case measure => simp [intOf]; omega
            · rw [hh] at HST
              clear hh
              go_wp2_with fail
              go_quiet (fail)
              go_wp2_with fail
              go_roundw
              case rel => exact ⟨j + 1, by omega, by go_num, by rw [HST.out]; first | done | rfl, _, rfl⟩
              case measure => simp [intOf]; omega
          · obtain hjk : j = k := by omega
            have hjl : ¬ (j : Int) < (k : Int) := by omega
            have hh : holdsB a ((mSets gs).take j) = winsB gs a := by
              rw [hjk, hkN, ← HSL.out, holdsB_full, holds_wins HOK.out HA.out]
            rw [hh]
            have hbq : Below b4 w4 (wo.drewN q) := below_drewN hb.out q
            have HL := hide (HWI.out _ hbq)
            have HBQ := hide hbq
            have hsq : b4 ≤ (wo.drewN q).heap.size := hsb
            obtain ⟨wp, hwp⟩ : ∃ wp, wp = wo.drewN q := ⟨_, rfl⟩
            rw [← hwp] at HL HBQ hsq ⊢
            clear hbq hwp hjk hlj hh
            cases hw : winsB gs a
            all_goals
              rw [hw] at HL
              clear hw
              go_wp2_with (go_at_call 21; refine HL.out.mono ?_; rintro e wz ⟨rfl, hbz⟩; have HBZ := hide hbz; clear hbz)
              go_ret
              exact ⟨rfl, HW4.out.trans ((HBQ.out.trans (HBZ.out.mono hsq)).mono (by omega))⟩
end Go.Proofs.Yteckffndboiknaa
