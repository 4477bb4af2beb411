/-
  Contract of the reference's State.alone.
-/
import Derived.Test.YtkcjfiifajjpiaaRBars
set_option linter.unusedVariables false
set_option linter.unusedSimpArgs false
namespace Go.Proofs.Ytkcjfiifajjpiaa
open Go.RowKit Go.WideShapes Go.ChangeShapes Q

theorem ret_pair {b b' : Bool} {n n' : Int} (h : b = b') (h' : n = n') : Ending.returned (.tuple #[.bool b, .int .i64 n]) = .returned (.tuple #[.bool b', .int .i64 n']) := by rw [h, h']

set_option maxRecDepth 100000 in
set_option maxHeartbeats 2000000 in
theorem ralone_any (n c B : Nat) (y : Net) (A : Option Addr) (m : Nat) (set : List Int) (most : Int) (w : World) (hr : RI w B A m set) (hm : m ≤ 140737488351232) (hs : SetOk n set) (hx : Slow n y) (hn : n ≤ 16) (hB : B ≤ w.heap.size) :
    Calls Try.prog 38 #[.agg (stC n y), .slice A m c, .int .i64 most] w fun e w' => e = .returned (.tuple #[.bool (decide (aloneN n y (inK set set.length) most ≠ 0)), .int .i64 (aloneN n y (inK set set.length) most)]) ∧ St (fun _ => False) w w' := by
  have HL := hide hr.len
  have H0 : St (fun _ => False) w (w.alloc (.cells (stC n y) 71)) := (St.refl _ w).alloc _
  have P0 := Blk.new w 71 (stC n y)
  have R0 := hr.st H0 (fun q e => e.elim)
  have HOK := hide hs
  have HX := hide hx
  have HIN : Hid (∀ p : Nat, set.contains (p : Int) = inK set set.length p) := fun p => (inK_len set p).symm
  have HYES := hide (fun (h : ∀ i, i < set.length → okQ n y (inK set set.length) most (nth set i).toNat) => aloneR_yes hs h)
  have HNO := hide (fun (i : Nat) (hi : i < set.length) (h : ¬ okQ n y (inK set set.length) most (nth set i).toNat) => aloneR_no hs hi h)
  have HMB := hide (mostR_b hs hx (inK set set.length))
  clear hr hs hx
  obtain ⟨ins, hins⟩ : ∃ ins, ins = inK set set.length := ⟨_, rfl⟩
  rw [← hins] at HIN HYES HNO HMB ⊢
  clear hins
  obtain ⟨cs, hcs⟩ : ∃ cs, cs = stC n y := ⟨_, rfl⟩
  rw [← hcs] at H0 P0 R0 ⊢
  have HCS := hide hcs
  clear hcs
  go_enter Try.func38, Try.ntmps38
  go_upto_region 1 with fail
  obtain ⟨w0, hw0⟩ : ∃ w0, w0 = w.alloc (.cells cs 71) := ⟨_, rfl⟩
  rw [← hw0] at H0 P0 R0 ⊢
  rw [HCS.out] at P0
  obtain ⟨b, hb⟩ : ∃ b, b = w.heap.size := ⟨_, rfl⟩
  rw [← hb] at P0 ⊢
  have HS := hide H0
  have HP := hide P0
  have HR := hide R0
  have HCN := hide (st_n P0)
  have HI := hide (fun (p : Nat) => in_any A m c B set p w0 R0 hm)
  clear hw0 hb H0 P0 R0 HCS
  go_wp2_with fail
  go_loopw [8, 9] (fun d i wr => ∃ k : Nat, k ≤ m ∧ i = .int .i64 k ∧ d = .int .i64 (mostR n y ins set k) ∧ Hid (∀ i, i < k → okQ n y ins most (nth set i).toNat) ∧ wr = w0) (fun _ i _ => m - (intOf i).toNat)
  case atStart => exact ⟨0, Nat.zero_le _, rfl, rfl, (fun i hi => absurd hi (by omega)), rfl⟩
  case round =>
    obtain ⟨k, hk, rfl, rfl, hok, hwr⟩ := hrel
    obtain rfl := hwr.symm
    clear hwr
    by_cases hlt : k < m
    · obtain ⟨ad, hA, _, hc⟩ := HR.out.at_ hlt
      subst hA
      have hset := HOK.out k (by rw [HL.out]; exact hlt)
      obtain ⟨q, hq⟩ : ∃ q : Nat, nth set k = (q : Int) := ⟨(nth set k).toNat, by omega⟩
      rw [hq] at hc
      have hqn : q < n := by omega
      have hq16 : q < 16 := by omega
      have iq0 : (0 : Int) ≤ (q : Int) := by omega
      have iq16 : (q : Int) < 16 := by omega
      have ik0 : (0 : Int) ≤ (k : Int) := by omega
      have ikm : (k : Int) < (m : Int) := by omega
      have cu := st_up HP.out hq16
      have cl := st_left HP.out hq16
      have HNO' : Hid (¬ okQ n y ins most q → aloneN n y ins most = 0) := fun h => HNO.out k (by rw [HL.out]; exact hlt) (by rw [hq]; simpa using h)
      have hd1 := HMB.out k (by rw [HL.out]; omega)
      have hd2 := HMB.out (k + 1) (by rw [HL.out]; omega)
      have HM : Hid (mostR n y ins set (k + 1) = into y ins q n (mostR n y ins set k)) := by
        show _ = _
        rw [mostR, hq]
        simp
      have HQ := hide hq
      clear hset hq
      cases hup : y.up q with
      | false =>
        have HE : Hid (aloneN n y ins most = 0) := HNO'.out fun h => by
          have := h.1
          rw [hup] at this
          cases this
        rw [hup] at cu
        clear hup
        generalize mostR n y ins set k = d at *
        go_wp2_with fail
        go_ret2
        exact ⟨ret_pair (by rw [HE.out]; rfl) HE.out.symm, HS.out⟩
      | true =>
        cases hlf : y.left q with
        | true =>
          have HE : Hid (aloneN n y ins most = 0) := HNO'.out fun h => by
            have := h.2.1
            rw [hlf] at this
            cases this
          rw [hup] at cu
          rw [hlf] at cl
          clear hup hlf
          generalize mostR n y ins set k = d at *
          go_wp2_with fail
          go_ret2
          exact ⟨ret_pair (by rw [HE.out]; rfl) HE.out.symm, HS.out⟩
        | false =>
          rw [hup] at cu
          rw [hlf] at cl
          have HUL := hide (And.intro hup hlf)
          have HB2 := hide (fun j (hj : j ≤ n) => into_le HX.out ins hqn j (mostR n y ins set k) hj hd1.2)
          clear hup hlf
          generalize mostR n y ins set k = d at *
          have cn := HCN.out
          go_wp2_with fail
          clear cu cl hc cn
          go_loopw [8, 11] (fun d' i wr => ∃ j : Nat, j ≤ n ∧ i = .int .i64 j ∧ d' = .int .i64 (into y ins q j d) ∧ Hid (∀ p, p < j → okPath y ins most p q = true) ∧ wr = w0) (fun _ i _ => n - (intOf i).toNat)
          case atStart => exact ⟨0, Nat.zero_le _, rfl, rfl, (fun i hi => absurd hi (by omega)), rfl⟩
          case round =>
            obtain ⟨j, hj, rfl, rfl, hop, hwr⟩ := hrel
            obtain rfl := hwr.symm
            clear hwr
            have cn := HCN.out
            by_cases hjl : j < n
            · have j0 : (0 : Int) ≤ (j : Int) := by omega
              have j1 : (j : Int) < (n : Int) := by omega
              have hj16 : j < 16 := by omega
              have ij16 : (j : Int) < 16 := by omega
              have yc := st_cut HP.out hj16 hq16
              have yd := st_dly HP.out hj16 hq16
              have hbd := HX.out j q hjl hqn
              have hb3 := HB2.out j hj
              have hb4 := into_ge y ins q j d
              have HINY : Hid (j ≠ q → ins j = true → into y ins q (j + 1) d = max (into y ins q j d) (y.dly j q)) := fun h1 h2 => by rw [into, if_pos ⟨h1, h2⟩]
              have HINZ : Hid (¬ (j ≠ q ∧ ins j = true) → into y ins q (j + 1) d = into y ins q j d) := fun h1 => by rw [into, if_neg h1]
              have HOP1 : Hid (okPath y ins most j q = true → ∀ p, p < j + 1 → okPath y ins most p q = true) := fun he p hp => by
                by_cases e : p = j
                · subst e; exact he
                · exact hop.out p (by omega)
              have HNOP : Hid (okPath y ins most j q = false → aloneN n y ins most = 0) := fun he => HNO'.out fun h => by
                have := h.2.2 j hjl
                rw [he] at this
                cases this
              have HOP : Hid (okPath y ins most j q = (decide (j = q) || (y.cut j q != ins j && (!ins j || decide (y.dly j q ≤ most))))) := rfl
              have HIj := hide (HI.out j)
              rw [HIN.out j] at HIj
              by_cases ejk : j = q
              · subst ejk
                have HOP2 := hide (HOP1.out (by rw [HOP.out]; simp))
                have HZ := hide (HINZ.out (fun h => h.1 rfl))
                have d0 : ((j : Int) != (j : Int)) = false := by simp
                clear HOP HOP1 HNOP HINY HINZ hop
                generalize hiv : into y ins j j d = dd at *
                generalize ins j = ij at *
                clear hiv
                go_wp2_with (go_at_call 45; refine HIj.out.mono ?_; rintro e w1 ⟨rfl, hw⟩; obtain rfl := hw.symm)
                go_roundw
                case rel => exact ⟨j + 1, by omega, by go_num, by rw [HZ.out], HOP2, trivial⟩
                case measure => simp [intOf]; omega
              · have d0 : ((j : Int) != (q : Int)) = true := by rw [bne_iff_ne]; omega
                have d0' : decide (j = q) = false := decide_eq_false ejk
                rw [d0', Bool.false_or] at HOP
                have HJK := hide ejk
                clear ejk d0' hop
                generalize hcut : y.cut j q = cu at *
                generalize hdl : y.dly j q = dl at *
                generalize hij : ins j = ij at *
                clear hcut hdl
                generalize into y ins q j d = dd at *
                cases cu
                · cases ij
                  · have HE := hide (HNOP.out (by rw [HOP.out]; rfl))
                    have d1 : (false == false) = true := rfl
                    clear HOP HOP1 HNOP HINY HINZ
                    go_wp2_with (go_at_call 45; refine HIj.out.mono ?_; rintro e w1 ⟨rfl, hw⟩; obtain rfl := hw.symm)
                    go_ret2
                    exact ⟨ret_pair (by rw [HE.out]; rfl) HE.out.symm, HS.out⟩
                  · by_cases hdm : dl ≤ most
                    · have HOP2 := hide (HOP1.out (by rw [HOP.out]; simp [hdm]))
                      have HZ := hide (HINY.out HJK.out rfl)
                      have d1 : decide (most < dl) = false := decide_eq_false (by omega)
                      have d2 : (false == true) = false := rfl
                      clear HOP HOP1 HNOP HINY HINZ
                      go_wp2_with (go_at_call 45; refine HIj.out.mono ?_; rintro e w1 ⟨rfl, hw⟩; obtain rfl := hw.symm)
                      go_roundw
                      case rel => exact ⟨j + 1, by omega, by go_num, by rw [HZ.out]; exact vint (by split <;> omega), HOP2, trivial⟩
                      case measure => simp [intOf]; omega
                    · have HE := hide (HNOP.out (by rw [HOP.out]; simp [hdm]))
                      have d1 : decide (most < dl) = true := decide_eq_true (by omega)
                      have d2 : (false == true) = false := rfl
                      clear HOP HOP1 HNOP HINY HINZ
                      go_wp2_with (go_at_call 45; refine HIj.out.mono ?_; rintro e w1 ⟨rfl, hw⟩; obtain rfl := hw.symm)
                      go_ret2
                      exact ⟨ret_pair (by rw [HE.out]; rfl) HE.out.symm, HS.out⟩
                · cases ij
                  · have HOP2 := hide (HOP1.out (by rw [HOP.out]; rfl))
                    have HZ := hide (HINZ.out (fun h => by have := h.2; cases this))
                    have d2 : (true == false) = false := rfl
                    clear HOP HOP1 HNOP HINY HINZ
                    go_wp2_with (go_at_call 45; refine HIj.out.mono ?_; rintro e w1 ⟨rfl, hw⟩; obtain rfl := hw.symm)
                    go_roundw
                    case rel => exact ⟨j + 1, by omega, by go_num, by rw [HZ.out], HOP2, trivial⟩
                    case measure => simp [intOf]; omega
                  · have HE := hide (HNOP.out (by rw [HOP.out]; rfl))
                    have d1 : (true == true) = true := rfl
                    clear HOP HOP1 HNOP HINY HINZ
                    go_wp2_with (go_at_call 45; refine HIj.out.mono ?_; rintro e w1 ⟨rfl, hw⟩; obtain rfl := hw.symm)
                    go_ret2
                    exact ⟨ret_pair (by rw [HE.out]; rfl) HE.out.symm, HS.out⟩
            · obtain rfl : j = n := by omega
              have hok' : Hid (∀ i, i < k + 1 → okQ j y ins most (nth set i).toNat) := fun i hi => by
                by_cases e : i = k
                · subst e
                  rw [HQ.out]
                  exact ⟨HUL.out.1, HUL.out.2, by simpa using hop.out⟩
                · exact hok.out i (by omega)
              go_wp2_with fail
              go_roundw
              case rel => exact ⟨k + 1, by omega, by go_num, by rw [HM.out], hok', trivial⟩
              case measure => simp [intOf]; omega
    · obtain rfl : k = m := by omega
      have HE : Hid (aloneN n y ins most = mostR n y ins set k) := by
        show _ = _
        rw [HYES.out (by rw [HL.out]; exact hok.out), HL.out]
      have hd1 := HMB.out k (by rw [HL.out]; omega)
      generalize mostR n y ins set k = d at *
      go_wp2_with fail
      go_ret2
      exact ⟨ret_pair (by rw [HE.out]; simp; omega) HE.out.symm, HS.out⟩
end Go.Proofs.Ytkcjfiifajjpiaa
