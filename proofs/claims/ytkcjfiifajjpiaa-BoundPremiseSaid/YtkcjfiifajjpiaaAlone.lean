/-
  Contract of net.alone; the plain answer.
-/
import Derived.Test.YtkcjfiifajjpiaaSplit
set_option linter.unusedVariables false
set_option linter.unusedSimpArgs false
namespace Go.Proofs.Ytkcjfiifajjpiaa
open Go.RowKit Go.WideShapes Go.ChangeShapes Q

/-- Is one path as it must be? -/
def okPath (x : Net) (ins : Nat → Bool) (most : Int) (p q : Nat) : Bool := decide (p = q) || (x.cut p q != ins p && (!ins p || decide (x.dly p q ≤ most)))
/-- The greatest delay of paths to q from those below j, at least d. -/
def into (x : Net) (ins : Nat → Bool) (q : Nat) : Nat → Int → Int
  | 0, d => d
  | j + 1, d => if j ≠ q ∧ ins j = true then max (into x ins q j d) (x.dly j q) else into x ins q j d
/-- The greatest delay to those below k, at least 1. -/
def most_ (n : Nat) (x : Net) (ins : Nat → Bool) : Nat → Int
  | 0 => 1
  | k + 1 => if ins k = true then into x ins k n (most_ n x ins k) else most_ n x ins k
def okNode (n : Nat) (x : Net) (ins : Nat → Bool) (most : Int) (q : Nat) : Prop := ins q = true → x.up q = true ∧ x.left q = false ∧ ∀ p, p < n → okPath x ins most p q = true
instance (n : Nat) (x : Net) (ins : Nat → Bool) (most : Int) (q : Nat) : Decidable (okNode n x ins most q) := by unfold okNode; infer_instance
/-- What alone answers. -/
def aloneN (n : Nat) (x : Net) (ins : Nat → Bool) (most : Int) : Int := if ∀ q, q < n → okNode n x ins most q then most_ n x ins n else 0
theorem aloneN_yes {n : Nat} {x : Net} {ins : Nat → Bool} {most : Int} (h : ∀ q, q < n → okNode n x ins most q) : aloneN n x ins most = most_ n x ins n := if_pos h
theorem aloneN_no {n : Nat} {x : Net} {ins : Nat → Bool} {most : Int} {q : Nat} (hq : q < n) (h : ¬ okNode n x ins most q) : aloneN n x ins most = 0 := if_neg fun hh => h (hh q hq)
theorem into_ge (x : Net) (ins : Nat → Bool) (q : Nat) : ∀ (j : Nat) (d : Int), d ≤ into x ins q j d
  | 0, d => Int.le_refl d
  | j + 1, d => by
    have := into_ge x ins q j d
    unfold into
    split <;> omega
theorem most_ge (n : Nat) (x : Net) (ins : Nat → Bool) : ∀ k, 1 ≤ most_ n x ins k
  | 0 => Int.le_refl 1
  | k + 1 => by
    have := most_ge n x ins k
    have h2 := into_ge x ins k n (most_ n x ins k)
    unfold most_
    split <;> omega
/-- Delays are small numbers. -/
def Slow (n : Nat) (x : Net) : Prop := ∀ p q, p < n → q < n → 1 ≤ x.dly p q ∧ x.dly p q ≤ 16
theorem into_le {n : Nat} {x : Net} (hx : Slow n x) (ins : Nat → Bool) {q : Nat} (hq : q < n) : ∀ (j : Nat) (d : Int), j ≤ n → d ≤ 16 → into x ins q j d ≤ 16
  | 0, d, _, hd => hd
  | j + 1, d, hj, hd => by
    have := into_le hx ins hq j d (by omega) hd
    have h2 := (hx j q (by omega) hq).2
    unfold into
    split <;> omega
theorem most_le {n : Nat} {x : Net} (hx : Slow n x) (ins : Nat → Bool) : ∀ k, k ≤ n → most_ n x ins k ≤ 16
  | 0, _ => by unfold most_; omega
  | k + 1, hk => by
    have := most_le hx ins k (by omega)
    have h2 := into_le hx ins (q := k) (by omega) n _ (Nat.le_refl n) this
    unfold most_
    split <;> omega
theorem max_1 {a b : Int} (h : b ≤ a) : max a b = a := by omega
theorem max_2 {a b : Int} (h : ¬ b ≤ a) : max a b = b := by omega

set_option maxRecDepth 100000 in
set_option maxHeartbeats 1000000 in
theorem alone_any (n ib : Nat) (L : Lay) (x : Net) (S : Nat → Prop) (ins : Nat → Bool) (most : Int) (w : World) (h : NetAt w S n L x) (hi : Blk w ib 4 (tab n (bools ins))) (hx : Slow n x) (hn : n ≤ 16) (hm : -9223372036854775808 ≤ most ∧ most ≤ 9223372036854775807) :
    Calls Try.prog 31 #[.pointer (some ⟨L.nb, 0, none⟩), sl ib n, .int .i64 most] w fun e w' => e = .returned (.int .i64 (aloneN n x ins most)) ∧ St (fun _ => False) w w' := by
  have HN := hide h
  have HI := hide hi
  have HX := hide hx
  have HQ : ∀ V, Hid (St (fun _ => False) w V → NetAt V S n L x ∧ Blk V ib 4 (tab n (bools ins))) := fun V hs => ⟨h.quiet hs, hi.st hs (fun e => e)⟩
  clear h hi hx hm
  go_enter Try.func31, Try.ntmps31
  go_wp2_with fail
  go_loopw [7, 13] (fun d i wr => ∃ k : Nat, k ≤ n ∧ i = .int .i64 k ∧ d = .int .i64 (most_ n x ins k) ∧ Hid (∀ q, q < k → okNode n x ins most q) ∧ Hid (St (fun _ => False) w wr)) (fun _ i _ => n - (intOf i).toNat)
  case atStart => exact ⟨0, Nat.zero_le _, rfl, rfl, fun q hq => absurd hq (by omega), St.refl _ w⟩
  case round =>
    obtain ⟨k, hk, rfl, rfl, hok, hs⟩ := hrel
    by_cases hlt : k < n
    · obtain ⟨hN, hI⟩ := (HQ wr).out hs.out
      have i0 : (0 : Int) ≤ (k : Int) := by omega
      have i1 : (k : Int) < (n : Int) := by omega
      have ci : wr.cell? ⟨ib, k, none⟩ = some (.bool (ins k)) := by rw [hI.cell, tab_get _ _ _ hlt]; rfl
      cases hin : ins k with
      | false =>
        rw [hin] at ci
        have HM : Hid (most_ n x ins (k + 1) = most_ n x ins k) := by
          show _ = _
          rw [most_, if_neg (by rw [hin]; simp)]
        have hok' : Hid (∀ q, q < k + 1 → okNode n x ins most q) := fun q hq => by
          by_cases e : q = k
          · subst e; intro he; rw [hin] at he; cases he
          · exact hok.out q (by omega)
        generalize most_ n x ins k = d at *
        clear hin hN hI
        go_wp2_with fail
        go_roundw
        case rel => exact ⟨k + 1, by omega, by go_num, by rw [HM.out], hok', hs⟩
        case measure => simp [intOf]; omega
      | true =>
        rw [hin] at ci
        have cu := hN.cu hlt
        have cl := hN.cl hlt
        have y0 := hN.c0
        have y1 := hN.c1
        have HNI := hide (And.intro hN hI)
        clear hN hI
        cases hup : x.up k with
        | false =>
          have HE : Hid (aloneN n x ins most = 0) := aloneN_no hlt fun h => by
            have := (h hin).1
            rw [hup] at this
            cases this
          rw [hup] at cu
          clear hup hin
          generalize most_ n x ins k = d at *
          go_wp2_with fail
          go_ret
          exact ⟨ret_int HE.out.symm, hs.out⟩
        | true =>
          cases hlf : x.left k with
          | true =>
            have HE : Hid (aloneN n x ins most = 0) := aloneN_no hlt fun h => by
              have := (h hin).2.1
              rw [hlf] at this
              cases this
            rw [hup] at cu
            rw [hlf] at cl
            clear hup hlf hin
            generalize most_ n x ins k = d at *
            go_wp2_with fail
            go_ret
            exact ⟨ret_int HE.out.symm, hs.out⟩
          | false =>
            rw [hup] at cu
            rw [hlf] at cl
            have HUL := hide (And.intro hin (And.intro hup hlf))
            have HM : Hid (most_ n x ins (k + 1) = into x ins k n (most_ n x ins k)) := by
              show _ = _
              rw [most_, if_pos hin]
            have hb1 := most_ge n x ins k
            have HB2 := hide (fun j (hj : j ≤ n) => into_le HX.out ins hlt j (most_ n x ins k) hj (most_le HX.out ins k hk))
            clear hup hlf hin
            generalize most_ n x ins k = d at *
            go_wp2_with fail
            clear ci cu cl y0 y1 HNI
            go_loopw [7, 40] (fun d' i wr => ∃ j : Nat, j ≤ n ∧ i = .int .i64 j ∧ d' = .int .i64 (into x ins k j d) ∧ Hid (∀ p, p < j → okPath x ins most p k = true) ∧ Hid (St (fun _ => False) w wr)) (fun _ i _ => n - (intOf i).toNat)
            case atStart => exact ⟨0, Nat.zero_le _, rfl, rfl, fun q hq => absurd hq (by omega), hs⟩
            case round =>
              obtain ⟨j, hj, rfl, rfl, hop, hs2⟩ := hrel
              clear hs
              by_cases hjl : j < n
              · obtain ⟨hN, hI⟩ := (HQ wr).out hs2.out
                have j0 : (0 : Int) ≤ (j : Int) := by omega
                have j1 : (j : Int) < (n : Int) := by omega
                have y2 := hN.c2
                have yp := hN.cp hjl
                have yc := hN.cc hjl hlt
                have yd := hN.cd hjl hlt
                have hbd := HX.out j k hjl hlt
                have hb3 := HB2.out j hj
                have hb4 := into_ge x ins k j d
                have HIN : Hid (j ≠ k → ins j = true → into x ins k (j + 1) d = max (into x ins k j d) (x.dly j k)) := fun h1 h2 => by rw [into, if_pos ⟨h1, h2⟩]
                have HIZ : Hid (¬ (j ≠ k ∧ ins j = true) → into x ins k (j + 1) d = into x ins k j d) := fun h1 => by rw [into, if_neg h1]
                have HOK : Hid (okPath x ins most j k = true → ∀ p, p < j + 1 → okPath x ins most p k = true) := fun he p hp => by
                  by_cases e : p = j
                  · subst e; exact he
                  · exact hop.out p (by omega)
                have HNO : Hid (okPath x ins most j k = false → aloneN n x ins most = 0) := fun he => aloneN_no hlt fun h => by
                  have := (h HUL.out.1).2.2 j hjl
                  rw [he] at this
                  cases this
                have ci : wr.cell? ⟨ib, j, none⟩ = some (.bool (ins j)) := by rw [hI.cell, tab_get _ _ _ hjl]; rfl
                have HOP : Hid (okPath x ins most j k = (decide (j = k) || (x.cut j k != ins j && (!ins j || decide (x.dly j k ≤ most))))) := rfl
                have bn0 := Blk.new wr 82 #[.bool false, .int .i64 0]
                have q0 := bn0.cell 0
                have q1 := bn0.cell 1
                have f0 := bn0.frozen 0
                have f1 := bn0.frozen 1
                go_upto_region 12 with fail
                clear bn0 q0 q1 f0 f1 y2 yp yc yd
                have HSN : Hid (St (fun _ => False) w (wr.alloc (.cells #[.bool (x.cut j k), .int .i64 (x.dly j k)] 82))) := hs2.out.alloc _
                have m0 : (wr.alloc (.cells #[.bool (x.cut j k), .int .i64 (x.dly j k)] 82)).cell? ⟨wr.heap.size, 0, none⟩ = some (.bool (x.cut j k)) := (Blk.new wr 82 #[.bool (x.cut j k), .int .i64 (x.dly j k)]).cell 0
                have m1 : (wr.alloc (.cells #[.bool (x.cut j k), .int .i64 (x.dly j k)] 82)).cell? ⟨wr.heap.size, 1, none⟩ = some (.int .i64 (x.dly j k)) := (Blk.new wr 82 #[.bool (x.cut j k), .int .i64 (x.dly j k)]).cell 1
                have ci2 := cell_alloc ci (.cells #[.bool (x.cut j k), .int .i64 (x.dly j k)] 82)
                generalize hgw : wr.alloc (.cells #[.bool (x.cut j k), .int .i64 (x.dly j k)] 82) = w1 at *
                clear hgw ci hN hI
                generalize wr.heap.size = wb at *
                by_cases ejk : j = k
                · subst ejk
                  have HOP2 := hide (HOK.out (by rw [HOP.out]; simp))
                  have HZ := hide (HIZ.out (fun h => h.1 rfl))
                  have d0 : ((j : Int) == (j : Int)) = true := by simp
                  clear HOP HOK HNO HIN HIZ
                  generalize hiv : into x ins j j d = dd at *
                  clear hiv
                  go_wp2_with fail
                  go_roundw
                  case rel => exact ⟨j + 1, by omega, by go_num, by rw [HZ.out], HOP2, HSN⟩
                  case measure => simp [intOf]; omega
                · have d0 : ((j : Int) == (k : Int)) = false := by rw [beq_eq_false_iff_ne]; omega
                  have d0' : decide (j = k) = false := decide_eq_false ejk
                  rw [d0', Bool.false_or] at HOP
                  have HJK := hide ejk
                  clear ejk d0'
                  generalize hcut : x.cut j k = cu at *
                  generalize hdl : x.dly j k = dl at *
                  generalize hij : ins j = ij at *
                  clear hcut hdl
                  generalize into x ins k j d = dd at *
                  cases cu
                  · cases ij
                    · have HE := hide (HNO.out (by rw [HOP.out]; rfl))
                      have d1 : (false == false) = true := rfl
                      clear HOP HOK HNO HIN HIZ
                      go_wp2_with fail
                      go_quiet (fail)
                      go_wp2_with fail
                      go_ret
                      exact ⟨ret_int HE.out.symm, HSN.out.drewN _⟩
                    · by_cases hdm : dl ≤ most
                      · have HOP2 := hide (HOK.out (by rw [HOP.out]; simp [hdm]))
                        have HZ := hide (HIN.out HJK.out rfl)
                        have d1 : decide (most < dl) = false := decide_eq_false (by omega)
                        have d2 : (false == true) = false := rfl
                        clear HOP HOK HNO HIN HIZ
                        go_wp2_with fail
                        go_quiet (fail)
                        go_wp2_with fail
                        go_roundw
                        case rel => exact ⟨j + 1, by omega, by go_num, by rw [HZ.out]; exact vint (by split <;> omega), HOP2, HSN.out.drewN _⟩
                        case measure => simp [intOf]; omega
                      · have HE := hide (HNO.out (by rw [HOP.out]; simp [hdm]))
                        have d1 : decide (most < dl) = true := decide_eq_true (by omega)
                        have d2 : (false == true) = false := rfl
                        clear HOP HOK HNO HIN HIZ
                        go_wp2_with fail
                        go_quiet (fail)
                        go_wp2_with fail
                        go_ret
                        exact ⟨ret_int HE.out.symm, HSN.out.drewN _⟩
                  · cases ij
                    · have HOP2 := hide (HOK.out (by rw [HOP.out]; rfl))
                      have HZ := hide (HIZ.out (fun h => by have := h.2; cases this))
                      have d2 : (true == false) = false := rfl
                      clear HOP HOK HNO HIN HIZ
                      go_wp2_with fail
                      go_quiet (fail)
                      go_wp2_with fail
                      go_roundw
                      case rel => exact ⟨j + 1, by omega, by go_num, by rw [HZ.out], HOP2, HSN.out.drewN _⟩
                      case measure => simp [intOf]; omega
                    · have HE := hide (HNO.out (by rw [HOP.out]; rfl))
                      have d1 : (true == true) = true := rfl
                      clear HOP HOK HNO HIN HIZ
                      go_wp2_with fail
                      go_quiet (fail)
                      go_wp2_with fail
                      go_ret
                      exact ⟨ret_int HE.out.symm, HSN.out.drewN _⟩
              · obtain rfl : j = n := by omega
                have hok' : Hid (∀ q, q < k + 1 → okNode j x ins most q) := fun q hq => by
                  by_cases e : q = k
                  · subst e; exact fun _ => ⟨HUL.out.2.1, HUL.out.2.2, hop.out⟩
                  · exact hok.out q (by omega)
                go_wp2_with fail
                go_roundw
                case rel => exact ⟨k + 1, by omega, by go_num, by rw [HM.out], hok', hs2⟩
                case measure => simp [intOf]; omega
    · obtain rfl : k = n := by omega
      have HE : Hid (aloneN k x ins most = most_ k x ins k) := aloneN_yes hok.out
      go_wp2_with fail
      go_ret
      exact ⟨ret_int HE.out.symm, hs.out⟩
end Go.Proofs.Ytkcjfiifajjpiaa
