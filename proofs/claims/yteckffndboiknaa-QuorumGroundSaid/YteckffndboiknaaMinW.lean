/-
  Contracts of the program's minimal, of the reference's minimal and nodes, and of before.
-/
import Derived.Test.YteckffndboiknaaPlainG
import Derived.Test.YteckffndboiknaaTol
set_option linter.unusedVariables false
set_option linter.unusedSimpArgs false
namespace Go.Proofs.Yteckffndboiknaa
open Go.RowKit Go.WideShapes Go.ChangeShapes Q

theorem and_not_bit (s k : Nat) (hs : s < 18446744073709551616) (hk : k < 64) (h : s.testBit k = true) : s &&& (18446744073709551615 - 2 ^ k) = s - 2 ^ k := by
  apply Nat.eq_of_testBit_eq
  intro i
  have h1 : (2 : Nat) ^ k < 2 ^ 64 := Nat.pow_lt_pow_right (by omega) hk
  rw [Nat.testBit_and, testBit_sub s k i h, show 18446744073709551615 - 2 ^ k = 2 ^ 64 - (2 ^ k + 1) by omega, Nat.testBit_two_pow_sub_succ h1]
  by_cases hi : i < 64
  · by_cases e : i = k
    · subst e
      simp [Nat.testBit_two_pow_self]
    · rw [Nat.testBit_two_pow_of_ne (fun e' => e e'.symm)]
      simp [hi, e]
  · have : s < 2 ^ i := Nat.lt_of_lt_of_le hs (show 18446744073709551616 ≤ 2 ^ i from Nat.pow_le_pow_right (n := 2) (i := 64) (by omega) (by omega))
    rw [Nat.testBit_lt_two_pow this]
    simp

set_option maxRecDepth 100000 in
set_option maxHeartbeats 1000000 in
theorem minimal_any (s : Nat) (base b : Nat) (vs : List Int) (w : World) (h : Ballot w base b vs) (hok : Ok vs) (hs : s < 65536) :
    Calls Try.prog 62 #[.pointer (some ⟨b, 0, none⟩), .int .u64 s] w fun e w' => e = .returned (.bool (minB vs s)) ∧ w = w' := by
  obtain ⟨g, cap, hblk, _⟩ := id h
  have c0 := hblk.cell 0
  simp only [List.getElem?_toArray, List.getElem?_cons_zero, List.getElem?_cons_succ] at c0
  have h16 := hok.2.1
  have HB := hide h
  have HOK := hide hok
  clear hblk h hok
  cases hw : winsB vs s with
  | false =>
    have HE : Hid (minB vs s = false) := by show _ = _; unfold minB; rw [hw]; rfl
    have HQ := hide (quorate_any s base b vs w HB.out HOK.out (by omega))
    rw [hw] at HQ
    clear hw
    go_enter Try.func62, Try.ntmps62
    go_wp2_with (go_at_call 44; refine HQ.out.mono ?_; rintro e w' ⟨rfl, rfl⟩)
    go_ret
    exact ⟨ret_bool HE.out.symm, rfl⟩
  | true =>
    have HE : Hid (minB vs s = leanTo vs s vs.length) := by show _ = _; unfold minB; rw [hw]; rfl
    have HQ := hide (quorate_any s base b vs w HB.out HOK.out (by omega))
    rw [hw] at HQ
    clear hw
    go_enter Try.func62, Try.ntmps62
    go_wp2_with (go_at_call 44; refine HQ.out.mono ?_; rintro e w' ⟨rfl, rfl⟩)
    go_loop [15] (fun i => ∃ k : Nat, k ≤ vs.length ∧ i = .int .i64 k ∧ Hid (leanTo vs s k = true)) (fun i => vs.length - (intOf i).toNat)
    case atStart => exact ⟨0, Nat.zero_le _, rfl, rfl⟩
    case round =>
      obtain ⟨k, hk, rfl, hl⟩ := hrel
      by_cases hlt : k < vs.length
      · have hbit := and_one_u64_bit s k (by omega)
        have ik0 : (0 : Int) ≤ (k : Int) := by omega
        have ikn : (k : Int) < (vs.length : Int) := by omega
        cases hq : s.testBit k with
        | false =>
          rw [hq] at hbit
          have HL : Hid (leanTo vs s (k + 1) = true) := by show _ = _; rw [leanTo, hl.out, hq]; rfl
          clear hq
          go_wp2_with fail
          go_round
          case rel => exact ⟨k + 1, by omega, by go_num, HL⟩
          case measure => simp [intOf]; omega
        | true =>
          rw [hq] at hbit
          obtain ⟨u, hu⟩ : ∃ u, u = s - 2 ^ k := ⟨_, rfl⟩
          have hus : u < 65536 := by rw [hu]; exact Nat.lt_of_le_of_lt (Nat.sub_le _ _) hs
          have hand : bits BinOp.andNot IntKind.u64 (s : Int) ((2 : Int) ^ k) = (u : Int) := by
            have hle : 2 ^ k ≤ s := Nat.ge_two_pow_of_testBit hq
            have := u64_andNot_nat s (2 ^ k) (by omega) (by omega)
            rw [and_not_bit s k (by omega) (by omega) hq, ← hu] at this
            rw [← this, nat_pow_cast']
          have p1 := two_pow_le k (by omega)
          cases hv : winsB vs u with
          | true =>
            have HL : Hid (leanTo vs s vs.length = false) := leanTo_stop hq (hu ▸ hv) hlt
            have HQ2 := hide (quorate_any u base b vs w HB.out HOK.out (by omega))
            rw [hv] at HQ2
            clear hq hv hu
            go_wp2_with (go_at_call 44; refine HQ2.out.mono ?_; rintro e w' ⟨rfl, rfl⟩)
            go_ret
            exact ⟨ret_bool (by rw [HE.out, HL.out]), rfl⟩
          | false =>
            have HL : Hid (leanTo vs s (k + 1) = true) := by show _ = _; rw [leanTo, hl.out, hq, ← hu, hv]; rfl
            have HQ2 := hide (quorate_any u base b vs w HB.out HOK.out (by omega))
            rw [hv] at HQ2
            clear hq hv hu
            go_wp2_with (go_at_call 44; refine HQ2.out.mono ?_; rintro e w' ⟨rfl, rfl⟩)
            go_round
            case rel => exact ⟨k + 1, by omega, by go_num, HL⟩
            case measure => simp [intOf]; omega
      · obtain rfl : k = vs.length := by omega
        go_wp2_with fail
        go_ret
        exact ⟨ret_bool (by rw [HE.out, hl.out]), rfl⟩

set_option maxRecDepth 100000 in
set_option maxHeartbeats 1000000 in
theorem refMinimal_any (s : Nat) (A : Option Addr) (B n c : Nat) (vs : List Int) (w : World) (h : RI w B A n vs) (hs : s < 65536) (hok : Ok vs) :
    Calls Try.prog 83 #[.slice A n c, .int .i64 s] w fun e w' => e = .returned (.bool (minB vs s)) ∧ w = w' := by
  have hl := h.len
  subst hl
  have h16 := hok.2.1
  have HR := hide h
  have HOK := hide hok
  clear h hok
  cases hw : winsB vs s with
  | false =>
    have HE : Hid (minB vs s = false) := by show _ = _; unfold minB; rw [hw]; rfl
    have HQ := hide (wins_any s A B _ c vs w HR.out (by omega) HOK.out)
    rw [hw] at HQ
    clear hw
    go_enter Try.func83, Try.ntmps83
    go_wp2_with (go_at_call 48; refine HQ.out.mono ?_; rintro e w' ⟨rfl, rfl⟩)
    go_ret
    exact ⟨ret_bool HE.out.symm, rfl⟩
  | true =>
    have HE : Hid (minB vs s = leanTo vs s vs.length) := by show _ = _; unfold minB; rw [hw]; rfl
    have HQ := hide (wins_any s A B _ c vs w HR.out (by omega) HOK.out)
    rw [hw] at HQ
    clear hw
    go_enter Try.func83, Try.ntmps83
    go_wp2_with (go_at_call 48; refine HQ.out.mono ?_; rintro e w' ⟨rfl, rfl⟩)
    go_loop [5] (fun i => ∃ k : Nat, k ≤ vs.length ∧ i = .int .i64 k ∧ Hid (leanTo vs s k = true)) (fun i => vs.length - (intOf i).toNat)
    case atStart => exact ⟨0, Nat.zero_le _, rfl, rfl⟩
    case round =>
      obtain ⟨k, hk, rfl, hl⟩ := hrel
      by_cases hlt : k < vs.length
      · have HIN := hide (in_any s k w (by omega) (by omega))
        have ik0 : (0 : Int) ≤ (k : Int) := by omega
        have ikn : (k : Int) < (vs.length : Int) := by omega
        cases hq : s.testBit k with
        | false =>
          rw [hq] at HIN
          have HL : Hid (leanTo vs s (k + 1) = true) := by show _ = _; rw [leanTo, hl.out, hq]; rfl
          clear hq
          go_wp2_with (go_at_call 69; refine HIN.out.mono ?_; rintro e w' ⟨rfl, rfl⟩)
          go_round
          case rel => exact ⟨k + 1, by omega, by go_num, HL⟩
          case measure => simp [intOf]; omega
        | true =>
          rw [hq] at HIN
          obtain ⟨u, hu⟩ : ∃ u, u = s - 2 ^ k := ⟨_, rfl⟩
          have hus : u < 65536 := by rw [hu]; exact Nat.lt_of_le_of_lt (Nat.sub_le _ _) hs
          have p1 := two_pow_le k (by omega)
          have hsub : (s : Int) - (2 : Int) ^ k = (u : Int) := by
            have hle : 2 ^ k ≤ s := Nat.ge_two_pow_of_testBit hq
            rw [hu, ← nat_pow_cast' k, Int.ofNat_sub hle]
          cases hv : winsB vs u with
          | true =>
            have HL : Hid (leanTo vs s vs.length = false) := leanTo_stop hq (hu ▸ hv) hlt
            have HQ2 := hide (wins_any u A B _ c vs w HR.out (by omega) HOK.out)
            rw [hv] at HQ2
            clear hq hv hu
            go_wp2_with (first | (go_at_call 69; refine HIN.out.mono ?_; rintro e w' ⟨rfl, rfl⟩) | (go_at_call 48; refine HQ2.out.mono ?_; rintro e w' ⟨rfl, rfl⟩))
            go_ret
            exact ⟨ret_bool (by rw [HE.out, HL.out]), rfl⟩
          | false =>
            have HL : Hid (leanTo vs s (k + 1) = true) := by show _ = _; rw [leanTo, hl.out, hq, ← hu, hv]; rfl
            have HQ2 := hide (wins_any u A B _ c vs w HR.out (by omega) HOK.out)
            rw [hv] at HQ2
            clear hq hv hu
            go_wp2_with (first | (go_at_call 69; refine HIN.out.mono ?_; rintro e w' ⟨rfl, rfl⟩) | (go_at_call 48; refine HQ2.out.mono ?_; rintro e w' ⟨rfl, rfl⟩))
            go_round
            case rel => exact ⟨k + 1, by omega, by go_num, HL⟩
            case measure => simp [intOf]; omega
      · obtain rfl : k = vs.length := by omega
        go_wp2_with fail
        go_ret
        exact ⟨ret_bool (by rw [HE.out, hl.out]), rfl⟩

theorem listTo_high {s n : Nat} (hs : s < 2 ^ n) : ∀ d, listTo s (n + d) = listTo s n
  | 0 => rfl
  | d + 1 => by
    have h1 : s < 2 ^ (n + d) := Nat.lt_of_lt_of_le hs (Nat.pow_le_pow_right (by omega) (by omega))
    show listTo s (n + d + 1) = _
    rw [listTo, Nat.testBit_lt_two_pow h1]
    exact listTo_high hs d

set_option maxRecDepth 100000 in
theorem nodes_any (s : Nat) (w : World) (hs : s < 65536) :
    Calls Try.prog 84 #[.int .i64 s] w fun e w' => ∃ v, e = .returned v ∧ w'.ownsRow w.heap.size 3 1 v (listTo s 16).length (ints (listTo s 16)) ∧ Below w.heap.size w w' := by
  obtain ⟨i0, hi, hz0, hz1, hz2⟩ := info_parts info3
  have HIN0 := hide (fun (k : Nat) (W : World) (hk : k < 16) => in_any s k W (by omega) (by omega))
  have I0 := hide hi
  clear hi
  go_enter Try.func84, Try.ntmps84
  go_wp2
  go_loopw [3, 4] (fun v i wr => ∃ k : Nat, k ≤ 16 ∧ i = .int .i64 k ∧ Hid (wr.ownsRow w.heap.size 3 1 v (listTo s k).length (ints (listTo s k))) ∧ Hid (Below w.heap.size w wr)) (fun _ i _ => 16 - (intOf i).toNat)
  case atStart => exact ⟨0, by omega, rfl, World.ownsRow_nil _ _ _ _, Below.refl _ _⟩
  case round =>
    obtain ⟨k, hk, rfl, hown, hb⟩ := hrel
    have hll := listTo_len s k
    have hsz := hb.out.size
    by_cases hlt : k < 16
    · have HIN := hide (HIN0.out k wr hlt)
      have ik : (k : Int) < 16 := by omega
      cases hq : s.testBit k
      · rw [hq] at HIN
        have HL : Hid (listTo s (k + 1) = listTo s k) := by show _ = _; rw [listTo, hq]; rfl
        clear hq
        go_wp2_with (go_at_call 69; refine HIN.out.mono ?_; rintro e w' ⟨rfl, rfl⟩)
        go_roundw
        case rel => exact ⟨k + 1, by omega, by go_num, by rw [HL.out]; exact hown, hb⟩
        case measure => simp [intOf]; omega
      · rw [hq] at HIN
        have HL : Hid (listTo s (k + 1) = listTo s k ++ [(k : Int)]) := by show _ = _; rw [listTo, hq]; rfl
        clear hq
        go_wp2_with (first | (go_at_call 69; refine HIN.out.mono ?_; rintro e w' ⟨rfl, rfl⟩) | (at_builtin; refine wpList_push rfl (.tmp 12) (.tmp 14) _ rfl w.heap.size 3 i0 _ 1 8 Try.underlying32 I0.out hz0 hz1 hz2 rfl (by omega) _ _ _ rfl hown.out 1 1 #[.int .i64 (k : Int)] rfl rfl (by simp [Value.oneCell']) (by omega) (by unfold maxLen; omega) (by omega) hsz ?_; intro g' cap' w1 hown1 _ hb1 _ _ _))
        have hown2 : Hid (w1.ownsRow w.heap.size 3 1 (.slice (some ⟨g', 0, none⟩) ((listTo s k).length + 1) cap') (listTo s (k + 1)).length (ints (listTo s (k + 1)))) := by
          rw [HL.out, ints_append, List.length_append, List.length_singleton]; exact hown1
        have hb2 := hide (hb.out.trans hb1)
        clear hown1 hb1 hb
        go_wp2
        go_roundw
        case rel => exact ⟨k + 1, by omega, by go_num, hown2, hb2⟩
        case measure => simp [intOf]; omega
    · obtain rfl : k = 16 := by omega
      go_wp2
      go_ret
      exact ⟨_, rfl, hown.out, hb.out⟩

theorem drop_nth {l : List Int} {k : Nat} (h : k < l.length) : l.drop k = nth l k :: l.drop (k + 1) := by
  rw [List.drop_eq_getElem_cons h]
  congr 1
  simp [nth, List.getD, h]

theorem drop_nil {l : List Int} {k : Nat} (h : l.length ≤ k) : l.drop k = [] := List.drop_eq_nil_of_le h
set_option maxRecDepth 100000 in
set_option maxHeartbeats 1000000 in
theorem before_any (A A' : Option Addr) (B B' n m c d : Nat) (xs ys : List Int) (w : World) (h : RI w B A n xs) (h' : RI w B' A' m ys) (hn : n ≤ 16) (hm : m ≤ 16) :
    Calls Try.prog 65 #[.slice A n c, .slice A' m d] w fun e w' => e = .returned (.bool (lexB xs ys)) ∧ ∃ q, w' = w.drewN q := by
  have HLx := hide h.len
  have HLy := hide h'.len
  have HX := hide h
  have HY := hide h'
  clear h h'
  by_cases hc : m < n
  · go_enter Try.func65, Try.ntmps65
    go_upto_region 2 with fail
    go_loopw [11] (fun i wr => ∃ k : Nat, k ≤ m ∧ i = .int .i64 k ∧ Hid (lexB xs ys = lexB (xs.drop k) (ys.drop k)) ∧ ∃ q, wr = w.drewN q) (fun i _ => m - (intOf i).toNat)
    case atStart => exact ⟨0, Nat.zero_le _, rfl, rfl, 0, rfl⟩
    case round =>
      obtain ⟨k, hk, rfl, hl, q, rfl⟩ := hrel
      by_cases hlt : k < m
      · obtain ⟨ad, hA, _, hcx⟩ := HX.out.at_ (k := k) (by omega)
        subst hA
        obtain ⟨ad2, hA2, _, hcy⟩ := HY.out.at_ (k := k) (by omega)
        subst hA2
        have hx1 := drop_nth (l := xs) (k := k) (by rw [HLx.out]; omega)
        have hy1 := drop_nth (l := ys) (k := k) (by rw [HLy.out]; omega)
        have i0 : (0 : Int) ≤ (k : Int) := by omega
        have i1 : (k : Int) < (n : Int) := by omega
        have i2 : (k : Int) < (m : Int) := by omega
        have hcx' : (w.drewN q).cell? (ad.add k) = some (.int .i64 (nth xs k)) := hcx
        have hcy' : (w.drewN q).cell? (ad2.add k) = some (.int .i64 (nth ys k)) := hcy
        have HD : Hid (lexB xs ys = if nth xs k = nth ys k then lexB (xs.drop (k + 1)) (ys.drop (k + 1)) else decide (nth xs k < nth ys k)) := by
          show _ = _
          rw [hl.out, hx1, hy1, lexB]
        obtain ⟨x, hx⟩ : ∃ x, x = nth xs k := ⟨_, rfl⟩
        obtain ⟨y, hy⟩ : ∃ y, y = nth ys k := ⟨_, rfl⟩
        rw [← hx] at hcx' HD
        rw [← hy] at hcy' HD
        obtain ⟨wd, hwd⟩ : ∃ wd, wd = w.drewN q := ⟨_, rfl⟩
        rw [← hwd] at hcx' hcy' ⊢
        have HWD := hide hwd
        clear hcx hcy hx hy hx1 hy1 hl hwd
        by_cases he : x = y
        · subst he
          have d0 : (x != x) = false := by simp
          rw [if_pos rfl] at HD
          go_upto_region 4 with fail
          go_quiet (fail)
          go_wp2_with fail
          go_roundw
          case rel => exact ⟨k + 1, by omega, by go_num, HD, _, by rw [HWD.out, World.drewN_drewN]⟩
          case measure => simp [intOf]; omega
        · have d0 : (x != y) = true := by simpa using he
          rw [if_neg he] at HD
          clear he
          go_upto_region 4 with fail
          go_quiet (fail)
          obtain ⟨we, hwe⟩ : ∃ we, we = wd.drewN nq := ⟨_, rfl⟩
          have hcx2 : we.cell? (ad.add k) = some (.int .i64 x) := by rw [hwe]; exact hcx'
          have hcy2 : we.cell? (ad2.add k) = some (.int .i64 y) := by rw [hwe]; exact hcy'
          rw [← hwe]
          have HWE := hide hwe
          clear hwe hcx' hcy'
          go_upto_region 5 with fail
          go_quiet (fail)
          go_wp2_with fail
          go_ret
          exact ⟨ret_bool HD.out.symm, _, by rw [HWE.out, HWD.out, World.drewN_drewN, World.drewN_drewN]⟩
      · obtain rfl : k = m := by omega
        have HD : Hid (lexB xs ys = decide (n < k)) := by
          show _ = _
          rw [hl.out]
          have h1 := HLx.out
          have h2 := HLy.out
          rw [drop_nil (l := ys) (by omega), drop_nth (l := xs) (by omega)]
          show false = _
          simp; omega
        go_wp2_with fail
        go_ret
        exact ⟨by rw [HD.out]; simp, q, rfl⟩
  · go_enter Try.func65, Try.ntmps65
    go_upto_region 2 with fail
    go_loopw [11] (fun i wr => ∃ k : Nat, k ≤ n ∧ i = .int .i64 k ∧ Hid (lexB xs ys = lexB (xs.drop k) (ys.drop k)) ∧ ∃ q, wr = w.drewN q) (fun i _ => n - (intOf i).toNat)
    case atStart => exact ⟨0, Nat.zero_le _, rfl, rfl, 0, rfl⟩
    case round =>
      obtain ⟨k, hk, rfl, hl, q, rfl⟩ := hrel
      by_cases hlt : k < n
      · obtain ⟨ad, hA, _, hcx⟩ := HX.out.at_ (k := k) (by omega)
        subst hA
        obtain ⟨ad2, hA2, _, hcy⟩ := HY.out.at_ (k := k) (by omega)
        subst hA2
        have hx1 := drop_nth (l := xs) (k := k) (by rw [HLx.out]; omega)
        have hy1 := drop_nth (l := ys) (k := k) (by rw [HLy.out]; omega)
        have i0 : (0 : Int) ≤ (k : Int) := by omega
        have i1 : (k : Int) < (n : Int) := by omega
        have i2 : (k : Int) < (m : Int) := by omega
        have hcx' : (w.drewN q).cell? (ad.add k) = some (.int .i64 (nth xs k)) := hcx
        have hcy' : (w.drewN q).cell? (ad2.add k) = some (.int .i64 (nth ys k)) := hcy
        have HD : Hid (lexB xs ys = if nth xs k = nth ys k then lexB (xs.drop (k + 1)) (ys.drop (k + 1)) else decide (nth xs k < nth ys k)) := by
          show _ = _
          rw [hl.out, hx1, hy1, lexB]
        obtain ⟨x, hx⟩ : ∃ x, x = nth xs k := ⟨_, rfl⟩
        obtain ⟨y, hy⟩ : ∃ y, y = nth ys k := ⟨_, rfl⟩
        rw [← hx] at hcx' HD
        rw [← hy] at hcy' HD
        obtain ⟨wd, hwd⟩ : ∃ wd, wd = w.drewN q := ⟨_, rfl⟩
        rw [← hwd] at hcx' hcy' ⊢
        have HWD := hide hwd
        clear hcx hcy hx hy hx1 hy1 hl hwd
        by_cases he : x = y
        · subst he
          have d0 : (x != x) = false := by simp
          rw [if_pos rfl] at HD
          go_upto_region 4 with fail
          go_quiet (fail)
          go_wp2_with fail
          go_roundw
          case rel => exact ⟨k + 1, by omega, by go_num, HD, _, by rw [HWD.out, World.drewN_drewN]⟩
          case measure => simp [intOf]; omega
        · have d0 : (x != y) = true := by simpa using he
          rw [if_neg he] at HD
          clear he
          go_upto_region 4 with fail
          go_quiet (fail)
          obtain ⟨we, hwe⟩ : ∃ we, we = wd.drewN nq := ⟨_, rfl⟩
          have hcx2 : we.cell? (ad.add k) = some (.int .i64 x) := by rw [hwe]; exact hcx'
          have hcy2 : we.cell? (ad2.add k) = some (.int .i64 y) := by rw [hwe]; exact hcy'
          rw [← hwe]
          have HWE := hide hwe
          clear hwe hcx' hcy'
          go_upto_region 5 with fail
          go_quiet (fail)
          go_wp2_with fail
          go_ret
          exact ⟨ret_bool HD.out.symm, _, by rw [HWE.out, HWD.out, World.drewN_drewN, World.drewN_drewN]⟩
      · obtain rfl : k = n := by omega
        have HD : Hid (lexB xs ys = decide (k < m)) := by
          show _ = _
          rw [hl.out]
          have h1 := HLx.out
          have h2 := HLy.out
          rw [drop_nil (l := xs) (by omega)]
          by_cases e : k = m
          · rw [drop_nil (l := ys) (by omega)]
            show false = _
            simp; omega
          · rw [drop_nth (l := ys) (by omega)]
            show true = _
            simp; omega
        go_wp2_with fail
        go_ret
        exact ⟨by rw [HD.out]; simp, q, rfl⟩
end Go.Proofs.Yteckffndboiknaa
