/-
  Contracts of the reference's from and Minimal.
-/
import Derived.Test.YteckffndboiknaaMinim
set_option linter.unusedVariables false
set_option linter.unusedSimpArgs false
namespace Go.Proofs.Yteckffndboiknaa
open Go.RowKit Go.WideShapes Go.ChangeShapes Q

theorem fromN_len (vs : List Int) : ∀ (d : Nat) (b : Bool) (s : Nat), (fromN vs b d s).length ≤ 2 ^ d
  | 0, true, s => by
    show (if minB vs s = true then [s] else []).length ≤ 1
    split <;> simp
  | 0, false, s => by show 0 ≤ 1; omega
  | d + 1, false, s => by
    have h1 := fromN_len vs d true (s + 2 ^ (vs.length - (d + 1)))
    have h2 := fromN_len vs d false s
    rw [fromN, List.length_append, Nat.pow_succ]
    omega
  | d + 1, true, s => by
    have h1 := fromN_len vs d true (s + 2 ^ (vs.length - (d + 1)))
    have h2 := fromN_len vs d false s
    have h3 : 1 ≤ 2 ^ (d + 1) := Nat.pow_pos (by omega)
    rw [fromN]
    split
    · exact h3
    · split
      · simp
      · rw [List.length_append, Nat.pow_succ]
        omega
theorem fromN_step {vs : List Int} {k s : Nat} (hk : k < vs.length) : fromN vs false (vs.length - k) s = fromN vs true (vs.length - (k + 1)) (s + 2 ^ k) ++ fromN vs false (vs.length - (k + 1)) s := by
  obtain ⟨d, hd⟩ : ∃ d, vs.length - k = d + 1 := ⟨vs.length - k - 1, by omega⟩
  have h1 : vs.length - (k + 1) = d := by omega
  have h2 : vs.length - (d + 1) = k := by omega
  rw [hd, h1, fromN, h2]
theorem fromN_true (vs : List Int) (d s : Nat) : fromN vs true d s = if minB vs s = true then [s] else if winsB vs s = true then [] else fromN vs false d s := by
  cases d with
  | zero =>
    show (if minB vs s = true then [s] else []) = _
    split
    · rfl
    · split <;> rfl
  | succ d => rfl
theorem K3.grown' {w w' : World} {base n : Nat} {v : Value} {xs : List Value} (h : w.ownsRow base 32 1 v n xs) (hg : w.grownBy w' v.ownBlock) : K3 w w' := by
  intro g t cs ht hb
  exact hb.grown hg (own_ne h hb (by rcases ht with rfl | rfl <;> decide))
/-- Behind an append of a whole list of lists. -/
theorem LL.add {w w' : World} {base B : Nat} {v v2 v' : Value} {es es2 : List En} (h : LL w base v es) (h2 : LL w base v2 es2) (hB : ∀ e ∈ es, e.g < B) (hB2 : ∀ e ∈ es2, B ≤ e.g)
    (hown : w'.ownsRow base 32 1 v' (es.length + es2.length) (es.map En.v ++ es2.map En.v)) (hg : w.grownBy w' v.ownBlock) : LL w' base v' (es ++ es2) := by
  have hk := K3.grown' h.row hg
  refine ⟨by rw [List.length_append, List.map_append]; exact hown, fun e he => ?_, ?_, fun e he => ?_⟩
  · rcases List.mem_append.1 he with he | he
    · exact (h.ent e he).keep hk
    · exact (h2.ent e he).keep hk
  · rw [List.map_append, List.nodup_append]
    refine ⟨h.nd, h2.nd, fun a ha b hb => ?_⟩
    obtain ⟨e, he, rfl⟩ := List.mem_map.1 ha
    obtain ⟨e2, he2, rfl⟩ := List.mem_map.1 hb
    have := hB e he
    have := hB2 e2 he2
    omega
  · rcases List.mem_append.1 he with he | he
    · exact h.sh e he
    · exact h2.sh e he
theorem envs_one (es : List En) : ∀ u ∈ es.map En.v, u.oneCell' = true := by
  intro u hu
  obtain ⟨e, _, rfl⟩ := List.mem_map.1 hu
  rfl

set_option maxRecDepth 100000 in
set_option maxHeartbeats 4000000 in
theorem from_any (A : Option Addr) (B c : Nat) (vs : List Int) (hok : Ok vs) : ∀ (D s i : Nat) (w : World), vs.length < i + D → i ≤ vs.length → s < 2 ^ i → RI w B A vs.length vs → B ≤ w.heap.size →
    Calls Try.prog 66 #[.slice A vs.length c, .int .i64 s, .int .i64 i] w fun e w' => ∃ v es, e = .returned v ∧ LL w' w.heap.size v es ∧ (es.map En.l = (fromN vs true (vs.length - i) s).map fun m => listTo m vs.length) ∧ Below w.heap.size w w' := by
  intro D
  induction D with
  | zero =>
    intro s i w hD hi
    omega
  | succ D ih =>
    intro s i w hD hi hs hr hB
    obtain ⟨n, hn⟩ : ∃ n, n = vs.length := ⟨_, rfl⟩
    have h16 := hok.2.1
    have hs16 : s < 65536 := Nat.lt_of_lt_of_le hs (show 2 ^ i ≤ 2 ^ 16 from Nat.pow_le_pow_right (by omega) (by omega))
    have IH := hide ih
    have HOK := hide hok
    have HR := hide hr
    have HS := hide hs
    have HN := hide hn
    rw [← hn] at h16 hi hD ⊢
    obtain ⟨base, hbase⟩ : ∃ b, b = w.heap.size := ⟨_, rfl⟩
    have HBASE := hide hbase
    have HMI := hide (refMinimal_any s A B _ c vs w hr hs16 hok)
    have HWI := hide (wins_any s A B _ c vs w hr (by omega) hok)
    rw [← hn] at HMI HWI
    have HF := hide (fromN_true vs (n - i) s)
    obtain ⟨i32, hi32, hz32, hs32, hb32⟩ := info_parts info32
    have I32 := hide hi32
    rw [← hbase]
    clear ih hr hs hn hbase hok hi32
    cases hq : minB vs s with
    | true =>
      have hs2 : s < 2 ^ vs.length := Nat.lt_of_lt_of_le HS.out (Nat.pow_le_pow_right (by omega) (by have := HN.out; omega))
      have hpos := min_pos HOK.out hs2 hq
      have HLH : Hid (listTo s 16 = listTo s n) := by
        show _ = _
        have := listTo_high hs2 (16 - n)
        rw [← HN.out, show n + (16 - n) = 16 by omega] at this
        exact this
      rw [← HN.out] at hpos
      have HNO := hide (nodes_any s w hs16)
      have hll := listTo_len s n
      rw [HLH.out] at HNO
      rw [hq] at HMI HF
      rw [if_pos rfl] at HF
      obtain ⟨L, hL⟩ : ∃ L, L = listTo s n := ⟨_, rfl⟩
      rw [← hL] at hpos hll HNO
      have HL := hide hL
      rw [← HBASE.out] at HNO
      clear hq hL hs2
      go_enter Try.func66, Try.ntmps66
      go_wp2_with (first | (go_at_call 83; refine HMI.out.mono ?_; rintro e w' ⟨rfl, rfl⟩) | (go_at_call 84; refine HNO.out.mono ?_; rintro e w3 ⟨v3, rfl, hown3, hb3⟩; obtain ⟨g, cap, cur, rfl, hgb, _⟩ := own_some hown3 hpos; have HO3 := hide hown3; have HB3 := hide hb3; have hbw3 : base ≤ w3.heap.size := (by have := hb3.size; have := HBASE.out; omega); clear hown3 hb3) | (at_builtin; refine wpList_push rfl (.tmp 12) (.tmp 15) _ rfl base 32 i32 _ 1 24 Try.underlying76 I32.out hz32 hs32 hb32 rfl (by omega) (.slice none 0 0) 0 [] rfl (World.ownsRow_nil _ _ _ _) 1 1 #[.slice (some ⟨g, 0, none⟩) L.length cap] rfl rfl (by simp [Value.oneCell']) (by omega) (by unfold maxLen; omega) (by omega) hbw3 ?_; intro g7 c7 wz hown hg hbz _ _ _; have HLZ := hide ((LL.nil w3 base).push (x := ⟨g, cap, L⟩) HO3.out (fun e he => by cases he) (by show L.length ≤ 16; omega) hown hg); have HBZ := hide (HB3.out.trans hbz); clear hown hg hbz))
      go_ret
      exact ⟨_, _, rfl, HLZ.out, by rw [HF.out]; show [L] = [listTo s n]; rw [HL.out], HBZ.out⟩
    | false =>
      rw [hq] at HMI HF
      rw [if_neg (by simp)] at HF
      cases hw : winsB vs s with
      | true =>
        rw [hw] at HWI HF
        rw [if_pos rfl] at HF
        clear hq hw
        go_enter Try.func66, Try.ntmps66
        go_wp2_with (first | (go_at_call 83; refine HMI.out.mono ?_; rintro e w' ⟨rfl, rfl⟩) | (go_at_call 48; refine HWI.out.mono ?_; rintro e w' ⟨rfl, rfl⟩))
        go_ret
        exact ⟨_, [], rfl, LL.nil _ _, by rw [HF.out]; rfl, Below.refl _ _⟩
      | false =>
        rw [hw] at HWI HF
        rw [if_neg (by simp)] at HF
        clear hq hw
        go_enter Try.func66, Try.ntmps66
        go_upto_region 7 with (first | (go_at_call 83; refine HMI.out.mono ?_; rintro e w' ⟨rfl, rfl⟩) | (go_at_call 48; refine HWI.out.mono ?_; rintro e w' ⟨rfl, rfl⟩))
        go_loopw [7, 8] (fun v iv wr => ∃ (k : Nat) (es : List En), i ≤ k ∧ k ≤ n ∧ iv = .int .i64 k ∧ Hid (LL wr base v es) ∧ Hid ((fromN vs false (n - i) s).map (fun m => listTo m n) = es.map En.l ++ (fromN vs false (n - k) s).map fun m => listTo m n) ∧ Hid (Below base w wr)) (fun _ iv _ => n - (intOf iv).toNat)
        case atStart => exact ⟨i, [], Nat.le_refl _, hi, rfl, LL.nil _ _, rfl, Below.refl _ _⟩
        case round =>
          obtain ⟨k, es, hk1, hk2, rfl, hL, hM, hbl⟩ := hrel
          have hbr : base ≤ wr.heap.size := by have := hbl.out.size; have := HBASE.out; omega
          by_cases hlt : k < n
          · have ikn : (k : Int) < (n : Int) := by omega
            have ik0 : (0 : Int) ≤ (k : Int) := by omega
            have p1 := two_pow_le k (by omega)
            obtain ⟨u, hu⟩ : ∃ u, u = s + 2 ^ k := ⟨_, rfl⟩
            have hadd : (s : Int) + (2 : Int) ^ k = (u : Int) := by rw [hu, Int.natCast_add, nat_pow_cast']
            have hu1 : u < 2 ^ (k + 1) := by
              have h1 : 2 ^ i ≤ 2 ^ k := Nat.pow_le_pow_right (by omega) hk1
              have h2 := HS.out
              rw [hu, Nat.pow_succ]
              omega
            have hus : u < 65537 := Nat.lt_of_lt_of_le hu1 (Nat.le_trans (show 2 ^ (k + 1) ≤ 2 ^ 16 from Nat.pow_le_pow_right (by omega) (by omega)) (by omega))
            obtain ⟨wo, hwo⟩ : ∃ wo, wo = wr := ⟨_, rfl⟩
            rw [← hwo] at hL hbl hbr ⊢
            clear hwo
            have HCA := hide (IH.out u (k + 1) wo (by have := HN.out; omega) (by have := HN.out; omega) hu1 (Reads.below (Reads.more HR.out (Nat.le_of_eq rfl)) (hbl.out.mono (by have := HBASE.out; omega))) (by have := HBASE.out; omega))
            rw [← HN.out] at HCA
            have HST := hide (fromN_step (vs := vs) (s := s) (k := k) (by have := HN.out; omega))
            rw [← HN.out, ← hu] at HST
            have hel : es.length ≤ 65536 := by
              have h1 := congrArg List.length hM.out
              rw [List.length_map, List.length_append, List.length_map] at h1
              have h2 := fromN_len vs (n - i) false s
              have h3 : 2 ^ (n - i) ≤ 65536 := show 2 ^ (n - i) ≤ 2 ^ 16 from Nat.pow_le_pow_right (by omega) (by omega)
              omega
            have hel2 : (fromN vs true (n - (k + 1)) u).length ≤ 65536 := Nat.le_trans (fromN_len vs _ _ _) (show 2 ^ (n - (k + 1)) ≤ 2 ^ 16 from Nat.pow_le_pow_right (by omega) (by omega))
            clear hu hu1
            go_wp2_with (first
              | (go_at_call 66; refine HCA.out.mono ?_; rintro e w2 ⟨v2, es2, rfl, hL2, hM2, hb2⟩; obtain ⟨A2, c2, rfl, hrd, _⟩ := own_slice hL2.row; have HL2 := hide hL2; have HM2 := hide hM2; have HB2 := hide hb2; have HRD := hide hrd; have hb22 : base ≤ w2.heap.size := (by have := hb2.size; omega); have hes2 : es2.length ≤ 65536 := (by have := congrArg List.length hM2; rw [List.length_map, List.length_map] at this; omega); clear hL2 hM2 hb2 hrd)
              | (at_builtin; refine wpList_append_any _ rfl _ (.tmp 37) 76 rfl base 32 i32 _ 1 24 Try.underlying76 I32.out hz32 hs32 hb32 rfl (by omega) u7 es.length (es.map En.v) rfl (own_below hL.out.row (own_lt hL.out.row) HB2.out) w2.heap.size A2 es2.length c2 (es2.map En.v) rfl HRD.out (envs_one es2) (by unfold maxLen; omega) (by omega) hb22 ?_; intro v3 w3 hown hg _; have HL3 := hide (LL.add (B := wo.heap.size) (hL.out.below HB2.out) (HL2.out.base hbr) (fun e he => (hL.out.ent e he).lt.2) (fun e he => (HL2.out.ent e he).lt.1) hown hg); have HB3 := hide ((hbl.out.trans (HB2.out.mono hbr)).trans ((Below.refl base w2).grown hg hb22 (fun q hq => (hL.out.row.lt q hq).1))); clear hown hg))
            have HM3 : Hid ((fromN vs false (n - i) s).map (fun m => listTo m n) = (es ++ es2).map En.l ++ (fromN vs false (n - (k + 1)) s).map fun m => listTo m n) := by
              show _ = _
              rw [hM.out, HST.out, List.map_append, List.map_append, HM2.out, List.append_assoc]
            go_roundw
            case rel => exact ⟨k + 1, es ++ es2, by omega, by omega, by go_num, HL3, HM3, HB3⟩
            case measure => simp [intOf]; omega
          · obtain rfl : k = n := by omega
            go_wp2_with fail
            go_ret
            refine ⟨_, es, rfl, hL.out, ?_, hbl.out⟩
            rw [HF.out, hM.out, Nat.sub_self]
            show _ = es.map En.l ++ []
            simp
end Go.Proofs.Yteckffndboiknaa
