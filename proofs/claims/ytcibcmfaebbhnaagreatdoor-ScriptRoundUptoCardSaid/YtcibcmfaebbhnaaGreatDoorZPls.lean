/-
  The reference's Parse. (Printed by wip/tools/mkrps.py.) The program's lines: those of a text that are not passed over.
-/
import Derived.Test.YtcibcmfaebbhnaaGreatDoorZSms
import Derived.Test.YtcibcmfaebbhnaaGreatDoorZLqs
set_option linter.unusedVariables false
set_option linter.unusedSimpArgs false
namespace Go.Proofs.YtcibcmfaebbhnaaGreatDoor
open Go.RowKit Go.WideShapes Go.ChangeShapes Q
theorem own_txt {w : World} {base n c g k : Nat} {ls : List (List UInt8)} {x : List UInt8} (h : w.ownsRow base 9 1 (.slice (some ⟨g, 0, none⟩) n c) n (ltx ls)) (hk : ls[k]? = some x) : w.cell? ⟨g, k, none⟩ = some (.string (S x)) := by
  have := World.ownsRow.cells (g := g) h rfl k (.string (S x)) (by unfold ltx; rw [List.getElem?_map, hk]; rfl)
  have e : (⟨g, 0, none⟩ : Addr).add k = ⟨g, k, none⟩ := by
    unfold Addr.add
    split
    · rename_i h0; subst h0; rfl
    · simp
  rw [e] at this
  exact this
theorem idle_le (es : List Ev) : idleN es ≤ es.length := List.length_filter_le _ _
end Go.Proofs.YtcibcmfaebbhnaaGreatDoor
set_option linter.unusedVariables false
set_option linter.unusedSimpArgs false
namespace Go.Proofs.YtcibcmfaebbhnaaGreatDoor
open Go.RowKit Go.WideShapes Go.ChangeShapes Q
theorem lin_free : ∀ (a cur b : List UInt8), (∀ q ∈ a, ¬ q = 10) → linG cur (a ++ 10 :: b) = (cur ++ a) :: linG [] b
  | [], cur, b, _ => by
    rw [List.nil_append, linG, if_pos (by decide), List.append_nil]
  | c :: a, cur, b, h => by
    rw [List.cons_append, linG, if_neg (by
      have := h c (by simp)
      intro e
      exact this (UInt8.toNat.inj e)), lin_free a (cur ++ [c]) b (fun q hq => h q (by simp [hq]))]
    simp
theorem lin_last : ∀ (a cur : List UInt8), (∀ q ∈ a, ¬ q = 10) → cur ++ a ≠ [] → linG cur a = [cur ++ a]
  | [], cur, _, h => by rw [linG, if_neg (by simpa using h), List.append_nil]
  | c :: a, cur, h, h0 => by
    rw [linG, if_neg (by
      have := h c (by simp)
      intro e
      exact this (UInt8.toNat.inj e)), lin_last a (cur ++ [c]) (fun q hq => h q (by simp [hq])) (by simp)]
    simp
theorem byte_split (c : UInt8) : ∀ (r : List UInt8), (Lib.indexByte r c = -1 ∧ ∀ q ∈ r, ¬ q = c) ∨ (∃ a b, r = a ++ c :: b ∧ (∀ q ∈ a, ¬ q = c) ∧ Lib.indexByte r c = a.length)
  | [] => .inl ⟨rfl, fun q hq => by cases hq⟩
  | x :: r => by
    by_cases hx : x = c
    · right
      refine ⟨[], r, by rw [hx]; rfl, (fun q hq => by cases hq), ?_⟩
      rw [Lib.indexByte, if_pos (by rw [hx]; exact beq_self_eq_true c)]
      rfl
    · have hb : ¬ (x == c) = true := by rw [beq_iff_eq]; exact hx
      rcases byte_split c r with ⟨h1, h2⟩ | ⟨a, b, h1, h2, h3⟩
      · left
        refine ⟨?_, fun q hq => ?_⟩
        · rw [Lib.indexByte, if_neg hb, h1]
          rfl
        · rcases List.mem_cons.1 hq with rfl | hq
          · exact hx
          · exact h2 q hq
      · right
        refine ⟨x :: a, b, by rw [h1]; rfl, fun q hq => ?_, ?_⟩
        · rcases List.mem_cons.1 hq with rfl | hq
          · exact hx
          · exact h2 q hq
        · rw [Lib.indexByte, if_neg hb, h3, if_neg (by rw [beq_iff_eq]; omega)]
          simp
/-- A cut at the first line's end: a line, and the lines behind it. -/
theorem cut_line {r : List UInt8} (h0 : r ≠ []) : ∃ a b ok, Lib.cut r [10] = (a, b, ok) ∧ linG [] r = a :: linG [] b ∧ a.length + b.length ≤ r.length ∧ b.length < r.length := by
  rcases byte_split 10 r with ⟨h1, h2⟩ | ⟨a, b, h1, h2, h3⟩
  · refine ⟨r, [], false, ?_, ?_, by simp, by simpa using List.length_pos_iff.2 h0⟩
    · unfold Lib.cut
      rw [Lib.index_one, h1, if_neg (by decide)]
    · rw [lin_last r [] h2 (by simpa using h0), List.nil_append]
      rfl
  · refine ⟨a, b, true, ?_, ?_, by rw [h1]; simp <;> omega, by rw [h1]; simp <;> omega⟩
    · unfold Lib.cut
      rw [Lib.index_one, h3, if_pos (by omega)]
      refine Prod.ext ?_ (Prod.ext ?_ rfl)
      · rw [h1]; simp
      · rw [h1, Int.toNat_natCast, List.drop_append]
        simp
    · rw [h1, lin_free a [] b h2]
      simp
/-- The variable that strings.Cut looks at. -/
def ML (w : World) : Prop := ∃ m : Int, w.cell? ⟨3, 0, none⟩ = some (.int .i64 m)
theorem ML.below {w w' : World} (h : ML w) (hb : Below w.heap.size w w') : ML w' := by
  obtain ⟨m, hm⟩ := h
  exact ⟨m, (hb.cell (p := ⟨3, 0, none⟩) (World.block_lt_of_cell? w _ hm)).trans hm⟩
theorem scut_any (s p : ByteArray) (w : World) (hs : s.size < 4294967281) (h : ML w) : Calls Tryz.prog 77 #[.string s, .string p] w fun e w' => e = .returned (.tuple #[.string (S (Lib.cut s.data.toList p.data.toList).1), .string (S (Lib.cut s.data.toList p.data.toList).2.1), .bool (Lib.cut s.data.toList p.data.toList).2.2]) ∧ ∃ n, w' = w.drewN n := by
  obtain ⟨m, hm⟩ := h
  exact Any.strings_Cut lq145 s p m w hs hm
def strLen : Value → Nat
  | .string s => s.size
  | _ => 0
/-- What the loop over the lines keeps. -/
def LsJ (K : List (List UInt8)) (N : Nat) (w : World) (t l : Value) (wr : World) : Prop := ∃ (r : List UInt8) (ps : List (List UInt8)) (A : Option Addr) (c : Nat), t = .string (S r) ∧ l = .slice A ps.length c ∧ K = ps ++ (linG [] r).filter (fun x => !overB x) ∧
  wr.ownsRow w.heap.size 9 1 (.slice A ps.length c) ps.length (ltx ps) ∧ Below w.heap.size w wr ∧ ps.length + r.length ≤ N
/-- What the loop over a line's bytes keeps. -/
def BlJ (q : List UInt8) (i : Value) : Prop := ∃ k : Nat, k ≤ q.length ∧ i = .int .i64 k ∧ overB q = overB (q.drop k)
def LnsP (K : List (List UInt8)) (w : World) (e : Ending) (w' : World) : Prop := ∃ A c, e = .returned (.slice A K.length c) ∧ w'.ownsRow w.heap.size 9 1 (.slice A K.length c) K.length (ltx K) ∧ Below w.heap.size w w'
set_option maxRecDepth 100000 in
set_option maxHeartbeats 3000000 in
theorem lines_any (s : ByteArray) (w : World) (hs : s.size ≤ 1000000000) (hM : ML w) :
    Calls Tryz.prog 49 #[.string s] w fun e w' => LnsP (keepL s.data.toList) w e w' := by
  obtain ⟨i9, hi9, hz9, hs9, hb9⟩ := info_parts info9
  have I9 := hide hi9
  obtain ⟨K, hK⟩ : ∃ K, K = keepL s.data.toList := ⟨_, rfl⟩
  rw [← hK]
  have HL0 : Hid (LsJ K s.size w (.string s) (.slice none 0 0) w) := ⟨s.data.toList, [], none, 0, by rw [S_self], rfl, by rw [hK]; rfl, World.ownsRow_nil _ _ _ _, Below.refl _ _, by rw [str_len]; simp⟩
  have HML := hide hM
  have HBK : Hid (∀ c W, Calls Tryz.prog 78 #[.int .u8 (c.toNat : Int)] W fun e w' => e = .returned (.bool (blk c)) ∧ W = w') := fun c W => blank_any c W
  clear hi9 hK hM
  go_enter Tryz.func49, Tryz.ntmps49
  go_wp2_with fail
  go_step3
  go_wp2_with fail
  go_step3
  go_wp2_with fail
  go_loopw [0, 3] (fun t l wr => LsJ K s.size w t l wr) (fun t _ _ => strLen t)
  case atStart => exact HL0.out
  case round =>
    clear HL0
    unfold LsJ at hrel
    obtain ⟨r, ps, A, c, rfl, rfl, hk, hown, hb, hN⟩ := hrel
    have HK := hide hk
    have HO := hide hown
    have HB := hide hb
    have hrs : (S r).size = r.length := S_size r
    clear hk hown hb
    by_cases h0 : r = []
    · have HKE : Hid (K = ps) := by show _ = _; rw [HK.out, h0]; simp [linG]
      subst h0
      go_wp2_with fail
      go_ret
      refine ⟨A, c, ?_, by rw [HKE.out]; exact HO.out, HB.out⟩
      rw [HKE.out]
      rfl
    · obtain ⟨q, b, ok, hcut, hlin, hql, hbl⟩ := cut_line h0
      have HCU : Hid (Calls Tryz.prog 77 #[.string (S r), .string ⟨#[10]⟩] wr fun e w' => e = .returned (.tuple #[.string (S q), .string (S b), .bool ok]) ∧ ∃ n, w' = wr.drewN n) := by
        have h := scut_any (S r) ⟨#[10]⟩ wr (by rw [S_size]; omega) (HML.out.below (HB.out))
        rw [S_data] at h
        simp only [show (⟨#[10]⟩ : ByteArray).data.toList = [10] from rfl, hcut] at h
        exact h
      have HK2 : Hid (K = ps ++ [q].filter (fun x => !overB x) ++ (linG [] b).filter (fun x => !overB x)) := by
        show _ = _
        rw [HK.out, hlin, show q :: linG [] b = [q] ++ linG [] b from rfl, List.filter_append, List.append_assoc]
      have hr0 : 0 < r.length := List.length_pos_iff.2 h0
      have hr1 : (0 : Int) < (r.length : Int) := by omega
      obtain ⟨X, hX⟩ : ∃ X, X = S q := ⟨_, rfl⟩
      have hXs : X.size = q.length := by rw [hX, S_size]
      have hXd : X.data.toList = q := by rw [hX, S_data]
      have hbs : (S b).size = b.length := S_size b
      rw [← hX] at HCU
      have HXQ : Hid (X = S q ∧ X.data.toList = q) := ⟨hX, hXd⟩
      have HNB : Hid (ps.length + r.length ≤ s.size ∧ b.length < r.length) := ⟨hN, hbl⟩
      have hpz : ps.length ≤ 1000000000 := by omega
      have hqz : X.size ≤ 1000000000 := by omega
      have hr2 : r.length ≤ 1000000000 := by omega
      clear hcut hlin h0 HK hX hXd hXs hql hbl hN
      obtain ⟨wz, hwz⟩ : ∃ wz, wz = wr := ⟨_, rfl⟩
      subst hwz
      go_upto_region 6 with (go_at_call 77; refine HCU.out.mono ?_; rintro e w2 ⟨rfl, n, hw2⟩; have hb2 : Below wz.heap.size wz w2 := (by rw [hw2]; exact below_drewN (Below.refl _ _) n); have HO2 := hide (own_step HO.out hb2); have HB2 := hide (HB.out.trans (hb2.mono HB.out.size)); clear hw2 hb2)
      clear HO HB HCU
      have hsw2 : w.heap.size ≤ w2.heap.size := HB2.out.size
      have HL0 : Hid (BlJ q (.int .i64 0)) := ⟨0, Nat.zero_le _, rfl, rfl⟩
      have HLT : Hid (overB q = true → LsJ K s.size w (.string (S b)) (.slice A ps.length c) w2) := fun h => ⟨b, ps, A, c, rfl, rfl, by rw [HK2.out]; simp [h], HO2.out, HB2.out, by have := HNB.out; omega⟩
      have HLF : Hid (overB q = false → ∀ g8 c8 w8, w8.ownsRow w.heap.size 9 1 (.slice (some ⟨g8, 0, none⟩) (ps.length + 1) c8) (ps.length + 1) (ltx ps ++ [.string X]) → Below w.heap.size w2 w8 → LsJ K s.size w (.string (S b)) (.slice (some ⟨g8, 0, none⟩) (ps.length + 1) c8) w8) := fun h g8 c8 w8 hown8 hb8 => by
        refine ⟨b, ps ++ [q], _, c8, rfl, by rw [List.length_append]; rfl, by rw [HK2.out]; simp [h], ?_, HB2.out.trans hb8, by have := HNB.out; rw [List.length_append, List.length_singleton]; omega⟩
        rw [List.length_append, ltx_app]
        have := hown8
        rw [HXQ.out.1] at this
        exact this
      have hbr : b.length < r.length := HNB.out.2
      go_loopw [3, 20] (fun l i wr => BlJ q i ∧ l = .slice A ps.length c ∧ wr = w2) (fun _ i _ => X.size - (intOf i).toNat)
      case atStart => exact ⟨HL0.out, rfl, rfl⟩
      case round =>
        clear HL0
        obtain ⟨hbl, rfl, rfl⟩ := hrel
        unfold BlJ at hbl
        obtain ⟨k, hk, rfl, hov⟩ := hbl
        have HOV := hide hov
        clear hov
        have k0 : (0 : Int) ≤ (k : Int) := by omega
        have hqx : q.length = X.size := by rw [← HXQ.out.2, str_len]
        by_cases hlt : k < X.size
        · have ks : (k : Int) < (X.size : Int) := by omega
          obtain ⟨ch, hch⟩ : ∃ ch, ch = X[k] := ⟨_, rfl⟩
          have hcc := hch.symm
          have HD : Hid (overB q = if blk ch = true then overB (q.drop (k + 1)) else ch.toNat == 35) := by
            show _ = _
            rw [HOV.out]
            have h1 := bdrop hlt
            rw [HXQ.out.2] at h1
            rw [h1, hch]
            rfl
          have q256 : ch.toNat < 256 := ch.toNat_lt
          clear hch hk hqx
          cases hb : blk ch with
          | true =>
            have HL5 : Hid (BlJ q (.int .i64 ((k : Int) + 1))) := ⟨k + 1, by rw [← HXQ.out.2, str_len]; omega, by go_num, by rw [HD.out, hb]; rfl⟩
            have HC := hide (HBK.out ch)
            rw [hb] at HC
            clear hb
            go_wp2_with (go_at_call 78; refine (HC.out _).mono ?_; rintro e w3 ⟨rfl, rfl⟩)
            go_roundw
            case rel => first | exact HL5.out | exact ⟨HL5.out, rfl, rfl⟩ | exact ⟨HL5.out, trivial⟩ | exact ⟨HL5.out, rfl, trivial⟩
            case measure => simp [intOf]; omega
          | false =>
            have HC := hide (HBK.out ch)
            rw [hb] at HC
            by_cases h35 : ch.toNat = 35
            · have e1 : ((ch.toNat : Int) == 35) = true := by rw [beq_iff_eq]; omega
              have e2 : ((ch.toNat : Int) != 35) = false := by rw [bne, e1]; rfl
              have HT2 := hide (HLT.out (by rw [HD.out, hb, h35]; rfl))
              clear h35 hb
              go_wp2_with (go_at_call 78; refine (HC.out _).mono ?_; rintro e w3 ⟨rfl, rfl⟩)
              go_roundw
              case rel => first | exact HT2.out | exact ⟨HT2.out, rfl⟩ | exact ⟨_, HT2.out, rfl⟩ | exact ⟨_, _, HT2.out, rfl, rfl⟩
              case measure => simp [strLen, S_size]; omega
            · have e1 : ((ch.toNat : Int) == 35) = false := by rw [beq_eq_false_iff_ne]; omega
              have e2 : ((ch.toNat : Int) != 35) = true := by rw [bne, e1]; rfl
              have HF2 := hide (HLF.out (by rw [HD.out, hb]; simpa using h35))
              clear h35 hb
              go_wp2_with first | (go_at_call 78; refine (HC.out _).mono ?_; rintro e w3 ⟨rfl, rfl⟩) | (at_builtin; refine wpList_push (W := wr) (cs := #[.string X]) rfl (.tmp 31) (.tmp 33) _ rfl w.heap.size 9 i9 _ 1 16 Tryz.underlying101 I9.out hz9 hs9 hb9 rfl (by omega) (.slice A ps.length c) ps.length _ rfl HO2.out 1 1 rfl rfl (by simp [Value.oneCell']) (by omega) (by unfold maxLen; omega) (by omega) hsw2 ?_; intro g8 c8 w8 hown8 hgr8 hb8 _ _ _; have HL9 := hide (HF2.out g8 c8 w8 hown8 hb8); clear hown8 hb8 hgr8)
              go_roundw
              case rel => first | exact HL9.out | exact ⟨HL9.out, rfl⟩ | exact ⟨_, HL9.out, rfl⟩ | exact ⟨_, _, HL9.out, rfl, rfl⟩
              case measure => simp [strLen, S_size]; omega
        · have ks : ¬ (k : Int) < (X.size : Int) := by omega
          have HT2 := hide (HLT.out (by rw [HOV.out, List.drop_eq_nil_of_le (by omega)]; rfl))
          clear hlt
          go_wp2_with fail
          go_roundw
          case rel => first | exact HT2.out | exact ⟨HT2.out, rfl⟩ | exact ⟨_, HT2.out, rfl⟩ | exact ⟨_, _, HT2.out, rfl, rfl⟩
          case measure => simp [strLen, S_size]; omega
end Go.Proofs.YtcibcmfaebbhnaaGreatDoor
