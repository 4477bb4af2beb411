/-
  The reference's Quote.
-/
import Derived.StillTailTactics
import Derived.Test.YtcibcmfaebbhnaaGreatDoorZRdc
set_option linter.unusedVariables false
set_option linter.unusedSimpArgs false
namespace Go.Proofs.YtcibcmfaebbhnaaGreatDoor
open Go.RowKit Go.WideShapes Go.ChangeShapes Q
theorem step_push {P : Program} (w : World) {ops : Array Oper} {o : Oper} {a : Act} {K : Act → World → Prop} {Q : Exit → Act → World → Prop} {E : Prop} (hgd : o.guard = none) (s x : Operand) (t : TypeId)
    (ho : o.op = .call { callee := .builtin .append, args := #[s, x], argTypes := #[t, t] })
    (base : Nat) (e : TypeId) (i : TypeInfo) (z : Value) (size bytes : Nat) (ht : P.underlying t = some (.slice e)) (hi : P.info? e = some i) (hz : i.zero = some z)
    (hsize : i.size = size) (hby : i.bytes = bytes) (hzs : z.cells.size = size) (hsz : 0 < size)
    (v : Value) (n : Nat) (xs : List Value) (hs : a.eval s = v) (hown : w.ownsRow base e size v n xs)
    (gx m c : Nat) (cs : Array Value) (hx : a.eval x = .slice (some ⟨gx, 0, none⟩) m c) (hb : Blk w gx e cs) (hcs : cs.size = m * size) (h1 : ∀ u ∈ cs.toList, u.oneCell' = true)
    (hm : 0 < m) (h63 : n + m ≤ maxLen) (hbytes : (n + m) * bytes ≤ 140737488355328) (hbase : base ≤ w.heap.size)
    (h : ∀ g cap w', w'.ownsRow base e size (.slice (some ⟨g, 0, none⟩) (n + m) cap) (n + m) (xs ++ cs.toList) → w.grownBy w' v.ownBlock → (v.ownBlock = some g ∨ g = w.heap.size) → g < w'.heap.size → K (a.put o.dst (.slice (some ⟨g, 0, none⟩) (n + m) cap)) w') :
    if Region.wanted o (yielded ops a.tmps) = true then Oper.wp P o a w K Q else E :=
  step_append_lies w hgd s x t ho base e i z size bytes ht hi hz hsize hby hzs hsz v n xs hs hown ⟨gx, 0, none⟩ m c cs.toList hx (by simpa using hcs) (World.news_of_block hb) h1 hm h63 hbytes hbase w.heap.size rfl h
theorem info5 : (Tryz.prog.info? 5).map (fun i => (i.zero, i.size, i.bytes)) = some (some (.int .u8 0), 1, 1) := by kernel_rfl
def hexd (n : Nat) : UInt8 := ([48, 49, 50, 51, 52, 53, 54, 55, 56, 57, 97, 98, 99, 100, 101, 102] : List UInt8).getD n 0
theorem hexd_at {q : Nat} (h : q < 16) (h' : q < ({ data := #[48, 49, 50, 51, 52, 53, 54, 55, 56, 57, 97, 98, 99, 100, 101, 102] } : ByteArray).size) : ({ data := #[48, 49, 50, 51, 52, 53, 54, 55, 56, 57, 97, 98, 99, 100, 101, 102] } : ByteArray)[q]'h' = hexd q := by
  have : ∀ q : Fin 16, ({ data := #[48, 49, 50, 51, 52, 53, 54, 55, 56, 57, 97, 98, 99, 100, 101, 102] } : ByteArray)[q.val]'(q.isLt) = hexd q.val := by decide +kernel
  exact this ⟨q, h⟩
theorem and15 {n : Nat} (h : n < 256) : bits BinOp.and IntKind.u8 (n : Int) 15 = ((n % 16 : Nat) : Int) := by
  have : ∀ n : Fin 256, bits BinOp.and IntKind.u8 (n.val : Int) 15 = ((n.val % 16 : Nat) : Int) := by decide +kernel
  exact this ⟨n, h⟩
/-- A byte in a text of its own form. -/
def qb (c : UInt8) : List UInt8 := if c.toNat = 34 ∨ c.toNat = 92 then [92, c] else if c.toNat < 32 ∨ 126 < c.toNat then [92, 120, hexd (c.toNat / 16), hexd (c.toNat % 16)] else [c]
def quoteL (l : List UInt8) : List UInt8 := [34] ++ l.flatMap qb ++ [34]
theorem qb_len (c : UInt8) : (qb c).length ≤ 4 := by unfold qb; split <;> (try split) <;> simp
theorem qbs_len (l : List UInt8) : (l.flatMap qb).length ≤ 4 * l.length := by
  induction l with
  | nil => simp
  | cons a l ih => rw [List.flatMap_cons, List.length_append, List.length_cons]; have := qb_len a; omega
theorem str_len (s : ByteArray) : s.data.toList.length = s.size := Array.length_toList
theorem qb_take {s : ByteArray} {k : Nat} (h : k < s.size) : (s.data.toList.take (k + 1)).flatMap qb = (s.data.toList.take k).flatMap qb ++ qb s[k] := by
  rw [List.take_succ_eq_append_getElem (by rw [str_len]; exact h), List.flatMap_append]
  simp
  rfl
theorem own_bytes {w : World} {base g cap : Nat} {l : List UInt8} (h : w.ownsRow base 5 1 (.slice (some ⟨g, 0, none⟩) l.length cap) l.length (Lib.byteCells l)) : ∀ j (hj : j < l.length), w.cell? ((⟨g, 0, none⟩ : Addr).add j) = some (.int .u8 (l[j].toNat : Int)) := fun j hj =>
  World.ownsRow.cells (g := g) h rfl j _ (by simp [Lib.byteCells, hj])
set_option maxRecDepth 100000 in
set_option maxHeartbeats 1000000 in
theorem Quote_any (s : ByteArray) (w : World) (hs : s.size ≤ 1000000000000) :
    Calls Tryz.prog 69 #[.string s] w fun e w' => e = .returned (.string (S (quoteL s.data.toList))) ∧ Below w.heap.size w w' := by
  obtain ⟨i5, hi5, hz5, hs5, hb5⟩ := info_parts info5
  have I5 := hide hi5
  clear hi5
  go_enter Tryz.func69, Tryz.ntmps69
  go_upto_region 5 with (at_builtin; refine wpList_push rfl (.tmp 7) (.tmp 8) _ rfl w.heap.size 5 i5 _ 1 1 Tryz.underlying29 I5.out hz5 hs5 hb5 rfl (by omega) (.slice none 0 0) 0 [] rfl (World.ownsRow_nil _ _ _ _) 1 1 #[.int .u8 34] rfl rfl (by simp [Value.oneCell']) (by omega) (by unfold maxLen; omega) (by omega) (Nat.le_refl _) ?_; intro g1 c1 w1 hown1 _ hb1 _ _ _; have HO1 := hide hown1; have HB1 := hide hb1; clear hown1 hb1)
  go_loopw [4, 5, 6] (fun v i cc wr => ∃ (k : Nat) (g cap : Nat) (out : List UInt8), k ≤ s.size ∧ i = .int .i64 k ∧ out = [34] ++ (s.data.toList.take k).flatMap qb ∧ v = .slice (some ⟨g, 0, none⟩) out.length cap ∧ Hid (wr.ownsRow w.heap.size 5 1 (.slice (some ⟨g, 0, none⟩) out.length cap) out.length (Lib.byteCells out)) ∧ Hid (Below w.heap.size w wr)) (fun _ i _ _ => s.size - (intOf i).toNat)
  case atStart => exact ⟨0, g1, c1, [34], Nat.zero_le _, rfl, rfl, rfl, HO1.out, HB1.out⟩
  case round =>
    obtain ⟨k, g, cap, out, hk, rfl, hout, rfl, hown, hb⟩ := hrel
    have HOUT := hide hout
    have hol : out.length ≤ 4000000000001 := by
      have h1 := qbs_len (s.data.toList.take k)
      rw [List.length_take, str_len] at h1
      have h2 : out.length = 1 + ((s.data.toList.take k).flatMap qb).length := by rw [hout, List.length_append]; rfl
      omega
    have hsb : w.heap.size ≤ wr.heap.size := hb.out.size
    clear hout HO1 HB1
    by_cases hlt : k < s.size
    · obtain ⟨c, hc⟩ : ∃ c, c = s[k] := ⟨_, rfl⟩
      have hcc := hc.symm
      have hqt := qb_take hlt
      rw [hcc] at hqt
      have HQT := hide hqt
      have c256 : c.toNat < 256 := c.toNat_lt
      have k0 : (0 : Int) ≤ (k : Int) := by omega
      have ks : (k : Int) < (s.size : Int) := by omega
      clear hqt hc
      by_cases h1 : c.toNat = 34 ∨ c.toNat = 92
      · have HQ : Hid (qb c = [92, c]) := if_pos h1
        by_cases h34 : c.toNat = 34
        · have e1 : ((c.toNat : Int) == 34) = true := by rw [beq_iff_eq]; omega
          clear h1 h34
          go_wp2_with (at_builtin; refine wpList_push rfl (.tmp 30) (.tmp 32) _ rfl w.heap.size 5 i5 _ 1 1 Tryz.underlying29 I5.out hz5 hs5 hb5 rfl (by omega) (.slice (some ⟨g, 0, none⟩) out.length cap) out.length _ rfl hown.out 2 2 #[.int .u8 92, .int .u8 (c.toNat : Int)] rfl rfl (by simp [Value.oneCell']) (by omega) (by unfold maxLen; omega) (by omega) hsb ?_; intro g7 c7 w7 hown7 _ hb7 _ _ _; have HO7 : Hid (w7.ownsRow w.heap.size 5 1 (.slice (some ⟨g7, 0, none⟩) (out ++ qb c).length c7) (out ++ qb c).length (Lib.byteCells (out ++ qb c))) := (by rw [HQ.out, List.length_append, Lib.byteCells_append]; exact hown7); have HL7 : Hid ((out ++ qb c).length = out.length + 2) := (by rw [HQ.out, List.length_append]; rfl); have HB7 : Hid (Below w.heap.size w w7) := hb.out.trans hb7; clear hown7 hb7)
          go_roundw
          case rel => exact ⟨k + 1, g7, c7, out ++ qb c, by omega, by go_num, by rw [HOUT.out, List.append_assoc, HQT.out], by rw [HL7.out], HO7.out, HB7.out⟩
          case measure => simp [intOf]; omega
        · have e1 : ((c.toNat : Int) == 34) = false := by rw [beq_eq_false_iff_ne]; omega
          have e2 : ((c.toNat : Int) == 92) = true := by rw [beq_iff_eq]; omega
          clear h1 h34
          go_wp2_with (at_builtin; refine wpList_push rfl (.tmp 30) (.tmp 32) _ rfl w.heap.size 5 i5 _ 1 1 Tryz.underlying29 I5.out hz5 hs5 hb5 rfl (by omega) (.slice (some ⟨g, 0, none⟩) out.length cap) out.length _ rfl hown.out 2 2 #[.int .u8 92, .int .u8 (c.toNat : Int)] rfl rfl (by simp [Value.oneCell']) (by omega) (by unfold maxLen; omega) (by omega) hsb ?_; intro g7 c7 w7 hown7 _ hb7 _ _ _; have HO7 : Hid (w7.ownsRow w.heap.size 5 1 (.slice (some ⟨g7, 0, none⟩) (out ++ qb c).length c7) (out ++ qb c).length (Lib.byteCells (out ++ qb c))) := (by rw [HQ.out, List.length_append, Lib.byteCells_append]; exact hown7); have HL7 : Hid ((out ++ qb c).length = out.length + 2) := (by rw [HQ.out, List.length_append]; rfl); have HB7 : Hid (Below w.heap.size w w7) := hb.out.trans hb7; clear hown7 hb7)
          go_roundw
          case rel => exact ⟨k + 1, g7, c7, out ++ qb c, by omega, by go_num, by rw [HOUT.out, List.append_assoc, HQT.out], by rw [HL7.out], HO7.out, HB7.out⟩
          case measure => simp [intOf]; omega
      · have e1 : ((c.toNat : Int) == 34) = false := by rw [beq_eq_false_iff_ne]; omega
        have e2 : ((c.toNat : Int) == 92) = false := by rw [beq_eq_false_iff_ne]; omega
        by_cases h2 : c.toNat < 32
        · have d1 : decide ((c.toNat : Int) < 32) = true := decide_eq_true (by omega)
          have HQ : Hid (qb c = [92, 120, hexd (c.toNat / 16), hexd (c.toNat % 16)]) := by
            show _ = _
            unfold qb
            rw [if_neg h1, if_pos (.inl h2)]
          clear h1
          obtain ⟨q, hq⟩ : ∃ q, q = c.toNat / 16 := ⟨_, rfl⟩
          obtain ⟨r, hr⟩ : ∃ r, r = c.toNat % 16 := ⟨_, rfl⟩
          have hqi : (c.toNat : Int) / 16 = (q : Int) := by omega
          have hand : bits BinOp.and IntKind.u8 (c.toNat : Int) 15 = (r : Int) := by rw [hr]; exact and15 c256
          have q16 : q < 16 := by omega
          have r16 : r < 16 := by omega
          have q16i : (q : Int) < 16 := by omega
          have r16i : (r : Int) < 16 := by omega
          have hDq := fun h' => hexd_at q16 h'
          have hDr := fun h' => hexd_at r16 h'
          rw [← hq, ← hr] at HQ
          clear hq hr
          go_upto_region 12 with fail
          go_region_law (refine step_push _ (by rfl) (.tmp 41) (.tmp 50) _ (by rfl) w.heap.size 5 i5 _ 1 1 Tryz.underlying29 I5.out hz5 hs5 hb5 (by rfl) (by omega) (.slice (some ⟨g, 0, none⟩) out.length cap) out.length (Lib.byteCells out) (by rfl) ?_ wr.heap.size 4 4 #[.int .u8 92, .int .u8 120, .int .u8 ((hexd q).toNat : Int), .int .u8 ((hexd r).toNat : Int)] (by rfl) ?_ (by rfl) ?_ (by omega) ?_ ?_ ?_ ?_; exact hown.out.alloc _; exact Blk.new wr _ _; (intro u hu; simp at hu; rcases hu with rfl | rfl | rfl | rfl <;> rfl); (unfold maxLen; omega); omega; (simp; omega); intro g7 c7 w7 hown7 hgr7 _ _)
          all_goals
            have HO7 : Hid (w7.ownsRow w.heap.size 5 1 (.slice (some ⟨g7, 0, none⟩) (out ++ qb c).length c7) (out ++ qb c).length (Lib.byteCells (out ++ qb c))) := by
              rw [HQ.out, List.length_append, Lib.byteCells_append]
              exact hown7
            have HL7 : Hid ((out ++ qb c).length = out.length + 4) := by rw [HQ.out, List.length_append]; rfl
            have HB7 : Hid (Below w.heap.size w w7) := by
              first
              | exact ((hb.out.alloc hsb _).drew).grown hgr7 (by simp; omega) (fun q hq => (hown.out.lt q hq).1)
              | exact ((hb.out.drew.alloc hsb _)).grown hgr7 (by simp; omega) (fun q hq => (hown.out.lt q hq).1)
            clear hown7 hgr7
            go_wp2_with fail

            go_roundw
            case rel => exact ⟨k + 1, g7, c7, out ++ qb c, by omega, by go_num, by rw [HOUT.out, List.append_assoc, HQT.out], by rw [HL7.out], HO7.out, HB7.out⟩
            case measure => simp [intOf]; omega
        · have d1 : decide ((c.toNat : Int) < 32) = false := decide_eq_false (by omega)
          have d1n : ¬ c.toNat < 32 := h2
          by_cases h3 : 126 < c.toNat
          · have d2 : decide ((126 : Int) < (c.toNat : Int)) = true := decide_eq_true (by omega)
            have HQ : Hid (qb c = [92, 120, hexd (c.toNat / 16), hexd (c.toNat % 16)]) := by
              show _ = _
              unfold qb
              rw [if_neg h1, if_pos (.inr h3)]
            clear h1 h2
            obtain ⟨q, hq⟩ : ∃ q, q = c.toNat / 16 := ⟨_, rfl⟩
            obtain ⟨r, hr⟩ : ∃ r, r = c.toNat % 16 := ⟨_, rfl⟩
            have hqi : (c.toNat : Int) / 16 = (q : Int) := by omega
            have hand : bits BinOp.and IntKind.u8 (c.toNat : Int) 15 = (r : Int) := by rw [hr]; exact and15 c256
            have q16 : q < 16 := by omega
            have r16 : r < 16 := by omega
            have q16i : (q : Int) < 16 := by omega
            have r16i : (r : Int) < 16 := by omega
            have hDq := fun h' => hexd_at q16 h'
            have hDr := fun h' => hexd_at r16 h'
            rw [← hq, ← hr] at HQ
            clear hq hr
            go_upto_region 12 with fail
            go_region_law (refine step_push _ (by rfl) (.tmp 41) (.tmp 50) _ (by rfl) w.heap.size 5 i5 _ 1 1 Tryz.underlying29 I5.out hz5 hs5 hb5 (by rfl) (by omega) (.slice (some ⟨g, 0, none⟩) out.length cap) out.length (Lib.byteCells out) (by rfl) ?_ wr.heap.size 4 4 #[.int .u8 92, .int .u8 120, .int .u8 ((hexd q).toNat : Int), .int .u8 ((hexd r).toNat : Int)] (by rfl) ?_ (by rfl) ?_ (by omega) ?_ ?_ ?_ ?_; exact hown.out.alloc _; exact Blk.new wr _ _; (intro u hu; simp at hu; rcases hu with rfl | rfl | rfl | rfl <;> rfl); (unfold maxLen; omega); omega; (simp; omega); intro g7 c7 w7 hown7 hgr7 _ _)
            all_goals
              have HO7 : Hid (w7.ownsRow w.heap.size 5 1 (.slice (some ⟨g7, 0, none⟩) (out ++ qb c).length c7) (out ++ qb c).length (Lib.byteCells (out ++ qb c))) := by
                rw [HQ.out, List.length_append, Lib.byteCells_append]
                exact hown7
              have HL7 : Hid ((out ++ qb c).length = out.length + 4) := by rw [HQ.out, List.length_append]; rfl
              have HB7 : Hid (Below w.heap.size w w7) := by
                first
                | exact ((hb.out.alloc hsb _).drew).grown hgr7 (by simp; omega) (fun q hq => (hown.out.lt q hq).1)
                | exact ((hb.out.drew.alloc hsb _)).grown hgr7 (by simp; omega) (fun q hq => (hown.out.lt q hq).1)
              clear hown7 hgr7
              go_wp2_with fail

              go_roundw
              case rel => exact ⟨k + 1, g7, c7, out ++ qb c, by omega, by go_num, by rw [HOUT.out, List.append_assoc, HQT.out], by rw [HL7.out], HO7.out, HB7.out⟩
              case measure => simp [intOf]; omega
          · have d2 : decide ((126 : Int) < (c.toNat : Int)) = false := decide_eq_false (by omega)
            have HQ : Hid (qb c = [c]) := by
              show _ = _
              unfold qb
              rw [if_neg h1, if_neg (by omega)]
            clear h1 h2
            go_wp2_with (at_builtin; refine wpList_push rfl (.tmp 19) (.tmp 21) _ rfl w.heap.size 5 i5 _ 1 1 Tryz.underlying29 I5.out hz5 hs5 hb5 rfl (by omega) (.slice (some ⟨g, 0, none⟩) out.length cap) out.length _ rfl hown.out 1 1 #[.int .u8 (c.toNat : Int)] rfl rfl (by simp [Value.oneCell']) (by omega) (by unfold maxLen; omega) (by omega) hsb ?_; intro g7 c7 w7 hown7 _ hb7 _ _ _; have HO7 : Hid (w7.ownsRow w.heap.size 5 1 (.slice (some ⟨g7, 0, none⟩) (out ++ qb c).length c7) (out ++ qb c).length (Lib.byteCells (out ++ qb c))) := (by rw [HQ.out, List.length_append, Lib.byteCells_append]; exact hown7); have HL7 : Hid ((out ++ qb c).length = out.length + 1) := (by rw [HQ.out, List.length_append]; rfl); have HB7 : Hid (Below w.heap.size w w7) := hb.out.trans hb7; clear hown7 hb7)
            go_roundw
            case rel => exact ⟨k + 1, g7, c7, out ++ qb c, by omega, by go_num, by rw [HOUT.out, List.append_assoc, HQT.out], by rw [HL7.out], HO7.out, HB7.out⟩
            case measure => simp [intOf]; omega
    · obtain hks : k = s.size := by omega
      have hki : ¬ (k : Int) < (s.size : Int) := by omega
      clear hlt
      go_wp2_with (first
        | (at_builtin; refine wpList_push rfl (.tmp 52) (.tmp 53) _ rfl w.heap.size 5 i5 _ 1 1 Tryz.underlying29 I5.out hz5 hs5 hb5 rfl (by omega) (.slice (some ⟨g, 0, none⟩) out.length cap) out.length _ rfl hown.out 1 1 #[.int .u8 34] rfl rfl (by simp [Value.oneCell']) (by omega) (by unfold maxLen; omega) (by omega) hsb ?_; intro g7 c7 w7 hown7 _ hb7 _ _ _; have HO7 : Hid (w7.ownsRow w.heap.size 5 1 (.slice (some ⟨g7, 0, none⟩) (out ++ [34]).length c7) (out ++ [34]).length (Lib.byteCells (out ++ [34]))) := (by rw [List.length_append, Lib.byteCells_append]; exact hown7); have HB7 := hide hb7; clear hown7 hb7)
        | (refine wpList_conv_bytes rfl (.tmp 55) 29 9 5 rfl Tryz.underlying29 Tryz.underlying5 Tryz.underlying9 ⟨g7, 0, none⟩ (out.length + 1) c7 (out ++ [34]) rfl (by simp) (own_bytes HO7.out) ?_))
      go_ret
      refine ⟨?_, hb.out.trans HB7.out⟩
      rw [HOUT.out, hks, List.take_of_length_le (by rw [str_len]; exact Nat.le_refl _)]
      rfl
end Go.Proofs.YtcibcmfaebbhnaaGreatDoor
