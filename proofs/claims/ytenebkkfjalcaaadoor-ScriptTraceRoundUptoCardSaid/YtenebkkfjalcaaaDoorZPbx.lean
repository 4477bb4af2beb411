/-
  The reference's Lines. A mark behind a pointer, and the cursor that reads it.
-/
import Derived.Test.YtenebkkfjalcaaaDoorZSev
import Derived.Test.YtenebkkfjalcaaaDoorZGd
set_option linter.unusedVariables false
set_option linter.unusedSimpArgs false
namespace Go.Proofs.YtenebkkfjalcaaaDoor
open Go.RowKit Go.WideShapes Go.ChangeShapes Q

/-- A text's lines: cur is the line so far. -/
def linG (cur : List UInt8) : List UInt8 → List (List UInt8)
  | [] => if cur = [] then [] else [cur]
  | c :: r => if c.toNat = 10 then cur :: linG [] r else linG (cur ++ [c]) r
def LinP (l : List UInt8) (w : World) (e : Ending) (w' : World) : Prop := ∃ A cap, e = .returned (.slice A (linG [] l).length cap) ∧ w'.ownsRow w.heap.size 9 1 (.slice A (linG [] l).length cap) (linG [] l).length (strs (linG [] l)) ∧ Below w.heap.size w w'
/-- What the loop keeps. -/
def JLoop (s : ByteArray) (W : World) (v a i : Value) (wr : World) : Prop := ∃ (ps : List (List UInt8)) (at_ j : Nat), at_ ≤ j ∧ j ≤ s.size ∧ i = .int .i64 j ∧ a = .int .i64 at_ ∧ ps.length ≤ j ∧
  linG [] s.data.toList = ps ++ linG (piece s at_ j) (s.data.toList.drop j) ∧ wr.ownsRow W.heap.size 9 1 v ps.length (strs ps) ∧ Below W.heap.size W wr
theorem piece_len {s : ByteArray} {a j : Nat} (h : j ≤ s.size) : (piece s a j).length = j - a := by
  unfold piece
  rw [List.length_drop, List.length_take, str_len]
  omega

set_option maxRecDepth 100000 in
set_option maxHeartbeats 8000000 in
theorem lines_ref (s : ByteArray) (w : World) (hs : s.size ≤ 1000000000000) :
    Calls Tryd.prog 25 #[.string s] w fun e w' => LinP s.data.toList w e w' := by
  obtain ⟨i9, hi9, hz9, hs9, hb9⟩ := info_parts info9
  have I9 := hide hi9
  clear hi9
  have HL0 : Hid (JLoop s w (.slice none 0 0) (.int .i64 0) (.int .i64 0) w) := ⟨[], 0, 0, Nat.le_refl _, Nat.zero_le _, rfl, rfl, by simp, by rw [piece_nil]; rfl, World.ownsRow_nil _ _ _ _, Below.refl _ _⟩
  go_enter Tryd.func25, Tryd.ntmps25
  go_upto_region 4 with fail
  go_loopw [3, 4, 5] (fun v a i wr => JLoop s w v a i wr) (fun _ _ i _ => s.size - (intOf i).toNat)
  case atStart => exact HL0.out
  case round =>
    clear HL0
    unfold JLoop at hrel
    obtain ⟨ps, at_, j, haj, hj, rfl, rfl, hpl, hcut, hown, hb⟩ := hrel
    have HC := hide hcut
    have HO := hide hown
    have HB := hide hb
    have hsw : w.heap.size ≤ wr.heap.size := HB.out.size
    obtain ⟨A7, c7, rfl, _, _⟩ := own_slice hown
    clear hcut hown hb
    have j0 : (0 : Int) ≤ (j : Int) := by omega
    have a0 : (0 : Int) ≤ (at_ : Int) := by omega
    have aj : (at_ : Int) ≤ (j : Int) := by omega
    have jz : (j : Int) ≤ (s.size : Int) := by omega
    by_cases hlt : j < s.size
    · obtain ⟨q, hq⟩ : ∃ q, q = s[j] := ⟨_, rfl⟩
      have hqc := hq.symm
      have HQ := hide hq
      have HD : Hid (s.data.toList.drop j = q :: s.data.toList.drop (j + 1)) := by rw [hq]; exact bdrop hlt
      have q256 : q.toNat < 256 := q.toNat_lt
      have js : (j : Int) < (s.size : Int) := by omega
      clear hq
      by_cases h10 : q.toNat = 10
      · have e1 : ((q.toNat : Int) == 10) = true := by rw [beq_iff_eq]; omega
        obtain ⟨pc, hpc⟩ : ∃ pc, pc = piece s at_ j := ⟨_, rfl⟩
        have hpx : s.extract at_ j = S pc := by rw [hpc]; exact ext_piece s at_ j
        have HC2 : Hid (linG [] s.data.toList = (ps ++ [pc]) ++ linG (piece s (j + 1) (j + 1)) (s.data.toList.drop (j + 1))) := by
          show _ = _
          rw [HC.out, HD.out, linG, if_pos h10, piece_nil, hpc]
          simp
        clear h10 hpc
        go_wp2_with (at_builtin; refine wpList_push (W := wr) (cs := #[.string (S pc)]) rfl (.tmp 16) (.tmp 21) _ rfl w.heap.size 9 i9 _ 1 16 Tryd.underlying66 I9.out hz9 hs9 hb9 rfl (by omega) (.slice A7 ps.length c7) ps.length (strs ps) rfl HO.out 1 1 rfl rfl (by simp [Value.oneCell']) (by omega) (by unfold maxLen; omega) (by omega) hsw ?_; intro g8 c8 w8 hown8 _ hb8 _ _ _; have HL8 : Hid (JLoop s w (.slice (some ⟨g8, 0, none⟩) (ps.length + 1) c8) (.int .i64 ((j : Int) + 1)) (.int .i64 ((j : Int) + 1)) w8) := ⟨ps ++ [pc], j + 1, j + 1, Nat.le_refl _, by omega, by go_num, by go_num, by rw [List.length_append, List.length_singleton]; omega, HC2.out, by rw [strs_append, List.length_append]; exact hown8, HB.out.trans hb8⟩; clear hown8 hb8)
        go_roundw
        case rel => first | exact HL8.out | exact ⟨_, _, _, HL8.out, rfl, rfl, rfl⟩
        case measure => simp [intOf]; omega
      · have e1 : ((q.toNat : Int) == 10) = false := by rw [beq_eq_false_iff_ne]; omega
        have HC2 : Hid (linG [] s.data.toList = ps ++ linG (piece s at_ (j + 1)) (s.data.toList.drop (j + 1))) := by
          show _ = _
          rw [HC.out, HD.out, linG, if_neg h10, piece_snoc haj hlt, HQ.out]
        have HL8 : Hid (JLoop s w (.slice A7 ps.length c7) (.int .i64 (at_ : Int)) (.int .i64 ((j : Int) + 1)) wr) := ⟨ps, at_, j + 1, by omega, by omega, by go_num, rfl, by omega, HC2.out, HO.out, HB.out⟩
        clear h10
        go_wp2_with fail
        go_roundw
        case rel => first | exact HL8.out | exact ⟨_, _, _, HL8.out, rfl, rfl, rfl⟩
        case measure => simp [intOf]; omega
    · have js : ¬ (j : Int) < (s.size : Int) := by omega
      have hjs : j = s.size := by omega
      have hC := HC.out
      rw [hjs, List.drop_eq_nil_of_le (by rw [str_len]; omega), linG] at hC
      have hl := piece_len (s := s) (a := at_) (j := s.size) (Nat.le_refl _)
      by_cases hat : at_ < s.size
      · obtain ⟨pc, hpc⟩ : ∃ pc, pc = piece s at_ s.size := ⟨_, rfl⟩
        have hpx : s.extract at_ s.size = S pc := by rw [hpc]; exact ext_piece s at_ s.size
        have HN : Hid (linG [] s.data.toList = ps ++ [pc]) := by
          show _ = _
          rw [hC, if_neg (by intro e; rw [e] at hl; simp at hl; omega), hpc]
        have az : (at_ : Int) ≤ (s.size : Int) := by omega
        have az2 : (at_ : Int) < (s.size : Int) := by omega
        clear hlt hjs hpc hC hl
        go_wp2_with (at_builtin; refine wpList_push (W := wr) (cs := #[.string (S pc)]) rfl (.tmp 29) (.tmp 33) _ rfl w.heap.size 9 i9 _ 1 16 Tryd.underlying66 I9.out hz9 hs9 hb9 rfl (by omega) (.slice A7 ps.length c7) ps.length (strs ps) rfl HO.out 1 1 rfl rfl (by simp [Value.oneCell']) (by omega) (by unfold maxLen; omega) (by omega) hsw ?_; intro g8 c8 w8 hown8 _ hb8 _ _ _; have HO8 : Hid (w8.ownsRow w.heap.size 9 1 (.slice (some ⟨g8, 0, none⟩) (ps ++ [pc]).length c8) (ps ++ [pc]).length (strs (ps ++ [pc]))) := (by show World.ownsRow _ _ _ _ _ _ _; rw [strs_append, List.length_append]; exact hown8); have HB8 := hide (HB.out.trans hb8); clear hown8 hb8)
        go_ret
        refine ⟨some ⟨g8, 0, none⟩, c8, ?_, ?_, HB8.out⟩
        · rw [HN.out, List.length_append]
          rfl
        · rw [HN.out]
          exact HO8.out
      · have HN : Hid (linG [] s.data.toList = ps) := by
          show _ = _
          rw [hC, if_pos (List.length_eq_zero_iff.1 (by rw [hl]; omega)), List.append_nil]
        have az2 : ¬ (at_ : Int) < (s.size : Int) := by omega
        clear hlt hjs hC hl
        go_wp2_with fail
        go_ret
        refine ⟨A7, c7, ?_, ?_, HB.out⟩
        · rw [HN.out]
          rfl
        · rw [HN.out]
          exact HO.out
end Go.Proofs.YtenebkkfjalcaaaDoor
set_option linter.unusedVariables false
set_option linter.unusedSimpArgs false
namespace Go.Proofs.YtenebkkfjalcaaaDoor
open Go.RowKit Go.WideShapes Go.ChangeShapes Q

/-- The mark in its block, the cursor in its own. -/
structure PC (W : World) (b p c : Nat) (m : Mk) (s : ByteArray) (k : Nat) (bad : Bool) : Prop where
  box : Blk W p 48 m.cs
  cu : Cu W c s k bad
  t : MkU W b m
  hp : b ≤ p
  hc : b ≤ c
section
variable {W W' : World} {b p c k k' : Nat} {m m' : Mk} {s : ByteArray} {bad bad' : Bool}
theorem PC.ne (h : PC W b p c m s k bad) : p ≠ c := Blk.ne_ h.box (t' := 84) h.cu (by decide)
theorem PC.bw (h : PC W b p c m s k bad) : b ≤ W.heap.size := Nat.le_of_lt (Nat.lt_of_le_of_lt h.hp h.box.lt)
theorem PC.cur (h : PC W b p c m s k bad) (hcu : Cu W' c s k' bad') (ho : Only (fun q => q = c) W W') : PC W' b p c m s k' bad' :=
  ⟨h.box.only ho (fun e => h.ne e), hcu, h.t.far (t := 84) h.cu (by decide) (by decide) (by decide) ho, h.hp, h.hc⟩
theorem PC.lowc (h : PC W b p c m s k bad) (ho : Only (fun q => q = c) W W') : Below b W W' := ho.below h.bw (fun q hq => by have := h.hc; omega)
theorem PC.turn (h : PC W b p c m s k bad) (ho : Only (fun q => q = p) W W') (hbox : Blk W' p 48 m'.cs) (ht : MkU W b m') : PC W' b p c m' s k bad :=
  ⟨hbox, Blk.only (t := 84) h.cu ho (fun e => h.ne e.symm), ht.far h.box (by decide) (by decide) (by decide) ho, h.hp, h.hc⟩
theorem PC.lowp (h : PC W b p c m s k bad) (ho : Only (fun q => q = p) W W') : Below b W W' := ho.below h.bw (fun q hq => by have := h.hp; omega)
theorem PC.set (h : PC W b p c m s k bad) (i : Nat) (v : Value) (hc : m.cs.setIfInBounds i v = m'.cs) (ht : MkU W b m') : PC (W.setCell ⟨p, i, none⟩ v) b p c m' s k bad ∧ Below b W (W.setCell ⟨p, i, none⟩ v) :=
  ⟨h.turn (only_setCell0 _ _ _ _) (hc ▸ h.box.set_ i v) ht, h.lowp (only_setCell0 _ _ _ _)⟩
theorem PC.put (h : PC W b p c m s k bad) (ht : MkU W b m') : PC (W.setRow p m'.cs) b p c m' s k bad ∧ Below b W (W.setRow p m'.cs) :=
  ⟨h.turn (only_setRow _ _ _) (h.box.row _) ht, h.lowp (only_setRow _ _ _)⟩
theorem PC.step (h : PC W b p c m s k bad) (hb : Below W.heap.size W W') : PC W' b p c m s k bad :=
  ⟨h.box.below hb h.box.lt, Blk.below (t := 84) h.cu hb (Blk.lt (t := 84) h.cu), h.t.step hb, h.hp, h.hc⟩
theorem PC.drew (h : PC W b p c m s k bad) : PC W.drew b p c m s k bad := h.step (below_drewN (Below.refl _ _) 1)
/-- A member pushed, the box turned. -/
theorem PC.pushM {w7 : World} {g7 c7 : Nat} {x y z : Int} (h : PC W b p c m s k bad) (hown : w7.ownsRow b 69 3 (.slice (some ⟨g7, 0, none⟩) (m.nm + 1) c7) (m.nm + 1) (sts m.ms ++ [.int .i64 x, .int .i64 y, .int .i64 z])) (hgr : W.grownBy w7 (Value.slice m.Am m.nm m.cm).ownBlock) (hn : m.nm + 1 ≤ 10000000) :
    PC (w7.setCell ⟨p, 8, none⟩ (.slice (some ⟨g7, 0, none⟩) (m.nm + 1) c7)) b p c { m with Am := some ⟨g7, 0, none⟩, nm := m.nm + 1, cm := c7, ms := m.ms ++ [(x, y, z)] } s k bad ∧ Below b W (w7.setCell ⟨p, 8, none⟩ (.slice (some ⟨g7, 0, none⟩) (m.nm + 1) c7)) := by
  have hbox : Blk w7 p 48 m.cs := h.box.grown hgr (own_ne h.t.mem h.box (by decide))
  have hcu : Cu w7 c s k bad := Blk.grown (t := 84) h.cu hgr (own_ne (t := 84) h.t.mem h.cu (by decide))
  have ht : MkU w7 b { m with Am := some ⟨g7, 0, none⟩, nm := m.nm + 1, cm := c7, ms := m.ms ++ [(x, y, z)] } := by
    refine ⟨?_, own_kept h.t.tr h.t.mem (by decide) hgr, h.t.body.grown h.t.mem (by decide) hgr, hn, h.t.ht, h.t.hb⟩
    rw [sts_snoc]
    exact hown
  have hW := only_setCell0 w7 p 8 (.slice (some ⟨g7, 0, none⟩) (m.nm + 1) c7)
  have hlow : Below b W w7 := (Below.refl b W).grown hgr h.bw (fun k hk => (h.t.mem.lt k hk).1)
  refine ⟨⟨?_, Blk.only (t := 84) hcu hW (fun e => h.ne e.symm), ht.far hbox (by decide) (by decide) (by decide) hW, h.hp, h.hc⟩, hlow.trans (hW.below (Nat.le_trans h.bw hlow.size) (fun q hq => by have := h.hp; omega))⟩
  have := hbox.set_ 8 (.slice (some ⟨g7, 0, none⟩) (m.nm + 1) c7)
  rw [set_mem m (some ⟨g7, 0, none⟩) (m.nm + 1) c7 (m.ms ++ [(x, y, z)])] at this
  exact this
/-- A number pushed onto the mark's numbers, the box turned. -/
theorem PC.pushT {w7 : World} {g7 c7 : Nat} {x : Int} (h : PC W b p c m s k bad) (hown : w7.ownsRow b 3 1 (.slice (some ⟨g7, 0, none⟩) (m.nt + 1) c7) (m.nt + 1) (ints m.ts ++ [.int .i64 x])) (hgr : W.grownBy w7 (Value.slice m.At m.nt m.ct).ownBlock) (hn : m.nt + 1 ≤ 10000000) :
    PC (w7.setCell ⟨p, 9, none⟩ (.slice (some ⟨g7, 0, none⟩) (m.nt + 1) c7)) b p c { m with At := some ⟨g7, 0, none⟩, nt := m.nt + 1, ct := c7, ts := m.ts ++ [x] } s k bad ∧ Below b W (w7.setCell ⟨p, 9, none⟩ (.slice (some ⟨g7, 0, none⟩) (m.nt + 1) c7)) := by
  have hbox : Blk w7 p 48 m.cs := h.box.grown hgr (own_ne h.t.tr h.box (by decide))
  have hcu : Cu w7 c s k bad := Blk.grown (t := 84) h.cu hgr (own_ne (t := 84) h.t.tr h.cu (by decide))
  have ht : MkU w7 b { m with At := some ⟨g7, 0, none⟩, nt := m.nt + 1, ct := c7, ts := m.ts ++ [x] } := by
    refine ⟨own_kept h.t.mem h.t.tr (by decide) hgr, ?_, h.t.body.grown h.t.tr (by decide) hgr, h.t.hm, hn, h.t.hb⟩
    rw [ints_app]
    exact hown
  have hW := only_setCell0 w7 p 9 (.slice (some ⟨g7, 0, none⟩) (m.nt + 1) c7)
  have hlow : Below b W w7 := (Below.refl b W).grown hgr h.bw (fun k hk => (h.t.tr.lt k hk).1)
  refine ⟨⟨?_, Blk.only (t := 84) hcu hW (fun e => h.ne e.symm), ht.far hbox (by decide) (by decide) (by decide) hW, h.hp, h.hc⟩, hlow.trans (hW.below (Nat.le_trans h.bw hlow.size) (fun q hq => by have := h.hp; omega))⟩
  have := hbox.set_ 9 (.slice (some ⟨g7, 0, none⟩) (m.nt + 1) c7)
  rw [set_tr m (some ⟨g7, 0, none⟩) (m.nt + 1) c7 (m.ts ++ [x])] at this
  exact this
end
/-- What comes out of part. -/
def PartR (r : PM × Nat × Bool) (b p c : Nat) (s : ByteArray) (w : World) (e : Ending) (w' : World) : Prop := ∃ m' : Mk, e = .returned (.tuple #[]) ∧ m'.pm = r.1 ∧ PC w' b p c m' s r.2.1 r.2.2 ∧ Below b w w'
theorem str_st (s : ByteArray) (k b : Nat) (bad : Bool) (w : World) (h : Cu w b s k bad) (hk : k ≤ s.size) (hs : s.size ≤ 1000000000000) :
    Calls Tryd.prog 61 #[.pointer (some ⟨b, 0, none⟩)] w fun e w' => e = .returned (.string (S (strT s.data.toList k))) ∧ Cu w' b s (strK s.data.toList k) (bad || !strOk s.data.toList k) ∧ Only (fun q => q = b) w w' := str_any s k b bad w h hk hs
end Go.Proofs.YtenebkkfjalcaaaDoor
