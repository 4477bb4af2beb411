/-
  The program's part: one part more of a mark, read behind the cursor. (Printed by wip/tools/mkwide.py.)
-/
import Derived.Test.YtenebkkfjalcaaaDoorZWbx
import Derived.Test.YtenebkkfjalcaaaDoorZFld
set_option linter.unusedVariables false
set_option linter.unusedSimpArgs false
namespace Go.Proofs.YtenebkkfjalcaaaDoor.Wide
open Go.RowKit Go.WideShapes Go.ChangeShapes Q

/-- The cursor behind so many strings, each behind a slash. -/
def cK (l : List UInt8) (k : Nat) : Nat → Nat
  | 0 => k
  | j + 1 => ssK l (cK l k j)
def cB (l : List UInt8) (k : Nat) (bad : Bool) : Nat → Bool
  | 0 => bad
  | j + 1 => ssB l (cK l k j) (cB l k bad j)
def cM (m : Mk) (l : List UInt8) (k : Nat) : Nat → Mk
  | 0 => m
  | 1 => { m with key := S (ssT l k) }
  | 2 => { m with key := S (ssT l k), val := S (ssT l (cK l k 1)) }
  | _ => { m with key := S (ssT l k), val := S (ssT l (cK l k 1)), old := S (ssT l (cK l k 2)) }
theorem cK_le {s : ByteArray} {k : Nat} (h : k ≤ s.size) : ∀ j, cK s.data.toList k j ≤ s.size
  | 0 => h
  | j + 1 => by
    have := ssK_le (l := s.data.toList) (k := cK s.data.toList k j) (by rw [str_len]; exact cK_le h j)
    rw [str_len] at this
    exact this
/-- What the loop over a command's strings keeps. -/
def KSt (m : Mk) (s : ByteArray) (k : Nat) (bad : Bool) (b p c q : Nat) (w : World) (j : Nat) (wr : World) : Prop :=
  PC wr b p c (cM m s.data.toList k j) s (cK s.data.toList k j) (cB s.data.toList k bad j) ∧ Blk wr q 104 #[.pointer (some ⟨p, 19, none⟩), .pointer (some ⟨p, 20, none⟩), .pointer (some ⟨p, 21, none⟩)] ∧ Below b w wr
def KLp (m : Mk) (s : ByteArray) (k : Nat) (bad : Bool) (b p c q : Nat) (w : World) (v : Value) (wr : World) : Prop :=
  (v = .int .i64 0 ∧ KSt m s k bad b p c q w 0 wr) ∨ (v = .int .i64 1 ∧ KSt m s k bad b p c q w 1 wr) ∨ (v = .int .i64 2 ∧ KSt m s k bad b p c q w 2 wr) ∨ (v = .int .i64 3 ∧ KSt m s k bad b p c q w 3 wr)
/-- How far the loop over a list is. -/
def qmeas (n c : Nat) (v : Value) (wr : World) : Nat := match v with
  | .bool true => n + 1 - atOf wr c
  | _ => 0
/-- What the loop over the members keeps. -/
def QMem (m : Mk) (s : ByteArray) (k : Nat) (bad : Bool) (b p c : Nat) (w : World) (v : Value) (wr : World) : Prop := ∃ (ag : Bool) (m1 : Mk) (k1 : Nat) (b1 : Bool), v = .bool ag ∧ PC wr b p c m1 s k1 b1 ∧ k1 ≤ s.size ∧ m1.pm = { m.pm with ms := m1.ms } ∧ Below b w wr ∧
  memsP s.data.toList m.ms k bad = (if ag = true then memsP s.data.toList m1.ms k1 b1 else (m1.ms, k1, b1)) ∧ (ag = true → m1.ms.length + k ≤ m.ms.length + k1)
/-- What the loop over the numbers keeps. -/
def QTra (m : Mk) (s : ByteArray) (k : Nat) (bad : Bool) (b p c : Nat) (w : World) (v : Value) (wr : World) : Prop := ∃ (ag : Bool) (m1 : Mk) (k1 : Nat) (b1 : Bool), v = .bool ag ∧ PC wr b p c m1 s k1 b1 ∧ k1 ≤ s.size ∧ m1.pm = { m.pm with ts := m1.ts } ∧ Below b w wr ∧
  tranP s.data.toList m.ts k bad = (if ag = true then tranP s.data.toList m1.ts k1 b1 else (m1.ts, k1, b1)) ∧ (ag = true → m1.ts.length + k ≤ m.ts.length + k1)
theorem here_st (c : UInt8) (s : ByteArray) (k b : Nat) (bad : Bool) (w : World) (h : Cu w b s k bad) (hk : k ≤ s.size) (hs : s.size ≤ 1000000000000) {B : Bool} (hB : hereB c (s.data.toList.drop k) = B) :
    Calls Tryd.prog 60 #[.pointer (some ⟨b, 0, none⟩), .int .u8 (c.toNat : Int)] w fun e w' => e = .returned (.bool B) ∧ Cu w' b s k bad ∧ Only (fun q => q = b) w w' := by
  rw [← hB]
  exact here_any c s k b bad w h hk hs
set_option maxRecDepth 100000 in
set_option maxHeartbeats 8000000 in
theorem part_se (nm s : ByteArray) (m : Mk) (b p c k : Nat) (bad : Bool) (w : World) (h : PC w b p c m s k bad) (hk : k ≤ s.size) (hs : s.size ≤ 130000000) (hz : m.nm ≤ 140000000) (hzt : m.nt ≤ 140000000) (hn : nm.data.toList = [115, 101, 110, 100, 101, 114]) :
    Calls Tryd.prog 47 #[.pointer (some ⟨c, 0, none⟩), .pointer (some ⟨p, 0, none⟩), .string nm] w fun e w' => PartR (pSe s.data.toList m.pm k bad) b p c s w e w' := by
  have hs' : s.size ≤ 1000000000000 := by omega
  have HP := hide h
  have hnl : nm.toList = [115, 101, 110, 100, 101, 114] := by rw [ByteArray.toList_eq]; exact hn
  have kl : k ≤ s.data.toList.length := by rw [str_len]; exact hk
  have HNU := hide (number_st s k c bad w h.cu hk hs')
  obtain ⟨Y, hY⟩ : ∃ Y, Y = nV s.data.toList k := ⟨_, rfl⟩
  rw [← hY] at HNU
  have HY := hide hY
  clear hY h hn
  go_enter Tryd.func47, Tryd.ntmps47
  go_wp2_with (go_at_call 44; refine HNU.out.mono ?_; rintro e w2 ⟨rfl, hcu2, hon2⟩; have HP2 := hide (HP.out.cur hcu2 hon2); have HL2 := hide (HP.out.lowc hon2); have c9 := mb10 HP2.out.box; have f9 := Blk.frozen HP2.out.box 10; clear hcu2 hon2)
  first | refine bodyPost_end (results_none rfl _ _ _) rfl ?_ | refine bodyPost_ret (results_none rfl _ _ _) rfl ?_
  obtain ⟨h1, h2⟩ := HP2.out.set 10 (.int .i64 Y) (set_se m Y) ⟨HP2.out.t.mem, HP2.out.t.tr, HP2.out.t.body, HP2.out.t.hm, HP2.out.t.ht, HP2.out.t.hb⟩
  refine ⟨{ m with se := Y }, rfl, ?_, h1, HL2.out.trans h2⟩
  rw [HY.out]
  rfl

set_option maxRecDepth 100000 in
set_option maxHeartbeats 8000000 in
theorem part_sq (nm s : ByteArray) (m : Mk) (b p c k : Nat) (bad : Bool) (w : World) (h : PC w b p c m s k bad) (hk : k ≤ s.size) (hs : s.size ≤ 130000000) (hz : m.nm ≤ 140000000) (hzt : m.nt ≤ 140000000) (hn : nm.data.toList = [115, 101, 113]) :
    Calls Tryd.prog 47 #[.pointer (some ⟨c, 0, none⟩), .pointer (some ⟨p, 0, none⟩), .string nm] w fun e w' => PartR (pSq s.data.toList m.pm k bad) b p c s w e w' := by
  have hs' : s.size ≤ 1000000000000 := by omega
  have HP := hide h
  have hnl : nm.toList = [115, 101, 113] := by rw [ByteArray.toList_eq]; exact hn
  have kl : k ≤ s.data.toList.length := by rw [str_len]; exact hk
  have HNU := hide (number_st s k c bad w h.cu hk hs')
  obtain ⟨Y, hY⟩ : ∃ Y, Y = nV s.data.toList k := ⟨_, rfl⟩
  rw [← hY] at HNU
  have HY := hide hY
  clear hY h hn
  go_enter Tryd.func47, Tryd.ntmps47
  go_wp2_with (go_at_call 44; refine HNU.out.mono ?_; rintro e w2 ⟨rfl, hcu2, hon2⟩; have HP2 := hide (HP.out.cur hcu2 hon2); have HL2 := hide (HP.out.lowc hon2); have c9 := mb11 HP2.out.box; have f9 := Blk.frozen HP2.out.box 11; clear hcu2 hon2)
  first | refine bodyPost_end (results_none rfl _ _ _) rfl ?_ | refine bodyPost_ret (results_none rfl _ _ _) rfl ?_
  obtain ⟨h1, h2⟩ := HP2.out.set 11 (.int .i64 Y) (set_sq m Y) ⟨HP2.out.t.mem, HP2.out.t.tr, HP2.out.t.body, HP2.out.t.hm, HP2.out.t.ht, HP2.out.t.hb⟩
  refine ⟨{ m with sq := Y }, rfl, ?_, h1, HL2.out.trans h2⟩
  rw [HY.out]
  rfl

set_option maxRecDepth 100000 in
set_option maxHeartbeats 8000000 in
theorem part_po (nm s : ByteArray) (m : Mk) (b p c k : Nat) (bad : Bool) (w : World) (h : PC w b p c m s k bad) (hk : k ≤ s.size) (hs : s.size ≤ 130000000) (hz : m.nm ≤ 140000000) (hzt : m.nt ≤ 140000000) (hn : nm.data.toList = [112, 111, 115]) :
    Calls Tryd.prog 47 #[.pointer (some ⟨c, 0, none⟩), .pointer (some ⟨p, 0, none⟩), .string nm] w fun e w' => PartR (pPo s.data.toList m.pm k bad) b p c s w e w' := by
  have hs' : s.size ≤ 1000000000000 := by omega
  have HP := hide h
  have hnl : nm.toList = [112, 111, 115] := by rw [ByteArray.toList_eq]; exact hn
  have kl : k ≤ s.data.toList.length := by rw [str_len]; exact hk
  have HNU := hide (number_st s k c bad w h.cu hk hs')
  obtain ⟨Y, hY⟩ : ∃ Y, Y = nV s.data.toList k := ⟨_, rfl⟩
  rw [← hY] at HNU
  have HY := hide hY
  clear hY h hn
  go_enter Tryd.func47, Tryd.ntmps47
  go_wp2_with (go_at_call 44; refine HNU.out.mono ?_; rintro e w2 ⟨rfl, hcu2, hon2⟩; have HP2 := hide (HP.out.cur hcu2 hon2); have HL2 := hide (HP.out.lowc hon2); have c9 := mb12 HP2.out.box; have f9 := Blk.frozen HP2.out.box 12; clear hcu2 hon2)
  first | refine bodyPost_end (results_none rfl _ _ _) rfl ?_ | refine bodyPost_ret (results_none rfl _ _ _) rfl ?_
  obtain ⟨h1, h2⟩ := HP2.out.set 12 (.int .i64 Y) (set_po m Y) ⟨HP2.out.t.mem, HP2.out.t.tr, HP2.out.t.body, HP2.out.t.hm, HP2.out.t.ht, HP2.out.t.hb⟩
  refine ⟨{ m with po := Y }, rfl, ?_, h1, HL2.out.trans h2⟩
  rw [HY.out]
  rfl

set_option maxRecDepth 100000 in
set_option maxHeartbeats 8000000 in
theorem part_n (nm s : ByteArray) (m : Mk) (b p c k : Nat) (bad : Bool) (w : World) (h : PC w b p c m s k bad) (hk : k ≤ s.size) (hs : s.size ≤ 130000000) (hz : m.nm ≤ 140000000) (hzt : m.nt ≤ 140000000) (hn : nm.data.toList = [110]) :
    Calls Tryd.prog 47 #[.pointer (some ⟨c, 0, none⟩), .pointer (some ⟨p, 0, none⟩), .string nm] w fun e w' => PartR (pN s.data.toList m.pm k bad) b p c s w e w' := by
  have hs' : s.size ≤ 1000000000000 := by omega
  have HP := hide h
  have hnl : nm.toList = [110] := by rw [ByteArray.toList_eq]; exact hn
  have kl : k ≤ s.data.toList.length := by rw [str_len]; exact hk
  have HNU := hide (number_st s k c bad w h.cu hk hs')
  obtain ⟨Y, hY⟩ : ∃ Y, Y = nV s.data.toList k := ⟨_, rfl⟩
  rw [← hY] at HNU
  have HY := hide hY
  clear hY h hn
  go_enter Tryd.func47, Tryd.ntmps47
  go_wp2_with (go_at_call 44; refine HNU.out.mono ?_; rintro e w2 ⟨rfl, hcu2, hon2⟩; have HP2 := hide (HP.out.cur hcu2 hon2); have HL2 := hide (HP.out.lowc hon2); have c9 := mb13 HP2.out.box; have f9 := Blk.frozen HP2.out.box 13; clear hcu2 hon2)
  first | refine bodyPost_end (results_none rfl _ _ _) rfl ?_ | refine bodyPost_ret (results_none rfl _ _ _) rfl ?_
  obtain ⟨h1, h2⟩ := HP2.out.set 13 (.int .i64 Y) (set_n m Y) ⟨HP2.out.t.mem, HP2.out.t.tr, HP2.out.t.body, HP2.out.t.hm, HP2.out.t.ht, HP2.out.t.hb⟩
  refine ⟨{ m with n := Y }, rfl, ?_, h1, HL2.out.trans h2⟩
  rw [HY.out]
  rfl

set_option maxRecDepth 100000 in
set_option maxHeartbeats 8000000 in
theorem part_er (nm s : ByteArray) (m : Mk) (b p c k : Nat) (bad : Bool) (w : World) (h : PC w b p c m s k bad) (hk : k ≤ s.size) (hs : s.size ≤ 130000000) (hz : m.nm ≤ 140000000) (hzt : m.nt ≤ 140000000) (hn : nm.data.toList = [101, 114, 114]) :
    Calls Tryd.prog 47 #[.pointer (some ⟨c, 0, none⟩), .pointer (some ⟨p, 0, none⟩), .string nm] w fun e w' => PartR (pEr s.data.toList m.pm k bad) b p c s w e w' := by
  have hs' : s.size ≤ 1000000000000 := by omega
  have HP := hide h
  have hnl : nm.toList = [101, 114, 114] := by rw [ByteArray.toList_eq]; exact hn
  have kl : k ≤ s.data.toList.length := by rw [str_len]; exact hk
  have HNU := hide (number_st s k c bad w h.cu hk hs')
  obtain ⟨Y, hY⟩ : ∃ Y, Y = nV s.data.toList k := ⟨_, rfl⟩
  rw [← hY] at HNU
  have HY := hide hY
  clear hY h hn
  go_enter Tryd.func47, Tryd.ntmps47
  go_wp2_with (go_at_call 44; refine HNU.out.mono ?_; rintro e w2 ⟨rfl, hcu2, hon2⟩; have HP2 := hide (HP.out.cur hcu2 hon2); have HL2 := hide (HP.out.lowc hon2); have c9 := mb25 HP2.out.box; have f9 := Blk.frozen HP2.out.box 25; clear hcu2 hon2)
  first | refine bodyPost_end (results_none rfl _ _ _) rfl ?_ | refine bodyPost_ret (results_none rfl _ _ _) rfl ?_
  obtain ⟨h1, h2⟩ := HP2.out.set 25 (.int .i64 Y) (set_er m Y) ⟨HP2.out.t.mem, HP2.out.t.tr, HP2.out.t.body, HP2.out.t.hm, HP2.out.t.ht, HP2.out.t.hb⟩
  refine ⟨{ m with er := Y }, rfl, ?_, h1, HL2.out.trans h2⟩
  rw [HY.out]
  rfl

set_option maxRecDepth 100000 in
set_option maxHeartbeats 8000000 in
theorem part_bd (nm s : ByteArray) (m : Mk) (b p c k : Nat) (bad : Bool) (w : World) (h : PC w b p c m s k bad) (hk : k ≤ s.size) (hs : s.size ≤ 130000000) (hz : m.nm ≤ 140000000) (hzt : m.nt ≤ 140000000) (hn : nm.data.toList = [98, 111, 100, 121]) :
    Calls Tryd.prog 47 #[.pointer (some ⟨c, 0, none⟩), .pointer (some ⟨p, 0, none⟩), .string nm] w fun e w' => PartR (pBd s.data.toList m.pm k bad) b p c s w e w' := by
  have hs' : s.size ≤ 1000000000000 := by omega
  have HP := hide h
  have hnl : nm.toList = [98, 111, 100, 121] := by rw [ByteArray.toList_eq]; exact hn
  have kl : k ≤ s.data.toList.length := by rw [str_len]; exact hk
  have HNU := hide (str_st s k c bad w h.cu hk hs')
  obtain ⟨Y, hY⟩ : ∃ Y, Y = strT s.data.toList k := ⟨_, rfl⟩
  rw [← hY] at HNU
  have HYL : Hid (Y.length ≤ 130000000) := by
    show _ ≤ _
    rw [hY]
    have := strT_len s.data.toList k
    rw [str_len] at this
    omega
  have HY := hide hY
  clear hY h hn
  go_enter Tryd.func47, Tryd.ntmps47
  go_wp2_with (go_at_call 61; refine HNU.out.mono ?_; rintro e w2 ⟨rfl, hcu2, hon2⟩; have HP2 := hide (HP.out.cur hcu2 hon2); have HL2 := hide (HP.out.lowc hon2); obtain ⟨c4, w4, hcv, hrb, hb4⟩ := conv_made w2 Y HP2.out.bw; have HP4 := hide (HP2.out.step hb4); have HL4 := hide (HL2.out.trans (hb4.mono HP2.out.bw)); have HRB := hide hrb; have c9 := mb14 HP4.out.box; have f9 := Blk.frozen HP4.out.box 14; clear hcu2 hon2 hrb hb4)
  first | refine bodyPost_end (results_none rfl _ _ _) rfl ?_ | refine bodyPost_ret (results_none rfl _ _ _) rfl ?_
  obtain ⟨h1, h2⟩ := HP4.out.set 14 (.slice (some ⟨w2.heap.size, 0, none⟩) Y.length c4) (set_bd m _ _ _ Y) ⟨HP4.out.t.mem, HP4.out.t.tr, HRB.out, HP4.out.t.hm, HP4.out.t.ht, by have := HYL.out; simp only; omega⟩
  refine ⟨{ m with Ab := some ⟨w2.heap.size, 0, none⟩, nb := Y.length, cb := c4, bd := Y }, rfl, ?_, h1, HL4.out.trans h2⟩
  rw [HY.out]
  rfl

set_option maxRecDepth 100000 in
set_option maxHeartbeats 8000000 in
theorem part_id (nm s : ByteArray) (m : Mk) (b p c k : Nat) (bad : Bool) (w : World) (h : PC w b p c m s k bad) (hk : k ≤ s.size) (hs : s.size ≤ 130000000) (hz : m.nm ≤ 140000000) (hzt : m.nt ≤ 140000000) (hn : nm.data.toList = [105, 100]) :
    Calls Tryd.prog 47 #[.pointer (some ⟨c, 0, none⟩), .pointer (some ⟨p, 0, none⟩), .string nm] w fun e w' => PartR (pId s.data.toList m.pm k bad) b p c s w e w' := by
  have hs' : s.size ≤ 1000000000000 := by omega
  have HP := hide h
  have hnl : nm.toList = [105, 100] := by rw [ByteArray.toList_eq]; exact hn
  have kl : k ≤ s.data.toList.length := by rw [str_len]; exact hk
  have HNU := hide (numbers_any 4 s k c bad w h.cu hk hs' (by omega) (by omega))
  obtain ⟨R, hR⟩ : ∃ R, R = numsA s.data.toList 4 k bad := ⟨_, rfl⟩
  have hlen := numsA_len s.data.toList (show 1 ≤ 4 by omega) k bad
  rw [← hR] at hlen
  have HNU2 : Hid (Calls Tryd.prog 59 #[.pointer (some ⟨c, 0, none⟩), .int .i64 4] w fun e w' => ∃ g cap, e = .returned (.slice (some ⟨g, 0, none⟩) 4 cap) ∧ w'.ownsRow w.heap.size 3 1 (.slice (some ⟨g, 0, none⟩) 4 cap) 4 (ints R.1) ∧ Cu w' c s R.2.1 R.2.2 ∧ Only (fun q => q = c) w w') := by
    refine HNU.out.mono ?_
    rintro e w' ⟨A, cap, h1, h2, h3, h4⟩
    rw [← hR] at h2 h3
    obtain ⟨g4, cap4, hv, _, _⟩ := h2.form (by omega)
    injection hv with e1 e2 e3
    subst e1 e3
    exact ⟨g4, cap, h1, h2, h3, h4⟩
  have HRR := hide hR
  have HRES : Hid (pId s.data.toList m.pm k bad = ({ m.pm with ep := nth R.1 0, ld := nth R.1 1, ii := nth R.1 2, ci := nth R.1 3 }, R.2)) := by
    show _ = _
    unfold pId
    rw [← hR]
  clear HNU hR h hn hlen
  go_enter Tryd.func47, Tryd.ntmps47
  go_upto_region 4 with (go_at_call 59; refine HNU2.out.mono ?_; rintro e w2 ⟨g, cap, rfl, ho2, hcu2, hon2⟩; have HP2 := hide (HP.out.cur hcu2 hon2); have HL2 := hide (HP.out.lowc hon2); have HO2 := hide ho2; clear hcu2 hon2 ho2)
  obtain ⟨x0, hx0⟩ : ∃ x, x = nth R.1 0 := ⟨_, rfl⟩
  obtain ⟨x1, hx1⟩ : ∃ x, x = nth R.1 1 := ⟨_, rfl⟩
  obtain ⟨x2, hx2⟩ : ∃ x, x = nth R.1 2 := ⟨_, rfl⟩
  obtain ⟨x3, hx3⟩ : ∃ x, x = nth R.1 3 := ⟨_, rfl⟩
  have HK : Hid (∀ V : World, V.ownsRow w.heap.size 3 1 (.slice (some ⟨g, 0, none⟩) 4 cap) 4 (ints R.1) → V.cell? ⟨g, 0, none⟩ = some (.int .i64 x0) ∧ V.cell? ⟨g, 1, none⟩ = some (.int .i64 x1) ∧ V.cell? ⟨g, 2, none⟩ = some (.int .i64 x2) ∧ V.cell? ⟨g, 3, none⟩ = some (.int .i64 x3)) := fun V hV => by
    rw [hx0, hx1, hx2, hx3]
    exact ⟨own_int hV (by omega), own_int hV (by omega), own_int hV (by omega), own_int hV (by omega)⟩
  have HXX : Hid (x0 = nth R.1 0 ∧ x1 = nth R.1 1 ∧ x2 = nth R.1 2 ∧ x3 = nth R.1 3) := ⟨hx0, hx1, hx2, hx3⟩
  clear hx0 hx1 hx2 hx3
  have HX : Hid (Blk w2.drew p 48 m.cs ∧ w2.drew.ownsRow w.heap.size 3 1 (.slice (some ⟨g, 0, none⟩) 4 cap) 4 (ints R.1)) := ⟨HP2.out.box.drew, own_drewN HO2.out 1⟩
  refine wp_region_L [14, 15, 16] (fun V => Blk V p 48 m.cs ∧ V.ownsRow w.heap.size 3 1 (.slice (some ⟨g, 0, none⟩) 4 cap) 4 (ints R.1)) (by kernel_rfl) ?_
  refine wpL_take 0 (oi := ⟨some 21, _, _, _, _, _⟩) (v := ?_) rfl (by kernel_rfl) (by kernel_rfl) (by kernel_rfl) (by kernel_rfl) (fun _ _ _ h => h) (Or.inl ⟨by rfl, ?_⟩) HX.out ?_
  rotate_left
  · intro V hV
    go_simp
    try with_reducible rfl
  try simp only [Act.put, List.setIfInBounds_toArray, List.set_cons_zero, List.set_cons_succ]
  refine wpL_take 1 (oi := ⟨some 22, _, _, _, _, _⟩) (v := ?_) rfl (by kernel_rfl) (by kernel_rfl) (by kernel_rfl) (by kernel_rfl) (fun _ _ _ h => h) (Or.inl ⟨by rfl, ?_⟩) HX.out ?_
  rotate_left
  · intro V hV
    go_simp
    try with_reducible rfl
  try simp only [Act.put, List.setIfInBounds_toArray, List.set_cons_zero, List.set_cons_succ]
  refine wpL_take 2 (oi := ⟨some 23, _, _, _, _, _⟩) (v := ?_) rfl (by kernel_rfl) (by kernel_rfl) (by kernel_rfl) (by kernel_rfl) (fun _ _ _ h => h) (Or.inl ⟨by rfl, ?_⟩) HX.out ?_
  rotate_left
  · intro V hV
    go_simp
    try with_reducible rfl
  try simp only [Act.put, List.setIfInBounds_toArray, List.set_cons_zero, List.set_cons_succ]
  refine wpL_take 3 (oi := ⟨some 24, _, _, _, _, _⟩) (v := ?_) rfl (by kernel_rfl) (by kernel_rfl) (by kernel_rfl) (by kernel_rfl) (fun _ _ _ h => h) (Or.inl ⟨by rfl, ?_⟩) HX.out ?_
  rotate_left
  · intro V hV
    have k0 := (HK.out V hV.2).1
    go_simp
    try with_reducible rfl
  try simp only [Act.put, List.setIfInBounds_toArray, List.set_cons_zero, List.set_cons_succ]
  refine wpL_take 4 (oi := ⟨some 25, _, _, _, _, _⟩) (v := ?_) rfl (by kernel_rfl) (by kernel_rfl) (by kernel_rfl) (by kernel_rfl) (fun _ _ _ h => h) (Or.inl ⟨by rfl, ?_⟩) HX.out ?_
  rotate_left
  · intro V hV
    go_simp
    try with_reducible rfl
  try simp only [Act.put, List.setIfInBounds_toArray, List.set_cons_zero, List.set_cons_succ]
  refine wpL_take 5 (oi := ⟨some 26, _, _, _, _, _⟩) (v := ?_) rfl (by kernel_rfl) (by kernel_rfl) (by kernel_rfl) (by kernel_rfl) (fun _ _ _ h => h) (Or.inl ⟨by rfl, ?_⟩) HX.out ?_
  rotate_left
  · intro V hV
    go_simp
    try with_reducible rfl
  try simp only [Act.put, List.setIfInBounds_toArray, List.set_cons_zero, List.set_cons_succ]
  refine wpL_take 6 (oi := ⟨some 27, _, _, _, _, _⟩) (v := ?_) rfl (by kernel_rfl) (by kernel_rfl) (by kernel_rfl) (by kernel_rfl) (fun _ _ _ h => h) (Or.inl ⟨by rfl, ?_⟩) HX.out ?_
  rotate_left
  · intro V hV
    have k1 := (HK.out V hV.2).2.1
    go_simp
    try with_reducible rfl
  try simp only [Act.put, List.setIfInBounds_toArray, List.set_cons_zero, List.set_cons_succ]
  refine wpL_take 7 (oi := ⟨some 28, _, _, _, _, _⟩) (v := ?_) rfl (by kernel_rfl) (by kernel_rfl) (by kernel_rfl) (by kernel_rfl) (fun _ _ _ h => h) (Or.inl ⟨by rfl, ?_⟩) HX.out ?_
  rotate_left
  · intro V hV
    go_simp
    try with_reducible rfl
  try simp only [Act.put, List.setIfInBounds_toArray, List.set_cons_zero, List.set_cons_succ]
  refine wpL_take 8 (oi := ⟨some 29, _, _, _, _, _⟩) (v := ?_) rfl (by kernel_rfl) (by kernel_rfl) (by kernel_rfl) (by kernel_rfl) (fun _ _ _ h => h) (Or.inl ⟨by rfl, ?_⟩) HX.out ?_
  rotate_left
  · intro V hV
    go_simp
    try with_reducible rfl
  try simp only [Act.put, List.setIfInBounds_toArray, List.set_cons_zero, List.set_cons_succ]
  refine wpL_take 9 (oi := ⟨some 30, _, _, _, _, _⟩) (v := ?_) rfl (by kernel_rfl) (by kernel_rfl) (by kernel_rfl) (by kernel_rfl) (fun _ _ _ h => h) (Or.inl ⟨by rfl, ?_⟩) HX.out ?_
  rotate_left
  · intro V hV
    have k2 := (HK.out V hV.2).2.2.1
    go_simp
    try with_reducible rfl
  try simp only [Act.put, List.setIfInBounds_toArray, List.set_cons_zero, List.set_cons_succ]
  refine wpL_take 10 (oi := ⟨some 31, _, _, _, _, _⟩) (v := ?_) rfl (by kernel_rfl) (by kernel_rfl) (by kernel_rfl) (by kernel_rfl) (fun _ _ _ h => h) (Or.inl ⟨by rfl, ?_⟩) HX.out ?_
  rotate_left
  · intro V hV
    go_simp
    try with_reducible rfl
  try simp only [Act.put, List.setIfInBounds_toArray, List.set_cons_zero, List.set_cons_succ]
  refine wpL_take 11 (oi := ⟨some 32, _, _, _, _, _⟩) (v := ?_) rfl (by kernel_rfl) (by kernel_rfl) (by kernel_rfl) (by kernel_rfl) (fun _ _ _ h => h) (Or.inl ⟨by rfl, ?_⟩) HX.out ?_
  rotate_left
  · intro V hV
    go_simp
    try with_reducible rfl
  try simp only [Act.put, List.setIfInBounds_toArray, List.set_cons_zero, List.set_cons_succ]
  refine wpL_take 12 (oi := ⟨some 33, _, _, _, _, _⟩) (v := ?_) rfl (by kernel_rfl) (by kernel_rfl) (by kernel_rfl) (by kernel_rfl) (fun _ _ _ h => h) (Or.inl ⟨by rfl, ?_⟩) HX.out ?_
  rotate_left
  · intro V hV
    have k3 := (HK.out V hV.2).2.2.2
    go_simp
    try with_reducible rfl
  try simp only [Act.put, List.setIfInBounds_toArray, List.set_cons_zero, List.set_cons_succ]
  refine wpL_take 13 (oi := ⟨some 34, _, _, _, _, _⟩) (v := ?_) rfl (by kernel_rfl) (by kernel_rfl) (by kernel_rfl) (by kernel_rfl) (fun _ _ _ h => h) (Or.inl ⟨by rfl, ?_⟩) HX.out ?_
  rotate_left
  · intro V hV
    go_simp
    try with_reducible rfl
  try simp only [Act.put, List.setIfInBounds_toArray, List.set_cons_zero, List.set_cons_succ]
  refine wpL_takeU 14 (oi := ⟨some 35, _, _, _, _, _⟩) (v := ?_) rfl (by kernel_rfl) (by kernel_rfl) (by kernel_rfl) (by kernel_rfl) (fun _ _ _ h => h) (Or.inl ⟨by rfl, ?_⟩) ?_
  rotate_left
  · intro V hV
    go_simp
    try with_reducible rfl
  try simp only [Act.put, List.setIfInBounds_toArray, List.set_cons_zero, List.set_cons_succ]
  refine wpL_takeU 15 (oi := ⟨some 36, _, _, _, _, _⟩) (v := ?_) rfl (by kernel_rfl) (by kernel_rfl) (by kernel_rfl) (by kernel_rfl) (fun _ _ _ h => h) (Or.inl ⟨by rfl, ?_⟩) ?_
  rotate_left
  · intro V hV
    go_simp
    try with_reducible rfl
  try simp only [Act.put, List.setIfInBounds_toArray, List.set_cons_zero, List.set_cons_succ]
  obtain ⟨m', hm'⟩ : ∃ m' : Mk, m' = { m with ep := x0, ld := x1, ii := x2, ci := x3 } := ⟨_, rfl⟩
  refine wpL_one 16 (by kernel_rfl) rfl (fun K hK => one_skip (by rfl) (run_put_at 39 (.tmp 36) (.tmp 34) rfl p 4 _ rfl rfl 48 m.cs HX.out.1 (by kernel_rfl) (by rw [mk_size]; simp) (by simp [Value.oneCell']) m'.cs (by rw [hm']; exact put_id m _ _ _ _)) (hK _ _ (fun h => by cases h) ?_))
  clear hK K
  try simp only [Act.put, List.setIfInBounds_toArray, List.set_cons_zero, List.set_cons_succ]
  refine wpL_done (by kernel_rfl) ?_ _
  have HM := hide hm'
  have HP8 : Hid (PC (w2.drew.setRow p m'.cs) b p c m' s R.2.1 R.2.2 ∧ Below b w2.drew (w2.drew.setRow p m'.cs)) := HP2.out.drew.put (by rw [hm']; exact ⟨HP2.out.drew.t.mem, HP2.out.drew.t.tr, HP2.out.drew.t.body, HP2.out.t.hm, HP2.out.t.ht, HP2.out.t.hb⟩)
  have HL8 : Hid (Below b w (w2.drew.setRow p m'.cs)) := (below_drewN HL2.out 1).trans HP8.out.2
  clear hm'
  go_wp2_with fail
  first | refine bodyPost_end (results_none rfl _ _ _) rfl ?_ | refine bodyPost_ret (results_none rfl _ _ _) rfl ?_
  rw [HRES.out]
  refine ⟨m', rfl, ?_, HP8.out.1, HL8.out⟩
  obtain ⟨e0, e1, e2, e3⟩ := HXX.out
  rw [HM.out, e0, e1, e2, e3]
  rfl

set_option maxRecDepth 100000 in
set_option maxHeartbeats 8000000 in
theorem part_no (nm s : ByteArray) (m : Mk) (b p c k : Nat) (bad : Bool) (w : World) (h : PC w b p c m s k bad) (h0 : ¬ nm.data.toList = [105, 100]) (h1 : ¬ nm.data.toList = [109, 101, 109, 98, 101, 114, 115]) (h2 : ¬ nm.data.toList = [116, 114, 97, 110, 115]) (h3 : ¬ nm.data.toList = [115, 101, 110, 100, 101, 114]) (h4 : ¬ nm.data.toList = [115, 101, 113]) (h5 : ¬ nm.data.toList = [112, 111, 115]) (h6 : ¬ nm.data.toList = [110]) (h7 : ¬ nm.data.toList = [98, 111, 100, 121]) (h8 : ¬ nm.data.toList = [99, 109, 100]) (h9 : ¬ nm.data.toList = [114, 101, 115, 117, 108, 116]) (h10 : ¬ nm.data.toList = [101, 114, 114]) :
    Calls Tryd.prog 47 #[.pointer (some ⟨c, 0, none⟩), .pointer (some ⟨p, 0, none⟩), .string nm] w fun e w' => PartR (m.pm, k, true) b p c s w e w' := by
  have HP := hide h
  have e0 := name_nb h0
  have f0 := name_no h0
  have e1 := name_nb h1
  have f1 := name_no h1
  have e2 := name_nb h2
  have f2 := name_no h2
  have e3 := name_nb h3
  have f3 := name_no h3
  have e4 := name_nb h4
  have f4 := name_no h4
  have e5 := name_nb h5
  have f5 := name_no h5
  have e6 := name_nb h6
  have f6 := name_no h6
  have e7 := name_nb h7
  have f7 := name_no h7
  have e8 := name_nb h8
  have f8 := name_no h8
  have e9 := name_nb h9
  have f9 := name_no h9
  have e10 := name_nb h10
  have f10 := name_no h10
  clear h0 h1 h2 h3 h4 h5 h6 h7 h8 h9 h10
  have c9 := cu2 h.cu
  have f9 := Blk.frozen (t := 84) h.cu 2
  clear h
  go_enter Tryd.func47, Tryd.ntmps47
  go_wp2_with fail
  first | refine bodyPost_end (results_none rfl _ _ _) rfl ?_ | refine bodyPost_ret (results_none rfl _ _ _) rfl ?_
  refine ⟨m, rfl, rfl, HP.out.cur (Cu.bad0 HP.out.cu true) (only_setCell0 _ _ _ _), HP.out.lowc (only_setCell0 _ _ _ _)⟩

set_option maxRecDepth 100000 in
set_option maxHeartbeats 8000000 in
theorem part_res (nm s : ByteArray) (m : Mk) (b p c k : Nat) (bad : Bool) (w : World) (h : PC w b p c m s k bad) (hk : k ≤ s.size) (hs : s.size ≤ 130000000) (hz : m.nm ≤ 140000000) (hzt : m.nt ≤ 140000000) (hn : nm.data.toList = [114, 101, 115, 117, 108, 116]) :
    Calls Tryd.prog 47 #[.pointer (some ⟨c, 0, none⟩), .pointer (some ⟨p, 0, none⟩), .string nm] w fun e w' => PartR (pRes s.data.toList m.pm k bad) b p c s w e w' := by
  have hs' : s.size ≤ 1000000000000 := by omega
  have HP := hide h
  have hnl : nm.toList = [114, 101, 115, 117, 108, 116] := by rw [ByteArray.toList_eq]; exact hn
  have kl : k ≤ s.data.toList.length := by rw [str_len]; exact hk
  have HNU := hide (number_st s k c bad w h.cu hk hs')
  obtain ⟨k1, hk1⟩ : ∃ k1, k1 = nK s.data.toList k := ⟨_, rfl⟩
  obtain ⟨b1, hb1⟩ : ∃ b1, b1 = nB s.data.toList k bad := ⟨_, rfl⟩
  obtain ⟨Y, hY⟩ : ∃ Y, Y = nV s.data.toList k := ⟨_, rfl⟩
  rw [← hY, ← hk1, ← hb1] at HNU
  have l1 : k1 ≤ s.size := by rw [hk1]; exact nK_le hk
  obtain ⟨k2, hk2⟩ : ∃ k2, k2 = sK [47] s.data.toList k1 := ⟨_, rfl⟩
  obtain ⟨b2, hb2⟩ : ∃ b2, b2 = sB [47] s.data.toList k1 b1 := ⟨_, rfl⟩
  have l2 : k2 ≤ s.size := by rw [hk2]; exact sK_le _ l1
  obtain ⟨k3, hk3⟩ : ∃ k3, k3 = strK s.data.toList k2 := ⟨_, rfl⟩
  obtain ⟨b3, hb3⟩ : ∃ b3, b3 = (b2 || !strOk s.data.toList k2) := ⟨_, rfl⟩
  obtain ⟨T, hT⟩ : ∃ T, T = strT s.data.toList k2 := ⟨_, rfl⟩
  have l3 : k3 ≤ s.size := by
    rw [hk3]
    have := strK_le s.data.toList k2 (by rw [str_len]; exact l2)
    rw [str_len] at this
    exact this
  obtain ⟨k4, hk4⟩ : ∃ k4, k4 = sK [47] s.data.toList k3 := ⟨_, rfl⟩
  obtain ⟨b4, hb4⟩ : ∃ b4, b4 = sB [47] s.data.toList k3 b3 := ⟨_, rfl⟩
  have l4 : k4 ≤ s.size := by rw [hk4]; exact sK_le _ l3
  obtain ⟨Z, hZ⟩ : ∃ Z, Z = sgnV (s.data.toList.drop k4) := ⟨_, rfl⟩
  have HS1 : Hid (∀ W, Cu W c s k1 b1 → Calls Tryd.prog 45 #[.pointer (some ⟨c, 0, none⟩), .string (S [47])] W fun e w' => e = .returned (.tuple #[]) ∧ Cu w' c s k2 b2 ∧ Only (fun q => q = c) W w') := fun W hW => by rw [hk2, hb2]; exact skip_st [47] s k1 c b1 W hW l1 hs' (by simp)
  have HS2 : Hid (∀ W, Cu W c s k2 b2 → Calls Tryd.prog 61 #[.pointer (some ⟨c, 0, none⟩)] W fun e w' => e = .returned (.string (S T)) ∧ Cu w' c s k3 b3 ∧ Only (fun q => q = c) W w') := fun W hW => by rw [hk3, hb3, hT]; exact str_st s k2 c b2 W hW l2 hs'
  have HS3 : Hid (∀ W, Cu W c s k3 b3 → Calls Tryd.prog 45 #[.pointer (some ⟨c, 0, none⟩), .string (S [47])] W fun e w' => e = .returned (.tuple #[]) ∧ Cu w' c s k4 b4 ∧ Only (fun q => q = c) W w') := fun W hW => by rw [hk4, hb4]; exact skip_st [47] s k3 c b3 W hW l3 hs' (by simp)
  have HS4 : Hid (∀ W, Cu W c s k4 b4 → Calls Tryd.prog 62 #[.pointer (some ⟨c, 0, none⟩)] W fun e w' => e = .returned (.int .i64 Z) ∧ Cu w' c s (gK s.data.toList k4) (gB s.data.toList k4 b4) ∧ Only (fun q => q = c) W w') := fun W hW => by rw [hZ]; exact signed_cur s k4 c b4 W hW l4 hs'
  have HRES : Hid (pRes s.data.toList m.pm k bad = (({ m with co := Y, rv := S T, rn := Z } : Mk).pm, gK s.data.toList k4, gB s.data.toList k4 b4)) := by
    show _ = _
    rw [hZ, hb4, hk4, hT, hb3, hk3, hb2, hk2, hY, hb1, hk1]
    rfl
  clear hY hk1 hb1 hk2 hb2 hk3 hb3 hT hk4 hb4 hZ h hn
  go_enter Tryd.func47, Tryd.ntmps47
  go_upto_region 41 with (go_at_call 44; refine HNU.out.mono ?_; rintro e w2 ⟨rfl, hcu2, hon2⟩; have HP2 := hide (HP.out.cur hcu2 hon2); have HL2 := hide (HP.out.lowc hon2); have c22 := mb22 HP2.out.box; have f22 := Blk.frozen HP2.out.box 22; clear hcu2 hon2)
  generalize hw3 : World.setCell _ _ _ = w3
  have HP3 : Hid (PC w3 b p c { m with co := Y } s k1 b1 ∧ Below b w2 w3) := by
    show _ ∧ _
    rw [← hw3]
    exact HP2.out.set 22 (.int .i64 Y) (set_co m Y) ⟨HP2.out.t.mem, HP2.out.t.tr, HP2.out.t.body, HP2.out.t.hm, HP2.out.t.ht, HP2.out.t.hb⟩
  clear hw3 c22 f22
  go_upto_region 42 with (go_at_call 45; refine (HS1.out _ HP3.out.1.cu).mono ?_; rintro e w4 ⟨rfl, hcu4, hon4⟩; have HP4 := hide (HP3.out.1.cur hcu4 hon4); have HL4 := hide (HL2.out.trans (HP3.out.2.trans (HP3.out.1.lowc hon4))); clear hcu4 hon4)
  go_upto_region 43 with (go_at_call 61; refine (HS2.out _ HP4.out.cu).mono ?_; rintro e w5 ⟨rfl, hcu5, hon5⟩; have HP5 := hide (HP4.out.cur hcu5 hon5); have HL5 := hide (HL4.out.trans (HP4.out.lowc hon5)); have c23 := mb23 HP5.out.box; have f23 := Blk.frozen HP5.out.box 23; clear hcu5 hon5)
  generalize hw6 : World.setCell _ _ _ = w6
  have HP6 : Hid (PC w6 b p c { m with co := Y, rv := S T } s k3 b3 ∧ Below b w5 w6) := by
    show _ ∧ _
    rw [← hw6]
    exact HP5.out.set 23 (.string (S T)) (set_rv _ _) ⟨HP5.out.t.mem, HP5.out.t.tr, HP5.out.t.body, HP5.out.t.hm, HP5.out.t.ht, HP5.out.t.hb⟩
  clear hw6 c23 f23
  go_upto_region 44 with (go_at_call 45; refine (HS3.out _ HP6.out.1.cu).mono ?_; rintro e w7 ⟨rfl, hcu7, hon7⟩; have HP7 := hide (HP6.out.1.cur hcu7 hon7); have HL7 := hide (HL5.out.trans (HP6.out.2.trans (HP6.out.1.lowc hon7))); clear hcu7 hon7)
  go_wp2_with (go_at_call 62; refine (HS4.out _ HP7.out.cu).mono ?_; rintro e w8 ⟨rfl, hcu8, hon8⟩; have HP8 := hide (HP7.out.cur hcu8 hon8); have HL8 := hide (HL7.out.trans (HP7.out.lowc hon8)); have c24 := mb24 HP8.out.box; have f24 := Blk.frozen HP8.out.box 24; clear hcu8 hon8)
  first | refine bodyPost_end (results_none rfl _ _ _) rfl ?_ | refine bodyPost_ret (results_none rfl _ _ _) rfl ?_
  obtain ⟨h1, h2⟩ := HP8.out.set 24 (.int .i64 Z) (set_rn _ Z) ⟨HP8.out.t.mem, HP8.out.t.tr, HP8.out.t.body, HP8.out.t.hm, HP8.out.t.ht, HP8.out.t.hb⟩
  refine ⟨{ m with co := Y, rv := S T, rn := Z }, rfl, ?_, ?_, HL8.out.trans h2⟩
  · rw [HRES.out]
  · rw [HRES.out]
    exact h1

set_option maxRecDepth 100000 in
set_option maxHeartbeats 16000000 in
theorem part_cmd (nm s : ByteArray) (m : Mk) (b p c k : Nat) (bad : Bool) (w : World) (h : PC w b p c m s k bad) (hk : k ≤ s.size) (hs : s.size ≤ 130000000) (hz : m.nm ≤ 140000000) (hzt : m.nt ≤ 140000000) (hn : nm.data.toList = [99, 109, 100]) :
    Calls Tryd.prog 47 #[.pointer (some ⟨c, 0, none⟩), .pointer (some ⟨p, 0, none⟩), .string nm] w fun e w' => PartR (pCmd s.data.toList m.pm k bad) b p c s w e w' := by
  have hs' : s.size ≤ 1000000000000 := by omega
  have HP := hide h
  have hnl : nm.toList = [99, 109, 100] := by rw [ByteArray.toList_eq]; exact hn
  have kl : k ≤ s.data.toList.length := by rw [str_len]; exact hk
  have HNU := hide (numbers_any 4 s k c bad w h.cu hk hs' (by omega) (by omega))
  obtain ⟨R, hR⟩ : ∃ R, R = numsA s.data.toList 4 k bad := ⟨_, rfl⟩
  have hlen := numsA_len s.data.toList (show 1 ≤ 4 by omega) k bad
  rw [← hR] at hlen
  have HNU2 : Hid (Calls Tryd.prog 59 #[.pointer (some ⟨c, 0, none⟩), .int .i64 4] w fun e w' => ∃ g cap, e = .returned (.slice (some ⟨g, 0, none⟩) 4 cap) ∧ w'.ownsRow w.heap.size 3 1 (.slice (some ⟨g, 0, none⟩) 4 cap) 4 (ints R.1) ∧ Cu w' c s R.2.1 R.2.2 ∧ Only (fun q => q = c) w w') := by
    refine HNU.out.mono ?_
    rintro e w' ⟨A, cap, h1, h2, h3, h4⟩
    rw [← hR] at h2 h3
    obtain ⟨g4, cap4, hv, _, _⟩ := h2.form (by omega)
    injection hv with e1 e2 e3
    subst e1 e3
    exact ⟨g4, cap, h1, h2, h3, h4⟩
  have HRR := hide hR
  have HRES : Hid (pCmd s.data.toList m.pm k bad = ({ m.pm with cl := nth R.1 0, cn := nth R.1 1, rq := nth R.1 2, op := nth R.1 3, key := ssT s.data.toList R.2.1, val := ssT s.data.toList (cK s.data.toList R.2.1 1), old := ssT s.data.toList (cK s.data.toList R.2.1 2) }, cK s.data.toList R.2.1 3, cB s.data.toList R.2.1 R.2.2 3)) := by
    show _ = _
    unfold pCmd
    rw [← hR]
    rfl
  have HKL : Hid (R.2.1 ≤ s.size) := by
    show _ ≤ _
    rw [hR]
    have := numsA_le s.data.toList 4 k bad kl
    rw [str_len] at this
    exact this
  clear HNU hR h hn hlen
  go_enter Tryd.func47, Tryd.ntmps47
  go_upto_region 32 with (go_at_call 59; refine HNU2.out.mono ?_; rintro e w2 ⟨g, cap, rfl, ho2, hcu2, hon2⟩; have HP2 := hide (HP.out.cur hcu2 hon2); have HL2 := hide (HP.out.lowc hon2); have HO2 := hide ho2; clear hcu2 hon2 ho2)
  obtain ⟨x0, hx0⟩ : ∃ x, x = nth R.1 0 := ⟨_, rfl⟩
  obtain ⟨x1, hx1⟩ : ∃ x, x = nth R.1 1 := ⟨_, rfl⟩
  obtain ⟨x2, hx2⟩ : ∃ x, x = nth R.1 2 := ⟨_, rfl⟩
  obtain ⟨x3, hx3⟩ : ∃ x, x = nth R.1 3 := ⟨_, rfl⟩
  have HK : Hid (∀ V : World, V.ownsRow w.heap.size 3 1 (.slice (some ⟨g, 0, none⟩) 4 cap) 4 (ints R.1) → V.cell? ⟨g, 0, none⟩ = some (.int .i64 x0) ∧ V.cell? ⟨g, 1, none⟩ = some (.int .i64 x1) ∧ V.cell? ⟨g, 2, none⟩ = some (.int .i64 x2) ∧ V.cell? ⟨g, 3, none⟩ = some (.int .i64 x3)) := fun V hV => by
    rw [hx0, hx1, hx2, hx3]
    exact ⟨own_int hV (by omega), own_int hV (by omega), own_int hV (by omega), own_int hV (by omega)⟩
  have HXX : Hid (x0 = nth R.1 0 ∧ x1 = nth R.1 1 ∧ x2 = nth R.1 2 ∧ x3 = nth R.1 3) := ⟨hx0, hx1, hx2, hx3⟩
  clear hx0 hx1 hx2 hx3
  have HX : Hid (Blk w2.drew p 48 m.cs ∧ w2.drew.ownsRow w.heap.size 3 1 (.slice (some ⟨g, 0, none⟩) 4 cap) 4 (ints R.1)) := ⟨HP2.out.box.drew, own_drewN HO2.out 1⟩
  refine wp_region_L [14, 15, 16] (fun V => Blk V p 48 m.cs ∧ V.ownsRow w.heap.size 3 1 (.slice (some ⟨g, 0, none⟩) 4 cap) 4 (ints R.1)) (by kernel_rfl) ?_
  refine wpL_take 0 (oi := ⟨some 149, _, _, _, _, _⟩) (v := ?_) rfl (by kernel_rfl) (by kernel_rfl) (by kernel_rfl) (by kernel_rfl) (fun _ _ _ h => h) (Or.inl ⟨by rfl, ?_⟩) HX.out ?_
  rotate_left
  · intro V hV
    go_simp
    try with_reducible rfl
  try simp only [Act.put, List.setIfInBounds_toArray, List.set_cons_zero, List.set_cons_succ]
  refine wpL_take 1 (oi := ⟨some 150, _, _, _, _, _⟩) (v := ?_) rfl (by kernel_rfl) (by kernel_rfl) (by kernel_rfl) (by kernel_rfl) (fun _ _ _ h => h) (Or.inl ⟨by rfl, ?_⟩) HX.out ?_
  rotate_left
  · intro V hV
    go_simp
    try with_reducible rfl
  try simp only [Act.put, List.setIfInBounds_toArray, List.set_cons_zero, List.set_cons_succ]
  refine wpL_take 2 (oi := ⟨some 151, _, _, _, _, _⟩) (v := ?_) rfl (by kernel_rfl) (by kernel_rfl) (by kernel_rfl) (by kernel_rfl) (fun _ _ _ h => h) (Or.inl ⟨by rfl, ?_⟩) HX.out ?_
  rotate_left
  · intro V hV
    go_simp
    try with_reducible rfl
  try simp only [Act.put, List.setIfInBounds_toArray, List.set_cons_zero, List.set_cons_succ]
  refine wpL_take 3 (oi := ⟨some 152, _, _, _, _, _⟩) (v := ?_) rfl (by kernel_rfl) (by kernel_rfl) (by kernel_rfl) (by kernel_rfl) (fun _ _ _ h => h) (Or.inl ⟨by rfl, ?_⟩) HX.out ?_
  rotate_left
  · intro V hV
    have k0 := (HK.out V hV.2).1
    go_simp
    try with_reducible rfl
  try simp only [Act.put, List.setIfInBounds_toArray, List.set_cons_zero, List.set_cons_succ]
  refine wpL_take 4 (oi := ⟨some 153, _, _, _, _, _⟩) (v := ?_) rfl (by kernel_rfl) (by kernel_rfl) (by kernel_rfl) (by kernel_rfl) (fun _ _ _ h => h) (Or.inl ⟨by rfl, ?_⟩) HX.out ?_
  rotate_left
  · intro V hV
    go_simp
    try with_reducible rfl
  try simp only [Act.put, List.setIfInBounds_toArray, List.set_cons_zero, List.set_cons_succ]
  refine wpL_take 5 (oi := ⟨some 154, _, _, _, _, _⟩) (v := ?_) rfl (by kernel_rfl) (by kernel_rfl) (by kernel_rfl) (by kernel_rfl) (fun _ _ _ h => h) (Or.inl ⟨by rfl, ?_⟩) HX.out ?_
  rotate_left
  · intro V hV
    go_simp
    try with_reducible rfl
  try simp only [Act.put, List.setIfInBounds_toArray, List.set_cons_zero, List.set_cons_succ]
  refine wpL_take 6 (oi := ⟨some 155, _, _, _, _, _⟩) (v := ?_) rfl (by kernel_rfl) (by kernel_rfl) (by kernel_rfl) (by kernel_rfl) (fun _ _ _ h => h) (Or.inl ⟨by rfl, ?_⟩) HX.out ?_
  rotate_left
  · intro V hV
    have k1 := (HK.out V hV.2).2.1
    go_simp
    try with_reducible rfl
  try simp only [Act.put, List.setIfInBounds_toArray, List.set_cons_zero, List.set_cons_succ]
  refine wpL_take 7 (oi := ⟨some 156, _, _, _, _, _⟩) (v := ?_) rfl (by kernel_rfl) (by kernel_rfl) (by kernel_rfl) (by kernel_rfl) (fun _ _ _ h => h) (Or.inl ⟨by rfl, ?_⟩) HX.out ?_
  rotate_left
  · intro V hV
    go_simp
    try with_reducible rfl
  try simp only [Act.put, List.setIfInBounds_toArray, List.set_cons_zero, List.set_cons_succ]
  refine wpL_take 8 (oi := ⟨some 157, _, _, _, _, _⟩) (v := ?_) rfl (by kernel_rfl) (by kernel_rfl) (by kernel_rfl) (by kernel_rfl) (fun _ _ _ h => h) (Or.inl ⟨by rfl, ?_⟩) HX.out ?_
  rotate_left
  · intro V hV
    go_simp
    try with_reducible rfl
  try simp only [Act.put, List.setIfInBounds_toArray, List.set_cons_zero, List.set_cons_succ]
  refine wpL_take 9 (oi := ⟨some 158, _, _, _, _, _⟩) (v := ?_) rfl (by kernel_rfl) (by kernel_rfl) (by kernel_rfl) (by kernel_rfl) (fun _ _ _ h => h) (Or.inl ⟨by rfl, ?_⟩) HX.out ?_
  rotate_left
  · intro V hV
    have k2 := (HK.out V hV.2).2.2.1
    go_simp
    try with_reducible rfl
  try simp only [Act.put, List.setIfInBounds_toArray, List.set_cons_zero, List.set_cons_succ]
  refine wpL_take 10 (oi := ⟨some 159, _, _, _, _, _⟩) (v := ?_) rfl (by kernel_rfl) (by kernel_rfl) (by kernel_rfl) (by kernel_rfl) (fun _ _ _ h => h) (Or.inl ⟨by rfl, ?_⟩) HX.out ?_
  rotate_left
  · intro V hV
    go_simp
    try with_reducible rfl
  try simp only [Act.put, List.setIfInBounds_toArray, List.set_cons_zero, List.set_cons_succ]
  refine wpL_take 11 (oi := ⟨some 160, _, _, _, _, _⟩) (v := ?_) rfl (by kernel_rfl) (by kernel_rfl) (by kernel_rfl) (by kernel_rfl) (fun _ _ _ h => h) (Or.inl ⟨by rfl, ?_⟩) HX.out ?_
  rotate_left
  · intro V hV
    go_simp
    try with_reducible rfl
  try simp only [Act.put, List.setIfInBounds_toArray, List.set_cons_zero, List.set_cons_succ]
  refine wpL_take 12 (oi := ⟨some 161, _, _, _, _, _⟩) (v := ?_) rfl (by kernel_rfl) (by kernel_rfl) (by kernel_rfl) (by kernel_rfl) (fun _ _ _ h => h) (Or.inl ⟨by rfl, ?_⟩) HX.out ?_
  rotate_left
  · intro V hV
    have k3 := (HK.out V hV.2).2.2.2
    go_simp
    try with_reducible rfl
  try simp only [Act.put, List.setIfInBounds_toArray, List.set_cons_zero, List.set_cons_succ]
  refine wpL_take 13 (oi := ⟨some 162, _, _, _, _, _⟩) (v := ?_) rfl (by kernel_rfl) (by kernel_rfl) (by kernel_rfl) (by kernel_rfl) (fun _ _ _ h => h) (Or.inl ⟨by rfl, ?_⟩) HX.out ?_
  rotate_left
  · intro V hV
    go_simp
    try with_reducible rfl
  try simp only [Act.put, List.setIfInBounds_toArray, List.set_cons_zero, List.set_cons_succ]
  refine wpL_takeU 14 (oi := ⟨some 163, _, _, _, _, _⟩) (v := ?_) rfl (by kernel_rfl) (by kernel_rfl) (by kernel_rfl) (by kernel_rfl) (fun _ _ _ h => h) (Or.inl ⟨by rfl, ?_⟩) ?_
  rotate_left
  · intro V hV
    go_simp
    try with_reducible rfl
  try simp only [Act.put, List.setIfInBounds_toArray, List.set_cons_zero, List.set_cons_succ]
  refine wpL_takeU 15 (oi := ⟨some 164, _, _, _, _, _⟩) (v := ?_) rfl (by kernel_rfl) (by kernel_rfl) (by kernel_rfl) (by kernel_rfl) (fun _ _ _ h => h) (Or.inl ⟨by rfl, ?_⟩) ?_
  rotate_left
  · intro V hV
    go_simp
    try with_reducible rfl
  try simp only [Act.put, List.setIfInBounds_toArray, List.set_cons_zero, List.set_cons_succ]
  obtain ⟨m', hm'⟩ : ∃ m' : Mk, m' = { m with cl := x0, cn := x1, rq := x2, op := x3, key := ⟨#[]⟩, val := ⟨#[]⟩, old := ⟨#[]⟩ } := ⟨_, rfl⟩
  refine wpL_one 16 (by kernel_rfl) rfl (fun K hK => one_skip (by rfl) (run_put_at 44 (.tmp 164) (.tmp 162) rfl p 15 _ rfl rfl 48 m.cs HX.out.1 (by kernel_rfl) (by rw [mk_size]; simp) (by simp [Value.oneCell']) m'.cs (by rw [hm']; exact put_cmd m _ _ _ _ _ _ _)) (hK _ _ (fun h => by cases h) ?_))
  clear hK K
  try simp only [Act.put, List.setIfInBounds_toArray, List.set_cons_zero, List.set_cons_succ]
  refine wpL_done (by kernel_rfl) ?_ _
  have HM := hide hm'
  have HP8 : Hid (PC (w2.drew.setRow p m'.cs) b p c m' s R.2.1 R.2.2 ∧ Below b w2.drew (w2.drew.setRow p m'.cs)) := HP2.out.drew.put (by rw [hm']; exact ⟨HP2.out.drew.t.mem, HP2.out.drew.t.tr, HP2.out.drew.t.body, HP2.out.t.hm, HP2.out.t.ht, HP2.out.t.hb⟩)
  have HL8 : Hid (Below b w (w2.drew.setRow p m'.cs)) := (below_drewN HL2.out 1).trans HP8.out.2
  clear hm'
  obtain ⟨w8, hw8⟩ : ∃ w8, w8 = w2.drew.setRow p m'.cs := ⟨_, rfl⟩
  rw [← hw8] at HP8 HL8 ⊢
  have HP9 := hide HP8.out.1
  clear hw8 HP8
  go_upto_region 33 with fail
  refine wp_region_L [] (fun _ => True) (by kernel_rfl) ?_
  have HT : Hid True := trivial
  refine wpL_take 0 (oi := ⟨some 165, _, _, _, _, _⟩) (v := ?_) rfl (by kernel_rfl) (by kernel_rfl) (by kernel_rfl) (by kernel_rfl) (fun _ _ _ h => h) (Or.inl ⟨by rfl, ?_⟩) HT.out ?_
  rotate_left
  · intro V hV
    go_simp
    try with_reducible rfl
  try simp only [Act.put, List.setIfInBounds_toArray, List.set_cons_zero, List.set_cons_succ]
  refine wpL_take 1 (oi := ⟨some 166, _, _, _, _, _⟩) (v := ?_) rfl (by kernel_rfl) (by kernel_rfl) (by kernel_rfl) (by kernel_rfl) (fun _ _ _ h => h) (Or.inl ⟨by rfl, ?_⟩) HT.out ?_
  rotate_left
  · intro V hV
    go_simp
    try with_reducible rfl
  try simp only [Act.put, List.setIfInBounds_toArray, List.set_cons_zero, List.set_cons_succ]
  refine wpL_take 2 (oi := ⟨some 167, _, _, _, _, _⟩) (v := ?_) rfl (by kernel_rfl) (by kernel_rfl) (by kernel_rfl) (by kernel_rfl) (fun _ _ _ h => h) (Or.inl ⟨by rfl, ?_⟩) HT.out ?_
  rotate_left
  · intro V hV
    go_simp
    try with_reducible rfl
  try simp only [Act.put, List.setIfInBounds_toArray, List.set_cons_zero, List.set_cons_succ]
  refine wpL_take 3 (oi := ⟨some 168, _, _, _, _, _⟩) (v := ?_) rfl (by kernel_rfl) (by kernel_rfl) (by kernel_rfl) (by kernel_rfl) (fun _ _ _ h => h) (Or.inl ⟨by rfl, ?_⟩) HT.out ?_
  rotate_left
  · intro V hV
    go_simp
    try with_reducible rfl
  try simp only [Act.put, List.setIfInBounds_toArray, List.set_cons_zero, List.set_cons_succ]
  refine wpL_take 4 (oi := ⟨some 169, _, _, _, _, _⟩) (v := ?_) rfl (by kernel_rfl) (by kernel_rfl) (by kernel_rfl) (by kernel_rfl) (fun _ _ _ h => h) (Or.inl ⟨by rfl, ?_⟩) HT.out ?_
  rotate_left
  · intro V hV
    go_simp
    try with_reducible rfl
  try simp only [Act.put, List.setIfInBounds_toArray, List.set_cons_zero, List.set_cons_succ]
  refine wpL_take 5 (oi := ⟨some 170, _, _, _, _, _⟩) (v := ?_) rfl (by kernel_rfl) (by kernel_rfl) (by kernel_rfl) (by kernel_rfl) (fun _ _ _ h => h) (Or.inl ⟨by rfl, ?_⟩) HT.out ?_
  rotate_left
  · intro V hV
    go_simp
    try with_reducible rfl
  try simp only [Act.put, List.setIfInBounds_toArray, List.set_cons_zero, List.set_cons_succ]
  refine wpL_take 6 (oi := ⟨some 171, _, _, _, _, _⟩) (v := ?_) rfl (by kernel_rfl) (by kernel_rfl) (by kernel_rfl) (by kernel_rfl) (fun _ _ _ h => h) (Or.inl ⟨by rfl, ?_⟩) HT.out ?_
  rotate_left
  · intro V hV
    go_simp
    try with_reducible rfl
  try simp only [Act.put, List.setIfInBounds_toArray, List.set_cons_zero, List.set_cons_succ]
  refine wpL_take 7 (oi := ⟨some 172, _, _, _, _, _⟩) (v := ?_) rfl (by kernel_rfl) (by kernel_rfl) (by kernel_rfl) (by kernel_rfl) (fun _ _ _ h => h) (Or.inl ⟨by rfl, ?_⟩) HT.out ?_
  rotate_left
  · intro V hV
    go_simp
    try with_reducible rfl
  try simp only [Act.put, List.setIfInBounds_toArray, List.set_cons_zero, List.set_cons_succ]
  refine wpL_take 8 (oi := ⟨some 173, _, _, _, _, _⟩) (v := ?_) rfl (by kernel_rfl) (by kernel_rfl) (by kernel_rfl) (by kernel_rfl) (fun _ _ _ h => h) (Or.inl ⟨by rfl, ?_⟩) HT.out ?_
  rotate_left
  · intro V hV
    go_simp
    try with_reducible rfl
  try simp only [Act.put, List.setIfInBounds_toArray, List.set_cons_zero, List.set_cons_succ]
  refine wpL_take 9 (oi := ⟨some 174, _, _, _, _, _⟩) (v := ?_) rfl (by kernel_rfl) (by kernel_rfl) (by kernel_rfl) (by kernel_rfl) (fun _ _ _ h => h) (Or.inl ⟨by rfl, ?_⟩) HT.out ?_
  rotate_left
  · intro V hV
    go_simp
    try with_reducible rfl
  try simp only [Act.put, List.setIfInBounds_toArray, List.set_cons_zero, List.set_cons_succ]
  refine wpL_take 10 (oi := ⟨some 175, _, _, _, _, _⟩) (v := ?_) rfl (by kernel_rfl) (by kernel_rfl) (by kernel_rfl) (by kernel_rfl) (fun _ _ _ h => h) (Or.inl ⟨by rfl, ?_⟩) HT.out ?_
  rotate_left
  · intro V hV
    go_simp
    try with_reducible rfl
  try simp only [Act.put, List.setIfInBounds_toArray, List.set_cons_zero, List.set_cons_succ]
  refine wpL_take 11 (oi := ⟨some 176, _, _, _, _, _⟩) (v := ?_) rfl (by kernel_rfl) (by kernel_rfl) (by kernel_rfl) (by kernel_rfl) (fun _ _ _ h => h) (Or.inl ⟨by rfl, ?_⟩) HT.out ?_
  rotate_left
  · intro V hV
    go_simp
    try with_reducible rfl
  try simp only [Act.put, List.setIfInBounds_toArray, List.set_cons_zero, List.set_cons_succ]
  refine wpL_take 14 (oi := ⟨some 179, _, _, _, _, _⟩) (v := ?_) rfl (by kernel_rfl) (by kernel_rfl) (by kernel_rfl) (by kernel_rfl) (fun _ _ _ h => h) (Or.inl ⟨by rfl, ?_⟩) HT.out ?_
  rotate_left
  · intro V hV
    go_simp
    try with_reducible rfl
  try simp only [Act.put, List.setIfInBounds_toArray, List.set_cons_zero, List.set_cons_succ]
  refine wpL_one 12 (by kernel_rfl) rfl (fun K hK => ?_)
  rw [if_pos (by rfl)]
  go_simp
  refine hK _ _ (fun _ => trivial) ?_
  clear hK K
  try simp only [Act.put, List.setIfInBounds_toArray, List.set_cons_zero, List.set_cons_succ]
  refine wpL_take 13 (oi := ⟨some 178, _, _, _, _, _⟩) (v := ?_) rfl (by kernel_rfl) (by kernel_rfl) (by kernel_rfl) (by kernel_rfl) (fun _ _ _ h => h) (Or.inl ⟨by rfl, ?_⟩) HT.out ?_
  rotate_left
  · intro V hV
    go_simp
    try with_reducible rfl
  try simp only [Act.put, List.setIfInBounds_toArray, List.set_cons_zero, List.set_cons_succ]
  refine wpL_done (by kernel_rfl) ?_ _
  obtain ⟨q, hq⟩ : ∃ q, q = w8.heap.size := ⟨_, rfl⟩
  have HPA : Hid (∀ W, Below w8.heap.size w8 W → Blk W w8.heap.size 104 #[.pointer (some ⟨p, 19, none⟩), .pointer (some ⟨p, 20, none⟩), .pointer (some ⟨p, 21, none⟩)] → KLp m' s R.2.1 R.2.2 b p c q w (.int .i64 0) W) := fun W hb hB => by
    refine .inl ⟨rfl, HP9.out.step hb, by rw [hq]; exact hB, HL8.out.trans (hb.mono HP9.out.bw)⟩
  go_upto_region 34 with fail
  generalize hw9 : World.drew (World.alloc _ _) = w9
  have HL0 : Hid (KLp m' s R.2.1 R.2.2 b p c q w (.int .i64 0) w9) := by
    rw [← hw9]
    exact HPA.out _ (((Below.refl _ _).alloc (Nat.le_refl _) _).drew) (Blk.drew (Blk.new w8 _ _))
  try simp only [← hq]
  try rw [← hq]
  clear hw9 HPA
  have HQQ := hide hq
  clear hq
  go_loopw [12, 179] (fun _ v wr => KLp m' s R.2.1 R.2.2 b p c q w v wr) (fun _ v _ => 3 - (intOf v).toNat)
  case atStart => exact HL0.out
  case round =>
    clear HL0
    unfold KLp at hrel
    rcases hrel with ⟨rfl, hst⟩ | ⟨rfl, hst⟩ | ⟨rfl, hst⟩ | ⟨rfl, hst⟩
    · obtain ⟨hpc, hq, hlow⟩ := hst
      have HPC := hide hpc
      have HQ := hide hq
      have HLW := hide hlow
      have l1 := cK_le HKL.out 0
      have HSK := hide (skip_st [47] s (cK s.data.toList R.2.1 0) c (cB s.data.toList R.2.1 R.2.2 0) wr hpc.cu l1 hs' (by simp))
      have l2 := sK_le (s := s) [47] l1
      obtain ⟨k2, hk2⟩ : ∃ k2, k2 = sK [47] s.data.toList (cK s.data.toList R.2.1 0) := ⟨_, rfl⟩
      obtain ⟨b2, hb2⟩ : ∃ b2, b2 = sB [47] s.data.toList (cK s.data.toList R.2.1 0) (cB s.data.toList R.2.1 R.2.2 0) := ⟨_, rfl⟩
      rw [← hk2, ← hb2] at HSK
      rw [← hk2] at l2
      obtain ⟨T, hT⟩ : ∃ T, T = strT s.data.toList k2 := ⟨_, rfl⟩
      have HST : Hid (∀ W, Cu W c s k2 b2 → Calls Tryd.prog 61 #[.pointer (some ⟨c, 0, none⟩)] W fun e w' => e = .returned (.string (S T)) ∧ Cu w' c s (cK s.data.toList R.2.1 (0 + 1)) (cB s.data.toList R.2.1 R.2.2 (0 + 1)) ∧ Only (fun q => q = c) W w') := fun W hW => by
        have := str_st s k2 c b2 W hW l2 hs'
        rw [← hT] at this
        have e1 : cK s.data.toList R.2.1 (0 + 1) = strK s.data.toList k2 := by rw [hk2]; rfl
        have e2 : cB s.data.toList R.2.1 R.2.2 (0 + 1) = (b2 || !strOk s.data.toList k2) := by rw [hk2, hb2]; rfl
        rw [e1, e2]
        exact this
      have HMJ : Hid ((cM m' s.data.toList R.2.1 0).cs.setIfInBounds 19 (.string (S T)) = (cM m' s.data.toList R.2.1 (0 + 1)).cs) := by
        show _ = _
        rw [hT, hk2]
        rfl
      have cq : wr.cell? ⟨q, 0, none⟩ = some (.pointer (some ⟨p, 19, none⟩)) := by rw [HQ.out.cell 0]; rfl
      clear hpc hq hlow hk2 hb2 hT
      go_upto_region 37 with (go_at_call 45; refine HSK.out.mono ?_; rintro e w4 ⟨rfl, hcu4, hon4⟩; have HP4 := hide (HPC.out.cur hcu4 hon4); have HL4 := hide (HLW.out.trans (HPC.out.lowc hon4)); have HQ4 := hide (HQ.out.only hon4 (Blk.ne_ HQ.out (t' := 84) HPC.out.cu (by decide))); clear hcu4 hon4)
      go_upto_region 38 with (go_at_call 61; refine (HST.out _ HP4.out.cu).mono ?_; rintro e w5 ⟨rfl, hcu5, hon5⟩; have HP5 := hide (HP4.out.cur hcu5 hon5); have HL5 := hide (HL4.out.trans (HP4.out.lowc hon5)); have HQ5 := hide (HQ4.out.only hon5 (Blk.ne_ HQ4.out (t' := 84) HP4.out.cu (by decide))); have c23 := mb19 HP5.out.box; have f23 := Blk.frozen HP5.out.box 19; clear hcu5 hon5)
      generalize hw6 : World.setCell _ _ _ = w6
      have HKS : Hid (KSt m' s R.2.1 R.2.2 b p c q w (0 + 1) w6) := by
        show KSt _ _ _ _ _ _ _ _ _ _ _
        rw [← hw6]
        obtain ⟨h1, h2⟩ := HP5.out.set 19 (.string (S T)) HMJ.out ⟨HP5.out.t.mem, HP5.out.t.tr, HP5.out.t.body, HP5.out.t.hm, HP5.out.t.ht, HP5.out.t.hb⟩
        exact ⟨h1, HQ5.out.far (by show q ≠ p; exact Blk.ne_ HQ5.out HP5.out.box (by decide)) _, HL5.out.trans h2⟩
      clear hw6 c23 f23 cq
      have HL7 : Hid (KLp m' s R.2.1 R.2.2 b p c q w (.int .i64 1) w6) := .inr (.inl ⟨rfl, HKS.out⟩)
      go_wp2_with fail
      go_roundw
      case rel => first | exact HL7.out | exact ⟨_, _, HL7.out, rfl, rfl⟩ | exact ⟨_, HL7.out, rfl⟩
      case measure => simp [intOf]
    · obtain ⟨hpc, hq, hlow⟩ := hst
      have HPC := hide hpc
      have HQ := hide hq
      have HLW := hide hlow
      have l1 := cK_le HKL.out 1
      have HSK := hide (skip_st [47] s (cK s.data.toList R.2.1 1) c (cB s.data.toList R.2.1 R.2.2 1) wr hpc.cu l1 hs' (by simp))
      have l2 := sK_le (s := s) [47] l1
      obtain ⟨k2, hk2⟩ : ∃ k2, k2 = sK [47] s.data.toList (cK s.data.toList R.2.1 1) := ⟨_, rfl⟩
      obtain ⟨b2, hb2⟩ : ∃ b2, b2 = sB [47] s.data.toList (cK s.data.toList R.2.1 1) (cB s.data.toList R.2.1 R.2.2 1) := ⟨_, rfl⟩
      rw [← hk2, ← hb2] at HSK
      rw [← hk2] at l2
      obtain ⟨T, hT⟩ : ∃ T, T = strT s.data.toList k2 := ⟨_, rfl⟩
      have HST : Hid (∀ W, Cu W c s k2 b2 → Calls Tryd.prog 61 #[.pointer (some ⟨c, 0, none⟩)] W fun e w' => e = .returned (.string (S T)) ∧ Cu w' c s (cK s.data.toList R.2.1 (1 + 1)) (cB s.data.toList R.2.1 R.2.2 (1 + 1)) ∧ Only (fun q => q = c) W w') := fun W hW => by
        have := str_st s k2 c b2 W hW l2 hs'
        rw [← hT] at this
        have e1 : cK s.data.toList R.2.1 (1 + 1) = strK s.data.toList k2 := by rw [hk2]; rfl
        have e2 : cB s.data.toList R.2.1 R.2.2 (1 + 1) = (b2 || !strOk s.data.toList k2) := by rw [hk2, hb2]; rfl
        rw [e1, e2]
        exact this
      have HMJ : Hid ((cM m' s.data.toList R.2.1 1).cs.setIfInBounds 20 (.string (S T)) = (cM m' s.data.toList R.2.1 (1 + 1)).cs) := by
        show _ = _
        rw [hT, hk2]
        rfl
      have cq : wr.cell? ⟨q, 1, none⟩ = some (.pointer (some ⟨p, 20, none⟩)) := by rw [HQ.out.cell 1]; rfl
      clear hpc hq hlow hk2 hb2 hT
      go_upto_region 37 with (go_at_call 45; refine HSK.out.mono ?_; rintro e w4 ⟨rfl, hcu4, hon4⟩; have HP4 := hide (HPC.out.cur hcu4 hon4); have HL4 := hide (HLW.out.trans (HPC.out.lowc hon4)); have HQ4 := hide (HQ.out.only hon4 (Blk.ne_ HQ.out (t' := 84) HPC.out.cu (by decide))); clear hcu4 hon4)
      go_upto_region 38 with (go_at_call 61; refine (HST.out _ HP4.out.cu).mono ?_; rintro e w5 ⟨rfl, hcu5, hon5⟩; have HP5 := hide (HP4.out.cur hcu5 hon5); have HL5 := hide (HL4.out.trans (HP4.out.lowc hon5)); have HQ5 := hide (HQ4.out.only hon5 (Blk.ne_ HQ4.out (t' := 84) HP4.out.cu (by decide))); have c23 := mb20 HP5.out.box; have f23 := Blk.frozen HP5.out.box 20; clear hcu5 hon5)
      generalize hw6 : World.setCell _ _ _ = w6
      have HKS : Hid (KSt m' s R.2.1 R.2.2 b p c q w (1 + 1) w6) := by
        show KSt _ _ _ _ _ _ _ _ _ _ _
        rw [← hw6]
        obtain ⟨h1, h2⟩ := HP5.out.set 20 (.string (S T)) HMJ.out ⟨HP5.out.t.mem, HP5.out.t.tr, HP5.out.t.body, HP5.out.t.hm, HP5.out.t.ht, HP5.out.t.hb⟩
        exact ⟨h1, HQ5.out.far (by show q ≠ p; exact Blk.ne_ HQ5.out HP5.out.box (by decide)) _, HL5.out.trans h2⟩
      clear hw6 c23 f23 cq
      have HL7 : Hid (KLp m' s R.2.1 R.2.2 b p c q w (.int .i64 2) w6) := .inr (.inr (.inl ⟨rfl, HKS.out⟩))
      go_wp2_with fail
      go_roundw
      case rel => first | exact HL7.out | exact ⟨_, _, HL7.out, rfl, rfl⟩ | exact ⟨_, HL7.out, rfl⟩
      case measure => simp [intOf]
    · obtain ⟨hpc, hq, hlow⟩ := hst
      have HPC := hide hpc
      have HQ := hide hq
      have HLW := hide hlow
      have l1 := cK_le HKL.out 2
      have HSK := hide (skip_st [47] s (cK s.data.toList R.2.1 2) c (cB s.data.toList R.2.1 R.2.2 2) wr hpc.cu l1 hs' (by simp))
      have l2 := sK_le (s := s) [47] l1
      obtain ⟨k2, hk2⟩ : ∃ k2, k2 = sK [47] s.data.toList (cK s.data.toList R.2.1 2) := ⟨_, rfl⟩
      obtain ⟨b2, hb2⟩ : ∃ b2, b2 = sB [47] s.data.toList (cK s.data.toList R.2.1 2) (cB s.data.toList R.2.1 R.2.2 2) := ⟨_, rfl⟩
      rw [← hk2, ← hb2] at HSK
      rw [← hk2] at l2
      obtain ⟨T, hT⟩ : ∃ T, T = strT s.data.toList k2 := ⟨_, rfl⟩
      have HST : Hid (∀ W, Cu W c s k2 b2 → Calls Tryd.prog 61 #[.pointer (some ⟨c, 0, none⟩)] W fun e w' => e = .returned (.string (S T)) ∧ Cu w' c s (cK s.data.toList R.2.1 (2 + 1)) (cB s.data.toList R.2.1 R.2.2 (2 + 1)) ∧ Only (fun q => q = c) W w') := fun W hW => by
        have := str_st s k2 c b2 W hW l2 hs'
        rw [← hT] at this
        have e1 : cK s.data.toList R.2.1 (2 + 1) = strK s.data.toList k2 := by rw [hk2]; rfl
        have e2 : cB s.data.toList R.2.1 R.2.2 (2 + 1) = (b2 || !strOk s.data.toList k2) := by rw [hk2, hb2]; rfl
        rw [e1, e2]
        exact this
      have HMJ : Hid ((cM m' s.data.toList R.2.1 2).cs.setIfInBounds 21 (.string (S T)) = (cM m' s.data.toList R.2.1 (2 + 1)).cs) := by
        show _ = _
        rw [hT, hk2]
        rfl
      have cq : wr.cell? ⟨q, 2, none⟩ = some (.pointer (some ⟨p, 21, none⟩)) := by rw [HQ.out.cell 2]; rfl
      clear hpc hq hlow hk2 hb2 hT
      go_upto_region 37 with (go_at_call 45; refine HSK.out.mono ?_; rintro e w4 ⟨rfl, hcu4, hon4⟩; have HP4 := hide (HPC.out.cur hcu4 hon4); have HL4 := hide (HLW.out.trans (HPC.out.lowc hon4)); have HQ4 := hide (HQ.out.only hon4 (Blk.ne_ HQ.out (t' := 84) HPC.out.cu (by decide))); clear hcu4 hon4)
      go_upto_region 38 with (go_at_call 61; refine (HST.out _ HP4.out.cu).mono ?_; rintro e w5 ⟨rfl, hcu5, hon5⟩; have HP5 := hide (HP4.out.cur hcu5 hon5); have HL5 := hide (HL4.out.trans (HP4.out.lowc hon5)); have HQ5 := hide (HQ4.out.only hon5 (Blk.ne_ HQ4.out (t' := 84) HP4.out.cu (by decide))); have c23 := mb21 HP5.out.box; have f23 := Blk.frozen HP5.out.box 21; clear hcu5 hon5)
      generalize hw6 : World.setCell _ _ _ = w6
      have HKS : Hid (KSt m' s R.2.1 R.2.2 b p c q w (2 + 1) w6) := by
        show KSt _ _ _ _ _ _ _ _ _ _ _
        rw [← hw6]
        obtain ⟨h1, h2⟩ := HP5.out.set 21 (.string (S T)) HMJ.out ⟨HP5.out.t.mem, HP5.out.t.tr, HP5.out.t.body, HP5.out.t.hm, HP5.out.t.ht, HP5.out.t.hb⟩
        exact ⟨h1, HQ5.out.far (by show q ≠ p; exact Blk.ne_ HQ5.out HP5.out.box (by decide)) _, HL5.out.trans h2⟩
      clear hw6 c23 f23 cq
      have HL7 : Hid (KLp m' s R.2.1 R.2.2 b p c q w (.int .i64 3) w6) := .inr (.inr (.inr ⟨rfl, HKS.out⟩))
      go_wp2_with fail
      go_roundw
      case rel => first | exact HL7.out | exact ⟨_, _, HL7.out, rfl, rfl⟩ | exact ⟨_, HL7.out, rfl⟩
      case measure => simp [intOf]
    · obtain ⟨hpc, hq, hlow⟩ := hst
      have HPC := hide hpc
      have HLW := hide hlow
      clear hpc hq hlow
      go_wp2_with fail
      first | refine bodyPost_end (results_none rfl _ _ _) rfl ?_ | refine bodyPost_ret (results_none rfl _ _ _) rfl ?_
      rw [HRES.out]
      refine ⟨cM m' s.data.toList R.2.1 3, rfl, ?_, HPC.out, HLW.out⟩
      obtain ⟨e0, e1, e2, e3⟩ := HXX.out
      rw [HM.out, e0, e1, e2, e3]
      rfl

set_option maxRecDepth 100000 in
set_option maxHeartbeats 16000000 in
theorem part_mem (nm s : ByteArray) (m : Mk) (b p c k : Nat) (bad : Bool) (w : World) (h : PC w b p c m s k bad) (hk : k ≤ s.size) (hs : s.size ≤ 130000000) (hz : m.nm ≤ 140000000) (hzt : m.nt ≤ 140000000) (hn : nm.data.toList = [109, 101, 109, 98, 101, 114, 115]) :
    Calls Tryd.prog 47 #[.pointer (some ⟨c, 0, none⟩), .pointer (some ⟨p, 0, none⟩), .string nm] w fun e w' => PartR (pMs s.data.toList m.pm k bad) b p c s w e w' := by
  have hs' : s.size ≤ 1000000000000 := by omega
  have HP := hide h
  have hnl : nm.toList = [109, 101, 109, 98, 101, 114, 115] := by rw [ByteArray.toList_eq]; exact hn
  have kl : k ≤ s.data.toList.length := by rw [str_len]; exact hk
  have HL0 : Hid (QMem m s k bad b p c w (.bool true) w) := ⟨true, m, k, bad, rfl, h, hk, rfl, Below.refl _ _, by rw [if_pos rfl], fun _ => Nat.le_refl _⟩
  have HMB := hide h.t
  clear h hn
  go_enter Tryd.func47, Tryd.ntmps47
  go_upto_region 7 with fail
  go_loopw [7, 8] (fun v _ wr => QMem m s k bad b p c w v wr) (fun v _ wr => qmeas s.size c v wr)
  case atStart => exact HL0.out
  case round =>
    clear HL0
    unfold QMem at hrel
    obtain ⟨ag, m1, k1, b1, rfl, hpc, hk1, hpm, hlow, hmem, hbd⟩ := hrel
    have HPC := hide hpc
    have HPM0 := hide hpm
    have HLW := hide hlow
    have HME := hide hmem
    have HBD := hide hbd
    have c2 := cu2 hpc.cu
    clear hpc hpm hlow hmem hbd
    cases ag with
    | false =>
      have HRES : Hid (pMs s.data.toList m.pm k bad = ({ m.pm with ms := m1.ms }, k1, b1)) := by
        show _ = _
        have h1 := HME.out
        rw [if_neg (by decide)] at h1
        unfold pMs
        rw [show m.pm.ms = m.ms from rfl, h1]
      have HPM : Hid (m1.pm = ({ m.pm with ms := m1.ms } : PM)) := HPM0.out
      clear c2
      go_wp2_with fail
      first | refine bodyPost_end (results_none rfl _ _ _) rfl ?_ | refine bodyPost_ret (results_none rfl _ _ _) rfl ?_
      exact ⟨m1, rfl, by rw [HRES.out]; exact HPM.out, by rw [HRES.out]; exact HPC.out, HLW.out⟩
    | true =>
      cases b1 with
      | true =>
        have HRES : Hid (pMs s.data.toList m.pm k bad = ({ m.pm with ms := m1.ms }, k1, true)) := by
          show _ = _
          have h1 := HME.out
          rw [if_pos rfl, memsP_bad] at h1
          unfold pMs
          rw [show m.pm.ms = m.ms from rfl, h1]
        have HPM : Hid (m1.pm = ({ m.pm with ms := m1.ms } : PM)) := HPM0.out
        go_wp2_with fail
        first | refine bodyPost_end (results_none rfl _ _ _) rfl ?_ | refine bodyPost_ret (results_none rfl _ _ _) rfl ?_
        exact ⟨m1, rfl, by rw [HRES.out]; exact HPM.out, by rw [HRES.out]; exact HPC.out, HLW.out⟩
      | false =>
        have hbd1 := HBD.out rfl
        have hlen : m1.ms.length = m1.nm := RS.len (Reads.of_own HPC.out.t.mem)
        have hlen0 : m.ms.length = m.nm := RS.len (Reads.of_own HMB.out.mem)
        have hn1 : m1.nm + 1 ≤ 1000000000 := by omega
        have HM1 : Hid (memsP s.data.toList m.ms k bad = memsP s.data.toList m1.ms k1 false) := by
          show _ = _
          have h1 := HME.out
          rw [if_pos rfl] at h1
          exact h1
        have HNU := hide (numbers_any 3 s k1 c false wr HPC.out.cu hk1 hs' (by omega) (by omega))
        obtain ⟨R, hR⟩ : ∃ R, R = numsA s.data.toList 3 k1 false := ⟨_, rfl⟩
        have hlen3 := numsA_len s.data.toList (show 1 ≤ 3 by omega) k1 false
        have hge := numsA_ge s.data.toList 3 k1 false
        have hle := numsA_le s.data.toList 3 k1 false (by rw [str_len]; exact hk1)
        rw [str_len] at hle
        rw [← hR] at hlen3 hge hle
        obtain ⟨x, y, z, hxyz⟩ := list3 hlen3
        obtain ⟨k2, hk2e⟩ : ∃ k2, k2 = R.2.1 := ⟨_, rfl⟩
        obtain ⟨b2, hb2e⟩ : ∃ b2, b2 = R.2.2 := ⟨_, rfl⟩
        rw [← hk2e] at hge hle
        have hk2 := hle
        have HNU2 : Hid (Calls Tryd.prog 59 #[.pointer (some ⟨c, 0, none⟩), .int .i64 3] wr fun e w' => ∃ g cap, e = .returned (.slice (some ⟨g, 0, none⟩) 3 cap) ∧ w'.ownsRow wr.heap.size 3 1 (.slice (some ⟨g, 0, none⟩) 3 cap) 3 (ints [x, y, z]) ∧ Cu w' c s k2 b2 ∧ Only (fun q => q = c) wr w') := by
          refine HNU.out.mono ?_
          rintro e w' ⟨A, cap, h1, h2, h3, h4⟩
          rw [← hR] at h2 h3
          rw [hxyz] at h2
          rw [← hk2e, ← hb2e] at h3
          obtain ⟨g4, cap4, hv, _, _⟩ := h2.form (by omega)
          injection hv with e1 e2 e3
          subst e1 e3
          exact ⟨g4, cap, h1, h2, h3, h4⟩
        have HMORE : Hid (hereB 44 (s.data.toList.drop k2) = true → memsP s.data.toList m.ms k bad = memsP s.data.toList (m1.ms ++ [(x, y, z)]) (k2 + 1) b2) := fun hB => by
          rw [HM1.out, memsP_more m1.ms (by rw [← hR, ← hk2e]; exact hB), ← hR, hxyz, ← hk2e, ← hb2e]
          rfl
        have HLAST : Hid (hereB 44 (s.data.toList.drop k2) = false → memsP s.data.toList m.ms k bad = (m1.ms ++ [(x, y, z)], k2, b2)) := fun hB => by
          rw [HM1.out, memsP_last m1.ms (by rw [← hR, ← hk2e]; exact hB), ← hR, hxyz, hk2e, hb2e]
          rfl
        obtain ⟨i69, hi69, hz69, hs69, hb69⟩ := info_parts info69
        have I69 := hide hi69
        have Z69 := hide hz69
        clear HNU hR hlen3 hxyz hk2e hb2e hi69 hz69 hlen0
        go_upto_region 9 with (go_at_call 59; refine HNU2.out.mono ?_; rintro e w2 ⟨g, cap, rfl, ho2, hcu2, hon2⟩; have HP2 := hide (HPC.out.cur hcu2 hon2); have HL2 := hide (HLW.out.trans (HPC.out.lowc hon2)); have HO2 := hide ho2; clear hcu2 hon2 ho2)
        have HX : Hid (SX p m1 wr.heap.size g cap x y z w2.drew) := ⟨HP2.out.box.drew, own_drewN HO2.out 1⟩
        refine wp_region_L [17, 18, 19] (SX p m1 wr.heap.size g cap x y z) (by kernel_rfl) ?_
        refine wpL_take 0 (oi := ⟨some 49, _, _, _, _, _⟩) (v := ?_) rfl (by kernel_rfl) (by kernel_rfl) (by kernel_rfl) (by kernel_rfl) (fun _ _ _ h => h) (Or.inl ⟨by rfl, ?_⟩) HX.out ?_
        rotate_left
        · intro V hV
          go_simp
          try with_reducible rfl
        try simp only [Act.put, List.setIfInBounds_toArray, List.set_cons_zero, List.set_cons_succ]
        refine wpL_take 1 (oi := ⟨some 50, _, _, _, _, _⟩) (v := ?_) rfl (by kernel_rfl) (by kernel_rfl) (by kernel_rfl) (by kernel_rfl) (fun _ _ _ h => h) (Or.inl ⟨by rfl, ?_⟩) HX.out ?_
        rotate_left
        · intro V hV
          go_simp
          try with_reducible rfl
        try simp only [Act.put, List.setIfInBounds_toArray, List.set_cons_zero, List.set_cons_succ]
        refine wpL_take 2 (oi := ⟨some 51, _, _, _, _, _⟩) (v := ?_) rfl (by kernel_rfl) (by kernel_rfl) (by kernel_rfl) (by kernel_rfl) (fun _ _ _ h => h) (Or.inl ⟨by rfl, ?_⟩) HX.out ?_
        rotate_left
        · intro V hV
          go_simp
          try with_reducible rfl
        try simp only [Act.put, List.setIfInBounds_toArray, List.set_cons_zero, List.set_cons_succ]
        refine wpL_take 3 (oi := ⟨some 52, _, _, _, _, _⟩) (v := ?_) rfl (by kernel_rfl) (by kernel_rfl) (by kernel_rfl) (by kernel_rfl) (fun _ _ _ h => h) (Or.inl ⟨by rfl, ?_⟩) HX.out ?_
        rotate_left
        · intro V hV
          go_simp
          try with_reducible rfl
        try simp only [Act.put, List.setIfInBounds_toArray, List.set_cons_zero, List.set_cons_succ]
        refine wpL_take 4 (oi := ⟨some 53, _, _, _, _, _⟩) (v := ?_) rfl (by kernel_rfl) (by kernel_rfl) (by kernel_rfl) (by kernel_rfl) (fun _ _ _ h => h) (Or.inl ⟨by rfl, ?_⟩) HX.out ?_
        rotate_left
        · intro V hV
          have k8 := mb8 hV.box
          go_simp
          try with_reducible rfl
        try simp only [Act.put, List.setIfInBounds_toArray, List.set_cons_zero, List.set_cons_succ]
        refine wpL_take 5 (oi := ⟨some 54, _, _, _, _, _⟩) (v := ?_) rfl (by kernel_rfl) (by kernel_rfl) (by kernel_rfl) (by kernel_rfl) (fun _ _ _ h => h) (Or.inl ⟨by rfl, ?_⟩) HX.out ?_
        rotate_left
        · intro V hV
          go_simp
          try with_reducible rfl
        try simp only [Act.put, List.setIfInBounds_toArray, List.set_cons_zero, List.set_cons_succ]
        refine wpL_take 6 (oi := ⟨some 55, _, _, _, _, _⟩) (v := ?_) rfl (by kernel_rfl) (by kernel_rfl) (by kernel_rfl) (by kernel_rfl) (fun _ _ _ h => h) (Or.inl ⟨by rfl, ?_⟩) HX.out ?_
        rotate_left
        · intro V hV
          go_simp
          try with_reducible rfl
        try simp only [Act.put, List.setIfInBounds_toArray, List.set_cons_zero, List.set_cons_succ]
        refine wpL_take 7 (oi := ⟨some 56, _, _, _, _, _⟩) (v := ?_) rfl (by kernel_rfl) (by kernel_rfl) (by kernel_rfl) (by kernel_rfl) (fun _ _ _ h => h) (Or.inl ⟨by rfl, ?_⟩) HX.out ?_
        rotate_left
        · intro V hV
          have k0 := hV.n0
          go_simp
          try with_reducible rfl
        try simp only [Act.put, List.setIfInBounds_toArray, List.set_cons_zero, List.set_cons_succ]
        refine wpL_take 8 (oi := ⟨some 57, _, _, _, _, _⟩) (v := ?_) rfl (by kernel_rfl) (by kernel_rfl) (by kernel_rfl) (by kernel_rfl) (fun _ _ _ h => h) (Or.inl ⟨by rfl, ?_⟩) HX.out ?_
        rotate_left
        · intro V hV
          go_simp
          try with_reducible rfl
        try simp only [Act.put, List.setIfInBounds_toArray, List.set_cons_zero, List.set_cons_succ]
        refine wpL_take 9 (oi := ⟨some 58, _, _, _, _, _⟩) (v := ?_) rfl (by kernel_rfl) (by kernel_rfl) (by kernel_rfl) (by kernel_rfl) (fun _ _ _ h => h) (Or.inl ⟨by rfl, ?_⟩) HX.out ?_
        rotate_left
        · intro V hV
          go_simp
          try with_reducible rfl
        try simp only [Act.put, List.setIfInBounds_toArray, List.set_cons_zero, List.set_cons_succ]
        refine wpL_take 10 (oi := ⟨some 59, _, _, _, _, _⟩) (v := ?_) rfl (by kernel_rfl) (by kernel_rfl) (by kernel_rfl) (by kernel_rfl) (fun _ _ _ h => h) (Or.inl ⟨by rfl, ?_⟩) HX.out ?_
        rotate_left
        · intro V hV
          have k1 := hV.n1
          go_simp
          try with_reducible rfl
        try simp only [Act.put, List.setIfInBounds_toArray, List.set_cons_zero, List.set_cons_succ]
        refine wpL_take 11 (oi := ⟨some 60, _, _, _, _, _⟩) (v := ?_) rfl (by kernel_rfl) (by kernel_rfl) (by kernel_rfl) (by kernel_rfl) (fun _ _ _ h => h) (Or.inl ⟨by rfl, ?_⟩) HX.out ?_
        rotate_left
        · intro V hV
          go_simp
          try with_reducible rfl
        try simp only [Act.put, List.setIfInBounds_toArray, List.set_cons_zero, List.set_cons_succ]
        refine wpL_take 12 (oi := ⟨some 61, _, _, _, _, _⟩) (v := ?_) rfl (by kernel_rfl) (by kernel_rfl) (by kernel_rfl) (by kernel_rfl) (fun _ _ _ h => h) (Or.inl ⟨by rfl, ?_⟩) HX.out ?_
        rotate_left
        · intro V hV
          go_simp
          try with_reducible rfl
        try simp only [Act.put, List.setIfInBounds_toArray, List.set_cons_zero, List.set_cons_succ]
        refine wpL_take 13 (oi := ⟨some 62, _, _, _, _, _⟩) (v := ?_) rfl (by kernel_rfl) (by kernel_rfl) (by kernel_rfl) (by kernel_rfl) (fun _ _ _ h => h) (Or.inl ⟨by rfl, ?_⟩) HX.out ?_
        rotate_left
        · intro V hV
          have k2 := hV.n2
          go_simp
          try with_reducible rfl
        try simp only [Act.put, List.setIfInBounds_toArray, List.set_cons_zero, List.set_cons_succ]
        refine wpL_take 14 (oi := ⟨some 63, _, _, _, _, _⟩) (v := ?_) rfl (by kernel_rfl) (by kernel_rfl) (by kernel_rfl) (by kernel_rfl) (fun _ _ _ h => h) (Or.inl ⟨by rfl, ?_⟩) HX.out ?_
        rotate_left
        · intro V hV
          go_simp
          try with_reducible rfl
        try simp only [Act.put, List.setIfInBounds_toArray, List.set_cons_zero, List.set_cons_succ]
        have HX1 : Hid (SX p m1 wr.heap.size g cap x y z (w2.drew.alloc (.cells #[.int .i64 x, .int .i64 y, .int .i64 z] 69))) := HX.out.step ((Below.refl _ _).alloc (Nat.le_refl _) _)
        have HP5 : Hid (PC (w2.drew.alloc (.cells #[.int .i64 x, .int .i64 y, .int .i64 z] 69)) b p c m1 s k2 b2) := HP2.out.drew.step ((Below.refl _ _).alloc (Nat.le_refl _) _)
        have HL5 : Hid (Below b w (w2.drew.alloc (.cells #[.int .i64 x, .int .i64 y, .int .i64 z] 69))) := (below_drewN HL2.out 1).alloc HP2.out.bw _
        have hK69 := Blk.new w2.drew 69 #[.int .i64 x, .int .i64 y, .int .i64 z]
        refine wpL_one 15 (by kernel_rfl) rfl (fun K hK => ?_)
        rw [if_pos (by rfl)]
        go_simp
        refine hK _ _ (fun _ => HX1.out) ?_
        clear hK K
        try simp only [Act.put, List.setIfInBounds_toArray, List.set_cons_zero, List.set_cons_succ]
        refine wpL_one 16 (by kernel_rfl) rfl (fun K hK => ?_)
        refine step_push _ rfl (.tmp 53) (.tmp 64) 40 rfl b 69 i69 _ 3 24 Tryd.underlying40 I69.out Z69.out hs69 hb69 rfl (by omega) (.slice m1.Am m1.nm m1.cm) m1.nm (sts m1.ms) rfl HP5.out.t.mem w2.drew.heap.size 1 1 #[.int .i64 x, .int .i64 y, .int .i64 z] rfl hK69 rfl (by simp [Value.oneCell']) (by omega) (by unfold maxLen; omega) (by omega) HP5.out.bw ?_
        intro g7 c7 w7 hown7 hgr7 _ _
        have HX7 := hide (HX1.out.push HP5.out.t.mem hgr7)
        obtain ⟨m2, hm2⟩ : ∃ m2 : Mk, m2 = { m1 with Am := some ⟨g7, 0, none⟩, nm := m1.nm + 1, cm := c7, ms := m1.ms ++ [(x, y, z)] } := ⟨_, rfl⟩
        have HNL : Hid (m2.ms = m1.ms ++ [(x, y, z)]) := by show _ = _; rw [hm2]
        have HPN : Hid (m2.pm = { m.pm with ms := m2.ms }) := by
          show _ = _
          rw [hm2]
          show ({ m1.pm with ms := m1.ms ++ [(x, y, z)] } : PM) = _
          rw [HPM0.out]
        have HP8 : Hid (PC (w7.setCell ⟨p, 8, none⟩ (.slice (some ⟨g7, 0, none⟩) (m1.nm + 1) c7)) b p c m2 s k2 b2 ∧ Below b (w2.drew.alloc (.cells #[.int .i64 x, .int .i64 y, .int .i64 z] 69)) (w7.setCell ⟨p, 8, none⟩ (.slice (some ⟨g7, 0, none⟩) (m1.nm + 1) c7))) := by
          show _ ∧ _
          rw [hm2]
          exact HP5.out.pushM hown7 hgr7 hn1
        clear hm2 hown7 hgr7 hK69
        refine hK _ _ (fun _ => HX7.out) ?_
        clear hK K
        try simp only [Act.put, List.setIfInBounds_toArray, List.set_cons_zero, List.set_cons_succ]
        refine wpL_takeU 17 (oi := ⟨some 66, _, _, _, _, _⟩) (v := ?_) rfl (by kernel_rfl) (by kernel_rfl) (by kernel_rfl) (by kernel_rfl) (fun _ _ _ h => h) (Or.inl ⟨by rfl, ?_⟩) ?_
        rotate_left
        · intro V hV
          go_simp
          try with_reducible rfl
        try simp only [Act.put, List.setIfInBounds_toArray, List.set_cons_zero, List.set_cons_succ]
        refine wpL_takeU 18 (oi := ⟨some 67, _, _, _, _, _⟩) (v := ?_) rfl (by kernel_rfl) (by kernel_rfl) (by kernel_rfl) (by kernel_rfl) (fun _ _ _ h => h) (Or.inl ⟨by rfl, ?_⟩) ?_
        rotate_left
        · intro V hV
          go_simp
          try with_reducible rfl
        try simp only [Act.put, List.setIfInBounds_toArray, List.set_cons_zero, List.set_cons_succ]
        have c8 := mb8 HX7.out.box
        have f8 := Blk.frozen HX7.out.box 8
        refine wpL_one 19 (by kernel_rfl) rfl (fun K hK => ?_)
        rw [if_pos (by rfl)]
        go_simp
        refine hK _ _ (fun h => by cases h) ?_
        clear hK K
        try simp only [Act.put, List.setIfInBounds_toArray, List.set_cons_zero, List.set_cons_succ]
        refine wpL_done (by kernel_rfl) ?_ _
        obtain ⟨w8, hw8⟩ : ∃ w8, w8 = w7.setCell ⟨p, 8, none⟩ (.slice (some ⟨g7, 0, none⟩) (m1.nm + 1) c7) := ⟨_, rfl⟩
        rw [← hw8] at HP8 ⊢
        have HPQ := hide HP8.out.1
        have HLQ := hide (HL5.out.trans HP8.out.2)
        clear hw8 c8 f8 c2 HP8
        cases hB : hereB 44 (s.data.toList.drop k2) with
        | true =>
          have HH := hide (here_st 44 s k2 c b2 w8 HPQ.out.cu hk2 hs' hB)
          have hlt := here_lt hB
          rw [str_len] at hlt
          have hw1 : (0 : Int) ≤ (k2 : Int) := by omega
          have HMN : Hid (memsP s.data.toList m.ms k bad = memsP s.data.toList (m1.ms ++ [(x, y, z)]) (k2 + 1) b2) := HMORE.out hB
          clear hB
          go_upto_region 12 with (go_at_call 60; refine HH.out.mono ?_; rintro e w9 ⟨rfl, hcu9, hon9⟩; have HP9 := hide (HPQ.out.cur hcu9 hon9); have HL9 := hide (HLQ.out.trans (HPQ.out.lowc hon9)); clear hcu9 hon9)
          have c1 := cu1 HP9.out.cu
          have f1 := Blk.frozen (t := 84) HP9.out.cu 1
          have hkk : ((k2 + 1 : Nat) : Int) = (k2 : Int) + 1 := by omega
          go_wp2_with fail
          generalize hwa : World.setCell _ _ _ = wa
          have HPA : Hid (PC wa b p c m2 s (k2 + 1) b2) := by
            show PC _ _ _ _ _ _ _ _
            rw [← hwa, ← hkk]
            exact HP9.out.cur (Cu.set0 HP9.out.cu (k2 + 1)) (only_setCell0 _ _ _ _)
          have HLA : Hid (Below b w wa) := by
            show Below _ _ _
            rw [← hwa]
            exact HL9.out.trans (HP9.out.lowc (only_setCell0 _ _ _ _))
          clear hwa c1 f1 hkk
          have HLX : Hid (QMem m s k bad b p c w (.bool true) wa) := ⟨true, m2, k2 + 1, b2, rfl, HPA.out, by omega, HPN.out, HLA.out, by rw [if_pos rfl, HMN.out, HNL.out], fun _ => by rw [HNL.out, List.length_append, List.length_singleton]; omega⟩
          have hat := HPA.out.cu.at_
          have hat0 := HPC.out.cu.at_
          have HAT := hide hat
          have HAT0 := hide hat0
          clear hat hat0
          go_roundw
          case rel => first | exact HLX.out | exact ⟨_, HLX.out, rfl⟩ | exact ⟨_, _, HLX.out, rfl, rfl⟩
          case measure =>
            simp only [qmeas, HAT.out, HAT0.out]
            omega
        | false =>
          have HH := hide (here_st 44 s k2 c b2 w8 HPQ.out.cu hk2 hs' hB)
          have HMN : Hid (memsP s.data.toList m.ms k bad = ((m1.ms ++ [(x, y, z)]), k2, b2)) := HLAST.out hB
          clear hB
          go_wp2_with (go_at_call 60; refine HH.out.mono ?_; rintro e w9 ⟨rfl, hcu9, hon9⟩; have HP9 := hide (HPQ.out.cur hcu9 hon9); have HL9 := hide (HLQ.out.trans (HPQ.out.lowc hon9)); clear hcu9 hon9)
          have HLX : Hid (QMem m s k bad b p c w (.bool false) w9) := ⟨false, m2, k2, b2, rfl, HP9.out, hk2, HPN.out, HL9.out, by rw [if_neg (by decide), HMN.out, HNL.out], fun h => by cases h⟩
          have hat0 := HPC.out.cu.at_
          have HAT0 := hide hat0
          clear hat0
          go_roundw
          case rel => first | exact HLX.out | exact ⟨_, HLX.out, rfl⟩ | exact ⟨_, _, HLX.out, rfl, rfl⟩
          case measure =>
            simp only [qmeas, HAT0.out]
            omega

set_option maxRecDepth 100000 in
set_option maxHeartbeats 16000000 in
theorem part_tra (nm s : ByteArray) (m : Mk) (b p c k : Nat) (bad : Bool) (w : World) (h : PC w b p c m s k bad) (hk : k ≤ s.size) (hs : s.size ≤ 130000000) (hz : m.nm ≤ 140000000) (hzt : m.nt ≤ 140000000) (hn : nm.data.toList = [116, 114, 97, 110, 115]) :
    Calls Tryd.prog 47 #[.pointer (some ⟨c, 0, none⟩), .pointer (some ⟨p, 0, none⟩), .string nm] w fun e w' => PartR (pTr s.data.toList m.pm k bad) b p c s w e w' := by
  have hs' : s.size ≤ 1000000000000 := by omega
  have HP := hide h
  have hnl : nm.toList = [116, 114, 97, 110, 115] := by rw [ByteArray.toList_eq]; exact hn
  have kl : k ≤ s.data.toList.length := by rw [str_len]; exact hk
  have HL0 : Hid (QTra m s k bad b p c w (.bool true) w) := ⟨true, m, k, bad, rfl, h, hk, rfl, Below.refl _ _, by rw [if_pos rfl], fun _ => Nat.le_refl _⟩
  have HMB := hide h.t
  clear h hn
  go_enter Tryd.func47, Tryd.ntmps47
  go_upto_region 15 with fail
  go_loopw [9] (fun v wr => QTra m s k bad b p c w v wr) (fun v wr => qmeas s.size c v wr)
  case atStart => exact HL0.out
  case round =>
    clear HL0
    unfold QTra at hrel
    obtain ⟨ag, m1, k1, b1, rfl, hpc, hk1, hpm, hlow, hmem, hbd⟩ := hrel
    have HPC := hide hpc
    have HPM0 := hide hpm
    have HLW := hide hlow
    have HME := hide hmem
    have HBD := hide hbd
    have c2 := cu2 hpc.cu
    clear hpc hpm hlow hmem hbd
    cases ag with
    | false =>
      have HRES : Hid (pTr s.data.toList m.pm k bad = ({ m.pm with ts := m1.ts }, k1, b1)) := by
        show _ = _
        have h1 := HME.out
        rw [if_neg (by decide)] at h1
        unfold pTr
        rw [show m.pm.ts = m.ts from rfl, h1]
      have HPM : Hid (m1.pm = ({ m.pm with ts := m1.ts } : PM)) := HPM0.out
      clear c2
      go_wp2_with fail
      first | refine bodyPost_end (results_none rfl _ _ _) rfl ?_ | refine bodyPost_ret (results_none rfl _ _ _) rfl ?_
      exact ⟨m1, rfl, by rw [HRES.out]; exact HPM.out, by rw [HRES.out]; exact HPC.out, HLW.out⟩
    | true =>
      cases b1 with
      | true =>
        have HRES : Hid (pTr s.data.toList m.pm k bad = ({ m.pm with ts := m1.ts }, k1, true)) := by
          show _ = _
          have h1 := HME.out
          rw [if_pos rfl, tranP_bad] at h1
          unfold pTr
          rw [show m.pm.ts = m.ts from rfl, h1]
        have HPM : Hid (m1.pm = ({ m.pm with ts := m1.ts } : PM)) := HPM0.out
        go_wp2_with fail
        first | refine bodyPost_end (results_none rfl _ _ _) rfl ?_ | refine bodyPost_ret (results_none rfl _ _ _) rfl ?_
        exact ⟨m1, rfl, by rw [HRES.out]; exact HPM.out, by rw [HRES.out]; exact HPC.out, HLW.out⟩
      | false =>
        have hbd1 := HBD.out rfl
        have hlen : m1.ts.length = m1.nt := RI.len (Reads.of_own HPC.out.t.tr)
        have hlen0 : m.ts.length = m.nt := RI.len (Reads.of_own HMB.out.tr)
        have hn1 : m1.nt + 1 ≤ 1000000000 := by omega
        have HM1 : Hid (tranP s.data.toList m.ts k bad = tranP s.data.toList m1.ts k1 false) := by
          show _ = _
          have h1 := HME.out
          rw [if_pos rfl] at h1
          exact h1
        have HPX := hide HPC.out.drew
        have HNU := hide (number_st s k1 c false wr.drew HPX.out.cu hk1 hs')
        obtain ⟨x, hx⟩ : ∃ x, x = nV s.data.toList k1 := ⟨_, rfl⟩
        obtain ⟨k2, hk2e⟩ : ∃ k2, k2 = nK s.data.toList k1 := ⟨_, rfl⟩
        obtain ⟨b2, hb2e⟩ : ∃ b2, b2 = nB s.data.toList k1 false := ⟨_, rfl⟩
        have hge := nK_ge s.data.toList k1
        have hle := nK_le (s := s) hk1
        rw [← hk2e] at hge hle
        have hk2 := hle
        rw [← hx, ← hk2e, ← hb2e] at HNU
        have HMORE : Hid (hereB 44 (s.data.toList.drop k2) = true → tranP s.data.toList m.ts k bad = tranP s.data.toList (m1.ts ++ [x]) (k2 + 1) b2) := fun hB => by
          rw [HM1.out, tranP_more m1.ts (by rw [← hk2e]; exact hB), ← hx, ← hk2e, ← hb2e]
        have HLAST : Hid (hereB 44 (s.data.toList.drop k2) = false → tranP s.data.toList m.ts k bad = (m1.ts ++ [x], k2, b2)) := fun hB => by
          rw [HM1.out, tranP_last m1.ts (by rw [← hk2e]; exact hB), ← hx, ← hk2e, ← hb2e]
        obtain ⟨i3, hi3, hz3, hs3, hb3⟩ := info_parts info3
        have I3 := hide hi3
        have Z3 := hide hz3
        clear hx hk2e hb2e hi3 hz3 hlen0
        go_upto_region 16 with fail
        have HX : Hid (Blk wr.drew p 48 m1.cs) := HPX.out.box
        refine wp_region_L [9, 10, 11] (fun V => Blk V p 48 m1.cs) (by kernel_rfl) ?_
        refine wpL_take 0 (oi := ⟨some 88, _, _, _, _, _⟩) (v := ?_) rfl (by kernel_rfl) (by kernel_rfl) (by kernel_rfl) (by kernel_rfl) (fun _ _ _ h => h) (Or.inl ⟨by rfl, ?_⟩) HX.out ?_
        rotate_left
        · intro V hV
          go_simp
          try with_reducible rfl
        try simp only [Act.put, List.setIfInBounds_toArray, List.set_cons_zero, List.set_cons_succ]
        refine wpL_take 1 (oi := ⟨some 89, _, _, _, _, _⟩) (v := ?_) rfl (by kernel_rfl) (by kernel_rfl) (by kernel_rfl) (by kernel_rfl) (fun _ _ _ h => h) (Or.inl ⟨by rfl, ?_⟩) HX.out ?_
        rotate_left
        · intro V hV
          go_simp
          try with_reducible rfl
        try simp only [Act.put, List.setIfInBounds_toArray, List.set_cons_zero, List.set_cons_succ]
        refine wpL_take 2 (oi := ⟨some 90, _, _, _, _, _⟩) (v := ?_) rfl (by kernel_rfl) (by kernel_rfl) (by kernel_rfl) (by kernel_rfl) (fun _ _ _ h => h) (Or.inl ⟨by rfl, ?_⟩) HX.out ?_
        rotate_left
        · intro V hV
          go_simp
          try with_reducible rfl
        try simp only [Act.put, List.setIfInBounds_toArray, List.set_cons_zero, List.set_cons_succ]
        refine wpL_take 3 (oi := ⟨some 91, _, _, _, _, _⟩) (v := ?_) rfl (by kernel_rfl) (by kernel_rfl) (by kernel_rfl) (by kernel_rfl) (fun _ _ _ h => h) (Or.inl ⟨by rfl, ?_⟩) HX.out ?_
        rotate_left
        · intro V hV
          go_simp
          try with_reducible rfl
        try simp only [Act.put, List.setIfInBounds_toArray, List.set_cons_zero, List.set_cons_succ]
        refine wpL_take 4 (oi := ⟨some 92, _, _, _, _, _⟩) (v := ?_) rfl (by kernel_rfl) (by kernel_rfl) (by kernel_rfl) (by kernel_rfl) (fun _ _ _ h => h) (Or.inl ⟨by rfl, ?_⟩) HX.out ?_
        rotate_left
        · intro V hV
          have k8 := mb9 hV
          go_simp
          try with_reducible rfl
        try simp only [Act.put, List.setIfInBounds_toArray, List.set_cons_zero, List.set_cons_succ]
        refine wpL_take 5 (oi := ⟨some 93, _, _, _, _, _⟩) (v := ?_) rfl (by kernel_rfl) (by kernel_rfl) (by kernel_rfl) (by kernel_rfl) (fun _ _ _ h => h) (Or.inl ⟨by rfl, ?_⟩) HX.out ?_
        rotate_left
        · intro V hV
          go_simp
          try with_reducible rfl
        try simp only [Act.put, List.setIfInBounds_toArray, List.set_cons_zero, List.set_cons_succ]
        refine wpL_one 6 (by kernel_rfl) rfl (fun K hK => ?_)
        rw [if_pos (by rfl)]
        go_simp
        go_at_call 44
        refine HNU.out.mono ?_
        rintro e w2 ⟨rfl, hcu2, hon2⟩
        have HP2 := hide (HPX.out.cur hcu2 hon2)
        have HL2 := hide ((below_drewN HLW.out 1).trans (HPX.out.lowc hon2))
        have HX2 : Hid (Blk w2 p 48 m1.cs) := HP2.out.box
        clear hcu2 hon2
        refine hK _ _ (fun _ => HX2.out) ?_
        clear hK K
        try simp only [Act.put, List.setIfInBounds_toArray, List.set_cons_zero, List.set_cons_succ]
        have HP5 : Hid (PC (w2.alloc (.cells #[.int .i64 x] 3)) b p c m1 s k2 b2) := HP2.out.step ((Below.refl _ _).alloc (Nat.le_refl _) _)
        have HL5 : Hid (Below b w (w2.alloc (.cells #[.int .i64 x] 3))) := HL2.out.alloc HP2.out.bw _
        have hK3 := Blk.new w2 3 #[.int .i64 x]
        refine wpL_one 7 (by kernel_rfl) rfl (fun K hK => ?_)
        rw [if_pos (by rfl)]
        go_simp
        refine hK _ _ (fun _ => HP5.out.box) ?_
        clear hK K
        try simp only [Act.put, List.setIfInBounds_toArray, List.set_cons_zero, List.set_cons_succ]
        refine wpL_one 8 (by kernel_rfl) rfl (fun K hK => ?_)
        refine step_push _ rfl (.tmp 92) (.tmp 95) 41 rfl b 3 i3 _ 1 8 Tryd.underlying41 I3.out Z3.out hs3 hb3 rfl (by omega) (.slice m1.At m1.nt m1.ct) m1.nt (ints m1.ts) rfl HP5.out.t.tr w2.heap.size 1 1 #[.int .i64 x] rfl hK3 rfl (by simp [Value.oneCell']) (by omega) (by unfold maxLen; omega) (by omega) HP5.out.bw ?_
        intro g7 c7 w7 hown7 hgr7 _ _
        have HX7 : Hid (Blk w7 p 48 m1.cs) := HP5.out.box.grown hgr7 (own_ne HP5.out.t.tr HP5.out.box (by decide))
        obtain ⟨m2, hm2⟩ : ∃ m2 : Mk, m2 = { m1 with At := some ⟨g7, 0, none⟩, nt := m1.nt + 1, ct := c7, ts := m1.ts ++ [x] } := ⟨_, rfl⟩
        have HNL : Hid (m2.ts = m1.ts ++ [x]) := by show _ = _; rw [hm2]
        have HPN : Hid (m2.pm = { m.pm with ts := m2.ts }) := by
          show _ = _
          rw [hm2]
          show ({ m1.pm with ts := m1.ts ++ [x] } : PM) = _
          rw [HPM0.out]
        have HP8 : Hid (PC (w7.setCell ⟨p, 9, none⟩ (.slice (some ⟨g7, 0, none⟩) (m1.nt + 1) c7)) b p c m2 s k2 b2 ∧ Below b (w2.alloc (.cells #[.int .i64 x] 3)) (w7.setCell ⟨p, 9, none⟩ (.slice (some ⟨g7, 0, none⟩) (m1.nt + 1) c7))) := by
          show _ ∧ _
          rw [hm2]
          exact HP5.out.pushT hown7 hgr7 hn1
        clear hm2 hown7 hgr7 hK3
        refine hK _ _ (fun _ => HX7.out) ?_
        clear hK K
        try simp only [Act.put, List.setIfInBounds_toArray, List.set_cons_zero, List.set_cons_succ]
        refine wpL_takeU 9 (oi := ⟨some 97, _, _, _, _, _⟩) (v := ?_) rfl (by kernel_rfl) (by kernel_rfl) (by kernel_rfl) (by kernel_rfl) (fun _ _ _ h => h) (Or.inl ⟨by rfl, ?_⟩) ?_
        rotate_left
        · intro V hV
          go_simp
          try with_reducible rfl
        try simp only [Act.put, List.setIfInBounds_toArray, List.set_cons_zero, List.set_cons_succ]
        refine wpL_takeU 10 (oi := ⟨some 98, _, _, _, _, _⟩) (v := ?_) rfl (by kernel_rfl) (by kernel_rfl) (by kernel_rfl) (by kernel_rfl) (fun _ _ _ h => h) (Or.inl ⟨by rfl, ?_⟩) ?_
        rotate_left
        · intro V hV
          go_simp
          try with_reducible rfl
        try simp only [Act.put, List.setIfInBounds_toArray, List.set_cons_zero, List.set_cons_succ]
        have c8 := mb9 HX7.out
        have f8 := Blk.frozen HX7.out 9
        refine wpL_one 11 (by kernel_rfl) rfl (fun K hK => ?_)
        rw [if_pos (by rfl)]
        go_simp
        refine hK _ _ (fun h => by cases h) ?_
        clear hK K
        try simp only [Act.put, List.setIfInBounds_toArray, List.set_cons_zero, List.set_cons_succ]
        refine wpL_done (by kernel_rfl) ?_ _
        obtain ⟨w8, hw8⟩ : ∃ w8, w8 = w7.setCell ⟨p, 9, none⟩ (.slice (some ⟨g7, 0, none⟩) (m1.nt + 1) c7) := ⟨_, rfl⟩
        rw [← hw8] at HP8 ⊢
        have HPQ := hide HP8.out.1
        have HLQ := hide (HL5.out.trans HP8.out.2)
        clear hw8 c8 f8 c2 HP8
        cases hB : hereB 44 (s.data.toList.drop k2) with
        | true =>
          have HH := hide (here_st 44 s k2 c b2 w8 HPQ.out.cu hk2 hs' hB)
          have hlt := here_lt hB
          rw [str_len] at hlt
          have hw1 : (0 : Int) ≤ (k2 : Int) := by omega
          have HMN : Hid (tranP s.data.toList m.ts k bad = tranP s.data.toList (m1.ts ++ [x]) (k2 + 1) b2) := HMORE.out hB
          clear hB
          go_upto_region 19 with (go_at_call 60; refine HH.out.mono ?_; rintro e w9 ⟨rfl, hcu9, hon9⟩; have HP9 := hide (HPQ.out.cur hcu9 hon9); have HL9 := hide (HLQ.out.trans (HPQ.out.lowc hon9)); clear hcu9 hon9)
          have c1 := cu1 HP9.out.cu
          have f1 := Blk.frozen (t := 84) HP9.out.cu 1
          have hkk : ((k2 + 1 : Nat) : Int) = (k2 : Int) + 1 := by omega
          go_wp2_with fail
          generalize hwa : World.setCell _ _ _ = wa
          have HPA : Hid (PC wa b p c m2 s (k2 + 1) b2) := by
            show PC _ _ _ _ _ _ _ _
            rw [← hwa, ← hkk]
            exact HP9.out.cur (Cu.set0 HP9.out.cu (k2 + 1)) (only_setCell0 _ _ _ _)
          have HLA : Hid (Below b w wa) := by
            show Below _ _ _
            rw [← hwa]
            exact HL9.out.trans (HP9.out.lowc (only_setCell0 _ _ _ _))
          clear hwa c1 f1 hkk
          have HLX : Hid (QTra m s k bad b p c w (.bool true) wa) := ⟨true, m2, k2 + 1, b2, rfl, HPA.out, by omega, HPN.out, HLA.out, by rw [if_pos rfl, HMN.out, HNL.out], fun _ => by rw [HNL.out, List.length_append, List.length_singleton]; omega⟩
          have hat := HPA.out.cu.at_
          have hat0 := HPC.out.cu.at_
          have HAT := hide hat
          have HAT0 := hide hat0
          clear hat hat0
          go_roundw
          case rel => first | exact HLX.out | exact ⟨_, HLX.out, rfl⟩ | exact ⟨_, _, HLX.out, rfl, rfl⟩
          case measure =>
            simp only [qmeas, HAT.out, HAT0.out]
            omega
        | false =>
          have HH := hide (here_st 44 s k2 c b2 w8 HPQ.out.cu hk2 hs' hB)
          have HMN : Hid (tranP s.data.toList m.ts k bad = ((m1.ts ++ [x]), k2, b2)) := HLAST.out hB
          clear hB
          go_wp2_with (go_at_call 60; refine HH.out.mono ?_; rintro e w9 ⟨rfl, hcu9, hon9⟩; have HP9 := hide (HPQ.out.cur hcu9 hon9); have HL9 := hide (HLQ.out.trans (HPQ.out.lowc hon9)); clear hcu9 hon9)
          have HLX : Hid (QTra m s k bad b p c w (.bool false) w9) := ⟨false, m2, k2, b2, rfl, HP9.out, hk2, HPN.out, HL9.out, by rw [if_neg (by decide), HMN.out, HNL.out], fun h => by cases h⟩
          have hat0 := HPC.out.cu.at_
          have HAT0 := hide hat0
          clear hat0
          go_roundw
          case rel => first | exact HLX.out | exact ⟨_, HLX.out, rfl⟩ | exact ⟨_, _, HLX.out, rfl, rfl⟩
          case measure =>
            simp only [qmeas, HAT0.out]
            omega
/-- The program's part. -/
theorem part_all (nm s : ByteArray) (m : Mk) (b p c k : Nat) (bad : Bool) (w : World) (h : PC w b p c m s k bad) (hk : k ≤ s.size) (hs : s.size ≤ 130000000) (hz : m.nm ≤ 140000000) (hzt : m.nt ≤ 140000000) :
    Calls Tryd.prog 47 #[.pointer (some ⟨c, 0, none⟩), .pointer (some ⟨p, 0, none⟩), .string nm] w fun e w' => PartR (partP s.data.toList nm.data.toList m.pm k bad) b p c s w e w' := by
  unfold partP
  by_cases h0 : nm.data.toList = [105, 100]
  · rw [if_pos h0]
    exact part_id nm s m b p c k bad w h hk hs hz hzt h0
  rw [if_neg h0]
  by_cases h1 : nm.data.toList = [109, 101, 109, 98, 101, 114, 115]
  · rw [if_pos h1]
    exact part_mem nm s m b p c k bad w h hk hs hz hzt h1
  rw [if_neg h1]
  by_cases h2 : nm.data.toList = [116, 114, 97, 110, 115]
  · rw [if_pos h2]
    exact part_tra nm s m b p c k bad w h hk hs hz hzt h2
  rw [if_neg h2]
  by_cases h3 : nm.data.toList = [115, 101, 110, 100, 101, 114]
  · rw [if_pos h3]
    exact part_se nm s m b p c k bad w h hk hs hz hzt h3
  rw [if_neg h3]
  by_cases h4 : nm.data.toList = [115, 101, 113]
  · rw [if_pos h4]
    exact part_sq nm s m b p c k bad w h hk hs hz hzt h4
  rw [if_neg h4]
  by_cases h5 : nm.data.toList = [112, 111, 115]
  · rw [if_pos h5]
    exact part_po nm s m b p c k bad w h hk hs hz hzt h5
  rw [if_neg h5]
  by_cases h6 : nm.data.toList = [110]
  · rw [if_pos h6]
    exact part_n nm s m b p c k bad w h hk hs hz hzt h6
  rw [if_neg h6]
  by_cases h7 : nm.data.toList = [98, 111, 100, 121]
  · rw [if_pos h7]
    exact part_bd nm s m b p c k bad w h hk hs hz hzt h7
  rw [if_neg h7]
  by_cases h8 : nm.data.toList = [99, 109, 100]
  · rw [if_pos h8]
    exact part_cmd nm s m b p c k bad w h hk hs hz hzt h8
  rw [if_neg h8]
  by_cases h9 : nm.data.toList = [114, 101, 115, 117, 108, 116]
  · rw [if_pos h9]
    exact part_res nm s m b p c k bad w h hk hs hz hzt h9
  rw [if_neg h9]
  by_cases h10 : nm.data.toList = [101, 114, 114]
  · rw [if_pos h10]
    exact part_er nm s m b p c k bad w h hk hs hz hzt h10
  rw [if_neg h10]
  exact part_no nm s m b p c k bad w h h0 h1 h2 h3 h4 h5 h6 h7 h8 h9 h10
end Go.Proofs.YtenebkkfjalcaaaDoor.Wide
