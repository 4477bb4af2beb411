/-
  The law's sound: a script whose events may all be written. (Printed by wip/tools/mksou.py.)
-/
import Derived.Test.YtcibcmfaebbhnaaGreatDoorZRdw
import Derived.Test.YtcibcmfaebbhnaaGreatDoorZRpv
import Derived.Test.YtcibcmfaebbhnaaGreatDoorZWords
set_option linter.unusedVariables false
set_option linter.unusedSimpArgs false
namespace Go.Proofs.YtcibcmfaebbhnaaGreatDoor
open Go.RowKit Go.WideShapes Go.ChangeShapes Q
/-- An event that may be written, or none. -/
noncomputable def fixE (n : Int) (e : Ev) : Ev := if (printE n e).2 = 0 then e else Ev.zero
/-- The script that may be written, and whether it is one. -/
noncomputable def soundS (s : Sc) : Sc × Bool := if s.c.err = 0 then (if 4000 < s.es.length then (s, false) else (⟨s.c, s.es.map (fixE s.c.nodes)⟩, true)) else (s, false)
theorem zero_ok {w : World} {B : Nat} : EmU w B Em.zero ∧ EvOk Em.zero := by
  refine ⟨EmU.zero _ _, ?_⟩
  exact ⟨⟨by decide, by decide⟩, ⟨by decide, by decide⟩, ⟨by decide, by decide⟩, fun x hx => (by cases hx), ⟨by decide, by decide⟩, by decide⟩
def SouP (s : Sm) (w : World) (e : Ending) (w' : World) : Prop := ∃ (s' : Sm) (ok : Bool), e = .returned (.tuple #[.agg s'.cs, .bool ok]) ∧ soundS s.sc = (s'.sc, ok) ∧ SmV w' w.heap.size s' ∧ (∀ m ∈ s'.ms, EvOk m) ∧ Below w.heap.size w w'
theorem emCells_put (l : List Em) (j : Nat) (x : Em) (hj : j < l.length) : (emCells l).take (j * 13) ++ x.cs.toList ++ (emCells l).drop (j * 13 + 13) = emCells (l.set j x) := by
  induction l generalizing j with
  | nil => simp at hj
  | cons a r ih =>
    have ha : a.cs.toList.length = 13 := by rw [Array.length_toList, em_size]
    cases j with
    | zero =>
      show x.cs.toList ++ (a.cs.toList ++ emCells r).drop (0 + 13) = x.cs.toList ++ emCells r
      rw [Nat.zero_add, ← ha, List.drop_left]
    | succ j =>
      show (a.cs.toList ++ emCells r).take ((j + 1) * 13) ++ x.cs.toList ++ (a.cs.toList ++ emCells r).drop ((j + 1) * 13 + 13) = a.cs.toList ++ emCells (r.set j x)
      rw [← ih j (by simp at hj; omega), show (j + 1) * 13 = a.cs.toList.length + j * 13 by omega, List.take_length_add_append, show a.cs.toList.length + j * 13 + 13 = a.cs.toList.length + (j * 13 + 13) by omega, List.drop_length_add_append]
      simp
/-- An event put at a place of a row of the call's own. -/
theorem own_put {w : World} {base ge n cap j : Nat} {ms : List Em} (h : w.ownsRow base 33 13 (.slice (some ⟨ge, 0, none⟩) n cap) n (emCells ms)) (hl : ms.length = n) (hj : j < n) (m : Em) :
    ∃ cur, Blk w ge 33 cur ∧ j * 13 + 13 ≤ cur.size ∧ (w.setRow ge (putAt cur (j * 13) m.cs)).ownsRow base 33 13 (.slice (some ⟨ge, 0, none⟩) n cap) n (emCells (ms.set j m)) := by
  rcases h.2 with ⟨h0, _⟩ | ⟨g2, cap2, cur, e, hge, hg, hcp, hmx, hsz, htk⟩
  · cases h0
  · injection e with e1 e2 e3
    injection e1 with e1
    injection e1 with e1
    subst e1 e3
    have hcs : cur.toList.length = cap * 13 := by simpa using hsz
    have hc : Blk w ge 33 cur := hg
    refine ⟨cur, hc, by rw [Array.length_toList] at hcs; omega, ?_⟩
    obtain ⟨new, hnew⟩ : ∃ new, new = putAt cur (j * 13) m.cs := ⟨_, rfl⟩
    rw [← hnew]
    have hm13 : m.cs.toList.length = 13 := by rw [Array.length_toList, em_size]
    refine ⟨by rw [emCells_len]; simp [hl], .inr ⟨ge, cap, new, rfl, hge, hc.row new, hcp, hmx, ?_, ?_⟩⟩
    · rw [hnew]
      unfold putAt
      rw [em_size]
      simp only [List.size_toArray, List.length_append, List.length_take, List.length_drop, hcs, hm13]
      omega
    · rw [← emCells_put ms j m (by rw [hl]; exact hj), ← htk, hnew]
      unfold putAt
      rw [em_size]
      simp only [List.take_take, List.drop_take]
      apply List.ext_getElem?
      intro i
      simp only [List.getElem?_take, List.getElem?_append, List.length_append, List.length_take, List.getElem?_drop, hcs, hm13]
      have h1 : min (j * 13) (cap * 13) = j * 13 := by omega
      have h2 : min (min (j * 13) (n * 13)) (cap * 13) = j * 13 := by omega
      have h3 : min (j * 13) (n * 13) = j * 13 := by omega
      rw [h1, h2, h3]
      by_cases hi : i < j * 13 + 13
      · rw [if_pos (show i < n * 13 by omega)]
        by_cases hi2 : i < j * 13
        · simp [hi2, hi]
        · simp [hi2, hi]
      · by_cases hi3 : i < n * 13
        · rw [if_pos hi3]
          simp [hi, show ¬ i < j * 13 by omega, show j * 13 + 13 + (i - (j * 13 + 13)) < n * 13 by omega]
          omega
        · rw [if_neg hi3]
          simp [hi, show ¬ i < j * 13 by omega]
          omega
/-- What the loop keeps: the copy's box at g, its lists of its own. -/
def SnJ (s : Sm) (W2 : World) (base g : Nat) (A1 : Option Addr) (k1 : Nat) (Ae1 : Option Addr) (ke1 n : Nat) (i : Value) (wr : World) : Prop := ∃ (j : Nat) (ms' : List Em), j ≤ n ∧ i = .int .i64 j ∧ ms'.length = n ∧ ms'.map Em.ev = (s.sc.es.take j).map (fixE s.c.nodes) ++ s.sc.es.drop j ∧ (∀ m ∈ ms', EvOk m ∧ EmU wr base m) ∧
  Blk wr g 27 (Sm.cs ⟨s.c, A1, k1, Ae1, ke1, ms'⟩) ∧ wr.ownsRow base 33 13 (.slice Ae1 n ke1) n (emCells ms') ∧ wr.ownsRow base 3 1 (.slice A1 s.c.votes.length k1) s.c.votes.length (ints s.c.votes) ∧ Below base W2 wr
theorem results_47d {w : World} {g : Nat} {cs : Array Value} {fn : Func} {p u : Tmp} (h : fn.results = #[.cell p 27, .tmp u]) (tmps : Array Value) (hp : tmps.getD p undef = .pointer (some ⟨g, 0, none⟩)) (hb : Blk w g 27 cs) (hc : cs.size = 9) {v : Value} (hv : tmps.getD u undef = v) : (results fn tmps).run Tryz.prog w = .ok (.tuple #[.agg cs, v]) w := by
  have h0 : (results fn tmps).run Tryz.prog w = ((asAddr (tmps.getD p undef)).run Tryz.prog w).andThen fun a w₁ => ((loadVar 27 a).run Tryz.prog w₁).andThen fun x w₂ => .ok (.tuple #[x, tmps.getD u undef]) w₂ := by
    simp [results, h, Sem.run_bind, Result.andThen]
  rw [h0, hp, hv]
  have h1 := run_load47 hb hc
  simp [Result.andThen, asAddr, h1]
set_option maxRecDepth 100000 in
set_option maxHeartbeats 4000000 in
theorem sound_any (s : Sm) (w : World) (h : SmIn w w.heap.size s) (hv : s.c.votes.length ≤ 1048576) (hn : s.ms.length ≤ 1048576) (hm : ∀ m ∈ s.ms, EvOk m) :
    Calls Tryz.prog 27 #[.agg s.cs] w fun e w' => SouP s w e w' := by
  have HIN := hide h
  have HM := hide hm
  have HSCO : Hid (∀ W, Below w.heap.size w W → Calls Tryz.prog 22 #[.agg s.cs] W fun e w' => ScoP s W e w') := fun W hb =>
    scriptOf_any s W ((h.below hb).up hb.size) (by omega) (by omega) (fun m hmm => by have := (hm m hmm).bulk; omega)
  have h022 := err_cases s.c
  obtain ⟨C0, hC0⟩ : ∃ C0, C0 = s.cs := ⟨_, rfl⟩
  rw [← hC0]
  have HC0 := hide hC0
  clear hC0 h hm
  go_enter Tryz.func27, Tryz.ntmps27
  go_upto_region 1 with fail
  obtain ⟨Z, hZ0, hZs⟩ : ∃ Z : Array Value, Z = Sm.zero.cs ∧ Z.size = 9 := ⟨_, rfl, rfl⟩
  generalize hW0 : World.alloc (World.alloc w _) _ = W0
  have HP0 : Hid (Blk W0 w.heap.size 27 s.cs) := by
    show Blk _ _ _ _
    rw [← hW0, HC0.out]
    exact (Blk.new _ _ _).alloc _
  have HR0 : Hid (Blk W0 (w.heap.size + 1) 27 Z) := by
    show Blk _ _ _ _
    rw [← hW0, hZ0]
    exact blk_new _ _ _ _ (by simp)
  have hb0 : Below w.heap.size w W0 := by
    rw [← hW0]
    exact ((Below.refl _ _).alloc (Nat.le_refl _) _).alloc (by simp) _
  have HW0 := hide hb0
  have hs0 : w.heap.size + 1 < W0.heap.size := HR0.out.lt
  clear hW0 hZ0 hb0
  refine wp_region_lit ?_
  refine wpList_value rfl (.agg s.cs) (ex_load 27 (.tmp 1) rfl _ rfl _ _ Tryz.underlying27 rfl (ld47 _ (sm_size _)) (box_all HP0.out)) ?_
  try simp only [Act.put, aSt, aSz, aSs]
  refine wpList_step (fun K hK => ?_)
  rw [if_pos (by rfl)]
  go_simp
  go_at_call 22
  refine (HSCO.out W0 HW0.out).mono ?_
  rintro e w1 ⟨s1, rfl, hse, hu1, _, hb1⟩
  obtain ⟨c1, A1, k1, Ae1, ke1, ms1⟩ := s1
  have hc1 : c1 = s.c := congrArg Sc.c hse
  subst hc1
  have HSE := hide hse
  have HU1 := hide hu1
  have HR1 := hide (HR0.out.below hb1 HR0.out.lt)
  have HW1 := hide (HW0.out.trans (hb1.mono HW0.out.size))
  have hs1 : W0.heap.size ≤ w1.heap.size := hb1.size
  refine hK _ _ ?_
  clear hK K hse hu1 hb1 HSCO HP0 HR0
  try simp only [Act.put, aSt, aSz, aSs]
  refine wpList_step (fun K hK => ?_)
  rw [if_pos (by rfl)]
  go_simp
  refine hK _ _ ?_
  clear hK K
  refine wpList_store_fresh rfl 27 (.tmp 4) (.tmp 9) rfl _ (Sm.cs ⟨s.c, A1, k1, Ae1, ke1, ms1⟩) rfl rfl (ld47 _ (sm_size _)) rfl (sm_all _) ?_
  try simp only [Act.put, aSt, aSz, aSs]
  obtain ⟨W2, hW2⟩ : ∃ W2, W2 = World.alloc w1 (.cells (Sm.cs ⟨s.c, A1, k1, Ae1, ke1, ms1⟩) 27) := ⟨_, rfl⟩
  obtain ⟨g, hg⟩ : ∃ g, g = w1.heap.size := ⟨_, rfl⟩
  have hal : Below w1.heap.size w1 W2 := by rw [hW2]; exact (Below.refl _ _).alloc (Nat.le_refl _) _
  have HX2 : Hid (Blk W2 g 27 (Sm.cs ⟨s.c, A1, k1, Ae1, ke1, ms1⟩)) := by show Blk _ _ _ _; rw [hW2, hg]; exact Blk.new _ _ _
  have HU2 := hide (HU1.out.step hal)
  have HR2 := hide (HR1.out.below hal HR1.out.lt)
  have HB2 := hide (HW1.out.trans (hal.mono HW1.out.size))
  have hgl : w.heap.size + 1 < g := by rw [hg]; omega
  have hgb : W0.heap.size ≤ g := by rw [hg]; exact hs1
  rw [← hW2]
  try rw [← hg]
  clear hW2 hg hal HU1 HR1 HW1 hs1
  have hsw2 : w.heap.size ≤ W2.heap.size := HB2.out.size
  have HVL : Hid (s.c.votes.length ≤ 10000000) := HU2.out.hv
  have HMB : Hid (ms1.length ≤ 10000000) := HU2.out.hn
  have HOK1 : Hid (∀ m ∈ ms1, EvOk m) := copy_ok (w := w) (w' := W2) (s := s) (s' := ⟨s.c, A1, k1, Ae1, ke1, ms1⟩) HSE.out HM.out HIN.out.ent (fun m hm => (HU2.out.ent m hm).inn)
  have HES : Hid (ms1.map Em.ev = s.sc.es) := congrArg Sc.es HSE.out
  obtain ⟨n, hnn⟩ : ∃ n, n = ms1.length := ⟨_, rfl⟩
  have HN := hide hnn
  have hnb : n ≤ 1048576 := by
    have h1 := congrArg List.length HES.out
    have h2 : s.sc.es.length = s.ms.length := List.length_map _
    rw [List.length_map] at h1
    omega
  have HEL : Hid (s.sc.es.length = n) := by show _ = _; rw [hnn, ← HES.out, List.length_map]
  clear hnn
  have HCK : Hid (Calls Tryz.prog 26 #[.agg (cfC s.c A1 k1)] W2 fun e w' => e = .returned (.int .i64 s.c.err) ∧ Below W2.heap.size W2 w') := by
    refine (rcheck_any s.c.nodes s.c.window s.c.base s.c.step s.c.cap s.c.room s.c.floor s.c.votes A1 s.c.votes.length k1 W2 HU2.out.inn.vot (by have := HVL.out; omega)).mono ?_
    rintro e w' ⟨h1, rfl⟩
    exact ⟨h1, (Below.refl _ _).alloc (Nat.le_refl _) _⟩
  obtain ⟨er, her⟩ : ∃ er, er = s.c.err := ⟨_, rfl⟩
  rw [← her] at HCK h022
  have HER := hide her
  clear her
  have HNO : Hid (∀ (W : World), Below W2.heap.size W2 W → soundS s.sc = (s.sc, false) → SouP s w (.returned (.tuple #[.agg (Sm.cs ⟨s.c, A1, k1, Ae1, ke1, ms1⟩), .bool false])) (W.setRow (w.heap.size + 1) (Sm.cs ⟨s.c, A1, k1, Ae1, ke1, ms1⟩))) := fun W hb hS => by
    have hR := HR2.out.below hb HR2.out.lt
    have hU := HU2.out.step hb
    have hWW := only_setRow W (w.heap.size + 1) (Sm.cs ⟨s.c, A1, k1, Ae1, ke1, ms1⟩)
    refine ⟨⟨s.c, A1, k1, Ae1, ke1, ms1⟩, false, rfl, by rw [hS, HSE.out], ?_, HOK1.out, ?_⟩
    · have hU' : SmV W w.heap.size ⟨s.c, A1, k1, Ae1, ke1, ms1⟩ := ⟨own_base hU.vot (by omega), own_base hU.row (by omega), fun m hm => (hU.ent m hm).base (by omega), hU.hv, hU.hn⟩
      exact SmV.far hU' hR (by decide) (by decide) (by decide) hWW
    · have hB := HB2.out.trans (hb.mono hsw2)
      exact hB.trans (hWW.below hB.size (fun k hk e => by have e2 : k = w.heap.size + 1 := e; omega))
  have k8 : W2.cell? ⟨g, 8, none⟩ = some (.slice Ae1 n ke1) := by rw [HN.out]; exact HX2.out.cell 8
  rcases h022 with ⟨he, hok⟩ | he
  rotate_left
  · have HS : Hid (soundS s.sc = (s.sc, false)) := by
      show _ = _
      unfold soundS
      have h1 : s.sc.c.err = 22 := HER.out.symm.trans he
      rw [if_neg (by rw [h1]; decide)]
    subst he
    go_upto_region 3 with first
      | (refine wpList_gvalue (by rfl) (.agg (cfC s.c A1 k1)) (ex_load 24 (.tmp 10) rfl _ rfl _ _ Tryz.underlying24 rfl (ld44 _ rfl) (sm_pre HX2.out)) ?_)
      | (go_at_call 26; refine HCK.out.mono ?_; rintro e w3 ⟨rfl, hb3⟩; have HB3 := hide hb3; clear hb3)
    have HX3 := hide (HX2.out.below HB3.out HX2.out.lt)
    have HR3 := hide (HR2.out.below HB3.out HR2.out.lt)
    go_wp2_with first
      | (refine wpList_gvalue (by rfl) (.agg (Sm.cs ⟨s.c, A1, k1, Ae1, ke1, ms1⟩)) (ex_load 27 (.tmp 4) rfl _ rfl _ _ Tryz.underlying27 rfl (ld47 _ (sm_size _)) (box_all HX3.out)) ?_)
      | (refine wpList_put_at rfl 27 (.tmp 2) (.tmp 20) rfl (w.heap.size + 1) 0 (Sm.cs ⟨s.c, A1, k1, Ae1, ke1, ms1⟩) rfl rfl 27 Z HR3.out (ld47 _ (sm_size _)) (by rw [sm_size, hZs]; omega) (sm_all _) _ (sput Z _ hZs rfl) ?_)
    refine bodyPost_ret (results_47d rfl _ rfl (HR3.out.row _) rfl rfl) rfl ?_
    exact HNO.out w3 HB3.out HS.out
  subst he
  have HOK := hide hok
  clear hok
  by_cases hmany : 4000 < n
  · have HS : Hid (soundS s.sc = (s.sc, false)) := by
      show _ = _
      unfold soundS
      rw [if_pos (show s.sc.c.err = 0 from HER.out.symm), if_pos (by rw [HEL.out]; exact hmany)]
    have e1 : (4000 : Int) < (n : Int) := by omega
    have k8' : ∀ W, Below W2.heap.size W2 W → W.cell? ⟨g, 8, none⟩ = some (.slice Ae1 n ke1) := fun W hb => (hb.cell (p := ⟨g, 8, none⟩) HX2.out.lt).trans k8
    have HK8 := hide k8'
    clear k8 k8' hmany
    go_upto_region 3 with first
      | (refine wpList_gvalue (by rfl) (.agg (cfC s.c A1 k1)) (ex_load 24 (.tmp 10) rfl _ rfl _ _ Tryz.underlying24 rfl (ld44 _ rfl) (sm_pre HX2.out)) ?_)
      | (go_at_call 26; refine HCK.out.mono ?_; rintro e w3 ⟨rfl, hb3⟩; have HB3 := hide hb3; have k9 := HK8.out w3 hb3; clear hb3)
    have HX3 := hide (HX2.out.below HB3.out HX2.out.lt)
    have HR3 := hide (HR2.out.below HB3.out HR2.out.lt)
    clear k9
    go_wp2_with first
      | (refine wpList_gvalue (by rfl) (.agg (Sm.cs ⟨s.c, A1, k1, Ae1, ke1, ms1⟩)) (ex_load 27 (.tmp 4) rfl _ rfl _ _ Tryz.underlying27 rfl (ld47 _ (sm_size _)) (box_all HX3.out)) ?_)
      | (refine wpList_put_at rfl 27 (.tmp 2) (.tmp 20) rfl (w.heap.size + 1) 0 (Sm.cs ⟨s.c, A1, k1, Ae1, ke1, ms1⟩) rfl rfl 27 Z HR3.out (ld47 _ (sm_size _)) (by rw [sm_size, hZs]; omega) (sm_all _) _ (sput Z _ hZs rfl) ?_)
    refine bodyPost_ret (results_47d rfl _ rfl (HR3.out.row _) rfl rfl) rfl ?_
    exact HNO.out w3 HB3.out HS.out
  have e1 : ¬ (4000 : Int) < (n : Int) := by omega
  have HS : Hid (soundS s.sc = (⟨s.c, s.sc.es.map (fixE s.c.nodes)⟩, true)) := by
    show _ = _
    unfold soundS
    rw [if_pos (show s.sc.c.err = 0 from HER.out.symm), if_neg (by rw [HEL.out]; exact hmany)]
    rfl
  have k8' : ∀ W, Below W2.heap.size W2 W → W.cell? ⟨g, 8, none⟩ = some (.slice Ae1 n ke1) := fun W hb => (hb.cell (p := ⟨g, 8, none⟩) HX2.out.lt).trans k8
  have HK8 := hide k8'
  clear k8 k8'
  go_upto_region 4 with first
    | (refine wpList_gvalue (by rfl) (.agg (cfC s.c A1 k1)) (ex_load 24 (.tmp 10) rfl _ rfl _ _ Tryz.underlying24 rfl (ld44 _ rfl) (sm_pre HX2.out)) ?_)
    | (go_at_call 26; refine HCK.out.mono ?_; rintro e w3 ⟨rfl, hb3⟩; have HB3 := hide hb3; have k9 := HK8.out w3 hb3; clear hb3)
  have HX3 := hide (HX2.out.below HB3.out HX2.out.lt)
  have HR3 := hide (HR2.out.below HB3.out HR2.out.lt)
  have HU3 := hide (HU2.out.step HB3.out)
  have HW3 := hide (HB2.out.trans (HB3.out.mono hsw2))
  have HGB : Hid (W0.heap.size ≤ g) := hgb
  clear k9 HX2 HR2 HU2 HB2 HB3 HK8 HCK HNO
  have hsw3 : w.heap.size ≤ w3.heap.size := HW3.out.size
  have hn4 : n ≤ 4000 := by omega
  clear hmany
  have HL3 : Hid (SnJ s w3 W0.heap.size g A1 k1 Ae1 ke1 n (.int .i64 0) w3) := ⟨0, ms1, Nat.zero_le _, rfl, HN.out.symm, by rw [HES.out]; simp, fun m hm => ⟨HOK1.out m hm, HU3.out.ent m hm⟩, HX3.out, by have := HU3.out.row; rw [HN.out]; exact this, HU3.out.vot, Below.refl _ _⟩
  go_upto_region 5 with fail
  go_loopw [5] (fun i wr => SnJ s w3 W0.heap.size g A1 k1 Ae1 ke1 n i wr) (fun i _ => n - (intOf i).toNat)
  case atStart => exact HL3.out
  case round =>
    clear HL3 HX3 HU3
    unfold SnJ at hrel
    obtain ⟨j, ms', hj, rfl, hml, hme, hmo, hbx, hrow, hvo, hbr⟩ := hrel
    have HBX := hide hbx
    have HROW := hide hrow
    have HVO := hide hvo
    have HMO := hide hmo
    have HME := hide hme
    have HBR := hide hbr
    have HML := hide hml
    clear hbx hrow hvo hmo hme hbr hml
    have hswr : w3.heap.size ≤ wr.heap.size := HBR.out.size
    have j0 : (0 : Int) ≤ (j : Int) := by omega
    by_cases hlt : j < n
    · have js : (j : Int) < (n : Int) := by omega
      have hrow2 := HROW.out
      obtain ⟨b, off, m, hAe, hbB, hmj, qc⟩ := ems_at (w := wr) (B := wr.heap.size) (Reads.of_own HROW.out) HML.out hlt
      have hoff : off = 0 := by
        rw [hAe] at hrow2
        rcases hrow2.2 with ⟨h0, _⟩ | ⟨_, _, _, e, _⟩
        · cases h0
        · injection e with e _ _
          injection e with e
          injection e
      subst hoff
      subst hAe
      rw [Nat.zero_add] at qc
      have HQ := hide qc
      have k8 : wr.cell? ⟨g, 8, none⟩ = some (.slice (some ⟨b, 0, none⟩) n ke1) := by rw [← HML.out]; exact HBX.out.cell 8
      have kn0 : wr.cell? ⟨g, 0, none⟩ = some (.int .i64 s.c.nodes) := HBX.out.cell 0
      have HMM := hide (HMO.out m (List.mem_of_getElem? hmj))
      have HIM : Hid (EmIn wr wr.heap.size m) := HMM.out.2.inn
      have HJE : Hid (s.sc.es[j]? = some m.ev) := by
        show _ = _
        have h1 : (ms'.map Em.ev)[j]? = some m.ev := by rw [List.getElem?_map, hmj]; rfl
        have hel := HEL.out
        rw [HME.out, List.getElem?_append_right (by rw [List.length_map, List.length_take]; omega), List.length_map, List.length_take, List.getElem?_drop] at h1
        rw [← h1]
        congr 1
        omega
      have hpe := printE_err s.c.nodes m.ev HOK.out.nodes
      obtain ⟨px, hpx⟩ : ∃ px, px = (printE s.c.nodes m.ev).1 := ⟨_, rfl⟩
      obtain ⟨pn, hpn⟩ : ∃ pn, pn = (printE s.c.nodes m.ev).2 := ⟨_, rfl⟩
      have HPE : Hid (∀ W, EmIn W W.heap.size m → Calls Tryz.prog 16 #[.agg m.cs, .int .i64 s.c.nodes] W fun e w' => e = .returned (.tuple #[.string (S px), .int .i64 pn]) ∧ Below W.heap.size W w') := fun W h => by
        rw [hpx, hpn]
        exact rprint_ev m s.c.nodes W h HMM.out.1
      have HPN : Hid (pn = (printE s.c.nodes m.ev).2) := hpn
      rw [← hpn] at hpe
      have HMJ := hide hmj
      clear hpx hpn qc hrow2 hmj
      go_upto_region 7 with fail
      obtain ⟨wd, hwd⟩ : ∃ wd, wd = wr.drew := ⟨_, rfl⟩
      have HS0 : Hid ((fun V : World => V.cell? ⟨g, 8, none⟩ = some (.slice (some ⟨b, 0, none⟩) n ke1) ∧ V.cell? ⟨g, 0, none⟩ = some (.int .i64 s.c.nodes) ∧ ∀ j' v, m.cs[j']? = some v → V.cell? ((⟨b, j * 13, none⟩ : Addr).add j') = some v) wd) := by show _ ∧ _; rw [hwd]; exact ⟨k8, kn0, HQ.out⟩
      have hbd : Below wr.heap.size wr wd := by rw [hwd]; exact (Below.refl _ _).drew
      have HIM2 : Hid (EmIn wd wd.heap.size m) := by show EmIn _ _ _; rw [hwd]; exact HIM.out.drew
      refine wp_region_L [] (fun V : World => V.cell? ⟨g, 8, none⟩ = some (.slice (some ⟨b, 0, none⟩) n ke1) ∧ V.cell? ⟨g, 0, none⟩ = some (.int .i64 s.c.nodes) ∧ ∀ j' v, m.cs[j']? = some v → V.cell? ((⟨b, j * 13, none⟩ : Addr).add j') = some v) (by kernel_rfl) ?_
      rw [← hwd]
      clear hwd
      refine wpL_take 0 (oi := ⟨some 29, _, _, _, _, _⟩) (v := ?_) rfl (by kernel_rfl) (by kernel_rfl) (by kernel_rfl) (by kernel_rfl) (fun _ _ _ h => h) (Or.inl ⟨by rfl, ?_⟩) HS0.out ?_
      rotate_left
      · intro V hV
        go_simp
        try with_reducible rfl
      try simp only [Act.put, aSt, aSz, aSs]
      refine wpL_take 1 (oi := ⟨some 30, _, _, _, _, _⟩) (v := ?_) rfl (by kernel_rfl) (by kernel_rfl) (by kernel_rfl) (by kernel_rfl) (fun _ _ _ h => h) (Or.inl ⟨by rfl, ?_⟩) HS0.out ?_
      rotate_left
      · intro V hV
        have a1 := hV.1
        go_simp
        try with_reducible rfl
      try simp only [Act.put, aSt, aSz, aSs]
      refine wpL_take 2 (oi := ⟨some 31, _, _, _, _, _⟩) (v := ?_) rfl (by kernel_rfl) (by kernel_rfl) (by kernel_rfl) (by kernel_rfl) (fun _ _ _ h => h) (Or.inl ⟨by rfl, ?_⟩) HS0.out ?_
      rotate_left
      · intro V hV
        go_simp
        try with_reducible rfl
      try simp only [Act.put, aSt, aSz, aSs]
      refine wpL_take 3 (oi := ⟨some 32, _, _, _, _, _⟩) (v := ?_) rfl (by kernel_rfl) (by kernel_rfl) (by kernel_rfl) (by kernel_rfl) (fun _ _ _ h => h) (Or.inl ⟨by rfl, ?_⟩) HS0.out ?_
      rotate_left
      · intro V hV
        go_simp
        try with_reducible rfl
      try simp only [Act.put, aSt, aSz, aSs]
      refine wpL_take 4 (oi := ⟨some 33, _, _, _, _, _⟩) (v := .agg m.cs) rfl (by kernel_rfl) (by kernel_rfl) (by kernel_rfl) (by kernel_rfl) (fun _ _ _ h => h) (Or.inl ⟨by rfl, ?_⟩) HS0.out ?_
      · intro V hV
        exact ex_load 33 (.tmp 32) rfl _ rfl m.cs _ Tryz.underlying33 rfl (ld29 _ (em_size _)) hV.2.2
      try simp only [Act.put, aSt, aSz, aSs]
      refine wpL_take 5 (oi := ⟨some 34, _, _, _, _, _⟩) (v := ?_) rfl (by kernel_rfl) (by kernel_rfl) (by kernel_rfl) (by kernel_rfl) (fun _ _ _ h => h) (Or.inl ⟨by rfl, ?_⟩) HS0.out ?_
      rotate_left
      · intro V hV
        go_simp
        try with_reducible rfl
      try simp only [Act.put, aSt, aSz, aSs]
      refine wpL_take 6 (oi := ⟨some 35, _, _, _, _, _⟩) (v := ?_) rfl (by kernel_rfl) (by kernel_rfl) (by kernel_rfl) (by kernel_rfl) (fun _ _ _ h => h) (Or.inl ⟨by rfl, ?_⟩) HS0.out ?_
      rotate_left
      · intro V hV
        go_simp
        try with_reducible rfl
      try simp only [Act.put, aSt, aSz, aSs]
      refine wpL_take 7 (oi := ⟨some 36, _, _, _, _, _⟩) (v := ?_) rfl (by kernel_rfl) (by kernel_rfl) (by kernel_rfl) (by kernel_rfl) (fun _ _ _ h => h) (Or.inl ⟨by rfl, ?_⟩) HS0.out ?_
      rotate_left
      · intro V hV
        have a2 := hV.2.1
        go_simp
        try with_reducible rfl
      try simp only [Act.put, aSt, aSz, aSs]
      refine wpL_one 8 (by kernel_rfl) rfl (fun K hK => ?_)
      rw [if_pos (by rfl)]
      go_simp
      go_at_call 16
      refine (HPE.out wd HIM2.out).mono ?_
      rintro e w6 ⟨rfl, hb6⟩
      have HB6 : Hid (Below wr.heap.size wr w6) := hbd.trans (hb6.mono hbd.size)
      have HS6 : Hid ((fun V : World => V.cell? ⟨g, 8, none⟩ = some (.slice (some ⟨b, 0, none⟩) n ke1) ∧ V.cell? ⟨g, 0, none⟩ = some (.int .i64 s.c.nodes) ∧ ∀ j' v, m.cs[j']? = some v → V.cell? ((⟨b, j * 13, none⟩ : Addr).add j') = some v) w6) := ⟨(HB6.out.cell (p := ⟨g, 8, none⟩) HBX.out.lt).trans k8, (HB6.out.cell (p := ⟨g, 0, none⟩) HBX.out.lt).trans kn0, fun j' v hv => (HB6.out.cell (by rw [block_of_add]; exact hbB)).trans (HQ.out j' v hv)⟩
      refine hK _ _ (fun _ => HS6.out) ?_
      clear hK K hb6 hbd
      try simp only [Act.put, aSt, aSz, aSs]
      refine wpL_take 9 (oi := ⟨some 28, _, _, _, _, _⟩) (v := ?_) rfl (by kernel_rfl) (by kernel_rfl) (by kernel_rfl) (by kernel_rfl) (fun _ _ _ h => h) (Or.inl ⟨by rfl, ?_⟩) HS6.out ?_
      rotate_left
      · intro V hV
        go_simp
        try with_reducible rfl
      try simp only [Act.put, aSt, aSz, aSs]
      refine wpL_take 10 (oi := ⟨some 38, _, _, _, _, _⟩) (v := ?_) rfl (by kernel_rfl) (by kernel_rfl) (by kernel_rfl) (by kernel_rfl) (fun _ _ _ h => h) (Or.inl ⟨by rfl, ?_⟩) HS6.out ?_
      rotate_left
      · intro V hV
        go_simp
        try with_reducible rfl
      try simp only [Act.put, aSt, aSz, aSs]
      refine wpL_take 11 (oi := ⟨some 39, _, _, _, _, _⟩) (v := ?_) rfl (by kernel_rfl) (by kernel_rfl) (by kernel_rfl) (by kernel_rfl) (fun _ _ _ h => h) (Or.inl ⟨by rfl, ?_⟩) HS6.out ?_
      rotate_left
      · intro V hV
        go_simp
        try with_reducible rfl
      try simp only [Act.put, aSt, aSz, aSs]
      refine wpL_take 12 (oi := ⟨some 6, _, _, _, _, _⟩) (v := ?_) rfl (by kernel_rfl) (by kernel_rfl) (by kernel_rfl) (by kernel_rfl) (fun _ _ _ h => h) (Or.inl ⟨by rfl, ?_⟩) HS6.out ?_
      rotate_left
      · intro V hV
        go_simp
        try with_reducible rfl
      try simp only [Act.put, aSt, aSz, aSs]
      refine wpL_take 13 (oi := ⟨some 7, _, _, _, _, _⟩) (v := ?_) rfl (by kernel_rfl) (by kernel_rfl) (by kernel_rfl) (by kernel_rfl) (fun _ _ _ h => h) (Or.inl ⟨by rfl, ?_⟩) HS6.out ?_
      rotate_left
      · intro V hV
        go_simp
        try with_reducible rfl
      try simp only [Act.put, aSt, aSz, aSs]
      refine wpL_done (by kernel_rfl) ?_ _
      clear k8 kn0
      have HE6 : Hid (∀ x ∈ ms', EvOk x ∧ EmU w6 W0.heap.size x) := fun x hx => ⟨(HMO.out x hx).1, (HMO.out x hx).2.step HB6.out⟩
      have HX6 := hide (HBX.out.below HB6.out HBX.out.lt)
      have HROW6 := hide (own_step HROW.out HB6.out)
      have HVO6 := hide (own_step HVO.out HB6.out)
      have HBR6 := hide (HBR.out.trans (HB6.out.mono (by have := HBX.out.lt; have := HGB.out; omega)))
      rcases hpe with hz | hz
      · subst hz
        have HL6 : Hid (SnJ s w3 W0.heap.size g A1 k1 (some ⟨b, 0, none⟩) ke1 n (.int .i64 ((j : Int) + 1)) w6) := by
          refine ⟨j + 1, ms', by omega, by go_num, HML.out, ?_, HE6.out, HX6.out, HROW6.out, HVO6.out, HBR6.out⟩
          have hje := HJE.out
          have hfx : fixE s.c.nodes m.ev = m.ev := by unfold fixE; rw [if_pos HPN.out.symm]
          rw [HME.out, List.take_add_one, hje, List.map_append]
          obtain ⟨h1, h2⟩ := List.getElem?_eq_some_iff.1 hje
          rw [List.drop_eq_getElem_cons h1, h2]
          show _ = _ ++ [fixE s.c.nodes m.ev] ++ _
          rw [hfx]
          simp
        go_wp2_with fail
        go_roundw
        case rel => first | exact HL6.out | exact ⟨_, HL6.out, rfl⟩
        case measure => simp [intOf]; omega
      · obtain ⟨cur, hcur, hcsz, hput⟩ := own_put HROW6.out HML.out hlt Em.zero
        have HCUR := hide hcur
        have HPUT := hide hput
        have hWW := only_setRow w6 b (putAt cur (j * 13) Em.zero.cs)
        have HL7 : Hid (SnJ s w3 W0.heap.size g A1 k1 (some ⟨b, 0, none⟩) ke1 n (.int .i64 ((j : Int) + 1)) (w6.setRow b (putAt cur (j * 13) Em.zero.cs))) := by
          refine ⟨j + 1, ms'.set j Em.zero, by omega, by go_num, by rw [List.length_set]; exact HML.out, ?_, ?_, ?_, HPUT.out, ?_, ?_⟩
          · have hje := HJE.out
            have hfx : fixE s.c.nodes m.ev = Em.zero.ev := by unfold fixE; rw [if_neg (by rw [← HPN.out, hz]; decide)]; rfl
            obtain ⟨h1, h2⟩ := List.getElem?_eq_some_iff.1 hje
            rw [List.map_set, HME.out, List.take_add_one, hje, List.map_append, List.set_append_right _ _ (by rw [List.length_map, List.length_take]; omega), List.length_map, List.length_take, Nat.min_eq_left (by omega), Nat.sub_self, List.drop_eq_getElem_cons h1, List.set_cons_zero]
            show _ = _ ++ [fixE s.c.nodes m.ev] ++ _
            rw [hfx]
            simp
          · intro x hx
            rcases List.mem_or_eq_of_mem_set hx with hx | rfl
            · exact ⟨(HE6.out x hx).1, (HE6.out x hx).2.far HCUR.out (by decide) (by decide) hWW⟩
            · exact ⟨(zero_ok (w := w6) (B := 0)).2, zero_ok.1⟩
          · have h1 := HX6.out.only hWW (fun e => by
              have e2 : g = b := e
              have := Blk.ne_ HX6.out HCUR.out (by decide)
              exact this e2)
            unfold Sm.cs at h1 ⊢
            simp only [List.length_set] at h1 ⊢
            exact h1
          · exact own_apart HVO6.out hWW (fun k hk hq => by subst hq; exact ⟨_, _, HCUR.out, by decide⟩)
          · exact HBR6.out.trans (hWW.below (by have := HGB.out; have := HX6.out.lt; omega) (fun k hk e => by
              have e2 : k = b := e
              have := (HROW6.out.lt b rfl).1
              omega))
        have e24 : ¬ pn = 0 := by rw [hz]; decide
        subst hz
        have k8 : w6.cell? ⟨g, 8, none⟩ = some (.slice (some ⟨b, 0, none⟩) n ke1) := by rw [← HML.out]; exact HX6.out.cell 8
        clear hcur hput hWW e24
        go_wp2_with (refine wpList_put_at rfl 33 (.tmp 46) (.tmp 45) rfl b (j * 13) Em.zero.cs rfl rfl 33 cur HCUR.out (ld29 _ (em_size _)) (by rw [em_size]; exact hcsz) (ecs_all _) _ rfl ?_)
        go_roundw
        case rel => first | exact HL7.out | exact ⟨_, HL7.out, rfl⟩
        case measure => simp [intOf]; omega
    · have js : ¬ (j : Int) < (n : Int) := by omega
      have k8 : wr.cell? ⟨g, 8, none⟩ = some (.slice Ae1 n ke1) := by rw [← HML.out]; exact HBX.out.cell 8
      have hjn : j = n := by omega
      have HF : Hid (ms'.map Em.ev = s.sc.es.map (fixE s.c.nodes)) := by
        show _ = _
        have hel := HEL.out
        rw [HME.out, hjn, List.take_of_length_le (by omega), List.drop_eq_nil_of_le (by omega), List.append_nil]
      have HRR := hide (HR3.out.below (B := W0.heap.size) (by exact HBR.out) hs0)
      have HSW : Hid (Below w.heap.size w wr) := HW3.out.trans (HBR.out.mono (by omega))
      clear hlt hjn
      go_upto_region 10 with fail
      clear k8
      go_wp2_with first
        | (refine wpList_gvalue (by rfl) (.agg (Sm.cs ⟨s.c, A1, k1, Ae1, ke1, ms'⟩)) (ex_load 27 (.tmp 4) rfl _ rfl _ _ Tryz.underlying27 rfl (ld47 _ (sm_size _)) (box_all HBX.out)) ?_)
        | (refine wpList_put_at rfl 27 (.tmp 2) (.tmp 47) rfl (w.heap.size + 1) 0 (Sm.cs ⟨s.c, A1, k1, Ae1, ke1, ms'⟩) rfl rfl 27 Z HRR.out (ld47 _ (sm_size _)) (by rw [sm_size, hZs]; omega) (sm_all _) _ (sput Z _ hZs rfl) ?_)
      refine bodyPost_ret (results_47d rfl _ rfl (HRR.out.row _) rfl rfl) rfl ?_
      have hWW := only_setRow wr (w.heap.size + 1) (Sm.cs ⟨s.c, A1, k1, Ae1, ke1, ms'⟩)
      refine ⟨⟨s.c, A1, k1, Ae1, ke1, ms'⟩, true, rfl, ?_, ?_, fun m hm => (HMO.out m hm).1, ?_⟩
      · rw [HS.out]
        show _ = (Sc.mk s.c (ms'.map Em.ev), true)
        rw [HF.out]
      · have hml := HML.out
        have hU' : SmV wr w.heap.size ⟨s.c, A1, k1, Ae1, ke1, ms'⟩ := ⟨own_base HVO.out (by omega), by show wr.ownsRow _ _ _ (.slice Ae1 ms'.length ke1) ms'.length _; rw [hml]; exact own_base HROW.out (by omega), fun m hm => (HMO.out m hm).2.base (by omega), HVL.out, by show ms'.length ≤ _; omega⟩
        exact SmV.far hU' HRR.out (by decide) (by decide) (by decide) hWW
      · exact HSW.out.trans (hWW.below HSW.out.size (fun k hk e => by have e2 : k = w.heap.size + 1 := e; omega))
end Go.Proofs.YtcibcmfaebbhnaaGreatDoor
