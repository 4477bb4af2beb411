/-
  The program's Parse. (Printed by wip/tools/mkpps.py.)
-/
import Derived.Test.YtcibcmfaebbhnaaGreatDoorZPls
import Derived.Test.YtcibcmfaebbhnaaGreatDoorZPhd
import Derived.Test.YtcibcmfaebbhnaaGreatDoorZWords
set_option linter.unusedVariables false
set_option linter.unusedSimpArgs false
namespace Go.Proofs.YtcibcmfaebbhnaaGreatDoor
open Go.RowKit Go.WideShapes Go.ChangeShapes Q
/-- What the loop over the events keeps. -/
def EvK (W4 : World) (s : Nat) (c : Cfg) (A : Option Addr) (k : Nat) (L : List (List UInt8)) (n i : Value) (wr : World) : Prop := ∃ (j : Nat) (ms : List Em) (Ae : Option Addr) (ke : Nat), j ≤ L.length ∧ i = .int .i64 j ∧ n = .int .i64 (idleN (ms.map Em.ev) : Int) ∧ Blk wr s 27 (Sm.cs ⟨c, A, k, Ae, ke, ms⟩) ∧
  wr.ownsRow W4.heap.size 33 13 (.slice Ae ms.length ke) ms.length (emCells ms) ∧ (∀ m ∈ ms, EmU wr W4.heap.size m) ∧ Below W4.heap.size W4 wr ∧ ms.map Em.ev = (L.take j).map (lineE c.nodes) ∧ ms.length = j
set_option maxRecDepth 100000 in
set_option maxHeartbeats 4000000 in
theorem pparse_script (s : ByteArray) (w : World) (hT : OpT w) (hM : ML w) (hw0 : 1 < w.heap.size) :
    Calls Tryz.prog 29 #[.string s] w fun e w' => ParP (parseE s.data.toList) w e w' := by
  obtain ⟨T, hTT⟩ : ∃ T, T = parseE s.data.toList := ⟨_, rfl⟩
  rw [← hTT]
  have HT := hide hTT
  have HOT := hide hT
  have HML := hide hM
  obtain ⟨i29, hi29, hz29, hs29, hb29⟩ := info_parts info29
  have I29 := hide hi29
  have Z29 := hide hz29
  have HPE : Hid (∀ (x : List UInt8) (n : Int) W, x.length ≤ 30000000 → OpT W → Calls Tryz.prog 40 #[.string (S x), .int .i64 n] W fun e w' => EvP (lineE n x) W.heap.size W e w') := fun x n W h ho => by
    have := pparse_ev (S x) n W (by rw [S_size]; exact h) ho
    rw [S_data] at this
    exact this
  have hsz := str_len s
  clear hTT hi29 hz29 hT hM
  go_enter Tryz.func29, Tryz.ntmps29
  go_upto_region 1 with fail
  generalize hW1 : World.alloc w _ = W1
  obtain ⟨Z, hZs, hZ⟩ : ∃ Z : Array Value, Z.size = 9 ∧ Blk W1 w.heap.size 27 Z := by
    rw [← hW1]
    exact ⟨_, rfl, Blk.new _ _ _⟩
  have HB1 : Hid (Below w.heap.size w W1) := by
    show Below _ _ _
    rw [← hW1]
    exact (Below.refl _ _).alloc (Nat.le_refl _) _
  have HZ1 := hide hZ
  clear hW1 hZ
  by_cases hbig : 400000 < s.size
  · have HR : Hid (T = (Sc.zero, 0, 20)) := by
      show _ = _
      rw [HT.out]
      unfold parseE
      rw [if_pos (by omega)]
    have e1 : (400000 : Int) < (s.size : Int) := by omega
    clear hsz
    go_wp2_with (refine wpList_put_at rfl 27 (.tmp 2) (.tmp 17) rfl (w.heap.size) 0 Sm.zero.cs rfl rfl 27 Z HZ1.out (ld47 _ rfl) (by rw [sm_size, hZs]; omega) (sm_all _) _ (sput Z _ hZs rfl) ?_)
    refine bodyPost_ret (results_47 rfl _ rfl (HZ1.out.row _) rfl rfl rfl) rfl ?_
    exact par_no (Nat.le_refl _) HZ1.out HB1.out HR.out
  have e1 : ¬ (400000 : Int) < (s.size : Int) := by omega
  have HLN : Hid (∀ W, ML W → Calls Tryz.prog 49 #[.string s] W fun e w' => LnsP (keepL s.data.toList) W e w') := fun W h => lines_any s W (by omega) h
  obtain ⟨ps, hK⟩ : ∃ K, K = keepL s.data.toList := ⟨_, rfl⟩
  have HT2 : Hid (T = parseH (headE ps)) := by
    show _ = _
    rw [HT.out, hK]
    unfold parseE
    rw [if_neg (by omega)]
  have hkz : ∀ x ∈ ps, x.length ≤ 400000 := fun x hx => by rw [hK] at hx; have := keep_mem hx; omega
  have hkn : ∀ x ∈ ps, NoNl x := fun x hx => by rw [hK] at hx; exact keep_nonl hx
  have hpb : ps.length ≤ 400001 := by rw [hK]; have := keep_len s.data.toList; omega
  have HKZ := hide hkz
  have HKN := hide hkn
  have HLN1 := hide (HLN.out W1 (HML.out.below HB1.out))
  rw [← hK] at HLN1
  clear hK HT hbig hkz hkn HLN
  go_upto_region 4 with (go_at_call 49; refine HLN1.out.mono ?_; rintro e w2 ⟨A, cp, rfl, hown, hb2⟩; have HO2 := hide hown; have HB2 := hide (HB1.out.trans (hb2.mono HB1.out.size)); have HZ2 := hide (HZ1.out.below hb2 HZ1.out.lt); clear hown hb2)
  clear HLN1 HZ1 HB1
  have hsw2 : w.heap.size ≤ w2.heap.size := HB2.out.size
  have HHD := hide (header_any ps A cp W1.heap.size w2 HO2.out HKZ.out HKN.out (by omega))
  obtain ⟨FC, hFC⟩ : ∃ FC, FC = headC ps := ⟨_, rfl⟩
  rw [← hFC] at HHD
  have HFC := hide hFC
  clear hFC
  refine wp_region_lit ?_
  refine wpList_value rfl (.slice A ps.length cp) (by go_simp) ?_
  try simp only [Act.put, aSt, aSz, aSs]
  refine wpList_step (fun K hK => ?_)
  rw [if_pos (by rfl)]
  go_simp
  go_at_call 50
  refine HHD.out.mono ?_
  rintro e w3 ⟨c, Ac, kc, ok, rfl, hcu, hb3, hy, hn⟩
  have HCU3 := hide (hcu.base hsw2)
  have HZ3 := hide (HZ2.out.below hb3 HZ2.out.lt)
  have HB3 := hide (HB2.out.trans (hb3.mono HB2.out.size))
  have HO3 := hide (own_step HO2.out hb3)
  have HY := hide hy
  have HN := hide hn
  refine hK _ _ ?_
  clear hK K hcu hb3 hy hn HHD HZ2 HB2 HO2
  try simp only [Act.put, aSt, aSz, aSs]
  refine wpList_value rfl (.tuple #[.agg (cfC c Ac kc), .bool ok]) (by go_simp) ?_
  try simp only [Act.put, aSt, aSz, aSs]
  refine wpList_value rfl (.agg (cfC c Ac kc)) (by go_simp) ?_
  try simp only [Act.put, aSt, aSz, aSs]
  refine wpList_value rfl (.bool ok) (by go_simp) ?_
  try simp only [Act.put, aSt, aSz, aSs]
  refine wpList_step (fun K hK => ?_)
  rw [if_pos (by rfl)]
  go_simp
  refine hK _ _ ?_
  clear hK K
  refine wpList_store_fresh rfl 24 (.tmp 6) (.tmp 23) rfl _ (cfC c Ac kc) rfl rfl (ld44 _ rfl) rfl (cf_all _ _ _) ?_
  try simp only [Act.put, aSt, aSz, aSs]
  obtain ⟨wc, hwc⟩ : ∃ wc, wc = World.alloc w3 (.cells (cfC c Ac kc) 24) := ⟨_, rfl⟩
  obtain ⟨g, hg⟩ : ∃ g, g = w3.heap.size := ⟨_, rfl⟩
  have hal : Below w3.heap.size w3 wc := by rw [hwc]; exact (Below.refl _ _).alloc (Nat.le_refl _) _
  have HBX : Hid (Blk wc g 24 (cfC c Ac kc)) := by show Blk _ _ _ _; rw [hwc, hg]; exact Blk.new _ _ _
  have HCU := hide (HCU3.out.step hal)
  have HZC := hide (HZ3.out.below hal HZ3.out.lt)
  have HBC := hide (HB3.out.trans (hal.mono HB3.out.size))
  have HOC := hide (own_step HO3.out hal)
  rw [← hwc]
  try rw [← hg]
  clear hwc hg hal HCU3 HZ3 HB3 HO3
  have hswc : w.heap.size ≤ wc.heap.size := HBC.out.size
  cases ok with
  | false =>
    have HR : Hid (T = (Sc.zero, 0, 21)) := by show _ = _; rw [HT2.out, headE_N (by rw [← HFC.out]; exact HN.out rfl)]; rfl
    go_wp2_with (refine wpList_put_at rfl 27 (.tmp 2) (.tmp 27) rfl (w.heap.size) 0 Sm.zero.cs rfl rfl 27 Z HZC.out (ld47 _ rfl) (by rw [sm_size, hZs]; omega) (sm_all _) _ (sput Z _ hZs rfl) ?_)
    refine bodyPost_ret (results_47 rfl _ rfl (HZC.out.row _) rfl rfl rfl) rfl ?_
    exact par_no (Nat.le_refl _) HZC.out HBC.out HR.out
  | true =>
    have HTC : Hid (T = if c.err = 0 then if 4000 < (ps.drop 3).length then (Sc.zero, 0, 25) else (⟨c, (ps.drop 3).map (lineE c.nodes)⟩, (idleN ((ps.drop 3).map (lineE c.nodes)) : Int), 0) else (Sc.zero, 0, c.err)) := by
      show _ = _
      rw [HT2.out, headE_C (by rw [← HFC.out]; exact HY.out rfl)]
      rfl
    have HL3 : Hid (3 ≤ ps.length) := by
      show _ ≤ _
      rcases Nat.lt_or_ge ps.length 3 with h | h
      · have h1 := headC_len h
        rw [← HFC.out, HY.out rfl] at h1
        cases h1
      · exact h
    have HCK : Hid (Calls Tryz.prog 10 #[.agg (cfC c Ac kc)] wc fun e w' => e = .returned (.int .i64 c.err) ∧ Below wc.heap.size wc w') := by
      refine (check_any c.nodes c.window c.base c.step c.cap c.room c.floor c.votes Ac c.votes.length kc wc HCU.out.reads (by have := HCU.out.hv; omega)).mono ?_
      rintro e w' ⟨h1, rfl⟩
      exact ⟨h1, (Below.refl _ _).alloc (Nat.le_refl _) _⟩
    clear HY HN HT2 HFC
    obtain ⟨er, her⟩ : ∃ er, er = c.err := ⟨_, rfl⟩
    rw [← her] at HCK HTC
    have h022 : er = 0 ∨ er = 22 := by
      rw [her]
      by_cases ho : c.Ok
      · exact .inl (Cfg.err_ok ho)
      · exact .inr (Cfg.err_bad ho)
    clear her
    go_upto_region 7 with fail
    refine wp_region_lit ?_
    refine wpList_value rfl (.agg (cfC c Ac kc)) (ex_load 24 (.tmp 6) rfl _ rfl _ _ Tryz.underlying24 rfl (ld44 _ rfl) (box_all HBX.out)) ?_
    try simp only [Act.put, aSt, aSz, aSs]
    refine wpList_step (fun K hK => ?_)
    rw [if_pos (by rfl)]
    go_simp
    go_at_call 10
    refine HCK.out.mono ?_
    rintro e w4 ⟨rfl, hb4⟩
    have HBX4 := hide (HBX.out.below hb4 HBX.out.lt)
    have HCU4 := hide (HCU.out.step hb4)
    have HZ4 := hide (HZC.out.below hb4 HZC.out.lt)
    have HB4 := hide (HBC.out.trans (hb4.mono HBC.out.size))
    have HO4 := hide (own_step HOC.out hb4)
    refine hK _ _ ?_
    clear hK K hb4 HBX HCU HZC HBC HOC HCK
    try simp only [Act.put, aSt, aSz, aSs]
    have hsw4 : w.heap.size ≤ w4.heap.size := HB4.out.size
    rcases h022 with he | he
    · subst he
      have HRL : Hid (ps.length = (ps.drop 3).length + 3) := by show _ = _; rw [List.length_drop]; have := HL3.out; omega
      by_cases hmany : 4000 < (ps.drop 3).length
      · have HR : Hid (T = (Sc.zero, 0, 25)) := by show _ = _; rw [HTC.out, if_pos rfl, if_pos hmany]
        have n5 : (4000 : Int) < (ps.length : Int) - 3 := by have := HRL.out; omega
        have n6 : (3 : Int) ≤ (ps.length : Int) := by have := HRL.out; omega
        clear hmany
        go_wp2_with (refine wpList_put_at rfl 27 (.tmp 2) (.tmp 38) rfl (w.heap.size) 0 Sm.zero.cs rfl rfl 27 Z HZ4.out (ld47 _ rfl) (by rw [sm_size, hZs]; omega) (sm_all _) _ (sput Z _ hZs rfl) ?_)
        refine bodyPost_ret (results_47 rfl _ rfl (HZ4.out.row _) rfl rfl rfl) rfl ?_
        exact par_no (Nat.le_refl _) HZ4.out HB4.out HR.out
      have n5 : ¬ (4000 : Int) < (ps.length : Int) - 3 := by have := HRL.out; omega
      have n6 : (3 : Int) ≤ (ps.length : Int) := by have := HRL.out; omega
      have HTE : Hid (T = (⟨c, (ps.drop 3).map (lineE c.nodes)⟩, (idleN ((ps.drop 3).map (lineE c.nodes)) : Int), 0)) := by show _ = _; rw [HTC.out, if_pos rfl, if_neg hmany]
      have hrm : ps.length ≤ 4003 := by have := HRL.out; omega
      clear hmany HTC
      go_upto_region 12 with fail
      refine wp_region_lit ?_
      refine wpList_value rfl (.agg (cfC c Ac kc)) (ex_load 24 (.tmp 6) rfl _ rfl _ _ Tryz.underlying24 rfl (ld44 _ rfl) (box_all HBX4.out)) ?_
      try simp only [Act.put, aSt, aSz, aSs]
      refine wpList_value rfl (.agg (Sm.cs ⟨c, Ac, kc, none, 0, []⟩)) (ex_build47 (.tmp 39) rfl c Ac kc rfl) ?_
      try simp only [Act.put, aSt, aSz, aSs]
      refine wpList_step (fun K hK => ?_)
      rw [if_pos (by rfl)]
      go_simp
      refine hK _ _ ?_
      clear hK K
      refine wpList_store_fresh rfl 27 (.tmp 9) (.tmp 40) rfl _ (Sm.cs ⟨c, Ac, kc, none, 0, []⟩) rfl rfl (ld47 _ rfl) rfl (sm_all _) ?_
      try simp only [Act.put, aSt, aSz, aSs]
      obtain ⟨W5, hW5⟩ : ∃ W5, W5 = World.alloc w4 (.cells (Sm.cs ⟨c, Ac, kc, none, 0, []⟩) 27) := ⟨_, rfl⟩
      rw [← hW5]
      have HL5 : Hid (EvK w4 w4.heap.size c Ac kc (ps.drop 3) (.int .i64 0) (.int .i64 0) W5) := ⟨0, [], none, 0, Nat.zero_le _, rfl, rfl, by rw [hW5]; exact Blk.new _ _ _, World.ownsRow_nil _ _ _ _, (fun m hm => by cases hm), by rw [hW5]; exact (Below.refl _ _).alloc (Nat.le_refl _) _, by simp, rfl⟩
      clear hW5
      obtain ⟨sb, hsb⟩ : ∃ sb, sb = w4.heap.size := ⟨_, rfl⟩
      have HSB := hide hsb
      rw [← hsb] at HL5 ⊢
      have hgs : g < sb := by rw [hsb]; exact HBX4.out.lt
      clear hsb
      obtain ⟨gl, cap, hv, _, hltl⟩ := HO4.out.form (by omega)
      injection hv with q1 q2 q3
      subst q1 q3
      obtain ⟨A', c', hv, _, hcap⟩ := own_slice HO4.out
      injection hv with q1 q2 q3
      subst q1 q3
      clear hltl
      obtain ⟨R, hR⟩ : ∃ R, R = ps.length - 3 := ⟨_, rfl⟩
      obtain ⟨PL, hPL⟩ : ∃ PL, PL = ps.length := ⟨_, rfl⟩
      have HPL : Hid (PL = ps.length ∧ PL = R + 3 ∧ (ps.drop 3).length = R) := ⟨hPL, by omega, by rw [List.length_drop]; omega⟩
      rw [← hPL] at hcap n5 n6 hrm hpb ⊢
      have hPR : PL - 3 = R := by omega
      have hc3 : 3 ≤ cp := by omega
      go_upto_region 14 with fail
      go_cut [5, 10, 42, 43, 44] (fun l n v k i wx => l = .slice (some ⟨gl, 0, none⟩) PL cp ∧ n = .int .i64 0 ∧ k = .int .i64 R ∧ i = .int .i64 0 ∧ wx = W5 ∧ ∃ A3 c3, v = .slice A3 R c3 ∧ (0 < R → A3 = some ⟨gl, 3, none⟩))
      case first =>
        have HPR := hide hPR
        have HR0 : Hid (cp = 3 → ¬ 0 < R) := fun h => by omega
        have k1 : (3 : Int) ≤ (cp : Int) := by omega
        have k2 : (PL : Int) ≤ (cp : Int) := by omega
        have k3 : ((PL : Int) - 3).toNat = R := by omega
        clear hPR hR hPL
        by_cases hcc : cp = 3
        all_goals
          have HCC := hide hcc
          go_wp2_with fail
          go_meet
          first
          | exact ⟨by first | rfl | rw [HCC.out], rfl, by first | rfl | (rw [HPR.out]) | (simp; omega), rfl, rfl, _, _, by first | rfl | rw [HPR.out], fun h => by first | rfl | exact absurd h (HR0.out HCC.out)⟩
          | (refine ⟨?_, rfl, ?_, rfl, rfl, _, _, ?_, ?_⟩ <;> trace_state <;> sorry)
      case rest =>
        obtain ⟨rfl, rfl, rfl, rfl, rfl, A3, c3, rfl, hA3⟩ := hcut
        have HA3 := hide hA3
        clear hA3 hR hPL hPR n5 n6 hcap hc3
        have hRb : R ≤ 4000 := by have := HPL.out.2.1; omega
        go_upto_region 15 with fail
        go_loopw [10, 44] (fun n i wr => EvK w4 sb c Ac kc (ps.drop 3) n i wr) (fun _ i _ => R - (intOf i).toNat)
        case atStart => exact HL5.out
        case round =>
          clear HL5
          unfold EvK at hrel
          obtain ⟨j, ms, Ae, ke, hj2, rfl, rfl, hbx, hrow, hent, hbr, hms, hml⟩ := hrel
          rw [HPL.out.2.2] at hj2
          have HBXS := hide hbx
          have HROW := hide hrow
          have HENT := hide hent
          have HBR := hide hbr
          have HMS := hide hms
          clear hbx hrow hent hbr hms
          have HZR := hide (HZ4.out.below HBR.out HZ4.out.lt)
          have HBXR := hide (HBX4.out.below HBR.out HBX4.out.lt)
          have HBW := hide (HB4.out.trans (HBR.out.mono HB4.out.size))
          have HOR := hide (own_step HO4.out HBR.out)
          have HCUR := hide (HCU4.out.step HBR.out)
          have hswr : w4.heap.size ≤ wr.heap.size := HBR.out.size
          have hsb : w4.heap.size ≤ sb := by rw [HSB.out]; exact Nat.le_refl _
          have j0 : (0 : Int) ≤ (j : Int) := by omega
          obtain ⟨id, hid⟩ : ∃ id, id = idleN (ms.map Em.ev) := ⟨_, rfl⟩
          rw [← hid]
          have hidb : id ≤ ms.length := by rw [hid]; have := idle_le (ms.map Em.ev); rw [List.length_map] at this; exact this
          have HID := hide hid
          have HMLL := hide hml
          have hmlb : ms.length ≤ 4000 := by omega
          clear hid hml
          by_cases hlt : j < R
          · have js : (j : Int) < (R : Int) := by omega
            obtain rfl := HA3.out (by omega)
            obtain ⟨x, hx⟩ : ∃ x, ps[3 + j]? = some x := ⟨_, List.getElem?_eq_getElem (by have := HPL.out; omega)⟩
            have hxz : x.length ≤ 30000000 := by have := HKZ.out x (List.mem_of_getElem? hx); omega
            have kx : wr.cell? ⟨gl, 3 + j, none⟩ = some (.string (S x)) := own_txt HOR.out hx
            have kn : wr.cell? ⟨g, 0, none⟩ = some (.int .i64 c.nodes) := HBXR.out.cell 0
            have HTK : Hid (((ps.drop 3).take (j + 1)).map (lineE c.nodes) = ms.map Em.ev ++ [lineE c.nodes x]) := by
              show _ = _
              rw [List.take_add_one, List.map_append, HMS.out, List.getElem?_drop, hx]
              rfl
            have hopt : OpT wr := HOT.out.below HBW.out hw0
            have HPX := hide (HPE.out x c.nodes wr hxz hopt)
            obtain ⟨FE, hFE⟩ : ∃ FE, FE = lineE c.nodes x := ⟨_, rfl⟩
            rw [← hFE] at HTK HPX
            clear hx hFE hopt
            go_upto_region 17 with fail
            refine wp_region_lit ?_
            refine wpList_value rfl (.string (S x)) (by go_simp) ?_
            try simp only [Act.put, aSt, aSz, aSs]
            refine wpList_value rfl (.pointer (some ⟨g, 0, none⟩)) (by go_simp) ?_
            try simp only [Act.put, aSt, aSz, aSs]
            refine wpList_value rfl (.int .i64 c.nodes) (by go_simp) ?_
            try simp only [Act.put, aSt, aSz, aSs]
            refine wpList_step (fun K hK => ?_)
            rw [if_pos (by rfl)]
            go_simp
            go_at_call 40
            refine HPX.out.mono ?_
            rintro e w5 ⟨m, rfl, hev, hu, hb5⟩
            have HB5 := hide hb5
            have HUE5 := hide hu
            have HEV := hide hev
            refine hK _ _ ?_
            clear hK K hu hb5 hev kx kn HPX
            try simp only [Act.put, aSt, aSz, aSs]
            refine wpList_step (fun K hK => ?_)
            rw [if_pos (by rfl)]
            go_simp
            refine hK _ _ ?_
            clear hK K
            refine wpList_store_fresh rfl 33 (.tmp 13) (.tmp 51) rfl _ (m.cs) rfl rfl (ld29 _ (em_size _)) rfl (ecs_all m) ?_
            try simp only [Act.put, aSt, aSz, aSs]
            obtain ⟨w6, hw6⟩ : ∃ w6, w6 = World.alloc w5 (.cells m.cs 33) := ⟨_, rfl⟩
            obtain ⟨ge, hge⟩ : ∃ ge, ge = w5.heap.size := ⟨_, rfl⟩
            have hal : Below w5.heap.size w5 w6 := by rw [hw6]; exact (Below.refl _ _).alloc (Nat.le_refl _) _
            have HBE : Hid (Blk w6 ge 33 m.cs) := by show Blk _ _ _ _; rw [hw6, hge]; exact Blk.new _ _ _
            have hbc : Below wr.heap.size wr w6 := HB5.out.trans (hal.mono HB5.out.size)
            have HUE := hide ((HUE5.out.step hal).base hswr)
            rw [← hw6]
            try rw [← hge]
            have HBXS2 := hide (HBXS.out.below hbc HBXS.out.lt)
            have HROW2 := hide (own_step HROW.out hbc)
            have HENT2 : Hid (∀ m ∈ ms, EmU w6 w4.heap.size m) := fun m hm => (HENT.out m hm).step hbc
            have HB2' := hide (HBR.out.trans (hbc.mono hswr))
            have hswc2 : w4.heap.size ≤ w6.heap.size := HB2'.out.size
            clear hw6 hge hal hbc HB5 HUE5 HBXS HROW HENT HBR HZR HBXR HBW HOR HCUR
            have HLX : Hid (∀ (idv : Int) (g4 c4 : Nat) (W4 : World), idv = (idleN ((ms ++ [m]).map Em.ev) : Int) → W4.ownsRow w4.heap.size 33 13 (.slice (some ⟨g4, 0, none⟩) (ms.length + 1) c4) (ms.length + 1) (emCells ms ++ m.cs.toList) → (w6.alloc (.cells m.cs 33)).grownBy W4 (Value.slice Ae ms.length ke).ownBlock → Below w4.heap.size w6 W4 → Blk W4 sb 27 (Sm.cs ⟨c, Ac, kc, Ae, ke, ms⟩) ∧ EvK w4 sb c Ac kc (ps.drop 3) (.int .i64 idv) (.int .i64 ((j : Int) + 1)) (W4.setCell ⟨sb, 8, none⟩ (.slice (some ⟨g4, 0, none⟩) (ms.length + 1) c4))) := by
              intro idv g4 c4 W4 hidv hown4 hgr4 hb4
              have hrowA := own_step HROW2.out ((Below.refl w6.heap.size w6).alloc (Nat.le_refl _) (.cells m.cs 33))
              have hbx4 : Blk W4 sb 27 (Sm.cs ⟨c, Ac, kc, Ae, ke, ms⟩) := (HBXS2.out.alloc _).grown hgr4 (own_ne hrowA (HBXS2.out.alloc _) (by decide))
              have hW := only_setCell0 W4 sb 8 (.slice (some ⟨g4, 0, none⟩) (ms.length + 1) c4)
              have hn1 : (ms ++ [m]).length = ms.length + 1 := by simp
              refine ⟨hbx4, j + 1, ms ++ [m], some ⟨g4, 0, none⟩, c4, by rw [HPL.out.2.2]; omega, by go_num, by rw [hidv], ?_, ?_, ?_, ?_, ?_, ?_⟩
              · have := hbx4.set_ 8 (.slice (some ⟨g4, 0, none⟩) (ms.length + 1) c4)
                rw [← hn1] at this ⊢
                exact this
              · rw [emCells_snoc, hn1]
                refine own_apart hown4 hW ?_
                intro k hk hq
                subst hq
                exact ⟨_, _, hbx4, by decide⟩
              · intro x hx
                rcases List.mem_append.1 hx with hx | hx
                · exact (((HENT2.out x hx).step ((Below.refl _ _).alloc (Nat.le_refl _) _)).push hrowA (by decide) (by decide) hgr4).far hbx4 (by decide) (by decide) hW
                · obtain rfl : x = m := by simpa using hx
                  exact ((HUE.out.step ((Below.refl _ _).alloc (Nat.le_refl _) _)).push hrowA (by decide) (by decide) hgr4).far hbx4 (by decide) (by decide) hW
              · have hbb := HB2'.out.trans hb4
                exact hbb.trans (hW.below hbb.size (fun k hk e => by omega))
              · rw [HTK.out, List.map_append, ← HEV.out]
                rfl
              · rw [hn1]
                have := HMLL.out
                omega
            have ke0 := eb0 HBE.out
            by_cases hk0 : m.kd = 0
            · have HIX : Hid ((id : Int) + 1 = (idleN ((ms ++ [m]).map Em.ev) : Int)) := by
                show _ = _
                rw [List.map_append, show [m].map Em.ev = [m.ev] from rfl, idle_snoc, if_pos (show m.ev.kd = 0 from hk0), ← HID.out]
                rfl
              have hiw : IntKind.i64.wrap ((id : Int) + 1) = (id : Int) + 1 := i64_wrap _ (by omega) (by omega)
              rw [hk0] at ke0
              clear hk0
              go_upto_region 20 with fail
              refine wp_region_lit ?_
              have kf : w6.cell? ⟨sb, 8, none⟩ = some (.slice Ae ms.length ke) := HBXS2.out.cell 8
              refine wpList_value rfl (.pointer (some ⟨sb, 8, none⟩)) (by go_simp) ?_
              try simp only [Act.put, aSt, aSz, aSs]
              refine wpList_value rfl (.slice Ae ms.length ke) (by go_simp) ?_
              try simp only [Act.put, aSt, aSz, aSs]
              clear kf
              refine wpList_value rfl (.agg m.cs) (ex_load 33 (.tmp 13) rfl _ rfl m.cs _ Tryz.underlying33 rfl (ld29 _ (em_size _)) (ebox_all HBE.out)) ?_
              try simp only [Act.put, aSt, aSz, aSs]
              refine wpList_one29 rfl (.tmp 59) rfl m rfl ?_
              try simp only [Act.put, aSt, aSz, aSs]
              refine wpList_push (W := w6) (cs := m.cs) rfl (.tmp 58) (.tmp 60) 25 rfl w4.heap.size 33 i29 _ 13 160 Tryz.underlying25 I29.out Z29.out hs29 hb29 rfl (by omega) (.slice Ae ms.length ke) ms.length (emCells ms) rfl HROW2.out 1 1 rfl rfl (ecs_one m) (by omega) (by unfold maxLen; omega) (by omega) hswc2 ?_
              intro g4 c4 W4 hown4 hgr4 hb4 _ _ _
              have HB8 := hide (HLX.out _ g4 c4 W4 HIX.out hown4 hgr4 hb4).1
              have HL4 := hide (HLX.out _ g4 c4 W4 HIX.out hown4 hgr4 hb4).2
              clear hown4 hgr4 hb4
              have c9 := HB8.out.cell 8
              have f9 := Blk.frozen HB8.out 8
              try simp only [Act.put, aSt, aSz, aSs]
              go_wp2_with fail
              go_roundw
              case rel => first | exact HL4.out | exact ⟨_, HL4.out, rfl⟩ | exact ⟨_, _, HL4.out, rfl, rfl⟩ | exact ⟨_, _, _, HL4.out, rfl, rfl, rfl⟩
              case measure => simp [intOf]; omega
            · have e3 : (m.kd == 0) = false := by rw [beq_eq_false_iff_ne]; exact hk0
              have HIX : Hid ((id : Int) = (idleN ((ms ++ [m]).map Em.ev) : Int)) := by
                show _ = _
                rw [List.map_append, show [m].map Em.ev = [m.ev] from rfl, idle_snoc, if_neg (show ¬ m.ev.kd = 0 from hk0), ← HID.out]
                rfl
              go_upto_region 20 with fail
              refine wp_region_lit ?_
              have kf : w6.cell? ⟨sb, 8, none⟩ = some (.slice Ae ms.length ke) := HBXS2.out.cell 8
              refine wpList_value rfl (.pointer (some ⟨sb, 8, none⟩)) (by go_simp) ?_
              try simp only [Act.put, aSt, aSz, aSs]
              refine wpList_value rfl (.slice Ae ms.length ke) (by go_simp) ?_
              try simp only [Act.put, aSt, aSz, aSs]
              clear kf
              refine wpList_value rfl (.agg m.cs) (ex_load 33 (.tmp 13) rfl _ rfl m.cs _ Tryz.underlying33 rfl (ld29 _ (em_size _)) (ebox_all HBE.out)) ?_
              try simp only [Act.put, aSt, aSz, aSs]
              refine wpList_one29 rfl (.tmp 59) rfl m rfl ?_
              try simp only [Act.put, aSt, aSz, aSs]
              refine wpList_push (W := w6) (cs := m.cs) rfl (.tmp 58) (.tmp 60) 25 rfl w4.heap.size 33 i29 _ 13 160 Tryz.underlying25 I29.out Z29.out hs29 hb29 rfl (by omega) (.slice Ae ms.length ke) ms.length (emCells ms) rfl HROW2.out 1 1 rfl rfl (ecs_one m) (by omega) (by unfold maxLen; omega) (by omega) hswc2 ?_
              intro g4 c4 W4 hown4 hgr4 hb4 _ _ _
              have HB8 := hide (HLX.out _ g4 c4 W4 HIX.out hown4 hgr4 hb4).1
              have HL4 := hide (HLX.out _ g4 c4 W4 HIX.out hown4 hgr4 hb4).2
              clear hown4 hgr4 hb4
              have c9 := HB8.out.cell 8
              have f9 := Blk.frozen HB8.out 8
              try simp only [Act.put, aSt, aSz, aSs]
              go_wp2_with fail
              go_roundw
              case rel => first | exact HL4.out | exact ⟨_, HL4.out, rfl⟩ | exact ⟨_, _, HL4.out, rfl, rfl⟩ | exact ⟨_, _, _, HL4.out, rfl, rfl, rfl⟩
              case measure => simp [intOf]; omega
          · have js : ¬ (j : Int) < (R : Int) := by omega
            have hjl : j = R := by omega
            have HTF : Hid (T = (Sm.sc ⟨c, Ac, kc, Ae, ke, ms⟩, (id : Int), 0)) := by
              show _ = _
              have h1 : ms.map Em.ev = (ps.drop 3).map (lineE c.nodes) := by
                rw [HMS.out, hjl, List.take_of_length_le (by rw [HPL.out.2.2]; exact Nat.le_refl _)]
              rw [HTE.out, HID.out, h1]
              unfold Sm.sc
              rw [h1]
            clear hlt
            go_upto_region 22 with fail
            refine wp_region_lit ?_
            refine wpList_value rfl (.agg (Sm.cs ⟨c, Ac, kc, Ae, ke, ms⟩)) (ex_load 27 (.tmp 9) rfl _ rfl _ _ Tryz.underlying27 rfl (ld47 _ rfl) (box_all HBXS.out)) ?_
            simp only [Act.put, aSt, aSz, aSs]
            go_wp2_with (refine wpList_put_at rfl 27 (.tmp 2) (.tmp 64) rfl (w.heap.size) 0 (Sm.cs ⟨c, Ac, kc, Ae, ke, ms⟩) rfl rfl 27 Z HZR.out (ld47 _ rfl) (by rw [sm_size, hZs]; omega) (sm_all _) _ (sput Z _ hZs rfl) ?_)
            refine bodyPost_ret (results_47 rfl _ rfl (HZR.out.row _) rfl rfl rfl) rfl ?_
            refine par_out (Nat.le_refl _) HZR.out HBW.out ⟨HCUR.out.base (by omega), own_base HROW.out (by omega), fun m hm => (HENT.out m hm).base (by omega), hmlb⟩ HTF.out
    · have HR : Hid (T = (Sc.zero, 0, 22)) := by show _ = _; rw [HTC.out, he]; rfl
      subst he
      go_wp2_with (refine wpList_put_at rfl 27 (.tmp 2) (.tmp 32) rfl (w.heap.size) 0 Sm.zero.cs rfl rfl 27 Z HZ4.out (ld47 _ rfl) (by rw [sm_size, hZs]; omega) (sm_all _) _ (sput Z _ hZs rfl) ?_)
      refine bodyPost_ret (results_47 rfl _ rfl (HZ4.out.row _) rfl rfl rfl) rfl ?_
      exact par_no (Nat.le_refl _) HZ4.out HB4.out HR.out
end Go.Proofs.YtcibcmfaebbhnaaGreatDoor
