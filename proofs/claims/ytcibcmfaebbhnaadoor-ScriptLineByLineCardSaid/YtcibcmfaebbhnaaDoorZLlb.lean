/-
  The law ScriptReads, walked: the program and the reference read the same script of every text. The law ScriptLineByLine, walked. (Printed by wip/tools/mkllb.py.)
-/
import Derived.Test.YtcibcmfaebbhnaaDoorZPps
import Derived.Test.YtcibcmfaebbhnaaDoorZSms
import Derived.Test.YtcibcmfaebbhnaaDoorZFla
set_option linter.unusedVariables false
set_option linter.unusedSimpArgs false
namespace Go.Proofs.YtcibcmfaebbhnaaDoor
open Go.RowKit Go.WideShapes Go.ChangeShapes Q

theorem wpList_gvalue {P : Program} {ops : Array Oper} {rest : List Oper} {o : Oper} {a : Act} {V : World} {Q : Exit → Act → World → Prop} (hw : Region.wanted o (yielded ops a.tmps) = true) (v : Value) (he : (execOp a.eval o).run P V = .ok (.value v) V)
    (h : wpList P ops Q rest (a.put o.dst v) V) : wpList P ops Q (o :: rest) a V := by
  refine wpList_step (fun K hK => ?_)
  rw [if_pos hw]
  unfold Oper.wp
  rw [he]
  exact hK _ _ h
theorem numz_any (x : Int) (w : World) : Calls Tryd.prog 15 #[.int .i64 x] w fun e w' => e = .returned (.int .i64 x) ∧ w = w' := by
  go_enter Tryd.func15, Tryd.ntmps15
  go_wp2
  go_ret
  exact ⟨rfl, rfl⟩
set_option maxRecDepth 100000 in
set_option maxHeartbeats 3000000 in
theorem reads_script (s : ByteArray) (w : World) (hT : OpT w) (hM : ML w) :
    Calls Tryd.prog 5 #[.string s] w fun e w' => e = .returned (.bool true) ∧ Below w.heap.size w w' := by
  obtain ⟨T, hTT⟩ : ∃ T, T = parseE s.data.toList := ⟨_, rfl⟩
  have h0w : 0 < w.heap.size := hT.lt
  have HPP := hide (pparse_script s w hT hM h0w)
  have HPR : Hid (∀ W, Calls Tryd.prog 17 #[.string s] W fun e w' => ParP T W e w') := fun W => by rw [hTT]; exact rparse_script s W
  rw [← hTT] at HPP
  clear hT hM hTT
  go_enter Tryd.func5, Tryd.ntmps5
  go_upto_region 1 with fail
  refine wp_region_lit ?_
  refine wpList_value rfl (.string s) (by go_simp) ?_
  try simp only [Act.put, List.setIfInBounds_toArray, List.set_cons_zero, List.set_cons_succ]
  refine wpList_step (fun K hK => ?_)
  rw [if_pos (by rfl)]
  go_simp
  go_at_call 16
  refine HPP.out.mono ?_
  rintro e w1 ⟨s1, n1, f1, rfl, h1, hu1, hb1⟩
  have HE1 := hide h1
  have HU1 := hide hu1
  have HB1 := hide hb1
  refine hK _ _ ?_
  clear hK K h1 hu1 hb1 HPP
  try simp only [Act.put, List.setIfInBounds_toArray, List.set_cons_zero, List.set_cons_succ]
  refine wpList_value rfl (.tuple #[.agg s1.cs, .int .i64 n1, .int .i64 f1]) (by go_simp) ?_
  try simp only [Act.put, List.setIfInBounds_toArray, List.set_cons_zero, List.set_cons_succ]
  refine wpList_value rfl (.agg s1.cs) (by go_simp) ?_
  try simp only [Act.put, List.setIfInBounds_toArray, List.set_cons_zero, List.set_cons_succ]
  refine wpList_value rfl (.int .i64 n1) (by go_simp) ?_
  try simp only [Act.put, List.setIfInBounds_toArray, List.set_cons_zero, List.set_cons_succ]
  refine wpList_value rfl (.int .i64 f1) (by go_simp) ?_
  try simp only [Act.put, List.setIfInBounds_toArray, List.set_cons_zero, List.set_cons_succ]
  refine wpList_step (fun K hK => ?_)
  rw [if_pos (by rfl)]
  go_simp
  refine hK _ _ ?_
  clear hK K
  refine wpList_store_fresh rfl 47 (.tmp 3) (.tmp 12) rfl _ s1.cs rfl rfl (ld47 _ (sm_size _)) rfl (sm_all _) ?_
  try simp only [Act.put, List.setIfInBounds_toArray, List.set_cons_zero, List.set_cons_succ]
  obtain ⟨w2, hw2⟩ : ∃ w2, w2 = World.alloc w1 (.cells s1.cs 47) := ⟨_, rfl⟩
  obtain ⟨g1, hg1⟩ : ∃ g1, g1 = w1.heap.size := ⟨_, rfl⟩
  have hal : Below w1.heap.size w1 w2 := by rw [hw2]; exact (Below.refl _ _).alloc (Nat.le_refl _) _
  have HX2 : Hid (Blk w2 g1 47 s1.cs) := by show Blk _ _ _ _; rw [hw2, hg1]; exact Blk.new _ _ _
  have HU2 := hide (HU1.out.step hal)
  have HB2 := hide (HB1.out.trans (hal.mono HB1.out.size))
  rw [← hw2]
  try rw [← hg1]
  clear hw2 hg1 hal HU1 HB1
  have hsw2 : w.heap.size ≤ w2.heap.size := HB2.out.size
  go_upto_region 2 with fail
  refine wp_region_lit ?_
  refine wpList_value rfl (.string s) (by go_simp) ?_
  try simp only [Act.put, List.setIfInBounds_toArray, List.set_cons_zero, List.set_cons_succ]
  refine wpList_step (fun K hK => ?_)
  rw [if_pos (by rfl)]
  go_simp
  go_at_call 17
  refine (HPR.out _).mono ?_
  rintro e w3 ⟨s2, n2, f2, rfl, h2, hu2, hb2⟩
  have HE2 := hide h2
  have HU3 := hide (HU2.out.step hb2)
  have HV3 := hide hu2
  have HX3 := hide (HX2.out.below hb2 HX2.out.lt)
  have HB3 := hide (HB2.out.trans (hb2.mono hsw2))
  refine hK _ _ ?_
  clear hK K h2 hu2 hb2 HPR HU2 HX2 HB2
  try simp only [Act.put, List.setIfInBounds_toArray, List.set_cons_zero, List.set_cons_succ]
  refine wpList_value rfl (.tuple #[.agg s2.cs, .int .i64 n2, .int .i64 f2]) (by go_simp) ?_
  try simp only [Act.put, List.setIfInBounds_toArray, List.set_cons_zero, List.set_cons_succ]
  refine wpList_value rfl (.agg s2.cs) (by go_simp) ?_
  try simp only [Act.put, List.setIfInBounds_toArray, List.set_cons_zero, List.set_cons_succ]
  refine wpList_value rfl (.int .i64 n2) (by go_simp) ?_
  try simp only [Act.put, List.setIfInBounds_toArray, List.set_cons_zero, List.set_cons_succ]
  refine wpList_value rfl (.int .i64 f2) (by go_simp) ?_
  try simp only [Act.put, List.setIfInBounds_toArray, List.set_cons_zero, List.set_cons_succ]
  refine wpList_step (fun K hK => ?_)
  rw [if_pos (by rfl)]
  go_simp
  refine hK _ _ ?_
  clear hK K
  refine wpList_store_fresh rfl 47 (.tmp 6) (.tmp 18) rfl _ s2.cs rfl rfl (ld47 _ (sm_size _)) rfl (sm_all _) ?_
  try simp only [Act.put, List.setIfInBounds_toArray, List.set_cons_zero, List.set_cons_succ]
  obtain ⟨w4, hw4⟩ : ∃ w4, w4 = World.alloc w3 (.cells s2.cs 47) := ⟨_, rfl⟩
  obtain ⟨g2, hg2⟩ : ∃ g2, g2 = w3.heap.size := ⟨_, rfl⟩
  have hal : Below w3.heap.size w3 w4 := by rw [hw4]; exact (Below.refl _ _).alloc (Nat.le_refl _) _
  have HY4 : Hid (Blk w4 g2 47 s2.cs) := by show Blk _ _ _ _; rw [hw4, hg2]; exact Blk.new _ _ _
  have HU4 := hide (HU3.out.step hal)
  have HV4 := hide (HV3.out.step hal)
  have HX4 := hide (HX3.out.below hal HX3.out.lt)
  have HB4 := hide (HB3.out.trans (hal.mono HB3.out.size))
  rw [← hw4]
  try rw [← hg2]
  clear hw4 hg2 hal HU3 HV3 HX3 HB3
  have hsw4 : w.heap.size ≤ w4.heap.size := HB4.out.size
  have HEE : Hid ((s1.sc, n1, f1) = (s2.sc, n2, f2)) := HE1.out.symm.trans HE2.out
  have HSC : Hid (s1.sc = s2.sc) := by have := HEE.out; injection this
  have hnn : n1 = n2 := by have := HEE.out; injection this with _ h; injection h
  have hff : f1 = f2 := by have := HEE.out; injection this with _ h; injection h
  have HSS : Hid (Calls Tryd.prog 18 #[.agg s1.cs, .agg s2.cs] w4 fun e w' => e = .returned (.bool true) ∧ Below w4.heap.size w4 w') := same_scripts w4 HU4.out.inn HV4.out.inn HSC.out
  subst hnn hff
  clear HE1 HE2 HEE
  have q1 : (n1 == n1) = true := by simp
  have q2 : (f1 == f1) = true := by simp
  go_wp2_with first
    | (refine wpList_gvalue (by rfl) (.agg s1.cs) (ex_load 47 (.tmp 3) rfl _ rfl _ _ Tryd.underlying47 rfl (ld47 _ (sm_size _)) (box_all HX4.out)) ?_)
    | (refine wpList_gvalue (by rfl) (.agg s2.cs) (ex_load 47 (.tmp 6) rfl _ rfl _ _ Tryd.underlying47 rfl (ld47 _ (sm_size _)) (box_all HY4.out)) ?_)
    | (go_at_call 15; refine (numz_any _ _).mono ?_; rintro e w5 ⟨rfl, rfl⟩)
    | (go_at_call 18; refine HSS.out.mono ?_; rintro e w5 ⟨rfl, hb5⟩; have HB5 := hide (HB4.out.trans (hb5.mono hsw4)); clear hb5)
  go_ret
  exact ⟨rfl, HB5.out⟩
end Go.Proofs.YtcibcmfaebbhnaaDoor
set_option linter.unusedVariables false
set_option linter.unusedSimpArgs false
namespace Go.Proofs.YtcibcmfaebbhnaaDoor
open Go.RowKit Go.WideShapes Go.ChangeShapes Q

theorem end_of {a : List UInt8} (h : (topJ ++ a)[(topJ ++ a).length - 1]? = some 10) : EndNl a := by
  rw [← List.getLast?_eq_getElem?, List.getLast?_append] at h
  cases hl : a.getLast? with
  | none => exact .inl (List.getLast?_eq_none_iff.1 hl)
  | some x =>
    rw [hl] at h
    simp at h
    subst h
    obtain ⟨ys, hys⟩ := List.getLast?_eq_some_iff.1 hl
    exact .inr ⟨ys, hys⟩
theorem and_seven (x : Int) : ∃ q : Nat, q ≤ 7 ∧ bits .and .i64 x 7 = (q : Int) := by
  refine ⟨(BitVec.ofInt 64 x &&& BitVec.ofInt 64 7).toNat, ?_, ?_⟩
  · rw [BitVec.toNat_and]
    exact Nat.le_trans Nat.and_le_right (by decide)
  · have hx : (BitVec.ofInt 64 x &&& BitVec.ofInt 64 7).toNat ≤ 7 := by
      rw [BitVec.toNat_and]
      exact Nat.le_trans Nat.and_le_right (by decide)
    show IntKind.i64.wrap ((BitVec.ofInt 64 x &&& BitVec.ofInt 64 7).toNat : Int) = _
    exact i64_wrap _ (by omega) (by omega)
theorem RB.above {w w' : World} {b n : Nat} {A : Option Addr} {l : List UInt8} (h : RB w b A n l) (ho : Only (fun k => k < b) w w') : RB w' b A n l := by
  refine ⟨h.1, ?_⟩
  rcases h.2 with h0 | ⟨g, cs, fr, e, hbg, hg, hc⟩
  · exact .inl h0
  · exact .inr ⟨g, cs, fr, e, hbg, (ho.block g (Array.getElem?_eq_some_iff.1 hg).1 (by show ¬ g < b; omega)).trans hg, hc⟩
theorem own_above {w w' : World} {base : Nat} {e : TypeId} {size n : Nat} {v : Value} {xs : List Value} (h : w.ownsRow base e size v n xs) (ho : Only (fun k => k < base) w w') : w'.ownsRow base e size v n xs :=
  own_only h ho (fun g hg hf => by have h1 := (h.lt g hg).1; have h2 : g < base := hf; omega)
/-- What lies above is not touched where only lower blocks are written. -/
theorem SmU.above {w w' : World} {b : Nat} {s : Sm} (h : SmU w b s) (ho : Only (fun k => k < b) w w') : SmU w' b s :=
  ⟨⟨own_above h.cfg.own ho, h.cfg.hv⟩, own_above h.row ho, fun m hm => ⟨own_above (h.ent m hm).sid ho, (h.ent m hm).body.above ho, (h.ent m hm).hs, (h.ent m hm).hb⟩, h.hn⟩
/-- What may stand between the lines. -/
def passV : Array Value := #[.string ⟨#[]⟩, .string ⟨#[10]⟩, .string ⟨#[32, 32, 35, 32, 97, 32, 114, 101, 109, 97, 114, 107, 10]⟩, .string ⟨#[9, 32, 10, 35, 10]⟩, .string ⟨#[10, 10]⟩]
theorem pass_at (i : Nat) (h : i < 5) : ∃ P : List UInt8, passV[i]? = some (.string (S P)) ∧ EndNl P ∧ keepL P = [] ∧ P.length ≤ 13 := by
  match i, h with
  | 0, _ => exact ⟨[], rfl, .inl rfl, by rfl, by decide⟩
  | 1, _ => exact ⟨[10], rfl, .inr ⟨[], rfl⟩, by rfl, by decide⟩
  | 2, _ => exact ⟨[32, 32, 35, 32, 97, 32, 114, 101, 109, 97, 114, 107, 10], rfl, .inr ⟨[32, 32, 35, 32, 97, 32, 114, 101, 109, 97, 114, 107], rfl⟩, by rfl, by decide⟩
  | 3, _ => exact ⟨[9, 32, 10, 35, 10], rfl, .inr ⟨[9, 32, 10, 35], rfl⟩, by rfl, by decide⟩
  | 4, _ => exact ⟨[10, 10], rfl, .inr ⟨[10], rfl⟩, by rfl, by decide⟩
theorem keepL_count (l : List UInt8) : (keepL l).length ≤ (l.filter fun q => !(q.toNat == 10)).length := by
  have := keep_count l []
  rw [if_pos rfl, Nat.zero_add] at this
  exact this
set_option maxRecDepth 100000 in
set_option maxHeartbeats 4000000 in
theorem line_by_line (a lb : List UInt8) (bk : Int) (w : World) (ha : a.length ≤ 140737488355328) (hlb : lb.length ≤ 140737488355328) (hT : OpT w) (hM : ML w) :
    Calls Tryd.prog 6 #[.agg #[.string (S a), .string (S lb), .int .i64 bk]] w fun e w' => e = .returned (.bool true) ∧ Below w.heap.size w w' := by
  have HOT := hide hT
  have HML := hide hM
  have h0w : 0 < w.heap.size := hT.lt
  obtain ⟨i29, hi29, hz29, hs29, hb29⟩ := info_parts info29
  have I29 := hide hi29
  have Z29 := hide hz29
  obtain ⟨F, hF⟩ : ∃ F, F = flatL lb := ⟨_, rfl⟩
  have HFN : Hid (NoNl F) := by show NoNl F; rw [hF]; exact flat_nonl lb
  have hFl : F.length ≤ 140737488355328 := by rw [hF]; have := flatL_len lb; omega
  have HFL : Hid (∀ W, Calls Tryd.prog 19 #[.string (S lb)] W fun e w' => e = .returned (.string (S F)) ∧ Below W.heap.size W w') := fun W => by
    have h := flat_any (S lb) W (by rw [S_size]; exact hlb)
    rw [S_data, ← hF] at h
    exact h
  have HPA : Hid (∀ (x : List UInt8) W, Below w.heap.size w W → Calls Tryd.prog 16 #[.string (S x)] W fun e w' => ParP (parseE x) W e w') := fun x W hb => by
    have h := pparse_script (S x) W (HOT.out.below hb h0w) (HML.out.below hb) (by have := hb.size; omega)
    rw [S_data] at h
    exact h
  have HPE : Hid (∀ W, F.length ≤ 400000 → Below w.heap.size w W → Calls Tryd.prog 9 #[.string (S F), .int .i64 2] W fun e w' => EvP (lineE 2 F) W.heap.size W e w') := fun W hl hb => by
    have h := pparse_ev (S F) 2 W (by rw [S_size]; omega) (HOT.out.below hb h0w)
    rw [S_data] at h
    exact h
  clear hi29 hz29 hF hT hM
  go_enter Tryd.func6, Tryd.ntmps6
  go_upto_region 1 with fail
  generalize hW1 : World.alloc w _ = W1
  have HX1 : Hid (Blk W1 w.heap.size 55 #[.string (S a), .string (S lb), .int .i64 bk]) := by show Blk _ _ _ _; rw [← hW1]; exact Blk.new _ _ _
  have hb1 : Below w.heap.size w W1 := by rw [← hW1]; exact (Below.refl _ _).alloc (Nat.le_refl _) _
  have HB1 := hide hb1
  clear hW1 hb1
  have c0 : W1.cell? ⟨w.heap.size, 0, none⟩ = some (.string (S a)) := HX1.out.cell 0
  have c1 : W1.cell? ⟨w.heap.size, 1, none⟩ = some (.string (S lb)) := HX1.out.cell 1
  have htl : topJ.length = 74 := by rfl
  go_upto_region 4 with first
    | (refine wpList_gvalue (by rfl) (.string (S (cc topJ a))) (ex_cat (.tmp 17) (.tmp 19) 9 9 rfl rfl rfl (by omega)) ?_)
    | (go_at_call 19; refine (HFL.out _).mono ?_; rintro e w2 ⟨rfl, hb2⟩; have HX2 := hide (HX1.out.below hb2 HX1.out.lt); have HB2 := hide (HB1.out.trans (hb2.mono HB1.out.size)); clear hb2)
  clear c0 c1 HX1 HB1 HFL
  obtain ⟨B, hB⟩ : ∃ B, B = cc topJ a := ⟨_, rfl⟩
  have hBl : B.length = 74 + a.length := by rw [hB, cc_len, htl]
  obtain ⟨X, hX⟩ : ∃ X, X = S B := ⟨_, rfl⟩
  obtain ⟨m, hm⟩ : ∃ m, m = 73 + a.length := ⟨_, rfl⟩
  have hXs : X.size = m + 1 := by rw [hX, S_size]; omega
  have hml : m < X.size := by omega
  obtain ⟨ch, hch⟩ : ∃ ch, ch = X[m] := ⟨_, rfl⟩
  have hcc := hch.symm
  have HLAST : Hid ((topJ ++ a)[(topJ ++ a).length - 1]? = some ch) := by
    show _ = _
    have h1 := bdrop hml
    have h2 : X.data.toList = topJ ++ a := by rw [hX, S_data, hB]; rfl
    rw [h2] at h1
    have h3 : (topJ ++ a).length - 1 = m := by rw [List.length_append, htl]; omega
    rw [h3]
    have h4 := congrArg (fun l => l[0]?) h1
    simp only [List.getElem?_drop, Nat.add_zero, List.getElem?_cons_zero] at h4
    rw [h4, hch]
  rw [← hB, ← hX]
  have HXB : Hid (X = S B ∧ B = topJ ++ a) := ⟨hX, by rw [hB]; rfl⟩
  have q256 : ch.toNat < 256 := ch.toNat_lt
  have hm0 : (0 : Int) ≤ (m : Int) := by omega
  have hmz : (m : Int) < (m : Int) + 1 := by omega
  have hw0 : ((m : Int) + 1) - 1 = (m : Int) := by omega
  have hw1 : IntKind.i64.wrap (m : Int) = (m : Int) := i64_wrap _ (by omega) (by omega)
  clear hch hB hX hm
  by_cases h10 : ch.toNat = 10
  · have e1 : ((ch.toNat : Int) == 10) = true := by rw [beq_iff_eq]; omega
    have e2 : ((ch.toNat : Int) != 10) = false := by rw [bne, e1]; rfl
    obtain ⟨B1, hB1⟩ : ∃ B1, B1 = B := ⟨_, rfl⟩
    obtain ⟨X0, hX0⟩ : ∃ X0, X0 = a := ⟨_, rfl⟩
    have HBX : Hid (B1 = topJ ++ X0 ∧ EndNl X0 ∧ X0.length ≤ a.length + 1 ∧ (X0.filter fun q => !(q.toNat == 10)).length ≤ a.length) := by
      refine ⟨by rw [hB1, hX0]; exact HXB.out.2, ?_, by rw [hX0]; omega, by rw [hX0]; exact List.length_filter_le _ _⟩
      rw [hX0]
      refine end_of ?_
      have h := HLAST.out
      rw [show ch = 10 from UInt8.toNat.inj h10] at h
      exact h
    go_upto_region 6 with fail
    rw [HXB.out.1, ← hB1]
    have hB1l : B1.length ≤ 140737488355500 := by rw [hB1]; omega
    clear h10 e1 e2 hB1 hX0 hXs hcc HLAST HXB hw0 hw1 hmz hm0 hBl
    have hs1 : (S B1).size = B1.length := S_size B1
    have hs2 : (S F).size = F.length := S_size F
    have hs3 : (S a).size = a.length := S_size a
    have k0 : w2.cell? ⟨w.heap.size, 0, none⟩ = some (.string (S a)) := HX2.out.cell 0
    have hw1 : IntKind.i64.wrap ((B1.length : Int) + (F.length : Int)) = (B1.length : Int) + (F.length : Int) := i64_wrap _ (by omega) (by omega)
    have hw2 : IntKind.i64.wrap ((B1.length : Int) + (F.length : Int) + 40) = (B1.length : Int) + (F.length : Int) + 40 := i64_wrap _ (by omega) (by omega)
    by_cases z1 : (400000 : Int) < (B1.length : Int) + (F.length : Int) + 40
    · go_wp2_with fail
      go_ret
      exact ⟨rfl, HB2.out⟩
    by_cases z2 : (4000 : Int) ≤ (a.length : Int)
    · go_wp2_with fail
      go_ret
      exact ⟨rfl, HB2.out⟩
    have hN1 : B1.length + F.length + 40 ≤ 400000 := by omega
    have hN3 : a.length < 4000 := by omega
    have HKC : Hid ((keepL X0).length ≤ 3999) := by
      show _ ≤ _
      have h1 := keepL_count X0
      have h2 := HBX.out.2.2.2
      omega
    obtain ⟨es, hes⟩ : ∃ es, es = (keepL X0).map (lineE 2) := ⟨_, rfl⟩
    have HES := hide hes
    have HP1 : Hid (parseE B1 = (⟨cfgJ, es⟩, (idleN es : Int), 0)) := by
      show _ = _
      rw [HBX.out.1, parse_top X0 (by rw [← HBX.out.1]; omega) (by have := HKC.out; omega), HES.out]
    clear hes
    go_upto_region 8 with fail
    refine wp_region_lit ?_
    clear z1 z2 hw1 hw2 k0
    refine wpList_value rfl (.string (S B1)) (by go_simp) ?_
    try simp only [Act.put, List.setIfInBounds_toArray, List.set_cons_zero, List.set_cons_succ]
    refine wpList_step (fun K hK => ?_)
    rw [if_pos (by rfl)]
    go_simp
    go_at_call 16
    refine (HPA.out _ _ HB2.out).mono ?_
    rintro e u1 ⟨s1, n1, f1, rfl, hpe, hsu, hbu⟩
    have HPE1 := hide hpe
    have HSU := hide (hsu.base HB2.out.size)
    have HBU := hide hbu
    refine hK _ _ ?_
    clear hK K hpe hsu hbu
    try simp only [Act.put, List.setIfInBounds_toArray, List.set_cons_zero, List.set_cons_succ]
    refine wpList_value rfl (.tuple #[.agg s1.cs, .int .i64 n1, .int .i64 f1]) (by go_simp) ?_
    try simp only [Act.put, List.setIfInBounds_toArray, List.set_cons_zero, List.set_cons_succ]
    refine wpList_value rfl (.agg s1.cs) (by go_simp) ?_
    try simp only [Act.put, List.setIfInBounds_toArray, List.set_cons_zero, List.set_cons_succ]
    refine wpList_value rfl (.int .i64 n1) (by go_simp) ?_
    try simp only [Act.put, List.setIfInBounds_toArray, List.set_cons_zero, List.set_cons_succ]
    refine wpList_value rfl (.int .i64 f1) (by go_simp) ?_
    try simp only [Act.put, List.setIfInBounds_toArray, List.set_cons_zero, List.set_cons_succ]
    refine wpList_step (fun K hK => ?_)
    rw [if_pos (by rfl)]
    go_simp
    refine hK _ _ ?_
    clear hK K
    refine wpList_store_fresh rfl 47 (.tmp 6) (.tmp 48) rfl _ (s1.cs) rfl rfl (ld47 _ (sm_size _)) rfl (sm_all _) ?_
    try simp only [Act.put, List.setIfInBounds_toArray, List.set_cons_zero, List.set_cons_succ]
    obtain ⟨V1, hV⟩ : ∃ V, V = World.alloc u1 (.cells s1.cs 47) := ⟨_, rfl⟩
    obtain ⟨g1, hg⟩ : ∃ g, g = u1.heap.size := ⟨_, rfl⟩
    have hal : Below u1.heap.size u1 V1 := by rw [hV]; exact (Below.refl _ _).alloc (Nat.le_refl _) _
    have HBA := hide (HBU.out.trans (hal.mono HBU.out.size))
    have HG1 : Hid (Blk V1 g1 47 s1.cs) := by show Blk _ _ _ _; rw [hV, hg]; exact Blk.new _ _ _
    have HS1 := hide (HSU.out.step hal)
    have HV1 := hide (HB2.out.trans (HBA.out.mono HB2.out.size))
    have HGL1 : Hid (w2.heap.size ≤ g1) := by show _ ≤ _; rw [hg]; exact HBU.out.size
    rw [← hV]
    try rw [← hg]
    clear hV hg hal HSU HBU
    have HX3 := hide (HX2.out.below HBA.out HX2.out.lt)
    clear HBA
    have HQ1 : Hid ((s1.sc, n1, f1) = ((⟨cfgJ, es⟩ : Sc), (idleN es : Int), (0 : Int))) := by show _ = _; rw [← HPE1.out, HP1.out]
    have HC1 : Hid (s1.c = cfgJ ∧ s1.ms.map Em.ev = es) := by
      have h := HQ1.out
      injection h with h _
      injection h with h1 h2
      exact ⟨h1, h2⟩
    have hn1 : n1 = (idleN es : Int) := by have h := HQ1.out; injection h with _ h; injection h
    have hf1 : f1 = 0 := by have h := HQ1.out; injection h with _ h; injection h
    subst hn1 hf1
    clear HQ1 HPE1 HP1
    have hl1 : s1.ms.length ≤ 3999 := by
      have h := congrArg List.length HC1.out.2
      rw [List.length_map, HES.out, List.length_map] at h
      have := HKC.out
      omega
    go_upto_region 10 with fail
    generalize hW4 : World.alloc V1 _ = V2
    obtain ⟨gB, hgB⟩ : ∃ gB, gB = V1.heap.size := ⟨_, rfl⟩
    rw [← hgB]
    have hal : Below V1.heap.size V1 V2 := by rw [← hW4]; exact (Below.refl _ _).alloc (Nat.le_refl _) _
    have HGB : Hid (Blk V2 gB 9 passV) := by show Blk _ _ _ _; rw [← hW4, hgB]; exact Blk.new _ _ _
    have HG1b := hide (HG1.out.below hal HG1.out.lt)
    have HS1b := hide (HS1.out.step hal)
    have HV1b := hide (HV1.out.trans (hal.mono HV1.out.size))
    have HX4 := hide (HX3.out.below hal HX3.out.lt)
    clear hW4 hgB hal HG1 HS1 HV1 HX3
    obtain ⟨q, hq7, hqb⟩ := and_seven bk
    obtain ⟨ix, hix⟩ : ∃ ix, ix = q % 5 := ⟨_, rfl⟩
    have hi5 : ix < 5 := by omega
    have hi5z : (ix : Int) < 5 := by omega
    have hi0 : (0 : Int) ≤ (ix : Int) := by omega
    have hrm : Int.tmod (q : Int) 5 = (ix : Int) := by rw [Int.tmod_eq_emod_of_nonneg (by omega)]; omega
    have hwr : IntKind.i64.wrap (ix : Int) = (ix : Int) := i64_wrap _ (by omega) (by omega)
    obtain ⟨P, hP0, hP1, hP2, hP3⟩ := pass_at ix hi5
    have HPP : Hid (EndNl P ∧ keepL P = []) := ⟨hP1, hP2⟩
    have kP : V2.cell? ⟨gB, ix, none⟩ = some (.string (S P)) := by rw [HGB.out.cell]; exact hP0
    have k2 : V2.cell? ⟨w.heap.size, 2, none⟩ = some (.int .i64 bk) := HX4.out.cell 2
    clear hix hP0 hP1 hP2
    go_upto_region 11 with fail
    clear kP k2 hqb hrm hwr
    refine wp_region_lit ?_
    refine wpList_value rfl (.string (S B1)) (by go_simp) ?_
    try simp only [Act.put, List.setIfInBounds_toArray, List.set_cons_zero, List.set_cons_succ]
    refine wpList_value rfl (.string (S P)) (by go_simp) ?_
    try simp only [Act.put, List.setIfInBounds_toArray, List.set_cons_zero, List.set_cons_succ]
    refine wpList_value rfl (.string (S (cc B1 P))) (ex_cat (.tmp 60) (.tmp 61) 9 9 rfl rfl rfl (by omega)) ?_
    try simp only [Act.put, List.setIfInBounds_toArray, List.set_cons_zero, List.set_cons_succ]
    obtain ⟨D1, hD1⟩ : ∃ D, D = cc B1 P := ⟨_, rfl⟩
    have hD1l : D1.length = B1.length + P.length := by rw [hD1, cc_len]
    rw [← hD1]
    refine wpList_value rfl (.string (S (cc D1 [9]))) (ex_cat (.tmp 62) (.const (.string ⟨#[9]⟩)) 9 9 rfl rfl rfl (by simp only [List.length_singleton]; omega)) ?_
    try simp only [Act.put, List.setIfInBounds_toArray, List.set_cons_zero, List.set_cons_succ]
    obtain ⟨D2, hD2⟩ : ∃ D, D = cc D1 [9] := ⟨_, rfl⟩
    have hD2l : D2.length = B1.length + P.length + 1 := by rw [hD2, cc_len, hD1l]; rfl
    rw [← hD2]
    refine wpList_value rfl (.string (S F)) (by go_simp) ?_
    try simp only [Act.put, List.setIfInBounds_toArray, List.set_cons_zero, List.set_cons_succ]
    refine wpList_value rfl (.string (S (cc D2 F))) (ex_cat (.tmp 63) (.tmp 64) 9 9 rfl rfl rfl (by omega)) ?_
    try simp only [Act.put, List.setIfInBounds_toArray, List.set_cons_zero, List.set_cons_succ]
    obtain ⟨D3, hD3⟩ : ∃ D, D = cc D2 F := ⟨_, rfl⟩
    have hD3l : D3.length = B1.length + P.length + 1 + F.length := by rw [hD3, cc_len, hD2l]
    rw [← hD3]
    refine wpList_value rfl (.string (S (cc D3 [32, 10]))) (ex_cat (.tmp 65) (.const (.string ⟨#[32, 10]⟩)) 9 9 rfl rfl rfl (by simp only [List.length_cons, List.length_nil]; omega)) ?_
    try simp only [Act.put, List.setIfInBounds_toArray, List.set_cons_zero, List.set_cons_succ]
    obtain ⟨D4, hD4⟩ : ∃ D, D = cc D3 [32, 10] := ⟨_, rfl⟩
    have hD4l : D4.length = B1.length + P.length + 1 + F.length + 2 := by rw [hD4, cc_len, hD3l]; rfl
    rw [← hD4]
    refine wpList_value rfl (.string (S P)) (by go_simp) ?_
    try simp only [Act.put, List.setIfInBounds_toArray, List.set_cons_zero, List.set_cons_succ]
    refine wpList_value rfl (.string (S (cc D4 P))) (ex_cat (.tmp 66) (.tmp 67) 9 9 rfl rfl rfl (by omega)) ?_
    try simp only [Act.put, List.setIfInBounds_toArray, List.set_cons_zero, List.set_cons_succ]
    obtain ⟨D, hD⟩ : ∃ D, D = cc D4 P := ⟨_, rfl⟩
    have hDl : D.length = B1.length + P.length + 1 + F.length + 2 + P.length := by rw [hD, cc_len, hD4l]
    obtain ⟨fs, hfs⟩ : ∃ fs, fs = es ++ (if overB F = true then [] else [lineE 2 F]) := ⟨_, rfl⟩
    have HFS := hide hfs
    have HP2 : Hid (parseE D = (⟨cfgJ, fs⟩, (idleN fs : Int), 0)) := by
      show _ = _
      have e : D = topJ ++ (X0 ++ P ++ [9] ++ F ++ [32, 10] ++ P) := by
        rw [hD, hD4, hD3, hD2, hD1, HBX.out.1]
        simp [cc]
      have hk := keep_more (X := X0) (pass := P) (line := F) HBX.out.2.1 HPP.out.1 HPP.out.2 HFN.out
      rw [e, parse_top _ (by rw [← e]; omega) (by
        rw [hk, List.length_append]
        have := HKC.out
        split <;> simp <;> omega)]
      have h2 : (keepL (X0 ++ P ++ [9] ++ F ++ [32, 10] ++ P)).map (lineE 2) = fs := by
        rw [hk, List.map_append, HFS.out, HES.out]
        split
        · rfl
        · show _ ++ [lineE 2 (9 :: (F ++ [32]))] = _
          rw [lineE_pad]
      rw [h2]
    rw [← hD]
    clear hD1 hD2 hD3 hD4 hD hD1l hD2l hD3l hD4l hDl hfs
    refine wpList_step (fun K hK => ?_)
    rw [if_pos (by rfl)]
    go_simp
    go_at_call 16
    refine (HPA.out _ _ HV1b.out).mono ?_
    rintro e u2 ⟨s2, n2, f2, rfl, hpe, hsu, hbu⟩
    have HPE2 := hide hpe
    have HSU := hide hsu
    have HBU := hide hbu
    refine hK _ _ ?_
    clear hK K hpe hsu hbu
    try simp only [Act.put, List.setIfInBounds_toArray, List.set_cons_zero, List.set_cons_succ]
    refine wpList_value rfl (.tuple #[.agg s2.cs, .int .i64 n2, .int .i64 f2]) (by go_simp) ?_
    try simp only [Act.put, List.setIfInBounds_toArray, List.set_cons_zero, List.set_cons_succ]
    refine wpList_value rfl (.agg s2.cs) (by go_simp) ?_
    try simp only [Act.put, List.setIfInBounds_toArray, List.set_cons_zero, List.set_cons_succ]
    refine wpList_value rfl (.int .i64 n2) (by go_simp) ?_
    try simp only [Act.put, List.setIfInBounds_toArray, List.set_cons_zero, List.set_cons_succ]
    refine wpList_value rfl (.int .i64 f2) (by go_simp) ?_
    try simp only [Act.put, List.setIfInBounds_toArray, List.set_cons_zero, List.set_cons_succ]
    refine wpList_step (fun K hK => ?_)
    rw [if_pos (by rfl)]
    go_simp
    refine hK _ _ ?_
    clear hK K
    refine wpList_store_fresh rfl 47 (.tmp 11) (.tmp 70) rfl _ (s2.cs) rfl rfl (ld47 _ (sm_size _)) rfl (sm_all _) ?_
    try simp only [Act.put, List.setIfInBounds_toArray, List.set_cons_zero, List.set_cons_succ]
    obtain ⟨V3, hV⟩ : ∃ V, V = World.alloc u2 (.cells s2.cs 47) := ⟨_, rfl⟩
    obtain ⟨g2, hg⟩ : ∃ g, g = u2.heap.size := ⟨_, rfl⟩
    have hal : Below u2.heap.size u2 V3 := by rw [hV]; exact (Below.refl _ _).alloc (Nat.le_refl _) _
    have HBA := hide (HBU.out.trans (hal.mono HBU.out.size))
    have HG2 : Hid (Blk V3 g2 47 s2.cs) := by show Blk _ _ _ _; rw [hV, hg]; exact Blk.new _ _ _
    have HS2 := hide (HSU.out.step hal)
    have HV2 := hide (HV1b.out.trans (HBA.out.mono HV1b.out.size))
    have HGL2 : Hid (V2.heap.size ≤ g2) := by show _ ≤ _; rw [hg]; exact HBU.out.size
    rw [← hV]
    try rw [← hg]
    clear hV hg hal HSU HBU
    have HG1c := hide (HG1b.out.below HBA.out HG1b.out.lt)
    have HS1c := hide (HS1b.out.step HBA.out)
    obtain ⟨b2, hb2⟩ : ∃ b2, b2 = V2.heap.size := ⟨_, rfl⟩
    have HR1 : Hid (∀ g, (Value.slice s1.Ae s1.ms.length s1.ke).ownBlock = some g → g < b2) := fun g hg => by rw [hb2]; exact (HS1b.out.row.lt g hg).2
    have hg1b : g1 < b2 := by rw [hb2]; exact HG1b.out.lt
    have hg2b : b2 ≤ g2 := by rw [hb2]; exact HGL2.out
    have hwb : w.heap.size ≤ b2 := by rw [hb2]; exact HV1b.out.size
    have hwg1 : w.heap.size ≤ g1 := Nat.le_trans HB2.out.size HGL1.out
    rw [← hb2] at HS2
    clear hb2 HGL1 HGL2
    clear HBA HG1b HS1b HGB HX4
    have HQ2 : Hid ((s2.sc, n2, f2) = ((⟨cfgJ, fs⟩ : Sc), (idleN fs : Int), (0 : Int))) := by show _ = _; rw [← HPE2.out, HP2.out]
    have HC2 : Hid (s2.c = cfgJ ∧ s2.ms.map Em.ev = fs) := by
      have h := HQ2.out
      injection h with h _
      injection h with h1 h2
      exact ⟨h1, h2⟩
    have hn2 : n2 = (idleN fs : Int) := by have h := HQ2.out; injection h with _ h; injection h
    have hf2 : f2 = 0 := by have h := HQ2.out; injection h with _ h; injection h
    subst hn2 hf2
    clear HQ2 HPE2 HP2
    have k6 : V3.cell? ⟨g1, 6, none⟩ = some (.int .i64 3) := by
      have h := HG1c.out.cell 6
      rw [h]
      show some (Value.int .i64 s1.c.floor) = _
      rw [HC1.out.1]
      rfl
    have hsV : w.heap.size ≤ V3.heap.size := HV2.out.size
    obtain ⟨XF, hXF⟩ : ∃ XF, XF = S F := ⟨_, rfl⟩
    have hXs : XF.size = F.length := by rw [hXF, S_size]
    have hXd : XF.data.toList = F := by rw [hXF, S_data]
    rw [← hXF] at hs2 ⊢
    have HXF : Hid (XF = S F ∧ XF.data.toList = F) := ⟨hXF, hXd⟩
    have hFs : XF.size ≤ 400000 := by omega
    obtain ⟨i1, hi1⟩ : ∃ i1 : Int, i1 = (idleN es : Int) := ⟨_, rfl⟩
    obtain ⟨i2, hi2⟩ : ∃ i2 : Int, i2 = (idleN fs : Int) := ⟨_, rfl⟩
    have HI : Hid (i1 = (idleN es : Int) ∧ i2 = (idleN fs : Int)) := ⟨hi1, hi2⟩
    rw [← hi1, ← hi2]
    clear hXF hXd hs1 hs3 hs2 hi1 hi2 hi5 hi5z hi0 hXs
    go_upto_region 16 with fail
    clear k6
    have HL0 : Hid (overB F = overB (F.drop 0)) := rfl
    go_loopw [14, 15] (fun o i wr => ∃ k : Nat, k ≤ XF.size ∧ i = .int .i64 k ∧ o = .bool true ∧ Hid (overB F = overB (F.drop k)) ∧ wr = V3) (fun _ i _ => XF.size - (intOf i).toNat)
    case atStart => exact ⟨0, Nat.zero_le _, rfl, rfl, HL0, rfl⟩
    case round =>
      clear HL0
      obtain ⟨k, hk, rfl, rfl, HOV, rfl⟩ := hrel
      have kz : (0 : Int) ≤ (k : Int) := by omega
      by_cases hlt : k < XF.size
      · have ks : (k : Int) < (XF.size : Int) := by omega
        obtain ⟨cf, hcf⟩ : ∃ cf, cf = XF[k] := ⟨_, rfl⟩
        have hcc := hcf.symm
        have HD : Hid (overB F = if blk cf = true then overB (F.drop (k + 1)) else cf.toNat == 35) := by
          show _ = _
          rw [HOV.out]
          have h1 := bdrop hlt
          rw [HXF.out.2] at h1
          rw [h1, hcf]
          rfl
        have q256 : cf.toNat < 256 := cf.toNat_lt
        clear hcf
        by_cases h32 : cf.toNat = 32
        · have e1 : ((cf.toNat : Int) == 32) = true := by rw [beq_iff_eq]; omega
          have e2 : ((cf.toNat : Int) != 32) = false := by rw [bne, e1]; rfl
          have HD2 : Hid (overB F = overB (F.drop (k + 1))) := by show _ = _; rw [HD.out, if_pos (by unfold blk; rw [h32]; rfl)]
          clear h32
          go_wp2_with fail
          go_roundw
          case rel => first | exact ⟨k + 1, by omega, by go_num, rfl, HD2, rfl⟩ | exact ⟨k + 1, by omega, by go_num, rfl, HD2, trivial⟩
          case measure => simp [intOf]; omega
        by_cases h9 : cf.toNat = 9
        · have e1 : ((cf.toNat : Int) == 32) = false := by rw [beq_eq_false_iff_ne]; omega
          have e2 : ((cf.toNat : Int) != 32) = true := by rw [bne, e1]; rfl
          have e3 : ((cf.toNat : Int) == 9) = true := by rw [beq_iff_eq]; omega
          have e4 : ((cf.toNat : Int) != 9) = false := by rw [bne, e3]; rfl
          have HD2 : Hid (overB F = overB (F.drop (k + 1))) := by show _ = _; rw [HD.out, if_pos (by unfold blk; rw [h9]; rfl)]
          clear h32 h9
          go_wp2_with fail
          go_roundw
          case rel => first | exact ⟨k + 1, by omega, by go_num, rfl, HD2, rfl⟩ | exact ⟨k + 1, by omega, by go_num, rfl, HD2, trivial⟩
          case measure => simp [intOf]; omega
        have e1 : ((cf.toNat : Int) == 32) = false := by rw [beq_eq_false_iff_ne]; omega
        have e2 : ((cf.toNat : Int) != 32) = true := by rw [bne, e1]; rfl
        have e3 : ((cf.toNat : Int) == 9) = false := by rw [beq_eq_false_iff_ne]; omega
        have e4 : ((cf.toNat : Int) != 9) = true := by rw [bne, e3]; rfl
        have HD2 : Hid (overB F = (cf.toNat == 35)) := by show _ = _; rw [HD.out, if_neg (by unfold blk; simp [h32, h9])]
        by_cases h35 : cf.toNat = 35
        · have e5 : ((cf.toNat : Int) == 35) = true := by rw [beq_iff_eq]; omega
          have HO : Hid (overB F = true) := by show _ = _; rw [HD2.out, h35]; rfl
          clear h32 h9 h35
          have HFE : Hid (fs = es) := by show _ = _; rw [HFS.out, if_pos HO.out, List.append_nil]
          have hii : i2 = i1 := by rw [HI.out.1, HI.out.2, HFE.out]
          have q1 : (i2 == i1) = true := by rw [hii]; simp
          have HSS : Hid (Calls Tryd.prog 18 #[.agg s1.cs, .agg s2.cs] wr fun e w' => e = .returned (.bool true) ∧ Below wr.heap.size wr w') := same_scripts wr HS1c.out.inn HS2.out.inn (by
            show Sc.mk _ _ = Sc.mk _ _
            rw [HC1.out.1, HC2.out.1, HC1.out.2, HC2.out.2, HFE.out])
          clear hii
          go_wp2_with first
            | (refine wpList_gvalue (by rfl) (.agg s1.cs) (ex_load 47 (.tmp 6) rfl _ rfl _ _ Tryd.underlying47 rfl (ld47 _ (sm_size _)) (box_all HG1c.out)) ?_)
            | (refine wpList_gvalue (by rfl) (.agg s2.cs) (ex_load 47 (.tmp 11) rfl _ rfl _ _ Tryd.underlying47 rfl (ld47 _ (sm_size _)) (box_all HG2.out)) ?_)
            | (go_at_call 18; refine HSS.out.mono ?_; rintro e w5 ⟨rfl, hb5⟩; have HB5 := hide (HV2.out.trans (hb5.mono hsV)); clear hb5)
          go_ret
          exact ⟨rfl, HB5.out⟩
        · have e5 : ((cf.toNat : Int) == 35) = false := by rw [beq_eq_false_iff_ne]; omega
          have HO : Hid (overB F = false) := by show _ = _; rw [HD2.out]; simpa using h35
          clear h32 h9 h35
          have HFE : Hid (fs = es ++ [lineE 2 F]) := by show _ = _; rw [HFS.out, if_neg (by rw [HO.out]; decide)]
          have HEVC := hide (HPE.out wr (by omega) HV2.out)
          rw [← HXF.out.1] at HEVC
          go_upto_region 22 with fail
          refine wp_region_lit ?_
          refine wpList_value rfl (.string XF) (by go_simp) ?_
          try simp only [Act.put, List.setIfInBounds_toArray, List.set_cons_zero, List.set_cons_succ]
          refine wpList_step (fun K hK => ?_)
          rw [if_pos (by rfl)]
          go_simp
          go_at_call 9
          refine HEVC.out.mono ?_
          rintro e u5 ⟨me, rfl, hev, hu, hb5⟩
          have HEV := hide hev
          have HU5 := hide hu
          have HB5 := hide hb5
          refine hK _ _ ?_
          clear hK K hev hu hb5 HEVC
          try simp only [Act.put, List.setIfInBounds_toArray, List.set_cons_zero, List.set_cons_succ]
          refine wpList_step (fun K hK => ?_)
          rw [if_pos (by rfl)]
          go_simp
          refine hK _ _ ?_
          clear hK K
          refine wpList_store_fresh rfl 29 (.tmp 16) (.tmp 118) rfl _ (me.cs) rfl rfl (ld29 _ (em_size _)) rfl (ecs_all me) ?_
          try simp only [Act.put, List.setIfInBounds_toArray, List.set_cons_zero, List.set_cons_succ]
          obtain ⟨w6, hw6⟩ : ∃ w6, w6 = World.alloc u5 (.cells me.cs 29) := ⟨_, rfl⟩
          obtain ⟨ge, hge⟩ : ∃ ge, ge = u5.heap.size := ⟨_, rfl⟩
          have hal : Below u5.heap.size u5 w6 := by rw [hw6]; exact (Below.refl _ _).alloc (Nat.le_refl _) _
          have HBE : Hid (Blk w6 ge 29 me.cs) := by show Blk _ _ _ _; rw [hw6, hge]; exact Blk.new _ _ _
          have hbc : Below wr.heap.size wr w6 := HB5.out.trans (hal.mono HB5.out.size)
          have HUE := hide ((HU5.out.step hal).base hsV)
          rw [← hw6]
          try rw [← hge]
          have HG1d := hide (HG1c.out.below hbc HG1c.out.lt)
          have HG2d := hide (HG2.out.below hbc HG2.out.lt)
          have HS1d := hide (HS1c.out.step hbc)
          have HS2d := hide (HS2.out.step hbc)
          have HV6 := hide (HV2.out.trans (hbc.mono hsV))
          have hs6 : w.heap.size ≤ w6.heap.size := HV6.out.size
          have HNE : Hid (g1 ≠ g2 ∧ w.heap.size ≤ g1) := ⟨by omega, hwg1⟩
          clear hw6 hge hal hbc HB5 HU5
          have HLX : Hid (∀ (g4 c4 : Nat) (W4 : World), W4.ownsRow w.heap.size 29 13 (.slice (some ⟨g4, 0, none⟩) (s1.ms.length + 1) c4) (s1.ms.length + 1) (emCells s1.ms ++ me.cs.toList) → (w6.alloc (.cells me.cs 29)).grownBy W4 (Value.slice s1.Ae s1.ms.length s1.ke).ownBlock → Below w.heap.size w6 W4 → Blk W4 g1 47 s1.cs ∧ ∃ s3 : Sm, s3.sc = s2.sc ∧ s3.ms.length ≤ 4000 ∧ Blk (W4.setCell ⟨g1, 8, none⟩ (.slice (some ⟨g4, 0, none⟩) (s1.ms.length + 1) c4)) g1 47 s3.cs ∧ SmU (W4.setCell ⟨g1, 8, none⟩ (.slice (some ⟨g4, 0, none⟩) (s1.ms.length + 1) c4)) w.heap.size s3 ∧ SmU (W4.setCell ⟨g1, 8, none⟩ (.slice (some ⟨g4, 0, none⟩) (s1.ms.length + 1) c4)) w.heap.size s2 ∧ Blk (W4.setCell ⟨g1, 8, none⟩ (.slice (some ⟨g4, 0, none⟩) (s1.ms.length + 1) c4)) g2 47 s2.cs ∧ Below w.heap.size w (W4.setCell ⟨g1, 8, none⟩ (.slice (some ⟨g4, 0, none⟩) (s1.ms.length + 1) c4))) := by
            intro g4 c4 W4 hown4 hgr4 hb4
            have hal2 := (Below.refl w6.heap.size w6).alloc (Nat.le_refl _) (.cells me.cs 29)
            have hrowA := own_step HS1d.out.row hal2
            have hx1 : Blk W4 g1 47 s1.cs := (HG1d.out.alloc _).grown hgr4 (own_ne hrowA (HG1d.out.alloc _) (by decide))
            have hx2 : Blk W4 g2 47 s2.cs := (HG2d.out.alloc _).grown hgr4 (own_ne hrowA (HG2d.out.alloc _) (by decide))
            have hW := only_setCell0 W4 g1 8 (.slice (some ⟨g4, 0, none⟩) (s1.ms.length + 1) c4)
            have hn1 : (s1.ms ++ [me]).length = s1.ms.length + 1 := by simp
            have ho1 : Only (fun k => k < b2) (w6.alloc (.cells me.cs 29)) W4 := Only.of_grown hgr4 (fun g hg _ => HR1.out g hg)
            have ho2 : Only (fun k => k < b2) W4 (W4.setCell ⟨g1, 8, none⟩ (.slice (some ⟨g4, 0, none⟩) (s1.ms.length + 1) c4)) := hW.mono (fun k _ e => by have e2 : k = g1 := e; show k < b2; omega)
            refine ⟨hx1, ⟨s1.c, s1.A, s1.k, some ⟨g4, 0, none⟩, c4, s1.ms ++ [me]⟩, ?_, by show (s1.ms ++ [me]).length ≤ _; rw [hn1]; omega, ?_, ?_, ?_, hx2.only hW (fun e => HNE.out.1 e.symm), ?_⟩
            · show Sc.mk _ _ = Sc.mk _ _
              rw [HC1.out.1, HC2.out.1, HC2.out.2, HFE.out, List.map_append, HC1.out.2, ← HEV.out]
              rfl
            · have := hx1.set_ 8 (.slice (some ⟨g4, 0, none⟩) (s1.ms.length + 1) c4)
              rw [← hn1] at this ⊢
              exact this
            · refine SmU.far (t := 47) (cs := s1.cs) ⟨?_, ?_, ?_, by show (s1.ms ++ [me]).length ≤ _; rw [hn1]; omega⟩ hx1 (by decide) (by decide) (by decide) hW
              · exact (HS1d.out.cfg.step hal2).push hrowA (by decide) hgr4
              · show World.ownsRow _ _ _ _ (.slice _ (s1.ms ++ [me]).length _) (s1.ms ++ [me]).length (emCells (s1.ms ++ [me]))
                rw [hn1, emCells_snoc]
                exact hown4
              · intro x hx
                rcases List.mem_append.1 hx with hx | hx
                · exact ((HS1d.out.ent x hx).step hal2).push hrowA (by decide) (by decide) hgr4
                · obtain rfl : x = me := by simpa using hx
                  exact (HUE.out.step hal2).push hrowA (by decide) (by decide) hgr4
            · exact (((HS2d.out.step hal2).above ho1).above ho2).base hwb
            · have hbb := HV6.out.trans hb4
              exact hbb.trans (hW.below hbb.size (fun k hk e => by have e2 : k = g1 := e; have := HNE.out.2; omega))
          go_upto_region 23 with fail
          refine wp_region_lit ?_
          have kf : w6.cell? ⟨g1, 8, none⟩ = some (.slice s1.Ae s1.ms.length s1.ke) := HG1d.out.cell 8
          refine wpList_value rfl (.pointer (some ⟨g1, 8, none⟩)) (by go_simp) ?_
          try simp only [Act.put, List.setIfInBounds_toArray, List.set_cons_zero, List.set_cons_succ]
          refine wpList_value rfl (.slice s1.Ae s1.ms.length s1.ke) (by go_simp) ?_
          try simp only [Act.put, List.setIfInBounds_toArray, List.set_cons_zero, List.set_cons_succ]
          clear kf
          refine wpList_value rfl (.agg me.cs) (ex_load 29 (.tmp 16) rfl _ rfl me.cs _ Tryd.underlying29 rfl (ld29 _ (em_size _)) (ebox_all HBE.out)) ?_
          try simp only [Act.put, List.setIfInBounds_toArray, List.set_cons_zero, List.set_cons_succ]
          refine wpList_one29 rfl (.tmp 121) rfl me rfl ?_
          try simp only [Act.put, List.setIfInBounds_toArray, List.set_cons_zero, List.set_cons_succ]
          refine wpList_push (W := w6) (cs := me.cs) rfl (.tmp 120) (.tmp 122) 45 rfl w.heap.size 29 i29 _ 13 160 Tryd.underlying45 I29.out Z29.out hs29 hb29 rfl (by omega) (.slice s1.Ae s1.ms.length s1.ke) s1.ms.length (emCells s1.ms) rfl HS1d.out.row 1 1 rfl rfl (ecs_one me) (by omega) (by unfold maxLen; omega) (by omega) hs6 ?_
          intro g4 c4 W4 hown4 hgr4 hb4 _ _ _
          obtain ⟨hx1, s3, hs3a, hs3b, hs3c, hs3d, hs3e, hs3f, hs3g⟩ := HLX.out g4 c4 W4 hown4 hgr4 hb4
          have HX1' := hide hx1
          have H3A := hide hs3a
          have H3C := hide hs3c
          have H3D := hide hs3d
          have H3E := hide hs3e
          have H3F := hide hs3f
          have H3G := hide hs3g
          have c9 := HX1'.out.cell 8
          have f9 := Blk.frozen HX1'.out 8
          clear hown4 hgr4 hb4 hx1 hs3a hs3c hs3d hs3e hs3f hs3g
          try simp only [Act.put, List.setIfInBounds_toArray, List.set_cons_zero, List.set_cons_succ]
          go_upto_region 24 with fail
          clear c9 f9
          generalize hW7 : World.setCell W4 _ _ = W7
          rw [hW7] at H3C H3D H3E H3F H3G
          clear hW7
          have hs7 : w.heap.size ≤ W7.heap.size := H3G.out.size
          have HIM : Hid (s3.ms.map Em.ev = fs) := by
            have h := H3A.out
            injection h with _ h
            exact h.trans HC2.out.2
          have HID : Hid (Calls Tryd.prog 20 #[.agg s3.cs] W7 fun e w' => e = .returned (.int .i64 i2) ∧ Below W7.heap.size W7 w') := by
            have h := idle_any (s := s3) W7 H3D.out.inn.row (by omega)
            rw [HIM.out, ← HI.out.2] at h
            exact h
          go_wp2_with first
            | (refine wpList_gvalue (by rfl) (.agg s3.cs) (ex_load 47 (.tmp 6) rfl _ rfl _ _ Tryd.underlying47 rfl (ld47 _ (sm_size _)) (box_all H3C.out)) ?_)
            | (refine wpList_gvalue (by rfl) (.agg s3.cs) (ex_load 47 (.tmp 6) rfl _ rfl _ _ Tryd.underlying47 rfl (ld47 _ (sm_size _)) (box_all HG8.out)) ?_)
            | (refine wpList_gvalue (by rfl) (.agg s2.cs) (ex_load 47 (.tmp 11) rfl _ rfl _ _ Tryd.underlying47 rfl (ld47 _ (sm_size _)) (box_all HG9.out)) ?_)
            | (go_at_call 20; refine HID.out.mono ?_; rintro e w8 ⟨rfl, hb8⟩; have HG8 := hide (H3C.out.below hb8 H3C.out.lt); have HG9 := hide (H3F.out.below hb8 H3F.out.lt); have HB8 := hide (H3G.out.trans (hb8.mono hs7)); have HSS := hide (same_scripts w8 (H3D.out.step hb8).inn (H3E.out.step hb8).inn H3A.out); have hs8 : w.heap.size ≤ w8.heap.size := HB8.out.size; have q1 : (i2 == i2) = true := (by simp); clear hb8)
            | (go_at_call 18; refine HSS.out.mono ?_; rintro e w9 ⟨rfl, hb9⟩; have HB9 := hide (HB8.out.trans (hb9.mono hs8)); clear hb9)
          go_ret
          exact ⟨rfl, HB9.out⟩
      · have ks : ¬ (k : Int) < (XF.size : Int) := by omega
        have HO : Hid (overB F = true) := by show _ = _; rw [HOV.out, List.drop_eq_nil_of_le (by rw [← HXF.out.2, str_len]; omega)]; rfl
        clear hlt
        have HFE : Hid (fs = es) := by show _ = _; rw [HFS.out, if_pos HO.out, List.append_nil]
        have hii : i2 = i1 := by rw [HI.out.1, HI.out.2, HFE.out]
        have q1 : (i2 == i1) = true := by rw [hii]; simp
        have HSS : Hid (Calls Tryd.prog 18 #[.agg s1.cs, .agg s2.cs] wr fun e w' => e = .returned (.bool true) ∧ Below wr.heap.size wr w') := same_scripts wr HS1c.out.inn HS2.out.inn (by
          show Sc.mk _ _ = Sc.mk _ _
          rw [HC1.out.1, HC2.out.1, HC1.out.2, HC2.out.2, HFE.out])
        clear hii
        go_wp2_with first
          | (refine wpList_gvalue (by rfl) (.agg s1.cs) (ex_load 47 (.tmp 6) rfl _ rfl _ _ Tryd.underlying47 rfl (ld47 _ (sm_size _)) (box_all HG1c.out)) ?_)
          | (refine wpList_gvalue (by rfl) (.agg s2.cs) (ex_load 47 (.tmp 11) rfl _ rfl _ _ Tryd.underlying47 rfl (ld47 _ (sm_size _)) (box_all HG2.out)) ?_)
          | (go_at_call 18; refine HSS.out.mono ?_; rintro e w5 ⟨rfl, hb5⟩; have HB5 := hide (HV2.out.trans (hb5.mono hsV)); clear hb5)
        go_ret
        exact ⟨rfl, HB5.out⟩
  · have e1 : ((ch.toNat : Int) == 10) = false := by rw [beq_eq_false_iff_ne]; omega
    have e2 : ((ch.toNat : Int) != 10) = true := by rw [bne, e1]; rfl
    obtain ⟨B1, hB1⟩ : ∃ B1, B1 = cc B [10] := ⟨_, rfl⟩
    obtain ⟨X0, hX0⟩ : ∃ X0, X0 = a ++ [10] := ⟨_, rfl⟩
    have HBX : Hid (B1 = topJ ++ X0 ∧ EndNl X0 ∧ X0.length ≤ a.length + 1 ∧ (X0.filter fun q => !(q.toNat == 10)).length ≤ a.length) := by
      refine ⟨?_, .inr ⟨a, hX0⟩, by rw [hX0]; simp, ?_⟩
      · rw [hB1, hX0, ← List.append_assoc, ← HXB.out.2]
        rfl
      · rw [hX0, List.filter_append]
        have := List.length_filter_le (fun q => !(q.toNat == 10)) a
        simp
        exact this
    have hBl2 : B.length + [(10 : UInt8)].length ≤ 9223372036854775807 := by simp; omega
    go_upto_region 5 with fail
    refine wp_region_lit ?_
    refine wpList_value rfl (.string (S B)) (by rw [← HXB.out.1]; go_simp) ?_
    try simp only [Act.put, List.setIfInBounds_toArray, List.set_cons_zero, List.set_cons_succ]
    refine wpList_value rfl (.string (S (cc B [10]))) (ex_cat (.tmp 30) (.const (.string ⟨#[10]⟩)) 9 9 rfl rfl rfl hBl2) ?_
    try simp only [Act.put, List.setIfInBounds_toArray, List.set_cons_zero, List.set_cons_succ]
    rw [← hB1]
    have hB1l : B1.length ≤ 140737488355500 := by rw [hB1, cc_len]; simp; omega
    clear h10 e1 e2 hB1 hX0 hXs hcc HLAST HXB hw0 hw1 hmz hm0 hBl hBl2
    go_upto_region 6 with fail
    have hs1 : (S B1).size = B1.length := S_size B1
    have hs2 : (S F).size = F.length := S_size F
    have hs3 : (S a).size = a.length := S_size a
    have k0 : w2.cell? ⟨w.heap.size, 0, none⟩ = some (.string (S a)) := HX2.out.cell 0
    have hw1 : IntKind.i64.wrap ((B1.length : Int) + (F.length : Int)) = (B1.length : Int) + (F.length : Int) := i64_wrap _ (by omega) (by omega)
    have hw2 : IntKind.i64.wrap ((B1.length : Int) + (F.length : Int) + 40) = (B1.length : Int) + (F.length : Int) + 40 := i64_wrap _ (by omega) (by omega)
    by_cases z1 : (400000 : Int) < (B1.length : Int) + (F.length : Int) + 40
    · go_wp2_with fail
      go_ret
      exact ⟨rfl, HB2.out⟩
    by_cases z2 : (4000 : Int) ≤ (a.length : Int)
    · go_wp2_with fail
      go_ret
      exact ⟨rfl, HB2.out⟩
    have hN1 : B1.length + F.length + 40 ≤ 400000 := by omega
    have hN3 : a.length < 4000 := by omega
    have HKC : Hid ((keepL X0).length ≤ 3999) := by
      show _ ≤ _
      have h1 := keepL_count X0
      have h2 := HBX.out.2.2.2
      omega
    obtain ⟨es, hes⟩ : ∃ es, es = (keepL X0).map (lineE 2) := ⟨_, rfl⟩
    have HES := hide hes
    have HP1 : Hid (parseE B1 = (⟨cfgJ, es⟩, (idleN es : Int), 0)) := by
      show _ = _
      rw [HBX.out.1, parse_top X0 (by rw [← HBX.out.1]; omega) (by have := HKC.out; omega), HES.out]
    clear hes
    go_upto_region 8 with fail
    refine wp_region_lit ?_
    clear z1 z2 hw1 hw2 k0
    refine wpList_value rfl (.string (S B1)) (by go_simp) ?_
    try simp only [Act.put, List.setIfInBounds_toArray, List.set_cons_zero, List.set_cons_succ]
    refine wpList_step (fun K hK => ?_)
    rw [if_pos (by rfl)]
    go_simp
    go_at_call 16
    refine (HPA.out _ _ HB2.out).mono ?_
    rintro e u1 ⟨s1, n1, f1, rfl, hpe, hsu, hbu⟩
    have HPE1 := hide hpe
    have HSU := hide (hsu.base HB2.out.size)
    have HBU := hide hbu
    refine hK _ _ ?_
    clear hK K hpe hsu hbu
    try simp only [Act.put, List.setIfInBounds_toArray, List.set_cons_zero, List.set_cons_succ]
    refine wpList_value rfl (.tuple #[.agg s1.cs, .int .i64 n1, .int .i64 f1]) (by go_simp) ?_
    try simp only [Act.put, List.setIfInBounds_toArray, List.set_cons_zero, List.set_cons_succ]
    refine wpList_value rfl (.agg s1.cs) (by go_simp) ?_
    try simp only [Act.put, List.setIfInBounds_toArray, List.set_cons_zero, List.set_cons_succ]
    refine wpList_value rfl (.int .i64 n1) (by go_simp) ?_
    try simp only [Act.put, List.setIfInBounds_toArray, List.set_cons_zero, List.set_cons_succ]
    refine wpList_value rfl (.int .i64 f1) (by go_simp) ?_
    try simp only [Act.put, List.setIfInBounds_toArray, List.set_cons_zero, List.set_cons_succ]
    refine wpList_step (fun K hK => ?_)
    rw [if_pos (by rfl)]
    go_simp
    refine hK _ _ ?_
    clear hK K
    refine wpList_store_fresh rfl 47 (.tmp 6) (.tmp 48) rfl _ (s1.cs) rfl rfl (ld47 _ (sm_size _)) rfl (sm_all _) ?_
    try simp only [Act.put, List.setIfInBounds_toArray, List.set_cons_zero, List.set_cons_succ]
    obtain ⟨V1, hV⟩ : ∃ V, V = World.alloc u1 (.cells s1.cs 47) := ⟨_, rfl⟩
    obtain ⟨g1, hg⟩ : ∃ g, g = u1.heap.size := ⟨_, rfl⟩
    have hal : Below u1.heap.size u1 V1 := by rw [hV]; exact (Below.refl _ _).alloc (Nat.le_refl _) _
    have HBA := hide (HBU.out.trans (hal.mono HBU.out.size))
    have HG1 : Hid (Blk V1 g1 47 s1.cs) := by show Blk _ _ _ _; rw [hV, hg]; exact Blk.new _ _ _
    have HS1 := hide (HSU.out.step hal)
    have HV1 := hide (HB2.out.trans (HBA.out.mono HB2.out.size))
    have HGL1 : Hid (w2.heap.size ≤ g1) := by show _ ≤ _; rw [hg]; exact HBU.out.size
    rw [← hV]
    try rw [← hg]
    clear hV hg hal HSU HBU
    have HX3 := hide (HX2.out.below HBA.out HX2.out.lt)
    clear HBA
    have HQ1 : Hid ((s1.sc, n1, f1) = ((⟨cfgJ, es⟩ : Sc), (idleN es : Int), (0 : Int))) := by show _ = _; rw [← HPE1.out, HP1.out]
    have HC1 : Hid (s1.c = cfgJ ∧ s1.ms.map Em.ev = es) := by
      have h := HQ1.out
      injection h with h _
      injection h with h1 h2
      exact ⟨h1, h2⟩
    have hn1 : n1 = (idleN es : Int) := by have h := HQ1.out; injection h with _ h; injection h
    have hf1 : f1 = 0 := by have h := HQ1.out; injection h with _ h; injection h
    subst hn1 hf1
    clear HQ1 HPE1 HP1
    have hl1 : s1.ms.length ≤ 3999 := by
      have h := congrArg List.length HC1.out.2
      rw [List.length_map, HES.out, List.length_map] at h
      have := HKC.out
      omega
    go_upto_region 10 with fail
    generalize hW4 : World.alloc V1 _ = V2
    obtain ⟨gB, hgB⟩ : ∃ gB, gB = V1.heap.size := ⟨_, rfl⟩
    rw [← hgB]
    have hal : Below V1.heap.size V1 V2 := by rw [← hW4]; exact (Below.refl _ _).alloc (Nat.le_refl _) _
    have HGB : Hid (Blk V2 gB 9 passV) := by show Blk _ _ _ _; rw [← hW4, hgB]; exact Blk.new _ _ _
    have HG1b := hide (HG1.out.below hal HG1.out.lt)
    have HS1b := hide (HS1.out.step hal)
    have HV1b := hide (HV1.out.trans (hal.mono HV1.out.size))
    have HX4 := hide (HX3.out.below hal HX3.out.lt)
    clear hW4 hgB hal HG1 HS1 HV1 HX3
    obtain ⟨q, hq7, hqb⟩ := and_seven bk
    obtain ⟨ix, hix⟩ : ∃ ix, ix = q % 5 := ⟨_, rfl⟩
    have hi5 : ix < 5 := by omega
    have hi5z : (ix : Int) < 5 := by omega
    have hi0 : (0 : Int) ≤ (ix : Int) := by omega
    have hrm : Int.tmod (q : Int) 5 = (ix : Int) := by rw [Int.tmod_eq_emod_of_nonneg (by omega)]; omega
    have hwr : IntKind.i64.wrap (ix : Int) = (ix : Int) := i64_wrap _ (by omega) (by omega)
    obtain ⟨P, hP0, hP1, hP2, hP3⟩ := pass_at ix hi5
    have HPP : Hid (EndNl P ∧ keepL P = []) := ⟨hP1, hP2⟩
    have kP : V2.cell? ⟨gB, ix, none⟩ = some (.string (S P)) := by rw [HGB.out.cell]; exact hP0
    have k2 : V2.cell? ⟨w.heap.size, 2, none⟩ = some (.int .i64 bk) := HX4.out.cell 2
    clear hix hP0 hP1 hP2
    go_upto_region 11 with fail
    clear kP k2 hqb hrm hwr
    refine wp_region_lit ?_
    refine wpList_value rfl (.string (S B1)) (by go_simp) ?_
    try simp only [Act.put, List.setIfInBounds_toArray, List.set_cons_zero, List.set_cons_succ]
    refine wpList_value rfl (.string (S P)) (by go_simp) ?_
    try simp only [Act.put, List.setIfInBounds_toArray, List.set_cons_zero, List.set_cons_succ]
    refine wpList_value rfl (.string (S (cc B1 P))) (ex_cat (.tmp 60) (.tmp 61) 9 9 rfl rfl rfl (by omega)) ?_
    try simp only [Act.put, List.setIfInBounds_toArray, List.set_cons_zero, List.set_cons_succ]
    obtain ⟨D1, hD1⟩ : ∃ D, D = cc B1 P := ⟨_, rfl⟩
    have hD1l : D1.length = B1.length + P.length := by rw [hD1, cc_len]
    rw [← hD1]
    refine wpList_value rfl (.string (S (cc D1 [9]))) (ex_cat (.tmp 62) (.const (.string ⟨#[9]⟩)) 9 9 rfl rfl rfl (by simp only [List.length_singleton]; omega)) ?_
    try simp only [Act.put, List.setIfInBounds_toArray, List.set_cons_zero, List.set_cons_succ]
    obtain ⟨D2, hD2⟩ : ∃ D, D = cc D1 [9] := ⟨_, rfl⟩
    have hD2l : D2.length = B1.length + P.length + 1 := by rw [hD2, cc_len, hD1l]; rfl
    rw [← hD2]
    refine wpList_value rfl (.string (S F)) (by go_simp) ?_
    try simp only [Act.put, List.setIfInBounds_toArray, List.set_cons_zero, List.set_cons_succ]
    refine wpList_value rfl (.string (S (cc D2 F))) (ex_cat (.tmp 63) (.tmp 64) 9 9 rfl rfl rfl (by omega)) ?_
    try simp only [Act.put, List.setIfInBounds_toArray, List.set_cons_zero, List.set_cons_succ]
    obtain ⟨D3, hD3⟩ : ∃ D, D = cc D2 F := ⟨_, rfl⟩
    have hD3l : D3.length = B1.length + P.length + 1 + F.length := by rw [hD3, cc_len, hD2l]
    rw [← hD3]
    refine wpList_value rfl (.string (S (cc D3 [32, 10]))) (ex_cat (.tmp 65) (.const (.string ⟨#[32, 10]⟩)) 9 9 rfl rfl rfl (by simp only [List.length_cons, List.length_nil]; omega)) ?_
    try simp only [Act.put, List.setIfInBounds_toArray, List.set_cons_zero, List.set_cons_succ]
    obtain ⟨D4, hD4⟩ : ∃ D, D = cc D3 [32, 10] := ⟨_, rfl⟩
    have hD4l : D4.length = B1.length + P.length + 1 + F.length + 2 := by rw [hD4, cc_len, hD3l]; rfl
    rw [← hD4]
    refine wpList_value rfl (.string (S P)) (by go_simp) ?_
    try simp only [Act.put, List.setIfInBounds_toArray, List.set_cons_zero, List.set_cons_succ]
    refine wpList_value rfl (.string (S (cc D4 P))) (ex_cat (.tmp 66) (.tmp 67) 9 9 rfl rfl rfl (by omega)) ?_
    try simp only [Act.put, List.setIfInBounds_toArray, List.set_cons_zero, List.set_cons_succ]
    obtain ⟨D, hD⟩ : ∃ D, D = cc D4 P := ⟨_, rfl⟩
    have hDl : D.length = B1.length + P.length + 1 + F.length + 2 + P.length := by rw [hD, cc_len, hD4l]
    obtain ⟨fs, hfs⟩ : ∃ fs, fs = es ++ (if overB F = true then [] else [lineE 2 F]) := ⟨_, rfl⟩
    have HFS := hide hfs
    have HP2 : Hid (parseE D = (⟨cfgJ, fs⟩, (idleN fs : Int), 0)) := by
      show _ = _
      have e : D = topJ ++ (X0 ++ P ++ [9] ++ F ++ [32, 10] ++ P) := by
        rw [hD, hD4, hD3, hD2, hD1, HBX.out.1]
        simp [cc]
      have hk := keep_more (X := X0) (pass := P) (line := F) HBX.out.2.1 HPP.out.1 HPP.out.2 HFN.out
      rw [e, parse_top _ (by rw [← e]; omega) (by
        rw [hk, List.length_append]
        have := HKC.out
        split <;> simp <;> omega)]
      have h2 : (keepL (X0 ++ P ++ [9] ++ F ++ [32, 10] ++ P)).map (lineE 2) = fs := by
        rw [hk, List.map_append, HFS.out, HES.out]
        split
        · rfl
        · show _ ++ [lineE 2 (9 :: (F ++ [32]))] = _
          rw [lineE_pad]
      rw [h2]
    rw [← hD]
    clear hD1 hD2 hD3 hD4 hD hD1l hD2l hD3l hD4l hDl hfs
    refine wpList_step (fun K hK => ?_)
    rw [if_pos (by rfl)]
    go_simp
    go_at_call 16
    refine (HPA.out _ _ HV1b.out).mono ?_
    rintro e u2 ⟨s2, n2, f2, rfl, hpe, hsu, hbu⟩
    have HPE2 := hide hpe
    have HSU := hide hsu
    have HBU := hide hbu
    refine hK _ _ ?_
    clear hK K hpe hsu hbu
    try simp only [Act.put, List.setIfInBounds_toArray, List.set_cons_zero, List.set_cons_succ]
    refine wpList_value rfl (.tuple #[.agg s2.cs, .int .i64 n2, .int .i64 f2]) (by go_simp) ?_
    try simp only [Act.put, List.setIfInBounds_toArray, List.set_cons_zero, List.set_cons_succ]
    refine wpList_value rfl (.agg s2.cs) (by go_simp) ?_
    try simp only [Act.put, List.setIfInBounds_toArray, List.set_cons_zero, List.set_cons_succ]
    refine wpList_value rfl (.int .i64 n2) (by go_simp) ?_
    try simp only [Act.put, List.setIfInBounds_toArray, List.set_cons_zero, List.set_cons_succ]
    refine wpList_value rfl (.int .i64 f2) (by go_simp) ?_
    try simp only [Act.put, List.setIfInBounds_toArray, List.set_cons_zero, List.set_cons_succ]
    refine wpList_step (fun K hK => ?_)
    rw [if_pos (by rfl)]
    go_simp
    refine hK _ _ ?_
    clear hK K
    refine wpList_store_fresh rfl 47 (.tmp 11) (.tmp 70) rfl _ (s2.cs) rfl rfl (ld47 _ (sm_size _)) rfl (sm_all _) ?_
    try simp only [Act.put, List.setIfInBounds_toArray, List.set_cons_zero, List.set_cons_succ]
    obtain ⟨V3, hV⟩ : ∃ V, V = World.alloc u2 (.cells s2.cs 47) := ⟨_, rfl⟩
    obtain ⟨g2, hg⟩ : ∃ g, g = u2.heap.size := ⟨_, rfl⟩
    have hal : Below u2.heap.size u2 V3 := by rw [hV]; exact (Below.refl _ _).alloc (Nat.le_refl _) _
    have HBA := hide (HBU.out.trans (hal.mono HBU.out.size))
    have HG2 : Hid (Blk V3 g2 47 s2.cs) := by show Blk _ _ _ _; rw [hV, hg]; exact Blk.new _ _ _
    have HS2 := hide (HSU.out.step hal)
    have HV2 := hide (HV1b.out.trans (HBA.out.mono HV1b.out.size))
    have HGL2 : Hid (V2.heap.size ≤ g2) := by show _ ≤ _; rw [hg]; exact HBU.out.size
    rw [← hV]
    try rw [← hg]
    clear hV hg hal HSU HBU
    have HG1c := hide (HG1b.out.below HBA.out HG1b.out.lt)
    have HS1c := hide (HS1b.out.step HBA.out)
    obtain ⟨b2, hb2⟩ : ∃ b2, b2 = V2.heap.size := ⟨_, rfl⟩
    have HR1 : Hid (∀ g, (Value.slice s1.Ae s1.ms.length s1.ke).ownBlock = some g → g < b2) := fun g hg => by rw [hb2]; exact (HS1b.out.row.lt g hg).2
    have hg1b : g1 < b2 := by rw [hb2]; exact HG1b.out.lt
    have hg2b : b2 ≤ g2 := by rw [hb2]; exact HGL2.out
    have hwb : w.heap.size ≤ b2 := by rw [hb2]; exact HV1b.out.size
    have hwg1 : w.heap.size ≤ g1 := Nat.le_trans HB2.out.size HGL1.out
    rw [← hb2] at HS2
    clear hb2 HGL1 HGL2
    clear HBA HG1b HS1b HGB HX4
    have HQ2 : Hid ((s2.sc, n2, f2) = ((⟨cfgJ, fs⟩ : Sc), (idleN fs : Int), (0 : Int))) := by show _ = _; rw [← HPE2.out, HP2.out]
    have HC2 : Hid (s2.c = cfgJ ∧ s2.ms.map Em.ev = fs) := by
      have h := HQ2.out
      injection h with h _
      injection h with h1 h2
      exact ⟨h1, h2⟩
    have hn2 : n2 = (idleN fs : Int) := by have h := HQ2.out; injection h with _ h; injection h
    have hf2 : f2 = 0 := by have h := HQ2.out; injection h with _ h; injection h
    subst hn2 hf2
    clear HQ2 HPE2 HP2
    have k6 : V3.cell? ⟨g1, 6, none⟩ = some (.int .i64 3) := by
      have h := HG1c.out.cell 6
      rw [h]
      show some (Value.int .i64 s1.c.floor) = _
      rw [HC1.out.1]
      rfl
    have hsV : w.heap.size ≤ V3.heap.size := HV2.out.size
    obtain ⟨XF, hXF⟩ : ∃ XF, XF = S F := ⟨_, rfl⟩
    have hXs : XF.size = F.length := by rw [hXF, S_size]
    have hXd : XF.data.toList = F := by rw [hXF, S_data]
    rw [← hXF] at hs2 ⊢
    have HXF : Hid (XF = S F ∧ XF.data.toList = F) := ⟨hXF, hXd⟩
    have hFs : XF.size ≤ 400000 := by omega
    obtain ⟨i1, hi1⟩ : ∃ i1 : Int, i1 = (idleN es : Int) := ⟨_, rfl⟩
    obtain ⟨i2, hi2⟩ : ∃ i2 : Int, i2 = (idleN fs : Int) := ⟨_, rfl⟩
    have HI : Hid (i1 = (idleN es : Int) ∧ i2 = (idleN fs : Int)) := ⟨hi1, hi2⟩
    rw [← hi1, ← hi2]
    clear hXF hXd hs1 hs3 hs2 hi1 hi2 hi5 hi5z hi0 hXs
    go_upto_region 16 with fail
    clear k6
    have HL0 : Hid (overB F = overB (F.drop 0)) := rfl
    go_loopw [14, 15] (fun o i wr => ∃ k : Nat, k ≤ XF.size ∧ i = .int .i64 k ∧ o = .bool true ∧ Hid (overB F = overB (F.drop k)) ∧ wr = V3) (fun _ i _ => XF.size - (intOf i).toNat)
    case atStart => exact ⟨0, Nat.zero_le _, rfl, rfl, HL0, rfl⟩
    case round =>
      clear HL0
      obtain ⟨k, hk, rfl, rfl, HOV, rfl⟩ := hrel
      have kz : (0 : Int) ≤ (k : Int) := by omega
      by_cases hlt : k < XF.size
      · have ks : (k : Int) < (XF.size : Int) := by omega
        obtain ⟨cf, hcf⟩ : ∃ cf, cf = XF[k] := ⟨_, rfl⟩
        have hcc := hcf.symm
        have HD : Hid (overB F = if blk cf = true then overB (F.drop (k + 1)) else cf.toNat == 35) := by
          show _ = _
          rw [HOV.out]
          have h1 := bdrop hlt
          rw [HXF.out.2] at h1
          rw [h1, hcf]
          rfl
        have q256 : cf.toNat < 256 := cf.toNat_lt
        clear hcf
        by_cases h32 : cf.toNat = 32
        · have e1 : ((cf.toNat : Int) == 32) = true := by rw [beq_iff_eq]; omega
          have e2 : ((cf.toNat : Int) != 32) = false := by rw [bne, e1]; rfl
          have HD2 : Hid (overB F = overB (F.drop (k + 1))) := by show _ = _; rw [HD.out, if_pos (by unfold blk; rw [h32]; rfl)]
          clear h32
          go_wp2_with fail
          go_roundw
          case rel => first | exact ⟨k + 1, by omega, by go_num, rfl, HD2, rfl⟩ | exact ⟨k + 1, by omega, by go_num, rfl, HD2, trivial⟩
          case measure => simp [intOf]; omega
        by_cases h9 : cf.toNat = 9
        · have e1 : ((cf.toNat : Int) == 32) = false := by rw [beq_eq_false_iff_ne]; omega
          have e2 : ((cf.toNat : Int) != 32) = true := by rw [bne, e1]; rfl
          have e3 : ((cf.toNat : Int) == 9) = true := by rw [beq_iff_eq]; omega
          have e4 : ((cf.toNat : Int) != 9) = false := by rw [bne, e3]; rfl
          have HD2 : Hid (overB F = overB (F.drop (k + 1))) := by show _ = _; rw [HD.out, if_pos (by unfold blk; rw [h9]; rfl)]
          clear h32 h9
          go_wp2_with fail
          go_roundw
          case rel => first | exact ⟨k + 1, by omega, by go_num, rfl, HD2, rfl⟩ | exact ⟨k + 1, by omega, by go_num, rfl, HD2, trivial⟩
          case measure => simp [intOf]; omega
        have e1 : ((cf.toNat : Int) == 32) = false := by rw [beq_eq_false_iff_ne]; omega
        have e2 : ((cf.toNat : Int) != 32) = true := by rw [bne, e1]; rfl
        have e3 : ((cf.toNat : Int) == 9) = false := by rw [beq_eq_false_iff_ne]; omega
        have e4 : ((cf.toNat : Int) != 9) = true := by rw [bne, e3]; rfl
        have HD2 : Hid (overB F = (cf.toNat == 35)) := by show _ = _; rw [HD.out, if_neg (by unfold blk; simp [h32, h9])]
        by_cases h35 : cf.toNat = 35
        · have e5 : ((cf.toNat : Int) == 35) = true := by rw [beq_iff_eq]; omega
          have HO : Hid (overB F = true) := by show _ = _; rw [HD2.out, h35]; rfl
          clear h32 h9 h35
          have HFE : Hid (fs = es) := by show _ = _; rw [HFS.out, if_pos HO.out, List.append_nil]
          have hii : i2 = i1 := by rw [HI.out.1, HI.out.2, HFE.out]
          have q1 : (i2 == i1) = true := by rw [hii]; simp
          have HSS : Hid (Calls Tryd.prog 18 #[.agg s1.cs, .agg s2.cs] wr fun e w' => e = .returned (.bool true) ∧ Below wr.heap.size wr w') := same_scripts wr HS1c.out.inn HS2.out.inn (by
            show Sc.mk _ _ = Sc.mk _ _
            rw [HC1.out.1, HC2.out.1, HC1.out.2, HC2.out.2, HFE.out])
          clear hii
          go_wp2_with first
            | (refine wpList_gvalue (by rfl) (.agg s1.cs) (ex_load 47 (.tmp 6) rfl _ rfl _ _ Tryd.underlying47 rfl (ld47 _ (sm_size _)) (box_all HG1c.out)) ?_)
            | (refine wpList_gvalue (by rfl) (.agg s2.cs) (ex_load 47 (.tmp 11) rfl _ rfl _ _ Tryd.underlying47 rfl (ld47 _ (sm_size _)) (box_all HG2.out)) ?_)
            | (go_at_call 18; refine HSS.out.mono ?_; rintro e w5 ⟨rfl, hb5⟩; have HB5 := hide (HV2.out.trans (hb5.mono hsV)); clear hb5)
          go_ret
          exact ⟨rfl, HB5.out⟩
        · have e5 : ((cf.toNat : Int) == 35) = false := by rw [beq_eq_false_iff_ne]; omega
          have HO : Hid (overB F = false) := by show _ = _; rw [HD2.out]; simpa using h35
          clear h32 h9 h35
          have HFE : Hid (fs = es ++ [lineE 2 F]) := by show _ = _; rw [HFS.out, if_neg (by rw [HO.out]; decide)]
          have HEVC := hide (HPE.out wr (by omega) HV2.out)
          rw [← HXF.out.1] at HEVC
          go_upto_region 22 with fail
          refine wp_region_lit ?_
          refine wpList_value rfl (.string XF) (by go_simp) ?_
          try simp only [Act.put, List.setIfInBounds_toArray, List.set_cons_zero, List.set_cons_succ]
          refine wpList_step (fun K hK => ?_)
          rw [if_pos (by rfl)]
          go_simp
          go_at_call 9
          refine HEVC.out.mono ?_
          rintro e u5 ⟨me, rfl, hev, hu, hb5⟩
          have HEV := hide hev
          have HU5 := hide hu
          have HB5 := hide hb5
          refine hK _ _ ?_
          clear hK K hev hu hb5 HEVC
          try simp only [Act.put, List.setIfInBounds_toArray, List.set_cons_zero, List.set_cons_succ]
          refine wpList_step (fun K hK => ?_)
          rw [if_pos (by rfl)]
          go_simp
          refine hK _ _ ?_
          clear hK K
          refine wpList_store_fresh rfl 29 (.tmp 16) (.tmp 118) rfl _ (me.cs) rfl rfl (ld29 _ (em_size _)) rfl (ecs_all me) ?_
          try simp only [Act.put, List.setIfInBounds_toArray, List.set_cons_zero, List.set_cons_succ]
          obtain ⟨w6, hw6⟩ : ∃ w6, w6 = World.alloc u5 (.cells me.cs 29) := ⟨_, rfl⟩
          obtain ⟨ge, hge⟩ : ∃ ge, ge = u5.heap.size := ⟨_, rfl⟩
          have hal : Below u5.heap.size u5 w6 := by rw [hw6]; exact (Below.refl _ _).alloc (Nat.le_refl _) _
          have HBE : Hid (Blk w6 ge 29 me.cs) := by show Blk _ _ _ _; rw [hw6, hge]; exact Blk.new _ _ _
          have hbc : Below wr.heap.size wr w6 := HB5.out.trans (hal.mono HB5.out.size)
          have HUE := hide ((HU5.out.step hal).base hsV)
          rw [← hw6]
          try rw [← hge]
          have HG1d := hide (HG1c.out.below hbc HG1c.out.lt)
          have HG2d := hide (HG2.out.below hbc HG2.out.lt)
          have HS1d := hide (HS1c.out.step hbc)
          have HS2d := hide (HS2.out.step hbc)
          have HV6 := hide (HV2.out.trans (hbc.mono hsV))
          have hs6 : w.heap.size ≤ w6.heap.size := HV6.out.size
          have HNE : Hid (g1 ≠ g2 ∧ w.heap.size ≤ g1) := ⟨by omega, hwg1⟩
          clear hw6 hge hal hbc HB5 HU5
          have HLX : Hid (∀ (g4 c4 : Nat) (W4 : World), W4.ownsRow w.heap.size 29 13 (.slice (some ⟨g4, 0, none⟩) (s1.ms.length + 1) c4) (s1.ms.length + 1) (emCells s1.ms ++ me.cs.toList) → (w6.alloc (.cells me.cs 29)).grownBy W4 (Value.slice s1.Ae s1.ms.length s1.ke).ownBlock → Below w.heap.size w6 W4 → Blk W4 g1 47 s1.cs ∧ ∃ s3 : Sm, s3.sc = s2.sc ∧ s3.ms.length ≤ 4000 ∧ Blk (W4.setCell ⟨g1, 8, none⟩ (.slice (some ⟨g4, 0, none⟩) (s1.ms.length + 1) c4)) g1 47 s3.cs ∧ SmU (W4.setCell ⟨g1, 8, none⟩ (.slice (some ⟨g4, 0, none⟩) (s1.ms.length + 1) c4)) w.heap.size s3 ∧ SmU (W4.setCell ⟨g1, 8, none⟩ (.slice (some ⟨g4, 0, none⟩) (s1.ms.length + 1) c4)) w.heap.size s2 ∧ Blk (W4.setCell ⟨g1, 8, none⟩ (.slice (some ⟨g4, 0, none⟩) (s1.ms.length + 1) c4)) g2 47 s2.cs ∧ Below w.heap.size w (W4.setCell ⟨g1, 8, none⟩ (.slice (some ⟨g4, 0, none⟩) (s1.ms.length + 1) c4))) := by
            intro g4 c4 W4 hown4 hgr4 hb4
            have hal2 := (Below.refl w6.heap.size w6).alloc (Nat.le_refl _) (.cells me.cs 29)
            have hrowA := own_step HS1d.out.row hal2
            have hx1 : Blk W4 g1 47 s1.cs := (HG1d.out.alloc _).grown hgr4 (own_ne hrowA (HG1d.out.alloc _) (by decide))
            have hx2 : Blk W4 g2 47 s2.cs := (HG2d.out.alloc _).grown hgr4 (own_ne hrowA (HG2d.out.alloc _) (by decide))
            have hW := only_setCell0 W4 g1 8 (.slice (some ⟨g4, 0, none⟩) (s1.ms.length + 1) c4)
            have hn1 : (s1.ms ++ [me]).length = s1.ms.length + 1 := by simp
            have ho1 : Only (fun k => k < b2) (w6.alloc (.cells me.cs 29)) W4 := Only.of_grown hgr4 (fun g hg _ => HR1.out g hg)
            have ho2 : Only (fun k => k < b2) W4 (W4.setCell ⟨g1, 8, none⟩ (.slice (some ⟨g4, 0, none⟩) (s1.ms.length + 1) c4)) := hW.mono (fun k _ e => by have e2 : k = g1 := e; show k < b2; omega)
            refine ⟨hx1, ⟨s1.c, s1.A, s1.k, some ⟨g4, 0, none⟩, c4, s1.ms ++ [me]⟩, ?_, by show (s1.ms ++ [me]).length ≤ _; rw [hn1]; omega, ?_, ?_, ?_, hx2.only hW (fun e => HNE.out.1 e.symm), ?_⟩
            · show Sc.mk _ _ = Sc.mk _ _
              rw [HC1.out.1, HC2.out.1, HC2.out.2, HFE.out, List.map_append, HC1.out.2, ← HEV.out]
              rfl
            · have := hx1.set_ 8 (.slice (some ⟨g4, 0, none⟩) (s1.ms.length + 1) c4)
              rw [← hn1] at this ⊢
              exact this
            · refine SmU.far (t := 47) (cs := s1.cs) ⟨?_, ?_, ?_, by show (s1.ms ++ [me]).length ≤ _; rw [hn1]; omega⟩ hx1 (by decide) (by decide) (by decide) hW
              · exact (HS1d.out.cfg.step hal2).push hrowA (by decide) hgr4
              · show World.ownsRow _ _ _ _ (.slice _ (s1.ms ++ [me]).length _) (s1.ms ++ [me]).length (emCells (s1.ms ++ [me]))
                rw [hn1, emCells_snoc]
                exact hown4
              · intro x hx
                rcases List.mem_append.1 hx with hx | hx
                · exact ((HS1d.out.ent x hx).step hal2).push hrowA (by decide) (by decide) hgr4
                · obtain rfl : x = me := by simpa using hx
                  exact (HUE.out.step hal2).push hrowA (by decide) (by decide) hgr4
            · exact (((HS2d.out.step hal2).above ho1).above ho2).base hwb
            · have hbb := HV6.out.trans hb4
              exact hbb.trans (hW.below hbb.size (fun k hk e => by have e2 : k = g1 := e; have := HNE.out.2; omega))
          go_upto_region 23 with fail
          refine wp_region_lit ?_
          have kf : w6.cell? ⟨g1, 8, none⟩ = some (.slice s1.Ae s1.ms.length s1.ke) := HG1d.out.cell 8
          refine wpList_value rfl (.pointer (some ⟨g1, 8, none⟩)) (by go_simp) ?_
          try simp only [Act.put, List.setIfInBounds_toArray, List.set_cons_zero, List.set_cons_succ]
          refine wpList_value rfl (.slice s1.Ae s1.ms.length s1.ke) (by go_simp) ?_
          try simp only [Act.put, List.setIfInBounds_toArray, List.set_cons_zero, List.set_cons_succ]
          clear kf
          refine wpList_value rfl (.agg me.cs) (ex_load 29 (.tmp 16) rfl _ rfl me.cs _ Tryd.underlying29 rfl (ld29 _ (em_size _)) (ebox_all HBE.out)) ?_
          try simp only [Act.put, List.setIfInBounds_toArray, List.set_cons_zero, List.set_cons_succ]
          refine wpList_one29 rfl (.tmp 121) rfl me rfl ?_
          try simp only [Act.put, List.setIfInBounds_toArray, List.set_cons_zero, List.set_cons_succ]
          refine wpList_push (W := w6) (cs := me.cs) rfl (.tmp 120) (.tmp 122) 45 rfl w.heap.size 29 i29 _ 13 160 Tryd.underlying45 I29.out Z29.out hs29 hb29 rfl (by omega) (.slice s1.Ae s1.ms.length s1.ke) s1.ms.length (emCells s1.ms) rfl HS1d.out.row 1 1 rfl rfl (ecs_one me) (by omega) (by unfold maxLen; omega) (by omega) hs6 ?_
          intro g4 c4 W4 hown4 hgr4 hb4 _ _ _
          obtain ⟨hx1, s3, hs3a, hs3b, hs3c, hs3d, hs3e, hs3f, hs3g⟩ := HLX.out g4 c4 W4 hown4 hgr4 hb4
          have HX1' := hide hx1
          have H3A := hide hs3a
          have H3C := hide hs3c
          have H3D := hide hs3d
          have H3E := hide hs3e
          have H3F := hide hs3f
          have H3G := hide hs3g
          have c9 := HX1'.out.cell 8
          have f9 := Blk.frozen HX1'.out 8
          clear hown4 hgr4 hb4 hx1 hs3a hs3c hs3d hs3e hs3f hs3g
          try simp only [Act.put, List.setIfInBounds_toArray, List.set_cons_zero, List.set_cons_succ]
          go_upto_region 24 with fail
          clear c9 f9
          generalize hW7 : World.setCell W4 _ _ = W7
          rw [hW7] at H3C H3D H3E H3F H3G
          clear hW7
          have hs7 : w.heap.size ≤ W7.heap.size := H3G.out.size
          have HIM : Hid (s3.ms.map Em.ev = fs) := by
            have h := H3A.out
            injection h with _ h
            exact h.trans HC2.out.2
          have HID : Hid (Calls Tryd.prog 20 #[.agg s3.cs] W7 fun e w' => e = .returned (.int .i64 i2) ∧ Below W7.heap.size W7 w') := by
            have h := idle_any (s := s3) W7 H3D.out.inn.row (by omega)
            rw [HIM.out, ← HI.out.2] at h
            exact h
          go_wp2_with first
            | (refine wpList_gvalue (by rfl) (.agg s3.cs) (ex_load 47 (.tmp 6) rfl _ rfl _ _ Tryd.underlying47 rfl (ld47 _ (sm_size _)) (box_all H3C.out)) ?_)
            | (refine wpList_gvalue (by rfl) (.agg s3.cs) (ex_load 47 (.tmp 6) rfl _ rfl _ _ Tryd.underlying47 rfl (ld47 _ (sm_size _)) (box_all HG8.out)) ?_)
            | (refine wpList_gvalue (by rfl) (.agg s2.cs) (ex_load 47 (.tmp 11) rfl _ rfl _ _ Tryd.underlying47 rfl (ld47 _ (sm_size _)) (box_all HG9.out)) ?_)
            | (go_at_call 20; refine HID.out.mono ?_; rintro e w8 ⟨rfl, hb8⟩; have HG8 := hide (H3C.out.below hb8 H3C.out.lt); have HG9 := hide (H3F.out.below hb8 H3F.out.lt); have HB8 := hide (H3G.out.trans (hb8.mono hs7)); have HSS := hide (same_scripts w8 (H3D.out.step hb8).inn (H3E.out.step hb8).inn H3A.out); have hs8 : w.heap.size ≤ w8.heap.size := HB8.out.size; have q1 : (i2 == i2) = true := (by simp); clear hb8)
            | (go_at_call 18; refine HSS.out.mono ?_; rintro e w9 ⟨rfl, hb9⟩; have HB9 := hide (HB8.out.trans (hb9.mono hs8)); clear hb9)
          go_ret
          exact ⟨rfl, HB9.out⟩
      · have ks : ¬ (k : Int) < (XF.size : Int) := by omega
        have HO : Hid (overB F = true) := by show _ = _; rw [HOV.out, List.drop_eq_nil_of_le (by rw [← HXF.out.2, str_len]; omega)]; rfl
        clear hlt
        have HFE : Hid (fs = es) := by show _ = _; rw [HFS.out, if_pos HO.out, List.append_nil]
        have hii : i2 = i1 := by rw [HI.out.1, HI.out.2, HFE.out]
        have q1 : (i2 == i1) = true := by rw [hii]; simp
        have HSS : Hid (Calls Tryd.prog 18 #[.agg s1.cs, .agg s2.cs] wr fun e w' => e = .returned (.bool true) ∧ Below wr.heap.size wr w') := same_scripts wr HS1c.out.inn HS2.out.inn (by
          show Sc.mk _ _ = Sc.mk _ _
          rw [HC1.out.1, HC2.out.1, HC1.out.2, HC2.out.2, HFE.out])
        clear hii
        go_wp2_with first
          | (refine wpList_gvalue (by rfl) (.agg s1.cs) (ex_load 47 (.tmp 6) rfl _ rfl _ _ Tryd.underlying47 rfl (ld47 _ (sm_size _)) (box_all HG1c.out)) ?_)
          | (refine wpList_gvalue (by rfl) (.agg s2.cs) (ex_load 47 (.tmp 11) rfl _ rfl _ _ Tryd.underlying47 rfl (ld47 _ (sm_size _)) (box_all HG2.out)) ?_)
          | (go_at_call 18; refine HSS.out.mono ?_; rintro e w5 ⟨rfl, hb5⟩; have HB5 := hide (HV2.out.trans (hb5.mono hsV)); clear hb5)
        go_ret
        exact ⟨rfl, HB5.out⟩
end Go.Proofs.YtcibcmfaebbhnaaDoor
