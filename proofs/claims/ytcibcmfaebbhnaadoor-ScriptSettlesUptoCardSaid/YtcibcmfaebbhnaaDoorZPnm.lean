/-
  The program's number: the next word as a count from lo to hi.
-/
import Derived.Test.YtcibcmfaebbhnaaDoorZPrd
import Derived.Test.YtcibcmfaebbhnaaDoorZPct
set_option linter.unusedVariables false
set_option linter.unusedSimpArgs false
namespace Go.Proofs.YtcibcmfaebbhnaaDoor
open Go.RowKit Go.WideShapes Go.ChangeShapes Q
def NuP (lo hi : Nat) (ws : List Wd) (b r : Nat) (nodes : Int) (m : Em) (w : World) (e : Ending) (w' : World) : Prop := ∃ (A : Option Addr) (c : Nat) (v : Int) (ok : Bool) (ws' : List Wd), e = .returned (.tuple #[.int .i64 v, .bool ok]) ∧ Rd w' b r A c nodes ws' m ∧ Only (fun q => q = r) w w' ∧
  (ok = true → ∃ x : Nat, v = (x : Int) ∧ numP lo hi ws = some (x, ws')) ∧ (ok = false → numP lo hi ws = none)
theorem numP_tail {lo hi x : Nat} {ws ws' : List Wd} (h : numP lo hi ws = some (x, ws')) : (∃ d, ws = d :: ws') ∧ lo ≤ x ∧ x ≤ hi := by
  cases ws with
  | nil => cases h
  | cons d l =>
    simp only [numP] at h
    cases hd : wcnt d with
    | none => rw [hd] at h; cases h
    | some y =>
      rw [hd] at h
      simp only at h
      split at h
      · rename_i h2
        injection h with h
        injection h with h3 h4
        subst h3 h4
        exact ⟨⟨d, rfl⟩, h2⟩
      · cases h
theorem txtP_tail {most : Nat} {t : List UInt8} {ws ws' : List Wd} (h : txtP most ws = some (t, ws')) : (∃ d, ws = d :: ws') ∧ t.length ≤ most := by
  cases ws with
  | nil => cases h
  | cons d l =>
    simp only [txtP] at h
    split at h
    · rename_i h2
      injection h with h
      injection h with h3 h4
      subst h3 h4
      exact ⟨⟨d, rfl⟩, h2.2⟩
    · cases h
set_option maxRecDepth 100000 in
set_option maxHeartbeats 2000000 in
theorem number_any (lo hi : Nat) (ws : List Wd) (b r : Nat) (A : Option Addr) (c : Nat) (nodes : Int) (m : Em) (w : World) (h : Rd w b r A c nodes ws m) (hl : ws.length ≤ 90000000) (hz : ∀ d ∈ ws, d.1.length ≤ 100000000) :
    Calls Tryd.prog 49 #[.pointer (some ⟨r, 0, none⟩), .int .i64 (lo : Int), .int .i64 (hi : Int)] w fun e w' => NuP lo hi ws b r nodes m w e w' := by
  have HPL := hide (plain_any ws b r A c nodes m w h hl)
  have HZ := hide hz
  clear h hz hl
  go_enter Tryd.func49, Tryd.ntmps49
  go_upto_region 2 with (go_at_call 27; refine HPL.out.mono ?_; rintro e w2 ⟨A2, c2, t, ok, ws', rfl, hr2, ho2, h1, h2⟩; have HR2 := hide hr2; have HO2 := hide ho2; have H1 := hide h1; have H2 := hide h2; clear hr2 ho2 h1 h2)
  cases ok with
  | false =>
    have HN : Hid (numP lo hi ws = none) := by
      show _ = _
      obtain ⟨_, _, h⟩ := H2.out rfl
      cases ws with
      | nil => rfl
      | cons d l =>
        have := h d l rfl
        simp only [numP, wcnt]
        rw [if_pos this]
    go_wp2_with fail
    refine bodyPost_ret (results_tmp2 rfl _ _ _) rfl ?_
    exact ⟨A2, c2, 0, false, ws', rfl, HR2.out, HO2.out, (fun h => by cases h), fun _ => HN.out⟩
  | true =>
    have HWS : Hid (ws = (t, false) :: ws') := H1.out rfl
    have htl : t.length ≤ 100000000 := HZ.out (t, false) (by rw [HWS.out]; simp)
    have HC := hide (count_prog (S t) w2 (by rw [S_size]; omega))
    have HNE : Hid (numP lo hi ws = match cnt t with | some x => if lo ≤ x ∧ x ≤ hi then some (x, ws') else none | none => none) := by
      show _ = _
      rw [HWS.out]
      rfl
    have HST : Hid (∀ w3, Below w2.heap.size w2 w3 → Rd w3 b r A2 c2 nodes ws' m ∧ Only (fun q => q = r) w w3) := fun w3 h3 => ⟨HR2.out.step h3, HO2.out.trans' (Only.of_below (F := fun q => q = r) h3 (Nat.le_refl _)) (fun _ _ h => h)⟩
    cases hct : cnt t with
    | none =>
      have HC2 : Hid (Calls Tryd.prog 73 #[.string (S t)] w2 fun e w' => e = .returned (.tuple #[.int .i64 0, .bool false]) ∧ Below w2.heap.size w2 w') := by
        have := HC.out
        rw [S_data, ctV_none hct] at this
        exact this
      have HN : Hid (numP lo hi ws = none) := by
        show _ = _
        rw [HNE.out, hct]
      clear HC hct
      go_wp2_with (go_at_call 73; refine HC2.out.mono ?_; rintro e w3 ⟨rfl, hb3⟩; have HF := hide (HST.out w3 hb3); clear hb3)
      refine bodyPost_ret (results_tmp2 rfl _ _ _) rfl ?_
      exact ⟨A2, c2, 0, false, ws', rfl, HF.out.1, HF.out.2, (fun h => by cases h), fun _ => HN.out⟩
    | some x =>
      have HC2 : Hid (Calls Tryd.prog 73 #[.string (S t)] w2 fun e w' => e = .returned (.tuple #[.int .i64 (x : Int), .bool true]) ∧ Below w2.heap.size w2 w') := by
        have := HC.out
        rw [S_data, ctV_some hct] at this
        exact this
      have HN : Hid (numP lo hi ws = if lo ≤ x ∧ x ≤ hi then some (x, ws') else none) := by
        show _ = _
        rw [HNE.out, hct]
      clear HC hct
      by_cases hlo : lo ≤ x
      · have g1 : (lo : Int) ≤ (x : Int) := by omega
        by_cases hhi : x ≤ hi
        · have g2 : (x : Int) ≤ (hi : Int) := by omega
          have HN2 : Hid (numP lo hi ws = some (x, ws')) := by
            show _ = _
            rw [HN.out, if_pos ⟨hlo, hhi⟩]
          go_wp2_with (go_at_call 73; refine HC2.out.mono ?_; rintro e w3 ⟨rfl, hb3⟩; have HF := hide (HST.out w3 hb3); clear hb3)
          refine bodyPost_ret (results_tmp2 rfl _ _ _) rfl ?_
          exact ⟨A2, c2, (x : Int), true, ws', rfl, HF.out.1, HF.out.2, (fun _ => ⟨x, rfl, HN2.out⟩), fun h => by cases h⟩
        · have g2 : ¬ (x : Int) ≤ (hi : Int) := by omega
          have HN2 : Hid (numP lo hi ws = none) := by
            show _ = _
            rw [HN.out, if_neg (fun h => hhi h.2)]
          go_wp2_with (go_at_call 73; refine HC2.out.mono ?_; rintro e w3 ⟨rfl, hb3⟩; have HF := hide (HST.out w3 hb3); clear hb3)
          refine bodyPost_ret (results_tmp2 rfl _ _ _) rfl ?_
          exact ⟨A2, c2, (x : Int), false, ws', rfl, HF.out.1, HF.out.2, (fun h => by cases h), fun _ => HN2.out⟩
      · have g1 : ¬ (lo : Int) ≤ (x : Int) := by omega
        have HN2 : Hid (numP lo hi ws = none) := by
          show _ = _
          rw [HN.out, if_neg (fun h => hlo h.1)]
        go_wp2_with (go_at_call 73; refine HC2.out.mono ?_; rintro e w3 ⟨rfl, hb3⟩; have HF := hide (HST.out w3 hb3); clear hb3)
        refine bodyPost_ret (results_tmp2 rfl _ _ _) rfl ?_
        exact ⟨A2, c2, (x : Int), false, ws', rfl, HF.out.1, HF.out.2, (fun h => by cases h), fun _ => HN2.out⟩
end Go.Proofs.YtcibcmfaebbhnaaDoor
