/-
  Contract of talked.
-/
import Derived.Test.YtkkckinnhkpcmaaActs
set_option linter.unusedVariables false
set_option linter.unusedSimpArgs false
namespace Go.Proofs.Ytkkckinnhkpcmaa
open Go.RowKit Go.WideShapes Go.ChangeShapes Q

/-- What talked leaves. -/
def TalkP (wn rn : Int) (l : List Ai) (w : World) (e : Ending) (w' : World) : Prop :=
  ∃ wb, e = .returned (.pointer (some ⟨wb, 0, none⟩)) ∧ Made w wb (wndOf wn) (spcOf wn rn) (runS (wndOf wn) (spcOf wn rn) (l.take 400)) w'

set_option maxRecDepth 100000 in
set_option maxHeartbeats 2000000 in
theorem talked_any (wn rn : Int) (A : Option Addr) (c : Nat) (l : List Ai) (w : World) (h0 : -9223372036854775808 ≤ wn) (h1 : wn ≤ 9223372036854775807) (h2 : -9223372036854775808 ≤ rn) (h3 : rn ≤ 9223372036854775807)
    (hA : ActsIn w A l) (hl : l.length ≤ 140737488351232) :
    Calls Try.prog 16 #[.int .i64 wn, .int .i64 rn, .slice A l.length c] w (TalkP wn rn l w) := by
  have HST := hide (started_any wn rn w h0 h1 h2 h3)
  have hwb := wnd_b wn
  have hsb := spc_b wn rn
  obtain ⟨W, hW⟩ : ∃ W, W = wndOf wn := ⟨_, rfl⟩
  obtain ⟨Sp, hSp⟩ : ∃ Sp, Sp = spcOf wn rn := ⟨_, rfl⟩
  have HWS := hide (And.intro hW hSp)
  have HA := hide hA
  rw [← hW] at hwb hsb
  rw [← hSp] at hsb
  have HI : ∀ k, Hid (Inv W Sp k (runS W Sp (l.take k))) := fun k => Inv.run hwb.1 hwb.2 l k
  have HB := hide (And.intro hwb hsb)
  obtain ⟨ln, hln⟩ : ∃ ln, ln = l.length := ⟨_, rfl⟩
  rw [← hln] at hl ⊢
  have HLN := hide hln
  clear hA hln hW hSp hwb hsb
  go_enter Try.func16, Try.ntmps16
  go_wp2_with (go_at_call 25; refine HST.out.mono ?_; rintro e w1 ⟨wb, o, g, rfl, hA1, hst1, ho1⟩; have HM : Hid (Made w wb W Sp (wr0 W) w1) := (by obtain ⟨q1, q2⟩ := HWS.out; rw [q1, q2]; exact ⟨o, g, hA1, hst1, ho1⟩); clear hA1 hst1 ho1)
  go_loopw [8] (fun i wr => ∃ k : Nat, k ≤ ln ∧ k ≤ 400 ∧ i = .int .i64 k ∧ Hid (Made w wb W Sp (runS W Sp (l.take k)) wr)) (fun i _ => ln - (intOf i).toNat)
  case atStart => exact ⟨0, Nat.zero_le _, Nat.zero_le _, rfl, by rw [show runS W Sp (l.take 0) = wr0 W by simp [runS]]; exact HM⟩
  case round =>
    obtain ⟨k, hk, hk4, rfl, hm⟩ := hrel
    by_cases hlt : k < ln
    · by_cases hl4 : k < 400
      · obtain ⟨x, b, off, hx, rfl, hb, c0, c1, c2, c3, hg⟩ := HA.out.at_ (k := k) (by have := HLN.out; omega)
        have hst : St (fun _ => False) w wr := by
          obtain ⟨o', g', _, a2, _⟩ := hm.out
          exact a2
        have c0 := hst.only.cell c0 (fun e => e)
        have c1 := hst.only.cell c1 (fun e => e)
        have c2 := hst.only.cell c2 (fun e => e)
        have c3 := hst.only.cell c3 (fun e => e)
        have HACT := hide (hm.out.act (HI k).out (by omega) HB.out.1.2 hg)
        have hstep := runS_snoc W Sp l k x hx
        rw [← hstep] at HACT
        have HSO : ∀ V, Made w wb W Sp (runS W Sp (l.take (k + 1))) V → Hid (Calls Try.prog 35 #[.pointer (some ⟨wb, 0, none⟩)] V fun e w' => e = .returned (.bool true) ∧ Made w wb W Sp (runS W Sp (l.take (k + 1))) w') := fun V hV => hV.sound (HI (k + 1)).out (by omega)
        have i0 : (0 : Int) ≤ (k : Int) := by omega
        have i1 : (k : Int) < (ln : Int) := by omega
        clear hx hg hst hstep hm hb
        go_wp2_with (first | (go_at_call 26; refine HACT.out.mono ?_; rintro e w2 ⟨rfl, hm2⟩; have HM2 := hide hm2; clear hm2) | (go_at_call 35; refine (HSO w2 HM2.out).out.mono ?_; rintro e w3 ⟨rfl, hm3⟩; have HM3 := hide hm3; clear hm3))
        go_roundw
        case rel => exact ⟨k + 1, by omega, by omega, by go_num, HM3⟩
        case measure => simp [intOf]; omega
      · obtain rfl : k = 400 := by omega
        go_wp2
        go_ret
        obtain ⟨q1, q2⟩ := HWS.out
        exact ⟨wb, rfl, by rw [← q1, ← q2]; exact hm.out⟩
    · obtain rfl : k = ln := by omega
      go_wp2
      go_ret
      obtain ⟨q1, q2⟩ := HWS.out
      refine ⟨wb, rfl, ?_⟩
      rw [← q1, ← q2, show l.take 400 = l.take k by rw [List.take_of_length_le (by have := HLN.out; omega), List.take_of_length_le (by have := HLN.out; omega)]]
      exact hm.out
end Go.Proofs.Ytkkckinnhkpcmaa
