/-
  QuorumTurns, the walk: two watches in turns.
-/
import Derived.Test.YteckffndboiknaaWatchL
set_option linter.unusedVariables false
namespace Go.Proofs.Yteckffndboiknaa
open Go.RowKit Go.WideShapes Go.ChangeShapes Q

/-- Two watches side by side: they share nothing. -/
structure Two (w : World) (base p r : Nat) (g : Option Nat) (vs : List Int) (L : List Ve) (p' r' : Nat) (g' : Option Nat) (vs' : List Int) (L' : List Ve) : Prop where
  P : PW w base p vs (hist L)
  R : RW w base r g vs L
  P' : PW w base p' vs' (hist L')
  R' : RW w base r' g' vs' L'
  pp : p ≠ p'
  rr : r ≠ r'
  gg : ∀ k, g = some k → g' ≠ some k

section
variable {w w' : World} {base p r p' r' : Nat} {g g' : Option Nat} {vs vs' : List Int} {L L' : List Ve}
theorem Two.swap (h : Two w base p r g vs L p' r' g' vs' L') : Two w base p' r' g' vs' L' p r g vs L :=
  ⟨h.P', h.R', h.P, h.R, h.pp.symm, h.rr.symm, fun k hk hk' => h.gg k hk' hk⟩
theorem Two.below (h : Two w base p r g vs L p' r' g' vs' L') (hb : Below w.heap.size w w') : Two w' base p r g vs L p' r' g' vs' L' :=
  ⟨h.P.below hb, h.R.below hb, h.P'.below hb, h.R'.below hb, h.pp, h.rr, h.gg⟩
theorem Two.step (h : Two w base p r g vs L p' r' g' vs' L') {g2 : Option Nat} {L2 : List Ve} (hP : PW w' base p vs (hist L2)) (hR : RW w' base r g2 vs L2) (ho : Only (fun k => k = p ∨ k = r ∨ g = some k) w w') (hg : g2 = g ∨ ∃ k, g2 = some k ∧ w.heap.size ≤ k) :
    Two w' base p r g2 vs L2 p' r' g' vs' L' := by
  obtain ⟨cp, bp⟩ := h.P.pblk
  obtain ⟨cr, br⟩ := h.R.rblk
  obtain ⟨cp', bp'⟩ := h.P'.pblk
  obtain ⟨cr', br'⟩ := h.R'.rblk
  have hap : ∀ t, t ≠ 114 → t ≠ 117 → t ≠ 63 → Apart w (fun k => k = p ∨ k = r ∨ g = some k) t := fun t h1 h2 h3 k _ hk => by
    rcases hk with rfl | rfl | hk
    · exact ⟨_, _, bp, fun e => h1 e.symm⟩
    · exact ⟨_, _, br, fun e => h2 e.symm⟩
    · obtain ⟨cs, hb⟩ := h.R.gblk k hk
      exact ⟨_, _, hb, fun e => h3 e.symm⟩
  have n1 : ¬ (p' = p ∨ p' = r ∨ g = some p') := by
    rintro (e | e | e)
    · exact h.pp e.symm
    · exact Blk.ne_ bp' br (by decide) e
    · obtain ⟨cs, hb⟩ := h.R.gblk _ e
      exact Blk.ne_ bp' hb (by decide) rfl
  have n2 : ¬ (r' = p ∨ r' = r ∨ g = some r') := by
    rintro (e | e | e)
    · exact Blk.ne_ br' bp (by decide) e
    · exact h.rr e.symm
    · obtain ⟨cs, hb⟩ := h.R.gblk _ e
      exact Blk.ne_ br' hb (by decide) rfl
  have n3 : ∀ k, g' = some k → ¬ (k = p ∨ k = r ∨ g = some k) := by
    rintro k hk (e | e | e)
    · obtain ⟨cs, hb⟩ := h.R'.gblk _ hk
      exact Blk.ne_ hb bp (by decide) e
    · obtain ⟨cs, hb⟩ := h.R'.gblk _ hk
      exact Blk.ne_ hb br (by decide) e
    · exact h.gg k e hk
  refine ⟨hP, hR, h.P'.apart ho n1 (hap _ (by decide) (by decide) (by decide)) (hap _ (by decide) (by decide) (by decide)), h.R'.apart ho n2 n3 (hap _ (by decide) (by decide) (by decide)) (hap _ (by decide) (by decide) (by decide)), h.pp, h.rr, fun k hk => ?_⟩
  rcases hg with e | ⟨x, e, hx⟩
  · exact h.gg k (by rw [← e]; exact hk)
  · rw [e] at hk
    injection hk with hk
    intro hk'
    have := h.R'.glt k hk'
    omega
/-- A block of another type from before stays. -/
theorem Two.box (h : Two w base p r g vs L p' r' g' vs' L') (ho : Only (fun k => k = p ∨ k = r ∨ g = some k) w w') {x : Nat} {cs : Array Value} (hb : Blk w x 53 cs) : Blk w' x 53 cs := by
  obtain ⟨cp, bp⟩ := h.P.pblk
  obtain ⟨cr, br⟩ := h.R.rblk
  refine hb.only ho ?_
  rintro (e | e | e)
  · exact Blk.ne_ hb bp (by decide) e
  · exact Blk.ne_ hb br (by decide) e
  · obtain ⟨cs, hb'⟩ := h.R.gblk _ e
    exact Blk.ne_ hb hb' (by decide) rfl
theorem Two.under (h : Two w base p r g vs L p' r' g' vs' L') (ho : Only (fun k => k = p ∨ k = r ∨ g = some k) w w') (hbw : base ≤ w.heap.size) : Below base w w' :=
  ho.below hbw (by
    have hp : base ≤ p := by obtain ⟨_, _, hq, _⟩ := h.P; exact hq
    have hr : base ≤ r := by obtain ⟨_, _, _, _, _, hq, _⟩ := h.R; exact hq
    rintro x hx (hf | hf | hf)
    · omega
    · omega
    · have := h.R.vbase x hf; omega)
end

set_option maxRecDepth 100000 in
set_option maxHeartbeats 8000000 in
theorem turns_walk (A A' C C' : Option Addr) (n c n' c' m d m' d' : Nat) (vs us : List Int) (ops oqs : List Oe) (w : World) (h : RI w w.heap.size A n vs) (h' : OpsIn w w.heap.size A' n' ops) (hn : n * 8 ≤ 140737488351232) (hn' : n' * 64 ≤ 140737488351232)
    (kk : RI w w.heap.size C m us) (k' : OpsIn w w.heap.size C' m' oqs) (hm : m * 8 ≤ 140737488351232) (hm' : m' * 64 ≤ 140737488351232) :
    Calls Try.prog 9 #[.agg #[.slice A n c, .slice A' n' c'], .agg #[.slice C m d, .slice C' m' d']] w fun e w' => e = .returned (.bool true) ∧ Below w.heap.size w w' := by
  have H0 : Below w.heap.size w ((w.alloc (.cells #[.slice A n c, .slice A' n' c'] 53)).alloc (.cells #[.slice C m d, .slice C' m' d'] 53)) := ((Below.refl _ w).alloc (Nat.le_refl _) _).alloc (by simp) _
  have B0 : Blk ((w.alloc (.cells #[.slice A n c, .slice A' n' c'] 53)).alloc (.cells #[.slice C m d, .slice C' m' d'] 53)) w.heap.size 53 #[.slice A n c, .slice A' n' c'] := (Blk.new w _ _).alloc _
  have D0 : Blk ((w.alloc (.cells #[.slice A n c, .slice A' n' c'] 53)).alloc (.cells #[.slice C m d, .slice C' m' d'] 53)) (w.heap.size + 1) 53 #[.slice C m d, .slice C' m' d'] := Blk.new' _ _ _ _ (by simp)
  go_enter Try.func9, Try.ntmps9
  go_wp2_with fail
  obtain ⟨w0, hw0⟩ : ∃ w0, w0 = (w.alloc (.cells #[.slice A n c, .slice A' n' c'] 53)).alloc (.cells #[.slice C m d, .slice C' m' d'] 53) := ⟨_, rfl⟩
  rw [← hw0] at H0 B0 D0 ⊢
  clear hw0
  have hs0 := H0.size
  refine (watch_any A A' n c n' c' vs w0 (Reads.more (Reads.below h H0) hs0) hn).mono ?_
  rintro e w1 ⟨hb1, hres⟩
  have hs1 := hb1.size
  have B1 := B0.below hb1 B0.lt
  have D1 := D0.below hb1 D0.lt
  have H1 := H0.trans (hb1.mono hs0)
  have V1 : RI w1 w.heap.size C m us := Reads.below kk H1
  obtain ⟨b0, b1⟩ := blk2 B1
  obtain ⟨e0, e1⟩ := blk2 D1
  clear H0 B0 D0 hb1
  have HH1 := hide H1
  clear H1
  have hws1 : w.heap.size ≤ w1.heap.size := by omega
  rcases hres with ⟨p, r, rfl, hok, P1, R1⟩ | ⟨rfl, hbad⟩
  · have HP1 := hide (P1.base hs0)
    have HR1 := hide (R1.base hs0)
    have hpl := P1.lt
    have hrl := R1.lt
    clear P1 R1 hok
    go_wp2_with fail
    refine (watch_any C C' m d m' d' us w1 (Reads.more V1 hws1) hm).mono ?_
    rintro e w2 ⟨hb2, hres⟩
    have hs2 := hb2.size
    have B2 := B1.below hb2 B1.lt
    have D2 := D1.below hb2 D1.lt
    have H2 := hide (HH1.out.trans (hb2.mono hws1))
    have HP2 := hide (HP1.out.below hb2)
    have HR2 := hide (HR1.out.below hb2)
    clear V1 b0 b1 e0 e1 B1 D1 HH1 HP1 HR1 hb2
    rcases hres with ⟨q, s, rfl, hok, Q2, S2⟩ | ⟨rfl, hbad⟩
    · have hql : w1.heap.size ≤ q := by obtain ⟨_, _, hq, _⟩ := Q2; exact hq
      have hsl : w1.heap.size ≤ s := by obtain ⟨_, _, _, _, _, hq, _⟩ := S2; exact hq
      have HT : Hid (Two w2 w.heap.size p r none vs [] q s none us []) := ⟨HP2.out, HR2.out, Q2.base hws1, S2.base hws1, by omega, by omega, fun k hk => by cases hk⟩
      clear HP2 HR2 Q2 S2 hok hql hsl hpl hrl
      go_wp2
      go_loopw [11] (fun i wr => ∃ (k : Nat) (g g' : Option Nat) (L L' : List Ve), k ≤ n' + m' ∧ i = .int .i64 k ∧ Two wr w.heap.size p r g vs L q s g' us L' ∧ L.length ≤ k ∧ L'.length ≤ k ∧ Below w.heap.size w wr ∧ Blk wr w.heap.size 53 #[.slice A n c, .slice A' n' c'] ∧ Blk wr (w.heap.size + 1) 53 #[.slice C m d, .slice C' m' d']) (fun i _ => n' + m' - (intOf i).toNat)
      case atStart => exact ⟨0, none, none, [], [], Nat.zero_le _, rfl, HT.out, Nat.le_refl _, Nat.le_refl _, H2.out, B2, D2⟩
      case round =>
        obtain ⟨k, g, g', L, L', hk, rfl, T, hLk, hLk', hb, hB, hD⟩ := hrel
        obtain ⟨k0, k1⟩ := blk2 hB
        obtain ⟨l0, l1⟩ := blk2 hD
        have hbs := hb.size
        by_cases h1 : k < n'
        · by_cases h2 : k < m'
          · obtain ⟨o, b, off, rfl, hab, ⟨q0, q1, q2, q3, q4, q5⟩, RM, hms⟩ := (h'.below hb).at_ h1
            have HE := watched1_any o w.heap.size p r g vs L wr T.P T.R RM hms (by omega)
            go_wp2_with fail
            refine HE.mono ?_
            clear HE
            rintro e w3 ⟨rfl, g3, L3, P3, R3, hh3, ho3, hg3⟩
            have hl3 : L3.length ≤ k + 1 := by
              have h1 := stH_len vs (hist L) o
              rw [← hh3, hist_len, hist_len] at h1
              omega
            have T3 := hide (T.step P3 R3 ho3 hg3)
            have hB3 := T.box ho3 hB
            have hD3 := T.box ho3 hD
            have hb3 := hb.trans (T.under ho3 hbs)
            have hbs3 := hb3.size
            clear P3 R3 hh3 ho3 hg3 T RM hB hD hb q0 q1 q2 q3 q4 q5 k0 k1 l0 l1
            obtain ⟨k0, k1⟩ := blk2 hB3
            obtain ⟨l0, l1⟩ := blk2 hD3
            obtain ⟨o', b', off', rfl, hab', ⟨r0, r1, r2, r3, r4, r5⟩, RM', hms'⟩ := (k'.below hb3).at_ h2
            have HE := watched1_any o' w.heap.size q s g' us L' w3 T3.out.P' T3.out.R' RM' hms' (by omega)
            go_wp2_with fail
            refine HE.mono ?_
            clear HE
            rintro e w4 ⟨rfl, g4, L4, P4, R4, hh4, ho4, hg4⟩
            have hl4 : L4.length ≤ k + 1 := by
              have h1 := stH_len us (hist L') o'
              rw [← hh4, hist_len, hist_len] at h1
              omega
            have T4 := hide (T3.out.swap.step P4 R4 ho4 hg4).swap
            have hB4 := T3.out.swap.box ho4 hB3
            have hD4 := T3.out.swap.box ho4 hD3
            have hb4 := hb3.trans (T3.out.swap.under ho4 hbs3)
            have hbs4 := hb4.size
            clear P4 R4 hh4 ho4 hg4 T3 RM' hB3 hD3 hb3 r0 r1 r2 r3 r4 r5 k0 k1 l0 l1
            have hB4 := hide hB4
            have hD4 := hide hD4
            have hb4 := hide hb4
            go_wp2
            go_loopw [12] (fun kd wq => ∃ (x : Nat), 2 ≤ x ∧ x ≤ 5 ∧ kd = .int .i64 x ∧ Below w4.heap.size w4 wq) (fun kd _ => (5 - intOf kd).toNat)
            case atStart => exact ⟨2, by omega, by omega, rfl, Below.refl _ _⟩
            case round =>
              obtain ⟨x, hx2, hx5, rfl, hbq⟩ := hrel
              by_cases hx : x ≤ 4
              · have T5 := T4.out.below hbq
                go_wp2_with fail
                refine (asks_any x w.heap.size p r g3 vs L3 _ T5.P T5.R (by omega)).mono ?_
                rintro e w6 ⟨rfl, hb6⟩
                have T6 := T5.below hb6
                have hb7 := hbq.trans (hb6.mono hbq.size)
                clear T5 hb6 hbq
                go_wp2_with fail
                refine (asks_any x w.heap.size q s g4 us L4 _ T6.P' T6.R' (by omega)).mono ?_
                rintro e w7 ⟨rfl, hb6⟩
                have hb8 := hide (hb7.trans (hb6.mono hb7.size))
                clear T6 hb6 hb7
                go_wp2
                go_roundw
                case rel => exact ⟨x + 1, by omega, by omega, by go_num, hb8.out⟩
                case measure => simp [intOf]; omega
              · obtain rfl : x = 5 := by omega
                have hbs5 := hide (hbq.mono hbs4)
                have hbq := hide hbq
                go_wp2
                go_roundw
                case rel => exact ⟨k + 1, g3, g4, L3, L4, by omega, by go_num, T4.out.below hbq.out, hl3, hl4, hb4.out.trans hbs5.out, hB4.out.below hbq.out hB4.out.lt, hD4.out.below hbq.out hD4.out.lt⟩
                case measure => simp [intOf]; omega
          · obtain ⟨o, b, off, rfl, hab, ⟨q0, q1, q2, q3, q4, q5⟩, RM, hms⟩ := (h'.below hb).at_ h1
            have HE := watched1_any o w.heap.size p r g vs L wr T.P T.R RM hms (by omega)
            go_wp2_with fail
            refine HE.mono ?_
            clear HE
            rintro e w3 ⟨rfl, g3, L3, P3, R3, hh3, ho3, hg3⟩
            have hl3 : L3.length ≤ k + 1 := by
              have h1 := stH_len vs (hist L) o
              rw [← hh3, hist_len, hist_len] at h1
              omega
            have T3 := hide (T.step P3 R3 ho3 hg3)
            have hB3 := T.box ho3 hB
            have hD3 := T.box ho3 hD
            have hb3 := hb.trans (T.under ho3 hbs)
            have hbs3 := hb3.size
            clear P3 R3 hh3 ho3 hg3 T RM hB hD hb q0 q1 q2 q3 q4 q5 k0 k1 l0 l1
            obtain ⟨k0, k1⟩ := blk2 hB3
            obtain ⟨l0, l1⟩ := blk2 hD3
            obtain ⟨w4, hw4⟩ : ∃ w4, w4 = w3 := ⟨_, rfl⟩
            obtain ⟨g4, hg4⟩ : ∃ g4, g4 = g' := ⟨_, rfl⟩
            obtain ⟨L4, hL4⟩ : ∃ L4, L4 = L' := ⟨_, rfl⟩
            subst hw4 hg4 hL4
            have hl4 : L4.length ≤ k + 1 := by omega
            have T4 := T3
            have hB4 := hB3
            have hD4 := hD3
            have hb4 := hb3
            have hbs4 := hbs3
            clear T3 hB3 hD3 hb3
            have hB4 := hide hB4
            have hD4 := hide hD4
            have hb4 := hide hb4
            go_wp2
            go_loopw [12] (fun kd wq => ∃ (x : Nat), 2 ≤ x ∧ x ≤ 5 ∧ kd = .int .i64 x ∧ Below w4.heap.size w4 wq) (fun kd _ => (5 - intOf kd).toNat)
            case atStart => exact ⟨2, by omega, by omega, rfl, Below.refl _ _⟩
            case round =>
              obtain ⟨x, hx2, hx5, rfl, hbq⟩ := hrel
              by_cases hx : x ≤ 4
              · have T5 := T4.out.below hbq
                go_wp2_with fail
                refine (asks_any x w.heap.size p r g3 vs L3 _ T5.P T5.R (by omega)).mono ?_
                rintro e w6 ⟨rfl, hb6⟩
                have T6 := T5.below hb6
                have hb7 := hbq.trans (hb6.mono hbq.size)
                clear T5 hb6 hbq
                go_wp2_with fail
                refine (asks_any x w.heap.size q s g4 us L4 _ T6.P' T6.R' (by omega)).mono ?_
                rintro e w7 ⟨rfl, hb6⟩
                have hb8 := hide (hb7.trans (hb6.mono hb7.size))
                clear T6 hb6 hb7
                go_wp2
                go_roundw
                case rel => exact ⟨x + 1, by omega, by omega, by go_num, hb8.out⟩
                case measure => simp [intOf]; omega
              · obtain rfl : x = 5 := by omega
                have hbs5 := hide (hbq.mono hbs4)
                have hbq := hide hbq
                go_wp2
                go_roundw
                case rel => exact ⟨k + 1, g3, g4, L3, L4, by omega, by go_num, T4.out.below hbq.out, hl3, hl4, hb4.out.trans hbs5.out, hB4.out.below hbq.out hB4.out.lt, hD4.out.below hbq.out hD4.out.lt⟩
                case measure => simp [intOf]; omega
        · by_cases h2 : k < m'
          · obtain ⟨w3, hw3⟩ : ∃ w3, w3 = wr := ⟨_, rfl⟩
            obtain ⟨g3, hg3⟩ : ∃ g3, g3 = g := ⟨_, rfl⟩
            obtain ⟨L3, hL3⟩ : ∃ L3, L3 = L := ⟨_, rfl⟩
            subst hw3 hg3 hL3
            have hl3 : L3.length ≤ k + 1 := by omega
            have T3 := hide T
            have hB3 := hB
            have hD3 := hD
            have hb3 := hb
            have hbs3 := hbs
            clear T hB hD hb
            obtain ⟨o', b', off', rfl, hab', ⟨r0, r1, r2, r3, r4, r5⟩, RM', hms'⟩ := (k'.below hb3).at_ h2
            have HE := watched1_any o' w.heap.size q s g' us L' w3 T3.out.P' T3.out.R' RM' hms' (by omega)
            go_wp2_with fail
            refine HE.mono ?_
            clear HE
            rintro e w4 ⟨rfl, g4, L4, P4, R4, hh4, ho4, hg4⟩
            have hl4 : L4.length ≤ k + 1 := by
              have h1 := stH_len us (hist L') o'
              rw [← hh4, hist_len, hist_len] at h1
              omega
            have T4 := hide (T3.out.swap.step P4 R4 ho4 hg4).swap
            have hB4 := T3.out.swap.box ho4 hB3
            have hD4 := T3.out.swap.box ho4 hD3
            have hb4 := hb3.trans (T3.out.swap.under ho4 hbs3)
            have hbs4 := hb4.size
            clear P4 R4 hh4 ho4 hg4 T3 RM' hB3 hD3 hb3 r0 r1 r2 r3 r4 r5 k0 k1 l0 l1
            have hB4 := hide hB4
            have hD4 := hide hD4
            have hb4 := hide hb4
            go_wp2
            go_loopw [12] (fun kd wq => ∃ (x : Nat), 2 ≤ x ∧ x ≤ 5 ∧ kd = .int .i64 x ∧ Below w4.heap.size w4 wq) (fun kd _ => (5 - intOf kd).toNat)
            case atStart => exact ⟨2, by omega, by omega, rfl, Below.refl _ _⟩
            case round =>
              obtain ⟨x, hx2, hx5, rfl, hbq⟩ := hrel
              by_cases hx : x ≤ 4
              · have T5 := T4.out.below hbq
                go_wp2_with fail
                refine (asks_any x w.heap.size p r g3 vs L3 _ T5.P T5.R (by omega)).mono ?_
                rintro e w6 ⟨rfl, hb6⟩
                have T6 := T5.below hb6
                have hb7 := hbq.trans (hb6.mono hbq.size)
                clear T5 hb6 hbq
                go_wp2_with fail
                refine (asks_any x w.heap.size q s g4 us L4 _ T6.P' T6.R' (by omega)).mono ?_
                rintro e w7 ⟨rfl, hb6⟩
                have hb8 := hide (hb7.trans (hb6.mono hb7.size))
                clear T6 hb6 hb7
                go_wp2
                go_roundw
                case rel => exact ⟨x + 1, by omega, by omega, by go_num, hb8.out⟩
                case measure => simp [intOf]; omega
              · obtain rfl : x = 5 := by omega
                have hbs5 := hide (hbq.mono hbs4)
                have hbq := hide hbq
                go_wp2
                go_roundw
                case rel => exact ⟨k + 1, g3, g4, L3, L4, by omega, by go_num, T4.out.below hbq.out, hl3, hl4, hb4.out.trans hbs5.out, hB4.out.below hbq.out hB4.out.lt, hD4.out.below hbq.out hD4.out.lt⟩
                case measure => simp [intOf]; omega
          · go_wp2
            go_ret
            exact ⟨rfl, hb⟩
    · have H3 := hide (HP2.out)
      clear HP2 HR2 hbad
      go_wp2
      go_ret
      exact ⟨rfl, H2.out⟩
  · clear hbad
    go_wp2_with fail
    refine (watch_any C C' m d m' d' us w1 (Reads.more V1 hws1) hm).mono ?_
    rintro e w2 ⟨hb2, hres⟩
    have H2 := hide (HH1.out.trans (hb2.mono hws1))
    clear V1 b0 b1 e0 e1 B1 D1 HH1 hb2
    rcases hres with ⟨q, s, rfl, hok, Q2, S2⟩ | ⟨rfl, hbad⟩
    · clear hok Q2 S2
      go_wp2
      go_ret
      exact ⟨rfl, H2.out⟩
    · clear hbad
      go_wp2
      go_ret
      exact ⟨rfl, H2.out⟩
end Go.Proofs.Yteckffndboiknaa
