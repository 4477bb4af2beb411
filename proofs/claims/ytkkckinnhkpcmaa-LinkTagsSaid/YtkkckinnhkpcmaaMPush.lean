/-
  Contract of Mux.Push where the peer is one and the piece's length fits.
-/
import Derived.Test.YtkkckinnhkpcmaaSteps
set_option linter.unusedVariables false
namespace Go.Proofs.Ytkkckinnhkpcmaa
open Go.RowKit Go.WideShapes Go.ChangeShapes Q

theorem info5 : (Try.prog.info? 5).map (fun i => (i.zero, i.size, i.bytes)) = some (some (.int .u8 0), 1, 1) := by kernel_rfl

theorem st_append {w w1 : World} {n : Nat} (hg : ((w.drewN n).drew).grownBy w1 (Value.slice none 0 0).ownBlock) : St (fun _ => False) w w1 :=
  ((St.refl (fun _ => False) w).drewN n).drew.grown_new hg fun g e => by simp [Value.ownBlock] at e

/-- What a Push leaves. -/
def PushP (S : Nat → Prop) (sb : Nat) (X : Mx) (x : Str) (bs : List Int) (w : World) (e : Ending) (w' : World) : Prop :=
  (X.room ≤ x.out.length ∧ e = .returned (.int .i64 42) ∧ ∃ n, w' = w.drewN n) ∨
  (x.out.length < X.room ∧ e = .returned (.int .i64 0) ∧ St S w w' ∧ StreamAt w' (fun k => S k ∨ w.heap.size ≤ k) sb { x with out := x.out ++ [bs] })

set_option maxRecDepth 100000 in
set_option maxHeartbeats 1000000 in
theorem mpush_any (S : Nat → Prop) (m sb : Nat) (X : Mx) (p : Int) (x : Str) (A : Option Addr) (c : Nat) (bs : List Int) (w : World) (hm : MuxAt w m X) (hp : X.with_ p = some sb) (h : StreamAt w S sb x) (hf : x.Fits)
    (hb : Reads w w.heap.size 1 A bs.length (byts bs)) (hn1 : 1 ≤ bs.length) (hn2 : bs.length ≤ 300) :
    Calls Try.prog 37 #[.pointer (some ⟨m, 0, none⟩), .int .i64 p, .slice A bs.length c] w (PushP S sb X x bs w) := by
  obtain ⟨i0, hi, hz0, hz1, hz2⟩ := info_parts info5
  have hw := with_any m X p w hm
  rw [hp] at hw
  have hw := hide hw
  have HS := hide h
  have HB := hide hb
  obtain ⟨vo, hb, ib, is, h1, h2, _⟩ := h
  obtain ⟨A', c', vs, rfl, _, _, hc'⟩ := h2.val
  obtain ⟨m0, m1, m2, m3, m4, m5⟩ := m6 h1
  obtain ⟨p0, p1, p2, p3, p4, p5, p6, p7, p8⟩ := m9 hm.1
  have hr := hm.2.2.2.1
  obtain ⟨f0, f1, n0, n1, o1, e1⟩ := hf
  clear hm h1 h2
  by_cases hfull : X.room ≤ x.out.length
  · go_enter Try.func37, Try.ntmps37
    go_wp2_with (go_at_call 41; refine hw.out.mono ?_; rintro e w' ⟨rfl, rfl⟩; unfold ptr)
    go_quiet (fail)
    go_wp2
    go_ret
    exact .inl ⟨hfull, rfl, _, rfl⟩
  · go_enter Try.func37, Try.ntmps37
    go_wp2_with (go_at_call 41; refine hw.out.mono ?_; rintro e w' ⟨rfl, rfl⟩; unfold ptr)
    go_quiet (fail)
    go_wp2
    go_region_held3 (fun W => True) (trivial)
      (first
        | ((refine step_append_any _ (by rfl) _ _ _ (by rfl) 0 5 i0 _ 1 1 Try.underlying28 hi hz0 hz1 hz2 (by rfl) (by omega) (.slice none 0 0) 0 [] (by rfl) (World.ownsRow_nil _ _ _ _) w.heap.size A bs.length c (byts bs) (by rfl) ?_ (byts_one bs) ?_ ?_ (Nat.zero_le _) ?_; exact HB.out; (unfold maxLen; omega); omega; intro v1 w1 hown1 hg1 hat1; simp only [Nat.zero_add, List.nil_append] at hown1; have hst1 : St (fun _ => False) w w1 := st_append hg1; have hs1 := StreamAt.far HS.out hst1 (fun _ _ e => e); have HV1 : Bod w1 v1 bs := hown1))
        | ((go_at_call 55; refine (push_any S sb x v1 bs w1 hs1 HV1 o1).mono ?_; rintro e w2 ⟨rfl, hst2, hs2⟩; have hst2' := hide hst2; have hs2' := hide hs2; clear hst2 hs2)))
    go_wp2
    go_ret
    refine .inr ⟨by omega, rfl, (hst1.mono fun _ _ e => e.elim).trans hst2'.out, hs2'.out.mono fun k hk => ?_⟩
    rcases hk with hk | hk
    · exact .inl hk
    · exact .inr (Nat.le_trans hst1.size hk)
end Go.Proofs.Ytkkckinnhkpcmaa
