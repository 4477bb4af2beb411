/-
  Contract of Mux.Frames where the peer is one: the walk.
-/
import Derived.Test.YtkkckinnhkpcmaaWir
set_option linter.unusedVariables false
namespace Go.Proofs.Ytkkckinnhkpcmaa
open Go.RowKit Go.WideShapes Go.ChangeShapes Q
theorem addr0 (g k : Nat) : (⟨g, 0, none⟩ : Addr).add k = ⟨g, k, none⟩ := by
  unfold Addr.add
  split
  · rename_i h; subst h; rfl
  · simp
theorem step_push {P : Program} (w : World) {ops : Array Oper} {o : Oper} {a : Act} {K : Act → World → Prop} {Q : Exit → Act → World → Prop} {E : Prop} (hgd : o.guard = none) (s x : Operand) (t : TypeId)
    (ho : o.op = .call { callee := .builtin .append, args := #[s, x], argTypes := #[t, t] })
    (base : Nat) (e : TypeId) (i : TypeInfo) (z : Value) (size bytes : Nat) (ht : P.underlying t = some (.slice e)) (hi : P.info? e = some i) (hz : i.zero = some z)
    (hsize : i.size = size) (hby : i.bytes = bytes) (hzs : z.cells.size = size) (hsz : 0 < size)
    (v : Value) (n : Nat) (xs : List Value) (hs : a.eval s = v) (hown : w.ownsRow base e size v n xs)
    (gx m c : Nat) (cs : Array Value) (hx : a.eval x = .slice (some ⟨gx, 0, none⟩) m c) (hb : Blk w gx e cs) (hcs : cs.size = m * size) (h1 : ∀ u ∈ cs.toList, u.oneCell' = true)
    (hm : 0 < m) (h63 : n + m ≤ maxLen) (hbytes : (n + m) * bytes ≤ 140737488355328) (hbase : base ≤ w.heap.size)
    (h : ∀ g cap w', w'.ownsRow base e size (.slice (some ⟨g, 0, none⟩) (n + m) cap) (n + m) (xs ++ cs.toList) → w.grownBy w' v.ownBlock → (v.ownBlock = some g ∨ g = w.heap.size) → g < w'.heap.size → K (a.put o.dst (.slice (some ⟨g, 0, none⟩) (n + m) cap)) w') :
    if Region.wanted o (yielded ops a.tmps) = true then Oper.wp P o a w K Q else E :=
  step_append_lies w hgd s x t ho base e i z size bytes ht hi hz hsize hby hzs hsz v n xs hs hown ⟨gx, 0, none⟩ m c cs.toList hx (by simpa using hcs) (World.news_of_block hb) h1 hm h63 hbytes hbase w.heap.size rfl h

theorem info57z : (Try.prog.info? 57).map (fun i => (i.zero, i.size, i.bytes)) = some (some (.agg #[.int .i64 0, .int .i64 0, .int .i64 0, .int .i64 0, .int .i64 0, .slice none 0 0]), 6, 64) := by kernel_rfl
set_option maxRecDepth 100000 in
set_option maxHeartbeats 2000000 in
theorem frames_row (S : Nat → Prop) (m sb : Nat) (X : Mx) (p : Int) (x : Str) (w : World) (hm : MuxAt w m X) (hp : X.with_ p = some sb) (h : StreamAt w S sb x) (hf : x.Fits) (hout : 0 < x.out.length) (hlen : ∀ y ∈ x.out, y.length ≤ 300) :
    Calls Try.prog 34 #[.pointer (some ⟨m, 0, none⟩), .int .i64 p] w fun e w' => ∃ v, e = .returned v ∧ FRow w' (fun q => w.heap.size ≤ q) v (framesTo X.t x (Min.min X.window x.out.length)) ∧ St (fun _ => False) w w' := by
  have hw := with_any m X p w hm
  rw [hp] at hw
  have hw := hide hw
  have HFLY : ∀ n, Hid (Calls Try.prog 48 #[.pointer (some ⟨m, 0, none⟩), .pointer (some ⟨sb, 0, none⟩)] (w.drewN n) fun r w' => r = .returned (.int .i64 (Min.min X.window x.out.length : Nat)) ∧ ∃ m, w' = (w.drewN n).drewN m) := fun n =>
    flying_any S m sb X x (w.drewN n) hm (h.far ((St.refl (fun _ => False) w).drewN n) (fun _ _ e => e)) hf
  obtain ⟨vo, hb, ib, is, h1, h2, _⟩ := h
  have H2 := hide h2
  obtain ⟨vs, r1, r2, r3⟩ := h2
  obtain ⟨s0, s1, s2, s3, s4, s5⟩ := m6 h1
  obtain ⟨p0, p1, p2, p3, p4, p5, p6, p7, p8⟩ := m9 hm.1
  have hr := hm.2.2
  obtain ⟨f0, f1, n0, n1, o1, e1⟩ := hf
  obtain ⟨mn, hmn⟩ : ∃ mn, mn = Min.min X.window x.out.length := ⟨_, rfl⟩
  have hmin : mn ≤ x.out.length := by omega
  rw [← hmn] at HFLY
  have HMN := hide hmn
  rcases r1.2 with ⟨_, hz⟩ | ⟨g, cap, cur, rfl, _, hg, hcap, _⟩
  · omega
  have R1 := hide r1
  have c0 : ¬ cap = 0 := by omega
  have hmc : mn ≤ cap := by omega
  clear hmn h1 hm r1
  go_enter Try.func34, Try.ntmps34
  go_wp2_with (go_at_call 41; refine hw.out.mono ?_; rintro e w' ⟨rfl, rfl⟩; unfold ptr)
  go_quiet ((go_at_call 48; exact Calls.quiet_of ((HFLY _).out)))
  go_wp2_with fail
  have RD := hide (Reads.of_own R1.out)
  have HA := hide (And.intro p4 (And.intro p5 (And.intro p6 (And.intro p7 s0))))
  go_loopw [6, 24] (fun l i wr => ∃ k : Nat, k ≤ mn ∧ i = .int .i64 k ∧ Hid (FRow wr (fun q => w.heap.size ≤ q) l (framesTo X.t x k)) ∧ Hid (St (fun _ => False) w wr)) (fun _ i _ => mn - (intOf i).toNat)
  case atStart => exact ⟨0, Nat.zero_le _, rfl, FRow.nil _ _, (St.refl (fun _ => False) w).drewN _⟩
  case round =>
    obtain ⟨k, hk, rfl, hfr, hst⟩ := hrel
    by_cases hlt : k < mn
    · obtain ⟨ad, u, hA, _, hx, hcu⟩ := Reads.at_ RD.out (show k < x.out.length by omega)
      injection hA with hA
      subst hA
      have hbd : Bod w u (x.out.getD k []) := r2.2 k u _ hx (by simp [List.getD, List.getElem?_eq_getElem (show k < x.out.length by omega)])
      obtain ⟨bd, hbdy⟩ : ∃ bd, bd = x.out.getD k [] := ⟨_, rfl⟩
      have HBDY := hide hbdy
      rw [← hbdy] at hbd
      clear hbdy hx
      have hwr : IntKind.i64.wrap (x.first + (k : Int)) = x.first + (k : Int) := IntWalk.i64_in _ (by constructor <;> omega)
      obtain ⟨Au, cu, rfl, hru, _⟩ := (hbd.st hst.out).val
      rw [addr0] at hcu
      have hcu := hst.out.only.cell hcu (fun e => e)
      obtain ⟨q4, q5, q6, q7, t0⟩ := HA.out
      have q4 := hst.out.only.cell q4 (fun e => e)
      have q5 := hst.out.only.cell q5 (fun e => e)
      have q6 := hst.out.only.cell q6 (fun e => e)
      have q7 := hst.out.only.cell q7 (fun e => e)
      have t0 := hst.out.only.cell t0 (fun e => e)
      clear p0 p1 p2 p3 p4 p5 p6 p7 p8 s0 s1 s2 s3 s4 s5
      obtain ⟨i5, hi5, hy0, hy1, hy2⟩ := info_parts info5
      have HRU := hide hru
      have HR2 := hide hr
      go_wp2_with fail
      obtain ⟨i57, hi57, hu0, hu1, hu2⟩ := info_parts info57z
      obtain ⟨fvs, ff1, ff2, ff3⟩ := hfr.out
      rw [framesTo_len] at ff1
      have hbl : bd.length ≤ 300 := by
        have := HBDY.out
        rw [this]
        have hk' : k < x.out.length := by omega
        simp only [List.getD, List.getElem?_eq_getElem hk', Option.getD_some]
        exact hlen _ (List.getElem_mem hk')
      go_region_held3 (fun W => W.cell? ⟨m, 4, none⟩ = some (.int .i64 X.t.ep) ∧ W.cell? ⟨m, 5, none⟩ = some (.int .i64 X.t.lead) ∧ W.cell? ⟨m, 6, none⟩ = some (.int .i64 X.t.inc) ∧ W.cell? ⟨m, 7, none⟩ = some (.int .i64 X.t.cid) ∧ W.cell? ⟨sb, 0, none⟩ = some (.int .i64 x.first))
        (first | exact ⟨q4, q5, q6, q7, t0⟩ | exact ⟨a4, a5, a6, a7, b0⟩ | exact ⟨c4, c5, c6, c7, d0⟩ | exact ⟨e4, e5, e6, e7, e0⟩)
        (first
          | ((refine step_append_any _ (by rfl) _ (.tmp 41) _ (by rfl) 0 5 i5 _ 1 1 Try.underlying28 hi5 hy0 hy1 hy2 (by rfl) (by omega) (.slice none 0 0) 0 [] (by rfl) (World.ownsRow_nil _ _ _ _) wr.heap.size Au bd.length cu (byts bd) (by rfl) ?_ (byts_one bd) ?_ ?_ (Nat.zero_le _) ?_; exact HRU.out; (unfold maxLen; omega); omega; intro v1 w1 hown1 hg1 hat1; simp only [Nat.zero_add, List.nil_append] at hown1; obtain ⟨A1, c1, rfl, _, _⟩ := own_val hown1; have hst1 : St (fun _ => False) wr w1 := (((St.refl (fun _ => False) wr).drew).grown_new hg1 (fun g e => by simp [Value.ownBlock] at e)); have a4 := hst1.only.cell q4 (fun e => e); have a5 := hst1.only.cell q5 (fun e => e); have a6 := hst1.only.cell q6 (fun e => e); have a7 := hst1.only.cell q7 (fun e => e); have b0 := hst1.only.cell t0 (fun e => e); have hstA := hst1.alloc (.cells #[.int .i64 X.t.ep, .int .i64 X.t.lead, .int .i64 X.t.inc, .int .i64 X.t.cid, .int .i64 (x.first + (k : Int)), .slice A1 bd.length c1] 57); have c4 := hstA.only.cell q4 (fun e => e); have c5 := hstA.only.cell q5 (fun e => e); have c6 := hstA.only.cell q6 (fun e => e); have c7 := hstA.only.cell q7 (fun e => e); have d0 := hstA.only.cell t0 (fun e => e); have BA := Blk.new w1 57 #[.int .i64 X.t.ep, .int .i64 X.t.lead, .int .i64 X.t.inc, .int .i64 X.t.cid, .int .i64 (x.first + (k : Int)), .slice A1 bd.length c1]))
          | ((refine step_push (w1.alloc (.cells #[.int .i64 X.t.ep, .int .i64 X.t.lead, .int .i64 X.t.inc, .int .i64 X.t.cid, .int .i64 (x.first + (k : Int)), .slice A1 bd.length c1] 57)) (by rfl) _ (.tmp 44) _ (by rfl) 0 57 i57 _ 6 64 Try.underlying40 hi57 hu0 hu1 hu2 (by rfl) (by omega) u6 k (frAll (framesTo X.t x k) fvs) (by rfl) ?_ w1.heap.size 1 1 _ (by rfl) BA (by rfl) ?_ (by omega) ?_ ?_ (Nat.zero_le _) ?_; exact (own_only ff1 hst1.only (fun _ _ e => e)).alloc _; (exact frL_one (f := ⟨X.t, x.first + (k : Int), bd⟩) rfl); (unfold maxLen; omega); omega; intro g2 cap2 w2 hown2 hgr2 hor2 hlt2; have hst2 : St (fun _ => False) w w2 := (hst.out.trans hstA).grown_new hgr2 (fun g hg => ff3 g hg); obtain ⟨y4, y5, y6, y7, y0⟩ := HA.out; have e4 := hst2.only.cell y4 (fun e => e); have e5 := hst2.only.cell y5 (fun e => e); have e6 := hst2.only.cell y6 (fun e => e); have e7 := hst2.only.cell y7 (fun e => e); have e0 := hst2.only.cell y0 (fun e => e)))
          )
      have hfr2 : FRow w2 (fun q => w.heap.size ≤ q) (.slice (some ⟨g2, 0, none⟩) (k + 1) cap2) (framesTo X.t x (k + 1)) := by
        have hbod : Bod (w1.alloc (.cells #[.int .i64 X.t.ep, .int .i64 X.t.lead, .int .i64 X.t.inc, .int .i64 X.t.cid, .int .i64 (x.first + (k : Int)), .slice A1 bd.length c1] 57)) (.slice A1 bd.length c1) bd := by
          have hb1 : Bod w1 (.slice A1 bd.length c1) bd := hown1
          exact hb1.st ((St.refl (fun _ => False) w1).alloc _)
        have hge : ∀ g, u6.ownBlock = some g → w.heap.size ≤ g := fun g hg => ff3 g hg
        have hkeep : ∀ q cs, Blk (w1.alloc (.cells #[.int .i64 X.t.ep, .int .i64 X.t.lead, .int .i64 X.t.inc, .int .i64 X.t.cid, .int .i64 (x.first + (k : Int)), .slice A1 bd.length c1] 57)) q 5 cs → Blk w2 q 5 cs := fun q cs hq => hq.grown hgr2 (fun e => own_blk_ne ((own_only ff1 hst1.only (fun _ _ e => e)).alloc _) hq (by decide) e.symm)
        refine ⟨fvs ++ [.slice A1 bd.length c1], ?_, ?_, fun q hq => ?_⟩
        · rw [framesTo_len, framesTo_succ, frAll_snoc (by rw [framesTo_len]; have := ff2.1; simpa [framesTo_len] using this)]
          rw [← HBDY.out]
          exact hown2
        · rw [framesTo_succ, List.map_append]
          refine ((ff2.st hstA).keep hkeep).snoc ?_
          rw [← HBDY.out]
          exact hbod.keep hkeep
        · obtain rfl : g2 = q := by simpa [Value.ownBlock] using hq
          rcases hor2 with e | e
          · exact hge _ e
          · have h1 := hst.out.size
            have h2 := hstA.size
            omega
      have HST2 := hide hst2
      have HFR2 := hide hfr2
      clear hst2 hfr2 y4 y5 y6 y7 y0 e4 e5 e6 e7 e0 a4 a5 a6 a7 b0 c4 c5 c6 c7 d0 BA hstA hst1
      go_wp2
      go_roundw
      case rel => exact ⟨k + 1, by omega, by go_num, HFR2, HST2⟩
      case measure => simp [intOf]; omega
    · obtain rfl : k = mn := by omega
      go_wp2
      go_ret
      exact ⟨_, rfl, by rw [← HMN.out]; exact hfr.out, hst.out⟩

set_option maxRecDepth 100000 in
set_option maxHeartbeats 2000000 in
theorem frames_nil (S : Nat → Prop) (m sb : Nat) (X : Mx) (p : Int) (x : Str) (w : World) (hm : MuxAt w m X) (hp : X.with_ p = some sb) (h : StreamAt w S sb x) (hf : x.Fits) (hout : x.out.length = 0) :
    Calls Try.prog 34 #[.pointer (some ⟨m, 0, none⟩), .int .i64 p] w fun e w' => ∃ v, e = .returned v ∧ FRow w' (fun q => w.heap.size ≤ q) v (framesTo X.t x (Min.min X.window x.out.length)) ∧ St (fun _ => False) w w' := by
  have hw := with_any m X p w hm
  rw [hp] at hw
  have hw := hide hw
  have HFLY : ∀ n, Hid (Calls Try.prog 48 #[.pointer (some ⟨m, 0, none⟩), .pointer (some ⟨sb, 0, none⟩)] (w.drewN n) fun r w' => r = .returned (.int .i64 (Min.min X.window x.out.length : Nat)) ∧ ∃ m, w' = (w.drewN n).drewN m) := fun n =>
    flying_any S m sb X x (w.drewN n) hm (h.far ((St.refl (fun _ => False) w).drewN n) (fun _ _ e => e)) hf
  rw [hout, Nat.min_zero] at HFLY
  have hres : Hid (FRow w (fun q => w.heap.size ≤ q) (.slice none 0 0) (framesTo X.t x 0)) := FRow.nil _ _
  rw [hout, Nat.min_zero]
  obtain ⟨vo, hb, ib, is, h1, h2, _⟩ := h
  obtain ⟨vs, r1, r2, r3⟩ := h2
  obtain ⟨s0, s1, s2, s3, s4, s5⟩ := m6 h1
  obtain ⟨p0, p1, p2, p3, p4, p5, p6, p7, p8⟩ := m9 hm.1
  have hr := hm.2.2
  have hcase : (vo = .slice none 0 0) ∨ ∃ g cap, vo = .slice (some ⟨g, 0, none⟩) 0 cap := by
    rcases r1.2 with ⟨hn, _⟩ | ⟨g, cap, cur, hv, _⟩
    · exact .inl (by rw [hn])
    · exact .inr ⟨g, cap, by rw [hv, hout]⟩
  clear h1 hm r1 r2 r3
  rcases hcase with rfl | ⟨g, cap, rfl⟩
  · go_enter Try.func34, Try.ntmps34
    go_wp2_with (go_at_call 41; refine hw.out.mono ?_; rintro e w' ⟨rfl, rfl⟩; unfold ptr)
    go_quiet ((go_at_call 48; exact Calls.quiet_of ((HFLY _).out)))
    go_wp2_with fail
    go_loop [6, 24] (fun l i => l = .slice none 0 0 ∧ i = .int .i64 0) (fun l i => 0)
    case atStart => exact ⟨rfl, rfl⟩
    case round =>
      obtain ⟨rfl, rfl⟩ := hrel
      go_wp2
      go_ret
      exact ⟨_, rfl, hres.out.far ((St.refl (fun _ => False) w).drewN _) (fun _ _ e => e), (St.refl (fun _ => False) w).drewN _⟩
  · by_cases c0 : cap = 0
    all_goals
      go_enter Try.func34, Try.ntmps34
      go_wp2_with (go_at_call 41; refine hw.out.mono ?_; rintro e w' ⟨rfl, rfl⟩; unfold ptr)
      go_quiet ((go_at_call 48; exact Calls.quiet_of ((HFLY _).out)))
      go_wp2_with fail
      go_loop [6, 24] (fun l i => l = .slice none 0 0 ∧ i = .int .i64 0) (fun l i => 0)
      case atStart => exact ⟨rfl, rfl⟩
      case round =>
        obtain ⟨rfl, rfl⟩ := hrel
        go_wp2
        go_ret
        exact ⟨_, rfl, hres.out.far ((St.refl (fun _ => False) w).drewN _) (fun _ _ e => e), (St.refl (fun _ => False) w).drewN _⟩

theorem frames_any (S : Nat → Prop) (m sb : Nat) (X : Mx) (p : Int) (x : Str) (w : World) (hm : MuxAt w m X) (hp : X.with_ p = some sb) (h : StreamAt w S sb x) (hf : x.Fits) (hlen : ∀ y ∈ x.out, y.length ≤ 300) :
    Calls Try.prog 34 #[.pointer (some ⟨m, 0, none⟩), .int .i64 p] w fun e w' => ∃ v, e = .returned v ∧ FRow w' (fun q => w.heap.size ≤ q) v (framesTo X.t x (Min.min X.window x.out.length)) ∧ St (fun _ => False) w w' := by
  rcases Nat.eq_zero_or_pos x.out.length with h0 | h0
  · exact frames_nil S m sb X p x w hm hp h hf h0
  · exact frames_row S m sb X p x w hm hp h hf h0 hlen
end Go.Proofs.Ytkkckinnhkpcmaa
