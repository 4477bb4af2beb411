/-
  Contract of the reference's Within.
-/
import Derived.Test.YtkcjfiifajjpiaaRAlone
import Derived.Test.YtkcjfiifajjpiaaRAfter
import Derived.Test.YtkcjfiifajjpiaaPcs
import Derived.StillTailTactics
set_option linter.unusedVariables false
set_option linter.unusedSimpArgs false
namespace Go.Proofs.Ytkcjfiifajjpiaa
open Go.RowKit Go.WideShapes Go.ChangeShapes Q

theorem still_load_row {P : Program} {ops : Array Oper} {rest : List Oper} {o : Oper} {a : Act} {w : World} {Q : Act → Prop} (hw : Region.wanted o (yielded ops a.tmps) = true) (ty : TypeId) (x : Operand) (ho : o.op = .load ty x)
    (g : Nat) (hx : a.eval x = .pointer (some ⟨g, 0, none⟩)) (t : TypeId) (cs : Array Value) (fr : Nat × Nat) (d : TypeDesc) (hg : w.heap[g]? = some (.cells cs t fr))
    (hu : P.underlying ty = some d) (hd : (match d with | .struct _ | .array _ _ => true | _ => false) = true) (hi : (P.info? ty).map (·.size) = some cs.size)
    (h : wpStill P ops w Q rest (a.put o.dst (.agg cs))) : wpStill P ops w Q (o :: rest) a := by
  refine wpStill_step fun K hK => ?_
  rw [if_pos hw]
  unfold Oper.still execOp
  simp only [ho, hx, Instr.loadAt, Instr.sureAddr, Sem.run_bind, Sem.run_pure, Result.andThen_ok, run_loadVar_row w g t ty cs fr d hg hu hd hi, Oper.stillUpon_value]
  exact hK _ h
def bls (fs : List Bool) : List Value := fs.map Value.bool
theorem bls_append (a b : List Bool) : bls (a ++ b) = bls a ++ bls b := by simp [bls]
theorem own_cell {w : World} {base n k : Nat} {e : TypeId} {v u : Value} {xs : List Value} (h : w.ownsRow base e 1 v n xs) (hk : k < n) (hu : xs[k]? = some u) :
    ∃ g c, v = .slice (some ⟨g, 0, none⟩) n c ∧ w.cell? ⟨g, k, none⟩ = some u := by
  obtain ⟨g7, cap7, cur, e7, _, hg7, _, _, _, htk⟩ := own_some h (by omega)
  refine ⟨g7, cap7, e7, ?_⟩
  have B7 : Blk w g7 e cur := hg7
  rw [B7.cell]
  have h1 : cur[k]? = cur.toList[k]? := by simp
  have h2 : (cur.toList.take (n * 1))[k]? = cur.toList[k]? := by rw [List.getElem?_take, if_pos (by omega)]
  rw [h1, ← h2, htk, hu]
theorem row_ne {w : World} {base n m : Nat} {e e' : TypeId} {v u : Value} {xs ys : List Value} (h : w.ownsRow base e 1 v n xs) (h' : w.ownsRow base e' 1 u m ys) (hne : e ≠ e') : ∀ g, u.ownBlock = some g → v.ownBlock ≠ some g := by
  intro g hg hv
  obtain ⟨_, cs, hb⟩ := own_blk h hv
  exact own_ne h' hb hne hg.symm
/-- Memory in the reference's Within. -/
structure WI (w wr : World) (base bX : Nat) (C : Array Value) (n : Nat) (y : Net) (k9 k10 : Nat) (v9 v10 : Value) (fs : List Bool) (ds : List Int) : Prop where
  b : Blk wr base 33 C
  x : Blk wr bX 71 (stC n y)
  gx : base ≤ bX
  r9 : wr.ownsRow base 4 1 v9 k9 (bls fs)
  r10 : wr.ownsRow base 3 1 v10 k10 (ints ds)
  bel : Below base w wr
section
variable {w wr w' : World} {base bX n k9 k10 : Nat} {C : Array Value} {y : Net} {v9 v10 : Value} {fs : List Bool} {ds : List Int}
theorem WI.quiet (h : WI w wr base bX C n y k9 k10 v9 v10 fs ds) (hs : St (fun _ => False) wr w') (hb : base ≤ wr.heap.size) : WI w w' base bX C n y k9 k10 v9 v10 fs ds :=
  ⟨h.b.st hs (fun e => e), h.x.st hs (fun e => e), h.gx, own_st0 h.r9 hs, own_st0 h.r10 hs, h.bel.trans (hs.below_ hb (fun _ _ e => e))⟩
theorem WI.setx (h : WI w wr base bX C n y k9 k10 v9 v10 fs ds) (hb : base ≤ wr.heap.size) {cells : Array Value} {y' : Net} (hc : cells = stC n y') : WI w (wr.setRow bX cells) base bX C n y' k9 k10 v9 v10 fs ds := by
  have hs : St (fun q => q = bX) wr (wr.setRow bX cells) := (St.refl (fun q => q = bX) wr).setRow h.x not35_71 (fun _ => rfl) cells
  refine ⟨h.b.row_far (Blk.ne_ h.b h.x (by decide)) cells, hc ▸ h.x.row cells, h.gx, own_only h.r9 hs.only (fun g hg e => ?_), own_only h.r10 hs.only (fun g hg e => ?_), h.bel.trans (hs.below_ hb (fun q hq e => ?_))⟩
  · exact own_ne h.r9 h.x (by decide) (by rw [hg, e])
  · exact own_ne h.r10 h.x (by decide) (by rw [hg, e])
  · have := h.gx; omega
theorem WI.push9 (h : WI w wr base bX C n y k9 k10 v9 v10 fs ds) {b : Bool} {u : Value} (ho : w'.ownsRow base 4 1 u (k9 + 1) (bls fs ++ #[Value.bool b].toList)) (hg : (wr.alloc (.cells #[.bool b] 4)).grownBy w' v9.ownBlock) (hb : Below base wr w') :
    WI w w' base bX C n y (k9 + 1) k10 u v10 (fs ++ [b]) ds := by
  have ho' : Only (fun q => v9.ownBlock = some q) (wr.alloc (.cells #[.bool b] 4)) w' := Only.of_grown hg (fun g e _ => e)
  refine ⟨(h.b.alloc _).grown hg (own_ne h.r9 h.b (by decide)), (h.x.alloc _).grown hg (own_ne h.r9 h.x (by decide)), h.gx, by rw [bls_append]; exact ho, ?_, h.bel.trans hb⟩
  exact own_only (h.r10.alloc _) ho' (row_ne h.r9 h.r10 (by decide))
theorem WI.push10 (h : WI w wr base bX C n y k9 k10 v9 v10 fs ds) {b : Int} {u : Value} (ho : w'.ownsRow base 3 1 u (k10 + 1) (ints ds ++ #[Value.int .i64 b].toList)) (hg : (wr.alloc (.cells #[.int .i64 b] 3)).grownBy w' v10.ownBlock) (hb : Below base wr w') :
    WI w w' base bX C n y k9 (k10 + 1) v9 u fs (ds ++ [b]) := by
  have ho' : Only (fun q => v10.ownBlock = some q) (wr.alloc (.cells #[.int .i64 b] 3)) w' := Only.of_grown hg (fun g e _ => e)
  refine ⟨(h.b.alloc _).grown hg (own_ne h.r10 h.b (by decide)), (h.x.alloc _).grown hg (own_ne h.r10 h.x (by decide)), h.gx, ?_, by rw [ints_append]; exact ho, h.bel.trans hb⟩
  exact own_only (h.r9.alloc _) ho' (row_ne h.r10 h.r9 (by decide))
end
def fineL (n : Nat) (ins : Nat → Bool) (most : Int) (l : List El) (k : Nat) : List Bool := (List.range k).map fun j => decide (atR n ins most l j ≠ 0)
def slowL (n : Nat) (ins : Nat → Bool) (most : Int) (l : List El) (k : Nat) : List Int := (List.range k).map (atR n ins most l)
theorem fineL_succ (n : Nat) (ins : Nat → Bool) (most : Int) (l : List El) (k : Nat) : fineL n ins most l (k + 1) = fineL n ins most l k ++ [decide (atR n ins most l k ≠ 0)] := by simp [fineL, List.range_succ]
theorem slowL_succ (n : Nat) (ins : Nat → Bool) (most : Int) (l : List El) (k : Nat) : slowL n ins most l (k + 1) = slowL n ins most l k ++ [atR n ins most l k] := by simp [slowL, List.range_succ]
theorem fineL_at {n : Nat} {ins : Nat → Bool} {most : Int} {l : List El} {k j : Nat} (h : j < k) : (bls (fineL n ins most l k))[j]? = some (.bool (decide (atR n ins most l j ≠ 0))) := by simp [bls, fineL, h]
theorem slowL_at {n : Nat} {ins : Nat → Bool} {most : Int} {l : List El} {k j : Nat} (h : j < k) : (ints (slowL n ins most l k))[j]? = some (.int .i64 (atR n ins most l j)) := by simp [ints, slowL, h]
theorem atR_b (n : Nat) (ins : Nat → Bool) (most : Int) (l : List El) (k : Nat) : 0 ≤ atR n ins most l k ∧ atR n ins most l k ≤ 16 := aloneN_b (Slow.netR n l k) ins most
/-- What Within answers. -/
def withinV (s : Pst) : Value := if s.d = 0 then .tuple #[.int .i64 0, .int .i64 0, .bool false] else .tuple #[.int .i64 s.t, .int .i64 s.d, .bool true]

set_option maxRecDepth 100000 in
set_option maxHeartbeats 4000000 in
theorem rwithin_any (n : Nat) (a1 a2 a3 a4 a5 a6 : Int) (vv : Value) (l : List El) (E Z : Option Addr) (f kz B m : Nat) (set : List Int) (most : Int) (w : World)
    (he : EvsIn w B E l) (hz : RI w B Z m set) (hs : SetOk n set) (hn : n ≤ 16) (hl : l.length ≤ 4000) (hm : m ≤ 140737488351232) (hB : B ≤ w.heap.size) :
    Calls Try.prog 29 #[.agg #[.int .i64 n, .int .i64 a1, .int .i64 a2, .int .i64 a3, .int .i64 a4, .int .i64 a5, .int .i64 a6, vv, .slice E l.length f], .slice Z m kz, .int .i64 most] w
      fun e w' => e = .returned (withinV (runP n (inK set set.length) most l l.length)) ∧ St (fun _ => False) w w' := by
  obtain ⟨q, hq⟩ : ∃ q, q = l.length := ⟨_, rfl⟩
  rw [← hq] at hl ⊢
  have HQ := hide hq
  obtain ⟨zc, hzc⟩ : ∃ zc, zc = stC 0 netz := ⟨_, rfl⟩
  have HZC := hide hzc
  have HBEG := hide (fun (W : World) => begun_any n W hn)
  have HAL := hide (fun (y : Net) (W : World) (hr : RI W B Z m set) (hx : Slow n y) (h : B ≤ W.heap.size) => ralone_any n kz B y Z m set most W hr hm hs hx hn h)
  have HBR := hide (fun (ek ea eb en c1 c2 c3 c4 : Int) (vb k1 k2 k3 vs : Value) (W : World) (hr : RI W B Z m set) (h : B ≤ W.heap.size) => bars_any n kz B ek ea eb en c1 c2 c3 c4 vb k1 k2 k3 vs Z m set W hr hm hs h)
  obtain ⟨i3, hi3, hz3, hs3, hb3⟩ := info_parts info3
  have I3 := hide hi3
  obtain ⟨i4, hi4, hz4, hs4, hb4⟩ := info_parts info4
  have I4 := hide hi4
  clear hzc hi3 hi4 hs
  obtain ⟨base, hbase⟩ : ∃ b, b = w.heap.size := ⟨_, rfl⟩
  have HW0 := hide hbase
  have HBB : Hid (B ≤ base) := by show B ≤ base; omega
  obtain ⟨C, hC⟩ : ∃ C : Array Value, C = #[.int .i64 n, .int .i64 a1, .int .i64 a2, .int .i64 a3, .int .i64 a4, .int .i64 a5, .int .i64 a6, vv, .slice E q f] := ⟨_, rfl⟩
  have H0 : Below base w (w.alloc (.cells C 33)) := (Below.refl base w).alloc (Nat.le_of_eq hbase) _
  have P0 : Blk (w.alloc (.cells C 33)) base 33 C := Blk.new' w 33 C base hbase
  have HE := hide he
  have HZ := hide hz
  rw [← hC]
  have HC := hide hC
  obtain ⟨ins, hins⟩ : ∃ ins, ins = inK set set.length := ⟨_, rfl⟩
  rw [← hins] at HAL HBR ⊢
  have HFIN : Hid (withinV (runP n ins most l q) = if atR n ins most l q = 0 then .tuple #[.int .i64 0, .int .i64 0, .bool false] else .tuple #[.int .i64 ((backR n ins most l q (atR n ins most l q)).1 : Int), .int .i64 (backR n ins most l q (atR n ins most l q)).2, .bool true]) := by
    show _ = _
    rw [hq]
    unfold withinV
    by_cases h : atR n ins most l l.length = 0
    · rw [if_pos h, if_pos (within_no h)]
    · rw [if_neg h, if_neg (within_run h).1]
      have h2 := (within_run h).2
      simp only [Prod.mk.injEq] at h2
      rw [h2.1, h2.2]
  clear he hz hB hbase hC hins hq
  go_enter Try.func29, Try.ntmps29
  go_upto_region 3 with fail
  rw [← HW0.out]
  obtain ⟨w0, hw0⟩ : ∃ w0, w0 = w.alloc (.cells C 33) := ⟨_, rfl⟩
  rw [← hw0] at H0 P0 ⊢
  have hb0 : base ≤ w0.heap.size := by have := H0.size; have := HW0.out; omega
  have HP0 := hide P0
  have HB0 := hide H0
  have c0 : w0.cell? ⟨base, 0, none⟩ = some (.int .i64 n) := by rw [P0.cell, HC.out]; rfl
  obtain ⟨cb, hcb⟩ : ∃ cb, cb = stC n (begunN n) := ⟨_, rfl⟩
  have HON := hide (stC_one n (begunN n))
  have HLD := hide (ld71 cb (by rw [hcb]; exact stC_size _ _))
  have HSZ : Hid (zc.size = cb.size) := by show _ = _; rw [HZC.out, hcb, stC_size, stC_size]
  have HCB := hide hcb
  rw [← hcb] at HON
  clear hw0 H0 P0 hcb
  go_upto_region 4 with (first
    | (go_at_call 36; (with_reducible refine (HBEG.out _).mono ?_); rintro e w1 ⟨rfl, hst⟩; rw [← HCB.out]; have HST := hide hst; clear hst c0)
    | (refine wpList_alloc71 rfl rfl _ rfl zc HZC.out ?_)
    | (refine wpList_store_row rfl 71 (.tmp 11) (.tmp 21) rfl w1.heap.size cb (by rfl) (by rfl) 71 zc (Blk.new w1 71 zc) HLD.out HSZ.out HON.out ?_))
  have hW : Hid (WI w ((w1.alloc (.cells zc 71)).setRow w1.heap.size cb) base w1.heap.size C n (netR n l 0) 0 0 (.slice none 0 0) (.slice none 0 0) (fineL n ins most l 0) (slowL n ins most l 0)) := by
    have h1 := hide HST.out.size
    refine ⟨((HP0.out.st HST.out (fun e => e)).alloc _).row_far ?_ cb, ?_, ?_, World.ownsRow_nil _ _ _ _, World.ownsRow_nil _ _ _ _, ?_⟩
    · have h2 := (HP0.out.st HST.out (fun e => e)).lt
      omega
    · have := (Blk.new w1 71 zc).row cb
      rw [HCB.out] at this ⊢
      exact this
    · have := h1.out
      omega
    · have s1 : St (fun q => base ≤ q) w1 ((w1.alloc (.cells zc 71)).setRow w1.heap.size cb) := ((St.refl _ w1).alloc _).setRow (Blk.new w1 71 zc) not35_71 (fun _ => by have := h1.out; omega) cb
      exact (HB0.out.trans (HST.out.below_ hb0 (fun _ _ e => e))).trans (s1.below_ (by have := h1.out; omega) (fun k hk e => by omega))
  obtain ⟨w2, hw2⟩ : ∃ w2, w2 = (w1.alloc (.cells zc 71)).setRow w1.heap.size cb := ⟨_, rfl⟩
  rw [← hw2] at hW ⊢
  obtain ⟨bX, hbX⟩ : ∃ b, b = w1.heap.size := ⟨_, rfl⟩
  rw [← hbX] at hW ⊢
  clear hw2 hbX HP0 HB0 hb0 HON HLD HSZ HST
  go_wp2_with fail
  go_loopw [9, 10, 12] (fun v9 v10 t wr => ∃ k : Nat, k ≤ q + 1 ∧ t = .int .i64 k ∧ Hid (WI w wr base bX C n (netR n l (k - 1)) k k v9 v10 (fineL n ins most l k) (slowL n ins most l k))) (fun _ _ i _ => q + 1 - (intOf i).toNat)
  case atStart => exact ⟨0, by omega, rfl, hW⟩
  case round =>
    obtain ⟨k, hk, rfl, hI⟩ := hrel
    clear hW
    have hbr : base ≤ wr.heap.size := by have := hI.out.bel.size; have := HW0.out; omega
    have c8 : wr.cell? ⟨base, 8, none⟩ = some (.slice E q f) := by rw [hI.out.b.cell, HC.out]; rfl
    have hst : St (fun _ => False) w wr := St.of_below hI.out.bel (Nat.le_of_eq HW0.out.symm)
    have HEr := hide (HE.out.st hst (fun q e => e.elim))
    have HZr := hide (HZ.out.st hst (fun q e => e.elim))
    clear hst
    by_cases hlt : k ≤ q
    · have ik : (k : Int) ≤ (q : Int) := by omega
      have ik0 : (0 : Int) ≤ (k : Int) := by omega
      go_upto_if 30 with fail
      go_cut [12] (fun t wx => t = .int .i64 k ∧ Hid (WI w wx base bX C n (netR n l k) k k u9 u10 (fineL n ins most l k) (slowL n ins most l k)))
      case first =>
        by_cases hk0 : k = 0
        · subst hk0
          clear c8
          go_wp2_with fail
          go_meet
          exact ⟨rfl, hI⟩
        · obtain ⟨j, rfl⟩ : ∃ j, k = j + 1 := ⟨k - 1, by omega⟩
          have ij0 : (0 : Int) < ((j + 1 : Nat) : Int) := by omega
          have ijq : (j : Int) < (q : Int) := by omega
          have ijz : (0 : Int) ≤ (j : Int) := by omega
          have hsub : (((j + 1 : Nat)) : Int) - 1 = (j : Int) := by omega
          have hwj : IntKind.i64.wrap (j : Int) = (j : Int) := IntWalk.i64_in _ (by constructor <;> omega)
          obtain ⟨x, b, off, hx, rfl, _, hg, e0, e1, e2, e3, e4, e5, e6, e7, e8, e9, e10, e11, e12⟩ := HEr.out.at_ (k := j) (by rw [← HQ.out]; omega)
          unfold El.sides at e12
          obtain ⟨cs, hcs⟩ : ∃ cs, cs = stC n (netR n l j) := ⟨_, rfl⟩
          have hxs : Blk wr bX 71 cs := by rw [hcs]; exact hI.out.x
          have HXS := hide hxs
          have HLD := hide (ld71 cs (by rw [hcs]; exact stC_size _ _))
          obtain ⟨cf, hcf⟩ : ∃ cf, cf = stC n (netR n l (j + 1)) := ⟨_, rfl⟩
          have HLF := hide (ld71 cf (by rw [hcf]; exact stC_size _ _))
          have HON : Hid ((cf.all (·.oneCell')) = true) := by show _ = _; rw [hcf]; exact stC_one _ _
          have HSZ : Hid (cs.size = cf.size) := by show _ = _; rw [hcs, hcf, stC_size, stC_size]
          have HAF : Hid (∀ (W : World), St (fun _ => False) wr W → Calls Try.prog 37 #[.agg cs, .agg #[.int .i64 x.k, .int .i64 x.a, .int .i64 x.b, .int .i64 x.n, x.body, .int .i64 x.c1, .int .i64 x.c2, .int .i64 x.c3, .int .i64 x.c4, .string x.s1, .string x.s2, .string x.s3, .slice x.A x.zs.length x.c]] W fun e w' => e = .returned (.agg cf) ∧ St (fun _ => False) W w') := fun W hW => by
            rw [hcs, hcf, netR_succ hx]
            exact after_any n x.c B (netR n l j) x.k x.a x.b x.n x.c1 x.c2 x.c3 x.c4 x.body (.string x.s1) (.string x.s2) (.string x.s3) x.A x.zs.length x.zs W (hg.1.st hW (fun q e => e.elim)) (by have := hW.size; have := HBB.out; omega) hn hg.2.1
          have HCF := hide hcf
          clear hx hg hcs hcf hxs
          go_upto_region 8 with fail
          refine wp_region_still_tail 7 (by kernel_rfl) (by kernel_rfl) ?_
          simp only [List.take_succ_cons, List.take_zero, List.drop_succ_cons, List.drop_zero]
          refine still_load_row (by rfl) 71 (.tmp 11) rfl bX (by rfl) 71 cs (0, 0) _ HXS.out Try.underlying71 rfl HLD.out ?_
          repeat still_step
          try refine wpStill_nil ?_
          change wpList _ _ _ _ _ wr.drew
          have hdr : St (fun _ => False) wr wr.drew := (St.refl _ wr).drew
          have HCL := hide (HAF.out wr.drew hdr)
          have HXD := hide (HXS.out.st hdr (fun e => e))
          have HID := hide (hI.out.quiet hdr hbr)
          have hbd : base ≤ wr.drew.heap.size := hbr
          clear hdr e0 e1 e2 e3 e4 e5 e6 e7 e8 e9 e10 e11 e12 c8 hI HXS HEr HZr HAF
          generalize wr.drew = wd at *
          go_wp2_with (first
            | (go_at_call 37; (with_reducible refine HCL.out.mono ?_); rintro e wq ⟨rfl, hst⟩; have HX1 := hide (HXD.out.st hst (fun e => e)); have HI1 := hide (HID.out.quiet hst hbd); have hb1 : base ≤ wq.heap.size := (by have := hst.size; omega); clear hst)
            | (refine wpList_store_row rfl 71 (.tmp 11) (.tmp 38) rfl bX cf (by rfl) (by rfl) 71 cs HX1.out HLF.out HSZ.out HON.out ?_))
          go_meet
          exact ⟨rfl, HI1.out.setx hb1 HCF.out⟩
      case rest =>
        obtain ⟨rfl, hI1⟩ := hcut
        obtain ⟨wa, hwa⟩ : ∃ wa, wa = wc := ⟨_, rfl⟩
        rw [← hwa] at hI1 ⊢
        clear hwa hI c8 hbr HEr HZr
        have hba : base ≤ wa.heap.size := by have := hI1.out.bel.size; have := HW0.out; omega
        have HZa : Hid (RI wa B Z m set) := HZ.out.st (S := fun _ => False) (St.of_below hI1.out.bel (Nat.le_of_eq HW0.out.symm)) (fun q e => e.elim)
        have HCA := hide (HAL.out (netR n l k) wa HZa.out (Slow.netR n l k) (by have := HBB.out; omega))
        obtain ⟨cs, hcs⟩ : ∃ cs, cs = stC n (netR n l k) := ⟨_, rfl⟩
        have hxs : Blk wa bX 71 cs := by rw [hcs]; exact hI1.out.x
        rw [← hcs] at HCA
        have HXS := hide hxs
        have HLD := hide (ld71 cs (by rw [hcs]; exact stC_size _ _))
        have HAT : Hid (aloneN n (netR n l k) ins most = atR n ins most l k) := rfl
        rw [HAT.out] at HCA
        have HFS := hide (fineL_succ n ins most l k)
        have HSS := hide (slowL_succ n ins most l k)
        obtain ⟨fv, hfv⟩ : ∃ fv, fv = decide (atR n ins most l k ≠ 0) := ⟨_, rfl⟩
        obtain ⟨dv, hdv⟩ : ∃ dv, dv = atR n ins most l k := ⟨_, rfl⟩
        rw [← hfv, ← hdv] at HCA
        rw [← hfv] at HFS
        rw [← hdv] at HSS
        clear hcs hxs hfv hdv HAT
        go_upto_region 10 with (first
          | (refine wpList_load_row rfl 71 (.tmp 11) rfl bX (by rfl) 71 cs (0, 0) _ HXS.out Try.underlying71 rfl HLD.out ?_)
          | (go_at_call 38; (with_reducible refine HCA.out.mono ?_); rintro e wb ⟨rfl, hst⟩; have HI2 := hide (hI1.out.quiet hst hba); have hbb : base ≤ wb.heap.size := (by have := hst.size; omega); clear hst))
        go_upto_region 11 with (at_builtin; refine wpList_push rfl (.tmp 46) (.tmp 48) _ rfl base 4 i4 _ 1 1 Try.underlying58 I4.out hz4 hs4 hb4 rfl (by omega) u9 k _ rfl HI2.out.r9 1 1 #[.bool fv] rfl rfl (by simp [Value.oneCell']) (by omega) (by unfold maxLen; omega) (by omega) hbb ?_; intro g9 cp9 w9 hown hg hbl _ _ _; have HI3 := hide (HI2.out.push9 hown hg hbl); have hb9 : base ≤ w9.heap.size := (by have := hbl.size; omega); clear hown hg hbl)
        go_wp2_with (at_builtin; refine wpList_push rfl (.tmp 50) (.tmp 52) _ rfl base 3 i3 _ 1 8 Try.underlying22 I3.out hz3 hs3 hb3 rfl (by omega) u10 k _ rfl HI3.out.r10 1 1 #[.int .i64 dv] rfl rfl (by simp [Value.oneCell']) (by omega) (by unfold maxLen; omega) (by omega) hb9 ?_; intro g10 cp10 w10 hown hg hbl _ _ _; have HI4 := hide (HI3.out.push10 hown hg hbl); clear hown hg hbl)
        have HI5 : Hid (WI w w10 base bX C n (netR n l (k + 1 - 1)) (k + 1) (k + 1) (.slice (some ⟨g9, 0, none⟩) (k + 1) cp9) (.slice (some ⟨g10, 0, none⟩) (k + 1) cp10) (fineL n ins most l (k + 1)) (slowL n ins most l (k + 1))) := by
          rw [HFS.out, HSS.out, Nat.add_sub_cancel]
          exact HI4.out
        go_roundw
        case rel => exact ⟨k + 1, by omega, by go_num, HI5⟩
        case measure => simp [intOf]; omega
    · obtain rfl : k = q + 1 := by omega
      have HATB := hide (atR_b n ins most l)
      obtain ⟨w5, hw5⟩ : ∃ w5, w5 = wr := ⟨_, rfl⟩
      rw [← hw5] at hI HEr HZr c8 hbr ⊢
      clear hw5
      obtain ⟨g9, cp9, e9, c9⟩ := own_cell hI.out.r9 (k := q) (Nat.lt_succ_self q) (fineL_at (Nat.lt_succ_self q))
      obtain ⟨g10, cp10, e10, c10⟩ := own_cell hI.out.r10 (k := q) (Nat.lt_succ_self q) (slowL_at (Nat.lt_succ_self q))
      subst e9 e10
      have iq0 : (0 : Int) ≤ (q : Int) := by omega
      have iq1 : (q : Int) < ((q + 1 : Nat) : Int) := by omega
      have hcond : ((q + 1 : Nat) : Int) ≤ (q : Int) ↔ False := ⟨fun h => by omega, False.elim⟩
      by_cases h0 : atR n ins most l q = 0
      · rw [if_pos h0] at HFIN
        rw [h0] at c9 c10
        have hd : (decide ((0 : Int) ≠ 0)) = false := rfl
        rw [hd] at c9
        clear h0 hd
        go_wp2_with fail
        refine bodyPost_ret (results_tmp3 rfl _ _ _) rfl ?_
        exact ⟨by rw [HFIN.out]; rfl, St.of_below hI.out.bel (Nat.le_of_eq HW0.out.symm)⟩
      · rw [if_neg h0] at HFIN
        have hd : decide (atR n ins most l q ≠ 0) = true := decide_eq_true h0
        rw [hd] at c9
        clear h0 hd
        have hab := HATB.out q
        obtain ⟨d0, hd0⟩ : ∃ d0, d0 = atR n ins most l q := ⟨_, rfl⟩
        rw [← hd0] at HFIN c10 hab
        clear hd0
        go_upto_region 16 with fail
        clear c9 c10
        go_loopw [15, 16] (fun t d wr => ∃ (k : Nat) (dv : Int), k ≤ q ∧ t = .int .i64 k ∧ d = .int .i64 dv ∧ 0 ≤ dv ∧ dv ≤ 16 ∧ Hid (backR n ins most l q d0 = backR n ins most l k dv) ∧ Hid (St (fun _ => False) w5 wr)) (fun i _ _ => (intOf i).toNat)
        case atStart => exact ⟨q, d0, Nat.le_refl _, rfl, rfl, hab.1, hab.2, (by show _ = _; rfl), St.refl _ _⟩
        case round =>
          obtain ⟨k, dv, hk2, rfl, rfl, hd1, hd2, hbk, hs5⟩ := hrel
          have hI6 := hide (hI.out.quiet hs5.out hbr)
          cases k with
          | zero =>
            have HB0 : Hid (backR n ins most l 0 dv = (0, dv)) := rfl
            clear c8
            go_wp2_with fail
            refine bodyPost_ret (results_tmp3 rfl _ _ _) rfl ?_
            exact ⟨by rw [HFIN.out, hbk.out, HB0.out]; rfl, (St.of_below hI6.out.bel (Nat.le_of_eq HW0.out.symm))⟩
          | succ j =>
            have ij0 : (0 : Int) < ((j + 1 : Nat) : Int) := by omega
            have ijz : (0 : Int) ≤ (j : Int) := by omega
            have ijq : (j : Int) < (q : Int) := by omega
            have ijq1 : (j : Int) < ((q + 1 : Nat) : Int) := by omega
            have hwj : IntKind.i64.wrap (j : Int) = (j : Int) := IntWalk.i64_in _ (by constructor <;> omega)
            obtain ⟨g9', cp9', e9', c9⟩ := own_cell hI6.out.r9 (k := j) (by omega) (fineL_at (by omega))
            obtain ⟨g10', cp10', e10', c10⟩ := own_cell hI6.out.r10 (k := j) (by omega) (slowL_at (by omega))
            injection e9' with e9'
            injection e9' with e9'
            injection e9' with e9'
            injection e10' with e10'
            injection e10' with e10'
            injection e10' with e10'
            subst e9' e10'
            obtain ⟨x, b, off, hx, rfl, _, hg, e0, e1, e2, e3, e4, e5, e6, e7, e8, e9, e10, e11, e12⟩ := (HEr.out.st hs5.out (fun q e => e.elim)).at_ (k := j) (by rw [← HQ.out]; omega)
            unfold El.sides at e12
            have HBA : Hid (backR n ins most l (j + 1) dv = if atR n ins most l j ≠ 0 ∧ touchN n ins x.k x.a = false then backR n ins most l j (max dv (atR n ins most l j)) else (j + 1, dv)) := by
              show _ = _
              rw [backR]
              have : barAt n ins l j = touchN n ins x.k x.a := by unfold barAt; rw [hx]
              rw [this]
            have hb := HATB.out j
            have HCB2 := hide (fun (W : World) (hW : St (fun _ => False) w5 W) => HBR.out x.k x.a x.b x.n x.c1 x.c2 x.c3 x.c4 x.body (.string x.s1) (.string x.s2) (.string x.s3) (.slice x.A x.zs.length x.c) W (HZr.out.st hW (fun q e => e.elim)) (by have := hW.size; have := HBB.out; omega))
            have c8' : wr.cell? ⟨base, 8, none⟩ = some (.slice (some ⟨b, off, none⟩) q f) := by rw [hI6.out.b.cell, HC.out]; rfl
            clear hx hg c8
            obtain ⟨aj, haj⟩ : ∃ aj, aj = atR n ins most l j := ⟨_, rfl⟩
            rw [← haj] at HBA hb c10 c9
            clear haj
            by_cases haz : aj = 0
            · have hfz : decide (aj ≠ 0) = false := decide_eq_false (by simpa using haz)
              rw [hfz] at c9
              have HBZ : Hid (backR n ins most l (j + 1) dv = (j + 1, dv)) := by
                show _ = _
                rw [HBA.out, if_neg (fun h => h.1 haz)]
              clear hfz HBA HCB2
              go_wp2_with fail
              refine bodyPost_ret (results_tmp3 rfl _ _ _) rfl ?_
              exact ⟨by rw [HFIN.out, hbk.out, HBZ.out]; rfl, (St.of_below hI6.out.bel (Nat.le_of_eq HW0.out.symm))⟩
            · have hfz : decide (aj ≠ 0) = true := decide_eq_true haz
              rw [hfz] at c9
              have HCW := hide (HCB2.out wr hs5.out)
              obtain ⟨tb, htb⟩ : ∃ tb, tb = touchN n ins x.k x.a := ⟨_, rfl⟩
              rw [← htb] at HBA HCW
              clear htb hfz HCB2
              cases tb with
              | true =>
                have HBZ : Hid (backR n ins most l (j + 1) dv = (j + 1, dv)) := by
                  show _ = _
                  rw [HBA.out, if_neg (fun h => by cases h.2)]
                clear HBA
                go_wp2_with (first
                  | (go_at_call 39; (with_reducible refine HCW.out.mono ?_); rintro e wq ⟨rfl, hst⟩; have HSq := hide (hs5.out.trans hst); clear hst c8' c9 c10 e0 e1 e2 e3 e4 e5 e6 e7 e8 e9 e10 e11 e12))
                refine bodyPost_ret (results_tmp3 rfl _ _ _) rfl ?_
                exact ⟨by rw [HFIN.out, hbk.out, HBZ.out]; rfl, (St.of_below (hI.out.quiet HSq.out hbr).bel (Nat.le_of_eq HW0.out.symm))⟩
              | false =>
                have HBZ : Hid (backR n ins most l (j + 1) dv = backR n ins most l j (max dv aj)) := by
                  show _ = _
                  rw [HBA.out, if_pos ⟨haz, rfl⟩]
                clear HBA haz
                go_wp2_with (first
                  | (go_at_call 39; (with_reducible refine HCW.out.mono ?_); rintro e wq ⟨rfl, hst⟩; have HSq := hide (hs5.out.trans hst); have c10' := hst.only.cell c10 (fun e => e); clear hst c8' c9 c10 e0 e1 e2 e3 e4 e5 e6 e7 e8 e9 e10 e11 e12))
                all_goals go_roundw
                all_goals first
                  | (refine ⟨j, Nat.le_of_succ_le hk2, rfl, ?_⟩; show _ = _; rw [hbk.out, HBZ.out]; congr 1; omega)
                  | (simp only [intOf]; omega)
end Go.Proofs.Ytkcjfiifajjpiaa
