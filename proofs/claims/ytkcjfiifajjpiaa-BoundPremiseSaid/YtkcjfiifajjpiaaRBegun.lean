/-
  Contract of the reference's begun: the State at place 0.
-/
import Derived.Test.YtkcjfiifajjpiaaRState
set_option linter.unusedVariables false
set_option linter.unusedSimpArgs false
namespace Go.Proofs.Ytkcjfiifajjpiaa
open Go.RowKit Go.WideShapes Go.ChangeShapes Q

def netz : Net := ⟨fun _ => false, fun _ => false, fun _ _ => false, fun _ _ => 0⟩
set_option maxRecDepth 100000 in
theorem info71_ : (Try.prog.info? 71).map (fun i => (i.zero.map (fun z => z.cells), i.size)) = some (some (stC 0 netz), 545) := by kernel_rfl
set_option maxRecDepth 100000 in
theorem built71 (n : Nat) : Try.prog.built 71 [(0, .int .i64 n)] = some (stC n netz) := by kernel_rfl
theorem Blk.row {w : World} {g : Nat} {t : TypeId} {old : Array Value} (h : Blk w g t old) (cells : Array Value) : Blk (w.setRow g cells) g t cells := setRow_heap w g old cells t (0, 0) h
theorem St.setRow {S : Nat → Prop} {w w1 : World} (h : St S w w1) {g : Nat} {t : TypeId} {cs : Array Value} (hb : Blk w1 g t cs) (ht : ¬ Num35 t) (hg : g < w.heap.size → S g) (cells : Array Value) : St S w (w1.setRow g cells) := by
  refine ⟨⟨h.only.os, h.only.tape, h.only.output, by rw [size_setRow]; exact h.only.size, fun k hk hn => ?_⟩, fun k t' cs' ht' hk => ?_⟩
  · rw [setRow_other w1 g k cells (fun e => hn (by subst e; exact hg hk))]
    exact h.only.block k hk hn
  · have hk1 := h.byt k t' cs' ht' hk
    have hne : g ≠ k := Blk.ne_ hb hk1 (fun e => ht (e ▸ ht'))
    unfold Blk at hk1 ⊢
    rw [setRow_other w1 g k cells (fun e => hne e.symm)]
    exact hk1
theorem Blk.row_far {w : World} {k g : Nat} {t : TypeId} {cs : Array Value} (h : Blk w k t cs) (hne : k ≠ g) (cells : Array Value) : Blk (w.setRow g cells) k t cs := by
  unfold Blk at h ⊢
  rw [setRow_other w g k cells hne]
  exact h
theorem info71 : ∃ (i : TypeInfo) (z : Value), Try.prog.info? 71 = some i ∧ i.zero = some z ∧ z.cells = stC 0 netz ∧ i.size = 545 := by
  have h := info71_
  cases hi : Try.prog.info? 71 with
  | none => rw [hi] at h; simp at h
  | some i =>
    rw [hi] at h
    simp only [Option.map_some, Option.some.injEq, Prod.mk.injEq] at h
    obtain ⟨h1, h2⟩ := h
    cases hz : i.zero with
    | none => rw [hz] at h1; simp at h1
    | some z =>
      rw [hz] at h1
      simp only [Option.map_some, Option.some.injEq] at h1
      exact ⟨i, z, rfl, hz, h1, h2⟩
set_option maxRecDepth 100000 in
theorem wpList_alloc71 {ops : Array Oper} {rest : List Oper} {o : Oper} {a : Act} {w : World} {Q : Exit → Act → World → Prop} (hg : o.guard = none) (ho : o.op = .alloc 71) (N : Nat) (hN : w.heap.size = N) (zc : Array Value) (hz : zc = stC 0 netz)
    (h : wpList Try.prog ops Q rest (a.put o.dst (.pointer (some ⟨N, 0, none⟩))) (w.alloc (.cells zc 71))) : wpList Try.prog ops Q (o :: rest) a w := by
  subst hN hz
  obtain ⟨i, z, h1, h2, h3, _⟩ := info71
  refine wpList_plain hg fun K hK => ?_
  unfold Oper.wp execOp
  simp only [ho, Sem.run_bind, Instr.alloc, newVar, newRow, typeInfo, h1, h2, h3, run_newObj_alloc, Sem.run_pure, Result.andThen_ok]
  exact hK _ _ h

/-- The State at 0 while it is made: k nodes are up, k rows of delays and j of row k are laid. -/
def bgN (n u k j : Nat) : Net := ⟨fun p => decide (p < u), fun _ => false, fun _ _ => false, fun p q => if (p < k ∧ q < n) ∨ (p = k ∧ q < j) then 1 else 0⟩
theorem net_ext {x y : Net} (h1 : x.up = y.up) (h2 : x.left = y.left) (h3 : x.cut = y.cut) (h4 : x.dly = y.dly) : x = y := by
  cases x; cases y
  simp only at h1 h2 h3 h4
  subst h1 h2 h3 h4
  rfl
theorem bgN_zero (n : Nat) : bgN n 0 0 0 = netz := by
  refine net_ext ?_ rfl rfl ?_
  · funext p; simp [bgN, netz]
  · funext p q; simp [bgN, netz]
theorem bgN_up (n k : Nat) : { bgN n k k 0 with up := up1 (bgN n k k 0).up k true } = bgN n (k + 1) k 0 := by
  refine net_ext ?_ rfl rfl rfl
  funext p
  simp only [up1, bgN]
  by_cases h : p = k
  · subst h; simp
  · rw [if_neg h]
    have : (p < k) ↔ (p < k + 1) := by omega
    simp [this]
theorem bgN_one (n u k j : Nat) : { bgN n u k j with dly := up2 (bgN n u k j).dly k j 1 } = bgN n u k (j + 1) := by
  refine net_ext rfl rfl rfl ?_
  funext p q
  simp only [up2, bgN]
  by_cases h : p = k ∧ q = j
  · rw [if_pos h, if_pos (.inr ⟨h.1, by omega⟩)]
  · rw [if_neg h]
    have : ((p < k ∧ q < n) ∨ (p = k ∧ q < j)) ↔ ((p < k ∧ q < n) ∨ (p = k ∧ q < j + 1)) := by omega
    simp only [this]
theorem bgN_row (n u k : Nat) : bgN n u k n = bgN n u (k + 1) 0 := by
  refine net_ext rfl rfl rfl ?_
  funext p q
  simp only [bgN]
  have : ((p < k ∧ q < n) ∨ (p = k ∧ q < n)) ↔ ((p < k + 1 ∧ q < n) ∨ (p = k + 1 ∧ q < 0)) := by omega
  simp only [this]
/-- The State at 0. -/
def begunN (n : Nat) : Net := bgN n n n 0

theorem wpList_built {P : Program} {ops : Array Oper} {rest : List Oper} {o : Oper} {a : Act} {w : World} {Q : Exit → Act → World → Prop} (hg : o.guard = none) (t : TypeId) (i : Nat) (x : Operand) (ho : o.op = .build t #[(i, x)]) (v : Value) (hx : a.eval x = v) (cells : Array Value)
    (hc : P.built t [(i, v)] = some cells)
    (h : wpList P ops Q rest (a.put o.dst (.agg cells)) w) : wpList P ops Q (o :: rest) a w := by
  have e : ((#[(i, x)] : Array (Nat × Operand)).map fun (i, x) => (i, a.eval x)).toList = [(i, v)] := by simp [hx]
  refine wpList_build hg t #[(i, x)] ho (by rw [e, hc]; rfl) ?_
  rw [e, hc]
  exact h

set_option maxRecDepth 100000 in
set_option maxHeartbeats 1000000 in
theorem begun_any (n : Nat) (w : World) (hn : n ≤ 16) :
    Calls Try.prog 36 #[.int .i64 n] w fun e w' => e = .returned (.agg (stC n (begunN n))) ∧ St (fun _ => False) w w' := by
  obtain ⟨zc, hzc⟩ : ∃ zc, zc = stC 0 netz := ⟨_, rfl⟩
  obtain ⟨cn, hcn⟩ : ∃ cn, cn = stC n netz := ⟨_, rfl⟩
  have HON := hide (stC_one n netz)
  have HI := hide (ld71 cn (by rw [hcn]; exact stC_size _ _))
  have HSZ : Hid (zc.size = cn.size) := by show _ = _; rw [hzc, hcn, stC_size, stC_size]
  rw [← hcn] at HON
  have HZC := hide hzc
  have HCN := hide hcn
  clear hzc hcn
  have HB1 := hide (Blk.new' (w.alloc (.cells zc 71)) 71 zc (w.heap.size + 1) (by simp))
  have HB0 := hide ((Blk.new w 71 zc).alloc (.cells zc 71))
  have HS0 : Hid (St (fun _ => False) w ((w.alloc (.cells zc 71)).alloc (.cells zc 71))) := ((St.refl _ w).alloc _).alloc _
  go_enter Try.func36, Try.ntmps36
  go_upto_region 2 with (first
    | (refine wpList_alloc71 rfl rfl w.heap.size rfl zc HZC.out ?_)
    | (refine wpList_alloc71 rfl rfl (w.heap.size + 1) (by simp) zc HZC.out ?_)
    | (refine wpList_built rfl 71 0 (.tmp 6) rfl (.int .i64 n) (by rfl) cn (by rw [HCN.out]; exact built71 n) ?_)
    | (refine wpList_store_row rfl 71 (.tmp 3) (.tmp 7) rfl (w.heap.size + 1) cn (by rfl) (by rfl) 71 zc HB1.out HI.out HSZ.out HON.out ?_))
  have hb3 := HB1.out.row cn
  have hb2 := HB0.out.row_far (g := w.heap.size + 1) (by omega) cn
  have hs0 := HS0.out.setRow HB1.out not35_71 (fun h => by omega) cn
  obtain ⟨b3, hb3e⟩ : ∃ b3, b3 = w.heap.size + 1 := ⟨_, rfl⟩
  obtain ⟨b2, hb2e⟩ : ∃ b2, b2 = w.heap.size := ⟨_, rfl⟩
  obtain ⟨w0, hw0⟩ : ∃ w0, w0 = (((w.alloc (Obj.cells zc 71)).alloc (Obj.cells zc 71)).setRow (w.heap.size + 1) cn) := ⟨_, rfl⟩
  rw [← hw0] at hb3 hb2 hs0 ⊢
  rw [← hb3e] at hb3 ⊢
  rw [← hb2e] at hb2 ⊢
  have HE3 := hide hb3e
  have HE2 := hide hb2e
  have hst : Hid (St (fun q => b2 ≤ q) w w0) := hs0.mono (fun _ _ e => e.elim)
  have hc0 : Hid (Blk w0 b3 71 (stC n (bgN n 0 0 0))) := by rw [bgN_zero, ← HCN.out]; exact hb3
  have hc2 : Hid (Blk w0 b2 71 zc) := hb2
  clear hw0 hb3e hb2e hb3 hb2 hs0 HB1 HB0 HS0 HON HI HSZ
  go_wp2_with fail
  go_loopw [4] (fun i wr => ∃ k : Nat, k ≤ n ∧ i = .int .i64 k ∧ Hid (Blk wr b3 71 (stC n (bgN n k k 0))) ∧ Hid (Blk wr b2 71 zc) ∧ Hid (St (fun q => b2 ≤ q) w wr)) (fun i _ => n - (intOf i).toNat)
  case atStart => exact ⟨0, Nat.zero_le _, rfl, hc0, hc2, hst⟩
  case round =>
    obtain ⟨k, hk, rfl, h3, h2, hs⟩ := hrel
    clear hc0 hc2 hst
    by_cases hlt : k < n
    · have ik : (k : Int) < (n : Int) := by omega
      have ik0 : (0 : Int) ≤ (k : Int) := by omega
      have ik16 : (k : Int) < 16 := by omega
      have k16 : k < 16 := by omega
      have c1 := st_up h3.out k16
      have f1 := h3.out.frozen (1 + k)
      go_upto_region 6 with fail
      have h3' := set_up h3.out k16 true
      rw [bgN_up] at h3'
      have hne : b2 ≠ b3 := by have := HE3.out; have := HE2.out; omega
      have h2' := h2.out.far (p := ⟨b3, 1 + k, none⟩) hne (.bool true)
      have hs' := hs.out.setCell (i := 1 + k) h3.out not35_71 (fun h => by have := HE3.out; omega) (.bool true)
      obtain ⟨w1, hw1⟩ : ∃ w1, w1 = wr.setCell ⟨b3, 1 + k, none⟩ (.bool true) := ⟨_, rfl⟩
      rw [← hw1] at h3' h2' hs' ⊢
      have H3 := hide h3'
      have H2 := hide h2'
      have HS := hide hs'
      clear hw1 h3' h2' hs' c1 f1 h3 h2 hs
      go_wp2_with fail
      go_loopw [5] (fun i wr => ∃ j : Nat, j ≤ n ∧ i = .int .i64 j ∧ Hid (Blk wr b3 71 (stC n (bgN n (k + 1) k j))) ∧ Hid (Blk wr b2 71 zc) ∧ Hid (St (fun q => b2 ≤ q) w wr)) (fun i _ => n - (intOf i).toNat)
      case atStart => exact ⟨0, Nat.zero_le _, rfl, H3, H2, HS⟩
      case round =>
        obtain ⟨j, hj, rfl, h3, h2, hs⟩ := hrel
        clear H3 H2 HS
        by_cases hlt2 : j < n
        · have ij : (j : Int) < (n : Int) := by omega
          have ij0 : (0 : Int) ≤ (j : Int) := by omega
          have ij16 : (j : Int) < 16 := by omega
          have j16 : j < 16 := by omega
          have c1 := st_dly h3.out k16 j16
          have f1 := h3.out.frozen (289 + k * 16 + j)
          go_wp2_with fail
          have h3' := set_dly h3.out k16 j16 1
          rw [bgN_one] at h3'
          have h2' := h2.out.far (p := ⟨b3, 289 + k * 16 + j, none⟩) hne (.int .i64 1)
          have hs' := hs.out.setCell (i := 289 + k * 16 + j) h3.out not35_71 (fun h => by have := HE3.out; omega) (.int .i64 1)
          have H3 := hide h3'
          have H2 := hide h2'
          have HS := hide hs'
          clear h3' h2' hs' c1 f1
          go_roundw
          case rel => exact ⟨j + 1, by omega, by go_num, H3, H2, HS⟩
          case measure => simp [intOf]; omega
        · obtain rfl : j = n := by omega
          go_wp2
          have H3' : Hid (Blk wr b3 71 (stC j (bgN j (k + 1) (k + 1) 0))) := by
            show Blk _ _ _ _
            rw [← bgN_row]
            exact h3.out
          go_roundw
          case rel => exact ⟨k + 1, by omega, by go_num, H3', h2, hs⟩
          case measure => simp [intOf]; omega
    · obtain rfl : k = n := by omega
      have HLD := hide (ld71 (stC k (bgN k k k 0)) (stC_size _ _))
      have HON := hide (stC_one k (bgN k k k 0))
      have HSZ : Hid (zc.size = (stC k (bgN k k k 0)).size) := by show _ = _; rw [HZC.out, stC_size, stC_size]
      obtain ⟨cf, hcf⟩ : ∃ cf, cf = stC k (bgN k k k 0) := ⟨_, rfl⟩
      rw [← hcf] at HLD HON HSZ h3
      have HCF := hide hcf
      clear hcf
      go_wp2_with (first
        | (refine wpList_load_row rfl 71 (.tmp 3) rfl b3 (by rfl) 71 cf (0, 0) _ h3.out Try.underlying71 rfl HLD.out ?_)
        | (refine wpList_store_row rfl 71 (.tmp 2) (.tmp 26) rfl b2 cf (by rfl) (by rfl) 71 zc h2.out HLD.out HSZ.out HON.out ?_))
      refine bodyPost_ret (results_cell_row rfl _ _ b2 71 _ (0, 0) _ rfl (h2.out.row cf) Try.underlying71 rfl HLD.out) rfl ?_
      refine ⟨by rw [HCF.out]; rfl, (hs.out.setRow h2.out not35_71 (fun _ => Nat.le_refl _) cf).mono fun q hq h => by have h1 : b2 ≤ q := h; have := HE2.out; omega⟩
end Go.Proofs.Ytkcjfiifajjpiaa
