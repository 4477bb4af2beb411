/-
  The reference's State in memory (545 cells), and contracts of node, path and in.
-/
import Derived.Test.YtkcjfiifajjpiaaMore
import Derived.Test.YtkcjfiifajjpiaaPlainS
set_option linter.unusedVariables false
set_option linter.unusedSimpArgs false
namespace Go.Proofs.Ytkcjfiifajjpiaa
open Go.RowKit Go.WideShapes Go.ChangeShapes Q

/-- The cells of a State: N, Up, Left, Shut, Slow. -/
def stF (n : Nat) (y : Net) : Nat → Value := fun i =>
  if i = 0 then .int .i64 n else if i < 17 then .bool (y.up (i - 1)) else if i < 33 then .bool (y.left (i - 17)) else if i < 289 then .bool (y.cut ((i - 33) / 16) ((i - 33) % 16)) else .int .i64 (y.dly ((i - 289) / 16) ((i - 289) % 16))
def stC (n : Nat) (y : Net) : Array Value := tab 545 (stF n y)
theorem stC_size (n : Nat) (y : Net) : (stC n y).size = 545 := tab_size _ _
theorem stC_one (n : Nat) (y : Net) : (stC n y).all (·.oneCell') = true := by
  rw [Array.all_eq_true]
  intro i hi
  rw [stC_size] at hi
  have := tab_get 545 (stF n y) i hi
  have h2 : (stC n y)[i]'(by rw [stC_size]; exact hi) = stF n y i := by
    have h3 : (stC n y)[i]? = some (stF n y i) := this
    rw [Array.getElem?_eq_getElem (by rw [stC_size]; exact hi)] at h3
    exact Option.some.inj h3
  rw [h2]
  unfold stF
  repeat' split
  all_goals rfl
section
variable {w : World} {b n : Nat} {y : Net}
theorem st_n (h : Blk w b 71 (stC n y)) : w.cell? ⟨b, 0, none⟩ = some (.int .i64 n) := (h.cell 0).trans (tab_get 545 (stF n y) 0 (by omega))
theorem st_up (h : Blk w b 71 (stC n y)) {p : Nat} (hp : p < 16) : w.cell? ⟨b, 1 + p, none⟩ = some (.bool (y.up p)) := by
  rw [h.cell]
  show (tab 545 (stF n y))[1 + p]? = _
  rw [tab_get _ _ _ (by omega)]
  unfold stF
  rw [if_neg (by omega), if_pos (by omega), show 1 + p - 1 = p by omega]
theorem st_left (h : Blk w b 71 (stC n y)) {p : Nat} (hp : p < 16) : w.cell? ⟨b, 17 + p, none⟩ = some (.bool (y.left p)) := by
  rw [h.cell]
  show (tab 545 (stF n y))[17 + p]? = _
  rw [tab_get _ _ _ (by omega)]
  unfold stF
  rw [if_neg (by omega), if_neg (by omega), if_pos (by omega), show 17 + p - 17 = p by omega]
theorem st_cut (h : Blk w b 71 (stC n y)) {p q : Nat} (hp : p < 16) (hq : q < 16) : w.cell? ⟨b, 33 + p * 16 + q, none⟩ = some (.bool (y.cut p q)) := by
  rw [h.cell]
  show (tab 545 (stF n y))[33 + p * 16 + q]? = _
  rw [tab_get _ _ _ (by omega)]
  unfold stF
  rw [if_neg (by omega), if_neg (by omega), if_neg (by omega), if_pos (by omega), show (33 + p * 16 + q - 33) / 16 = p by omega, show (33 + p * 16 + q - 33) % 16 = q by omega]
theorem st_dly (h : Blk w b 71 (stC n y)) {p q : Nat} (hp : p < 16) (hq : q < 16) : w.cell? ⟨b, 289 + p * 16 + q, none⟩ = some (.int .i64 (y.dly p q)) := by
  rw [h.cell]
  show (tab 545 (stF n y))[289 + p * 16 + q]? = _
  rw [tab_get _ _ _ (by omega)]
  unfold stF
  rw [if_neg (by omega), if_neg (by omega), if_neg (by omega), if_neg (by omega), show (289 + p * 16 + q - 289) / 16 = p by omega, show (289 + p * 16 + q - 289) % 16 = q by omega]
theorem set_up (h : Blk w b 71 (stC n y)) {p : Nat} (hp : p < 16) (v : Bool) : Blk (w.setCell ⟨b, 1 + p, none⟩ (.bool v)) b 71 (stC n { y with up := up1 y.up p v }) := by
  have := h.set_ (1 + p) (.bool v)
  have e : (stC n y).setIfInBounds (1 + p) (.bool v) = stC n { y with up := up1 y.up p v } := by
    unfold stC
    rw [tab_set]
    refine tab_congr fun i hi => ?_
    unfold stF up1
    by_cases e : i = 1 + p
    · subst e; rw [if_pos rfl, if_neg (by omega), if_pos (by omega)]; simp only []; rw [if_pos (by omega)]
    · rw [if_neg e]
      by_cases e0 : i = 0
      · rw [if_pos e0, if_pos e0]
      · rw [if_neg e0, if_neg e0]
        by_cases e1 : i < 17
        · rw [if_pos e1, if_pos e1]
          simp only []
          rw [if_neg (by omega)]
        · rw [if_neg e1, if_neg e1]
  rw [e] at this
  exact this
theorem set_left (h : Blk w b 71 (stC n y)) {p : Nat} (hp : p < 16) (v : Bool) : Blk (w.setCell ⟨b, 17 + p, none⟩ (.bool v)) b 71 (stC n { y with left := up1 y.left p v }) := by
  have := h.set_ (17 + p) (.bool v)
  have e : (stC n y).setIfInBounds (17 + p) (.bool v) = stC n { y with left := up1 y.left p v } := by
    unfold stC
    rw [tab_set]
    refine tab_congr fun i hi => ?_
    unfold stF up1
    by_cases e : i = 17 + p
    · subst e; rw [if_pos rfl, if_neg (by omega), if_neg (by omega), if_pos (by omega)]; simp only []; rw [if_pos (by omega)]
    · rw [if_neg e]
      by_cases e0 : i = 0
      · rw [if_pos e0, if_pos e0]
      · rw [if_neg e0, if_neg e0]
        by_cases e1 : i < 17
        · rw [if_pos e1, if_pos e1]
        · rw [if_neg e1, if_neg e1]
          by_cases e2 : i < 33
          · rw [if_pos e2, if_pos e2]
            simp only []
            rw [if_neg (by omega)]
          · rw [if_neg e2, if_neg e2]
  rw [e] at this
  exact this
theorem set_cut (h : Blk w b 71 (stC n y)) {p q : Nat} (hp : p < 16) (hq : q < 16) (v : Bool) : Blk (w.setCell ⟨b, 33 + p * 16 + q, none⟩ (.bool v)) b 71 (stC n { y with cut := up2 y.cut p q v }) := by
  have := h.set_ (33 + p * 16 + q) (.bool v)
  have e : (stC n y).setIfInBounds (33 + p * 16 + q) (.bool v) = stC n { y with cut := up2 y.cut p q v } := by
    unfold stC
    rw [tab_set]
    refine tab_congr fun i hi => ?_
    unfold stF up2
    by_cases e : i = 33 + p * 16 + q
    · subst e; rw [if_pos rfl, if_neg (by omega), if_neg (by omega), if_neg (by omega), if_pos (by omega)]; simp only []; rw [if_pos (by omega)]
    · rw [if_neg e]
      by_cases e0 : i = 0
      · rw [if_pos e0, if_pos e0]
      · rw [if_neg e0, if_neg e0]
        by_cases e1 : i < 17
        · rw [if_pos e1, if_pos e1]
        · rw [if_neg e1, if_neg e1]
          by_cases e2 : i < 33
          · rw [if_pos e2, if_pos e2]
          · rw [if_neg e2, if_neg e2]
            by_cases e3 : i < 289
            · rw [if_pos e3, if_pos e3]
              simp only []
              rw [if_neg (by omega)]
            · rw [if_neg e3, if_neg e3]
  rw [e] at this
  exact this
theorem set_dly (h : Blk w b 71 (stC n y)) {p q : Nat} (hp : p < 16) (hq : q < 16) (v : Int) : Blk (w.setCell ⟨b, 289 + p * 16 + q, none⟩ (.int .i64 v)) b 71 (stC n { y with dly := up2 y.dly p q v }) := by
  have := h.set_ (289 + p * 16 + q) (.int .i64 v)
  have e : (stC n y).setIfInBounds (289 + p * 16 + q) (.int .i64 v) = stC n { y with dly := up2 y.dly p q v } := by
    unfold stC
    rw [tab_set]
    refine tab_congr fun i hi => ?_
    unfold stF up2
    by_cases e : i = 289 + p * 16 + q
    · subst e; rw [if_pos rfl, if_neg (by omega), if_neg (by omega), if_neg (by omega), if_neg (by omega)]; simp only []; rw [if_pos (by omega)]
    · rw [if_neg e]
      by_cases e0 : i = 0
      · rw [if_pos e0, if_pos e0]
      · rw [if_neg e0, if_neg e0]
        by_cases e1 : i < 17
        · rw [if_pos e1, if_pos e1]
        · rw [if_neg e1, if_neg e1]
          by_cases e2 : i < 33
          · rw [if_pos e2, if_pos e2]
          · rw [if_neg e2, if_neg e2]
            by_cases e3 : i < 289
            · rw [if_pos e3, if_pos e3]
            · rw [if_neg e3, if_neg e3]
              simp only []
              rw [if_neg (by omega)]
  rw [e] at this
  exact this
end
theorem not35_71 : ¬ Num35 71 := by rintro (h | h) <;> cases h

set_option maxRecDepth 100000 in
theorem node_any (n : Nat) (y : Net) (a : Int) (w : World) (hn : n ≤ 16) :
    Calls Try.prog 43 #[.agg (stC n y), .int .i64 a] w fun e w' => e = .returned (.bool (isNode n a)) ∧ St (fun _ => False) w w' := by
  obtain ⟨cs, hcs⟩ : ∃ cs, cs = stC n y := ⟨_, rfl⟩
  have H0 : St (fun _ => False) w (w.alloc (.cells cs 71)) := (St.refl _ w).alloc _
  have P1 := Blk.new w 71 cs
  have z0 : (w.alloc (.cells cs 71)).cell? ⟨w.heap.size, 0, none⟩ = some (.int .i64 n) := st_n (by rw [← hcs]; exact P1)
  rw [← hcs]
  clear hcs
  have HS := hide H0
  clear P1 H0
  by_cases h1 : 0 ≤ a
  · by_cases h2 : a < n
    · have HN : Hid (isNode n a = true) := by show _ = _; unfold isNode; simp [h1, h2]
      go_enter Try.func43, Try.ntmps43
      go_wp2_with fail
      go_ret
      exact ⟨by rw [HN.out]; rfl, HS.out⟩
    · have HN : Hid (isNode n a = false) := by show _ = _; unfold isNode; simp [h2]
      have h2' : (n : Int) ≤ a := by omega
      go_enter Try.func43, Try.ntmps43
      go_wp2_with fail
      go_ret
      exact ⟨by rw [HN.out]; rfl, HS.out⟩
  · have HN : Hid (isNode n a = false) := by show _ = _; unfold isNode; simp [h1]
    have h1' : a < 0 := by omega
    go_enter Try.func43, Try.ntmps43
    go_wp2_with fail
    go_ret
    exact ⟨by rw [HN.out]; rfl, HS.out⟩

theorem isPath_of {n : Nat} {a b : Int} : isPath n a b ↔ (isNode n a = true ∧ isNode n b = true ∧ a ≠ b) := by
  unfold isPath isNode
  simp
  omega

theorem wpList_load_g {P : Program} {ops : Array Oper} {rest : List Oper} {o : Oper} {a : Act} {w : World} {Q : Exit → Act → World → Prop} (hw : Region.wanted o (yielded ops a.tmps) = true) (ty : TypeId) (x : Operand) (ho : o.op = .load ty x)
    (g : Nat) (hx : a.eval x = .pointer (some ⟨g, 0, none⟩)) (t : TypeId) (cs : Array Value) (fr : Nat × Nat) (d : TypeDesc) (hg : w.heap[g]? = some (.cells cs t fr))
    (hu : P.underlying ty = some d) (hd : (match d with | .struct _ | .array _ _ => true | _ => false) = true) (hi : (P.info? ty).map (·.size) = some cs.size)
    (h : wpList P ops Q rest (a.put o.dst (.agg cs)) w) : wpList P ops Q (o :: rest) a w :=
  wpList_step fun K hK => by rw [if_pos hw]; exact wp_load_row ty x ho g hx t cs fr d hg hu hd hi (hK _ _ h)
theorem ld71 (cs : Array Value) (h : cs.size = 545) : (Try.prog.info? 71).map (·.size) = some cs.size := by rw [h]; kernel_rfl

set_option maxRecDepth 100000 in
set_option maxHeartbeats 1000000 in
theorem path_any (n : Nat) (y : Net) (a b : Int) (w : World) (hn : n ≤ 16) :
    Calls Try.prog 42 #[.agg (stC n y), .int .i64 a, .int .i64 b] w fun e w' => e = .returned (.bool (isNode n a && isNode n b && (a != b))) ∧ St (fun _ => False) w w' := by
  have HND : ∀ (v : Int) (W : World), Hid (Calls Try.prog 43 #[.agg (stC n y), .int .i64 v] W fun e w' => e = .returned (.bool (isNode n v)) ∧ St (fun _ => False) W w') := fun v W => node_any n y v W hn
  have hsz := stC_size n y
  obtain ⟨cs, hcs⟩ : ∃ cs, cs = stC n y := ⟨_, rfl⟩
  rw [← hcs] at hsz HND
  have H0 : St (fun _ => False) w (w.alloc (.cells cs 71)) := (St.refl _ w).alloc _
  have P1 := Blk.new w 71 cs
  rw [← hcs]
  clear hcs
  have HS := hide H0
  have HP := hide P1
  have HLD := hide (ld71 cs hsz)
  clear P1 H0 hsz
  cases hA : isNode n a with
  | false =>
    go_enter Try.func42, Try.ntmps42
    go_wp2_with (first
      | (refine wpList_load_row rfl 71 _ rfl w.heap.size rfl 71 cs (0, 0) _ HP.out Try.underlying71 rfl HLD.out ?_)
      | (go_at_call 43; (with_reducible refine (HND a _).out.mono ?_); rintro e w1 ⟨rfl, hst⟩; rw [hA]; have HS1 := hide (HS.out.trans hst); clear hst))
    go_ret
    exact ⟨rfl, HS1.out⟩
  | true =>
    cases hB : isNode n b with
    | false =>
      go_enter Try.func42, Try.ntmps42
      go_wp2_with (first
        | (refine wpList_load_row rfl 71 _ rfl w.heap.size rfl 71 cs (0, 0) _ HP.out Try.underlying71 rfl HLD.out ?_)
        | (refine wpList_load_g (by rfl) 71 _ rfl w.heap.size rfl 71 cs (0, 0) _ HP1.out Try.underlying71 rfl HLD.out ?_)
        | (go_at_call 43; (with_reducible refine (HND a _).out.mono ?_); rintro e w1 ⟨rfl, hst⟩; rw [hA]; have HS1 := hide (HS.out.trans hst); have HP1 := hide (HP.out.st hst (fun e => e)); clear hst)
        | (go_at_call 43; (with_reducible refine (HND b _).out.mono ?_); rintro e w2 ⟨rfl, hst⟩; rw [hB]; have HS2 := hide (HS1.out.trans hst); clear hst))
      go_ret
      exact ⟨rfl, HS2.out⟩
    | true =>
      go_enter Try.func42, Try.ntmps42
      go_wp2_with (first
        | (refine wpList_load_row rfl 71 _ rfl w.heap.size rfl 71 cs (0, 0) _ HP.out Try.underlying71 rfl HLD.out ?_)
        | (refine wpList_load_g (by rfl) 71 _ rfl w.heap.size rfl 71 cs (0, 0) _ HP1.out Try.underlying71 rfl HLD.out ?_)
        | (go_at_call 43; (with_reducible refine (HND a _).out.mono ?_); rintro e w1 ⟨rfl, hst⟩; rw [hA]; have HS1 := hide (HS.out.trans hst); have HP1 := hide (HP.out.st hst (fun e => e)); clear hst)
        | (go_at_call 43; (with_reducible refine (HND b _).out.mono ?_); rintro e w2 ⟨rfl, hst⟩; rw [hB]; have HS2 := hide (HS1.out.trans hst); clear hst))
      go_ret
      exact ⟨by simp, HS2.out⟩

set_option maxRecDepth 100000 in
theorem in_any (A : Option Addr) (m c B : Nat) (vs : List Int) (v : Int) (w : World) (h : RI w B A m vs) (hm : m ≤ 140737488351232) :
    Calls Try.prog 45 #[.slice A m c, .int .i64 v] w fun e w' => e = .returned (.bool (vs.contains v)) ∧ w' = w := by
  have HR := hide h
  have HL := hide h.len
  clear h
  go_enter Try.func45, Try.ntmps45
  go_wp2
  go_loopw [5] (fun i wr => ∃ k : Nat, k ≤ m ∧ i = .int .i64 k ∧ Hid (∀ j, j < k → nth vs j ≠ v) ∧ wr = w) (fun i _ => m - (intOf i).toNat)
  case atStart => exact ⟨0, Nat.zero_le _, rfl, (fun j hj => absurd hj (by omega)), rfl⟩
  case round =>
    obtain ⟨k, hk, rfl, hno, rfl⟩ := hrel
    by_cases hlt : k < m
    · obtain ⟨ad, rfl, _, hc⟩ := HR.out.at_ hlt
      have i0 : (0 : Int) ≤ (k : Int) := by omega
      have i1 : (k : Int) < (m : Int) := by omega
      by_cases he : nth vs k = v
      · have hmem : Hid (vs.contains v = true) := by
          show _ = _
          rw [List.contains_iff_mem, ← he, nth_get (by rw [HL.out]; exact hlt)]
          exact List.getElem_mem _
        rw [he] at hc
        go_wp2_with fail
        go_ret
        exact ⟨by rw [hmem.out]; rfl, rfl⟩
      · have hn2 : (nth vs k == v) = false := by simpa using he
        have HNO : Hid (∀ j, j < k + 1 → nth vs j ≠ v) := fun j hj => by
          by_cases e : j = k
          · subst e; exact he
          · exact hno.out j (by omega)
        go_wp2
        go_roundw
        case rel => exact ⟨k + 1, by omega, by go_num, HNO, trivial⟩
        case measure => simp [intOf]; omega
    · obtain rfl : k = m := by omega
      have hmem : Hid (vs.contains v = false) := by
        show _ = _
        rw [Bool.eq_false_iff]
        intro h
        rw [List.contains_iff_mem] at h
        obtain ⟨i, hi, e⟩ := List.getElem_of_mem h
        exact hno.out i (by rw [← HL.out]; exact hi) (by rw [nth_get hi, e])
      go_wp2
      go_ret
      exact ⟨by rw [hmem.out]; rfl, rfl⟩
end Go.Proofs.Ytkcjfiifajjpiaa
