/-
  Contract of the law's copied: a script that shares nothing.
-/
import Derived.Test.YtkcjfiifajjpiaaSameS
set_option linter.unusedVariables false
set_option linter.unusedSimpArgs false
namespace Go.Proofs.Ytkcjfiifajjpiaa
open Go.RowKit Go.WideShapes Go.ChangeShapes Q

theorem info5 : (Try.prog.info? 5).map (fun i => (i.zero, i.size, i.bytes)) = some (some (.int .u8 0), 1, 1) := by kernel_rfl
theorem info45_ : (Try.prog.info? 45).map (fun i => (i.zero.map (fun z => z.cells.size), i.size, i.bytes)) = some (some 13, 13, 160) := by kernel_rfl
theorem info45 : ∃ (i : TypeInfo) (z : Value), Try.prog.info? 45 = some i ∧ i.zero = some z ∧ i.size = 13 ∧ i.bytes = 160 ∧ z.cells.size = 13 := by
  have h := info45_
  cases hi : Try.prog.info? 45 with
  | none => rw [hi] at h; simp at h
  | some i =>
    rw [hi] at h
    simp only [Option.map_some, Option.some.injEq, Prod.mk.injEq] at h
    obtain ⟨h1, h2, h3⟩ := h
    cases hz : i.zero with
    | none => rw [hz] at h1; simp at h1
    | some z =>
      rw [hz] at h1
      simp only [Option.map_some, Option.some.injEq] at h1
      exact ⟨i, z, rfl, hz, h2, h3, h1⟩

/-- An event whose lists lie in blocks of ints and of bytes. -/
def El.Own (w : World) (x : El) : Prop := RN 3 w x.A x.zs.length (ints x.zs) ∧ x.zs.length * 8 ≤ 140737488351232 ∧ RN 5 w x.bA x.bz.length (byts x.bz) ∧ x.bz.length ≤ 140737488351232
theorem El.Own.st {S : Nat → Prop} {w w' : World} {x : El} (h : x.Own w) (hs : St S w w') : x.Own w' := ⟨h.1.st (.inl rfl) hs, h.2.1, h.2.2.1.st (.inr rfl) hs, h.2.2.2⟩
theorem El.Own.good {w : World} {x : El} (h : x.Own w) : x.Good w w.heap.size := ⟨h.1.reads (Nat.le_refl _), by have := h.2.1; omega, h.2.2.1.reads (Nat.le_refl _), h.2.2.2⟩
/-- Events in a row of the call's own. -/
def EvsOwn (w : World) (base : Nat) (v : Value) (l : List El) : Prop := w.ownsRow base 45 13 v l.length (ecells l) ∧ ∀ x ∈ l, x.Own w
theorem EvsOwn.in_ {w : World} {base : Nat} {A : Option Addr} {c : Nat} {l : List El} (h : EvsOwn w base (.slice A l.length c) l) : EvsIn w w.heap.size A l := by
  refine ⟨?_, fun x hx => (h.2 x hx).good⟩
  obtain ⟨A', c', e, hr, _⟩ := own_val h.1
  injection e with e1 e2 e3
  subst e1
  exact hr

theorem not35_45 : ¬ Num35 45 := by rintro (h | h) <;> cases h
theorem not35_33 : ¬ Num35 33 := by rintro (h | h) <;> cases h
theorem take_succ_map {l : List El} {j : Nat} {x : El} (h : l[j]? = some x) : (l.take (j + 1)).map El.plain = (l.take j).map El.plain ++ [x.plain] := by
  rw [List.take_add_one, h]
  simp


set_option maxHeartbeats 2000000 in
theorem box9 {S : Nat → Prop} {w w0 : World} {g : Nat} {t : TypeId} {a0 a1 a2 a3 a4 a5 a6 a7 a8 u0 u1 u2 u3 u4 u5 u6 u7 u8 : Value} (hs : St S w w0) (hb : Blk w0 g t #[a0, a1, a2, a3, a4, a5, a6, a7, a8]) (ht : ¬ Num35 t) (no : g < w.heap.size → S g) :
    Blk (((((((((w0.setCell ⟨g, 0, none⟩ u0).setCell ⟨g, 1, none⟩ u1).setCell ⟨g, 2, none⟩ u2).setCell ⟨g, 3, none⟩ u3).setCell ⟨g, 4, none⟩ u4).setCell ⟨g, 5, none⟩ u5).setCell ⟨g, 6, none⟩ u6).setCell ⟨g, 7, none⟩ u7).setCell ⟨g, 8, none⟩ u8) g t #[u0, u1, u2, u3, u4, u5, u6, u7, u8] ∧
      St S w (((((((((w0.setCell ⟨g, 0, none⟩ u0).setCell ⟨g, 1, none⟩ u1).setCell ⟨g, 2, none⟩ u2).setCell ⟨g, 3, none⟩ u3).setCell ⟨g, 4, none⟩ u4).setCell ⟨g, 5, none⟩ u5).setCell ⟨g, 6, none⟩ u6).setCell ⟨g, 7, none⟩ u7).setCell ⟨g, 8, none⟩ u8) := by
  have b1 : Blk (w0.setCell ⟨g, 0, none⟩ u0) g t #[u0, a1, a2, a3, a4, a5, a6, a7, a8] := hb.set_ 0 u0
  have b2 : Blk ((w0.setCell ⟨g, 0, none⟩ u0).setCell ⟨g, 1, none⟩ u1) g t #[u0, u1, a2, a3, a4, a5, a6, a7, a8] := b1.set_ 1 u1
  have b3 : Blk (((w0.setCell ⟨g, 0, none⟩ u0).setCell ⟨g, 1, none⟩ u1).setCell ⟨g, 2, none⟩ u2) g t #[u0, u1, u2, a3, a4, a5, a6, a7, a8] := b2.set_ 2 u2
  have b4 : Blk ((((w0.setCell ⟨g, 0, none⟩ u0).setCell ⟨g, 1, none⟩ u1).setCell ⟨g, 2, none⟩ u2).setCell ⟨g, 3, none⟩ u3) g t #[u0, u1, u2, u3, a4, a5, a6, a7, a8] := b3.set_ 3 u3
  have b5 : Blk (((((w0.setCell ⟨g, 0, none⟩ u0).setCell ⟨g, 1, none⟩ u1).setCell ⟨g, 2, none⟩ u2).setCell ⟨g, 3, none⟩ u3).setCell ⟨g, 4, none⟩ u4) g t #[u0, u1, u2, u3, u4, a5, a6, a7, a8] := b4.set_ 4 u4
  have b6 : Blk ((((((w0.setCell ⟨g, 0, none⟩ u0).setCell ⟨g, 1, none⟩ u1).setCell ⟨g, 2, none⟩ u2).setCell ⟨g, 3, none⟩ u3).setCell ⟨g, 4, none⟩ u4).setCell ⟨g, 5, none⟩ u5) g t #[u0, u1, u2, u3, u4, u5, a6, a7, a8] := b5.set_ 5 u5
  have b7 : Blk (((((((w0.setCell ⟨g, 0, none⟩ u0).setCell ⟨g, 1, none⟩ u1).setCell ⟨g, 2, none⟩ u2).setCell ⟨g, 3, none⟩ u3).setCell ⟨g, 4, none⟩ u4).setCell ⟨g, 5, none⟩ u5).setCell ⟨g, 6, none⟩ u6) g t #[u0, u1, u2, u3, u4, u5, u6, a7, a8] := b6.set_ 6 u6
  have b8 : Blk ((((((((w0.setCell ⟨g, 0, none⟩ u0).setCell ⟨g, 1, none⟩ u1).setCell ⟨g, 2, none⟩ u2).setCell ⟨g, 3, none⟩ u3).setCell ⟨g, 4, none⟩ u4).setCell ⟨g, 5, none⟩ u5).setCell ⟨g, 6, none⟩ u6).setCell ⟨g, 7, none⟩ u7) g t #[u0, u1, u2, u3, u4, u5, u6, u7, a8] := b7.set_ 7 u7
  have b9 : Blk (((((((((w0.setCell ⟨g, 0, none⟩ u0).setCell ⟨g, 1, none⟩ u1).setCell ⟨g, 2, none⟩ u2).setCell ⟨g, 3, none⟩ u3).setCell ⟨g, 4, none⟩ u4).setCell ⟨g, 5, none⟩ u5).setCell ⟨g, 6, none⟩ u6).setCell ⟨g, 7, none⟩ u7).setCell ⟨g, 8, none⟩ u8) g t #[u0, u1, u2, u3, u4, u5, u6, u7, u8] := b8.set_ 8 u8
  exact ⟨b9, (((((((((hs.setCell hb ht no u0).setCell b1 ht no u1).setCell b2 ht no u2).setCell b3 ht no u3).setCell b4 ht no u4).setCell b5 ht no u5).setCell b6 ht no u6).setCell b7 ht no u7).setCell b8 ht no u8)⟩
theorem only_set {w0 w1 : World} {g : Nat} (h : Only (fun q => q = g) w0 w1) (i : Nat) (u : Value) : Only (fun q => q = g) w0 (w1.setCell ⟨g, i, none⟩ u) := h.setCell (p := ⟨g, i, none⟩) (fun _ => rfl) u

theorem own_ne {w : World} {base : Nat} {e t : TypeId} {size n g : Nat} {v : Value} {xs : List Value} {cs : Array Value} (ho : w.ownsRow base e size v n xs) (hb : Blk w g t cs) (ht : t ≠ e) : some g ≠ v.ownBlock := by
  intro h
  rcases ho.2 with ⟨rfl, _⟩ | ⟨g', cap, cur, rfl, _, hg, _⟩
  · simp [Value.ownBlock] at h
  · simp [Value.ownBlock] at h
    exact Blk.ne_ hb (show Blk w g' e cur from hg) ht h
theorem own_blk {w : World} {base : Nat} {e : TypeId} {size n g : Nat} {v : Value} {xs : List Value} (ho : w.ownsRow base e size v n xs) (h : v.ownBlock = some g) : base ≤ g ∧ ∃ cs, Blk w g e cs := by
  rcases ho.2 with ⟨rfl, _⟩ | ⟨g', cap, cur, rfl, hb, hg, _⟩
  · simp [Value.ownBlock] at h
  · simp [Value.ownBlock] at h
    subst h
    exact ⟨hb, cur, hg⟩
theorem own_st0 {w w' : World} {base : Nat} {e : TypeId} {size n : Nat} {v : Value} {xs : List Value} (ho : w.ownsRow base e size v n xs) (h : St (fun _ => False) w w') : w'.ownsRow base e size v n xs := own_only ho h.only fun _ _ e => e
theorem El.Good.st0 {w w' : World} {B : Nat} {x : El} (h : x.Good w B) (hs : St (fun _ => False) w w') : x.Good w' B := ⟨h.1.st hs (fun q e => e.elim), h.2.1, Reads.st h.2.2.1 hs (fun q _ e => e), h.2.2.2⟩

/-- The state of copied, j events done. -/
structure CI (w wr : World) (base : Nat) (C1 C2 : Array Value) (h7 : Array Value) (n j : Nat) (vs : List Int) (l l' : List El) (V' : Option Addr) (k' : Nat) (E' : Option Addr) (f' : Nat) (c3 : Array Value) : Prop where
  b1 : Blk wr base 33 C1
  b2 : Blk wr (base + 1) 33 C2
  b3 : Blk wr (base + 1 + 1) 33 c3
  row : wr.ownsRow base 45 13 (.slice E' j f') j (ecells l')
  len : l'.length = j
  map : l'.map El.plain = (l.take j).map El.plain
  own : ∀ x ∈ l', x.Own wr
  rn : RN 3 wr V' n (ints vs)
  st : St (fun q => base ≤ q) w wr
set_option maxRecDepth 100000 in
set_option maxHeartbeats 4000000 in
theorem copied_any (a0 a1 a2 a3 a4 a5 a6 : Int) (vs : List Int) (l : List El) (V E : Option Addr) (k f B : Nat) (w : World)
    (hv : RI w B V vs.length vs) (he : EvsIn w B E l) (hvl : vs.length * 8 ≤ 140737488351232) (hel : l.length * 160 ≤ 140737488351232) (hzl : ∀ x ∈ l, x.zs.length * 8 ≤ 140737488351232) (hB : B ≤ w.heap.size) :
    Calls Try.prog 17 #[.agg #[.int .i64 a0, .int .i64 a1, .int .i64 a2, .int .i64 a3, .int .i64 a4, .int .i64 a5, .int .i64 a6, .slice V vs.length k, .slice E l.length f]] w
      fun e w' => ∃ V' k' E' f' l', e = .returned (.agg #[.int .i64 a0, .int .i64 a1, .int .i64 a2, .int .i64 a3, .int .i64 a4, .int .i64 a5, .int .i64 a6, .slice V' vs.length k', .slice E' l.length f']) ∧
        RN 3 w' V' vs.length (ints vs) ∧ EvsOwn w' w.heap.size (.slice E' l.length f') l' ∧ l'.length = l.length ∧ l'.map El.plain = l.map El.plain ∧ St (fun _ => False) w w' := by
  obtain ⟨n, hn⟩ : ∃ n, n = vs.length := ⟨_, rfl⟩
  obtain ⟨m, hm⟩ : ∃ m, m = l.length := ⟨_, rfl⟩
  obtain ⟨i3, hi3, hz3, hs3, hb3⟩ := info_parts info3
  obtain ⟨i5, hi5, hz5, hs5, hb5⟩ := info_parts info5
  obtain ⟨i45, z45, hi45, hz45, hs45, hb45, hc45⟩ := info45
  have I3 := hide hi3
  have I5 := hide hi5
  have I45 := hide hi45
  clear hi3 hi5 hi45
  rw [← hn] at hv hvl ⊢
  rw [← hm] at hel ⊢
  have HM := hide hm
  have HZL := hide hzl
  obtain ⟨base, hbase⟩ : ∃ b, b = w.heap.size := ⟨_, rfl⟩
  obtain ⟨o1, ho1⟩ : ∃ o : Obj, o = .cells #[.int .i64 a0, .int .i64 a1, .int .i64 a2, .int .i64 a3, .int .i64 a4, .int .i64 a5, .int .i64 a6, .slice V n k, .slice E m f] 33 := ⟨_, rfl⟩
  obtain ⟨o3, ho3⟩ : ∃ o : Obj, o = .cells #[.int .i64 a0, .int .i64 a1, .int .i64 a2, .int .i64 a3, .int .i64 a4, .int .i64 a5, .int .i64 a6, .slice V n k, .slice none 0 0] 33 := ⟨_, rfl⟩
  obtain ⟨o2, ho2⟩ : ∃ o : Obj, o = .cells #[.int .i64 0, .int .i64 0, .int .i64 0, .int .i64 0, .int .i64 0, .int .i64 0, .int .i64 0, .slice none 0 0, .slice none 0 0] 33 := ⟨_, rfl⟩
  have H0 : St (fun q => base ≤ q) w (((w.alloc o1).alloc o2).alloc o3) := (((St.refl _ w).alloc _).alloc _).alloc _
  have P1 : Blk (((w.alloc o1).alloc o2).alloc o3) base 33 _ := (((ho1 ▸ Blk.new' w 33 #[.int .i64 a0, .int .i64 a1, .int .i64 a2, .int .i64 a3, .int .i64 a4, .int .i64 a5, .int .i64 a6, .slice V n k, .slice E m f] base hbase : Blk (w.alloc o1) _ _ _).alloc o2).alloc o3)
  have P2 : Blk (((w.alloc o1).alloc o2).alloc o3) (base + 1) 33 _ := ((ho2 ▸ Blk.new' (w.alloc o1) 33 #[.int .i64 0, .int .i64 0, .int .i64 0, .int .i64 0, .int .i64 0, .int .i64 0, .int .i64 0, .slice none 0 0, .slice none 0 0] (base + 1) (by rw [hbase]; simp) : Blk ((w.alloc o1).alloc o2) _ _ _).alloc o3)
  have P3 : Blk (((w.alloc o1).alloc o2).alloc o3) (base + 1 + 1) 33 _ := (ho3 ▸ Blk.new' ((w.alloc o1).alloc o2) 33 #[.int .i64 a0, .int .i64 a1, .int .i64 a2, .int .i64 a3, .int .i64 a4, .int .i64 a5, .int .i64 a6, .slice V n k, .slice none 0 0] (base + 1 + 1) (by rw [hbase]; simp) : Blk (((w.alloc o1).alloc o2).alloc o3) _ _ _)
  have HBB := hide hB
  have V0 := hv.st H0 (fun q e => by have := HBB.out; omega)
  have HE := hide he
  clear hn hm hzl hv he hB
  go_enter Try.func17, Try.ntmps17
  go_upto_region 2 with fail
  rw [← ho1, ← ho2, ← ho3, ← hbase]
  obtain ⟨w0, hw0⟩ : ∃ w0, w0 = (((w.alloc o1).alloc o2).alloc o3) := ⟨_, rfl⟩
  rw [← hw0] at H0 P1 P2 P3 V0 ⊢
  have HS0 := hide H0
  have HV0 := hide V0
  have HW0 := hide hbase
  have hbw : base ≤ w0.heap.size := by have := H0.size; omega
  clear hw0 H0 ho1 ho2 ho3 hbase V0
  have HP1 := hide P1
  have HP2 := hide P2
  have HP3 := hide P3
  have p7 : w0.cell? ⟨base, 7, none⟩ = some (.slice V n k) := P1.cell 7
  clear P1 P2 P3
  go_wp2_with (at_builtin; refine wpList_append_any _ rfl _ (.tmp 11) 22 rfl base 3 i3 _ 1 8 Try.underlying22 I3.out hz3 hs3 hb3 rfl (by omega) (.slice none 0 0) 0 [] rfl (World.ownsRow_nil _ _ _ _) B V n k (ints vs) rfl HV0.out (ints_one vs) (by unfold maxLen; omega) (by omega) hbw ?_; intro v1 w1 hown1 hg1 _; rw [Nat.zero_add, List.nil_append] at hown1; obtain ⟨V', k', rfl, _, _⟩ := own_val hown1; have b3 := HP3.out.grown hg1 (by simp [Value.ownBlock]); have b37 : w1.cell? ⟨base + 1 + 1, 7, none⟩ = some (.slice V n k) := b3.cell 7; have z37 := b3.frozen 7; have HO1 := hide hown1; have HG1 := hide hg1; clear hown1 hg1 b3)
  have HCI : Hid (∃ c3, CI w (w1.setCell ⟨base + 1 + 1, 7, none⟩ (.slice V' n k')) base #[.int .i64 a0, .int .i64 a1, .int .i64 a2, .int .i64 a3, .int .i64 a4, .int .i64 a5, .int .i64 a6, .slice V n k, .slice E m f] #[.int .i64 0, .int .i64 0, .int .i64 0, .int .i64 0, .int .i64 0, .int .i64 0, .int .i64 0, .slice none 0 0, .slice none 0 0] #[] n 0 vs l [] V' k' none 0 c3 ∧ c3 = #[.int .i64 a0, .int .i64 a1, .int .i64 a2, .int .i64 a3, .int .i64 a4, .int .i64 a5, .int .i64 a6, .slice V' n k', .slice none 0 0]) := by
    have st1 : St (fun q => base ≤ q) w w1 := (HS0.out).grown HG1.out (fun g e => by simp [Value.ownBlock] at e)
    have b1 := HP1.out.grown HG1.out (by simp [Value.ownBlock])
    have b2 := HP2.out.grown HG1.out (by simp [Value.ownBlock])
    have b3 := HP3.out.grown HG1.out (by simp [Value.ownBlock])
    have st2 : St (fun q => base ≤ q) w1 (w1.setCell ⟨base + 1 + 1, 7, none⟩ (.slice V' n k')) := (St.refl _ w1).setCell b3 not35_33 (fun _ => by omega) _
    refine ⟨_, ⟨b1.far (by simp <;> omega) _, b2.far (by simp <;> omega) _, b3.set_ 7 _, World.ownsRow_nil _ _ _ _, rfl, rfl, (fun x hx => by cases hx), (RN.of_own HO1.out).st (.inl rfl) st2, st1.trans st2⟩, rfl⟩
  clear b37 z37 p7 HO1 HG1 HP1 HP2 HP3 HV0 HS0 hbw
  go_loopw [4] (fun i wr => ∃ (j : Nat) (l' : List El) (E' : Option Addr) (f' : Nat), j ≤ m ∧ i = .int .i64 j ∧ Hid (∃ c3, CI w wr base #[.int .i64 a0, .int .i64 a1, .int .i64 a2, .int .i64 a3, .int .i64 a4, .int .i64 a5, .int .i64 a6, .slice V n k, .slice E m f] #[.int .i64 0, .int .i64 0, .int .i64 0, .int .i64 0, .int .i64 0, .int .i64 0, .int .i64 0, .slice none 0 0, .slice none 0 0] #[] n j vs l l' V' k' E' f' c3 ∧ c3 = #[.int .i64 a0, .int .i64 a1, .int .i64 a2, .int .i64 a3, .int .i64 a4, .int .i64 a5, .int .i64 a6, .slice V' n k', .slice E' j f'])) (fun i _ => m - (intOf i).toNat)
  case atStart => exact ⟨0, [], none, 0, Nat.zero_le _, rfl, HCI⟩
  case round =>
    obtain ⟨j, l', E', f', hj, rfl, hI⟩ := hrel
    clear HCI
    obtain ⟨c3, hI, rfl⟩ := hI.out
    have hx1 := hI.b1
    have hx3 := hI.b3
    have p8 : wr.cell? ⟨base, 8, none⟩ = some (.slice E m f) := hx1.cell 8
    have hst := hI.st
    have HI := hide hI
    have hrw : base ≤ wr.heap.size := by have := hst.size; have := HW0.out; omega
    by_cases hlt : j < m
    · have hev := HE.out.st hst (fun q e => by have := HBB.out; have := HW0.out; omega)
      obtain ⟨x, b, off, hx, rfl, _, hg, r0, r1, r2, r3, r4, r5, r6, r7, r8, r9, r10, r11, r12⟩ := hev.at_ (k := j) (by rw [← HM.out]; exact hlt)
      have h0 : (0 : Int) ≤ j := by omega
      have h1 : (j : Int) < m := by omega
      have hzx := HZL.out x (List.mem_of_getElem? hx)
      have HG := hide hg
      have HX := hide hx
      unfold El.body at r4
      unfold El.sides at r12
      clear hI hev hg hx hx1 hx3 hst
      obtain ⟨ox, hox⟩ : ∃ o : Obj, o = .cells #[.int .i64 x.k, .int .i64 x.a, .int .i64 x.b, .int .i64 x.n, .slice x.bA x.bz.length x.bc, .int .i64 x.c1, .int .i64 x.c2, .int .i64 x.c3, .int .i64 x.c4, .string x.s1, .string x.s2, .string x.s3, .slice x.A x.zs.length x.c] 45 := ⟨_, rfl⟩
      have sa : St (fun _ => False) wr (wr.alloc ox) := (St.refl _ wr).alloc _
      have be : Blk (wr.alloc ox) wr.heap.size 45 _ := hox ▸ Blk.new wr 45 #[.int .i64 x.k, .int .i64 x.a, .int .i64 x.b, .int .i64 x.n, .slice x.bA x.bz.length x.bc, .int .i64 x.c1, .int .i64 x.c2, .int .i64 x.c3, .int .i64 x.c4, .string x.s1, .string x.s2, .string x.s3, .slice x.A x.zs.length x.c]
      go_upto_region 7 with fail
      rw [← hox]
      obtain ⟨w1, hw1⟩ : ∃ w1, w1 = wr.alloc ox := ⟨_, rfl⟩
      have hsz : wr.heap.size < w1.heap.size := by rw [hw1]; simp
      rw [← hw1] at sa be ⊢
      have HSZ := hide hsz
      have HSA := hide sa
      have HBE := hide be
      have HGX := hide (HG.out.st0 sa)
      have e4 : w1.cell? ⟨wr.heap.size, 4, none⟩ = some (.slice x.bA x.bz.length x.bc) := be.cell 4
      have hb1w : base ≤ w1.heap.size := by omega
      have hbl := HG.out.2.2.2
      clear hw1 hox sa be hsz r0 r1 r2 r3 r4 r5 r6 r7 r8 r9 r10 r11 r12 p8
      go_upto_region 8 with (at_builtin; refine wpList_append_any _ rfl _ (.tmp 28) 41 rfl base 5 i5 _ 1 1 Try.underlying41 I5.out hz5 hs5 hb5 rfl (by omega) (.slice none 0 0) 0 [] rfl (World.ownsRow_nil _ _ _ _) B x.bA x.bz.length x.bc (byts x.bz) rfl HGX.out.2.2.1 (byts_one x.bz) (by unfold maxLen; omega) (by omega) hb1w ?_; intro v2 w2 hown2 hg2 _; rw [Nat.zero_add, List.nil_append] at hown2; obtain ⟨A2, c2, rfl, _, _⟩ := own_val hown2; have be2 := HBE.out.grown hg2 (by simp [Value.ownBlock]); have e4' : w2.cell? ⟨wr.heap.size, 4, none⟩ = some (.slice x.bA x.bz.length x.bc) := be2.cell 4; have z4 := be2.frozen 4; have HO2 := hide hown2; have HG2 := hide hg2; have HBE2 := hide be2; clear hown2 hg2 be2 e4)
      have ho1 : ¬ wr.heap.size < wr.heap.size := Nat.lt_irrefl _
      have s2 : St (fun _ => False) wr (w2.setCell ⟨wr.heap.size, 4, none⟩ (.slice A2 x.bz.length c2)) := (HSA.out.grown_new HG2.out (fun g e => by simp [Value.ownBlock] at e)).setCell HBE2.out not35_45 (fun h => absurd h ho1) _
      have s23 : St (fun q => base ≤ q) w2 (w2.setCell ⟨wr.heap.size, 4, none⟩ (.slice A2 x.bz.length c2)) := (St.refl _ w2).setCell HBE2.out not35_45 (fun _ => hrw) _
      have rn2 := (RN.of_own HO2.out).st (.inr rfl) s23
      have be3 : Blk (w2.setCell ⟨wr.heap.size, 4, none⟩ (.slice A2 x.bz.length c2)) wr.heap.size 45 #[.int .i64 x.k, .int .i64 x.a, .int .i64 x.b, .int .i64 x.n, .slice A2 x.bz.length c2, .int .i64 x.c1, .int .i64 x.c2, .int .i64 x.c3, .int .i64 x.c4, .string x.s1, .string x.s2, .string x.s3, .slice x.A x.zs.length x.c] := HBE2.out.set_ 4 _
      obtain ⟨w3, hw3⟩ : ∃ w3, w3 = w2.setCell ⟨wr.heap.size, 4, none⟩ (.slice A2 x.bz.length c2) := ⟨_, rfl⟩
      rw [← hw3] at s2 rn2 be3 ⊢
      have HS3 := hide s2
      have HRN3 := hide rn2
      have HBE3 := hide be3
      have HGX3 := hide (HG.out.st0 s2)
      have hb3w : base ≤ w3.heap.size := by have := s2.size; omega
      have e12 : w3.cell? ⟨wr.heap.size, 12, none⟩ = some (.slice x.A x.zs.length x.c) := be3.cell 12
      clear hw3 s2 s23 rn2 be3 e4' z4 HO2 HG2 HBE2 HBE HSA HGX
      go_upto_region 9 with (at_builtin; refine wpList_append_any _ rfl _ (.tmp 32) 22 rfl base 3 i3 _ 1 8 Try.underlying22 I3.out hz3 hs3 hb3 rfl (by omega) (.slice none 0 0) 0 [] rfl (World.ownsRow_nil _ _ _ _) B x.A x.zs.length x.c (ints x.zs) rfl HGX3.out.1 (ints_one x.zs) (by unfold maxLen; omega) (by omega) hb3w ?_; intro v4 w4 hown4 hg4 _; rw [Nat.zero_add, List.nil_append] at hown4; obtain ⟨A4, c4, rfl, _, _⟩ := own_val hown4; have be4 := HBE3.out.grown hg4 (by simp [Value.ownBlock]); have e12' : w4.cell? ⟨wr.heap.size, 12, none⟩ = some (.slice x.A x.zs.length x.c) := be4.cell 12; have z12 := be4.frozen 12; have HO4 := hide hown4; have HG4 := hide hg4; have HBE4 := hide be4; clear hown4 hg4 be4 e12)
      have s4 : St (fun _ => False) wr (w4.setCell ⟨wr.heap.size, 12, none⟩ (.slice A4 x.zs.length c4)) := (HS3.out.grown_new HG4.out (fun g e => by simp [Value.ownBlock] at e)).setCell HBE4.out not35_45 (fun h => absurd h ho1) _
      have s45 : St (fun q => base ≤ q) w4 (w4.setCell ⟨wr.heap.size, 12, none⟩ (.slice A4 x.zs.length c4)) := (St.refl _ w4).setCell HBE4.out not35_45 (fun _ => hrw) _
      have s35 : St (fun q => base ≤ q) w3 (w4.setCell ⟨wr.heap.size, 12, none⟩ (.slice A4 x.zs.length c4)) := ((St.refl _ w3).grown_new HG4.out (fun g e => by simp [Value.ownBlock] at e)).setCell HBE4.out not35_45 (fun _ => hrw) _
      have rn4 := (RN.of_own HO4.out).st (.inl rfl) s45
      have rn5 := HRN3.out.st (.inr rfl) s35
      have be5 : Blk (w4.setCell ⟨wr.heap.size, 12, none⟩ (.slice A4 x.zs.length c4)) wr.heap.size 45 #[.int .i64 x.k, .int .i64 x.a, .int .i64 x.b, .int .i64 x.n, .slice A2 x.bz.length c2, .int .i64 x.c1, .int .i64 x.c2, .int .i64 x.c3, .int .i64 x.c4, .string x.s1, .string x.s2, .string x.s3, .slice A4 x.zs.length c4] := HBE4.out.set_ 12 _
      obtain ⟨w5, hw5⟩ : ∃ w5, w5 = w4.setCell ⟨wr.heap.size, 12, none⟩ (.slice A4 x.zs.length c4) := ⟨_, rfl⟩
      rw [← hw5] at s4 rn4 rn5 be5 ⊢
      have HS5 := hide s4
      have HRN4 := hide rn4
      have HRN5 := hide rn5
      have hb5w : base ≤ w5.heap.size := by have := s4.size; omega
      have HB35 := hide (HI.out.b3.st s4 (fun e => e))
      have HRW5 := hide (own_st0 HI.out.row s4)
      have q8 : w5.cell? ⟨base + 1 + 1, 8, none⟩ = some (.slice E' j f') := HB35.out.cell 8
      obtain ⟨r0, r1, r2, r3, r4, r5, r6, r7, r8, r9, r10, r11, r12⟩ := m13 be5
      clear hw5 s4 s45 s35 rn4 rn5 be5 e12' z12 HO4 HG4 HBE4 HBE3 HS3 HRN3 HGX3 ho1 hb1w hb3w hbl
      go_wp2_with (at_builtin; refine wpList_push rfl (.tmp 36) (.tmp 38) _ rfl base 45 i45 _ 13 160 Try.underlying31 I45.out hz45 hs45 hb45 hc45 (by omega) (.slice E' j f') j _ rfl HRW5.out 1 1 #[.int .i64 x.k, .int .i64 x.a, .int .i64 x.b, .int .i64 x.n, .slice A2 x.bz.length c2, .int .i64 x.c1, .int .i64 x.c2, .int .i64 x.c3, .int .i64 x.c4, .string x.s1, .string x.s2, .string x.s3, .slice A4 x.zs.length c4] rfl rfl (by simp [Value.oneCell']) (by omega) (by unfold maxLen; omega) (by omega) hb5w ?_; intro g6 cap6 w6 hown6 hg6 _ hge6 _ _; have b36 := (HB35.out.alloc (.cells #[.int .i64 x.k, .int .i64 x.a, .int .i64 x.b, .int .i64 x.n, .slice A2 x.bz.length c2, .int .i64 x.c1, .int .i64 x.c2, .int .i64 x.c3, .int .i64 x.c4, .string x.s1, .string x.s2, .string x.s3, .slice A4 x.zs.length c4] 45)).grown hg6 (own_ne HRW5.out HB35.out (by decide)); have q8' : w6.cell? ⟨base + 1 + 1, 8, none⟩ = some (.slice E' j f') := b36.cell 8; have z8 := b36.frozen 8; have HB36 := hide b36; have HO6 := hide hown6; have HG6 := hide hg6; have HGE6 := hide hge6; clear b36 hown6 hg6 hge6 q8 r0 r1 r2 r3 r4 r5 r6 r7 r8 r9 r10 r11 r12)
      have s6 : St (fun q => base ≤ q) wr w6 := ((HS5.out.mono (fun _ _ e => e.elim)).alloc (.cells #[.int .i64 x.k, .int .i64 x.a, .int .i64 x.b, .int .i64 x.n, .slice A2 x.bz.length c2, .int .i64 x.c1, .int .i64 x.c2, .int .i64 x.c3, .int .i64 x.c4, .string x.s1, .string x.s2, .string x.s3, .slice A4 x.zs.length c4] 45)).grown HG6.out (fun g e => by
        obtain ⟨hge, cs, hb⟩ := own_blk HRW5.out e
        exact ⟨⟨45, cs, hb.alloc _, not35_45⟩, fun _ => hge⟩)
      have s56 : St (fun q => base ≤ q) w5 w6 := ((St.refl _ w5).alloc (.cells #[.int .i64 x.k, .int .i64 x.a, .int .i64 x.b, .int .i64 x.n, .slice A2 x.bz.length c2, .int .i64 x.c1, .int .i64 x.c2, .int .i64 x.c3, .int .i64 x.c4, .string x.s1, .string x.s2, .string x.s3, .slice A4 x.zs.length c4] 45)).grown HG6.out (fun g e => by
        obtain ⟨hge, cs, hb⟩ := own_blk HRW5.out e
        exact ⟨⟨45, cs, hb.alloc _, not35_45⟩, fun _ => hge⟩)
      have s67 : St (fun q => base ≤ q) w6 (w6.setCell ⟨base + 1 + 1, 8, none⟩ (.slice (some ⟨g6, 0, none⟩) (j + 1) cap6)) := (St.refl _ w6).setCell HB36.out not35_33 (fun _ => by omega) _
      have hb1 := ((HI.out.b1.st HS5.out (fun e => e)).alloc (.cells #[.int .i64 x.k, .int .i64 x.a, .int .i64 x.b, .int .i64 x.n, .slice A2 x.bz.length c2, .int .i64 x.c1, .int .i64 x.c2, .int .i64 x.c3, .int .i64 x.c4, .string x.s1, .string x.s2, .string x.s3, .slice A4 x.zs.length c4] 45)).grown HG6.out (own_ne HRW5.out (HI.out.b1.st HS5.out (fun e => e)) (by decide))
      have hb2 := ((HI.out.b2.st HS5.out (fun e => e)).alloc (.cells #[.int .i64 x.k, .int .i64 x.a, .int .i64 x.b, .int .i64 x.n, .slice A2 x.bz.length c2, .int .i64 x.c1, .int .i64 x.c2, .int .i64 x.c3, .int .i64 x.c4, .string x.s1, .string x.s2, .string x.s3, .slice A4 x.zs.length c4] 45)).grown HG6.out (own_ne HRW5.out (HI.out.b2.st HS5.out (fun e => e)) (by decide))
      have HF : Hid (CI w (w6.setCell ⟨base + 1 + 1, 8, none⟩ (.slice (some ⟨g6, 0, none⟩) (j + 1) cap6)) base #[.int .i64 a0, .int .i64 a1, .int .i64 a2, .int .i64 a3, .int .i64 a4, .int .i64 a5, .int .i64 a6, .slice V n k, .slice (some ⟨b, off, none⟩) m f] #[.int .i64 0, .int .i64 0, .int .i64 0, .int .i64 0, .int .i64 0, .int .i64 0, .int .i64 0, .slice none 0 0, .slice none 0 0] #[] n (j + 1) vs l (l' ++ [{ x with bA := A2, bc := c2, A := A4, c := c4 }]) V' k' (some ⟨g6, 0, none⟩) cap6 #[.int .i64 a0, .int .i64 a1, .int .i64 a2, .int .i64 a3, .int .i64 a4, .int .i64 a5, .int .i64 a6, .slice V' n k', .slice (some ⟨g6, 0, none⟩) (j + 1) cap6]) := by
        refine ⟨hb1.far (by simp <;> omega) _, hb2.far (by simp <;> omega) _, HB36.out.set_ 8 _, ?_, by simp [HI.out.len], ?_, ?_, ?_, (HI.out.st.trans s6).trans s67⟩
        · rw [ecells_snoc]
          exact own_only HO6.out ((Only.refl (fun q => q = base + 1 + 1) w6).setCell (p := ⟨base + 1 + 1, 8, none⟩) (fun _ => rfl) _) (fun g hg e => by
            have := own_ne HO6.out HB36.out (by decide)
            rw [hg, e] at this
            exact this rfl)
        · rw [take_succ_map HX.out, List.map_append, HI.out.map]
          rfl
        · intro y hy
          rcases List.mem_append.1 hy with hy | hy
          · exact ((HI.out.own y hy).st s6).st s67
          · obtain rfl := List.mem_singleton.1 hy
            exact ⟨(HRN4.out.st (.inl rfl) s56).st (.inl rfl) s67, hzx, (HRN5.out.st (.inr rfl) s56).st (.inr rfl) s67, HG.out.2.2.2⟩
        · exact (HI.out.rn.st (.inl rfl) s6).st (.inl rfl) s67
      go_roundw
      case rel => exact ⟨j + 1, _, _, _, by omega, by go_num, _, HF.out, rfl⟩
      case measure => simp [intOf]; omega
    · obtain rfl : j = m := by omega
      have x0 : wr.cell? ⟨base + 1 + 1, 0, none⟩ = some (.int .i64 a0) := hx3.cell 0
      have x1 : wr.cell? ⟨base + 1 + 1, 1, none⟩ = some (.int .i64 a1) := hx3.cell 1
      have x2 : wr.cell? ⟨base + 1 + 1, 2, none⟩ = some (.int .i64 a2) := hx3.cell 2
      have x3 : wr.cell? ⟨base + 1 + 1, 3, none⟩ = some (.int .i64 a3) := hx3.cell 3
      have x4 : wr.cell? ⟨base + 1 + 1, 4, none⟩ = some (.int .i64 a4) := hx3.cell 4
      have x5 : wr.cell? ⟨base + 1 + 1, 5, none⟩ = some (.int .i64 a5) := hx3.cell 5
      have x6 : wr.cell? ⟨base + 1 + 1, 6, none⟩ = some (.int .i64 a6) := hx3.cell 6
      have x7 : wr.cell? ⟨base + 1 + 1, 7, none⟩ = some (.slice V' n k') := hx3.cell 7
      have x8 : wr.cell? ⟨base + 1 + 1, 8, none⟩ = some (.slice E' j f') := hx3.cell 8
      have y2 := hI.b2
      have t0 : wr.cell? ⟨base + 1, 0, none⟩ = some (.int .i64 0) := y2.cell 0
      have t1 : wr.cell? ⟨base + 1, 1, none⟩ = some (.int .i64 0) := y2.cell 1
      have t2 : wr.cell? ⟨base + 1, 2, none⟩ = some (.int .i64 0) := y2.cell 2
      have t3 : wr.cell? ⟨base + 1, 3, none⟩ = some (.int .i64 0) := y2.cell 3
      have t4 : wr.cell? ⟨base + 1, 4, none⟩ = some (.int .i64 0) := y2.cell 4
      have t5 : wr.cell? ⟨base + 1, 5, none⟩ = some (.int .i64 0) := y2.cell 5
      have t6 : wr.cell? ⟨base + 1, 6, none⟩ = some (.int .i64 0) := y2.cell 6
      have t7 : wr.cell? ⟨base + 1, 7, none⟩ = some (.slice none 0 0) := y2.cell 7
      have t8 : wr.cell? ⟨base + 1, 8, none⟩ = some (.slice none 0 0) := y2.cell 8
      have f0 := y2.frozen 0
      have f1 := y2.frozen 1
      have f2 := y2.frozen 2
      have f3 := y2.frozen 3
      have f4 := y2.frozen 4
      have f5 := y2.frozen 5
      have f6 := y2.frozen 6
      have f7 := y2.frozen 7
      have f8 := y2.frozen 8
      have HY := hide y2
      clear hI hx1 hx3 hst y2
      go_wp2_with fail
      obtain ⟨b9, st9⟩ := box9 (S := fun q => base ≤ q) (u0 := .int .i64 a0) (u1 := .int .i64 a1) (u2 := .int .i64 a2) (u3 := .int .i64 a3) (u4 := .int .i64 a4) (u5 := .int .i64 a5) (u6 := .int .i64 a6) (u7 := .slice V' n k') (u8 := .slice E' j f') (St.refl _ wr) HY.out not35_33 (fun _ => by omega)
      have on9 := only_set (only_set (only_set (only_set (only_set (only_set (only_set (only_set (only_set (Only.refl (fun q => q = base + 1) wr) 0 (.int .i64 a0)) 1 (.int .i64 a1)) 2 (.int .i64 a2)) 3 (.int .i64 a3)) 4 (.int .i64 a4)) 5 (.int .i64 a5)) 6 (.int .i64 a6)) 7 (.slice V' n k')) 8 (.slice E' j f')
      refine bodyPost_ret (results_cell_row rfl _ _ (base + 1) 33 _ (0, 0) _ rfl b9 Try.underlying33 rfl (by kernel_rfl)) rfl ?_
      refine ⟨V', k', E', f', l', rfl, HI.out.rn.st (.inl rfl) st9, ⟨?_, fun x hx => (HI.out.own x hx).st st9⟩, HI.out.len, ?_, (HI.out.st.trans st9).mono fun q hq h => by have h1 : base ≤ q := h; have h2 := HW0.out; omega⟩
      · rw [show l'.length = j from HI.out.len, ← HW0.out]
        refine own_only HI.out.row on9 (fun g hg e => ?_)
        have := own_ne HI.out.row HY.out (by decide)
        rw [hg, e] at this
        exact this rfl
      · rw [HI.out.map, HM.out, List.take_length]
end Go.Proofs.Ytkcjfiifajjpiaa
