/-
  A copied script in a cell, and one event more at its end.
-/
import Derived.Test.YtkcjfiifajjpiaaPremL
import Derived.Deep.RegionLaw
set_option linter.unusedVariables false
set_option linter.unusedSimpArgs false
namespace Go.Proofs.Ytkcjfiifajjpiaa
open Go.RowKit Go.WideShapes Go.ChangeShapes Q

def nostr : ByteArray := ⟨#[]⟩
theorem RN.none_ {t : TypeId} {w : World} {xs : List Value} (h : xs = []) : RN t w none 0 xs := by subst h; exact ⟨rfl, fun h => absurd h (by omega)⟩
/-- The copy of a script (its cell g10, its votes, its events), beside the box of the call's argument. -/
structure MI (w wr : World) (base g : Nat) (C1 : Array Value) (a0 a1 a2 a3 a4 a5 a6 : Int) (n : Nat) (vs : List Int) (V' : Option Addr) (k' : Nat) (E' : Option Addr) (q f' : Nat) (l' : List El) : Prop where
  b1 : Blk wr base 35 C1
  c : Blk wr g 33 #[.int .i64 a0, .int .i64 a1, .int .i64 a2, .int .i64 a3, .int .i64 a4, .int .i64 a5, .int .i64 a6, .slice V' n k', .slice E' q f']
  ge : base ≤ g
  row : wr.ownsRow base 45 13 (.slice E' q f') q (ecells l')
  len : l'.length = q
  own : ∀ x ∈ l', x.Own wr
  rn : RN 3 wr V' n (ints vs)
  st : St (fun q => base ≤ q) w wr
section
variable {w wr : World} {base g : Nat} {C1 : Array Value} {a0 a1 a2 a3 a4 a5 a6 : Int} {n : Nat} {vs : List Int} {V' : Option Addr} {k' : Nat} {E' : Option Addr} {q f' : Nat} {l' : List El}
theorem MI.evs (h : MI w wr base g C1 a0 a1 a2 a3 a4 a5 a6 n vs V' k' E' q f' l') : EvsIn wr wr.heap.size E' l' :=
  EvsOwn.in_ (base := base) (c := f') ⟨by rw [h.len]; exact h.row, h.own⟩
theorem MI.quiet (h : MI w wr base g C1 a0 a1 a2 a3 a4 a5 a6 n vs V' k' E' q f' l') {w' : World} (hs : St (fun _ => False) wr w') : MI w w' base g C1 a0 a1 a2 a3 a4 a5 a6 n vs V' k' E' q f' l' :=
  ⟨h.b1.st hs (fun e => e), h.c.st hs (fun e => e), h.ge, own_st0 h.row hs, h.len, fun x hx => (h.own x hx).st hs, h.rn.st (.inl rfl) hs, h.st.trans (hs.mono (fun _ _ e => e.elim))⟩
/-- Behind the append and the store. -/
theorem MI.push (h : MI w wr base g C1 a0 a1 a2 a3 a4 a5 a6 n vs V' k' E' q f' l') {x : El} (hx : x.Own wr) {g6 cap : Nat} {w6 : World} (hxs : x.cells.toArray.toList = x.cells)
    (hown : w6.ownsRow base 45 13 (.slice (some ⟨g6, 0, none⟩) (q + 1) cap) (q + 1) (ecells l' ++ x.cells)) (hgr : (wr.alloc (.cells x.cells.toArray 45)).grownBy w6 (Value.slice E' q f').ownBlock) :
    MI w (w6.setCell ⟨g, 8, none⟩ (.slice (some ⟨g6, 0, none⟩) (q + 1) cap)) base g C1 a0 a1 a2 a3 a4 a5 a6 n vs V' k' (some ⟨g6, 0, none⟩) (q + 1) cap (l' ++ [x]) ∧
      Blk w6 g 33 #[.int .i64 a0, .int .i64 a1, .int .i64 a2, .int .i64 a3, .int .i64 a4, .int .i64 a5, .int .i64 a6, .slice V' n k', .slice E' q f'] := by
  have s06 : St (fun q => base ≤ q) wr w6 := ((St.refl _ wr).alloc _).grown hgr (fun g' e => by
    obtain ⟨hge, cs, hb⟩ := own_blk h.row e
    exact ⟨⟨45, cs, hb.alloc _, not35_45⟩, fun _ => hge⟩)
  have hc6 : Blk w6 g 33 _ := (h.c.alloc _).grown hgr (own_ne h.row h.c (by decide))
  have hb6 : Blk w6 base 35 C1 := (h.b1.alloc _).grown hgr (own_ne h.row h.b1 (by decide))
  have s67 : St (fun q => base ≤ q) w6 (w6.setCell ⟨g, 8, none⟩ (.slice (some ⟨g6, 0, none⟩) (q + 1) cap)) := (St.refl _ w6).setCell hc6 not35_33 (fun _ => h.ge) _
  refine ⟨⟨hb6.far (Blk.ne_ hb6 hc6 (by decide)) _, hc6.set_ 8 _, h.ge, ?_, by simp [h.len], ?_, (h.rn.st (.inl rfl) s06).st (.inl rfl) s67, (h.st.trans s06).trans s67⟩, hc6⟩
  · rw [ecells_snoc]
    refine own_only hown ((Only.refl (fun q => q = g) w6).setCell (p := ⟨g, 8, none⟩) (fun _ => rfl) _) (fun g' hg e => ?_)
    have := own_ne hown hc6 (by decide)
    rw [hg, e] at this
    exact this rfl
  · intro y hy
    rcases List.mem_append.1 hy with hy | hy
    · exact ((h.own y hy).st s06).st s67
    · obtain rfl := List.mem_singleton.1 hy
      exact (hx.st s06).st s67
end
/-- An append of elements that lie in a block known whole, as a step of a region that draws. -/
theorem step_push {P : Program} (w : World) {ops : Array Oper} {o : Oper} {a : Act} {K : Act → World → Prop} {Q : Exit → Act → World → Prop} {E : Prop} (hgd : o.guard = none) (s x : Operand) (t : TypeId)
    (ho : o.op = .call { callee := .builtin .append, args := #[s, x], argTypes := #[t, t] })
    (base : Nat) (e : TypeId) (i : TypeInfo) (z : Value) (size bytes : Nat) (ht : P.underlying t = some (.slice e)) (hi : P.info? e = some i) (hz : i.zero = some z)
    (hsize : i.size = size) (hby : i.bytes = bytes) (hzs : z.cells.size = size) (hsz : 0 < size)
    (v : Value) (n : Nat) (xs : List Value) (hs : a.eval s = v) (hown : w.ownsRow base e size v n xs)
    (gx m c : Nat) (cs : Array Value) (hx : a.eval x = .slice (some ⟨gx, 0, none⟩) m c) (hb : Blk w gx e cs) (hcs : cs.size = m * size) (h1 : ∀ u ∈ cs.toList, u.oneCell' = true)
    (hm : 0 < m) (h63 : n + m ≤ maxLen) (hbytes : (n + m) * bytes ≤ 140737488355328) (hbase : base ≤ w.heap.size)
    (h : ∀ g cap w', w'.ownsRow base e size (.slice (some ⟨g, 0, none⟩) (n + m) cap) (n + m) (xs ++ cs.toList) → w.grownBy w' v.ownBlock → (v.ownBlock = some g ∨ g = w.heap.size) → g < w'.heap.size → K (a.put o.dst (.slice (some ⟨g, 0, none⟩) (n + m) cap)) w') :
    if Region.wanted o (yielded ops a.tmps) = true then Oper.wp P o a w K Q else E :=
  step_append_lies w hgd s x t ho base e i z size bytes ht hi hz hsize hby hzs hsz v n xs hs hown ⟨gx, 0, none⟩ m c cs.toList hx (by simpa using hcs) (World.news_of_block hb) h1 hm h63 hbytes hbase w.heap.size rfl h


theorem EvsIn.nil (w : World) (B : Nat) : EvsIn w B none [] := ⟨⟨rfl, fun h => absurd h (by simp)⟩, fun x hx => by cases hx⟩
theorem ev0_own (w : World) (k a : Int) : (El.mk0 k a none 0 []).Own w := ⟨RN.none_ rfl, by simp [El.mk0], RN.none_ rfl, by simp [El.mk0]⟩

theorem rck (nd wn bs st cp rm fl : Int) (vs : List Int) (A : Option Addr) (n k B : Nat) (w : World) (h : RI w B A n vs) (hB : B ≤ w.heap.size) (hn : n ≤ 17592186044416) :
    Calls Try.prog 19 #[.agg #[.int .i64 nd, .int .i64 wn, .int .i64 bs, .int .i64 st, .int .i64 cp, .int .i64 rm, .int .i64 fl, .slice A n k]] w fun e w' => e = .returned (.int .i64 (Cfg.err ⟨nd, wn, bs, st, cp, rm, fl, vs⟩)) ∧ St (fun _ => False) w w' :=
  (rcheck_any nd wn bs st cp rm fl vs A n k w (h.more hB) hn).mono fun e w' hh => ⟨hh.1, by rw [← hh.2]; exact (St.refl _ w).alloc _⟩
end Go.Proofs.Ytkcjfiifajjpiaa
