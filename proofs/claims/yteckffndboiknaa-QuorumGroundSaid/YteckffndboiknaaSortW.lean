/-
  Contract of sort.Slice at a list of lists, with the closure of Minimal.
-/
import Derived.Test.YteckffndboiknaaLay
import Derived.Test.YteckffndboiknaaOnly
set_option linter.unusedVariables false
set_option linter.unusedSimpArgs false
namespace Go.Proofs.Yteckffndboiknaa
open Go.RowKit Go.WideShapes Go.ChangeShapes Q Go.Shelf

/-- A row turned in place, draws, new blocks. -/
theorem sw_heap {α : Type} [Inhabited α] (enc : α → Value) (w : World) (n blk off : Nat) (d : Array α) (os : Array Obj) (k : Nat) (hk : k < w.heap.size) :
    (Sort.grow (Sort.putRow enc (Sort.ahead w n) blk off d) os).heap[k]? = if k = blk then (w.heap[k]?).map (Sort.onCells (Sort.putCells enc off d)) else w.heap[k]? := by
  rw [Sort.heap_grow_old _ _ (by simpa using hk)]
  show (w.heap.modify blk (Sort.onCells (Sort.putCells enc off d)))[k]? = _
  rw [Array.getElem?_modify]
  by_cases e : blk = k
  · rw [if_pos e, if_pos e.symm]
  · rw [if_neg e, if_neg (fun h => e h.symm)]
theorem sw_only {α : Type} [Inhabited α] (enc : α → Value) (w : World) (n blk off : Nat) (d : Array α) (os : Array Obj) : Only (fun k => k = blk) w (Sort.grow (Sort.putRow enc (Sort.ahead w n) blk off d) os) := by
  refine ⟨rfl, rfl, rfl, by simp, fun k hk hn => ?_⟩
  rw [sw_heap enc w n blk off d os k hk, if_neg hn]
theorem sw_blk {α : Type} [Inhabited α] (enc : α → Value) (w : World) (n blk off : Nat) (d : Array α) (os : Array Obj) {t : TypeId} {cs : Array Value} (h : Blk w blk t cs) : Blk (Sort.grow (Sort.putRow enc (Sort.ahead w n) blk off d) os) blk t (Sort.putCells enc off d cs) := by
  unfold Blk
  rw [sw_heap enc w n blk off d os blk h.lt, if_pos rfl]
  unfold Blk at h
  rw [h]
  rfl
theorem put_take {α : Type} [Inhabited α] (enc : α → Value) (d : Array α) (cs : Array Value) (h : d.size ≤ cs.size) : (Sort.putCells enc 0 d cs).toList.take d.size = d.toList.map enc := by
  apply List.ext_getElem?
  intro i
  rw [List.getElem?_take, List.getElem?_map]
  by_cases hi : i < d.size
  · rw [if_pos hi]
    unfold Sort.putCells
    rw [Array.getElem?_toList, Array.getElem?_mapIdx, Array.getElem?_eq_getElem (show i < cs.size by omega), Option.map_some, if_pos ⟨by omega, by omega⟩, Nat.sub_zero, getElem!_pos d i hi]
    simp [hi]
  · rw [if_neg hi, List.getElem?_eq_none (by simp; omega)]
    rfl
/-- One of a list. -/
abbrev Of (es : List En) : Type := { e : En // e ∈ es }
def ofV {es : List En} (e : Of es) : Value := e.1.v
def ofLt {es : List En} (a b : Of es) : Bool := lexB a.1.l b.1.l
theorem ofSwo (es : List En) : Sort.SWO (ofLt (es := es)) :=
  ⟨fun x => lexB_irrefl _, fun x y z => lexB_trans _ _ _, fun x y z => lexB_ntrans _ _ _⟩

set_option maxRecDepth 100000 in
set_option maxHeartbeats 1000000 in
theorem less_any (a blk N c i j : Nat) (W : World) (x y : En) (base : Nat) (ha : W.cell? ⟨a, 0, none⟩ = some (.slice (some ⟨blk, 0, none⟩) N c)) (hi : i < N) (hj : j < N)
    (ci : W.cell? ⟨blk, i, none⟩ = some x.v) (cj : W.cell? ⟨blk, j, none⟩ = some y.v) (hx : EnAt W base x) (hy : EnAt W base y) (hx16 : x.l.length ≤ 16) (hy16 : y.l.length ≤ 16) (hN : N ≤ 1000000) :
    Calls Try.prog 64 #[.int .i64 i, .int .i64 j, .pointer (some ⟨a, 0, none⟩)] W fun e w' => e = .returned (.bool (lexB x.l y.l)) ∧ ∃ q, w' = W.drewN q := by
  have HK : ∀ q, Hid (Calls Try.prog 65 #[.slice (some ⟨x.g, 0, none⟩) x.l.length x.cap, .slice (some ⟨y.g, 0, none⟩) y.l.length y.cap] (W.drewN q) fun e w' => e = .returned (.bool (lexB x.l y.l)) ∧ ∃ m, w' = (W.drewN q).drewN m) := fun q =>
    before_any _ _ _ _ _ _ _ _ _ _ _ hx.ri hy.ri hx16 hy16
  unfold En.v at ci cj
  have i0 : (0 : Int) ≤ (i : Int) := by omega
  have i1 : (i : Int) < (N : Int) := by omega
  have j0 : (0 : Int) ≤ (j : Int) := by omega
  have j1 : (j : Int) < (N : Int) := by omega
  clear hx hy hx16 hy16
  go_enter Try.func64, Try.ntmps64
  go_upto_region 1 with fail
  go_quiet ((go_at_call 65; first | exact quiet_add ((HK _).out) | exact Calls.quiet_of ((HK _).out)))
  go_wp2
  go_ret
  exact ⟨rfl, _, rfl⟩

noncomputable def siT : TypeInfo := (Try.prog.info? 76).get (by kernel_rfl)
noncomputable def siE : TypeInfo := (Try.prog.info? 32).get (by kernel_rfl)
theorem siK (n : Nat) (h2 : 2 ≤ n) : Lib.swapperK n siE 23 = 9 := by
  have a : siE.hasPointers = true := by kernel_rfl
  have b : (siE.bytes == 8) = false := by kernel_rfl
  have c : (n == 0) = false := by simp; omega
  have d : (n == 1) = false := by simp; omega
  simp [Lib.swapperK, a, b, c, d]
theorem own_some {w : World} {base : Nat} {e : TypeId} {size n : Nat} {v : Value} {xs : List Value} (h : w.ownsRow base e size v n xs) (hn : 0 < n) :
    ∃ g cap cur, v = .slice (some ⟨g, 0, none⟩) n cap ∧ base ≤ g ∧ w.heap[g]? = some (.cells cur e (0, 0)) ∧ n ≤ cap ∧ cap ≤ maxLen ∧ cur.size = cap * size ∧ cur.toList.take (n * size) = xs := by
  rcases h.2 with ⟨_, h0⟩ | h1
  · omega
  · exact h1
theorem EnAt.far {w w' : World} {base blk : Nat} {e : En} {t : TypeId} {cs : Array Value} (h : EnAt w base e) (ho : Only (fun k => k = blk) w w') (hb : Blk w blk t cs) (ht : t ≠ 3) : EnAt w' base e := by
  obtain ⟨cs3, h3⟩ := h.blk
  exact own_only h ho (fun g hg e2 => by
    unfold En.v at hg
    injection hg with hg
    have : e.g = blk := by show (⟨e.g, 0, none⟩ : Addr).block = blk; rw [← e2, ← hg]
    subst this
    exact Blk.ne_ h3 hb (fun e3 => ht e3.symm) rfl)

set_option maxRecDepth 100000 in
set_option maxHeartbeats 1000000 in
theorem sort_two (a : Nat) (v : Value) (es : List En) (base : Nat) (w : World) (hL : LL w base v es) (ha : Blk w a 76 #[v]) (h2 : 2 ≤ es.length) (hN : es.length ≤ 1000000) (hb : base ≤ w.heap.size) :
    Calls Try.prog 63 #[.iface 76 v, .func (.func 64) #[] #[.pointer (some ⟨a, 0, none⟩)]] w fun e w' => e = .returned (.tuple #[]) ∧
      ∃ es', LL w' base v es' ∧ es'.Perm es ∧ (es'.map En.l).Pairwise (fun x y => lexB y x = false) ∧ Blk w' a 76 #[v] ∧ Below base w w' := by
  obtain ⟨blk, c, cur, rfl, hge, hgc, hnc, hcm, hcs, htk⟩ := own_some hL.row (by omega)
  have hblk : Blk w blk 32 cur := hgc
  have hne : a ≠ blk := Blk.ne_ ha hblk (by decide)
  have hes : es ≠ [] := by intro h; rw [h] at h2; simp at h2
  obtain ⟨e0, he0⟩ := List.exists_mem_of_ne_nil es hes
  letI : Inhabited (Of es) := ⟨⟨e0, he0⟩⟩
  obtain ⟨d, hd⟩ : ∃ d : Array (Of es), d = es.attach.toArray := ⟨_, rfl⟩
  have hds : d.size = es.length := by rw [hd]; simp
  have hcsz : es.length ≤ cur.size := by rw [hcs]; omega
  have hcell : ∀ j, j < es.length → cur[j]? = some ((es[j]!).v) := by
    intro j hj
    have h1 : cur[j]? = cur.toList[j]? := by simp
    have h3 : (cur.toList.take (es.length * 1))[j]? = cur.toList[j]? := by rw [List.getElem?_take, if_pos (by omega)]
    rw [h1, ← h3, htk, List.getElem?_map, List.getElem?_eq_getElem hj, getElem!_pos es j hj]
    rfl
  have hdj : ∀ j, j < es.length → (d[j]!).1 = es[j]! := by
    intro j hj
    rw [getElem!_pos d j (by rw [hds]; exact hj), getElem!_pos es j hj]
    simp [hd]
  have hH : Sort.Holds (ofV (es := es)) w blk 0 d := by
    intro j hj
    rw [hds] at hj
    refine ⟨?_, hblk.frozen _⟩
    rw [Nat.zero_add, hblk.cell, hcell j hj]
    show some _ = some ((d[j]!).1.v)
    rw [hdj j hj]
  have hless : LessReads Try.prog 64 #[.pointer (some ⟨a, 0, none⟩)] (ofV (es := es)) ofLt blk 0 d.size w := by
    intro m os dk hs i j hi hj
    rw [hds] at hi hj hs
    obtain ⟨W, hW⟩ : ∃ W, W = sortWorld (ofV (es := es)) w blk 0 m dk os := ⟨_, rfl⟩
    have ho : Only (fun k => k = blk) w W := by rw [hW]; exact sw_only _ w m blk 0 dk os
    have hbW : Blk W blk 32 (Sort.putCells ofV 0 dk cur) := by rw [hW]; exact sw_blk _ w m blk 0 dk os hblk
    have hcell : ∀ t, t < es.length → W.cell? ⟨blk, t, none⟩ = some ((dk[t]!).1.v) := by
      intro t ht
      rw [hbW.cell]
      unfold Sort.putCells
      rw [Array.getElem?_mapIdx, Array.getElem?_eq_getElem (show t < cur.size by omega), Option.map_some, if_pos ⟨by omega, by omega⟩, Nat.sub_zero]
      rfl
    have hen : ∀ x : Of es, EnAt W base x.1 := fun x => (hL.ent x.1 x.2).far ho hblk (by decide)
    rw [← hW]
    exact less_any a blk es.length c i j W (dk[i]!).1 (dk[j]!).1 base ((ha.only ho (fun e => hne e)).cell 0) hi hj (hcell i hi) (hcell j hj) (hen _) (hen _) (hL.sh _ (dk[i]!).2) (hL.sh _ (dk[j]!).2) hN
  have hS := Any.sort_Slice_sorted sa6 76 32 siT siE (by kernel_rfl) (by kernel_rfl) (by kernel_rfl) (by kernel_rfl) 23 (fun _ => by kernel_rfl) (by kernel_rfl) (fun _ => by kernel_rfl) (ofV (es := es)) (fun _ => rfl) ofLt (ofSwo es) 64 _
    (enters_of Try.func64 (by kernel_rfl) rfl) blk 0 c d (by rw [hds]; exact h2) (by rw [hds]; omega) 95 (by rw [siK _ (by rw [hds]; exact h2)]; kernel_rfl) false
    (fun args W => run_callFunc_extern Try.func95 (by kernel_rfl) (by kernel_rfl) (by kernel_rfl) (e := Extern.ReflectliteSwapper.swap false) (by kernel_rfl) args W) w hless hH hblk.lt
  change Calls Try.prog 63 _ _ _ at hS
  rw [hds] at hS
  refine hS.mono ?_
  rintro e w' ⟨rfl, d', n, os, hp, hso, rfl⟩
  obtain ⟨W, hW⟩ : ∃ W, W = Sort.grow (Sort.putRow (ofV (es := es)) (Sort.ahead w n) blk 0 d') os := ⟨_, rfl⟩
  have ho : Only (fun k => k = blk) w W := by rw [hW]; exact sw_only _ w n blk 0 d' os
  have hbW : Blk W blk 32 (Sort.putCells ofV 0 d' cur) := by rw [hW]; exact sw_blk _ w n blk 0 d' os hblk
  rw [← hW]
  obtain ⟨hsz, _, hperm⟩ := hp
  rw [hds] at hsz
  have h1 : d'.extract 0 es.length = d' := by rw [← hsz]; simp
  have h3 : d.extract 0 es.length = d := by rw [← hds]; simp
  rw [h1, h3] at hperm
  have hp2 : (d'.toList.map (fun x : Of es => x.1)).Perm es := by
    have := hperm.map (fun x : Of es => x.1)
    rw [hd] at this
    simpa using this
  have hlen : (d'.toList.map (fun x : Of es => x.1)).length = es.length := hp2.length_eq
  refine ⟨rfl, d'.toList.map (fun x : Of es => x.1), ⟨?_, ?_, ?_, ?_⟩, hp2, ?_, ha.only ho (fun e => hne e), ho.below hb (fun k hk e => by omega)⟩
  · rw [hlen]
    refine ⟨by simp [hsz], .inr ⟨blk, c, _, rfl, hge, hbW, hnc, hcm, ?_, ?_⟩⟩
    · unfold Sort.putCells
      simp [hcs]
    · rw [Nat.mul_one, ← hsz, put_take _ _ _ (by rw [hsz]; exact hcsz)]
      simp [ofV]
  · intro e he
    exact (hL.ent e (hp2.mem_iff.1 he)).far ho hblk (by decide)
  · exact (hp2.map En.g).symm.nodup hL.nd
  · intro e he
    exact hL.sh e (hp2.mem_iff.1 he)
  · rw [List.map_map, List.pairwise_map, List.pairwise_iff_getElem]
    intro i j hi hj hij
    have hi' : i < d'.size := by simpa using hi
    have hj' : j < d'.size := by simpa using hj
    have := hso i j (Nat.zero_le _) hij (by omega)
    rw [getElem!_pos d' i hi', getElem!_pos d' j hj'] at this
    exact this

theorem pw_short {α : Type} {R : α → α → Prop} : ∀ (l : List α), l.length ≤ 1 → l.Pairwise R
  | [], _ => List.Pairwise.nil
  | [x], _ => List.pairwise_singleton _ _
  | x :: y :: r, h => by simp at h
set_option maxRecDepth 100000 in
theorem tiny_any (p : Option Addr) (n c : Nat) (h1 : n ≤ 1) (lb : Array Value) (w : World) :
    Calls Try.prog 63 #[.iface 76 (.slice p n c), .func (.func 64) #[] lb] w fun e w' => e = .returned (.tuple #[]) ∧ ∃ os, w' = Sort.grow w os := by
  have hK : Lib.swapperK n siE 23 = n + 1 := by
    rcases Nat.eq_zero_or_pos n with h | h
    · subst h; simp [Lib.swapperK]
    · obtain rfl : n = 1 := by omega
      simp [Lib.swapperK]
  exact Any.sort_Slice_tiny sa6 76 32 siT siE (by kernel_rfl) (by kernel_rfl) (by kernel_rfl) (by kernel_rfl) 23 (fun _ => by kernel_rfl) p n c h1 (87 + n) (by
    rw [hK]
    rcases Nat.eq_zero_or_pos n with h | h
    · subst h; kernel_rfl
    · obtain rfl : n = 1 := by omega
      kernel_rfl) (.func 64) #[] lb w
set_option maxRecDepth 100000 in
theorem sort_any (a : Nat) (v : Value) (es : List En) (base : Nat) (w : World) (hL : LL w base v es) (ha : Blk w a 76 #[v]) (hN : es.length ≤ 1000000) (hb : base ≤ w.heap.size) :
    Calls Try.prog 63 #[.iface 76 v, .func (.func 64) #[] #[.pointer (some ⟨a, 0, none⟩)]] w fun e w' => e = .returned (.tuple #[]) ∧
      ∃ es', LL w' base v es' ∧ es'.Perm es ∧ (es'.map En.l).Pairwise (fun x y => lexB y x = false) ∧ Blk w' a 76 #[v] ∧ Below base w w' := by
  by_cases h2 : 2 ≤ es.length
  · exact sort_two a v es base w hL ha h2 hN hb
  · obtain ⟨p, c, rfl, _, _⟩ := own_slice hL.row
    have hS : Calls Try.prog 63 #[.iface 76 (.slice p es.length c), .func (.func 64) #[] #[.pointer (some ⟨a, 0, none⟩)]] w fun e w' => e = .returned (.tuple #[]) ∧ ∃ os, w' = Sort.grow w os := tiny_any p es.length c (by omega) _ w
    refine hS.mono ?_
    rintro e w' ⟨rfl, os, rfl⟩
    have ho : Below w.heap.size w (Sort.grow w os) := ⟨rfl, rfl, rfl, by simp, fun k hk => Sort.heap_grow_old w os hk⟩
    refine ⟨rfl, es, hL.below ho, List.Perm.refl _, ?_, ha.below ho ha.lt, ho.mono hb⟩
    exact pw_short _ (by simp; omega)
end Go.Proofs.Yteckffndboiknaa
