/-
  A range over a text, its iterator wherever it lies.
-/
import Derived.Test.YtcibcmfaebbhnaaDoorZBas
import Derived.Test.YtcibcmfaebbhnaaDoorZOnly
import Derived.Test.YtcibcmfaebbhnaaDoorZWds
import Derived.Laws.RangeAny
import Derived.Lib.TrimUEq
set_option linter.unusedVariables false
set_option linter.unusedSimpArgs false
namespace Go.Proofs.YtcibcmfaebbhnaaDoor
open Go.RowKit Go.WideShapes Go.ChangeShapes Q

def putObj (w : World) (k : Nat) (o : Obj) : World := { w with heap := w.heap.setIfInBounds k o }
/-- The iterator in its block. -/
def It (w : World) (k : Nat) (s : ByteArray) (pos : Nat) : Prop := w.heap[k]? = some (.stringIter s pos)
section
variable {P : Program} {w w' w1 : World} {k b pos : Nat} {s : ByteArray} {o : Obj}
theorem run_next_at (ty : TypeId) (hk : It w k s pos) (h : pos < s.size) :
    (Instr.next (.pointer (some ⟨k, 0, none⟩)) true ty).run P w = .ok (.tuple #[.bool true, .int .i64 pos, .int .i32 (Utf8.decode s pos).1]) (putObj w k (.stringIter s (pos + (Utf8.decode s pos).2))) := by
  unfold It at hk
  simp only [Instr.next, getObj, setObj, Sem.run_bind, Sem.run, hk, Result.andThen, h, if_true]
  simp [goInt, putObj]
theorem run_next_no (ty : TypeId) (hk : It w k s pos) (h : ¬ pos < s.size) : (Instr.next (.pointer (some ⟨k, 0, none⟩)) true ty).run P w = .ok (.tuple #[.bool false]) w := by
  unfold It at hk
  simp [Instr.next, getObj, Sem.run, hk, h]
theorem It.lt (h : It w k s pos) : k < w.heap.size := by
  rcases Nat.lt_or_ge k w.heap.size with hlt | hge
  · exact hlt
  · unfold It at h; rw [Array.getElem?_eq_none hge] at h; cases h
theorem It.new (w : World) (s : ByteArray) : It (w.iter s 0) w.heap.size s 0 := World.iter_heap w s 0
theorem It.put (h : It w k s pos) (q : Nat) : It (putObj w k (.stringIter s q)) k s q := by
  have := h.lt
  unfold It putObj
  simp [this]
theorem It.below (h : It w k s pos) (hb : Below w.heap.size w w') : It w' k s pos := (hb.block k h.lt).trans h
theorem It.grown {base n : Nat} {e : TypeId} {size : Nat} {v : Value} {xs : List Value} (h : It w k s pos) (ho : w.ownsRow base e size v n xs) (hg : w.grownBy w' v.ownBlock) : It w' k s pos := by
  refine (hg.block k h.lt ?_).trans h
  intro e
  rcases ho.2 with ⟨rfl, _⟩ | ⟨g', cap, cur, rfl, _, hh, _⟩
  · cases e
  · have : k = g' := by simpa [Value.ownBlock] using e
    subst this
    unfold It at h
    rw [h] at hh
    cases hh
theorem It.ne_blk {g : Nat} {t : TypeId} {cs : Array Value} (h : It w k s pos) (hb : Blk w g t cs) : g ≠ k := by
  rintro rfl
  unfold It at h
  unfold Blk at hb
  rw [h] at hb
  cases hb
theorem only_put (w : World) (k : Nat) (o : Obj) : Only (fun q => q = k) w (putObj w k o) :=
  ⟨rfl, rfl, rfl, by simp [putObj], fun q _ hq => by
    have : ¬ k = q := fun e => hq e.symm
    simp [putObj, Array.getElem?_setIfInBounds, this]⟩
theorem It.row {base n : Nat} {e : TypeId} {size : Nat} {v : Value} {xs : List Value} (h : It w k s pos) (ho : w.ownsRow base e size v n xs) (q : Nat) : (putObj w k (.stringIter s q)).ownsRow base e size v n xs := by
  refine own_only ho (only_put _ _ _) ?_
  rintro g hg rfl
  rcases ho.2 with ⟨rfl, _⟩ | ⟨g', cap, cur, rfl, _, hh, _⟩
  · cases hg
  · have : g' = g := by simpa [Value.ownBlock] using hg
    subst this
    unfold It at h
    rw [h] at hh
    cases hh
theorem It.blk {g : Nat} {t : TypeId} {cs : Array Value} (h : It w k s pos) (hb : Blk w g t cs) (q : Nat) : Blk (putObj w k (.stringIter s q)) g t cs := hb.only (only_put _ _ _) (h.ne_blk hb)
theorem It.low (h : Below b w w1) (hk : b ≤ k) (hs : b ≤ w1.heap.size) (o : Obj) : Below b w (putObj w1 k o) := h.trans ((only_put w1 k o).below hs (fun q hq => by omega))
theorem iterPos_at (h : It w k s pos) : w.iterPos k = pos := by
  unfold It at h
  simp [World.iterPos, h]
end
/-- The rune at a place, told of the bytes from there on. -/
theorem decode_dropL (s : ByteArray) (pos : Nat) (h : pos < s.size) : Utf8.decode s pos = Lib.decodeL (s.data.toList.drop pos) := (Lib.decodeL_drop s pos).symm
end Go.Proofs.YtcibcmfaebbhnaaDoor
