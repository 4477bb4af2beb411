/-
  Contracts of Copied, SameBytes.
-/
import Derived.Test.YtkkckinnhkpcmaaMPush
set_option linter.unusedVariables false
namespace Go.Proofs.Ytkkckinnhkpcmaa
open Go.RowKit Go.WideShapes Go.ChangeShapes Q

set_option maxRecDepth 100000 in
theorem copied_any (A : Option Addr) (n c : Nat) (bs : List Int) (w : World) (hb : Reads w w.heap.size 1 A n (byts bs)) (hn : n ≤ 140737488351232) :
    Calls Try.prog 38 #[.slice A n c] w fun e w' => ∃ v, e = .returned v ∧ Bod w' v bs ∧ St (fun _ => False) w w' ∧ ∀ g, v.ownBlock = some g → w.heap.size ≤ g := by
  obtain ⟨i0, hi, hz0, hz1, hz2⟩ := info_parts info5
  have hl : bs.length = n := by have := hb.len_; simpa [byts] using this
  have HB := hide (hb.alloc (Nat.le_refl _) (.cells #[] 5))
  have HN := hide (own_none (base := 0) (size := 1) (Blk.new w 5 #[]) (Nat.zero_le _))
  clear hb
  subst hl
  go_enter Try.func38, Try.ntmps38
  go_wp2_with (at_builtin; refine wpList_append_any _ rfl _ _ _ rfl 0 5 i0 _ 1 1 Try.underlying28 hi hz0 hz1 hz2 rfl (by omega) _ 0 [] rfl HN.out w.heap.size _ _ _ (byts bs) rfl HB.out (byts_one bs) (by unfold maxLen; omega) (by omega) (Nat.zero_le _) ?_; intro v1 w1 hown1 hg1 hat1; have HO := hide hown1; have HG := hide hg1; have HA := hide hat1; clear hown1 hg1 hat1)
  go_ret
  have hnew : ∀ g, (Value.slice (some ⟨w.heap.size, 0, none⟩) 0 0).ownBlock = some g → w.heap.size ≤ g := fun g e => by
    have e' : w.heap.size = g := by simpa [Value.ownBlock] using e
    exact Nat.le_of_eq e'
  refine ⟨v1, rfl, ?_, ?_, ?_⟩
  · have := HO.out
    simpa [Bod] using this
  · exact ((St.refl (fun _ => False) w).alloc _).grown_new HG.out hnew
  · intro g hg
    rcases HA.out with h | h
    · exact hnew g (h.symm.trans hg)
    · rw [h] at hg
      injection hg with hg
      rw [← hg]
      simp

theorem byt_at {w : World} {B n k : Nat} {A : Option Addr} {bs : List Int} (h : Reads w B 1 A n (byts bs)) (hk : k < n) : ∃ ad, A = some ad ∧ ad.block < B ∧ w.cell? (ad.add k) = some (.int .u8 (nth bs k)) := by
  obtain ⟨ad, u, hA, hb, hx, hc⟩ := Reads.at_ h hk
  refine ⟨ad, hA, hb, hc.trans ?_⟩
  have hl : bs.length = n := by have := h.len_; simpa [byts] using this
  rw [← hx]
  simp only [byts, List.getElem?_map, nth, List.getD]
  rw [List.getElem?_eq_getElem (by omega)]
  rfl
theorem take_nth {xs ys : List Int} {k : Nat} (hl : xs.length = ys.length) (hk : k < xs.length) (h : xs.take k = ys.take k) (he : nth xs k = nth ys k) : xs.take (k + 1) = ys.take (k + 1) := by
  rw [List.take_add_one, List.take_add_one, h]
  simp only [nth, List.getD] at he
  have h1 := List.getElem?_eq_getElem hk
  have h2 := List.getElem?_eq_getElem (l := ys) (i := k) (by omega)
  rw [h1, h2] at he ⊢
  simp only [Option.getD_some] at he
  rw [he]
theorem nth_ne {xs ys : List Int} {k : Nat} (he : nth xs k ≠ nth ys k) : xs ≠ ys := fun h => he (by rw [h])

set_option maxRecDepth 100000 in
theorem same_any (A A' : Option Addr) (n n' c c' : Nat) (xs ys : List Int) (w : World) (h : Reads w w.heap.size 1 A n (byts xs)) (h' : Reads w w.heap.size 1 A' n' (byts ys)) (hn : n ≤ 140737488351232) (hn' : n' ≤ 140737488351232) :
    Calls Try.prog 40 #[.slice A n c, .slice A' n' c'] w fun e w' => e = .returned (.bool (decide (xs = ys))) ∧ ∃ m, w' = w.drewN m := by
  have hl : xs.length = n := by have := h.len_; simpa [byts] using this
  have hl' : ys.length = n' := by have := h'.len_; simpa [byts] using this
  by_cases hd : n = n'
  · subst hd
    have HL := hide (hl.trans hl'.symm)
    have d0 : ((n : Int) == (n : Int)) = true := by simp
    go_enter Try.func40, Try.ntmps40
    go_wp2
    go_loopw [5] (fun i wr => ∃ k : Nat, k ≤ n ∧ i = .int .i64 k ∧ Hid (xs.take k = ys.take k) ∧ ∃ m, wr = w.drewN m) (fun i _ => n - (intOf i).toNat)
    case atStart => exact ⟨0, Nat.zero_le _, rfl, rfl, 0, rfl⟩
    case round =>
      obtain ⟨k, hk, rfl, ht, m, rfl⟩ := hrel
      by_cases hlt : k < n
      · obtain ⟨ad, rfl, _, hc⟩ := byt_at h hlt
        obtain ⟨ad', rfl, _, hc'⟩ := byt_at h' hlt
        by_cases he : nth xs k = nth ys k
        · have ht' := hide (take_nth HL.out (by omega) ht.out he)
          rw [← he] at hc'
          generalize nth xs k = a at hc hc'
          have d1 : (a != a) = false := by simp
          clear he
          go_wp2
          go_quiet (fail)
          go_wp2
          go_roundw
          case rel => exact ⟨k + 1, by omega, by go_num, ht', _, rfl⟩
          case measure => simp [intOf]; omega
        · have hne := hide (nth_ne he)
          have d1 : (nth xs k != nth ys k) = true := by simpa using he
          generalize nth xs k = a at hc d1
          generalize nth ys k = b at hc' d1
          clear he
          go_wp2
          go_quiet (fail)
          go_wp2
          go_ret
          exact ⟨ret_bool (by simpa using hne.out), _, by rw [World.drewN_drewN]⟩
      · obtain rfl : k = n := by omega
        have he : Hid (xs = ys) := by
          have := ht.out
          rwa [List.take_of_length_le (by omega), List.take_of_length_le (by omega)] at this
        go_wp2
        go_ret
        exact ⟨ret_bool (by simpa using he.out), _, rfl⟩
  · have hne : Hid (xs ≠ ys) := fun e => hd (by rw [← hl, ← hl', e])
    have d0 : ((n : Int) == (n' : Int)) = false := by rw [beq_eq_false_iff_ne]; omega
    clear hd
    go_enter Try.func40, Try.ntmps40
    go_wp2
    go_ret
    exact ⟨ret_bool (by simpa using hne.out), 0, rfl⟩
end Go.Proofs.Ytkkckinnhkpcmaa
