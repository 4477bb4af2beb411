/-
  The law's flat (a text without line ends) and idle (how many events are no-ops). The law's short: is a script's text within its bound, whatever it is made of?
-/
import Derived.Test.YtcibcmfaebbhnaaDoorZSms
import Derived.Test.YtcibcmfaebbhnaaDoorZLbp
import Derived.Test.YtcibcmfaebbhnaaDoorZPrz
set_option linter.unusedVariables false
set_option linter.unusedSimpArgs false
namespace Go.Proofs.YtcibcmfaebbhnaaDoor
open Go.RowKit Go.WideShapes Go.ChangeShapes Q
set_option maxRecDepth 100000 in
set_option maxHeartbeats 2000000 in
theorem idle_at (nd wn bs st cp rm fl : Int) (A Ae : Option Addr) (vn k n ke : Nat) (ms : List Em) (w : World) (hr : Reads w w.heap.size 13 Ae n (emCells ms)) (hn : ms.length = n) (hb : n ≤ 4001) :
    Calls Tryd.prog 20 #[.agg #[.int .i64 nd, .int .i64 wn, .int .i64 bs, .int .i64 st, .int .i64 cp, .int .i64 rm, .int .i64 fl, .slice A vn k, .slice Ae n ke]] w fun e w' => e = .returned (.int .i64 (idleN (ms.map Em.ev) : Int)) ∧ Below w.heap.size w w' := by
  have HR := hide hr
  have HN := hide hn
  clear hr hn
  go_enter Tryd.func20, Tryd.ntmps20
  go_upto_region 3 with fail
  generalize hW : World.alloc w _ = W
  have hbl : Below w.heap.size w W := by rw [← hW]; exact (Below.refl _ _).alloc (Nat.le_refl _) _
  have HX : Hid (Blk W w.heap.size 47 #[.int .i64 nd, .int .i64 wn, .int .i64 bs, .int .i64 st, .int .i64 cp, .int .i64 rm, .int .i64 fl, .slice A vn k, .slice Ae n ke]) := by show Blk _ _ _ _; rw [← hW]; exact Blk.new _ _ _
  have HB := hide hbl
  clear hW hbl
  have k8 : W.cell? ⟨w.heap.size, 8, none⟩ = some (.slice Ae n ke) := HX.out.cell 8
  go_loopw [3, 4] (fun v i wr => ∃ j c : Nat, j ≤ n ∧ c ≤ j ∧ i = .int .i64 j ∧ v = .int .i64 c ∧ Hid (c = idleN ((ms.map Em.ev).take j)) ∧ wr = W) (fun _ i _ => n - (intOf i).toNat)
  case atStart => exact ⟨0, 0, Nat.zero_le _, Nat.le_refl _, rfl, rfl, rfl, rfl⟩
  case round =>
    obtain ⟨j, c, hj, hcj, rfl, rfl, HC, rfl⟩ := hrel
    have j0 : (0 : Int) ≤ (j : Int) := by omega
    by_cases hlt : j < n
    · have js : (j : Int) < (n : Int) := by omega
      obtain ⟨b, off, m, rfl, _, hm, qc⟩ := ems_at (w := wr) (B := w.heap.size) (Reads.below HR.out HB.out) HN.out hlt
      have q0 : wr.cell? ⟨b, off + j * 13, none⟩ = some (.int .i64 m.kd) := by
        have := qc 0 (.int .i64 m.kd) rfl
        simpa [Addr.add] using this
      have HTK : Hid (idleN ((ms.map Em.ev).take (j + 1)) = c + if m.kd = 0 then 1 else 0) := by
        show _ = _
        rw [List.take_add_one, List.getElem?_map, hm]
        show idleN ((ms.map Em.ev).take j ++ [m.ev]) = _
        rw [idle_snoc, ← HC.out]
        rfl
      clear hm qc
      by_cases hk0 : m.kd = 0
      · have HC2 : Hid (c + 1 = idleN ((ms.map Em.ev).take (j + 1))) := by show _ = _; rw [HTK.out, if_pos hk0]
        have hiw : IntKind.i64.wrap ((c : Int) + 1) = (c : Int) + 1 := i64_wrap _ (by omega) (by omega)
        rw [hk0] at q0
        clear hk0
        go_wp2_with fail
        go_roundw
        case rel => first | exact ⟨j + 1, c + 1, by omega, by omega, by go_num, by go_num, HC2, rfl⟩ | exact ⟨j + 1, c + 1, by omega, by omega, by go_num, by go_num, HC2, trivial⟩
        case measure => simp [intOf]; omega
      · have HC2 : Hid (c = idleN ((ms.map Em.ev).take (j + 1))) := by show _ = _; rw [HTK.out, if_neg hk0]; rfl
        have e3 : (m.kd == 0) = false := by rw [beq_eq_false_iff_ne]; exact hk0
        go_wp2_with fail
        go_roundw
        case rel => first | exact ⟨j + 1, c, by omega, by omega, by go_num, rfl, HC2, rfl⟩ | exact ⟨j + 1, c, by omega, by omega, by go_num, rfl, HC2, trivial⟩
        case measure => simp [intOf]; omega
    · have js : ¬ (j : Int) < (n : Int) := by omega
      have hjn : j = n := by omega
      have HF : Hid (c = idleN (ms.map Em.ev)) := by show _ = _; rw [HC.out, hjn, List.take_of_length_le (by rw [List.length_map, HN.out]; exact Nat.le_refl _)]
      clear hlt hjn
      go_wp2_with fail
      go_ret
      exact ⟨by rw [← HF.out]; rfl, HB.out⟩
/-- How many of a script's events are no-ops. -/
theorem idle_any {s : Sm} (w : World) (h : Reads w w.heap.size 13 s.Ae s.ms.length (emCells s.ms)) (hb : s.ms.length ≤ 4001) :
    Calls Tryd.prog 20 #[.agg s.cs] w fun e w' => e = .returned (.int .i64 (idleN (s.ms.map Em.ev) : Int)) ∧ Below w.heap.size w w' :=
  idle_at s.c.nodes s.c.window s.c.base s.c.step s.c.cap s.c.room s.c.floor s.A s.Ae s.c.votes.length s.k s.ms.length s.ke s.ms w h rfl hb
end Go.Proofs.YtcibcmfaebbhnaaDoor
set_option linter.unusedVariables false
set_option linter.unusedSimpArgs false
namespace Go.Proofs.YtcibcmfaebbhnaaDoor
open Go.RowKit Go.WideShapes Go.ChangeShapes Q
def sumB (es : List Ev) : Nat := (es.map fun e => 220 + 4 * e.bd.length).sum
theorem sumB_snoc (es : List Ev) (e : Ev) : sumB (es ++ [e]) = sumB es + (220 + 4 * e.bd.length) := by
  unfold sumB
  rw [List.map_append, List.sum_append]
  simp
set_option maxRecDepth 100000 in
set_option maxHeartbeats 2000000 in
theorem short_at (nd wn bs st cp rm fl : Int) (A Ae : Option Addr) (vn k n ke : Nat) (ms : List Em) (w : World) (hr : Reads w w.heap.size 13 Ae n (emCells ms)) (hn : ms.length = n) (hb : n ≤ 4001) (hm : ∀ m ∈ ms, m.nb ≤ 10000000 ∧ m.bd.length = m.nb) :
    Calls Tryd.prog 24 #[.agg #[.int .i64 nd, .int .i64 wn, .int .i64 bs, .int .i64 st, .int .i64 cp, .int .i64 rm, .int .i64 fl, .slice A vn k, .slice Ae n ke]] w fun e w' => e = .returned (.bool (decide (shortN (ms.map Em.ev) ≤ 400000))) ∧ Below w.heap.size w w' := by
  have HR := hide hr
  have HN := hide hn
  have HM := hide hm
  clear hr hn hm
  go_enter Tryd.func24, Tryd.ntmps24
  go_upto_region 3 with fail
  generalize hW : World.alloc w _ = W
  have hbl : Below w.heap.size w W := by rw [← hW]; exact (Below.refl _ _).alloc (Nat.le_refl _) _
  have HX : Hid (Blk W w.heap.size 47 #[.int .i64 nd, .int .i64 wn, .int .i64 bs, .int .i64 st, .int .i64 cp, .int .i64 rm, .int .i64 fl, .slice A vn k, .slice Ae n ke]) := by show Blk _ _ _ _; rw [← hW]; exact Blk.new _ _ _
  have HB := hide hbl
  clear hW hbl
  have k8 : W.cell? ⟨w.heap.size, 8, none⟩ = some (.slice Ae n ke) := HX.out.cell 8
  go_loopw [3, 4] (fun v i wr => ∃ j c : Nat, j ≤ n ∧ c ≤ 300 + 40000220 * j ∧ i = .int .i64 j ∧ v = .int .i64 c ∧ Hid (c = 300 + sumB ((ms.map Em.ev).take j)) ∧ wr = W) (fun _ i _ => n - (intOf i).toNat)
  case atStart => exact ⟨0, 300, Nat.zero_le _, Nat.le_refl _, rfl, rfl, rfl, rfl⟩
  case round =>
    obtain ⟨j, c, hj, hcj, rfl, rfl, HC, rfl⟩ := hrel
    have j0 : (0 : Int) ≤ (j : Int) := by omega
    by_cases hlt : j < n
    · have js : (j : Int) < (n : Int) := by omega
      obtain ⟨b, off, m, rfl, _, hm, qc⟩ := ems_at (w := wr) (B := w.heap.size) (Reads.below HR.out HB.out) HN.out hlt
      have q4 : wr.cell? ⟨b, off + j * 13 + 4, none⟩ = some (.slice m.Ab m.nb m.cb) := by
        have := qc 4 (.slice m.Ab m.nb m.cb) rfl
        simpa [Addr.add] using this
      obtain ⟨hnb, hbd⟩ := HM.out m (List.mem_of_getElem? hm)
      have HTK : Hid (sumB ((ms.map Em.ev).take (j + 1)) = sumB ((ms.map Em.ev).take j) + (220 + 4 * m.nb)) := by
        show _ = _
        rw [List.take_add_one, List.getElem?_map, hm]
        show sumB ((ms.map Em.ev).take j ++ [m.ev]) = _
        rw [sumB_snoc, ← hbd]
        rfl
      have HC2 : Hid (c + 220 + 4 * m.nb = 300 + sumB ((ms.map Em.ev).take (j + 1))) := by
        show _ = _
        have h1 := HC.out
        have h2 := HTK.out
        omega
      have w1 : IntKind.i64.wrap ((c : Int) + 220) = (c : Int) + 220 := i64_wrap _ (by omega) (by omega)
      have w2 : IntKind.i64.wrap (4 * (m.nb : Int)) = 4 * (m.nb : Int) := i64_wrap _ (by omega) (by omega)
      have w3 : IntKind.i64.wrap ((c : Int) + 220 + 4 * (m.nb : Int)) = (c : Int) + 220 + 4 * (m.nb : Int) := i64_wrap _ (by omega) (by omega)
      clear hm qc hbd HTK
      go_wp2_with fail
      go_roundw
      case rel => first | exact ⟨j + 1, c + 220 + 4 * m.nb, by omega, by omega, by go_num, by go_num, HC2, rfl⟩ | exact ⟨j + 1, c + 220 + 4 * m.nb, by omega, by omega, by go_num, by go_num, HC2, trivial⟩
      case measure => simp [intOf]; omega
    · have js : ¬ (j : Int) < (n : Int) := by omega
      have hjn : j = n := by omega
      have HF : Hid (c = shortN (ms.map Em.ev)) := by
        show _ = _
        rw [HC.out, hjn, List.take_of_length_le (by rw [List.length_map, HN.out]; exact Nat.le_refl _)]
        rfl
      clear hlt hjn
      by_cases hc4 : c ≤ 400000
      · have e4 : (c : Int) ≤ 400000 := by omega
        have HD : Hid (decide (shortN (ms.map Em.ev) ≤ 400000) = true) := by show _ = _; rw [← HF.out]; exact decide_eq_true hc4
        clear hc4
        go_wp2_with fail
        go_ret
        exact ⟨by rw [HD.out]; rfl, HB.out⟩
      · have e4 : ¬ (c : Int) ≤ 400000 := by omega
        have HD : Hid (decide (shortN (ms.map Em.ev) ≤ 400000) = false) := by show _ = _; rw [← HF.out]; exact decide_eq_false hc4
        clear hc4
        go_wp2_with fail
        go_ret
        exact ⟨by rw [HD.out]; rfl, HB.out⟩
theorem short_any (s : Sm) (w : World) (h : SmIn w w.heap.size s) (hn : s.ms.length ≤ 4001) (hm : ∀ m ∈ s.ms, m.nb ≤ 10000000) :
    Calls Tryd.prog 24 #[.agg s.cs] w fun e w' => e = .returned (.bool (decide (shortN s.sc.es ≤ 400000))) ∧ Below w.heap.size w w' :=
  short_at s.c.nodes s.c.window s.c.base s.c.step s.c.cap s.c.room s.c.floor s.A s.Ae s.c.votes.length s.k s.ms.length s.ke s.ms w h.row rfl hn (fun m hmm => ⟨hm m hmm, (h.ent m hmm).nb_len⟩)
end Go.Proofs.YtcibcmfaebbhnaaDoor
