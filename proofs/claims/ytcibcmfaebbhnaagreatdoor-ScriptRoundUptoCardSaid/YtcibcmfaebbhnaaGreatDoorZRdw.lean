/-
  The law's flat (a text without line ends) and idle (how many events are no-ops). The law's short: is a script's text within its bound, whatever it is made of? A copied script's events may be written where the script's may. A guarded operation with its value; the law's num. Plain: an event that was read may be written, and is read back.
-/
import Derived.Test.YtcibcmfaebbhnaaGreatDoorZSms
import Derived.Test.YtcibcmfaebbhnaaGreatDoorZPrz
import Derived.Test.YtcibcmfaebbhnaaGreatDoorZApi
import Derived.Test.YtcibcmfaebbhnaaGreatDoorZPrp
import Derived.Test.YtcibcmfaebbhnaaGreatDoorZRun
set_option linter.unusedVariables false
set_option linter.unusedSimpArgs false
namespace Go.Proofs.YtcibcmfaebbhnaaGreatDoor
open Go.RowKit Go.WideShapes Go.ChangeShapes Q
set_option maxRecDepth 100000 in
set_option maxHeartbeats 2000000 in
theorem idle_at (nd wn bs st cp rm fl : Int) (A Ae : Option Addr) (vn k n ke : Nat) (ms : List Em) (w : World) (hr : Reads w w.heap.size 13 Ae n (emCells ms)) (hn : ms.length = n) (hb : n ≤ 4001) :
    Calls Tryz.prog 30 #[.agg #[.int .i64 nd, .int .i64 wn, .int .i64 bs, .int .i64 st, .int .i64 cp, .int .i64 rm, .int .i64 fl, .slice A vn k, .slice Ae n ke]] w fun e w' => e = .returned (.int .i64 (idleN (ms.map Em.ev) : Int)) ∧ Below w.heap.size w w' := by
  have HR := hide hr
  have HN := hide hn
  clear hr hn
  go_enter Tryz.func30, Tryz.ntmps30
  go_upto_region 3 with fail
  generalize hW : World.alloc w _ = W
  have hbl : Below w.heap.size w W := by rw [← hW]; exact (Below.refl _ _).alloc (Nat.le_refl _) _
  have HX : Hid (Blk W w.heap.size 27 #[.int .i64 nd, .int .i64 wn, .int .i64 bs, .int .i64 st, .int .i64 cp, .int .i64 rm, .int .i64 fl, .slice A vn k, .slice Ae n ke]) := by show Blk _ _ _ _; rw [← hW]; exact Blk.new _ _ _
  have HB := hide hbl
  clear hW hbl
  have k8 : W.cell? ⟨w.heap.size, 8, none⟩ = some (.slice Ae n ke) := HX.out.cell 8
  go_loopw [3, 4] (fun v i wr => ∃ j c : Nat, j ≤ n ∧ c ≤ j ∧ i = .int .i64 j ∧ v = .int .i64 c ∧ Hid (c = idleN ((ms.map Em.ev).take j)) ∧ wr = W) (fun _ i _ => n - (intOf i).toNat)
  case atStart => exact ⟨0, 0, Nat.zero_le _, Nat.le_refl _, rfl, rfl, rfl, rfl⟩
  case round =>
    obtain ⟨j, c, hj, hcj, rfl, rfl, HC, rfl⟩ := hrel
    have j0 : (0 : Int) ≤ (j : Int) := by omega
    by_cases hlt : j < n
    · have js : (j : Int) < (n : Int) := by omega
      obtain ⟨b, off, m, rfl, _, hm, qc⟩ := ems_at (w := wr) (B := w.heap.size) (Reads.below HR.out HB.out) HN.out hlt
      have q0 : wr.cell? ⟨b, off + j * 13, none⟩ = some (.int .i64 m.kd) := by
        have := qc 0 (.int .i64 m.kd) rfl
        simpa [Addr.add] using this
      have HTK : Hid (idleN ((ms.map Em.ev).take (j + 1)) = c + if m.kd = 0 then 1 else 0) := by
        show _ = _
        rw [List.take_add_one, List.getElem?_map, hm]
        show idleN ((ms.map Em.ev).take j ++ [m.ev]) = _
        rw [idle_snoc, ← HC.out]
        rfl
      clear hm qc
      by_cases hk0 : m.kd = 0
      · have HC2 : Hid (c + 1 = idleN ((ms.map Em.ev).take (j + 1))) := by show _ = _; rw [HTK.out, if_pos hk0]
        have hiw : IntKind.i64.wrap ((c : Int) + 1) = (c : Int) + 1 := i64_wrap _ (by omega) (by omega)
        rw [hk0] at q0
        clear hk0
        go_wp2_with fail
        go_roundw
        case rel => first | exact ⟨j + 1, c + 1, by omega, by omega, by go_num, by go_num, HC2, rfl⟩ | exact ⟨j + 1, c + 1, by omega, by omega, by go_num, by go_num, HC2, trivial⟩
        case measure => simp [intOf]; omega
      · have HC2 : Hid (c = idleN ((ms.map Em.ev).take (j + 1))) := by show _ = _; rw [HTK.out, if_neg hk0]; rfl
        have e3 : (m.kd == 0) = false := by rw [beq_eq_false_iff_ne]; exact hk0
        go_wp2_with fail
        go_roundw
        case rel => first | exact ⟨j + 1, c, by omega, by omega, by go_num, rfl, HC2, rfl⟩ | exact ⟨j + 1, c, by omega, by omega, by go_num, rfl, HC2, trivial⟩
        case measure => simp [intOf]; omega
    · have js : ¬ (j : Int) < (n : Int) := by omega
      have hjn : j = n := by omega
      have HF : Hid (c = idleN (ms.map Em.ev)) := by show _ = _; rw [HC.out, hjn, List.take_of_length_le (by rw [List.length_map, HN.out]; exact Nat.le_refl _)]
      clear hlt hjn
      go_wp2_with fail
      go_ret
      exact ⟨by rw [← HF.out]; rfl, HB.out⟩
/-- How many of a script's events are no-ops. -/
theorem idle_any {s : Sm} (w : World) (h : Reads w w.heap.size 13 s.Ae s.ms.length (emCells s.ms)) (hb : s.ms.length ≤ 4001) :
    Calls Tryz.prog 30 #[.agg s.cs] w fun e w' => e = .returned (.int .i64 (idleN (s.ms.map Em.ev) : Int)) ∧ Below w.heap.size w w' :=
  idle_at s.c.nodes s.c.window s.c.base s.c.step s.c.cap s.c.room s.c.floor s.A s.Ae s.c.votes.length s.k s.ms.length s.ke s.ms w h rfl hb
end Go.Proofs.YtcibcmfaebbhnaaGreatDoor
set_option linter.unusedVariables false
set_option linter.unusedSimpArgs false
namespace Go.Proofs.YtcibcmfaebbhnaaGreatDoor
open Go.RowKit Go.WideShapes Go.ChangeShapes Q
def sumB (es : List Ev) : Nat := (es.map fun e => 220 + 4 * e.bd.length).sum
theorem sumB_snoc (es : List Ev) (e : Ev) : sumB (es ++ [e]) = sumB es + (220 + 4 * e.bd.length) := by
  unfold sumB
  rw [List.map_append, List.sum_append]
  simp
set_option maxRecDepth 100000 in
set_option maxHeartbeats 2000000 in
theorem short_at (nd wn bs st cp rm fl : Int) (A Ae : Option Addr) (vn k n ke : Nat) (ms : List Em) (w : World) (hr : Reads w w.heap.size 13 Ae n (emCells ms)) (hn : ms.length = n) (hb : n ≤ 4001) (hm : ∀ m ∈ ms, m.nb ≤ 10000000 ∧ m.bd.length = m.nb) :
    Calls Tryz.prog 28 #[.agg #[.int .i64 nd, .int .i64 wn, .int .i64 bs, .int .i64 st, .int .i64 cp, .int .i64 rm, .int .i64 fl, .slice A vn k, .slice Ae n ke]] w fun e w' => e = .returned (.bool (decide (shortN (ms.map Em.ev) ≤ 400000))) ∧ Below w.heap.size w w' := by
  have HR := hide hr
  have HN := hide hn
  have HM := hide hm
  clear hr hn hm
  go_enter Tryz.func28, Tryz.ntmps28
  go_upto_region 3 with fail
  generalize hW : World.alloc w _ = W
  have hbl : Below w.heap.size w W := by rw [← hW]; exact (Below.refl _ _).alloc (Nat.le_refl _) _
  have HX : Hid (Blk W w.heap.size 27 #[.int .i64 nd, .int .i64 wn, .int .i64 bs, .int .i64 st, .int .i64 cp, .int .i64 rm, .int .i64 fl, .slice A vn k, .slice Ae n ke]) := by show Blk _ _ _ _; rw [← hW]; exact Blk.new _ _ _
  have HB := hide hbl
  clear hW hbl
  have k8 : W.cell? ⟨w.heap.size, 8, none⟩ = some (.slice Ae n ke) := HX.out.cell 8
  go_loopw [3, 4] (fun v i wr => ∃ j c : Nat, j ≤ n ∧ c ≤ 300 + 40000220 * j ∧ i = .int .i64 j ∧ v = .int .i64 c ∧ Hid (c = 300 + sumB ((ms.map Em.ev).take j)) ∧ wr = W) (fun _ i _ => n - (intOf i).toNat)
  case atStart => exact ⟨0, 300, Nat.zero_le _, Nat.le_refl _, rfl, rfl, rfl, rfl⟩
  case round =>
    obtain ⟨j, c, hj, hcj, rfl, rfl, HC, rfl⟩ := hrel
    have j0 : (0 : Int) ≤ (j : Int) := by omega
    by_cases hlt : j < n
    · have js : (j : Int) < (n : Int) := by omega
      obtain ⟨b, off, m, rfl, _, hm, qc⟩ := ems_at (w := wr) (B := w.heap.size) (Reads.below HR.out HB.out) HN.out hlt
      have q4 : wr.cell? ⟨b, off + j * 13 + 4, none⟩ = some (.slice m.Ab m.nb m.cb) := by
        have := qc 4 (.slice m.Ab m.nb m.cb) rfl
        simpa [Addr.add] using this
      obtain ⟨hnb, hbd⟩ := HM.out m (List.mem_of_getElem? hm)
      have HTK : Hid (sumB ((ms.map Em.ev).take (j + 1)) = sumB ((ms.map Em.ev).take j) + (220 + 4 * m.nb)) := by
        show _ = _
        rw [List.take_add_one, List.getElem?_map, hm]
        show sumB ((ms.map Em.ev).take j ++ [m.ev]) = _
        rw [sumB_snoc, ← hbd]
        rfl
      have HC2 : Hid (c + 220 + 4 * m.nb = 300 + sumB ((ms.map Em.ev).take (j + 1))) := by
        show _ = _
        have h1 := HC.out
        have h2 := HTK.out
        omega
      have w1 : IntKind.i64.wrap ((c : Int) + 220) = (c : Int) + 220 := i64_wrap _ (by omega) (by omega)
      have w2 : IntKind.i64.wrap (4 * (m.nb : Int)) = 4 * (m.nb : Int) := i64_wrap _ (by omega) (by omega)
      have w3 : IntKind.i64.wrap ((c : Int) + 220 + 4 * (m.nb : Int)) = (c : Int) + 220 + 4 * (m.nb : Int) := i64_wrap _ (by omega) (by omega)
      clear hm qc hbd HTK
      go_wp2_with fail
      go_roundw
      case rel => first | exact ⟨j + 1, c + 220 + 4 * m.nb, by omega, by omega, by go_num, by go_num, HC2, rfl⟩ | exact ⟨j + 1, c + 220 + 4 * m.nb, by omega, by omega, by go_num, by go_num, HC2, trivial⟩
      case measure => simp [intOf]; omega
    · have js : ¬ (j : Int) < (n : Int) := by omega
      have hjn : j = n := by omega
      have HF : Hid (c = shortN (ms.map Em.ev)) := by
        show _ = _
        rw [HC.out, hjn, List.take_of_length_le (by rw [List.length_map, HN.out]; exact Nat.le_refl _)]
        rfl
      clear hlt hjn
      by_cases hc4 : c ≤ 400000
      · have e4 : (c : Int) ≤ 400000 := by omega
        have HD : Hid (decide (shortN (ms.map Em.ev) ≤ 400000) = true) := by show _ = _; rw [← HF.out]; exact decide_eq_true hc4
        clear hc4
        go_wp2_with fail
        go_ret
        exact ⟨by rw [HD.out]; rfl, HB.out⟩
      · have e4 : ¬ (c : Int) ≤ 400000 := by omega
        have HD : Hid (decide (shortN (ms.map Em.ev) ≤ 400000) = false) := by show _ = _; rw [← HF.out]; exact decide_eq_false hc4
        clear hc4
        go_wp2_with fail
        go_ret
        exact ⟨by rw [HD.out]; rfl, HB.out⟩
theorem short_any (s : Sm) (w : World) (h : SmIn w w.heap.size s) (hn : s.ms.length ≤ 4001) (hm : ∀ m ∈ s.ms, m.nb ≤ 10000000) :
    Calls Tryz.prog 28 #[.agg s.cs] w fun e w' => e = .returned (.bool (decide (shortN s.sc.es ≤ 400000))) ∧ Below w.heap.size w w' :=
  short_at s.c.nodes s.c.window s.c.base s.c.step s.c.cap s.c.room s.c.floor s.A s.Ae s.c.votes.length s.k s.ms.length s.ke s.ms w h.row rfl hn (fun m hmm => ⟨hm m hmm, (h.ent m hmm).nb_len⟩)
end Go.Proofs.YtcibcmfaebbhnaaGreatDoor
set_option linter.unusedVariables false
set_option linter.unusedSimpArgs false
namespace Go.Proofs.YtcibcmfaebbhnaaGreatDoor
open Go.RowKit Go.WideShapes Go.ChangeShapes Q
theorem SmIn.up {w : World} {B B' : Nat} {s : Sm} (h : SmIn w B s) (hB : B ≤ B') : SmIn w B' s := ⟨reads_up h.vot hB, reads_up h.row hB, fun m hm => (h.ent m hm).up hB, h.hv, h.hn⟩
/-- A copy's events may be written where the script's may. -/
theorem copy_ok {w w' : World} {B b : Nat} {s s' : Sm} (he : s'.sc = s.sc) (hm : ∀ m ∈ s.ms, EvOk m) (hi : ∀ m ∈ s.ms, EmIn w B m) (hi' : ∀ m ∈ s'.ms, EmIn w' b m) : ∀ m ∈ s'.ms, EvOk m := by
  intro m' hm'
  have h1 : s'.ms.map Em.ev = s.ms.map Em.ev := congrArg Sc.es he
  have h2 : m'.ev ∈ s.ms.map Em.ev := by rw [← h1]; exact List.mem_map_of_mem hm'
  obtain ⟨m, hms, hev⟩ := List.mem_map.1 h2
  have a := hi m hms
  have a' := hi' m' hm'
  refine (hm m hms).of hev.symm ?_ ?_
  · rw [← RI.len a'.sid, ← RI.len a.sid, show m'.sd = m.sd from congrArg Ev.sd hev.symm]
  · rw [← a'.nb_len, ← a.nb_len, show m'.bd = m.bd from congrArg Ev.bd hev.symm]
end Go.Proofs.YtcibcmfaebbhnaaGreatDoor
set_option linter.unusedVariables false
set_option linter.unusedSimpArgs false
namespace Go.Proofs.YtcibcmfaebbhnaaGreatDoor
open Go.RowKit Go.WideShapes Go.ChangeShapes Q
theorem wpList_gvalue {P : Program} {ops : Array Oper} {rest : List Oper} {o : Oper} {a : Act} {V : World} {Q : Exit → Act → World → Prop} (hw : Region.wanted o (yielded ops a.tmps) = true) (v : Value) (he : (execOp a.eval o).run P V = .ok (.value v) V)
    (h : wpList P ops Q rest (a.put o.dst v) V) : wpList P ops Q (o :: rest) a V := by
  refine wpList_step (fun K hK => ?_)
  rw [if_pos hw]
  unfold Oper.wp
  rw [he]
  exact hK _ _ h
end Go.Proofs.YtcibcmfaebbhnaaGreatDoor
set_option linter.unusedVariables false
set_option linter.unusedSimpArgs false
namespace Go.Proofs.YtcibcmfaebbhnaaGreatDoor
open Go.RowKit Go.WideShapes Go.ChangeShapes Q
/-- A word as it is written. -/
def wtx (p : Wd) : List UInt8 := if p.2 = true then quoteL p.1 else p.1
def WOk (p : Wd) : Prop := p.2 = true ∨ (p.1 ≠ [] ∧ ∀ q ∈ p.1, plnB true q = true)
theorem wds_one {p : Wd} {t : List UInt8} {ws : List Wd} (h : WOk p) (he : t = [] ∨ ∃ r, t = 32 :: r) (ht : wordsG true t = some ws) : wordsG true (wtx p ++ t) = some (p :: ws) := by
  have hed : edge t = true := by rcases he with rfl | ⟨r, rfl⟩ <;> rfl
  obtain ⟨x, q⟩ := p
  cases q with
  | true =>
    show wordsG true (quoteL x ++ t) = _
    unfold quoteL
    rw [show [34] ++ x.flatMap qb ++ [34] ++ t = 34 :: (x.flatMap qb ++ [34] ++ t) by simp, wds_str _ (by decide), unq_quote]
    simp only
    rw [if_pos hed, ht]
    rfl
  | false =>
    show wordsG true (x ++ t) = _
    rcases h with h | ⟨h1, h2⟩
    · cases h
    · rw [wds_word h1 h2 (by
        rcases he with h | ⟨r, h⟩
        · exact .inl h
        · exact .inr ⟨32, r, h, by rfl⟩), if_pos hed, ht]
      rfl
theorem wds_tail : ∀ ps : List Wd, (∀ p ∈ ps, WOk p) → wordsG true (ps.flatMap fun p => 32 :: wtx p) = some ps
  | [], _ => wds_nil
  | p :: ps, h => by
    have ih := wds_tail ps (fun q hq => h q (by simp [hq]))
    rw [List.flatMap_cons, List.cons_append, wds_blank _ (by rfl)]
    refine wds_one (h p (by simp)) ?_ ih
    cases ps with
    | nil => exact .inl rfl
    | cons a r => exact .inr ⟨_, rfl⟩
/-- A line of words. -/
theorem wds_line {p : Wd} {ps : List Wd} (h : ∀ x ∈ p :: ps, WOk x) : wordsG true (Lib.join (wtx p :: ps.map wtx) [32]) = some (p :: ps) := by
  rw [cat_join]
  unfold cat
  rw [List.flatMap_map]
  refine wds_one (h p (by simp)) ?_ (wds_tail ps (fun x hx => h x (by simp [hx])))
  cases ps with
  | nil => exact .inl rfl
  | cons a r => exact .inr ⟨_, rfl⟩
/-- A number's word. -/
def nw (x : Int) : Wd := (Lib.itoa x, false)
theorem nw_ok (x : Int) : WOk (nw x) := .inr (itoa_plain true x)
theorem nw_cnt {x : Int} (h0 : 0 ≤ x) (h1 : x ≤ 4611686018427387904) : wcnt (nw x) = some x.toNat := by
  obtain ⟨n, rfl⟩ : ∃ n : Nat, x = n := ⟨x.toNat, by omega⟩
  unfold wcnt nw
  rw [itoa_nat]
  exact cnt_dec (by omega)
theorem nw_nat {n : Nat} (h : n ≤ 4611686018427387904) : wcnt (nw (n : Int)) = some n := by
  have := nw_cnt (x := (n : Int)) (by omega) (by omega)
  simpa using this
/-- The word of a letter, out of the event. -/
def wdOf (e : Ev) : Lt → Wd
  | .P => nw e.a
  | .K => nw e.a
  | .Q => nw e.b
  | .N => nw e.n
  | .D => nw e.n
  | .T => (e.bd, true)
  | .X => (e.bd, true)
theorem wdOf_tx (e : Ev) : ∀ c, wtx (wdOf e c) = ltT e c
  | .P => rfl
  | .K => rfl
  | .Q => rfl
  | .N => rfl
  | .D => rfl
  | .T => rfl
  | .X => rfl
theorem wdOf_ok (e : Ev) : ∀ c, WOk (wdOf e c)
  | .P => nw_ok _
  | .K => nw_ok _
  | .Q => nw_ok _
  | .N => nw_ok _
  | .D => nw_ok _
  | .T => .inl rfl
  | .X => .inl rfl
/-- Which field a letter writes. -/
def wr : Lt → Nat
  | .P => 0
  | .K => 0
  | .Q => 1
  | .N => 2
  | .D => 2
  | .T => 3
  | .X => 3
theorem thing_back {nodes : Nat} {e e1 : Ev} {c : Lt} {w : Wd} (h : thingE nodes e c w = some e1) : thingE nodes e c (wdOf e1 c) = some e1 := by
  cases c <;> simp only [thingE] at h
  case T =>
    split at h
    · rename_i hc
      cases h
      simp only [thingE, wdOf]
      rw [if_pos ⟨trivial, hc.2⟩]
    · cases h
  case X =>
    split at h
    · rename_i hc
      cases h
      simp only [thingE, wdOf]
      rw [if_pos ⟨trivial, hc.2⟩]
    · cases h
  all_goals
    cases hw : wcnt w with
    | none => rw [hw] at h; cases h
    | some x =>
      have hx := wcnt_le hw
      rw [hw] at h
      simp only at h
      first
        | (split at h
           · rename_i hc
             cases h
             simp only [thingE, wdOf, nw_nat hx]
             rw [if_pos hc]
           · cases h)
        | (cases h
           simp only [thingE, wdOf, nw_nat hx])
theorem thing_other {nodes : Nat} {e e1 : Ev} {c d : Lt} {w : Wd} (h : thingE nodes e d w = some e1) (hn : ¬ wr c = wr d) : wdOf e1 c = wdOf e c := by
  cases d <;> simp only [thingE] at h
  case T => split at h <;> cases h; cases c <;> first | rfl | exact absurd rfl hn
  case X => split at h <;> cases h; cases c <;> first | rfl | exact absurd rfl hn
  all_goals
    cases hw : wcnt w with
    | none => rw [hw] at h; cases h
    | some x =>
      rw [hw] at h
      simp only at h
      first
        | (split at h <;> cases h; cases c <;> first | rfl | exact absurd rfl hn)
        | (cases h; cases c <;> first | rfl | exact absurd rfl hn)
theorem things_other {nodes : Nat} {c : Lt} : ∀ (cs : List Lt) (ws : List Wd) (e e' : Ev), thingsE nodes cs ws e = some e' → (∀ d ∈ cs, ¬ wr c = wr d) → wdOf e' c = wdOf e c
  | [], [], e, e', h, _ => by injection h with h; subst h; rfl
  | [], _ :: _, _, _, h, _ => by cases h
  | _ :: _, [], _, _, h, _ => by cases h
  | d :: cs, w :: ws, e, e', h, hn => by
    unfold thingsE at h
    cases h1 : thingE nodes e d w with
    | none => rw [h1] at h; cases h
    | some e1 =>
      rw [h1] at h
      rw [things_other cs ws e1 e' h (fun x hx => hn x (by simp [hx])), thing_other h1 (hn d (by simp))]
/-- No field is written twice. -/
def Once : List Lt → Bool
  | [] => true
  | c :: cs => cs.all (fun d => !(wr c == wr d)) && Once cs
theorem things_back {nodes : Nat} : ∀ (cs : List Lt) (ws : List Wd) (e e' : Ev), Once cs = true → thingsE nodes cs ws e = some e' → thingsE nodes cs (cs.map (wdOf e')) e = some e'
  | [], [], e, e', _, h => h
  | [], _ :: _, _, _, _, h => by cases h
  | _ :: _, [], _, _, _, h => by cases h
  | c :: cs, w :: ws, e, e', ho, h => by
    simp only [Once, Bool.and_eq_true, List.all_eq_true, Bool.not_eq_true', beq_eq_false_iff_ne] at ho
    unfold thingsE at h
    cases h1 : thingE nodes e c w with
    | none => rw [h1] at h; cases h
    | some e1 =>
      rw [h1] at h
      have ih := things_back cs ws e1 e' ho.2 h
      have h2 := things_other (c := c) cs ws e1 e' h (fun d hd => ho.1 d hd)
      rw [List.map_cons, thingsE, h2, thing_back h1]
      exact ih
/-- The words of the line of an event that was read. -/
def lineWd (e : Ev) : List Wd :=
  if e.kd = 4 then ([100, 111], false) :: nw e.a :: (opL.getD (e.op.toNat - 1) [], false) :: (e.key, true) :: ((if e.val ≠ [] ∨ e.old ≠ [] then [(e.val, true)] else []) ++ (if e.old ≠ [] then [(e.old, true)] else []))
  else if e.kd = 11 then ([115, 112, 108, 105, 116], false) :: e.sd.map nw
  else match formL.find? (fun f => f.2.1 == e.kd) with
    | some f => (f.1, false) :: f.2.2.map (wdOf e)
    | none => []
theorem lineWd_tx {e : Ev} (h : e.kd = 4 → 1 ≤ e.op ∧ e.op ≤ 9) : lineW e = (lineWd e).map wtx := by
  unfold lineW lineWd
  split
  · rename_i h4
    rw [if_pos (h h4)]
    unfold askW
    simp only [List.map_cons, List.map_append]
    congr 5
    · split <;> rfl
    · split <;> rfl
  · split
    · rw [List.map_cons, List.map_map]
      rfl
    · cases formL.find? (fun f => f.2.1 == e.kd) with
      | none => rfl
      | some f =>
        simp only [List.map_cons, List.map_map]
        congr 1
        exact List.map_congr_left (fun c _ => (wdOf_tx e c).symm)
theorem opW_pln (k : Nat) (h : k < 9) : opL.getD k [] ≠ [] ∧ (∀ q ∈ opL.getD k [], plnB true q = true) ∧ opNo (opL.getD k []) = k + 1 := by
  have : (List.range 9).all (fun k => !(opL.getD k []).isEmpty && (opL.getD k []).all (plnB true) && (opNo (opL.getD k []) == k + 1)) = true := by decide +kernel
  have h2 := List.all_eq_true.1 this k (List.mem_range.2 h)
  simp only [Bool.and_eq_true, Bool.not_eq_true', List.isEmpty_eq_false_iff, List.all_eq_true, beq_iff_eq] at h2
  exact ⟨h2.1.1, h2.1.2, h2.2⟩
/-- What an event's line says, where its words say the event. -/
theorem line_of {n : Int} {e : Ev} (hn : 1 ≤ n ∧ n ≤ 16) (hop : e.kd = 4 → 1 ≤ e.op ∧ e.op ≤ 9) (hne : lineWd e ≠ []) (hw : ∀ p ∈ lineWd e, WOk p) (he : eventE n.toNat (lineWd e) = some e) : lineT e ≠ [] ∧ lineE n (lineT e) = e := by
  obtain ⟨p, ps, hp⟩ : ∃ p ps, lineWd e = p :: ps := by
    cases h : lineWd e with
    | nil => exact absurd h hne
    | cons p ps => exact ⟨p, ps, rfl⟩
  have h1 : wordsG true (lineT e) = some (lineWd e) := by
    unfold lineT
    rw [lineWd_tx hop, hp]
    exact wds_line (fun x hx => hw x (by rw [hp]; exact hx))
  refine ⟨fun h0 => ?_, ?_⟩
  · rw [h0, wds_nil, hp] at h1
    cases h1
  · unfold lineE
    rw [if_pos hn, h1]
    simp only [he, Option.getD_some]
/-- A row of the forms: its letters write no field twice, its name and kind find it. -/
theorem form_row {f : List UInt8 × Int × List Lt} (h : f ∈ formL) : Once f.2.2 = true ∧ ¬ f.2.1 = 4 ∧ ¬ f.2.1 = 11 ∧ formL.find? (fun g => g.2.1 == f.2.1) = some f ∧ formL.find? (fun g => g.1 == f.1) = some f ∧ (f.1 ≠ [] ∧ ∀ q ∈ f.1, plnB true q = true) ∧ ¬ f.1 = [100, 111] ∧ ¬ f.1 = [115, 112, 108, 105, 116] := by
  simp only [formL, List.mem_cons, List.mem_nil_iff, or_false] at h
  rcases h with rfl | rfl | rfl | rfl | rfl | rfl | rfl | rfl | rfl | rfl | rfl | rfl | rfl | rfl | rfl | rfl | rfl
  all_goals exact ⟨rfl, by decide, by decide, rfl, rfl, ⟨by decide, by decide⟩, by decide, by decide⟩
theorem txts_back {e e' : Ev} (h1 : e.key = []) (h2 : e.val = []) (h3 : e.old = []) {ws : List Wd} (h : txtsE e ws = some e') :
    txtsE e ((e'.key, true) :: ((if e'.val ≠ [] ∨ e'.old ≠ [] then [(e'.val, true)] else []) ++ (if e'.old ≠ [] then [(e'.old, true)] else []))) = some e' := by
  have hb := txts_fit h1 h2 h3 h
  obtain ⟨_, _, _, _, _, _, _, k1, k2, k3⟩ := hb
  have t1 : txtE (e'.key, true) = some e'.key := by unfold txtE; rw [if_pos ⟨rfl, k1⟩]
  have t2 : txtE (e'.val, true) = some e'.val := by unfold txtE; rw [if_pos ⟨rfl, k2⟩]
  have t3 : txtE (e'.old, true) = some e'.old := by unfold txtE; rw [if_pos ⟨rfl, k3⟩]
  have hall : { e with key := e'.key, val := e'.val, old := e'.old } = e' := by
    match ws, h with
    | [k], h =>
      simp only [txtsE] at h
      cases hk : txtE k with
      | none => rw [hk] at h; cases h
      | some x =>
        rw [hk] at h
        injection h with h
        subst h
        obtain ⟨⟩ := e
        simp only at h2 h3
        subst h2 h3
        rfl
    | [k, v], h =>
      simp only [txtsE] at h
      cases hk : txtE k with
      | none => rw [hk] at h; cases h
      | some x =>
        cases hv : txtE v with
        | none => rw [hk, hv] at h; cases h
        | some y =>
          rw [hk, hv] at h
          injection h with h
          subst h
          obtain ⟨⟩ := e
          simp only at h3
          subst h3
          rfl
    | [k, v, o], h =>
      simp only [txtsE] at h
      cases hk : txtE k with
      | none => rw [hk] at h; cases h
      | some x =>
        cases hv : txtE v with
        | none => rw [hk, hv] at h; cases h
        | some y =>
          cases ho : txtE o with
          | none => rw [hk, hv, ho] at h; cases h
          | some z =>
            rw [hk, hv, ho] at h
            injection h with h
            subst h
            rfl
    | [], h => cases h
    | _ :: _ :: _ :: _ :: _, h => cases h
  by_cases ho : e'.old = []
  · by_cases hv : e'.val = []
    · rw [if_neg (by rw [ho, hv]; simp), if_neg (by rw [ho]; simp)]
      simp only [List.append_nil, txtsE, t1]
      rw [← hall]
      obtain ⟨⟩ := e
      simp only at h2 h3
      subst h2 h3
      simp only [hv, ho]
    · rw [if_pos (.inl hv), if_neg (by rw [ho]; simp)]
      simp only [List.append_nil, txtsE, t1, t2]
      rw [← hall]
      obtain ⟨⟩ := e
      simp only at h3
      subst h3
      simp only [ho]
  · rw [if_pos (.inr ho), if_pos ho]
    show txtsE e [(e'.key, true), (e'.val, true), (e'.old, true)] = _
    simp only [txtsE, t1, t2, t3]
    rw [hall]
theorem sides_back {nodes : Nat} : ∀ l : List Int, (∀ x ∈ l, 0 ≤ x ∧ x < 16) → sidesE (l.map nw) = some l
  | [], _ => rfl
  | x :: l, h => by
    have ih := sides_back (nodes := nodes) l (fun y hy => h y (by simp [hy]))
    have hx := h x (by simp)
    rw [List.map_cons, sidesE, nw_cnt hx.1 (by omega)]
    show (if x.toNat < 16 then _ else _) = _
    rw [if_pos (by omega), ih]
    show some (((x.toNat : Nat) : Int) :: l) = _
    rw [Int.toNat_of_nonneg hx.1]
theorem event_back {n : Int} {ws : List Wd} {e : Ev} (hn : 1 ≤ n ∧ n ≤ 16) (h : eventE n.toNat ws = some e) : lineT e ≠ [] ∧ lineE n (lineT e) = e := by
  cases ws with
  | nil => cases h
  | cons w ws =>
    rw [eventE] at h
    split at h
    · cases h
    · split at h
      · unfold doE at h
        split at h
        · rename_i p o ts
          split at h
          · rename_i x hp
            split at h
            · rename_i hc
              obtain ⟨h1, h2, _, _, _, _, s3, k1, k2, k3⟩ := txts_fit (e := { Ev.zero with kd := 4, a := x, op := opNo o.1 }) rfl rfl rfl h
              have hb := txts_back (e := { Ev.zero with kd := 4, a := x, op := opNo o.1 }) rfl rfl rfl h
              have hx := wcnt_le hp
              have ho := opNo_le o.1
              have h2' : e.a = (x : Int) := h2
              have s3' : e.op = (opNo o.1 : Nat) := s3
              have h1' : e.kd = 4 := h1
              have hw := opW_pln (e.op.toNat - 1) (by omega)
              have hL : lineWd e = ([100, 111], false) :: nw e.a :: (opL.getD (e.op.toNat - 1) [], false) :: (e.key, true) :: ((if e.val ≠ [] ∨ e.old ≠ [] then [(e.val, true)] else []) ++ (if e.old ≠ [] then [(e.old, true)] else [])) := by
                unfold lineWd
                rw [if_pos h1']
              refine line_of hn (fun _ => by omega) (by rw [hL]; simp) ?_ ?_
              · rw [hL]
                intro q hq
                simp only [List.mem_cons, List.mem_append] at hq
                rcases hq with rfl | rfl | rfl | rfl | hq | hq
                · exact .inr ⟨by decide, by decide⟩
                · exact nw_ok _
                · exact .inr ⟨hw.1, hw.2.1⟩
                · exact .inl rfl
                · split at hq
                  · obtain rfl := List.mem_singleton.1 hq
                    exact .inl rfl
                  · cases hq
                · split at hq
                  · obtain rfl := List.mem_singleton.1 hq
                    exact .inl rfl
                  · cases hq
              · rw [hL, eventE, if_neg (by decide), if_pos rfl, doE, h2', nw_nat hx]
                show (if _ then _ else _) = _
                have e9 : opNo (opL.getD (e.op.toNat - 1) []) = opNo o.1 := by rw [hw.2.2]; omega
                rw [if_pos ⟨hc.1, rfl, by show 0 < opNo (opL.getD (e.op.toNat - 1) []); rw [e9]; exact hc.2.2⟩]
                show txtsE { Ev.zero with kd := 4, a := (x : Int), op := (opNo (opL.getD (e.op.toNat - 1) []) : Nat) } _ = _
                rw [e9]
                exact hb
            · cases h
          · cases h
        · cases h
      · split at h
        · unfold splitE at h
          split at h
          · rename_i hl
            obtain ⟨l, hl2, rfl⟩ := Option.map_eq_some_iff.1 h
            have hs := sides_fit ws l hl2
            have hL : lineWd { Ev.zero with kd := 11, sd := l } = ([115, 112, 108, 105, 116], false) :: l.map nw := rfl
            refine line_of hn (fun h => (by cases h)) (by rw [hL]; simp) ?_ ?_
            · rw [hL]
              intro q hq
              rcases List.mem_cons.1 hq with rfl | hq
              · exact .inr ⟨by decide, by decide⟩
              · obtain ⟨x, _, rfl⟩ := List.mem_map.1 hq
                exact nw_ok x
            · rw [hL, eventE, if_neg (by decide), if_neg (by decide), if_pos rfl, splitE, if_pos (by rw [List.length_map]; omega), sides_back (nodes := n.toNat) l hs.2]
              rfl
          · cases h
        · split at h
          · rename_i f hf
            have hm := List.mem_of_find?_eq_some hf
            obtain ⟨r1, r2, r3, r4, r5, r6, r7, r8⟩ := form_row hm
            obtain ⟨_, _, h3⟩ := things_num f.2.2 ws _ e (num_zero f.2.1) (bod_zero f.2.1) h
            have h3' : e.kd = f.2.1 := h3
            have hb := things_back f.2.2 ws _ e r1 h
            have hL : lineWd e = (f.1, false) :: f.2.2.map (wdOf e) := by
              unfold lineWd
              rw [h3', if_neg r2, if_neg r3, r4]
            refine line_of hn (fun h => absurd (h3'.symm.trans h) r2) (by rw [hL]; simp) ?_ ?_
            · rw [hL]
              intro q hq
              rcases List.mem_cons.1 hq with rfl | hq
              · exact .inr r6
              · obtain ⟨c, _, rfl⟩ := List.mem_map.1 hq
                exact wdOf_ok e c
            · rw [hL, eventE, if_neg (show ¬ false = true by decide), if_neg r7, if_neg r8, r5]
              exact hb
          · cases h
/-- What was read may be written. -/
theorem read_print {n : Int} (hn : 1 ≤ n ∧ n ≤ 16) (x : List UInt8) : (printE n (lineE n x)).2 = 0 := by
  have hz : lineT Ev.zero ≠ [] ∧ lineE n (lineT Ev.zero) = Ev.zero := by
    refine line_of hn (fun h => (by cases h)) (by decide) ?_ ?_
    · intro q hq
      have e : lineWd Ev.zero = [([110, 111, 111, 112], false)] := rfl
      rw [e] at hq
      obtain rfl := List.mem_singleton.1 hq
      exact .inr ⟨by decide, by decide⟩
    · rfl
  have h : lineT (lineE n x) ≠ [] ∧ lineE n (lineT (lineE n x)) = lineE n x := by
    unfold lineE
    rw [if_pos hn]
    split
    · rename_i ws hw
      cases he : eventE n.toNat ws with
      | none => exact hz
      | some e =>
        have := event_back hn he
        exact this
    · exact hz
  rw [print_prog, if_pos hn, if_pos h]
end Go.Proofs.YtcibcmfaebbhnaaGreatDoor
