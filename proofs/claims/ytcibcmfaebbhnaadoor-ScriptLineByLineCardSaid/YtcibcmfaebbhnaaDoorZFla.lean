/-
  Plain: one line more is one event more; what is passed over, and blanks at a line's ends, change nothing. The law's flat (a text without line ends) and idle (how many events are no-ops).
-/
import Derived.Test.YtcibcmfaebbhnaaDoorZPhd
import Derived.Test.YtcibcmfaebbhnaaDoorZSm
import Derived.Test.YtcibcmfaebbhnaaDoorZSms
set_option linter.unusedVariables false
set_option linter.unusedSimpArgs false
namespace Go.Proofs.YtcibcmfaebbhnaaDoor
open Go.RowKit Go.WideShapes Go.ChangeShapes Q

/-- A string's step, a blank put at the end. -/
theorem qhex_app (l : List UInt8) : qhex (l ++ [32]) = match qhex l with
    | .stop t => .stop (t ++ [32])
    | .byte b t => .byte b (t ++ [32])
    | .bad => .bad := by
  match l with
  | [] => rfl
  | [a] =>
    show qhex [a, 32] = _
    rw [qhex, show nib 32 = none from rfl]
    cases nib a <;> rfl
  | a :: b :: r =>
    show qhex (a :: b :: (r ++ [32])) = _
    rw [qhex, qhex]
    cases nib a with
    | none => rfl
    | some x =>
      cases nib b with
      | none => rfl
      | some y => rfl
theorem qesc_app (l : List UInt8) : qesc (l ++ [32]) = match qesc l with
    | .stop t => .stop (t ++ [32])
    | .byte b t => .byte b (t ++ [32])
    | .bad => .bad := by
  match l with
  | [] => rfl
  | d :: r =>
    show qesc (d :: (r ++ [32])) = _
    rw [qesc, qesc]
    split
    · rfl
    · split
      · exact qhex_app r
      · rfl
theorem qstep_app (c : UInt8) (r : List UInt8) : qstep (c :: r ++ [32]) = match qstep (c :: r) with
    | .stop t => .stop (t ++ [32])
    | .byte b t => .byte b (t ++ [32])
    | .bad => .bad := by
  show qstep (c :: (r ++ [32])) = _
  rw [qstep, qstep]
  split
  · rfl
  · split
    · rfl
    · split
      · rfl
      · exact qesc_app r
theorem unq_app : ∀ (n : Nat) (l : List UInt8), l.length ≤ n → unq (l ++ [32]) = (unq l).map fun p => (p.1, p.2 ++ [32])
  | n, [], _ => by
    rw [unq_bad (show qstep [] = .bad from rfl)]
    show unq [32] = _
    rw [unq_byte (show qstep [32] = .byte 32 [] from rfl), unq_bad (show qstep [] = .bad from rfl)]
    rfl
  | 0, c :: r, h => by simp at h
  | n + 1, c :: r, h => by
    have h1 := qstep_app c r
    cases hs : qstep (c :: r) with
    | bad =>
      rw [hs] at h1
      rw [unq_bad h1, unq_bad hs]
      rfl
    | stop t =>
      rw [hs] at h1
      rw [unq_stop h1, unq_stop hs]
      rfl
    | byte b t =>
      rw [hs] at h1
      have hlt := qstep_byte hs
      rw [unq_byte h1, unq_byte hs, unq_app n t (by simp at hlt h; omega)]
      cases unq t <;> rfl
theorem edge_app (t : List UInt8) : edge (t ++ [32]) = edge t := by
  cases t with
  | nil => rfl
  | cons c r => rfl
theorem takeW_app {p : UInt8 → Bool} (hp : p 32 = false) : ∀ (r : List UInt8), (r ++ [32]).takeWhile p = r.takeWhile p ∧ (r ++ [32]).dropWhile p = r.dropWhile p ++ [32]
  | [] => by
    constructor
    · show List.takeWhile p [32] = _
      rw [List.takeWhile_cons, if_neg (by rw [hp]; decide)]
      rfl
    · show List.dropWhile p [32] = _
      rw [List.dropWhile_cons, if_neg (by rw [hp]; decide)]
      rfl
  | c :: r => by
    have ih := takeW_app hp r
    rw [List.cons_append, List.takeWhile_cons, List.takeWhile_cons, List.dropWhile_cons, List.dropWhile_cons]
    cases h : p c with
    | true => rw [if_pos rfl, if_pos rfl, if_pos rfl, if_pos rfl, ih.1, ih.2]; exact ⟨rfl, rfl⟩
    | false => rw [if_neg (by decide), if_neg (by decide), if_neg (by decide), if_neg (by decide)]; exact ⟨rfl, rfl⟩
/-- A blank at a line's end changes nothing. -/
theorem wds_end : ∀ (n : Nat) (l : List UInt8), l.length ≤ n → wordsG true (l ++ [32]) = wordsG true l
  | n, [], _ => by
    show wordsG true [32] = _
    rw [wds_blank [] (by rfl)]
  | 0, c :: r, h => by simp at h
  | n + 1, c :: r, h => by
    have hr : r.length ≤ n := by simpa using h
    rw [List.cons_append]
    by_cases hb : blk c = true
    · rw [wds_blank _ hb, wds_blank _ hb]
      exact wds_end n r hr
    · by_cases hq : c.toNat = 34
      · rw [wds_str _ hq, wds_str _ hq, unq_app r.length r (Nat.le_refl _)]
        cases hu : unq r with
        | none => rfl
        | some p =>
          obtain ⟨b, t⟩ := p
          have hlt := unq_lt _ r (Nat.le_refl _) b t hu
          simp only [Option.map_some]
          rw [edge_app, wds_end n t (by omega)]
      · have hbf : blk c = false := by simpa using hb
        cases hp : plnB true c with
        | true =>
          have h2 := takeW_app (p := plnB true) (by rfl) r
          have h3 := drop_len (plnB true) r
          rw [wds_run _ hp, wds_run _ hp, h2.1, h2.2, edge_app, wds_end n _ (by omega)]
        | false => rw [wds_stop _ hbf hq hp, wds_stop _ hbf hq hp]
theorem lineE_pad (n : Int) (l : List UInt8) : lineE n (9 :: (l ++ [32])) = lineE n l := by
  unfold lineE
  rw [wds_blank _ (by rfl), wds_end l.length l (Nat.le_refl _)]
theorem overB_pad : ∀ (l : List UInt8), overB (l ++ [32]) = overB l
  | [] => by rfl
  | c :: r => by
    show (if blk c = true then overB (r ++ [32]) else c.toNat == 35) = (if blk c = true then overB r else c.toNat == 35)
    rw [overB_pad r]
theorem overB_tab (l : List UInt8) : overB (9 :: l) = overB l := by
  show (if blk 9 = true then overB l else _) = _
  rw [if_pos (by rfl)]
/-- A text, and one behind its end of line. -/
theorem lin_app : ∀ (a cur b : List UInt8), linG cur (a ++ 10 :: b) = linG cur (a ++ [10]) ++ linG [] b
  | [], cur, b => by
    show linG cur (10 :: b) = linG cur [10] ++ linG [] b
    rw [linG, linG, if_pos (by decide), if_pos (by decide)]
    rfl
  | c :: a, cur, b => by
    rw [List.cons_append, List.cons_append, linG, linG]
    split
    · rw [lin_app a [] b]
      rfl
    · exact lin_app a _ b
theorem keep_app (a b : List UInt8) : keepL (a ++ 10 :: b) = keepL (a ++ [10]) ++ keepL b := by
  unfold keepL
  rw [lin_app, List.filter_append]
/-- A text that is empty or ends with an end of line. -/
def EndNl (x : List UInt8) : Prop := x = [] ∨ ∃ a, x = a ++ [10]
theorem keep_end {x : List UInt8} (h : EndNl x) (b : List UInt8) : keepL (x ++ b) = keepL x ++ keepL b := by
  rcases h with rfl | ⟨a, rfl⟩
  · rfl
  · rw [List.append_assoc, List.singleton_append, keep_app]
/-- How many lines are kept: not more than there are bytes that end no line. -/
theorem keep_count : ∀ (l cur : List UInt8), ((linG cur l).filter fun x => !overB x).length ≤ (if cur = [] then 0 else 1) + (l.filter fun q => !(q.toNat == 10)).length
  | [], cur => by
    rw [linG]
    split
    · simp
    · have := List.length_filter_le (fun x => !overB x) [cur]
      simp only [List.length_singleton] at this
      simp only [List.filter_nil, List.length_nil]
      omega
  | c :: r, cur => by
    rw [linG]
    by_cases h10 : c.toNat = 10
    · rw [if_pos h10]
      have ih := keep_count r []
      rw [if_pos rfl] at ih
      have e1 : ((c :: r).filter fun q => !(q.toNat == 10)) = r.filter fun q => !(q.toNat == 10) := by rw [List.filter_cons, if_neg (by simp [h10])]
      rw [e1]
      by_cases hc : cur = []
      · subst hc
        rw [List.filter_cons, if_neg (by decide)]
        simp only [if_pos]
        omega
      · rw [if_neg hc, List.filter_cons]
        split
        · rw [List.length_cons]; omega
        · omega
    · rw [if_neg h10]
      have ih := keep_count r (cur ++ [c])
      rw [if_neg (by simp)] at ih
      have e1 : ((c :: r).filter fun q => !(q.toNat == 10)) = c :: r.filter fun q => !(q.toNat == 10) := by rw [List.filter_cons, if_pos (by simp [h10])]
      rw [e1, List.length_cons]
      split <;> omega
def q1L : List UInt8 := [113, 117, 111, 114, 97, 116, 101, 32, 49]
def q2L : List UInt8 := [32, 110, 111, 100, 101, 115, 32, 50, 32, 119, 105, 110, 100, 111, 119, 32, 49, 32, 98, 97, 115, 101, 32, 49, 32, 115, 116, 101, 112, 32, 49, 32, 99, 97, 112, 32, 49, 32, 114, 111, 111, 109, 32, 57, 32, 102, 108, 111, 111, 114, 32, 51, 32]
def q3L : List UInt8 := [118, 111, 116, 101, 115, 32, 48, 32, 49]
def topJ : List UInt8 := q1L ++ 10 :: (q2L ++ 10 :: (q3L ++ [10]))
def cfgJ : Cfg := ⟨2, 1, 1, 1, 1, 9, 3, [0, 1]⟩
theorem topJ_end : EndNl topJ := .inr ⟨q1L ++ 10 :: (q2L ++ 10 :: q3L), rfl⟩
theorem topJ_keep : keepL topJ = [q1L, q2L, q3L] := by rfl
theorem w2 : wordsG true q2L = some [([110, 111, 100, 101, 115], false), ([50], false), ([119, 105, 110, 100, 111, 119], false), ([49], false), ([98, 97, 115, 101], false), ([49], false), ([115, 116, 101, 112], false), ([49], false), ([99, 97, 112], false), ([49], false), ([114, 111, 111, 109], false), ([57], false), ([102, 108, 111, 111, 114], false), ([51], false)] := by decide +kernel
theorem w3 : wordsG true q3L = some [(votes8, false), ([48], false), ([49], false)] := by decide +kernel
theorem w1 : wordsG true q1L = some [(quor, false), ([49], false)] := by decide +kernel
theorem topJ_first : firstB q1L = true := by
  unfold firstB
  rw [w1]
  rfl
theorem topJ_cfg : cfgL q2L q3L = some cfgJ := by
  unfold cfgL
  rw [w2, w3]
  rfl
theorem cfgJ_err : cfgJ.err = 0 := by
  refine Cfg.err_ok ⟨by decide, by decide, by decide, by decide, by decide, by decide, by decide, by rfl, ?_, by decide⟩
  intro j hj
  match j, hj with
  | 0, _ => exact ⟨by decide, by decide⟩
  | 1, _ => exact ⟨by decide, by decide⟩
/-- What is read behind this head. -/
theorem parse_top (X : List UInt8) (h1 : (topJ ++ X).length ≤ 400000) (h2 : (keepL X).length ≤ 4000) : parseE (topJ ++ X) = (⟨cfgJ, (keepL X).map (lineE 2)⟩, (idleN ((keepL X).map (lineE 2)) : Int), 0) := by
  unfold parseE
  rw [if_neg (by omega), keep_end topJ_end, topJ_keep]
  show parseH (headE (q1L :: q2L :: q3L :: keepL X)) = _
  rw [headE_cons, if_pos topJ_first, topJ_cfg]
  show (if cfgJ.err = 0 then _ else _) = _
  rw [if_pos cfgJ_err, if_neg (by omega)]
  rfl
/-- One line more, with what is passed over around it. -/
theorem keep_more {X pass line : List UInt8} (hX : EndNl X) (hp : EndNl pass) (hpk : keepL pass = []) (hl : NoNl line) : keepL (X ++ pass ++ [9] ++ line ++ [32, 10] ++ pass) = keepL X ++ if overB line = true then [] else [9 :: (line ++ [32])] := by
  have e : X ++ pass ++ [9] ++ line ++ [32, 10] ++ pass = X ++ (pass ++ ((9 :: (line ++ [32])) ++ 10 :: pass)) := by simp
  rw [e, keep_end hX, keep_end hp, hpk, List.nil_append, keep_app, hpk, List.append_nil]
  congr 1
  unfold keepL
  rw [lin_free (9 :: (line ++ [32])) [] [] (fun q hq e => by
    rcases List.mem_cons.1 hq with h | h
    · rw [h] at e; exact absurd e (by decide)
    · rcases List.mem_append.1 h with h | h
      · exact hl q h (by rw [e]; rfl)
      · obtain rfl : q = 32 := by simpa using h
        exact absurd e (by decide))]
  rw [show linG [] ([] : List UInt8) = [] from rfl, List.nil_append, List.filter_cons, overB_tab, overB_pad]
  cases overB line <;> rfl
end Go.Proofs.YtcibcmfaebbhnaaDoor
set_option linter.unusedVariables false
set_option linter.unusedSimpArgs false
namespace Go.Proofs.YtcibcmfaebbhnaaDoor
open Go.RowKit Go.WideShapes Go.ChangeShapes Q

/-- A text without its line ends. -/
def flatL (l : List UInt8) : List UInt8 := l.filter fun q => !(q.toNat == 10)
theorem flat_nonl (l : List UInt8) : NoNl (flatL l) := fun q hq e => by
  have := (List.mem_filter.1 hq).2
  rw [e] at this
  cases this
theorem flatL_len (l : List UInt8) : (flatL l).length ≤ l.length := List.length_filter_le _ _
set_option maxRecDepth 100000 in
set_option maxHeartbeats 2000000 in
theorem flat_any (s : ByteArray) (w : World) (hs : s.size ≤ 140737488355328) :
    Calls Tryd.prog 19 #[.string s] w fun e w' => e = .returned (.string (S (flatL s.data.toList))) ∧ Below w.heap.size w w' := by
  obtain ⟨i5, hi5, hz5, hs5, hb5⟩ := info_parts info5
  have I5 := hide hi5
  clear hi5
  go_enter Tryd.func19, Tryd.ntmps19
  go_upto_region 3 with fail
  go_loopw [3, 4] (fun v i wr => ∃ (k : Nat) (A : Option Addr) (cap : Nat) (out : List UInt8), k ≤ s.size ∧ i = .int .i64 k ∧ v = .slice A out.length cap ∧ Hid (out = flatL (s.data.toList.take k)) ∧ out.length ≤ k ∧ Hid (wr.ownsRow w.heap.size 5 1 (.slice A out.length cap) out.length (Lib.byteCells out)) ∧ Hid (Below w.heap.size w wr)) (fun _ i _ => s.size - (intOf i).toNat)
  case atStart => exact ⟨0, none, 0, [], Nat.zero_le _, rfl, rfl, rfl, Nat.zero_le _, World.ownsRow_nil _ _ _ _, Below.refl _ _⟩
  case round =>
    obtain ⟨k, A, cap, out, hk, rfl, rfl, HOUT, hol, HO, HB⟩ := hrel
    have hsw : w.heap.size ≤ wr.heap.size := HB.out.size
    have k0 : (0 : Int) ≤ (k : Int) := by omega
    by_cases hlt : k < s.size
    · have ks : (k : Int) < (s.size : Int) := by omega
      obtain ⟨c, hc⟩ : ∃ c, c = s[k] := ⟨_, rfl⟩
      have hcc := hc.symm
      have HTK : Hid (flatL (s.data.toList.take (k + 1)) = out ++ flatL [c]) := by
        show _ = _
        rw [HOUT.out, hc]
        unfold flatL
        rw [← List.filter_append, List.take_succ_eq_append_getElem (by rw [str_len]; exact hlt)]
        rfl
      have c256 : c.toNat < 256 := c.toNat_lt
      clear hc
      by_cases h10 : c.toNat = 10
      · have e1 : ((c.toNat : Int) == 10) = true := by rw [beq_iff_eq]; omega
        have e2 : ((c.toNat : Int) != 10) = false := by rw [bne, e1]; rfl
        have HT2 : Hid (out = flatL (s.data.toList.take (k + 1))) := by show _ = _; rw [HTK.out]; simp [flatL, h10]
        clear h10
        go_wp2_with fail
        go_roundw
        case rel => exact ⟨k + 1, A, cap, out, by omega, by go_num, rfl, HT2, by omega, HO, HB⟩
        case measure => simp [intOf]; omega
      · have e1 : ((c.toNat : Int) == 10) = false := by rw [beq_eq_false_iff_ne]; omega
        have e2 : ((c.toNat : Int) != 10) = true := by rw [bne, e1]; rfl
        have HT2 : Hid (out ++ [c] = flatL (s.data.toList.take (k + 1))) := by show _ = _; rw [HTK.out]; simp [flatL, h10]
        clear h10
        go_wp2_with (at_builtin; refine wpList_push (W := wr) (cs := #[.int .u8 (c.toNat : Int)]) rfl (.tmp 15) (.tmp 19) _ rfl w.heap.size 5 i5 _ 1 1 Tryd.underlying24 I5.out hz5 hs5 hb5 rfl (by omega) (.slice A out.length cap) out.length _ rfl HO.out 1 1 rfl rfl (by simp [Value.oneCell']) (by omega) (by unfold maxLen; omega) (by omega) hsw ?_; intro g8 c8 w8 hown8 _ hb8 _ _ _; have HO8 : Hid (w8.ownsRow w.heap.size 5 1 (.slice (some ⟨g8, 0, none⟩) (out ++ [c]).length c8) (out ++ [c]).length (Lib.byteCells (out ++ [c]))) := (by show World.ownsRow _ _ _ _ _ _ _; rw [List.length_append, Lib.byteCells_append]; exact hown8); have HB8 := hide (HB.out.trans hb8); clear hown8 hb8)
        go_roundw
        case rel => exact ⟨k + 1, some ⟨g8, 0, none⟩, c8, out ++ [c], by omega, by go_num, by rw [List.length_append]; rfl, HT2, by simp; omega, HO8, HB8⟩
        case measure => simp [intOf]; omega
    · have ks : ¬ (k : Int) < (s.size : Int) := by omega
      have hks : k = s.size := by omega
      have HF : Hid (out = flatL s.data.toList) := by show _ = _; rw [HOUT.out, hks, List.take_of_length_le (by rw [str_len]; exact Nat.le_refl _)]
      have hcv := conv_reads (c := cap) (Reads.of_own HO.out)
      clear hlt hks
      go_wp2_with fail
      go_ret
      exact ⟨by rw [← HF.out]; rfl, HB.out⟩
set_option maxRecDepth 100000 in
set_option maxHeartbeats 2000000 in
theorem idle_at (nd wn bs st cp rm fl : Int) (A Ae : Option Addr) (vn k n ke : Nat) (ms : List Em) (w : World) (hr : Reads w w.heap.size 13 Ae n (emCells ms)) (hn : ms.length = n) (hb : n ≤ 4001) :
    Calls Tryd.prog 20 #[.agg #[.int .i64 nd, .int .i64 wn, .int .i64 bs, .int .i64 st, .int .i64 cp, .int .i64 rm, .int .i64 fl, .slice A vn k, .slice Ae n ke]] w fun e w' => e = .returned (.int .i64 (idleN (ms.map Em.ev) : Int)) ∧ Below w.heap.size w w' := by
  have HR := hide hr
  have HN := hide hn
  clear hr hn
  go_enter Tryd.func20, Tryd.ntmps20
  go_upto_region 3 with fail
  generalize hW : World.alloc w _ = W
  have hbl : Below w.heap.size w W := by rw [← hW]; exact (Below.refl _ _).alloc (Nat.le_refl _) _
  have HX : Hid (Blk W w.heap.size 47 #[.int .i64 nd, .int .i64 wn, .int .i64 bs, .int .i64 st, .int .i64 cp, .int .i64 rm, .int .i64 fl, .slice A vn k, .slice Ae n ke]) := by show Blk _ _ _ _; rw [← hW]; exact Blk.new _ _ _
  have HB := hide hbl
  clear hW hbl
  have k8 : W.cell? ⟨w.heap.size, 8, none⟩ = some (.slice Ae n ke) := HX.out.cell 8
  go_loopw [3, 4] (fun v i wr => ∃ j c : Nat, j ≤ n ∧ c ≤ j ∧ i = .int .i64 j ∧ v = .int .i64 c ∧ Hid (c = idleN ((ms.map Em.ev).take j)) ∧ wr = W) (fun _ i _ => n - (intOf i).toNat)
  case atStart => exact ⟨0, 0, Nat.zero_le _, Nat.le_refl _, rfl, rfl, rfl, rfl⟩
  case round =>
    obtain ⟨j, c, hj, hcj, rfl, rfl, HC, rfl⟩ := hrel
    have j0 : (0 : Int) ≤ (j : Int) := by omega
    by_cases hlt : j < n
    · have js : (j : Int) < (n : Int) := by omega
      obtain ⟨b, off, m, rfl, _, hm, qc⟩ := ems_at (w := wr) (B := w.heap.size) (Reads.below HR.out HB.out) HN.out hlt
      have q0 : wr.cell? ⟨b, off + j * 13, none⟩ = some (.int .i64 m.kd) := by
        have := qc 0 (.int .i64 m.kd) rfl
        simpa [Addr.add] using this
      have HTK : Hid (idleN ((ms.map Em.ev).take (j + 1)) = c + if m.kd = 0 then 1 else 0) := by
        show _ = _
        rw [List.take_add_one, List.getElem?_map, hm]
        show idleN ((ms.map Em.ev).take j ++ [m.ev]) = _
        rw [idle_snoc, ← HC.out]
        rfl
      clear hm qc
      by_cases hk0 : m.kd = 0
      · have HC2 : Hid (c + 1 = idleN ((ms.map Em.ev).take (j + 1))) := by show _ = _; rw [HTK.out, if_pos hk0]
        have hiw : IntKind.i64.wrap ((c : Int) + 1) = (c : Int) + 1 := i64_wrap _ (by omega) (by omega)
        rw [hk0] at q0
        clear hk0
        go_wp2_with fail
        go_roundw
        case rel => first | exact ⟨j + 1, c + 1, by omega, by omega, by go_num, by go_num, HC2, rfl⟩ | exact ⟨j + 1, c + 1, by omega, by omega, by go_num, by go_num, HC2, trivial⟩
        case measure => simp [intOf]; omega
      · have HC2 : Hid (c = idleN ((ms.map Em.ev).take (j + 1))) := by show _ = _; rw [HTK.out, if_neg hk0]; rfl
        have e3 : (m.kd == 0) = false := by rw [beq_eq_false_iff_ne]; exact hk0
        go_wp2_with fail
        go_roundw
        case rel => first | exact ⟨j + 1, c, by omega, by omega, by go_num, rfl, HC2, rfl⟩ | exact ⟨j + 1, c, by omega, by omega, by go_num, rfl, HC2, trivial⟩
        case measure => simp [intOf]; omega
    · have js : ¬ (j : Int) < (n : Int) := by omega
      have hjn : j = n := by omega
      have HF : Hid (c = idleN (ms.map Em.ev)) := by show _ = _; rw [HC.out, hjn, List.take_of_length_le (by rw [List.length_map, HN.out]; exact Nat.le_refl _)]
      clear hlt hjn
      go_wp2_with fail
      go_ret
      exact ⟨by rw [← HF.out]; rfl, HB.out⟩
/-- How many of a script's events are no-ops. -/
theorem idle_any {s : Sm} (w : World) (h : Reads w w.heap.size 13 s.Ae s.ms.length (emCells s.ms)) (hb : s.ms.length ≤ 4001) :
    Calls Tryd.prog 20 #[.agg s.cs] w fun e w' => e = .returned (.int .i64 (idleN (s.ms.map Em.ev) : Int)) ∧ Below w.heap.size w w' :=
  idle_at s.c.nodes s.c.window s.c.base s.c.step s.c.cap s.c.room s.c.floor s.A s.Ae s.c.votes.length s.k s.ms.length s.ke s.ms w h rfl hb
end Go.Proofs.YtcibcmfaebbhnaaDoor
