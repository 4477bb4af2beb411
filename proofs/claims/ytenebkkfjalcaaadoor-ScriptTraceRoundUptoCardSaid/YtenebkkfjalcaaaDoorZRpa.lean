/-
  What a trace's text says, plain: its lines, each a mark's or none. The reference's ParseTrace. (Printed by wip/tools/mkrpa.py.)
-/
import Derived.Test.YtenebkkfjalcaaaDoorZGd
import Derived.Test.YtenebkkfjalcaaaDoorZPbx
import Derived.Test.YtenebkkfjalcaaaDoorZLqu
import Derived.Lib.IndexBytes
import Derived.Test.YtenebkkfjalcaaaDoorZRmk
import Derived.Deep.WholeRow
set_option linter.unusedVariables false
set_option linter.unusedSimpArgs false
namespace Go.Proofs.YtenebkkfjalcaaaDoor
open Go.RowKit Go.WideShapes Go.ChangeShapes Q

open Classical in
/-- The mark whose line this is. -/
noncomputable def goodL (s : List UInt8) : Option PM := if h : ∃ p, okPM p s then some (Classical.choose h) else none
theorem good_yes {p : PM} {s : List UInt8} (h : okPM p s) : goodL s = some p := by
  have h' : ∃ p, okPM p s := ⟨p, h⟩
  unfold goodL
  rw [dif_pos h', ok_unique (Classical.choose_spec h') h]
theorem good_no {s : List UInt8} (h : ∀ p, ¬ okPM p s) : goodL s = none := by
  unfold goodL
  rw [dif_neg (fun ⟨p, hp⟩ => h p hp)]
theorem good_ok {p : PM} {s : List UInt8} (h : goodL s = some p) : okPM p s := by
  unfold goodL at h
  split at h
  · rename_i h'
    injection h with h
    rw [← h]
    exact Classical.choose_spec h'
  · cases h
/-- Lines from number n on; E: the text ends in a line's end. -/
noncomputable def trL (E : Bool) (n : Nat) (acc : List PM) : List (List UInt8) → List PM × Nat × Int
  | [] => (acc, 0, 0)
  | s :: rest => match goodL s with
    | some p => if rest = [] ∧ E = false then ([], n, 23) else trL E (n + 1) (acc ++ [p]) rest
    | none => ([], n, 23)
theorem trL_no {E : Bool} {n : Nat} {acc : List PM} {s : List UInt8} {rest : List (List UInt8)} (h : goodL s = none) : trL E n acc (s :: rest) = ([], n, 23) := by rw [trL, h]
theorem trL_cut {E : Bool} {n : Nat} {acc : List PM} {s : List UInt8} {rest : List (List UInt8)} (hr : rest = []) (hE : E = false) : trL E n acc (s :: rest) = ([], n, 23) := by
  rw [trL]
  cases goodL s with
  | none => rfl
  | some p => simp only; rw [if_pos ⟨hr, hE⟩]
theorem trL_yes {E : Bool} {n : Nat} {acc : List PM} {s : List UInt8} {rest : List (List UInt8)} {p : PM} (h : goodL s = some p) (hr : ¬ (rest = [] ∧ E = false)) : trL E n acc (s :: rest) = trL E (n + 1) (acc ++ [p]) rest := by
  rw [trL, h]
  simp only
  rw [if_neg hr]
def endsNL (t : List UInt8) : Bool := t.getLast? == some 10
/-- What a text says. -/
noncomputable def traceT (t : List UInt8) : List PM × Nat × Int := if Lib.hasPrefix t headT = true then trL (endsNL t) 2 [] ((linG [] t).drop 1) else ([], 0, 21)
theorem lin_free : ∀ (a cur r : List UInt8), (∀ q ∈ a, ¬ q = 10) → linG cur (a ++ r) = linG (cur ++ a) r
  | [], cur, r, _ => by simp
  | x :: a, cur, r, h => by
    have hx : ¬ x.toNat = 10 := fun e => h x (by simp) (UInt8.toNat_inj.1 e)
    rw [List.cons_append, linG, if_neg hx, lin_free a (cur ++ [x]) r (fun q hq => h q (by simp [hq]))]
    simp
theorem lin_line (a b : List UInt8) (h : ∀ q ∈ a, ¬ q = 10) : linG [] (a ++ 10 :: b) = a :: linG [] b := by
  rw [lin_free a [] _ h, List.nil_append, linG, if_pos (by rfl)]
theorem lin_last (a : List UInt8) (h : ∀ q ∈ a, ¬ q = 10) (h0 : a ≠ []) : linG [] a = [a] := by
  have := lin_free a [] [] h
  rw [List.append_nil, List.nil_append, linG, if_neg h0] at this
  exact this
theorem lin_cur_ne : ∀ (b cur : List UInt8), cur ≠ [] → linG cur b ≠ []
  | [], cur, h => by rw [linG, if_neg h]; simp
  | c :: r, cur, h => by
    rw [linG]
    split
    · simp
    · exact lin_cur_ne r _ (by simp)
theorem lin_nil {b : List UInt8} (h : linG [] b = []) : b = [] := by
  cases b with
  | nil => rfl
  | cons c r =>
    rw [linG] at h
    split at h
    · cases h
    · exact absurd h (lin_cur_ne r _ (by simp))
theorem byte_split (c : UInt8) : ∀ (r : List UInt8), (Lib.indexByte r c = -1 ∧ ∀ q ∈ r, ¬ q = c) ∨ (∃ a b, r = a ++ c :: b ∧ (∀ q ∈ a, ¬ q = c) ∧ Lib.indexByte r c = a.length)
  | [] => .inl ⟨rfl, fun q hq => by cases hq⟩
  | x :: r => by
    by_cases hx : x = c
    · right
      refine ⟨[], r, by rw [hx]; rfl, (fun q hq => by cases hq), ?_⟩
      rw [Lib.indexByte, if_pos (by rw [hx]; exact beq_self_eq_true c)]
      rfl
    · have hb : ¬ (x == c) = true := by rw [beq_iff_eq]; exact hx
      rcases byte_split c r with ⟨h1, h2⟩ | ⟨a, b, h1, h2, h3⟩
      · left
        refine ⟨?_, fun q hq => ?_⟩
        · rw [Lib.indexByte, if_neg hb, h1]
          rfl
        · rcases List.mem_cons.1 hq with rfl | hq
          · exact hx
          · exact h2 q hq
      · right
        refine ⟨x :: a, b, by rw [h1]; rfl, fun q hq => ?_, ?_⟩
        · rcases List.mem_cons.1 hq with rfl | hq
          · exact hx
          · exact h2 q hq
        · rw [Lib.indexByte, if_neg hb, h3, if_neg (by rw [beq_iff_eq]; omega)]
          simp
theorem cut10 (r : List UInt8) : (∃ a b, r = a ++ 10 :: b ∧ (∀ q ∈ a, ¬ q = 10) ∧ Lib.cut r [10] = (a, b, true)) ∨ ((∀ q ∈ r, ¬ q = 10) ∧ Lib.cut r [10] = (r, [], false)) := by
  rcases byte_split 10 r with ⟨h1, h2⟩ | ⟨a, b, h1, h2, h3⟩
  · right
    refine ⟨h2, ?_⟩
    unfold Lib.cut
    rw [Lib.index_one, h1, if_neg (by decide)]
  · left
    refine ⟨a, b, h1, h2, ?_⟩
    unfold Lib.cut
    rw [Lib.index_one, h3, if_pos (by omega)]
    refine Prod.ext ?_ (Prod.ext ?_ rfl)
    · rw [h1]; simp
    · rw [h1, Int.toNat_natCast, List.drop_append]
      simp
theorem ends_last {r : List UInt8} (h : ∀ q ∈ r, ¬ q = 10) : endsNL r = false := by
  unfold endsNL
  cases hl : r.getLast? with
  | none => rfl
  | some x =>
    have := List.mem_of_getLast? hl
    have hx := h x this
    rw [beq_eq_false_iff_ne]
    intro e
    injection e with e
    exact hx e
theorem ends_app {a b : List UInt8} (hb : b ≠ []) : endsNL (a ++ b) = endsNL b := by
  unfold endsNL
  rw [List.getLast?_append]
  cases h : b.getLast? with
  | none => exact absurd (List.getLast?_eq_none_iff.1 h) hb
  | some x => rfl
theorem ends_nl (a : List UInt8) : endsNL (a ++ [10]) = true := by
  unfold endsNL
  rw [List.getLast?_append]
  rfl
theorem head_lines (r : List UInt8) : linG [] (headT ++ r) = [113, 117, 111, 114, 97, 116, 101, 32, 116, 114, 97, 99, 101, 32, 49] :: linG [] r := by
  have : headT ++ r = [113, 117, 111, 114, 97, 116, 101, 32, 116, 114, 97, 99, 101, 32, 49] ++ 10 :: r := rfl
  rw [this, lin_line _ _ (by decide)]
/-- A text behind the head. -/
theorem trace_rest {t r : List UInt8} (h : t = headT ++ r) : traceT t = trL (endsNL t) 2 [] (linG [] r) := by
  unfold traceT
  have hp : Lib.hasPrefix t headT = true := by
    unfold Lib.hasPrefix
    rw [List.isPrefixOf_iff_prefix]
    exact ⟨r, h.symm⟩
  rw [if_pos hp, h, head_lines]
  rfl
theorem trace_no {t : List UInt8} (h : Lib.hasPrefix t headT = false) : traceT t = ([], 0, 21) := by
  unfold traceT
  rw [if_neg (by rw [h]; decide)]
/-- What comes out of both ParseTraces. -/
def TrR (t : List UInt8) (w : World) (e : Ending) (w' : World) : Prop := ∃ (A : Option Addr) (cap : Nat) (ms : List Mk), e = .returned (.tuple #[.slice A ms.length cap, .int .i64 ((traceT t).2.1 : Int), .int .i64 (traceT t).2.2]) ∧ ms.map Mk.pm = (traceT t).1 ∧
  w'.ownsRow w.heap.size 48 26 (.slice A ms.length cap) ms.length (mkCells ms) ∧ (∀ m ∈ ms, MkU w' w.heap.size m) ∧ Below w.heap.size w w'
end Go.Proofs.YtenebkkfjalcaaaDoor
set_option linter.unusedVariables false
set_option linter.unusedSimpArgs false
namespace Go.Proofs.YtenebkkfjalcaaaDoor
open Go.RowKit Go.WideShapes Go.ChangeShapes Q

/-- What both loops keep: the marks read so far, and what the text says from here on. -/
structure TL (w wr : World) (v : Value) (ms : List Mk) : Prop where
  val : ∃ A c, v = .slice A ms.length c
  row : wr.ownsRow w.heap.size 48 26 v ms.length (mkCells ms)
  ent : ∀ m ∈ ms, MkU wr w.heap.size m
  low : Below w.heap.size w wr
theorem TL.step {w wr w' : World} {v : Value} {ms : List Mk} (h : TL w wr v ms) (hb : Below wr.heap.size wr w') : TL w w' v ms := ⟨h.val, own_step h.row hb, fun m hm => (h.ent m hm).step hb, h.low.trans (hb.mono h.low.size)⟩
/-- What the loop keeps. -/
def RPLoop (T : List PM × Nat × Int) (E : Bool) (ls : List (List UInt8)) (A : Option Addr) (cap : Nat) (w : World) (v i : Value) (wr : World) : Prop := ∃ (j : Nat) (ms : List Mk), 1 ≤ j ∧ j ≤ ls.length ∧ i = .int .i64 j ∧ ms.length + 1 ≤ j ∧ TL w wr v ms ∧ T = trL E (j + 1) (ms.map Mk.pm) (ls.drop j) ∧ wr.ownsRow w.heap.size 9 1 (.slice A ls.length cap) ls.length (strs ls)
theorem lin_len : ∀ (l cur : List UInt8), (linG cur l).length ≤ l.length + 1
  | [], cur => by rw [linG]; split <;> simp
  | c :: r, cur => by
    rw [linG]
    split
    · have := lin_len r []
      simp only [List.length_cons]
      omega
    · have := lin_len r (cur ++ [c])
      simp only [List.length_cons]
      omega
theorem lin_sz : ∀ (l cur : List UInt8), ∀ q ∈ linG cur l, q.length ≤ cur.length + l.length
  | [], cur, q, hq => by
    rw [linG] at hq
    split at hq
    · cases hq
    · obtain rfl : q = cur := by simpa using hq
      omega
  | c :: r, cur, q, hq => by
    rw [linG] at hq
    split at hq
    · rcases List.mem_cons.1 hq with rfl | hq
      · omega
      · have := lin_sz r [] q hq
        simp only [List.length_cons, List.length_nil] at this ⊢
        omega
    · have := lin_sz r (cur ++ [c]) q hq
      simp only [List.length_cons, List.length_append, List.length_nil] at this ⊢
      omega

set_option maxRecDepth 100000 in
set_option maxHeartbeats 16000000 in
theorem rparse_no (s : ByteArray) (w : World) (hs : s.size ≤ 1048576) (hp : Lib.hasPrefix s.data.toList headT = false) : Calls Tryd.prog 13 #[.string s] w fun e w' => TrR s.data.toList w e w' := by
  have HT := hide (trace_no hp)
  by_cases h16 : s.size < 16
  · have l1 : (s.size : Int) < 16 := by omega
    clear hp
    go_enter Tryd.func13, Tryd.ntmps13
    go_wp2_with fail
    first | refine bodyPost_end (results_tmp3 rfl _ _ _) rfl ?_ | refine bodyPost_ret (results_tmp3 rfl _ _ _) rfl ?_
    exact ⟨none, 0, [], by rw [HT.out]; rfl, by rw [HT.out]; rfl, World.ownsRow_nil _ _ _ _, (fun m hm => by cases hm), Below.refl _ _⟩
  · have l1 : ¬ (s.size : Int) < 16 := by omega
    have l2 : (16 : Int) ≤ (s.size : Int) := by omega
    obtain ⟨X, hX⟩ : ∃ X, X = s.extract 0 16 := ⟨_, rfl⟩
    have hxx := hX.symm
    have hne : ¬ X.toList = [113, 117, 111, 114, 97, 116, 101, 32, 116, 114, 97, 99, 101, 32, 49, 10] := by
      rw [hX, ByteArray.toList_eq, sub_list, List.drop_zero]
      intro e
      unfold Lib.hasPrefix at hp
      have : headT.isPrefixOf s.data.toList = true := by
        rw [List.isPrefixOf_iff_prefix]
        refine ⟨s.data.toList.drop 16, ?_⟩
        rw [show headT = s.data.toList.take 16 from e.symm, List.take_append_drop]
      rw [this] at hp
      cases hp
    have e1 : (X.toList == [113, 117, 111, 114, 97, 116, 101, 32, 116, 114, 97, 99, 101, 32, 49, 10]) = false := by rw [beq_eq_false_iff_ne]; exact hne
    clear hp hX
    go_enter Tryd.func13, Tryd.ntmps13
    go_wp2_with fail
    first | refine bodyPost_end (results_tmp3 rfl _ _ _) rfl ?_ | refine bodyPost_ret (results_tmp3 rfl _ _ _) rfl ?_
    exact ⟨none, 0, [], by rw [HT.out]; rfl, by rw [HT.out]; rfl, World.ownsRow_nil _ _ _ _, (fun m hm => by cases hm), Below.refl _ _⟩

set_option maxRecDepth 100000 in
set_option maxHeartbeats 16000000 in
theorem rparse_yes (s : ByteArray) (w : World) (hs : s.size ≤ 1048576) (r : List UInt8) (hp : s.data.toList = headT ++ r) : Calls Tryd.prog 13 #[.string s] w fun e w' => TrR s.data.toList w e w' := by
  have hsz : s.size = 16 + r.length := by rw [← str_len, hp]; simp [headT]; omega
  have l1 : ¬ (s.size : Int) < 16 := by omega
  have l2 : (16 : Int) ≤ (s.size : Int) := by omega
  obtain ⟨X, hX⟩ : ∃ X, X = s.extract 0 16 := ⟨_, rfl⟩
  have hxx := hX.symm
  have hxe : X.toList = [113, 117, 111, 114, 97, 116, 101, 32, 116, 114, 97, 99, 101, 32, 49, 10] := by
    rw [hX, ByteArray.toList_eq, sub_list, List.drop_zero, hp]
    rfl
  obtain ⟨ls, hls⟩ : ∃ ls, ls = linG [] s.data.toList := ⟨_, rfl⟩
  have HLI : Hid (∀ W, Calls Tryd.prog 25 #[.string s] W fun e w' => ∃ A cap, e = .returned (.slice A ls.length cap) ∧ w'.ownsRow W.heap.size 9 1 (.slice A ls.length cap) ls.length (strs ls) ∧ Below W.heap.size W w') := fun W => by rw [hls]; exact lines_ref s W (by omega)
  have hl1 : 1 ≤ ls.length := by rw [hls, hp, head_lines]; simp
  have hll : ls.length ≤ 1048577 := by
    have := lin_len s.data.toList []
    rw [← hls, str_len] at this
    omega
  have HSZ : Hid (∀ q ∈ ls, q.length ≤ 1048576) := fun q hq => by
    rw [hls] at hq
    have := lin_sz s.data.toList [] q hq
    rw [List.length_nil, str_len] at this
    omega
  obtain ⟨E, hE⟩ : ∃ E, E = endsNL s.data.toList := ⟨_, rfl⟩
  obtain ⟨T, hT⟩ : ∃ T, T = traceT s.data.toList := ⟨_, rfl⟩
  have HTT : Hid (T = trL E 2 [] (ls.drop 1)) := by
    show _ = _
    rw [hT, trace_rest hp, hE, hls, hp, head_lines]
    rfl
  have hz0 : 0 < s.size := by omega
  obtain ⟨kz, hkz⟩ : ∃ kz, kz = s.size - 1 := ⟨_, rfl⟩
  have kzl : kz < s.size := by omega
  obtain ⟨cl, hcl⟩ : ∃ cl, cl = s[kz] := ⟨_, rfl⟩
  have hccl := hcl.symm
  have HEC : Hid (E = decide (cl.toNat = 10)) := by
    show _ = _
    rw [hE, hcl]
    unfold endsNL
    have h1 : s.data.toList.getLast? = some (s[kz]) := by
      rw [List.getLast?_eq_getElem?, str_len, ← hkz, List.getElem?_eq_getElem (by rw [str_len]; exact kzl)]
      rfl
    rw [h1, Bool.eq_iff_iff, beq_iff_eq, decide_eq_true_iff]
    constructor
    · intro e
      rw [Option.some.inj e]
      rfl
    · intro e
      congr 1
      exact UInt8.toNat_inj.1 e
  have HT := hide hT
  obtain ⟨i48, hi48, hz48, hs48, hb48⟩ := info_parts info48
  have I48 := hide hi48
  have Z48 := hide hz48
  have HCZ : Hid ((s.size : Int) - 1 = (kz : Int)) := by
    show _ = _
    omega
  have kz0 : (0 : Int) ≤ (kz : Int) := by omega
  have kz1 : (kz : Int) < (s.size : Int) := by omega
  clear hp hsz hX hls hE hT hcl hi48 hz48 hkz
  go_enter Tryd.func13, Tryd.ntmps13
  go_upto_region 6 with (go_at_call 25; refine (HLI.out _).mono ?_; rintro e w2 ⟨A, cap, rfl, ho2, hb2⟩; have HO2 := hide ho2; have HB2 := hide hb2; clear ho2 hb2)
  have HL0 : Hid (RPLoop T E ls A cap w (.slice none 0 0) (.int .i64 1) w2) := ⟨1, [], Nat.le_refl _, hl1, rfl, by simp, ⟨⟨none, 0, rfl⟩, World.ownsRow_nil _ _ _ _, (fun m hm => by cases hm), HB2.out⟩, HTT.out, HO2.out⟩
  go_loopw [5, 7, 8, 9] (fun v i _ _ wr => RPLoop T E ls A cap w v i wr) (fun _ i _ _ _ => ls.length - (intOf i).toNat)
  case atStart => exact HL0.out
  case round =>
    clear HL0
    unfold RPLoop at hrel
    obtain ⟨j, ms, hj1, hj2, rfl, hml, htl, hTT, hrow⟩ := hrel
    have HTL := hide htl
    have HTJ := hide hTT
    have HR := hide hrow
    obtain ⟨Av, cv, hv⟩ := htl.val
    subst hv
    have hsw : w.heap.size ≤ wr.heap.size := htl.low.size
    clear htl hTT hrow
    have j0 : (0 : Int) ≤ (j : Int) := by omega
    by_cases hlt : j < ls.length
    · obtain ⟨g, q, rfl, hq, hc0⟩ := row_text HR.out hlt
      have js : (j : Int) < (ls.length : Int) := by omega
      have HMR := hide (mark_ref (S q) wr (by rw [S_size]; exact HSZ.out q (List.mem_of_getElem? hq)))
      have HDR : Hid (ls.drop j = q :: ls.drop (j + 1)) := by
        show _ = _
        obtain ⟨h1, h2⟩ := List.getElem?_eq_some_iff.1 hq
        rw [List.drop_eq_getElem_cons h1, h2]
      clear hq
      go_upto_region 8 with fail
      refine wp_region_lit ?_
      refine wpList_value rfl (.slice (some ⟨g, 0, none⟩) ls.length cap) (by go_simp) ?_
      refine wpList_value rfl (.int .i64 (j : Int)) (by go_simp) ?_
      refine wpList_value rfl (.pointer (some ⟨g, j, none⟩)) (by (try simp only [Act.put, List.setIfInBounds_toArray, List.set_cons_zero, List.set_cons_succ]); go_simp) ?_
      refine wpList_value rfl (.string (S q)) (by (try simp only [Act.put, List.setIfInBounds_toArray, List.set_cons_zero, List.set_cons_succ]); go_simp) ?_
      try simp only [Act.put, List.setIfInBounds_toArray, List.set_cons_zero, List.set_cons_succ]
      refine wpList_step (fun K hK => ?_)
      rw [if_pos (by rfl)]
      go_simp
      go_at_call 26
      refine HMR.out.mono ?_
      rintro e w3 ⟨m', bo, rfl, hmu, hb3, hyes, hno⟩
      have HTL3 := hide (HTL.out.step hb3)
      have HR3 := hide (own_step HR.out hb3)
      have HMU := hide (hmu.base hsw)
      have HY := hide hyes
      have HNO := hide hno
      have hsw3 : w.heap.size ≤ w3.heap.size := HTL3.out.low.size
      refine hK _ _ ?_
      clear hK K hmu hb3 hyes hno
      try simp only [Act.put, List.setIfInBounds_toArray, List.set_cons_zero, List.set_cons_succ]
      refine wpList_value rfl (.tuple #[.agg m'.cs, .bool bo]) (by go_simp) ?_
      try simp only [Act.put, List.setIfInBounds_toArray, List.set_cons_zero, List.set_cons_succ]
      refine wpList_value rfl (.agg m'.cs) (by go_simp) ?_
      try simp only [Act.put, List.setIfInBounds_toArray, List.set_cons_zero, List.set_cons_succ]
      refine wpList_value rfl (.bool bo) (by go_simp) ?_
      try simp only [Act.put, List.setIfInBounds_toArray, List.set_cons_zero, List.set_cons_succ]
      refine wpList_step (fun K hK => ?_)
      rw [if_pos (by rfl)]
      go_simp
      refine hK _ _ ?_
      clear hK K
      refine wpList_store_fresh rfl 48 (.tmp 8) (.tmp 32) rfl _ m'.cs rfl rfl (ld48 _ (mk_size _)) rfl (cs_all m') ?_
      try simp only [Act.put, List.setIfInBounds_toArray, List.set_cons_zero, List.set_cons_succ]
      obtain ⟨W3, hW3⟩ : ∃ W3, W3 = World.alloc w3 (.cells m'.cs 48) := ⟨_, rfl⟩
      have HBX : Hid (Blk W3 w3.heap.size 48 m'.cs) := by
        show Blk _ _ _ _
        rw [hW3]
        exact Blk.new _ _ _
      have HB33 : Below w3.heap.size w3 W3 := by rw [hW3]; exact (Below.refl _ _).alloc (Nat.le_refl _) _
      have HTL4 := hide (HTL3.out.step HB33)
      have HR4 := hide (own_step HR3.out HB33)
      have HMU4 := hide (HMU.out.step HB33)
      have hsw4 : w.heap.size ≤ W3.heap.size := HTL4.out.low.size
      rw [← hW3]
      clear hW3 HB33 HTL3 HR3 HMU
      cases bo with
      | false =>
        have HTE : Hid (T = ([], j + 1, 23)) := by
          show _ = _
          have h1 := good_no (HNO.out rfl)
          rw [S_data] at h1
          rw [HTJ.out, HDR.out, trL_no h1]
        clear HY HNO
        go_wp2_with fail
        first | refine bodyPost_end (results_tmp3 rfl _ _ _) rfl ?_ | refine bodyPost_ret (results_tmp3 rfl _ _ _) rfl ?_
        refine ⟨none, 0, [], ?_, ?_, World.ownsRow_nil _ _ _ _, (fun m hm => by cases hm), HTL4.out.low⟩
        · rw [← HT.out, HTE.out]
          rfl
        · rw [← HT.out, HTE.out]
          rfl
      | true =>
        have HGO : Hid (goodL q = some m'.pm) := by
          have h1 := good_yes (HY.out rfl)
          rw [S_data] at h1
          exact h1
        clear HY HNO
        by_cases hend : ls.drop (j + 1) = [] ∧ E = false
        · obtain ⟨h1, h2⟩ := hend
          have HTE : Hid (T = ([], j + 1, 23)) := by
            show _ = _
            rw [HTJ.out, HDR.out, trL_cut h1 h2]
          have hjl : j + 1 = ls.length := by
            have := List.drop_eq_nil_iff.1 h1
            omega
          have hje : (((j : Int)) == (ls.length : Int) - 1) = true := by rw [beq_iff_eq]; omega
          have hje2 : (j : Int) = (ls.length : Int) - 1 := by omega
          have hcn : ¬ cl.toNat = 10 := by
            have := HEC.out
            rw [h2] at this
            exact of_decide_eq_false this.symm
          have hcb : ((cl.toNat : Int) == 10) = false := by rw [beq_eq_false_iff_ne]; omega
          have hcc2 : ((cl.toNat : Int) != 10) = true := by rw [bne, hcb]; rfl
          have HJE := hide hje2
          clear h1 h2 hjl hcn hje2
          have hkk := HCZ.out
          go_wp2_with fail
          first | refine bodyPost_end (results_tmp3 rfl _ _ _) rfl ?_ | refine bodyPost_ret (results_tmp3 rfl _ _ _) rfl ?_
          refine ⟨none, 0, [], ?_, ?_, World.ownsRow_nil _ _ _ _, (fun m hm => by cases hm), HTL4.out.low⟩
          · rw [← HT.out, HTE.out]
            rfl
          · rw [← HT.out, HTE.out]
            rfl
        · have HTN : Hid (T = trL E (j + 1 + 1) ((ms ++ [m']).map Mk.pm) (ls.drop (j + 1))) := by
            show _ = _
            rw [HTJ.out, HDR.out, trL_yes HGO.out hend, List.map_append]
            rfl
          have hor : j + 1 < ls.length ∨ (j + 1 = ls.length ∧ cl.toNat = 10) := by
            rcases Nat.lt_or_ge (j + 1) ls.length with h | h
            · exact .inl h
            · right
              have h1 : ls.drop (j + 1) = [] := List.drop_eq_nil_of_le h
              refine ⟨by omega, ?_⟩
              have h2 := HEC.out
              cases hE : E with
              | false => exact absurd ⟨h1, hE⟩ hend
              | true =>
                rw [hE] at h2
                exact of_decide_eq_true h2.symm
          have HLX : Hid (∀ (g4 c4 : Nat) (W4 : World), W4.ownsRow w.heap.size 48 26 (.slice (some ⟨g4, 0, none⟩) (ms.length + 1) c4) (ms.length + 1) (mkCells ms ++ m'.cs.toList) → (W3.alloc (.cells m'.cs 48)).grownBy W4 (Value.slice Av ms.length cv).ownBlock → Below w.heap.size W3 W4 → RPLoop T E ls (some ⟨g, 0, none⟩) cap w (.slice (some ⟨g4, 0, none⟩) (ms.length + 1) c4) (.int .i64 ((j : Int) + 1)) W4) := by
            intro g4 c4 W4 hown4 hgr4 hb4
            have hrowA := own_step HTL4.out.row ((Below.refl W3.heap.size W3).alloc (Nat.le_refl _) (.cells m'.cs 48))
            refine ⟨j + 1, ms ++ [m'], by omega, by omega, by go_num, by simp; omega, ⟨⟨_, c4, by rw [List.length_append]; rfl⟩, ?_, ?_, HTL4.out.low.trans hb4⟩, HTN.out, ?_⟩
            · rw [mkCells_snoc, List.length_append]
              exact hown4
            · intro x hx
              rcases List.mem_append.1 hx with hx | hx
              · exact ((HTL4.out.ent x hx).step ((Below.refl _ _).alloc (Nat.le_refl _) _)).push hrowA hgr4
              · obtain rfl : x = m' := by simpa using hx
                exact (HMU4.out.step ((Below.refl _ _).alloc (Nat.le_refl _) _)).push hrowA hgr4
            · exact own_kept (own_step HR4.out ((Below.refl W3.heap.size W3).alloc (Nat.le_refl _) (.cells m'.cs 48))) hrowA (by decide) hgr4
          clear hend
          rcases hor with hor | ⟨hor, hcn⟩
          · have hje : (((j : Int)) == (ls.length : Int) - 1) = false := by rw [beq_eq_false_iff_ne]; omega
            have hje2 : ¬ (j : Int) = (ls.length : Int) - 1 := by omega
            go_upto_region 11 with fail
            refine wp_region_lit ?_
            refine wpList_value rfl (.slice Av ms.length cv) (by go_simp) ?_
            refine wpList_value rfl (.agg m'.cs) (ex_load 48 (.tmp 8) rfl _ rfl m'.cs _ Tryd.underlying48 rfl (ld48 _ (mk_size _)) (box_all HBX.out)) ?_
            try simp only [Act.put, List.setIfInBounds_toArray, List.set_cons_zero, List.set_cons_succ]
            refine wpList_one48 rfl (.tmp 54) rfl m' rfl ?_
            try simp only [Act.put, List.setIfInBounds_toArray, List.set_cons_zero, List.set_cons_succ]
            refine wpList_push (W := W3) (cs := m'.cs) rfl (.tmp 53) (.tmp 55) 22 rfl w.heap.size 48 i48 _ 26 288 Tryd.underlying22 I48.out Z48.out hs48 hb48 rfl (by omega) (.slice Av ms.length cv) ms.length (mkCells ms) rfl HTL4.out.row 1 1 rfl rfl (cs_one m') (by omega) (by unfold maxLen; omega) (by omega) hsw4 ?_
            intro g4 c4 W4 hown4 hgr4 hb4 _ _ _
            have HL4 := hide (HLX.out g4 c4 W4 hown4 hgr4 hb4)
            clear hown4 hgr4 hb4
            try simp only [Act.put, List.setIfInBounds_toArray, List.set_cons_zero, List.set_cons_succ]
            go_wp2_with fail
            go_roundw
            case rel => first | exact HL4.out | exact ⟨_, _, _, _, HL4.out, rfl, rfl, rfl, rfl⟩
            case measure => simp [intOf]; omega
          · have hje : (((j : Int)) == (ls.length : Int) - 1) = true := by rw [beq_iff_eq]; omega
            have hcb : ((cl.toNat : Int) == 10) = true := by rw [beq_iff_eq]; omega
            have hcc2 : ((cl.toNat : Int) != 10) = false := by rw [bne, hcb]; rfl
            have hkk := HCZ.out
            clear hcn hor
            go_upto_region 11 with fail
            clear hkk hje
            refine wp_region_lit ?_
            refine wpList_value rfl (.slice Av ms.length cv) (by go_simp) ?_
            refine wpList_value rfl (.agg m'.cs) (ex_load 48 (.tmp 8) rfl _ rfl m'.cs _ Tryd.underlying48 rfl (ld48 _ (mk_size _)) (box_all HBX.out)) ?_
            try simp only [Act.put, List.setIfInBounds_toArray, List.set_cons_zero, List.set_cons_succ]
            refine wpList_one48 rfl (.tmp 54) rfl m' rfl ?_
            try simp only [Act.put, List.setIfInBounds_toArray, List.set_cons_zero, List.set_cons_succ]
            refine wpList_push (W := W3) (cs := m'.cs) rfl (.tmp 53) (.tmp 55) 22 rfl w.heap.size 48 i48 _ 26 288 Tryd.underlying22 I48.out Z48.out hs48 hb48 rfl (by omega) (.slice Av ms.length cv) ms.length (mkCells ms) rfl HTL4.out.row 1 1 rfl rfl (cs_one m') (by omega) (by unfold maxLen; omega) (by omega) hsw4 ?_
            intro g4 c4 W4 hown4 hgr4 hb4 _ _ _
            have HL4 := hide (HLX.out g4 c4 W4 hown4 hgr4 hb4)
            clear hown4 hgr4 hb4
            try simp only [Act.put, List.setIfInBounds_toArray, List.set_cons_zero, List.set_cons_succ]
            go_wp2_with fail
            go_roundw
            case rel => first | exact HL4.out | exact ⟨_, _, _, _, HL4.out, rfl, rfl, rfl, rfl⟩
            case measure => simp [intOf]; omega
    · have js : ¬ (j : Int) < (ls.length : Int) := by omega
      have HTE : Hid (T = (ms.map Mk.pm, 0, 0)) := by
        show _ = _
        rw [HTJ.out, List.drop_eq_nil_of_le (by omega), trL]
      clear hlt
      go_wp2_with fail
      first | refine bodyPost_end (results_tmp3 rfl _ _ _) rfl ?_ | refine bodyPost_ret (results_tmp3 rfl _ _ _) rfl ?_
      refine ⟨Av, cv, ms, ?_, ?_, HTL.out.row, HTL.out.ent, HTL.out.low⟩
      · rw [← HT.out, HTE.out]
        rfl
      · rw [← HT.out, HTE.out]

/-- The reference's ParseTrace. -/
theorem rparse_any (s : ByteArray) (w : World) (hs : s.size ≤ 1048576) : Calls Tryd.prog 13 #[.string s] w fun e w' => TrR s.data.toList w e w' := by
  cases hp : Lib.hasPrefix s.data.toList headT with
  | false => exact rparse_no s w hs hp
  | true =>
    unfold Lib.hasPrefix at hp
    obtain ⟨r, hr⟩ := List.isPrefixOf_iff_prefix.1 hp
    exact rparse_yes s w hs r hr.symm
end Go.Proofs.YtenebkkfjalcaaaDoor
