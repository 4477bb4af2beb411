/-
  The cursor: numbers. A mark's content, without its places; the reference's parser as a plain function; the cut of a line. The plain law: the reference reads what a mark's line says. Plain facts on the cursor's steps over a text put together of parts.
-/
import Derived.Test.YtenebkkfjalcaaaDoorZCus
import Derived.Test.YtenebkkfjalcaaaDoorZSev
import Derived.Test.YtenebkkfjalcaaaDoorZNib
import Derived.Test.YtenebkkfjalcaaaDoorZMka
set_option linter.unusedVariables false
set_option linter.unusedSimpArgs false
namespace Go.Proofs.YtenebkkfjalcaaaDoor
open Go.RowKit Go.WideShapes Go.ChangeShapes Q

theorem only_low {F : Nat → Prop} {w w1 w2 : World} (h : Only F w w1) (hb : Below w.heap.size w1 w2) : Only F w w2 :=
  ⟨hb.os.trans h.os, hb.tape.trans h.tape, hb.output.trans h.output, Nat.le_trans h.size hb.size, fun k hk hF => (hb.block k hk).trans (h.block k hk hF)⟩
/-- The cursor's stops. -/
def stp : List UInt8 := [32, 47, 44]
def nK (l : List UInt8) (k : Nat) : Nat := k + (untL stp (l.drop k)).length
def nB (l : List UInt8) (k : Nat) (bad : Bool) : Bool := bad || !numOk stp (l.drop k)
def nV (l : List UInt8) (k : Nat) : Int := numV stp (l.drop k)
def sK (t l : List UInt8) (k : Nat) : Nat := if preB t (l.drop k) = true then k + t.length else k
def sB (t l : List UInt8) (k : Nat) (bad : Bool) : Bool := if preB t (l.drop k) = true then bad else true
theorem nK_le {s : ByteArray} {k : Nat} (hk : k ≤ s.size) : nK s.data.toList k ≤ s.size := by
  unfold nK untL
  have h1 := (List.takeWhile_sublist (fun c => decide (Lib.indexByte stp c < 0)) (l := s.data.toList.drop k)).length_le
  rw [List.length_drop, str_len] at h1
  omega
theorem sK_le {s : ByteArray} {k : Nat} (t : List UInt8) (hk : k ≤ s.size) : sK t s.data.toList k ≤ s.size := by
  unfold sK
  split
  · rename_i h
    unfold preB Lib.hasPrefix at h
    have h1 := (List.isPrefixOf_iff_prefix.1 h).length_le
    rw [List.length_drop, str_len] at h1
    omega
  · exact hk
/-- So many numbers more, each behind a slash. -/
def numsS (l : List UInt8) : Nat → Nat → Bool → List Int × Nat × Bool
  | 0, k, bad => ([], k, bad)
  | m + 1, k, bad =>
    let k1 := sK [47] l k
    let b1 := sB [47] l k bad
    let r := numsS l m (nK l k1) (nB l k1 b1)
    (nV l k1 :: r.1, r.2)
/-- So many numbers, a slash between two. -/
def numsA (l : List UInt8) (n k : Nat) (bad : Bool) : List Int × Nat × Bool :=
  let r := numsS l (n - 1) (nK l k) (nB l k bad)
  (nV l k :: r.1, r.2)
theorem number_st (s : ByteArray) (k b : Nat) (bad : Bool) (w : World) (h : Cu w b s k bad) (hk : k ≤ s.size) (hs : s.size ≤ 1000000000000) :
    Calls Tryd.prog 44 #[.pointer (some ⟨b, 0, none⟩)] w fun e w' => e = .returned (.int .i64 (nV s.data.toList k)) ∧ Cu w' b s (nK s.data.toList k) (nB s.data.toList k bad) ∧ Only (fun q => q = b) w w' := number_any s k b bad w h hk hs
theorem skip_st (t : List UInt8) (s : ByteArray) (k b : Nat) (bad : Bool) (w : World) (h : Cu w b s k bad) (hk : k ≤ s.size) (hs : s.size ≤ 1000000000000) (ht : t.length ≤ 1000) :
    Calls Tryd.prog 45 #[.pointer (some ⟨b, 0, none⟩), .string (S t)] w fun e w' => e = .returned (.tuple #[]) ∧ Cu w' b s (sK t s.data.toList k) (sB t s.data.toList k bad) ∧ Only (fun q => q = b) w w' := skip_any t s k b bad w h hk hs ht
/-- What comes out. -/
def NumP (s : ByteArray) (n k b : Nat) (bad : Bool) (w : World) (e : Ending) (w' : World) : Prop := ∃ A cap, e = .returned (.slice A n cap) ∧ w'.ownsRow w.heap.size 3 1 (.slice A n cap) n (ints (numsA s.data.toList n k bad).1) ∧ Cu w' b s (numsA s.data.toList n k bad).2.1 (numsA s.data.toList n k bad).2.2 ∧ Only (fun q => q = b) w w'
/-- What the loop keeps. -/
def QLoop (s : ByteArray) (n k b : Nat) (bad : Bool) (w : World) (v : Value) (wr : World) : Prop := ∃ (xs : List Int) (k1 : Nat) (b1 : Bool), 1 ≤ xs.length ∧ xs.length ≤ n ∧ k1 ≤ s.size ∧ wr.ownsRow w.heap.size 3 1 v xs.length (ints xs) ∧ Cu wr b s k1 b1 ∧ Only (fun q => q = b) w wr ∧
  numsA s.data.toList n k bad = (xs ++ (numsS s.data.toList (n - xs.length) k1 b1).1, (numsS s.data.toList (n - xs.length) k1 b1).2)
def lenOf : Value → Nat
  | .slice _ n _ => n
  | _ => 0
set_option maxRecDepth 100000 in
set_option maxHeartbeats 4000000 in
theorem numbers_any (n : Nat) (s : ByteArray) (k b : Nat) (bad : Bool) (w : World) (h : Cu w b s k bad) (hk : k ≤ s.size) (hs : s.size ≤ 1000000000000) (hn : 1 ≤ n) (hn2 : n ≤ 1000) :
    Calls Tryd.prog 59 #[.pointer (some ⟨b, 0, none⟩), .int .i64 (n : Int)] w fun e w' => NumP s n k b bad w e w' := by
  obtain ⟨i3, hi3, hz3, hs3, hb3⟩ := info_parts info3
  have I3 := hide hi3
  clear hi3
  have hbw : b < w.heap.size := Blk.lt h
  have HN := hide (number_st s k b bad w h hk hs)
  clear h
  go_enter Tryd.func59, Tryd.ntmps59
  go_upto_region 2 with (go_at_call 44; refine HN.out.mono ?_; rintro e w1 ⟨rfl, hcu, hon⟩; have HL0 : Hid (QLoop s n k b bad w (.slice (some ⟨w1.heap.size, 0, none⟩) 1 1) (w1.alloc (.cells #[.int .i64 (nV s.data.toList k)] 3))) := ⟨[nV s.data.toList k], nK s.data.toList k, nB s.data.toList k bad, Nat.le_refl _, hn, nK_le hk, own_base (own_of_alloc w1 3 [.int .i64 (nV s.data.toList k)] 1 rfl (by unfold maxLen; omega)) hon.size, Blk.alloc hcu _, hon.alloc _, rfl⟩; clear hcu hon)
  go_loopw [5] (fun v wr => QLoop s n k b bad w v wr) (fun v _ => n - lenOf v)
  case atStart => exact HL0.out
  case round =>
    clear HL0
    unfold QLoop at hrel
    obtain ⟨xs, k1, b1, hx1, hxn, hk1, hown, hcu, hon, heq⟩ := hrel
    have HO := hide hown
    have HCU := hide hcu
    have HON := hide hon
    have HEQ := hide heq
    obtain ⟨A7, c7, rfl, _, _⟩ := own_slice hown
    clear hown hcu hon heq
    by_cases hlt : xs.length < n
    · have js : (xs.length : Int) < (n : Int) := by omega
      have HK := hide (skip_st [47] s k1 b b1 wr HCU.out hk1 hs (by simp))
      obtain ⟨Z, hZ⟩ : ∃ Z, Z = nV s.data.toList (sK [47] s.data.toList k1) := ⟨_, rfl⟩
      have HE2 : Hid (numsA s.data.toList n k bad = ((xs ++ [Z]) ++ (numsS s.data.toList (n - (xs.length + 1)) (nK s.data.toList (sK [47] s.data.toList k1)) (nB s.data.toList (sK [47] s.data.toList k1) (sB [47] s.data.toList k1 b1))).1, (numsS s.data.toList (n - (xs.length + 1)) (nK s.data.toList (sK [47] s.data.toList k1)) (nB s.data.toList (sK [47] s.data.toList k1) (sB [47] s.data.toList k1 b1))).2)) := by
        show _ = _
        rw [HEQ.out, show n - xs.length = (n - (xs.length + 1)) + 1 by omega, numsS, hZ]
        simp
      have hk2 := sK_le (s := s) [47] hk1
      have hk3 := nK_le hk2
      have HZ := hide hZ
      clear hZ
      go_upto_region 4 with (go_at_call 45; refine HK.out.mono ?_; rintro e w2 ⟨rfl, hcu2, hon2⟩; have HCU2 := hide hcu2; have HO2 := hide (own_only HO.out hon2 (fun g hg hgb => by have := (HO.out.lt g hg).1; omega)); have HON2 := hide (HON.out.trans hon2); clear hcu2 hon2)
      have HN2 : Hid (Calls Tryd.prog 44 #[.pointer (some ⟨b, 0, none⟩)] w2 fun e w' => e = .returned (.int .i64 Z) ∧ Cu w' b s (nK s.data.toList (sK [47] s.data.toList k1)) (nB s.data.toList (sK [47] s.data.toList k1) (sB [47] s.data.toList k1 b1)) ∧ Only (fun q => q = b) w2 w') := by
        have := number_st s (sK [47] s.data.toList k1) b (sB [47] s.data.toList k1 b1) w2 HCU2.out hk2 hs
        rw [← HZ.out] at this
        exact this
      clear HK HZ
      go_wp2_with (first | (go_at_call 44; refine HN2.out.mono ?_; rintro e w3 ⟨rfl, hcu3, hon3⟩; have HCU3 := hide hcu3; have HO3 := hide (own_only HO2.out hon3 (fun g hg hgb => by have := (HO2.out.lt g hg).1; omega)); have HON3 := hide (HON2.out.trans hon3); clear hcu3 hon3) | (at_builtin; refine wpList_push (W := w3) (cs := #[.int .i64 Z]) rfl (.tmp 15) (.tmp 18) _ rfl w.heap.size 3 i3 _ 1 8 Tryd.underlying41 I3.out hz3 hs3 hb3 rfl (by omega) (.slice A7 xs.length c7) xs.length (ints xs) rfl HO3.out 1 1 rfl rfl (by simp [Value.oneCell']) (by omega) (by unfold maxLen; omega) (by omega) HON3.out.size ?_; intro g8 c8 w8 hown8 hgr8 hb8 _ _ _; have HL8 : Hid (QLoop s n k b bad w (.slice (some ⟨g8, 0, none⟩) (xs.length + 1) c8) w8) := ⟨xs ++ [Z], _, _, by simp, by simp; omega, hk3, by rw [List.length_append, ints_app]; exact hown8, Blk.below HCU3.out hb8 hbw, only_low HON3.out hb8, by rw [List.length_append, List.length_singleton]; exact HE2.out⟩; clear hown8 hgr8 hb8))
      go_roundw
      case rel => first | exact HL8.out | exact ⟨_, HL8.out, rfl⟩
      case measure => simp [lenOf]; omega
    · have js : ¬ (xs.length : Int) < (n : Int) := by omega
      have hln : xs.length = n := by omega
      have HLN := hide hln
      have he := HEQ.out
      rw [hln, Nat.sub_self, numsS, List.append_nil] at he
      have HE := hide he
      clear he hln
      go_wp2_with fail
      go_ret
      refine ⟨A7, c7, ?_, ?_, ?_, HON.out⟩
      · rw [← HLN.out]
        rfl
      · rw [HE.out]
        have := HO.out
        rw [HLN.out] at this
        exact this
      · rw [HE.out]
        exact HCU.out
end Go.Proofs.YtenebkkfjalcaaaDoor
set_option linter.unusedVariables false
set_option linter.unusedSimpArgs false
namespace Go.Proofs.YtenebkkfjalcaaaDoor
open Go.RowKit Go.WideShapes Go.ChangeShapes Q

/-- What a mark says. -/
structure PM where
  (aT kd nd ic ep ld ii ci : Int)
  ms : List (Int × Int × Int)
  ts : List Int
  (se sq po n : Int)
  bd : List UInt8
  (cl cn rq op : Int)
  (key val old : List UInt8)
  co : Int
  rv : List UInt8
  (rn er : Int)
def Mk.pm (m : Mk) : PM := ⟨m.aT, m.kd, m.nd, m.ic, m.ep, m.ld, m.ii, m.ci, m.ms, m.ts, m.se, m.sq, m.po, m.n, m.bd, m.cl, m.cn, m.rq, m.op, m.key.data.toList, m.val.data.toList, m.old.data.toList, m.co, m.rv.data.toList, m.rn, m.er⟩
def PM.zero : PM := ⟨0, 0, 0, 0, 0, 0, 0, 0, [], [], 0, 0, 0, 0, [], 0, 0, 0, 0, [], [], [], 0, [], 0, 0⟩
theorem bytes_inj {a b : ByteArray} (h : a.data.toList = b.data.toList) : a = b := ByteArray.ext (Array.toList_inj.1 h)
/-- Marks that say the same are the same but for the places of their lists. -/
theorem pm_at {m m' : Mk} (h : m'.pm = m.pm) (h1 : m'.nm = m.nm) (h2 : m'.nt = m.nt) (h3 : m'.nb = m.nb) : m' = m.at m'.Am m'.cm m'.At m'.ct m'.Ab m'.cb := by
  obtain ⟨aT, kd, nd, ic, ep, ld, ii, ci, Am, nm, cm, ms, At, nt, ct, ts, se, sq, po, n, Ab, nb, cb, bd, cl, cn, rq, op, key, val, old, co, rv, rn, er⟩ := m
  obtain ⟨aT', kd', nd', ic', ep', ld', ii', ci', Am', nm', cm', ms', At', nt', ct', ts', se', sq', po', n', Ab', nb', cb', bd', cl', cn', rq', op', key', val', old', co', rv', rn', er'⟩ := m'
  simp only [Mk.pm, PM.mk.injEq] at h h1 h2 h3
  obtain ⟨e1, e2, e3, e4, e5, e6, e7, e8, e9, e10, e11, e12, e13, e14, e15, e16, e17, e18, e19, e20, e21, e22, e23, e24, e25, e26⟩ := h
  obtain rfl := bytes_inj e20
  obtain rfl := bytes_inj e21
  obtain rfl := bytes_inj e22
  obtain rfl := bytes_inj e24
  subst e1 e2 e3 e4 e5 e6 e7 e8 e9 e10 e11 e12 e13 e14 e15 e16 e17 e18 e19 e23 e25 e26 h1 h2 h3
  rfl
/-- Three numbers are a member. -/
def memC (x : List UInt8) : Option (Int × Int × Int) := match sevL 47 x with
  | [a, b, c] => some (a, b, c)
  | _ => none
/-- The reference's big. -/
def bigC (m : PM) (name s : List UInt8) : PM :=
  let p := (cutL 47 [] s).getD []
  if name = [105, 100] ∧ p.length = 4 then { m with ep := looseZ (p.getD 0 []), ld := looseZ (p.getD 1 []), ii := looseZ (p.getD 2 []), ci := looseZ (p.getD 3 []) }
  else if name = [109, 101, 109, 98, 101, 114, 115] then { m with ms := m.ms ++ ((cutL 44 [] s).getD []).filterMap memC }
  else if name = [116, 114, 97, 110, 115] then { m with ts := sevL 44 s }
  else if name = [98, 111, 100, 121] then { m with bd := textL s }
  else if name = [99, 109, 100] ∧ p.length = 7 then { m with cl := looseZ (p.getD 0 []), cn := looseZ (p.getD 1 []), rq := looseZ (p.getD 2 []), op := looseZ (p.getD 3 []), key := textL (p.getD 4 []), val := textL (p.getD 5 []), old := textL (p.getD 6 []) }
  else if name = [114, 101, 115, 117, 108, 116] ∧ p.length = 3 then { m with co := looseZ (p.getD 0 []), rv := textL (p.getD 1 []), rn := looseZ (p.getD 2 []) }
  else m
def nameC (w : List UInt8) : List UInt8 := w.takeWhile fun c => decide (c.toNat ≠ 61)
/-- The reference's field. -/
def fieldC (m : PM) (w : List UInt8) : PM :=
  let name := nameC w
  let s := w.drop (name.length + 1)
  if name.length = w.length then m
  else if name = [115, 101, 110, 100, 101, 114] then { m with se := looseZ s }
  else if name = [115, 101, 113] then { m with sq := looseZ s }
  else if name = [112, 111, 115] then { m with po := looseZ s }
  else if name = [110] then { m with n := looseZ s }
  else if name = [101, 114, 114] then { m with er := looseZ s }
  else bigC m name s
/-- The number of a kind's word. -/
def kindC (k : List UInt8) : Int := (List.range 16).foldl (fun a i => if kindL.getD (i + 1) [] = k then ((i + 1 : Nat) : Int) else a) 0
/-- The reference's mark, ahead of its test. -/
def markC (line : List UInt8) : Option PM := match cutL 32 [] line with
  | some (a :: k :: b :: i :: r) => some (r.foldl fieldC { PM.zero with aT := looseZ a, kd := kindC k, nd := looseZ b, ic := looseZ i })
  | _ => none

/-- A text that a cut by c passes over whole: no such byte outside of its strings. -/
def Over (c : UInt8) (l : List UInt8) : Prop := ∀ cur r, cutL c cur (l ++ r) = cutL c (cur ++ l) r
theorem Over.nil (c : UInt8) : Over c [] := fun cur r => by simp
theorem Over.app {c : UInt8} {a b : List UInt8} (h1 : Over c a) (h2 : Over c b) : Over c (a ++ b) := fun cur r => by
  rw [List.append_assoc, h1, h2, List.append_assoc]
theorem Over.byte {c q : UInt8} (h : ¬ q.toNat = 34) (hc : ¬ q = c) : Over c [q] := fun cur r => cut_byte h hc
theorem Over.quote (c : UInt8) (l : List UInt8) : Over c (quoteL l) := fun cur r => by
  have hu : unq (l.flatMap qb ++ [34] ++ r) = some (l, r) := unq_quote l r
  have e : quoteL l ++ r = 34 :: (l.flatMap qb ++ [34] ++ r) := by simp [quoteL]
  rw [e, cut_str (by rfl) hu]
  have e2 : (34 :: (l.flatMap qb ++ [34] ++ r) : List UInt8).take ((34 :: (l.flatMap qb ++ [34] ++ r) : List UInt8).length - r.length) = quoteL l := by
    rw [← e, List.length_append, Nat.add_sub_cancel, List.take_left']
    rfl
  rw [e2]
theorem Over.bytes {c : UInt8} : ∀ {l : List UInt8}, (∀ q ∈ l, ¬ q.toNat = 34 ∧ ¬ q = c) → Over c l
  | [], _ => Over.nil c
  | q :: l, h => by
    have h1 : Over c [q] := Over.byte (h q (by simp)).1 (h q (by simp)).2
    have h2 : Over c l := Over.bytes fun x hx => h x (by simp [hx])
    exact h1.app h2
theorem Over.dec {c : UInt8} (hc : isD c = false) (n : Nat) : Over c (Lib.decDigits n) := Over.bytes fun q hq => by
  have h := (dec_facts n).2.1
  rw [List.all_eq_true] at h
  have h1 := h q hq
  refine ⟨fun e => ?_, fun e => ?_⟩
  · unfold isD at h1
    have := of_decide_eq_true h1
    omega
  · rw [e, hc] at h1
    cases h1
/-- Pieces that a cut passes over, put together with its byte, are cut apart again. -/
theorem cut_join {c : UInt8} (hc : ¬ c.toNat = 34) : ∀ (ps : List (List UInt8)) (p : List UInt8), Over c p → (∀ q ∈ ps, Over c q) → cutL c [] (Lib.join (p :: ps) [c]) = some (p :: ps)
  | [], p, hp, _ => by
    rw [Lib.join_one]
    have := hp [] []
    rw [List.append_nil, List.nil_append, cut_nil] at this
    exact this
  | q :: ps, p, hp, h => by
    have e : Lib.join (p :: q :: ps) [c] = p ++ (c :: Lib.join (q :: ps) [c]) := by
      rw [Lib.join_cons, Lib.join_cons]
      simp [Lib.joinTail]
    rw [e, hp [] (c :: Lib.join (q :: ps) [c]), List.nil_append, cut_sep hc rfl, cut_join hc ps q (h q (by simp)) (fun x hx => h x (by simp [hx]))]
    rfl
end Go.Proofs.YtenebkkfjalcaaaDoor
set_option linter.unusedVariables false
set_option linter.unusedSimpArgs false
namespace Go.Proofs.YtenebkkfjalcaaaDoor
open Go.RowKit Go.WideShapes Go.ChangeShapes Q

theorem dec_head (n : Nat) : (Lib.decDigits n).head? ≠ some 45 := by
  obtain ⟨h1, h2, _, _⟩ := dec_facts n
  intro e
  cases hq : Lib.decDigits n with
  | nil => exact h1 hq
  | cons x r =>
    rw [hq] at e h2
    have : x = 45 := Option.some.inj e
    subst this
    rw [List.all_cons] at h2
    have h3 : isD 45 = false := by decide
    rw [h3] at h2
    cases h2
theorem loose_nat {n : Nat} (h : n ≤ 4611686018427387904) : looseZ (Lib.decDigits n) = n := by
  unfold looseZ cntZ
  rw [if_neg (dec_head n), cnt_dec h]
theorem loose_ct {x : Int} (h : Ct x) : looseZ (Lib.itoa x) = x := by
  obtain ⟨n, rfl, h⟩ := h
  rw [itoa_nat]
  exact loose_nat h
theorem loose_int {x : Int} (h0 : -4611686018427387904 ≤ x) (h1 : x ≤ 4611686018427387904) : looseZ (Lib.itoa x) = x := by
  by_cases h : 0 ≤ x
  · exact loose_ct ⟨x.toNat, by omega, by omega⟩
  · obtain ⟨n, hn⟩ := Int.eq_ofNat_of_zero_le (show 0 ≤ -x by omega)
    obtain rfl : x = -(n : Int) := by omega
    rw [itoa_neg' (by omega)]
    unfold looseZ cntZ
    rw [if_pos (show (45 :: Lib.decDigits n).head? = some 45 from rfl), List.drop_one, List.tail_cons, cnt_dec (by omega)]
theorem text_quote (l : List UInt8) : textL (quoteL l) = l := by
  unfold textL
  rw [if_pos (show (quoteL l).head? = some 34 from rfl)]
  have : (quoteL l).drop 1 = l.flatMap qb ++ [34] ++ [] := by simp [quoteL]
  rw [this, unq_quote]
theorem over_itoa {c : UInt8} (hc : isD c = false) (h45 : ¬ c = 45) (x : Int) : Over c (Lib.itoa x) := by
  unfold Lib.itoa
  split
  · have h1 : Over c [45] := Over.byte (by decide) (fun e => h45 e.symm)
    exact h1.app (Over.dec hc _)
  · exact Over.dec hc _
theorem over_join {c d : UInt8} (hd : ¬ d.toNat = 34) (hcd : ¬ d = c) : ∀ (ls : List (List UInt8)), (∀ l ∈ ls, Over c l) → Over c (Lib.join ls [d])
  | [], _ => by rw [Lib.join_nil]; exact Over.nil c
  | [x], h => by rw [Lib.join_one]; exact h x (by simp)
  | x :: y :: r, h => by
    have e : Lib.join (x :: y :: r) [d] = x ++ ([d] ++ Lib.join (y :: r) [d]) := by
      rw [Lib.join_cons, Lib.join_cons]
      simp [Lib.joinTail]
    rw [e]
    exact (h x (by simp)).app ((Over.byte hd hcd).app (over_join hd hcd (y :: r) fun l hl => h l (by simp [hl])))
theorem name_eq {nm v : List UInt8} (h : ∀ c ∈ nm, ¬ c.toNat = 61) : nameC (nm ++ [61] ++ v) = nm ∧ (nm ++ [61] ++ v).drop (nm.length + 1) = v ∧ ¬ nm.length = (nm ++ [61] ++ v).length := by
  refine ⟨?_, ?_, ?_⟩
  · unfold nameC
    rw [List.append_assoc, List.takeWhile_append_of_pos (by intro c hc; exact decide_eq_true (h c hc))]
    show nm ++ List.takeWhile _ (61 :: v) = nm
    rw [List.takeWhile_cons]
    simp
  · rw [List.append_assoc, List.drop_append]
    simp
  · simp
theorem field_eq {m : PM} {nm v : List UInt8} (h : ∀ c ∈ nm, ¬ c.toNat = 61) : fieldC m (nm ++ [61] ++ v) =
    (if nm = [115, 101, 110, 100, 101, 114] then { m with se := looseZ v }
    else if nm = [115, 101, 113] then { m with sq := looseZ v }
    else if nm = [112, 111, 115] then { m with po := looseZ v }
    else if nm = [110] then { m with n := looseZ v }
    else if nm = [101, 114, 114] then { m with er := looseZ v }
    else bigC m nm v) := by
  obtain ⟨h1, h2, h3⟩ := name_eq (v := v) h
  unfold fieldC
  simp only [h1, h2]
  rw [if_neg h3]
theorem fold_addP (b : Bool) (acc : PM) (ls : List (List UInt8)) (nm v : List UInt8) : (addP b ls nm v).foldl fieldC acc = if b = true then fieldC (ls.foldl fieldC acc) (nm ++ [61] ++ v) else ls.foldl fieldC acc := by
  cases b with
  | false => rfl
  | true =>
    show (ls ++ [nm ++ [61] ++ v]).foldl fieldC acc = _
    rw [List.foldl_append]
    rfl
theorem addP_front (b : Bool) (fs ls : List (List UInt8)) (nm v : List UInt8) : addP b (fs ++ ls) nm v = fs ++ addP b ls nm v := by
  cases b with
  | false => rfl
  | true =>
    show (fs ++ ls) ++ [nm ++ [61] ++ v] = fs ++ (ls ++ [nm ++ [61] ++ v])
    rw [List.append_assoc]
theorem addP_all {P : List UInt8 → Prop} (b : Bool) {ls : List (List UInt8)} {nm v : List UInt8} (h : ∀ l ∈ ls, P l) (hn : P (nm ++ [61] ++ v)) : ∀ l ∈ addP b ls nm v, P l := by
  cases b with
  | false => exact h
  | true =>
    intro l hl
    rcases List.mem_append.1 hl with hl | hl
    · exact h l hl
    · obtain rfl : l = nm ++ [61] ++ v := by simpa using hl
      exact hn
theorem cut_sl4 {a b c d : Int} : cutL 47 [] (sl4 a b c d) = some [Lib.itoa a, Lib.itoa b, Lib.itoa c, Lib.itoa d] := by
  unfold sl4
  refine cut_join (by decide) _ _ (over_itoa (by decide) (by decide) _) ?_
  intro q hq
  simp at hq
  rcases hq with rfl | rfl | rfl <;> exact over_itoa (by decide) (by decide) _
theorem mem_tri {s : Int × Int × Int} (h1 : Ct s.1) (h2 : Ct s.2.1) (h3 : Ct s.2.2) : memC (triI s) = some s := by
  have hc : cutL 47 [] (triI s) = some [Lib.itoa s.1, Lib.itoa s.2.1, Lib.itoa s.2.2] := by
    unfold triI
    refine cut_join (by decide) _ _ (over_itoa (by decide) (by decide) _) ?_
    intro q hq
    simp at hq
    rcases hq with rfl | rfl <;> exact over_itoa (by decide) (by decide) _
  unfold memC sevL
  rw [hc]
  simp only [List.map_cons, List.map_nil, loose_ct h1, loose_ct h2, loose_ct h3]
theorem over_sl4 {c : UInt8} (hc : isD c = false) (h45 : ¬ c = 45) (h47 : ¬ 47 = c) (x y z u : Int) : Over c (sl4 x y z u) := by
  unfold sl4
  refine over_join (by decide) h47 _ ?_
  intro q hq
  simp at hq
  rcases hq with rfl | rfl | rfl | rfl <;> exact over_itoa hc h45 _
theorem over_tri {c : UInt8} (hc : isD c = false) (h45 : ¬ c = 45) (h47 : ¬ 47 = c) (s : Int × Int × Int) : Over c (triI s) := by
  unfold triI
  refine over_join (by decide) h47 _ ?_
  intro q hq
  simp at hq
  rcases hq with rfl | rfl | rfl <;> exact over_itoa hc h45 _
theorem over_sep {c q : UInt8} (h : ¬ q.toNat = 34) (hc : ¬ q = c) {a b : List UInt8} (ha : Over c a) (hb : Over c b) : Over c (a ++ [q] ++ b) := (ha.app (Over.byte h hc)).app hb
theorem cut_cmd (m : Mk) : cutL 47 [] (cmdL m) = some [Lib.itoa m.cl, Lib.itoa m.cn, Lib.itoa m.rq, Lib.itoa m.op, quoteL m.key.data.toList, quoteL m.val.data.toList, quoteL m.old.data.toList] := by
  have e : cmdL m = Lib.join [Lib.itoa m.cl, Lib.itoa m.cn, Lib.itoa m.rq, Lib.itoa m.op, quoteL m.key.data.toList, quoteL m.val.data.toList, quoteL m.old.data.toList] [47] := by
    unfold cmdL sl4
    rw [Lib.join_cons, Lib.join_cons]
    simp [Lib.joinTail]
  rw [e]
  refine cut_join (by decide) _ _ (over_itoa (by decide) (by decide) _) ?_
  intro q hq
  simp at hq
  rcases hq with rfl | rfl | rfl | rfl | rfl | rfl
  · exact over_itoa (by decide) (by decide) _
  · exact over_itoa (by decide) (by decide) _
  · exact over_itoa (by decide) (by decide) _
  · exact Over.quote _ _
  · exact Over.quote _ _
  · exact Over.quote _ _
theorem cut_res (m : Mk) : cutL 47 [] (resL m) = some [Lib.itoa m.co, quoteL m.rv.data.toList, Lib.itoa m.rn] := by
  have e : resL m = Lib.join [Lib.itoa m.co, quoteL m.rv.data.toList, Lib.itoa m.rn] [47] := by
    unfold resL
    rw [Lib.join_cons]
    simp [Lib.joinTail]
  rw [e]
  refine cut_join (by decide) _ _ (over_itoa (by decide) (by decide) _) ?_
  intro q hq
  simp at hq
  rcases hq with rfl | rfl
  · exact Over.quote _ _
  · exact over_itoa (by decide) (by decide) _
theorem kind_word {k : Nat} (h1 : 1 ≤ k) (h2 : k ≤ 16) : kindC (kindL.getD k []) = (k : Int) := by
  have : ∀ k : Fin 16, kindC (kindL.getD (k.val + 1) []) = ((k.val + 1 : Nat) : Int) := by decide +kernel
  have h := this ⟨k - 1, by omega⟩
  simp only [show k - 1 + 1 = k by omega] at h
  exact h
theorem kind_over {c : UInt8} (k : Nat) (hc : c.toNat < 97) : Over c (kindL.getD k []) := by
  rcases Nat.lt_or_ge k 17 with h | h
  · have : ∀ k : Fin 17, ∀ q ∈ kindL.getD k.val [], 97 ≤ q.toNat := by decide +kernel
    refine Over.bytes fun q hq => ?_
    have h1 := this ⟨k, h⟩ q hq
    refine ⟨by omega, fun e => ?_⟩
    rw [e] at h1
    omega
  · have : kindL.getD k [] = [] := by simp [kindL, List.getD, List.getElem?_eq_none, h]
    rw [this]
    exact Over.nil c
theorem step_se (acc : PM) {x : Int} (h0 : acc.se = 0) (hx : Ct x) : (if (x != 0) = true then fieldC acc ([115, 101, 110, 100, 101, 114] ++ [61] ++ Lib.itoa x) else acc) = { acc with se := x } := by
  by_cases h : x = 0
  · subst h
    rw [if_neg (by decide)]
    obtain ⟨aT, kd, nd, ic, ep, ld, ii, ci, ms, ts, se, sq, po, n, bd, cl, cn, rq, op, key, val, old, co, rv, rn, er⟩ := acc
    simp only at h0
    subst h0
    rfl
  · rw [if_pos (by simpa using h), field_eq (by decide)]
    simp [loose_ct hx]
theorem step_sq (acc : PM) {x : Int} (h0 : acc.sq = 0) (hx : Ct x) : (if (x != 0) = true then fieldC acc ([115, 101, 113] ++ [61] ++ Lib.itoa x) else acc) = { acc with sq := x } := by
  by_cases h : x = 0
  · subst h
    rw [if_neg (by decide)]
    obtain ⟨aT, kd, nd, ic, ep, ld, ii, ci, ms, ts, se, sq, po, n, bd, cl, cn, rq, op, key, val, old, co, rv, rn, er⟩ := acc
    simp only at h0
    subst h0
    rfl
  · rw [if_pos (by simpa using h), field_eq (by decide)]
    simp [loose_ct hx]
theorem step_po (acc : PM) {x : Int} (h0 : acc.po = 0) (hx : Ct x) : (if (x != 0) = true then fieldC acc ([112, 111, 115] ++ [61] ++ Lib.itoa x) else acc) = { acc with po := x } := by
  by_cases h : x = 0
  · subst h
    rw [if_neg (by decide)]
    obtain ⟨aT, kd, nd, ic, ep, ld, ii, ci, ms, ts, se, sq, po, n, bd, cl, cn, rq, op, key, val, old, co, rv, rn, er⟩ := acc
    simp only at h0
    subst h0
    rfl
  · rw [if_pos (by simpa using h), field_eq (by decide)]
    simp [loose_ct hx]
theorem step_n (acc : PM) {x : Int} (h0 : acc.n = 0) (hx : Ct x) : (if (x != 0) = true then fieldC acc ([110] ++ [61] ++ Lib.itoa x) else acc) = { acc with n := x } := by
  by_cases h : x = 0
  · subst h
    rw [if_neg (by decide)]
    obtain ⟨aT, kd, nd, ic, ep, ld, ii, ci, ms, ts, se, sq, po, n, bd, cl, cn, rq, op, key, val, old, co, rv, rn, er⟩ := acc
    simp only at h0
    subst h0
    rfl
  · rw [if_pos (by simpa using h), field_eq (by decide)]
    simp [loose_ct hx]
theorem step_er (acc : PM) {x : Int} (h0 : acc.er = 0) (hx : Ct x) : (if (x != 0) = true then fieldC acc ([101, 114, 114] ++ [61] ++ Lib.itoa x) else acc) = { acc with er := x } := by
  by_cases h : x = 0
  · subst h
    rw [if_neg (by decide)]
    obtain ⟨aT, kd, nd, ic, ep, ld, ii, ci, ms, ts, se, sq, po, n, bd, cl, cn, rq, op, key, val, old, co, rv, rn, er⟩ := acc
    simp only at h0
    subst h0
    rfl
  · rw [if_pos (by simpa using h), field_eq (by decide)]
    simp [loose_ct hx]
theorem step_id (acc : PM) (m : Mk) (h0 : acc.ep = 0 ∧ acc.ld = 0 ∧ acc.ii = 0 ∧ acc.ci = 0) (h1 : Ct m.ep) (h2 : Ct m.ld) (h3 : Ct m.ii) (h4 : Ct m.ci) : (if idB m = true then fieldC acc ([105, 100] ++ [61] ++ sl4 m.ep m.ld m.ii m.ci) else acc) = { acc with ep := m.ep, ld := m.ld, ii := m.ii, ci := m.ci } := by
  cases h : idB m with
  | false =>
    rw [if_neg (by decide)]
    unfold idB at h
    simp at h
    obtain ⟨aT, kd, nd, ic, ep, ld, ii, ci, ms, ts, se, sq, po, n, bd, cl, cn, rq, op, key, val, old, co, rv, rn, er⟩ := acc
    simp only at h0
    obtain ⟨e1, e2, e3, e4⟩ := h0
    obtain ⟨f1, f2, f3, f4⟩ := h
    subst e1 e2 e3 e4
    rw [f1, f2, f3, f4]
  | true =>
    rw [if_pos rfl, field_eq (by decide)]
    simp [bigC, cut_sl4, loose_ct h1, loose_ct h2, loose_ct h3, loose_ct h4]
theorem step_mem (acc : PM) (m : Mk) (h0 : acc.ms = []) (hl : m.ms.length = m.nm) (hc : Cnts m) : (if decide (0 < m.nm) = true then fieldC acc ([109, 101, 109, 98, 101, 114, 115] ++ [61] ++ Lib.join (m.ms.map triI) [44]) else acc) = { acc with ms := m.ms } := by
  by_cases h : 0 < m.nm
  · rw [if_pos (decide_eq_true h), field_eq (by decide)]
    have hcut : cutL 44 [] (Lib.join (m.ms.map triI) [44]) = some (m.ms.map triI) := by
      cases hq : m.ms with
      | nil => rw [hq] at hl; simp at hl; omega
      | cons x r =>
        rw [List.map_cons]
        refine cut_join (by decide) _ _ (over_tri (by decide) (by decide) (by decide) _) ?_
        intro q hq
        obtain ⟨y, _, rfl⟩ := List.mem_map.1 hq
        exact over_tri (by decide) (by decide) (by decide) _
    have hf : (m.ms.map triI).filterMap memC = m.ms := by
      rw [List.filterMap_map]
      have : ∀ l : List (Int × Int × Int), (∀ s ∈ l, memC (triI s) = some s) → l.filterMap (memC ∘ triI) = l := by
        intro l
        induction l with
        | nil => intro _; rfl
        | cons x r ih =>
          intro h
          rw [List.filterMap_cons, show (memC ∘ triI) x = some x from h x (by simp)]
          simp only
          rw [ih fun s hs => h s (by simp [hs])]
      refine this m.ms fun s hs => ?_
      obtain ⟨k, hk, rfl⟩ := List.getElem_of_mem hs
      obtain ⟨h1, h2, h3⟩ := tri_ct hc hk
      have e : m.ms.getD k (0, 0, 0) = m.ms[k] := by simp [hk]
      unfold pidA at h1
      unfold incA at h2
      unfold cidA at h3
      rw [e] at h1 h2 h3
      exact mem_tri h1 h2 h3
    simp [bigC, hcut, h0, hf]
  · rw [if_neg (by rw [decide_eq_true_iff]; exact h)]
    have hm : m.ms = [] := List.length_eq_zero_iff.1 (by omega)
    obtain ⟨aT, kd, nd, ic, ep, ld, ii, ci, ms, ts, se, sq, po, n, bd, cl, cn, rq, op, key, val, old, co, rv, rn, er⟩ := acc
    simp only at h0
    subst h0
    rw [hm]
theorem step_tra (acc : PM) (m : Mk) (h0 : acc.ts = []) (hl : m.ts.length = m.nt) (hc : Cnts m) : (if decide (0 < m.nt) = true then fieldC acc ([116, 114, 97, 110, 115] ++ [61] ++ Lib.join (m.ts.map Lib.itoa) [44]) else acc) = { acc with ts := m.ts } := by
  by_cases h : 0 < m.nt
  · rw [if_pos (decide_eq_true h), field_eq (by decide)]
    have hcut : cutL 44 [] (Lib.join (m.ts.map Lib.itoa) [44]) = some (m.ts.map Lib.itoa) := by
      cases hq : m.ts with
      | nil => rw [hq] at hl; simp at hl; omega
      | cons x r =>
        rw [List.map_cons]
        refine cut_join (by decide) _ _ (over_itoa (by decide) (by decide) _) ?_
        intro q hq
        obtain ⟨y, _, rfl⟩ := List.mem_map.1 hq
        exact over_itoa (by decide) (by decide) _
    have hs : sevL 44 (Lib.join (m.ts.map Lib.itoa) [44]) = m.ts := by
      unfold sevL
      rw [hcut]
      simp only
      rw [List.map_map]
      have : ∀ l : List Int, (∀ x ∈ l, looseZ (Lib.itoa x) = x) → l.map (looseZ ∘ Lib.itoa) = l := by
        intro l
        induction l with
        | nil => intro _; rfl
        | cons x r ih =>
          intro h
          rw [List.map_cons, show (looseZ ∘ Lib.itoa) x = x from h x (by simp), ih fun s hs => h s (by simp [hs])]
      refine this m.ts fun x hx => ?_
      obtain ⟨k, hk, rfl⟩ := List.getElem_of_mem hx
      obtain ⟨y, ey, hy⟩ := hc.ts k hk
      refine loose_ct ⟨y, ?_, hy⟩
      rw [← ey]
      simp [nth, hk]
    simp [bigC, hs]
  · rw [if_neg (by rw [decide_eq_true_iff]; exact h)]
    have hm : m.ts = [] := List.length_eq_zero_iff.1 (by omega)
    obtain ⟨aT, kd, nd, ic, ep, ld, ii, ci, ms, ts, se, sq, po, n, bd, cl, cn, rq, op, key, val, old, co, rv, rn, er⟩ := acc
    simp only at h0
    subst h0
    rw [hm]
theorem step_bod (acc : PM) (m : Mk) (h0 : acc.bd = []) : (if bodyB m = true then fieldC acc ([98, 111, 100, 121] ++ [61] ++ quoteL m.bd) else acc) = { acc with bd := m.bd } := by
  unfold bodyB
  by_cases h : m.bd ≠ []
  · rw [if_pos (decide_eq_true h), field_eq (by decide)]
    simp [bigC, text_quote]
  · rw [if_neg (by rw [decide_eq_true_iff]; exact h)]
    have hm : m.bd = [] := Classical.not_not.1 h
    obtain ⟨aT, kd, nd, ic, ep, ld, ii, ci, ms, ts, se, sq, po, n, bd, cl, cn, rq, op, key, val, old, co, rv, rn, er⟩ := acc
    simp only at h0
    subst h0
    rw [hm]
theorem empty_bytes {s : ByteArray} (h : (s == ⟨#[]⟩) = true) : s.data.toList = [] := by
  have h1 := bytes_beq s
  rw [h, beq_iff_eq] at h1
  rw [ByteArray.toList_eq, ByteArray.toList_eq] at h1
  exact h1
theorem step_cmd (acc : PM) (m : Mk) (h0 : acc.cl = 0 ∧ acc.cn = 0 ∧ acc.rq = 0 ∧ acc.op = 0 ∧ acc.key = [] ∧ acc.val = [] ∧ acc.old = []) (h1 : Ct m.cl) (h2 : Ct m.cn) (h3 : Ct m.rq) (h4 : Ct m.op) : (if cmdB m = true then fieldC acc ([99, 109, 100] ++ [61] ++ cmdL m) else acc) = { acc with cl := m.cl, cn := m.cn, rq := m.rq, op := m.op, key := m.key.data.toList, val := m.val.data.toList, old := m.old.data.toList } := by
  cases h : cmdB m with
  | false =>
    rw [if_neg (by decide)]
    unfold cmdB at h
    rw [Bool.not_eq_false'] at h
    simp only [Bool.and_eq_true] at h
    obtain ⟨f1, f2, f3, f4, f5, f6, f7⟩ := h
    rw [beq_iff_eq] at f1 f2 f3 f4
    have g5 := empty_bytes f5
    have g6 := empty_bytes f6
    have g7 := empty_bytes f7
    obtain ⟨aT, kd, nd, ic, ep, ld, ii, ci, ms, ts, se, sq, po, n, bd, cl, cn, rq, op, key, val, old, co, rv, rn, er⟩ := acc
    simp only at h0
    obtain ⟨e1, e2, e3, e4, e5, e6, e7⟩ := h0
    subst e1 e2 e3 e4 e5 e6 e7
    rw [f1, f2, f3, f4, g5, g6, g7]
  | true =>
    rw [if_pos rfl, field_eq (by decide)]
    simp [bigC, cut_cmd, loose_ct h1, loose_ct h2, loose_ct h3, loose_ct h4, text_quote]
theorem step_res (acc : PM) (m : Mk) (h0 : acc.co = 0 ∧ acc.rv = [] ∧ acc.rn = 0) (h1 : Ct m.co) (h2 : -4611686018427387904 ≤ m.rn) (h3 : m.rn ≤ 4611686018427387904) : (if resB m = true then fieldC acc ([114, 101, 115, 117, 108, 116] ++ [61] ++ resL m) else acc) = { acc with co := m.co, rv := m.rv.data.toList, rn := m.rn } := by
  cases h : resB m with
  | false =>
    rw [if_neg (by decide)]
    unfold resB at h
    rw [Bool.not_eq_false'] at h
    simp only [Bool.and_eq_true] at h
    obtain ⟨f1, f2, f3⟩ := h
    rw [beq_iff_eq] at f1 f3
    have g2 := empty_bytes f2
    obtain ⟨aT, kd, nd, ic, ep, ld, ii, ci, ms, ts, se, sq, po, n, bd, cl, cn, rq, op, key, val, old, co, rv, rn, er⟩ := acc
    simp only at h0
    obtain ⟨e1, e2, e3⟩ := h0
    subst e1 e2 e3
    rw [f1, g2, f3]
  | true =>
    rw [if_pos rfl, field_eq (by decide)]
    simp [bigC, cut_res, loose_ct h1, loose_int h2 h3, text_quote]
/-- The parts behind a line's first four. -/
def optL (m : Mk) : List (List UInt8) := addP (m.er != 0) (addP (resB m) (addP (cmdB m) (addP (bodyB m) (addP (m.n != 0) (addP (m.po != 0) (addP (m.sq != 0) (addP (m.se != 0) (addP (decide (0 < m.nt)) (addP (decide (0 < m.nm)) (addP (idB m) []
    [105, 100] (sl4 m.ep m.ld m.ii m.ci)) [109, 101, 109, 98, 101, 114, 115] (Lib.join (m.ms.map triI) [44])) [116, 114, 97, 110, 115] (Lib.join (m.ts.map Lib.itoa) [44])) [115, 101, 110, 100, 101, 114] (Lib.itoa m.se)) [115, 101, 113] (Lib.itoa m.sq)) [112, 111, 115] (Lib.itoa m.po)) [110] (Lib.itoa m.n))
    [98, 111, 100, 121] (quoteL m.bd)) [99, 109, 100] (cmdL m)) [114, 101, 115, 117, 108, 116] (resL m)) [101, 114, 114] (Lib.itoa m.er)
set_option maxHeartbeats 4000000 in
/-- The reference reads from a mark's line what the mark says. -/
theorem mark_line {m : Mk} (hc : Cnts m) (hl1 : m.ms.length = m.nm) (hl2 : m.ts.length = m.nt) : markC (lineL m) = some m.pm := by
  have hk : ∃ k : Nat, m.kd = k ∧ 1 ≤ k ∧ k ≤ 16 := ⟨m.kd.toNat, by have := hc.kd; omega, by have := hc.kd; omega, by have := hc.kd; omega⟩
  obtain ⟨k, hk, hk1, hk2⟩ := hk
  have hko : kindOf m = kindL.getD k [] := by unfold kindOf; rw [hk, Int.toNat_natCast]
  have O : ∀ x : Int, Over 32 (Lib.itoa x) := fun x => over_itoa (by decide) (by decide) x
  have E : ∀ {nm v : List UInt8}, (∀ q ∈ nm, ¬ q.toNat = 34 ∧ ¬ q = 32) → Over 32 v → Over 32 (nm ++ [61] ++ v) := fun h1 h2 => over_sep (by decide) (by decide) (Over.bytes h1) h2
  have hfront : addP (m.er != 0) (addP (resB m) (addP (cmdB m) (addP (bodyB m) (addP (m.n != 0) (addP (m.po != 0) (addP (m.sq != 0) (addP (m.se != 0) (addP (decide (0 < m.nt)) (addP (decide (0 < m.nm)) (addP (idB m) ([Lib.itoa m.aT, kindOf m, Lib.itoa m.nd, Lib.itoa m.ic] ++ [])
    [105, 100] (sl4 m.ep m.ld m.ii m.ci)) [109, 101, 109, 98, 101, 114, 115] (Lib.join (m.ms.map triI) [44])) [116, 114, 97, 110, 115] (Lib.join (m.ts.map Lib.itoa) [44])) [115, 101, 110, 100, 101, 114] (Lib.itoa m.se)) [115, 101, 113] (Lib.itoa m.sq)) [112, 111, 115] (Lib.itoa m.po)) [110] (Lib.itoa m.n))
    [98, 111, 100, 121] (quoteL m.bd)) [99, 109, 100] (cmdL m)) [114, 101, 115, 117, 108, 116] (resL m)) [101, 114, 114] (Lib.itoa m.er) = [Lib.itoa m.aT, kindOf m, Lib.itoa m.nd, Lib.itoa m.ic] ++ optL m := by
    unfold optL
    rw [addP_front, addP_front, addP_front, addP_front, addP_front, addP_front, addP_front, addP_front, addP_front, addP_front, addP_front]
  rw [List.append_nil] at hfront
  have hcut : cutL 32 [] (lineL m) = some ([Lib.itoa m.aT, kindOf m, Lib.itoa m.nd, Lib.itoa m.ic] ++ optL m) := by
    rw [← parts_line, hfront]
    refine cut_join (by decide) _ _ (O _) ?_
    intro q hq
    have hcmd : Over 32 (cmdL m) := by
      unfold cmdL
      exact over_sep (by decide) (by decide) (over_sep (by decide) (by decide) (over_sep (by decide) (by decide) (over_sl4 (by decide) (by decide) (by decide) _ _ _ _) (Over.quote _ _)) (Over.quote _ _)) (Over.quote _ _)
    have hres : Over 32 (resL m) := by
      unfold resL
      exact over_sep (by decide) (by decide) (over_sep (by decide) (by decide) (O _) (Over.quote _ _)) (O _)
    have hmem : Over 32 (Lib.join (m.ms.map triI) [44]) := over_join (by decide) (by decide) _ fun l hl => by
      obtain ⟨y, _, rfl⟩ := List.mem_map.1 hl
      exact over_tri (by decide) (by decide) (by decide) _
    have htra : Over 32 (Lib.join (m.ts.map Lib.itoa) [44]) := over_join (by decide) (by decide) _ fun l hl => by
      obtain ⟨y, _, rfl⟩ := List.mem_map.1 hl
      exact O _
    rcases List.mem_append.1 (show q ∈ [kindOf m, Lib.itoa m.nd, Lib.itoa m.ic] ++ optL m from hq) with hq | hq
    · simp at hq
      rcases hq with rfl | rfl | rfl
      · rw [hko]
        exact kind_over k (by decide)
      · exact O _
      · exact O _
    · unfold optL at hq
      exact addP_all (P := Over 32) _ (addP_all _ (addP_all _ (addP_all _ (addP_all _ (addP_all _ (addP_all _ (addP_all _ (addP_all _ (addP_all _ (addP_all _ (fun l hl => by cases hl) (E (by decide) (over_sl4 (by decide) (by decide) (by decide) _ _ _ _))) (E (by decide) hmem)) (E (by decide) htra)) (E (by decide) (O _))) (E (by decide) (O _))) (E (by decide) (O _))) (E (by decide) (O _))) (E (by decide) (Over.quote _ _))) (E (by decide) hcmd)) (E (by decide) hres)) (E (by decide) (O _)) q hq
  have N : ∀ {x : Int}, x ∈ m.ns → Ct x := fun h => hc.ct h
  have her : Ct m.er := by
    obtain ⟨n, hn, hle⟩ := hc.er
    exact ⟨n, hn, by omega⟩
  unfold markC
  rw [hcut]
  simp only [List.cons_append, List.nil_append]
  have h0 : ({ PM.zero with aT := looseZ (Lib.itoa m.aT), kd := kindC (kindOf m), nd := looseZ (Lib.itoa m.nd), ic := looseZ (Lib.itoa m.ic) } : PM) = (⟨m.aT, kindC (kindOf m), m.nd, m.ic, 0, 0, 0, 0, [], [], 0, 0, 0, 0, [], 0, 0, 0, 0, [], [], [], 0, [], 0, 0⟩ : PM) := by
    rw [loose_ct (N (by simp [Mk.ns])), loose_ct (N (by simp [Mk.ns])), loose_ct (N (by simp [Mk.ns]))]
    rfl
  have h1 : (if (idB m) = true then fieldC (⟨m.aT, kindC (kindOf m), m.nd, m.ic, 0, 0, 0, 0, [], [], 0, 0, 0, 0, [], 0, 0, 0, 0, [], [], [], 0, [], 0, 0⟩ : PM) ([105, 100] ++ [61] ++ sl4 m.ep m.ld m.ii m.ci) else (⟨m.aT, kindC (kindOf m), m.nd, m.ic, 0, 0, 0, 0, [], [], 0, 0, 0, 0, [], 0, 0, 0, 0, [], [], [], 0, [], 0, 0⟩ : PM)) = (⟨m.aT, kindC (kindOf m), m.nd, m.ic, m.ep, m.ld, m.ii, m.ci, [], [], 0, 0, 0, 0, [], 0, 0, 0, 0, [], [], [], 0, [], 0, 0⟩ : PM) := step_id (⟨m.aT, kindC (kindOf m), m.nd, m.ic, 0, 0, 0, 0, [], [], 0, 0, 0, 0, [], 0, 0, 0, 0, [], [], [], 0, [], 0, 0⟩ : PM) m ⟨rfl, rfl, rfl, rfl⟩ (N (by simp [Mk.ns])) (N (by simp [Mk.ns])) (N (by simp [Mk.ns])) (N (by simp [Mk.ns]))
  have h2 : (if (decide (0 < m.nm)) = true then fieldC (⟨m.aT, kindC (kindOf m), m.nd, m.ic, m.ep, m.ld, m.ii, m.ci, [], [], 0, 0, 0, 0, [], 0, 0, 0, 0, [], [], [], 0, [], 0, 0⟩ : PM) ([109, 101, 109, 98, 101, 114, 115] ++ [61] ++ Lib.join (m.ms.map triI) [44]) else (⟨m.aT, kindC (kindOf m), m.nd, m.ic, m.ep, m.ld, m.ii, m.ci, [], [], 0, 0, 0, 0, [], 0, 0, 0, 0, [], [], [], 0, [], 0, 0⟩ : PM)) = (⟨m.aT, kindC (kindOf m), m.nd, m.ic, m.ep, m.ld, m.ii, m.ci, m.ms, [], 0, 0, 0, 0, [], 0, 0, 0, 0, [], [], [], 0, [], 0, 0⟩ : PM) := step_mem (⟨m.aT, kindC (kindOf m), m.nd, m.ic, m.ep, m.ld, m.ii, m.ci, [], [], 0, 0, 0, 0, [], 0, 0, 0, 0, [], [], [], 0, [], 0, 0⟩ : PM) m rfl hl1 hc
  have h3 : (if (decide (0 < m.nt)) = true then fieldC (⟨m.aT, kindC (kindOf m), m.nd, m.ic, m.ep, m.ld, m.ii, m.ci, m.ms, [], 0, 0, 0, 0, [], 0, 0, 0, 0, [], [], [], 0, [], 0, 0⟩ : PM) ([116, 114, 97, 110, 115] ++ [61] ++ Lib.join (m.ts.map Lib.itoa) [44]) else (⟨m.aT, kindC (kindOf m), m.nd, m.ic, m.ep, m.ld, m.ii, m.ci, m.ms, [], 0, 0, 0, 0, [], 0, 0, 0, 0, [], [], [], 0, [], 0, 0⟩ : PM)) = (⟨m.aT, kindC (kindOf m), m.nd, m.ic, m.ep, m.ld, m.ii, m.ci, m.ms, m.ts, 0, 0, 0, 0, [], 0, 0, 0, 0, [], [], [], 0, [], 0, 0⟩ : PM) := step_tra (⟨m.aT, kindC (kindOf m), m.nd, m.ic, m.ep, m.ld, m.ii, m.ci, m.ms, [], 0, 0, 0, 0, [], 0, 0, 0, 0, [], [], [], 0, [], 0, 0⟩ : PM) m rfl hl2 hc
  have h4 : (if (m.se != 0) = true then fieldC (⟨m.aT, kindC (kindOf m), m.nd, m.ic, m.ep, m.ld, m.ii, m.ci, m.ms, m.ts, 0, 0, 0, 0, [], 0, 0, 0, 0, [], [], [], 0, [], 0, 0⟩ : PM) ([115, 101, 110, 100, 101, 114] ++ [61] ++ Lib.itoa m.se) else (⟨m.aT, kindC (kindOf m), m.nd, m.ic, m.ep, m.ld, m.ii, m.ci, m.ms, m.ts, 0, 0, 0, 0, [], 0, 0, 0, 0, [], [], [], 0, [], 0, 0⟩ : PM)) = (⟨m.aT, kindC (kindOf m), m.nd, m.ic, m.ep, m.ld, m.ii, m.ci, m.ms, m.ts, m.se, 0, 0, 0, [], 0, 0, 0, 0, [], [], [], 0, [], 0, 0⟩ : PM) := step_se (⟨m.aT, kindC (kindOf m), m.nd, m.ic, m.ep, m.ld, m.ii, m.ci, m.ms, m.ts, 0, 0, 0, 0, [], 0, 0, 0, 0, [], [], [], 0, [], 0, 0⟩ : PM) rfl (N (by simp [Mk.ns]))
  have h5 : (if (m.sq != 0) = true then fieldC (⟨m.aT, kindC (kindOf m), m.nd, m.ic, m.ep, m.ld, m.ii, m.ci, m.ms, m.ts, m.se, 0, 0, 0, [], 0, 0, 0, 0, [], [], [], 0, [], 0, 0⟩ : PM) ([115, 101, 113] ++ [61] ++ Lib.itoa m.sq) else (⟨m.aT, kindC (kindOf m), m.nd, m.ic, m.ep, m.ld, m.ii, m.ci, m.ms, m.ts, m.se, 0, 0, 0, [], 0, 0, 0, 0, [], [], [], 0, [], 0, 0⟩ : PM)) = (⟨m.aT, kindC (kindOf m), m.nd, m.ic, m.ep, m.ld, m.ii, m.ci, m.ms, m.ts, m.se, m.sq, 0, 0, [], 0, 0, 0, 0, [], [], [], 0, [], 0, 0⟩ : PM) := step_sq (⟨m.aT, kindC (kindOf m), m.nd, m.ic, m.ep, m.ld, m.ii, m.ci, m.ms, m.ts, m.se, 0, 0, 0, [], 0, 0, 0, 0, [], [], [], 0, [], 0, 0⟩ : PM) rfl (N (by simp [Mk.ns]))
  have h6 : (if (m.po != 0) = true then fieldC (⟨m.aT, kindC (kindOf m), m.nd, m.ic, m.ep, m.ld, m.ii, m.ci, m.ms, m.ts, m.se, m.sq, 0, 0, [], 0, 0, 0, 0, [], [], [], 0, [], 0, 0⟩ : PM) ([112, 111, 115] ++ [61] ++ Lib.itoa m.po) else (⟨m.aT, kindC (kindOf m), m.nd, m.ic, m.ep, m.ld, m.ii, m.ci, m.ms, m.ts, m.se, m.sq, 0, 0, [], 0, 0, 0, 0, [], [], [], 0, [], 0, 0⟩ : PM)) = (⟨m.aT, kindC (kindOf m), m.nd, m.ic, m.ep, m.ld, m.ii, m.ci, m.ms, m.ts, m.se, m.sq, m.po, 0, [], 0, 0, 0, 0, [], [], [], 0, [], 0, 0⟩ : PM) := step_po (⟨m.aT, kindC (kindOf m), m.nd, m.ic, m.ep, m.ld, m.ii, m.ci, m.ms, m.ts, m.se, m.sq, 0, 0, [], 0, 0, 0, 0, [], [], [], 0, [], 0, 0⟩ : PM) rfl (N (by simp [Mk.ns]))
  have h7 : (if (m.n != 0) = true then fieldC (⟨m.aT, kindC (kindOf m), m.nd, m.ic, m.ep, m.ld, m.ii, m.ci, m.ms, m.ts, m.se, m.sq, m.po, 0, [], 0, 0, 0, 0, [], [], [], 0, [], 0, 0⟩ : PM) ([110] ++ [61] ++ Lib.itoa m.n) else (⟨m.aT, kindC (kindOf m), m.nd, m.ic, m.ep, m.ld, m.ii, m.ci, m.ms, m.ts, m.se, m.sq, m.po, 0, [], 0, 0, 0, 0, [], [], [], 0, [], 0, 0⟩ : PM)) = (⟨m.aT, kindC (kindOf m), m.nd, m.ic, m.ep, m.ld, m.ii, m.ci, m.ms, m.ts, m.se, m.sq, m.po, m.n, [], 0, 0, 0, 0, [], [], [], 0, [], 0, 0⟩ : PM) := step_n (⟨m.aT, kindC (kindOf m), m.nd, m.ic, m.ep, m.ld, m.ii, m.ci, m.ms, m.ts, m.se, m.sq, m.po, 0, [], 0, 0, 0, 0, [], [], [], 0, [], 0, 0⟩ : PM) rfl (N (by simp [Mk.ns]))
  have h8 : (if (bodyB m) = true then fieldC (⟨m.aT, kindC (kindOf m), m.nd, m.ic, m.ep, m.ld, m.ii, m.ci, m.ms, m.ts, m.se, m.sq, m.po, m.n, [], 0, 0, 0, 0, [], [], [], 0, [], 0, 0⟩ : PM) ([98, 111, 100, 121] ++ [61] ++ quoteL m.bd) else (⟨m.aT, kindC (kindOf m), m.nd, m.ic, m.ep, m.ld, m.ii, m.ci, m.ms, m.ts, m.se, m.sq, m.po, m.n, [], 0, 0, 0, 0, [], [], [], 0, [], 0, 0⟩ : PM)) = (⟨m.aT, kindC (kindOf m), m.nd, m.ic, m.ep, m.ld, m.ii, m.ci, m.ms, m.ts, m.se, m.sq, m.po, m.n, m.bd, 0, 0, 0, 0, [], [], [], 0, [], 0, 0⟩ : PM) := step_bod (⟨m.aT, kindC (kindOf m), m.nd, m.ic, m.ep, m.ld, m.ii, m.ci, m.ms, m.ts, m.se, m.sq, m.po, m.n, [], 0, 0, 0, 0, [], [], [], 0, [], 0, 0⟩ : PM) m rfl
  have h9 : (if (cmdB m) = true then fieldC (⟨m.aT, kindC (kindOf m), m.nd, m.ic, m.ep, m.ld, m.ii, m.ci, m.ms, m.ts, m.se, m.sq, m.po, m.n, m.bd, 0, 0, 0, 0, [], [], [], 0, [], 0, 0⟩ : PM) ([99, 109, 100] ++ [61] ++ cmdL m) else (⟨m.aT, kindC (kindOf m), m.nd, m.ic, m.ep, m.ld, m.ii, m.ci, m.ms, m.ts, m.se, m.sq, m.po, m.n, m.bd, 0, 0, 0, 0, [], [], [], 0, [], 0, 0⟩ : PM)) = (⟨m.aT, kindC (kindOf m), m.nd, m.ic, m.ep, m.ld, m.ii, m.ci, m.ms, m.ts, m.se, m.sq, m.po, m.n, m.bd, m.cl, m.cn, m.rq, m.op, m.key.data.toList, m.val.data.toList, m.old.data.toList, 0, [], 0, 0⟩ : PM) := step_cmd (⟨m.aT, kindC (kindOf m), m.nd, m.ic, m.ep, m.ld, m.ii, m.ci, m.ms, m.ts, m.se, m.sq, m.po, m.n, m.bd, 0, 0, 0, 0, [], [], [], 0, [], 0, 0⟩ : PM) m ⟨rfl, rfl, rfl, rfl, rfl, rfl, rfl⟩ (N (by simp [Mk.ns])) (N (by simp [Mk.ns])) (N (by simp [Mk.ns])) (N (by simp [Mk.ns]))
  have h10 : (if (resB m) = true then fieldC (⟨m.aT, kindC (kindOf m), m.nd, m.ic, m.ep, m.ld, m.ii, m.ci, m.ms, m.ts, m.se, m.sq, m.po, m.n, m.bd, m.cl, m.cn, m.rq, m.op, m.key.data.toList, m.val.data.toList, m.old.data.toList, 0, [], 0, 0⟩ : PM) ([114, 101, 115, 117, 108, 116] ++ [61] ++ resL m) else (⟨m.aT, kindC (kindOf m), m.nd, m.ic, m.ep, m.ld, m.ii, m.ci, m.ms, m.ts, m.se, m.sq, m.po, m.n, m.bd, m.cl, m.cn, m.rq, m.op, m.key.data.toList, m.val.data.toList, m.old.data.toList, 0, [], 0, 0⟩ : PM)) = (⟨m.aT, kindC (kindOf m), m.nd, m.ic, m.ep, m.ld, m.ii, m.ci, m.ms, m.ts, m.se, m.sq, m.po, m.n, m.bd, m.cl, m.cn, m.rq, m.op, m.key.data.toList, m.val.data.toList, m.old.data.toList, m.co, m.rv.data.toList, m.rn, 0⟩ : PM) := step_res (⟨m.aT, kindC (kindOf m), m.nd, m.ic, m.ep, m.ld, m.ii, m.ci, m.ms, m.ts, m.se, m.sq, m.po, m.n, m.bd, m.cl, m.cn, m.rq, m.op, m.key.data.toList, m.val.data.toList, m.old.data.toList, 0, [], 0, 0⟩ : PM) m ⟨rfl, rfl, rfl⟩ (N (by simp [Mk.ns])) hc.rn.1 hc.rn.2
  have h11 : (if (m.er != 0) = true then fieldC (⟨m.aT, kindC (kindOf m), m.nd, m.ic, m.ep, m.ld, m.ii, m.ci, m.ms, m.ts, m.se, m.sq, m.po, m.n, m.bd, m.cl, m.cn, m.rq, m.op, m.key.data.toList, m.val.data.toList, m.old.data.toList, m.co, m.rv.data.toList, m.rn, 0⟩ : PM) ([101, 114, 114] ++ [61] ++ Lib.itoa m.er) else (⟨m.aT, kindC (kindOf m), m.nd, m.ic, m.ep, m.ld, m.ii, m.ci, m.ms, m.ts, m.se, m.sq, m.po, m.n, m.bd, m.cl, m.cn, m.rq, m.op, m.key.data.toList, m.val.data.toList, m.old.data.toList, m.co, m.rv.data.toList, m.rn, 0⟩ : PM)) = (⟨m.aT, kindC (kindOf m), m.nd, m.ic, m.ep, m.ld, m.ii, m.ci, m.ms, m.ts, m.se, m.sq, m.po, m.n, m.bd, m.cl, m.cn, m.rq, m.op, m.key.data.toList, m.val.data.toList, m.old.data.toList, m.co, m.rv.data.toList, m.rn, m.er⟩ : PM) := step_er (⟨m.aT, kindC (kindOf m), m.nd, m.ic, m.ep, m.ld, m.ii, m.ci, m.ms, m.ts, m.se, m.sq, m.po, m.n, m.bd, m.cl, m.cn, m.rq, m.op, m.key.data.toList, m.val.data.toList, m.old.data.toList, m.co, m.rv.data.toList, m.rn, 0⟩ : PM) rfl her
  rw [h0]
  unfold optL
  rw [fold_addP, fold_addP, fold_addP, fold_addP, fold_addP, fold_addP, fold_addP, fold_addP, fold_addP, fold_addP, fold_addP, List.foldl_nil]
  rw [h1, h2, h3, h4, h5, h6, h7, h8, h9, h10, h11]
  rw [hko, kind_word hk1 hk2, ← hk]
  rfl
end Go.Proofs.YtenebkkfjalcaaaDoor
set_option linter.unusedVariables false
set_option linter.unusedSimpArgs false
namespace Go.Proofs.YtenebkkfjalcaaaDoor
open Go.RowKit Go.WideShapes Go.ChangeShapes Q

/-- No byte of it stops the cursor. -/
def Free (stops l : List UInt8) : Prop := ∀ q ∈ l, Lib.indexByte stops q < 0
theorem unt_all {stops a : List UInt8} (ha : Free stops a) : untL stops a = a := by
  unfold untL
  induction a with
  | nil => rfl
  | cons x r ih =>
    rw [List.takeWhile_cons, decide_eq_true (ha x (by simp))]
    simp only [if_true]
    rw [ih fun q hq => ha q (by simp [hq])]
theorem unt_stop {stops a r : List UInt8} {c : UInt8} (ha : Free stops a) (hc : ¬ Lib.indexByte stops c < 0) : untL stops (a ++ c :: r) = a := by
  unfold untL
  rw [List.takeWhile_append_of_pos (fun q hq => decide_eq_true (ha q hq)), List.takeWhile_cons, decide_eq_false hc]
  simp
theorem free_app {stops a b : List UInt8} (h1 : Free stops a) (h2 : Free stops b) : Free stops (a ++ b) := fun q hq => by
  rcases List.mem_append.1 hq with h | h
  · exact h1 q h
  · exact h2 q h
theorem free_dec (n : Nat) : Free stp (Lib.decDigits n) := fun q hq => by
  have h := (dec_facts n).2.1
  rw [List.all_eq_true] at h
  have h1 := of_decide_eq_true (h q hq)
  have h2 : ∀ d : Fin 10, Lib.indexByte stp (UInt8.ofNat (48 + d.val)) < 0 := by decide +kernel
  have h3 := h2 ⟨q.toNat - 48, by omega⟩
  have e : UInt8.ofNat (48 + (q.toNat - 48)) = q := by
    apply UInt8.toNat_inj.1
    rw [show 48 + (q.toNat - 48) = q.toNat by omega]
    simp
  simp only [e] at h3
  exact h3
theorem pre_app (t r : List UInt8) : preB t (t ++ r) = true := by
  unfold preB Lib.hasPrefix
  rw [List.isPrefixOf_iff_prefix]
  exact ⟨r, rfl⟩
/-- A count that was written, and what stands behind it stops the cursor. -/
theorem num_read {n : Nat} (h : n ≤ 4611686018427387904) {c : UInt8} {r : List UInt8} (hc : ¬ Lib.indexByte stp c < 0) :
    untL stp (Lib.decDigits n ++ c :: r) = Lib.decDigits n ∧ numV stp (Lib.decDigits n ++ c :: r) = n ∧ numOk stp (Lib.decDigits n ++ c :: r) = true := by
  have e := unt_stop (r := r) (free_dec n) hc
  unfold numV numOk
  rw [e, cnt_dec h]
  exact ⟨rfl, rfl, rfl⟩
theorem num_last {n : Nat} (h : n ≤ 4611686018427387904) : untL stp (Lib.decDigits n) = Lib.decDigits n ∧ numV stp (Lib.decDigits n) = n ∧ numOk stp (Lib.decDigits n) = true := by
  have e := unt_all (free_dec n)
  unfold numV numOk
  rw [e, cnt_dec h]
  exact ⟨rfl, rfl, rfl⟩
/-- A string that was written, behind whatever stands ahead of it. -/
theorem str_read (a x r : List UInt8) : strT (a ++ (quoteL x ++ r)) a.length = x ∧ strK (a ++ (quoteL x ++ r)) a.length = a.length + (quoteL x).length ∧ strOk (a ++ (quoteL x ++ r)) a.length = true := by
  have e : quoteL x ++ r = 34 :: (x.flatMap qb ++ [34] ++ r) := by simp [quoteL]
  have h34 : (a ++ (quoteL x ++ r))[a.length]? = some 34 := by
    rw [List.getElem?_append_right (Nat.le_refl _), Nat.sub_self, e]
    rfl
  have hd : (a ++ (quoteL x ++ r)).drop (a.length + 1) = x.flatMap qb ++ [34] ++ r := by
    rw [e, List.drop_append]
    simp
  have hu : unqA (a ++ (quoteL x ++ r)) a.length = some (x, a.length + (quoteL x).length) := by
    unfold unqA
    rw [if_pos h34, hd, unq_quote]
    simp only [Option.map_some, List.length_append]
    congr 2
    omega
  unfold strT strK strOk
  rw [hu]
  exact ⟨rfl, rfl, rfl⟩
end Go.Proofs.YtenebkkfjalcaaaDoor
