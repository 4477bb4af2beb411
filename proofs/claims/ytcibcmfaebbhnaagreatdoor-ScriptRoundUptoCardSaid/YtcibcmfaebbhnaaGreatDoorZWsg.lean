/-
  Plain: how an event is written, by the program and by the document. The reference's Signed at every int; its part: one thing of an event written. (Printed by wip/tools/mkwsg.py.)
-/
import Derived.Test.YtcibcmfaebbhnaaGreatDoorZBas
import Derived.Test.YtcibcmfaebbhnaaGreatDoorZQuo
import Derived.Test.YtcibcmfaebbhnaaGreatDoorZNib
import Derived.Test.YtcibcmfaebbhnaaGreatDoorZWev
set_option linter.unusedVariables false
set_option linter.unusedSimpArgs false
namespace Go.Proofs.YtcibcmfaebbhnaaGreatDoor
open Go
/-- One thing of an event, as it is written. -/
def ltT (e : Ev) : Lt → List UInt8
  | .P => Lib.itoa e.a
  | .K => Lib.itoa e.a
  | .Q => Lib.itoa e.b
  | .N => Lib.itoa e.n
  | .D => Lib.itoa e.n
  | .T => quoteL e.bd
  | .X => quoteL e.bd
/-- A command's words. -/
def askW (e : Ev) : List (List UInt8) := opL.getD (e.op.toNat - 1) [] :: quoteL e.key :: ((if e.val ≠ [] ∨ e.old ≠ [] then [quoteL e.val] else []) ++ (if e.old ≠ [] then [quoteL e.old] else []))
/-- The words of an event's line: as the program writes them. -/
def lineW (e : Ev) : List (List UInt8) :=
  if e.kd = 4 then [100, 111] :: Lib.itoa e.a :: (if 1 ≤ e.op ∧ e.op ≤ 9 then askW e else [])
  else if e.kd = 11 then [115, 112, 108, 105, 116] :: e.sd.map Lib.itoa
  else match formL.find? (fun f => f.2.1 == e.kd) with
    | some f => f.1 :: f.2.2.map (ltT e)
    | none => []
def lineT (e : Ev) : List UInt8 := Lib.join (lineW e) [32]
/-- As the document writes them: no command, no line. -/
def writT (e : Ev) : List UInt8 := if e.kd = 4 ∧ ¬ (1 ≤ e.op ∧ e.op ≤ 9) then [] else lineT e
noncomputable instance : DecidableEq Ev := fun _ _ => Classical.propDecidable _
/-- What is written, where reading it gives the event back. -/
noncomputable def printE (nodes : Int) (e : Ev) : List UInt8 × Int :=
  if 1 ≤ nodes ∧ nodes ≤ 16 then (if writT e ≠ [] ∧ lineE nodes (writT e) = e then (writT e, 0) else ([], 24)) else ([], 1)
theorem itoa_plain (nl : Bool) (x : Int) : Lib.itoa x ≠ [] ∧ ∀ q ∈ Lib.itoa x, plnB nl q = true := by
  have hd : ∀ n, Lib.decDigits n ≠ [] ∧ ∀ q ∈ Lib.decDigits n, plnB nl q = true := fun n => by
    have h := dec_facts n
    refine ⟨h.1, fun q hq => ?_⟩
    have h1 := h.2.1
    rw [List.all_eq_true] at h1
    have h2 := of_decide_eq_true (h1 q hq)
    have e1 : (q.toNat == 32) = false := by rw [beq_eq_false_iff_ne]; omega
    have e2 : (q.toNat == 9) = false := by rw [beq_eq_false_iff_ne]; omega
    have e3 : (q.toNat == 34) = false := by rw [beq_eq_false_iff_ne]; omega
    have e4 : (q.toNat == 10) = false := by rw [beq_eq_false_iff_ne]; omega
    unfold plnB blk
    rw [e1, e2, e3, e4]
    cases nl <;> rfl
  unfold Lib.itoa
  split
  · refine ⟨by simp, fun q hq => ?_⟩
    rcases List.mem_cons.1 hq with rfl | hq
    · cases nl <;> decide
    · exact (hd _).2 q hq
  · exact hd _
/-- A command without its word is read as no event. -/
theorem do_bad (nodes : Int) (x : Int) : lineE nodes ([100, 111] ++ 32 :: Lib.itoa x) = Ev.zero := by
  have h := itoa_plain true x
  have hw : wordsG true ([100, 111] ++ 32 :: Lib.itoa x) = some [([100, 111], false), (Lib.itoa x, false)] := by
    rw [wds_sep (by simp) (by intro q hq; simp only [List.mem_cons, List.mem_nil_iff, or_false] at hq; rcases hq with rfl | rfl <;> decide) (by decide), wds_last h.1 h.2]
    rfl
  unfold lineE
  rw [hw]
  split
  · show (eventE nodes.toNat [([100, 111], false), (Lib.itoa x, false)]).getD Ev.zero = Ev.zero
    have : eventE nodes.toNat [([100, 111], false), (Lib.itoa x, false)] = none := by
      rfl
    rw [this]
    rfl
  · rfl
/-- The program's line and the document's are held against the event with one result. -/
theorem print_prog (nodes : Int) (e : Ev) : printE nodes e = if 1 ≤ nodes ∧ nodes ≤ 16 then (if lineT e ≠ [] ∧ lineE nodes (lineT e) = e then (lineT e, 0) else ([], 24)) else ([], 1) := by
  unfold printE
  by_cases h : e.kd = 4 ∧ ¬ (1 ≤ e.op ∧ e.op ≤ 9)
  · have h1 : writT e = [] := by unfold writT; rw [if_pos h]
    have h2 : lineT e = [100, 111] ++ 32 :: Lib.itoa e.a := by
      unfold lineT lineW
      rw [if_pos h.1, if_neg h.2, Lib.join_cons]
      simp [Lib.joinTail]
    have h3 : ¬ (lineT e ≠ [] ∧ lineE nodes (lineT e) = e) := by
      rintro ⟨_, h4⟩
      rw [h2, do_bad] at h4
      have := congrArg Ev.kd h4
      rw [h.1] at this
      cases this
    rw [h1]
    rw [if_neg (show ¬ (([] : List UInt8) ≠ [] ∧ lineE nodes [] = e) from fun h => h.1 rfl), if_neg h3]
  · have h1 : writT e = lineT e := by unfold writT; rw [if_neg h]
    rw [h1]
end Go.Proofs.YtcibcmfaebbhnaaGreatDoor
set_option linter.unusedVariables false
set_option linter.unusedSimpArgs false
namespace Go.Proofs.YtcibcmfaebbhnaaGreatDoor
open Go.RowKit Go.WideShapes Go.ChangeShapes Q
theorem itoa_min : Lib.itoa (-9223372036854775808) = [45, 57, 50, 50, 51, 51, 55, 50, 48, 51, 54, 56, 53, 52, 55, 55, 53, 56, 48, 56] := by decide +kernel
set_option maxRecDepth 100000 in
theorem signed_all (x : Int) (w : World) (h0 : -9223372036854775808 ≤ x) (h1 : x ≤ 9223372036854775807) :
    Calls Tryz.prog 71 #[.int .i64 x] w fun e w' => e = .returned (.string (S (Lib.itoa x))) ∧ Below w.heap.size w w' := by
  by_cases hm : x = -9223372036854775808
  · subst hm
    rw [itoa_min]
    go_enter Tryz.func71, Tryz.ntmps71
    go_wp2_with fail
    go_ret
    exact ⟨rfl, Below.refl _ _⟩
  · exact signed_any x w h0 h1 hm
/-- A number of 64 bits. -/
def I64 (x : Int) : Prop := -9223372036854775808 ≤ x ∧ x ≤ 9223372036854775807
/-- An event whose numbers are numbers of 64 bits, its texts and lists not too long. -/
structure EvOk (m : Em) : Prop where
  a : I64 m.a
  b : I64 m.b
  n : I64 m.n
  sd : ∀ x ∈ m.sd, I64 x
  op : I64 m.op
  bulk : m.ns ≤ 1048576 ∧ m.nb ≤ 1048576 ∧ m.key.size ≤ 1048576 ∧ m.val.size ≤ 1048576 ∧ m.old.size ≤ 1048576
theorem itoa_sz {x : Int} (h : I64 x) : (Lib.itoa x).length ≤ 21 := by
  obtain ⟨h0, h1⟩ := h
  unfold Lib.itoa
  split
  · rw [List.length_cons]
    have : (Lib.decDigits x.natAbs).length ≤ 20 := dec_len 19 _ (Nat.lt_of_le_of_lt (show x.natAbs ≤ 9223372036854775808 by omega) (by decide))
    omega
  · have := dec_len 19 x.toNat (Nat.lt_of_le_of_lt (show x.toNat ≤ 9223372036854775808 by omega) (by decide))
    omega
theorem quote_sz (l : List UInt8) : (quoteL l).length ≤ 4 * l.length + 2 := by
  unfold quoteL
  have := qbs_len l
  simp only [List.length_append, List.length_cons, List.length_nil]
  omega
theorem EmIn.nb_len {w : World} {B : Nat} {m : Em} (h : EmIn w B m) : m.bd.length = m.nb := by
  have := Reads.len_ h.body
  simpa [Lib.byteCells] using this
theorem reads_up {w : World} {B B' s n : Nat} {A : Option Addr} {xs : List Value} (h : Reads w B s A n xs) (hB : B ≤ B') : Reads w B' s A n xs := ⟨h.1, fun hn => by
  obtain ⟨ad, e, hb, hc⟩ := h.2 hn
  exact ⟨ad, e, by omega, hc⟩⟩
theorem EmIn.up {w : World} {B B' : Nat} {m : Em} (h : EmIn w B m) (hB : B ≤ B') : EmIn w B' m := ⟨reads_up h.sid hB, reads_up h.body hB, h.hs, h.hb⟩
theorem lt_sz {m : Em} (h : EvOk m) (hb : m.bd.length = m.nb) : ∀ c, (ltT m.ev c).length ≤ 4194400
  | .P => by have := itoa_sz h.a; show (Lib.itoa m.a).length ≤ _; omega
  | .K => by have := itoa_sz h.a; show (Lib.itoa m.a).length ≤ _; omega
  | .Q => by have := itoa_sz h.b; show (Lib.itoa m.b).length ≤ _; omega
  | .N => by have := itoa_sz h.n; show (Lib.itoa m.n).length ≤ _; omega
  | .D => by have := itoa_sz h.n; show (Lib.itoa m.n).length ≤ _; omega
  | .T => by have := quote_sz m.bd; have := h.bulk; show (quoteL m.bd).length ≤ _; omega
  | .X => by have := quote_sz m.bd; have := h.bulk; show (quoteL m.bd).length ≤ _; omega
set_option maxRecDepth 100000 in
set_option maxHeartbeats 2000000 in
theorem part_P (m : Em) (w : World) (h : EmIn w w.heap.size m) (ho : EvOk m) : Calls Tryz.prog 74 #[.agg m.cs, .int .u8 112] w fun e w' => e = .returned (.string (S (Lib.itoa m.a))) ∧ Below w.heap.size w w' := by
  have HS : Hid (∀ W, Calls Tryz.prog 71 #[.int .i64 m.a] W fun e w' => e = .returned (.string (S (Lib.itoa m.a))) ∧ Below W.heap.size W w') := fun W => signed_all m.a W ho.a.1 ho.a.2
  clear h ho
  go_enter Tryz.func74, Tryz.ntmps74
  go_upto_region 1 with fail
  generalize hW1 : World.alloc w _ = W1
  have HB1 : Hid (Below w.heap.size w W1) := by
    show Below _ _ _
    rw [← hW1]
    exact (Below.refl _ _).alloc (Nat.le_refl _) _
  have HX1 : Hid (Blk W1 w.heap.size 33 m.cs) := by
    show Blk _ _ _ _
    rw [← hW1]
    exact Blk.new _ _ _
  clear hW1
  have k1 := eb1 HX1.out
  go_wp2_with (go_at_call 71; refine (HS.out _).mono ?_; rintro e w2 ⟨rfl, hb⟩; have HB2 := hide (HB1.out.trans (hb.mono HB1.out.size)); clear hb)
  go_ret
  exact ⟨rfl, HB2.out⟩
set_option maxRecDepth 100000 in
set_option maxHeartbeats 2000000 in
theorem part_K (m : Em) (w : World) (h : EmIn w w.heap.size m) (ho : EvOk m) : Calls Tryz.prog 74 #[.agg m.cs, .int .u8 107] w fun e w' => e = .returned (.string (S (Lib.itoa m.a))) ∧ Below w.heap.size w w' := by
  have HS : Hid (∀ W, Calls Tryz.prog 71 #[.int .i64 m.a] W fun e w' => e = .returned (.string (S (Lib.itoa m.a))) ∧ Below W.heap.size W w') := fun W => signed_all m.a W ho.a.1 ho.a.2
  clear h ho
  go_enter Tryz.func74, Tryz.ntmps74
  go_upto_region 1 with fail
  generalize hW1 : World.alloc w _ = W1
  have HB1 : Hid (Below w.heap.size w W1) := by
    show Below _ _ _
    rw [← hW1]
    exact (Below.refl _ _).alloc (Nat.le_refl _) _
  have HX1 : Hid (Blk W1 w.heap.size 33 m.cs) := by
    show Blk _ _ _ _
    rw [← hW1]
    exact Blk.new _ _ _
  clear hW1
  have k1 := eb1 HX1.out
  go_wp2_with (go_at_call 71; refine (HS.out _).mono ?_; rintro e w2 ⟨rfl, hb⟩; have HB2 := hide (HB1.out.trans (hb.mono HB1.out.size)); clear hb)
  go_ret
  exact ⟨rfl, HB2.out⟩
set_option maxRecDepth 100000 in
set_option maxHeartbeats 2000000 in
theorem part_Q (m : Em) (w : World) (h : EmIn w w.heap.size m) (ho : EvOk m) : Calls Tryz.prog 74 #[.agg m.cs, .int .u8 113] w fun e w' => e = .returned (.string (S (Lib.itoa m.b))) ∧ Below w.heap.size w w' := by
  have HS : Hid (∀ W, Calls Tryz.prog 71 #[.int .i64 m.b] W fun e w' => e = .returned (.string (S (Lib.itoa m.b))) ∧ Below W.heap.size W w') := fun W => signed_all m.b W ho.b.1 ho.b.2
  clear h ho
  go_enter Tryz.func74, Tryz.ntmps74
  go_upto_region 1 with fail
  generalize hW1 : World.alloc w _ = W1
  have HB1 : Hid (Below w.heap.size w W1) := by
    show Below _ _ _
    rw [← hW1]
    exact (Below.refl _ _).alloc (Nat.le_refl _) _
  have HX1 : Hid (Blk W1 w.heap.size 33 m.cs) := by
    show Blk _ _ _ _
    rw [← hW1]
    exact Blk.new _ _ _
  clear hW1
  have k1 := eb2 HX1.out
  go_wp2_with (go_at_call 71; refine (HS.out _).mono ?_; rintro e w2 ⟨rfl, hb⟩; have HB2 := hide (HB1.out.trans (hb.mono HB1.out.size)); clear hb)
  go_ret
  exact ⟨rfl, HB2.out⟩
set_option maxRecDepth 100000 in
set_option maxHeartbeats 2000000 in
theorem part_N (m : Em) (w : World) (h : EmIn w w.heap.size m) (ho : EvOk m) : Calls Tryz.prog 74 #[.agg m.cs, .int .u8 110] w fun e w' => e = .returned (.string (S (Lib.itoa m.n))) ∧ Below w.heap.size w w' := by
  have HS : Hid (∀ W, Calls Tryz.prog 71 #[.int .i64 m.n] W fun e w' => e = .returned (.string (S (Lib.itoa m.n))) ∧ Below W.heap.size W w') := fun W => signed_all m.n W ho.n.1 ho.n.2
  clear h ho
  go_enter Tryz.func74, Tryz.ntmps74
  go_upto_region 1 with fail
  generalize hW1 : World.alloc w _ = W1
  have HB1 : Hid (Below w.heap.size w W1) := by
    show Below _ _ _
    rw [← hW1]
    exact (Below.refl _ _).alloc (Nat.le_refl _) _
  have HX1 : Hid (Blk W1 w.heap.size 33 m.cs) := by
    show Blk _ _ _ _
    rw [← hW1]
    exact Blk.new _ _ _
  clear hW1
  have k1 := eb3 HX1.out
  go_wp2_with (go_at_call 71; refine (HS.out _).mono ?_; rintro e w2 ⟨rfl, hb⟩; have HB2 := hide (HB1.out.trans (hb.mono HB1.out.size)); clear hb)
  go_ret
  exact ⟨rfl, HB2.out⟩
set_option maxRecDepth 100000 in
set_option maxHeartbeats 2000000 in
theorem part_D (m : Em) (w : World) (h : EmIn w w.heap.size m) (ho : EvOk m) : Calls Tryz.prog 74 #[.agg m.cs, .int .u8 100] w fun e w' => e = .returned (.string (S (Lib.itoa m.n))) ∧ Below w.heap.size w w' := by
  have HS : Hid (∀ W, Calls Tryz.prog 71 #[.int .i64 m.n] W fun e w' => e = .returned (.string (S (Lib.itoa m.n))) ∧ Below W.heap.size W w') := fun W => signed_all m.n W ho.n.1 ho.n.2
  clear h ho
  go_enter Tryz.func74, Tryz.ntmps74
  go_upto_region 1 with fail
  generalize hW1 : World.alloc w _ = W1
  have HB1 : Hid (Below w.heap.size w W1) := by
    show Below _ _ _
    rw [← hW1]
    exact (Below.refl _ _).alloc (Nat.le_refl _) _
  have HX1 : Hid (Blk W1 w.heap.size 33 m.cs) := by
    show Blk _ _ _ _
    rw [← hW1]
    exact Blk.new _ _ _
  clear hW1
  have k1 := eb3 HX1.out
  go_wp2_with (go_at_call 71; refine (HS.out _).mono ?_; rintro e w2 ⟨rfl, hb⟩; have HB2 := hide (HB1.out.trans (hb.mono HB1.out.size)); clear hb)
  go_ret
  exact ⟨rfl, HB2.out⟩
set_option maxRecDepth 100000 in
set_option maxHeartbeats 2000000 in
theorem part_T (m : Em) (w : World) (h : EmIn w w.heap.size m) (ho : EvOk m) : Calls Tryz.prog 74 #[.agg m.cs, .int .u8 116] w fun e w' => e = .returned (.string (S (quoteL m.bd))) ∧ Below w.heap.size w w' := by
  have HS : Hid (∀ W, Calls Tryz.prog 69 #[.string (S m.bd)] W fun e w' => e = .returned (.string (S (quoteL m.bd))) ∧ Below W.heap.size W w') := fun W => by
    have := Quote_any (S m.bd) W (by rw [S_size, h.nb_len]; have := ho.bulk; omega)
    rwa [S_data] at this
  have HD := hide h.body
  clear h ho
  go_enter Tryz.func74, Tryz.ntmps74
  go_upto_region 1 with fail
  generalize hW1 : World.alloc w _ = W1
  have HB1 : Hid (Below w.heap.size w W1) := by
    show Below _ _ _
    rw [← hW1]
    exact (Below.refl _ _).alloc (Nat.le_refl _) _
  have HX1 : Hid (Blk W1 w.heap.size 33 m.cs) := by
    show Blk _ _ _ _
    rw [← hW1]
    exact Blk.new _ _ _
  clear hW1
  have k1 := eb4 HX1.out
  have HC := conv_reads (c := m.cb) (Reads.below HD.out HB1.out)
  go_wp2_with (go_at_call 69; refine (HS.out _).mono ?_; rintro e w2 ⟨rfl, hb⟩; have HB2 := hide (HB1.out.trans (hb.mono HB1.out.size)); clear hb)
  go_ret
  exact ⟨rfl, HB2.out⟩
set_option maxRecDepth 100000 in
set_option maxHeartbeats 2000000 in
theorem part_X (m : Em) (w : World) (h : EmIn w w.heap.size m) (ho : EvOk m) : Calls Tryz.prog 74 #[.agg m.cs, .int .u8 120] w fun e w' => e = .returned (.string (S (quoteL m.bd))) ∧ Below w.heap.size w w' := by
  have HS : Hid (∀ W, Calls Tryz.prog 69 #[.string (S m.bd)] W fun e w' => e = .returned (.string (S (quoteL m.bd))) ∧ Below W.heap.size W w') := fun W => by
    have := Quote_any (S m.bd) W (by rw [S_size, h.nb_len]; have := ho.bulk; omega)
    rwa [S_data] at this
  have HD := hide h.body
  clear h ho
  go_enter Tryz.func74, Tryz.ntmps74
  go_upto_region 1 with fail
  generalize hW1 : World.alloc w _ = W1
  have HB1 : Hid (Below w.heap.size w W1) := by
    show Below _ _ _
    rw [← hW1]
    exact (Below.refl _ _).alloc (Nat.le_refl _) _
  have HX1 : Hid (Blk W1 w.heap.size 33 m.cs) := by
    show Blk _ _ _ _
    rw [← hW1]
    exact Blk.new _ _ _
  clear hW1
  have k1 := eb4 HX1.out
  have HC := conv_reads (c := m.cb) (Reads.below HD.out HB1.out)
  go_wp2_with (go_at_call 69; refine (HS.out _).mono ?_; rintro e w2 ⟨rfl, hb⟩; have HB2 := hide (HB1.out.trans (hb.mono HB1.out.size)); clear hb)
  go_ret
  exact ⟨rfl, HB2.out⟩
theorem part_any (c : Lt) (m : Em) (w : World) (h : EmIn w w.heap.size m) (ho : EvOk m) : Calls Tryz.prog 74 #[.agg m.cs, .int .u8 ((lrOf c).toNat : Int)] w fun e w' => e = .returned (.string (S (ltT m.ev c))) ∧ Below w.heap.size w w' :=
  match c with
  | .P => part_P m w h ho
  | .K => part_K m w h ho
  | .Q => part_Q m w h ho
  | .N => part_N m w h ho
  | .D => part_D m w h ho
  | .T => part_T m w h ho
  | .X => part_X m w h ho
end Go.Proofs.YtcibcmfaebbhnaaGreatDoor
