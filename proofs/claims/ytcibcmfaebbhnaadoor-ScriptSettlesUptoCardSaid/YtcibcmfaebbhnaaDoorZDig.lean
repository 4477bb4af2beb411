/-
  The k-th number of a list, closed to simp. A slice of ints that reads as a list; small facts on endings and bits. The row's frame, for every law of this seat: the arguments opened, the last step ('true; each argument reads as it did'). Arguments opened, whatever their depth: a slice's elements, a struct's fields, with their places and weights. Texts of bytes: a text as a list, joined texts, bytes in memory turned into a text. The reference's Digits, Signed, plain.
-/
import Derived.Test.YtcibcmfaebbhnaaDoorZWords
import Derived.Test.YtcibcmfaebbhnaaDoorRows
import Derived.ProofKit
import Derived.OpenShut
import Derived.SizedLaws
import Derived.Carry
import Derived.Lib.SmallJoins
import Derived.Deep.Slices
import Derived.Deep.Fields
import Derived.Lib.ItoaNum
import Derived.Lib.UnsafeStr
import Derived.Laws.IdiomStrings
import Derived.Deep.RegionLaw
namespace Go.Proofs.YtcibcmfaebbhnaaDoor.Q
/-- The k-th number of a list (0 behind its end). -/
def nth (vs : List Int) (k : Nat) : Int := vs.getD k 0
end Go.Proofs.YtcibcmfaebbhnaaDoor.Q
namespace Go.Proofs.YtcibcmfaebbhnaaDoor
open Go.RowKit Go.WideShapes Go.ChangeShapes Q
def ints (vs : List Int) : List Value := vs.map (Value.int .i64)
/-- A slice of ints that reads as a list. -/
def RI (w : World) (B : Nat) (A : Option Addr) (n : Nat) (vs : List Int) : Prop := Reads w B 1 A n (ints vs)
theorem RI.len {w : World} {B n : Nat} {A : Option Addr} {vs : List Int} (h : RI w B A n vs) : vs.length = n := by
  have := Reads.len_ h
  simpa [ints] using this
theorem RI.at_ {w : World} {B n k : Nat} {A : Option Addr} {vs : List Int} (h : RI w B A n vs) (hk : k < n) : ∃ ad, A = some ad ∧ ad.block < B ∧ w.cell? (ad.add k) = some (.int .i64 (nth vs k)) := by
  obtain ⟨ad, u, hA, hb, hx, hc⟩ := Reads.at_ h hk
  refine ⟨ad, hA, hb, hc.trans ?_⟩
  have hl := h.len
  rw [← hx]
  simp only [ints, List.getElem?_map, nth, List.getD]
  rw [List.getElem?_eq_getElem (by omega)]
  rfl
theorem ret_int {k : IntKind} {a b : Int} (h : a = b) : Ending.returned (.int k a) = .returned (.int k b) := by rw [h]
theorem ret_bool {a b : Bool} (h : a = b) : Ending.returned (.bool a) = .returned (.bool b) := by rw [h]
end Go.Proofs.YtcibcmfaebbhnaaDoor
set_option linter.unusedVariables false
namespace Go.Proofs.YtcibcmfaebbhnaaDoor
open Go.ChangeShapes Go.WideShapes Go.ChangeAt Go.RowKit Go.Deep Q
theorem Tryd.own : ownKnob Tryd.prog.godebug = none := by kernel_rfl
theorem Tryd.laidOut : laidOutB Tryd.prog = true := by kernel_rfl
section
variable {H : Type} {enc : TypeId × Value → H} {P : Program}
theorem TrodAll_stays (hl : laidOutB P = true) {W W' : World} {sp' : Nat → Bool} : ∀ {ts : List TypeId} {vs : List Value} {ds : List (DataW H)} {ps : List MemPlace}, (∀ t ∈ ts, P.readableRec t = true ∧ t < P.types.size) →
    DataW.TrodAll enc P W 0 (fun _ => true) true ts vs ds ps → (∀ x ∈ ps, W.sameAt W' x) → (∀ x ∈ ps, sp' x.block = true) → DataW.TrodAll enc P W' 0 sp' true ts vs ds ps
  | [], [], [], ps, _, h, _, _ => h
  | t :: ts, v :: vs, d :: ds, ps, hr, h, hs, hp => by
    obtain ⟨p, q, h1, h2, rfl⟩ := h
    refine ⟨p, q, ?_, ?_, rfl⟩
    · exact WideElems.Trod_stays hl (hr t (by simp)).1 (hr t (by simp)).2 h1 (fun x hx => hs x (by simp [hx])) (fun x hx => hp x (by simp [hx]))
    · exact TrodAll_stays hl (fun t' ht' => hr t' (by simp [ht'])) h2 (fun x hx => hs x (by simp [hx])) (fun x hx => hp x (by simp [hx]))
  | [], [], _ :: _, _, _, h, _, _ => h.elim
  | [], _ :: _, _, _, _, h, _, _ => h.elim
  | _ :: _, [], _, _, _, h, _, _ => h.elim
  | _ :: _, _ :: _, [], _, _, h, _, _ => h.elim
theorem post_law {f : Func} {s : ChangeSpec} {W W' : World} {args : Array Value} {ds gs : List (DataW H)} {before : List MemPlace} {tb : TypeId}
    (hW : DataW.Whole enc P f.params.toList s.vars false W args.toList ds gs before) (hvars : s.vars = [])
    (hres : (s.fn H (ds ++ gs)).results = [.lit (.bool true)]) (hargs : (s.fn H (ds ++ gs)).args = ds) (hv : (s.fn H (ds ++ gs)).vars = [])
    (hl : laidOutB P = true) (hr : ∀ t ∈ f.params.toList, P.readableRec t = true ∧ t < P.types.size)
    (hrt : f.resultTypes = #[tb]) (htb : P.underlying tb = some .bool) (hb : Below W.heap.size W W') : s.post enc P f false true false false W args (.bool true) W' := by
  obtain ⟨p, q, hA, hV, hbef, hfz, hnd⟩ := id hW
  rw [hvars] at hV
  obtain ⟨rfl, rfl⟩ := trodVars_none hV
  have hlt : ∀ x ∈ before, x.block < W.heap.size := fun x hx => hW.lt x hx
  have hsub : ∀ x ∈ p, x ∈ before := fun x hx => by rw [hbef]; simp [hx]
  refine post_of_below (pa := p) (pv := []) hW ?_ ?_ ?_ hbef hb ?_
  · intro b sp hd
    rw [hres, hrt]
    exact trodAll_mk1 (shut_bool htb true)
  · intro sp hsp
    rw [hargs]
    exact TrodAll_stays hl hr hA (fun x hx => hb.same (hlt x (hsub x hx))) (fun x hx => hsp x (hsub x hx))
  · intro sp hsp
    rw [hvars, hv]
    rfl
  · intro j t r hj hrr
    rw [hrt] at hj hrr
    match j, hj with
    | 0, hj =>
      simp at hj
      subst hj
      have : r = .bool true := by simpa [Value.resultList] using hrr.symm
      subst this
      exact okWide_bool_mk htb true
theorem open_cell_int {W : World} {base : Nat} {spare : Nat → Bool} {held : Bool} {t : TypeId} {n : Nat} {c : Value} {y : DataW H × List MemPlace} (ht : P.underlying t = some (.int .i64)) (h : DataW.trod enc P W base spare held n t [c] = some y) :
    ∃ x : Int, c = .int .i64 x ∧ -9223372036854775808 ≤ x ∧ x ≤ 9223372036854775807 := by
  obtain ⟨a, e0, rfl, wa⟩ := DataW.trod_int ht h
  simp [Lit.wf, IntKind.min, IntKind.max, IntKind.signed, IntKind.bits] at wa
  simp at e0
  exact ⟨a, e0, by omega, by omega⟩
end
end Go.Proofs.YtcibcmfaebbhnaaDoor
namespace Go.Proofs.YtcibcmfaebbhnaaDoor
open Go.ChangeShapes Go.WideShapes Go.ChangeAt Go.RowKit Go.Deep Q
section
variable {H : Type} {enc : TypeId × Value → H} {P : Program} {W : World}
/-- A datum read of cells: it lies below the call's own blocks, and is within the form's reach. -/
def Got (enc : TypeId × Value → H) (P : Program) (W : World) (t : TypeId) (cs : List Value) (d : DataW H) : Prop :=
  ∃ (fuel : Nat) (p : List MemPlace), DataW.trod enc P W 0 (fun _ => true) true fuel t cs = some (d, p) ∧ (∀ x ∈ p, x.block < W.heap.size) ∧ (∀ x ∈ DataW.weights P t d, x ≤ reachBytes)
theorem weightsAll_mem {e : TypeId} {x : Nat} : ∀ {l : List (DataW H)} {d : DataW H}, d ∈ l → x ∈ DataW.weights P e d → x ∈ DataW.weightsAll P e l
  | [], d, h, _ => by cases h
  | a :: l, d, h, hx => by
    simp only [DataW.weightsAll, List.mem_append]
    rcases List.mem_cons.1 h with rfl | h
    · exact .inl hx
    · exact .inr (weightsAll_mem h hx)
/-- A slice's elements. -/
theorem Got.slice {t e : TypeId} {v : Value} {d : DataW H} (ht : P.underlying t = some (.slice e)) (hC : 0 < P.cellsOf e) (h : Got enc P W t [v] d) :
    v = .slice none 0 0 ∨
    ∃ (a : Addr) (len cap : Nat) (D : Nat → DataW H) (cs : Nat → List Value), v = .slice (some a) len cap ∧ len ≤ cap ∧ cap ≤ maxLen ∧ cap * P.bytesOf e ≤ 140737488351232 ∧ (0 < len → a.block < W.heap.size) ∧
      ∀ i, i < len → (cs i).length = P.cellsOf e ∧ (∀ j, j < P.cellsOf e → W.cell? (a.add (i * P.cellsOf e + j)) = (cs i)[j]?) ∧ Got enc P W e (cs i) (D i) := by
  obtain ⟨fuel, p, h, hlt, hwt⟩ := h
  rcases open_slice ht h with ⟨hcs, _⟩ | ⟨a, len, cap, m, n, D, Pl, hcs, _, hl, hm, hmm, hx, hi⟩
  · left; simpa using hcs
  · right
    simp only [if_true] at hmm
    subst hmm
    simp only [Prod.mk.injEq] at hx
    obtain ⟨rfl, rfl⟩ := hx
    have hcap : m * P.bytesOf e ≤ 140737488351232 := by
      have := hwt (m * P.bytesOf e) (by
        simp only [DataW.weights, ht, List.length_map, List.length_range, List.mem_cons]
        left; congr 1; omega)
      simpa [reachBytes] using this
    have hex : ∀ i, ∃ cs', i < len → cs'.length = P.cellsOf e ∧ (∀ j, j < P.cellsOf e → W.cell? (a.add (i * P.cellsOf e + j)) = cs'[j]?) ∧ Got enc P W e cs' (D i) := by
      intro i
      by_cases hil : i < len
      · obtain ⟨cs', hc, ht'⟩ := hi i (by omega)
        obtain ⟨_, hcl, hat⟩ := World.cells?_some hc
        refine ⟨cs', fun _ => ⟨hcl, fun j hj => by rw [← Go.Deep.add_add]; exact hat j hj, n, Pl i, ht', fun x hx => hlt x ?_, fun x hx => hwt x ?_⟩⟩
        · exact List.mem_append_right _ (List.mem_flatMap.2 ⟨i, List.mem_range.2 (by omega), hx⟩)
        · simp only [DataW.weights, ht, List.mem_cons, List.mem_append]
          right; left
          exact weightsAll_mem (List.mem_map.2 ⟨i, List.mem_range.2 hil, rfl⟩) hx
      · exact ⟨[], fun h => absurd h hil⟩
    obtain ⟨cs, hcs'⟩ := Classical.axiomOfChoice hex
    refine ⟨a, len, m, D, cs, by simpa using hcs, hl, hm, hcap, fun hn => ?_, hcs'⟩
    have hb := hlt (.cell a.block (a.off + 0)) (List.mem_append_left _ (MemPlace.mem_row.2 ⟨0, Nat.mul_pos (by omega) hC, rfl⟩))
    exact hb
theorem Got.int {t : TypeId} {v : Value} {d : DataW H} (ht : P.underlying t = some (.int .i64)) (h : Got enc P W t [v] d) : ∃ x : Int, v = .int .i64 x ∧ -9223372036854775808 ≤ x ∧ x ≤ 9223372036854775807 := by
  obtain ⟨fuel, p, h, _, _⟩ := h
  exact open_cell_int ht h
end
end Go.Proofs.YtcibcmfaebbhnaaDoor
set_option linter.unusedVariables false
set_option linter.unusedSimpArgs false
namespace Go.Proofs.YtcibcmfaebbhnaaDoor
open Go.RowKit Go.WideShapes Go.ChangeShapes Q
/-- A text of bytes. -/
def S (l : List UInt8) : ByteArray := ⟨l.toArray⟩
theorem S_append (a b : List UInt8) : S a ++ S b = S (a ++ b) := by
  apply ByteArray.ext
  simp [S]
theorem S_data (l : List UInt8) : (S l).data.toList = l := rfl
theorem S_self (s : ByteArray) : S s.data.toList = s := rfl
theorem S_size (l : List UInt8) : (S l).size = l.length := by simp [S, ByteArray.size]
section
variable {P : Program} {w : World}
theorem run_conv_bytes (o : Operand) (src dst e : TypeId) (hs : P.underlying src = some (.slice e)) (he : P.underlying e = some (.int .u8)) (hd : P.underlying dst = some .string)
    (ad : Addr) (n cap : Nat) (l : List UInt8) (hn : n = l.length) (hc : ∀ j (hj : j < l.length), w.cell? (ad.add j) = some (.int .u8 (l[j].toNat : Int))) :
    (convert src dst (.slice (some ad) n cap)).run P w = .ok (.string (S l)) w := by
  subst hn
  exact run_convert_bytes_back w src dst e ad cap l hs he hd hc
theorem wp_conv_bytes {o : Oper} {a : Act} {K : Act → World → Prop} {Q : Exit → Act → World → Prop} (x : Operand) (src dst e : TypeId) (ho : o.op = .convert src dst x)
    (hs : P.underlying src = some (.slice e)) (he : P.underlying e = some (.int .u8)) (hd : P.underlying dst = some .string)
    (ad : Addr) (n cap : Nat) (l : List UInt8) (hx : a.eval x = .slice (some ad) n cap) (hn : n = l.length) (hc : ∀ j (hj : j < l.length), w.cell? (ad.add j) = some (.int .u8 (l[j].toNat : Int)))
    (h : K (a.put o.dst (.string (S l))) w) : o.wp P a w K Q := by
  unfold Oper.wp execOp
  simp only [ho, hx, Sem.run_bind, Sem.run_pure, run_conv_bytes (P := P) (w := w) x src dst e hs he hd ad n cap l hn hc, Result.andThen_ok]
  exact h
theorem wpList_conv_bytes {ops : Array Oper} {rest : List Oper} {o : Oper} {a : Act} {Q : Exit → Act → World → Prop} (hgd : o.guard = none) (x : Operand) (src dst e : TypeId) (ho : o.op = .convert src dst x)
    (hs : P.underlying src = some (.slice e)) (he : P.underlying e = some (.int .u8)) (hd : P.underlying dst = some .string)
    (ad : Addr) (n cap : Nat) (l : List UInt8) (hx : a.eval x = .slice (some ad) n cap) (hn : n = l.length) (hc : ∀ j (hj : j < l.length), w.cell? (ad.add j) = some (.int .u8 (l[j].toNat : Int)))
    (h : wpList P ops Q rest (a.put o.dst (.string (S l))) w) : wpList P ops Q (o :: rest) a w := by
  refine wpList_plain hgd fun K hK => ?_
  exact wp_conv_bytes x src dst e ho hs he hd ad n cap l hx hn hc (hK _ _ h)
end
end Go.Proofs.YtcibcmfaebbhnaaDoor
set_option linter.unusedVariables false
set_option linter.unusedSimpArgs false
namespace Go.Proofs.YtcibcmfaebbhnaaDoor
open Go.RowKit Go.WideShapes Go.ChangeShapes Q
theorem dec_lt {n : Nat} (h : n < 10) : Lib.decDigits n = [UInt8.ofNat (48 + n)] := Lib.decDigits_one h
theorem dec_ge {n : Nat} (h : ¬ n < 10) : Lib.decDigits n = Lib.decDigits (n / 10) ++ [UInt8.ofNat (48 + n % 10)] := by rw [Lib.decDigits, dif_neg h]
theorem byte_of {n : Nat} (h : n < 256) : ((UInt8.ofNat n).toNat : Int) = (n : Int) := by
  show (((BitVec.ofNat 8 n).toNat : Nat) : Int) = _
  rw [BitVec.toNat_ofNat]
  omega
theorem i64_wrap (x : Int) (h0 : -9223372036854775808 ≤ x) (h1 : x ≤ 9223372036854775807) : IntKind.i64.wrap x = x := by rw [IntKind.wrap_i64]; omega
theorem u8_wrap (x : Int) (h0 : 0 ≤ x) (h1 : x ≤ 255) : IntKind.u8.wrap x = x := by
  simp [IntKind.wrap, IntKind.bits, IntKind.signed]
  omega
theorem dec_len : ∀ (k n : Nat), n < 10 ^ (k + 1) → (Lib.decDigits n).length ≤ k + 1
  | 0, n, h => by rw [dec_lt (by omega)]; simp
  | k + 1, n, h => by
    by_cases h1 : n < 10
    · rw [dec_lt h1]; simp
    · have := dec_len k (n / 10) (by rw [Nat.pow_succ] at h; omega)
      rw [dec_ge h1, List.length_append]
      simp
      omega
theorem dec_len19 {n : Nat} (h : n < 9223372036854775808) : (Lib.decDigits n).length ≤ 19 := dec_len 18 n (Nat.lt_of_lt_of_le h (by decide))
theorem itoa_nat (n : Nat) : Lib.itoa (n : Int) = Lib.decDigits n := by unfold Lib.itoa; rw [if_neg (by omega)]; simp
end Go.Proofs.YtcibcmfaebbhnaaDoor
