/-
  Contract of quorateref02.SameEvent for two events that are alike.
-/
import Derived.Test.YtkcjfiifajjpiaaPiece
import Derived.Laws.BytesArg
set_option linter.unusedVariables false
set_option linter.unusedSimpArgs false
namespace Go.Proofs.Ytkcjfiifajjpiaa
open Go.RowKit Go.WideShapes Go.ChangeShapes Q

theorem conv_body {w : World} {B n c : Nat} {A : Option Addr} {bz : List Int} (h : Reads w B 1 A n (byts bz)) : (convert 41 9 (.slice A n c)).run Try.prog w = .ok (.string (strOfNums bz)) w := by
  have hl : bz.length = n := by have := h.1; rw [byts_len] at this; omega
  cases A with
  | none =>
    have hn : n = 0 := by
      rcases Nat.eq_zero_or_pos n with h0 | h0
      · exact h0
      · obtain ⟨ad, e, _⟩ := h.2 h0
        cases e
    subst hn
    obtain rfl : bz = [] := List.eq_nil_of_length_eq_zero hl
    exact run_convert_bytes_nil w 41 5 Try.underlying41 Try.underlying5 0 c 9 Try.underlying9
  | some ad =>
    have hld : (loadCells ad n).run Try.prog w = .ok (bz.map (Value.int .u8)).toArray w := by
      have := run_loadCells_list (P := Try.prog) w ad (bz.map (Value.int .u8)) (fun j v hj => by
        have hn : 0 < n := by
          have := (List.getElem?_eq_some_iff.1 hj).1
          rw [List.length_map] at this
          omega
        obtain ⟨ad', e, _, hcc⟩ := h.2 hn
        obtain rfl : ad' = ad := by injection e with e; exact e.symm
        exact hcc j v hj)
      simpa [hl] using this
    rw [run_convert_bytes_string w 41 9 5 (some ad) n c Try.underlying41 Try.underlying5 Try.underlying9, run_bytesToString w ad n c bz hld, foldl_push_bytes]
    simp [strOfNums, ByteArray.empty, ByteArray.emptyWithCapacity]
    rfl

def El.agg (x : El) : Value := .agg #[.int .i64 x.k, .int .i64 x.a, .int .i64 x.b, .int .i64 x.n, x.body, .int .i64 x.c1, .int .i64 x.c2, .int .i64 x.c3, .int .i64 x.c4, .string x.s1, .string x.s2, .string x.s3, x.sides]

set_option maxRecDepth 100000 in
set_option maxHeartbeats 2000000 in
theorem sameev_flat (k a b n c1 c2 c3 c4 : Int) (s1 s2 s3 : ByteArray) (bz zs : List Int) (m mb : Nat) (b1 b2 A1 A2 : Option Addr) (d1 d2 e1 e2 B1 B2 : Nat) (w : World)
    (hb1 : Reads w B1 1 b1 mb (byts bz)) (hb2 : Reads w B2 1 b2 mb (byts bz)) (hz1 : RI w B1 A1 m zs) (hz2 : RI w B2 A2 m zs) (hm : m ≤ 140737488351232) :
    Calls Try.prog 35 #[.agg #[.int .i64 k, .int .i64 a, .int .i64 b, .int .i64 n, .slice b1 mb d1, .int .i64 c1, .int .i64 c2, .int .i64 c3, .int .i64 c4, .string s1, .string s2, .string s3, .slice A1 m e1],
      .agg #[.int .i64 k, .int .i64 a, .int .i64 b, .int .i64 n, .slice b2 mb d2, .int .i64 c1, .int .i64 c2, .int .i64 c3, .int .i64 c4, .string s1, .string s2, .string s3, .slice A2 m e2]] w
      fun e w' => e = .returned (.bool true) ∧ St (fun _ => False) w w' := by
  have H0 : St (fun _ => False) w ((w.alloc (.cells #[.int .i64 k, .int .i64 a, .int .i64 b, .int .i64 n, .slice b1 mb d1, .int .i64 c1, .int .i64 c2, .int .i64 c3, .int .i64 c4, .string s1, .string s2, .string s3, .slice A1 m e1] 45)).alloc (.cells #[.int .i64 k, .int .i64 a, .int .i64 b, .int .i64 n, .slice b2 mb d2, .int .i64 c1, .int .i64 c2, .int .i64 c3, .int .i64 c4, .string s1, .string s2, .string s3, .slice A2 m e2] 45)) := ((St.refl _ w).alloc _).alloc _
  have P1 := (Blk.new w 45 #[.int .i64 k, .int .i64 a, .int .i64 b, .int .i64 n, .slice b1 mb d1, .int .i64 c1, .int .i64 c2, .int .i64 c3, .int .i64 c4, .string s1, .string s2, .string s3, .slice A1 m e1]).alloc (.cells #[.int .i64 k, .int .i64 a, .int .i64 b, .int .i64 n, .slice b2 mb d2, .int .i64 c1, .int .i64 c2, .int .i64 c3, .int .i64 c4, .string s1, .string s2, .string s3, .slice A2 m e2] 45)
  have P2 := Blk.new' (w.alloc (.cells #[.int .i64 k, .int .i64 a, .int .i64 b, .int .i64 n, .slice b1 mb d1, .int .i64 c1, .int .i64 c2, .int .i64 c3, .int .i64 c4, .string s1, .string s2, .string s3, .slice A1 m e1] 45)) 45 #[.int .i64 k, .int .i64 a, .int .i64 b, .int .i64 n, .slice b2 mb d2, .int .i64 c1, .int .i64 c2, .int .i64 c3, .int .i64 c4, .string s1, .string s2, .string s3, .slice A2 m e2] (w.heap.size + 1) (by simp)
  have HB1 := hide (Reads.st hb1 H0 (fun q _ e => e))
  have HB2 := hide (Reads.st hb2 H0 (fun q _ e => e))
  have HZ1 := hide (hz1.st H0 (fun q e => e.elim))
  have HZ2 := hide (hz2.st H0 (fun q e => e.elim))
  clear hb1 hb2 hz1 hz2
  go_enter Try.func35, Try.ntmps35
  go_upto_region 1 with fail
  obtain ⟨w0, hw0⟩ : ∃ w0, w0 = ((w.alloc (.cells #[.int .i64 k, .int .i64 a, .int .i64 b, .int .i64 n, .slice b1 mb d1, .int .i64 c1, .int .i64 c2, .int .i64 c3, .int .i64 c4, .string s1, .string s2, .string s3, .slice A1 m e1] 45)).alloc (.cells #[.int .i64 k, .int .i64 a, .int .i64 b, .int .i64 n, .slice b2 mb d2, .int .i64 c1, .int .i64 c2, .int .i64 c3, .int .i64 c4, .string s1, .string s2, .string s3, .slice A2 m e2] 45)) := ⟨_, rfl⟩
  rw [← hw0] at H0 P1 P2 HB1 HB2 HZ1 HZ2 ⊢
  have HS0 := hide H0
  obtain ⟨y0, y1, y2, y3, y4, y5, y6, y7, y8, y9, y10, y11, y12⟩ := m13 P1
  obtain ⟨z0, z1, z2, z3, z4, z5, z6, z7, z8, z9, z10, z11, z12⟩ := m13 P2
  have cv1 := conv_body (c := d1) HB1.out
  have cv2 := conv_body (c := d2) HB2.out
  clear hw0 H0 P1 P2 HB1 HB2
  go_wp2_with fail
  go_loopw [5] (fun i wr => ∃ k : Nat, k ≤ m ∧ i = .int .i64 k ∧ ∃ q, wr = w0.drewN q) (fun i _ => m - (intOf i).toNat)
  case atStart => exact ⟨0, Nat.zero_le _, rfl, 0, rfl⟩
  case round =>
    obtain ⟨k, hk, rfl, q, rfl⟩ := hrel
    by_cases hlt : k < m
    · obtain ⟨ad1, rfl, _, hc1⟩ := HZ1.out.at_ hlt
      obtain ⟨ad2, rfl, _, hc2⟩ := HZ2.out.at_ hlt
      have h0 : (0 : Int) ≤ k := by omega
      have h1 : (k : Int) < m := by omega
      clear cv1 cv2 y0 y1 y2 y3 y4 y5 y6 y7 y8 y9 y10 y11 z0 z1 z2 z3 z4 z5 z6 z7 z8 z9 z10 z11
      go_wp2
      go_quiet (fail)
      go_wp2
      go_roundw
      case rel => exact ⟨k + 1, by omega, by go_num, _, rfl⟩
      case measure => simp [intOf]; omega
    · obtain rfl : k = m := by omega
      go_wp2
      go_ret
      exact ⟨rfl, HS0.out.drewN _⟩

theorem sameev_any (x y : El) (hxy : x.plain = y.plain) (B1 B2 : Nat) (w : World) (hx : x.Good w B1) (hy : y.Good w B2) :
    Calls Try.prog 35 #[x.agg, y.agg] w fun e w' => e = .returned (.bool true) ∧ St (fun _ => False) w w' := by
  obtain ⟨k, a, b, n, bA, bc, bz, c1, c2, c3, c4, s1, s2, s3, A, c, zs⟩ := x
  obtain ⟨k', a', b', n', bA', bc', bz', c1', c2', c3', c4', s1', s2', s3', A', c', zs'⟩ := y
  simp only [El.plain, El.mk.injEq] at hxy
  obtain ⟨rfl, rfl, rfl, rfl, _, _, rfl, rfl, rfl, rfl, rfl, rfl, rfl, rfl, _, _, rfl⟩ := hxy
  exact sameev_flat k a b n c1 c2 c3 c4 s1 s2 s3 bz zs zs.length bz.length bA bA' A A' bc bc' c c' B1 B2 w hx.2.2.1 hy.2.2.1 hx.1 hy.1 hx.2.1
end Go.Proofs.Ytkcjfiifajjpiaa
