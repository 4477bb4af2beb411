/-
  Contracts of the reference's Minimal and of the laws' lists and grown.
-/
import Derived.Test.YteckffndboiknaaRFrom
set_option linter.unusedVariables false
set_option linter.unusedSimpArgs false
namespace Go.Proofs.Yteckffndboiknaa
open Go.RowKit Go.WideShapes Go.ChangeShapes Q

set_option maxRecDepth 100000 in
theorem refMin_any (A : Option Addr) (B n c : Nat) (vs : List Int) (w : World) (h : RI w B A n vs) (hB : B ≤ w.heap.size) (hn : n ≤ 17592186044416) :
    Calls Try.prog 37 #[.slice A n c] w fun e w' => ∃ v es, e = .returned (.tuple #[v, .int .i64 (chkE vs)]) ∧ LL w' w.heap.size v es ∧ es.map En.l = minR vs ∧ Below w.heap.size w w' := by
  have hl := h.len
  subst hl
  have HC := hide (refCheck_any A B _ c vs w h hn)
  obtain ⟨base, hbase⟩ : ∃ b, b = w.heap.size := ⟨_, rfl⟩
  rw [← hbase]
  by_cases hok : Ok vs
  · have HF := hide (from_any A B c vs hok (vs.length + 1) 0 0 w (by omega) (Nat.zero_le _) (by omega) h hB)
    have HE := hide (chkE_ok hok)
    have HM := hide (minR_ok hok)
    rw [HE.out] at HC
    rw [← hbase, Nat.sub_zero] at HF
    clear hok h
    go_enter Try.func37, Try.ntmps37
    go_wp2_with (first | (go_at_call 26; refine HC.out.mono ?_; rintro e w' ⟨rfl, rfl⟩) | (go_at_call 66; refine HF.out.mono ?_; rintro e w2 ⟨v, es, rfl, hL, hM, hb⟩; have HL := hide hL; have HM2 := hide hM; have HB2 := hide hb; clear hL hM hb))
    go_ret2
    exact ⟨_, es, ret2_ rfl (by rw [HE.out]; rfl), HL.out, by rw [HM.out]; exact HM2.out, HB2.out⟩
  · have HE := hide (chkE_bad hok)
    have HM := hide (minR_bad hok)
    rw [HE.out] at HC
    clear hok h
    go_enter Try.func37, Try.ntmps37
    go_wp2_with (go_at_call 26; refine HC.out.mono ?_; rintro e w' ⟨rfl, rfl⟩)
    go_ret2
    exact ⟨_, [], ret2_ rfl (by rw [HE.out]; rfl), LL.nil _ _, by rw [HM.out]; rfl, Below.refl _ _⟩

/-- A list of lists that can be read. -/
structure LR (w : World) (A : Option Addr) (es : List En) : Prop where
  row : Reads w w.heap.size 1 A es.length (es.map En.v)
  ent : ∀ e ∈ es, RI w w.heap.size (some ⟨e.g, 0, none⟩) e.l.length e.l
  sh : ∀ e ∈ es, e.l.length ≤ 16
theorem LL.lr {w : World} {base : Nat} {v : Value} {es : List En} (h : LL w base v es) : ∃ A c, v = .slice A es.length c ∧ LR w A es ∧ es.length ≤ c := by
  obtain ⟨A, c, e, hr, hc⟩ := own_slice h.row
  exact ⟨A, c, e, ⟨hr, fun e he => (h.ent e he).ri, h.sh⟩, hc⟩
theorem LR.drewN {w : World} {A : Option Addr} {es : List En} (h : LR w A es) (q : Nat) : LR (w.drewN q) A es := ⟨h.row.drewN q, fun e he => (h.ent e he).drewN q, h.sh⟩
theorem LR.at_ {w : World} {A : Option Addr} {es : List En} (h : LR w A es) {k : Nat} (hk : k < es.length) : ∃ ad e, A = some ad ∧ es[k]? = some e ∧ w.cell? (ad.add k) = some e.v ∧ RI w w.heap.size (some ⟨e.g, 0, none⟩) e.l.length e.l ∧ e.l.length ≤ 16 := by
  obtain ⟨ad, u, hA, _, hu, hc⟩ := h.row.at_ hk
  obtain ⟨e, he⟩ : ∃ e, es[k]? = some e := ⟨_, List.getElem?_eq_getElem hk⟩
  rw [List.getElem?_map, he] at hu
  injection hu with hu
  subst hu
  exact ⟨ad, e, hA, he, hc, h.ent e (List.mem_of_getElem? he), h.sh e (List.mem_of_getElem? he)⟩

set_option maxRecDepth 100000 in
set_option maxHeartbeats 1000000 in
theorem lists_true (A A' : Option Addr) (c c' : Nat) (es es' : List En) (w : World) (h : LR w A es) (h' : LR w A' es') (hl : es.map En.l = es'.map En.l) (hn : es.length ≤ 1000000) :
    Calls Try.prog 38 #[.slice A es.length c, .slice A' es'.length c'] w fun e w' => e = .returned (.bool true) ∧ ∃ q, w' = w.drewN q := by
  obtain ⟨n, hnn⟩ : ∃ n, n = es.length := ⟨_, rfl⟩
  have hn2 : es'.length = n := by have := congrArg List.length hl; rw [List.length_map, List.length_map] at this; omega
  have HN := hide hnn
  have HN2 := hide hn2
  have HR := hide h
  have HR' := hide h'
  have HL := hide hl
  rw [hn2, ← hnn]
  rw [← hnn] at hn
  clear hnn hn2 h h' hl
  go_enter Try.func38, Try.ntmps38
  go_wp2_with fail
  go_loopw [5] (fun i wr => ∃ k : Nat, k ≤ n ∧ i = .int .i64 k ∧ ∃ q, wr = w.drewN q) (fun i _ => n - (intOf i).toNat)
  case atStart => exact ⟨0, Nat.zero_le _, rfl, 0, rfl⟩
  case round =>
    obtain ⟨k, hk, rfl, q, rfl⟩ := hrel
    by_cases hlt : k < n
    · obtain ⟨ad, e, rfl, he, hc, hr, h16⟩ := (HR.out.drewN q).at_ (k := k) (by rw [← HN.out]; exact hlt)
      obtain ⟨ad', e', rfl, he', hc', hr', h16'⟩ := (HR'.out.drewN q).at_ (k := k) (by rw [HN2.out]; exact hlt)
      have hee : e.l = e'.l := by
        have h1 := congrArg (fun l => l[k]?) HL.out
        simp only [List.getElem?_map, he, he', Option.map_some] at h1
        injection h1
      have HK : ∀ a, Hid (Calls Try.prog 49 #[.slice (some ⟨e.g, 0, none⟩) e.l.length e.cap, .slice (some ⟨e'.g, 0, none⟩) e'.l.length e'.cap] ((w.drewN q).drewN a) fun r w' => r = .returned (.bool true) ∧ ∃ m, w' = ((w.drewN q).drewN a).drewN m) := fun a => by
        rw [← hee] at hr' ⊢
        exact same_true _ _ _ _ _ _ _ e.l _ (Reads.drewN hr a) (Reads.drewN hr' a) (by omega)
      unfold En.v at hc hc'
      have i0 : (0 : Int) ≤ (k : Int) := by omega
      have i1 : (k : Int) < (n : Int) := by omega
      clear he he' hr hr' hee h16 h16'
      obtain ⟨wd, hwd⟩ : ∃ wd, wd = w.drewN q := ⟨_, rfl⟩
      rw [← hwd] at hc hc' HK ⊢
      have HWD := hide hwd
      clear hwd
      go_upto_region 6 with fail
      go_quiet ((go_at_call 49; first | exact quiet_add ((HK _).out) | exact Calls.quiet_of ((HK _).out)))
      go_wp2_with fail
      go_roundw
      case rel => exact ⟨k + 1, by omega, by go_num, _, by rw [HWD.out, World.drewN_drewN]⟩
      case measure => simp [intOf]; omega
    · obtain rfl : k = n := by omega
      go_wp2_with fail
      go_ret
      exact ⟨rfl, q, rfl⟩
end Go.Proofs.Yteckffndboiknaa
