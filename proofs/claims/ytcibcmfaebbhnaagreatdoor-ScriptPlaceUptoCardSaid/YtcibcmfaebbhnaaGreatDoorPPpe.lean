/-
  The program's ParseEvent.
-/
import Derived.Lib.IndexAny
import Derived.Test.YtcibcmfaebbhnaaGreatDoorPPfd
import Derived.Test.YtcibcmfaebbhnaaGreatDoorPRng
import Derived.Test.YtcibcmfaebbhnaaGreatDoorPLqs
import Derived.Test.YtcibcmfaebbhnaaGreatDoorPCfgW
import Derived.Test.YtcibcmfaebbhnaaGreatDoorPWords
set_option linter.unusedSimpArgs false
set_option linter.unusedVariables false
set_option maxRecDepth 100000
set_option maxHeartbeats 3000000

namespace Go.Proofs.YtcibcmfaebbhnaaGreatDoor
open Go.RowKit Go.WideShapes Go.ChangeShapes Q
theorem nl_iff (s : ByteArray) : (0 ≤ Lib.indexByte s.data.toList 10) ↔ ∃ q ∈ s.data.toList,q.toNat = 10:=by
  have h:=Lib.contains_iff_indexByte s.data.toList 10
  constructor
  · intro h0
    rw [decide_eq_true h0] at h;exact ⟨10,by simpa using h,rfl⟩
  · rintro ⟨q,hq,e⟩
    have : q = 10:=UInt8.toNat_inj.1 e;subst this;rw [show s.data.toList.contains 10 = true by simpa using hq] at h;exact of_decide_eq_true h.symm
def goodLs (ls : List UInt8) : Prop:=(∀ c ∈ ls,isLt c) ∧ ls.count 79 ≤ 1 ∧ ls.count 83 ≤ 1
theorem forms_good : ∀ f ∈ formRows,goodLs f.2.2:=by
  intro f hf;simp only [formRows,List.mem_cons,List.mem_nil_iff,or_false] at hf
  rcases hf with rfl | rfl | rfl | rfl | rfl | rfl | rfl | rfl | rfl | rfl | rfl | rfl | rfl | rfl | rfl | rfl | rfl | rfl | rfl
  all_goals
    refine ⟨?_,by decide,by decide⟩;intro c hc
    simp only [List.mem_cons,List.mem_nil_iff,or_false] at hc <;>
      (unfold isLt
       first
       | (rcases hc with rfl | rfl | rfl <;> simp)
       | (rcases hc with rfl | rfl <;> simp)
       | (rcases hc with rfl;simp))
theorem lt_low {c : UInt8} (h : isLt c) : c.toNat < 128:=by
  rcases h with rfl | rfl | rfl | rfl | rfl | rfl | rfl | rfl <;> decide
theorem txts_op {e e' : Ev} {ws ws' : List Wd} (h : txtsP e ws = some (ws',e')) : e'.sd = e.sd:=by
  unfold txtsP at h
  repeat' (split at h)
  all_goals first | (injection h with h;injection h with h1 h2;subst h2;rfl) | cases h
theorem field_keeps {N : Nat} {c : UInt8} {ws ws' : List Wd} {e e' : Ev} (hlt : isLt c) (h : fieldP N c ws e = some (ws',e')) : (c ≠ 79 → e'.op = e.op) ∧ (c ≠ 83 → e'.sd = e.sd):=by
  rcases hlt with rfl | rfl | rfl | rfl | rfl | rfl | rfl | rfl
  · have h : (match numP 0 (N - 1) ws with | some (x,r) => some (r,{ e with a:=(x : Int) }) | none => none) = some (ws',e'):=h
    cases hq : numP 0 (N - 1) ws with
    | none => rw [hq] at h;cases h
    | some p =>
      rw [hq] at h;injection h with h
      injection h with h1 h2
      subst h2;exact ⟨fun _ => rfl,fun _ => rfl⟩
  · have h : (match numP 0 (N - 1) ws with | some (x,r) => if ¬ (x : Int) = e.a then some (r,{ e with b:=x }) else none | none => none) = some (ws',e'):=h
    cases hq : numP 0 (N - 1) ws with
    | none => rw [hq] at h;cases h
    | some p =>
      rw [hq] at h
      by_cases hx : ¬ (p.1 : Int) = e.a
      · have h : (if ¬ (p.1 : Int) = e.a then some (p.2,{ e with b:=(p.1 : Int) }) else none) = some (ws',e'):=h
        rw [if_pos hx] at h;injection h with h
        injection h with h1 h2
        subst h2;exact ⟨fun _ => rfl,fun _ => rfl⟩
      · have h : (if ¬ (p.1 : Int) = e.a then some (p.2,{ e with b:=(p.1 : Int) }) else none) = some (ws',e'):=h
        rw [if_neg hx] at h
        cases h
  · have h : (match numP 0 4611686018427387904 ws with | some (x,r) => some (r,{ e with a:=(x : Int) }) | none => none) = some (ws',e'):=h
    cases hq : numP 0 4611686018427387904 ws with
    | none => rw [hq] at h;cases h
    | some p =>
      rw [hq] at h;injection h with h
      injection h with h1 h2
      subst h2;exact ⟨fun _ => rfl,fun _ => rfl⟩
  · have h : (match numP 0 4611686018427387904 ws with | some (x,r) => some (r,{ e with n:=(x : Int) }) | none => none) = some (ws',e'):=h
    cases hq : numP 0 4611686018427387904 ws with
    | none => rw [hq] at h;cases h
    | some p =>
      rw [hq] at h;injection h with h
      injection h with h1 h2
      subst h2;exact ⟨fun _ => rfl,fun _ => rfl⟩
  · have h : (match numP 1 16 ws with | some (x,r) => some (r,{ e with n:=(x : Int) }) | none => none) = some (ws',e'):=h
    cases hq : numP 1 16 ws with
    | none => rw [hq] at h;cases h
    | some p =>
      rw [hq] at h;injection h with h
      injection h with h1 h2
      subst h2;exact ⟨fun _ => rfl,fun _ => rfl⟩
  · have h : (match txtP (if e.kd = 17 then 40000 else 4000) ws with | some (b,r) => some (r,{ e with bd:=b }) | none => none) = some (ws',e'):=h
    cases hq : txtP (if e.kd = 17 then 40000 else 4000) ws with
    | none => rw [hq] at h;cases h
    | some p =>
      rw [hq] at h;injection h with h
      injection h with h1 h2
      subst h2;exact ⟨fun _ => rfl,fun _ => rfl⟩
  · refine ⟨fun h => absurd rfl h,fun _ => ?_⟩
    have h : cmdP e ws = some (ws',e'):=h
    cases ws with
    | nil => cases h
    | cons o ts =>
      simp only [cmdP] at h
      split at h
      · exact (txts_op h).trans rfl
      · cases h
  · refine ⟨fun _ => ?_,fun h => absurd rfl h⟩
    rw [field_S_eq] at h;obtain ⟨p,_,hp⟩:=Option.map_eq_some_iff.1 h;injection hp with h1 h2
    subst h2
    rfl
theorem emu_len {w : World} {b : Nat} {m : Em} (h : EmU w b m) : m.sd.length = m.ns:=by
  have:=h.sid.1;simpa [ints] using this
theorem Rd.iter {W : World} {b r c k pos : Nat} {A : Option Addr} {nodes : Int} {ws : List Wd} {m : Em} {s : ByteArray} (h : Rd W b r A c nodes ws m) (hit : It W k s pos) (q : Nat) : Rd (putObj W k (.stringIter s q)) b r A c nodes ws m:=by
  refine ⟨hit.blk h.box q,?_,h.hc,⟨hit.row h.t.sid q,h.t.body.only (only_put _ _ _) ?_,h.t.hs,h.t.hb⟩,h.hr⟩
  · rcases h.wds with h1 | ⟨g,off,C,e,hb,hc⟩
    · exact .inl h1
    · exact .inr ⟨g,off,C,e,hit.blk hb q,hc⟩
  · rintro g cs fr hg rfl
    have h1:=hit;unfold It at h1;rw [h1] at hg
    cases hg
theorem It.fd {w w' : World} {b r k pos : Nat} {s : ByteArray} (h : It w k s pos) (ho : Only (FdF w b r) w w') (hr : k ≠ r) : It w' k s pos:=by
  refine (ho.block k h.lt ?_).trans h;rintro (e | ⟨_,cs,hb⟩)
  · exact hr e
  · exact absurd rfl (h.ne_blk hb)
theorem blk_fd {w w' : World} {b r g : Nat} {t : TypeId} {cs : Array Value} (h : Blk w g t cs) (ho : Only (FdF w b r) w w') (hr : g ≠ r) (ht : t ≠ 3) : Blk w' g t cs:=by
  refine h.only ho ?_;rintro (e | ⟨_,cs',hb⟩)
  · exact hr e
  · exact Blk.ne_ h hb ht rfl
def LtLoop (w : World) (b r ip N : Nat) (W0 : List Wd) (fl : List UInt8) (T : Option (List Wd × Ev)) (Z : Array Value) (wr : World) : Prop:=∃ (pos : Nat) (A : Option Addr) (c : Nat) (ws : List Wd) (m : Em),It wr ip (S fl) pos ∧ pos ≤ fl.length ∧ Rd wr b r A c (N : Int) ws m ∧
  Blk wr w.heap.size 33 Z ∧ Below w.heap.size w wr ∧ T = fieldsP N (fl.drop pos) ws m.ev ∧ (∃ l,W0 = l ++ ws) ∧ goodLs (fl.drop pos) ∧ (79 ∈ fl.drop pos → m.op = 0) ∧ (83 ∈ fl.drop pos → m.sd = [])
theorem good_tail {c : UInt8} {ls : List UInt8} (h : goodLs (c :: ls)) : goodLs ls ∧ isLt c ∧ (c = 79 → ¬ 79 ∈ ls) ∧ (c = 83 → ¬ 83 ∈ ls):=by
  obtain ⟨h1,h2,h3⟩:=h;refine ⟨⟨fun x hx => h1 x (by simp [hx]),?_,?_⟩,h1 c (by simp),?_,?_⟩
  · rw [List.count_cons] at h2;omega
  · rw [List.count_cons] at h3;omega
  · rintro rfl hm
    rw [List.count_cons_self] at h2;have:=List.count_pos_iff.2 hm;omega
  · rintro rfl hm
    rw [List.count_cons_self] at h3;have:=List.count_pos_iff.2 hm;omega
def finE : Option (List Wd × Ev) → Option Ev
  | some ([],e) => some e
  | _ => none
theorem evp_zero {w W : World} {Z : Array Value} {f : Ev} (hZ : Blk W w.heap.size 33 Z) (hl : Below w.heap.size w W) (h1 : f = Ev.zero) : EvP f w.heap.size w (.returned (.agg Em.zero.cs)) (W.setRow w.heap.size Em.zero.cs) :=
  evp_out (Nat.le_refl _) hZ (EmU.zero _ _) hl (zero_ev.trans h1.symm)
theorem pparse_ev (s : ByteArray) (nodes : Int) (w : World) (hs : s.size ≤ 30000000) (hT : OpT w) :
    Calls Tryz.prog 40 #[.string s,.int .i64 nodes] w fun e w' => EvP (lineE nodes s.data.toList) w.heap.size w e w':=by
  have HSP : Hid (∀ W,Calls Tryz.prog 61 #[.string s] W fun e w' => WdsP 159 pwc (wordsG false s.data.toList) W e w'):=fun W => split_any s W (by omega)
  have HSZ : Hid (∀ ws,wordsG false s.data.toList = some ws → ws.length ≤ 90000000 ∧ ∀ d ∈ ws,d.1.length ≤ 100000000):=fun ws h => by
    have:=wds_sz _ _ (Nat.le_refl _) ws h;rw [str_len] at this;exact ⟨by omega,fun d hd => by have:=this.2 d hd;omega⟩
  obtain ⟨ix,hix⟩ : ∃ ix,ix = Lib.indexByte s.data.toList 10:=⟨_,rfl⟩;have HIX : Hid (∀ W,Calls Tryz.prog 62 #[.string s,.int .u8 10] W fun e w' => e = .returned (.int .i64 ix) ∧ W = w'):=fun W => by rw [hix];exact index_any s 10 W
  have HNL : Hid (0 ≤ ix ↔ ∃ q ∈ s.data.toList,q.toNat = 10):=by rw [hix];exact nl_iff s
  have HT:=hide hT;have h0w : 1 < w.heap.size:=hT.lt;clear hix hT;go_enter Tryz.func40,Tryz.ntmps40;go_upto_region 1 with fail
  generalize hW1 : World.alloc w _ = W1
  obtain ⟨Z,hZs,hZ⟩ : ∃ Z : Array Value,Z.size = 13 ∧ Blk W1 w.heap.size 33 Z:=by
    rw [← hW1];exact ⟨_,rfl,Blk.new _ _ _⟩
  have HB : Hid (Below w.heap.size w W1):=by
    show Below _ _ _;rw [← hW1];exact (Below.refl _ _).alloc (Nat.le_refl _) _
  clear hW1;go_upto_region 2 with (go_at_call 61;refine (HSP.out _).mono ?_;rintro e w2 ⟨A,c,ws,ok,rfl,hrow,hb2,h1,h2⟩;have HO:=hide hrow;have HB2:=hide (HB.out.trans (hb2.mono HB.out.size));have HZ2:=hide (hZ.below hb2 hZ.lt);have H1:=hide h1;have H2:=hide h2;clear hrow hb2 h1 h2)
  clear hZ
  have HFAIL : Hid (lineE nodes s.data.toList = Ev.zero → ∀ (W : World),W = w2 → EvP (lineE nodes s.data.toList) w.heap.size w (.returned (.agg Em.zero.cs)) (W.setRow w.heap.size Em.zero.cs)):=fun h W e => by
    subst e;exact evp_zero HZ2.out HB2.out h
  cases ok with
  | false =>
    have HR : Hid (lineE nodes s.data.toList = Ev.zero):=by
      show _ = _;rw [lineE_progP,H2.out rfl]
      split <;> rfl
    go_wp2_with (refine wpList_put_at rfl 33 (.tmp 4) (.tmp 33) rfl (w.heap.size) 0 Em.zero.cs rfl rfl 33 Z HZ2.out (ld29 _ (em_size _)) (by rw [em_size,hZs];omega) (ecs_all Em.zero) _ (eput_zero Z hZs Em.zero) ?_);refine bodyPost_ret (results_29 rfl _ rfl (HZ2.out.row _)) rfl ?_;exact HFAIL.out HR.out _ rfl
  | true =>
    by_cases hlo : nodes < 1
    · have HR : Hid (lineE nodes s.data.toList = Ev.zero):=by
        show _ = _;rw [lineE_progP,if_neg (fun h => by omega)]
      go_wp2_with (refine wpList_put_at rfl 33 (.tmp 4) (.tmp 33) rfl (w.heap.size) 0 Em.zero.cs rfl rfl 33 Z HZ2.out (ld29 _ (em_size _)) (by rw [em_size,hZs];omega) (ecs_all Em.zero) _ (eput_zero Z hZs Em.zero) ?_);refine bodyPost_ret (results_29 rfl _ rfl (HZ2.out.row _)) rfl ?_;exact HFAIL.out HR.out _ rfl
    by_cases hhi : 16 < nodes
    · have HR : Hid (lineE nodes s.data.toList = Ev.zero):=by
        show _ = _;rw [lineE_progP,if_neg (fun h => by omega)]
      go_wp2_with (refine wpList_put_at rfl 33 (.tmp 4) (.tmp 33) rfl (w.heap.size) 0 Em.zero.cs rfl rfl 33 Z HZ2.out (ld29 _ (em_size _)) (by rw [em_size,hZs];omega) (ecs_all Em.zero) _ (eput_zero Z hZs Em.zero) ?_);refine bodyPost_ret (results_29 rfl _ rfl (HZ2.out.row _)) rfl ?_;exact HFAIL.out HR.out _ rfl
    by_cases hnl : 0 ≤ ix
    · have HR : Hid (lineE nodes s.data.toList = Ev.zero):=by
        show _ = _;rw [lineE_progP,if_neg];rintro ⟨_,_,h⟩;obtain ⟨q,hq,e⟩:=HNL.out.1 hnl;exact h q hq e
      go_wp2_with (first
        | (go_at_call 62;refine (HIX.out _).mono ?_;rintro e w3 ⟨rfl,rfl⟩)
        | (refine wpList_put_at rfl 33 (.tmp 4) (.tmp 33) rfl (w.heap.size) 0 Em.zero.cs rfl rfl 33 Z HZ2.out (ld29 _ (em_size _)) (by rw [em_size,hZs];omega) (ecs_all Em.zero) _ (eput_zero Z hZs Em.zero) ?_))
      refine bodyPost_ret (results_29 rfl _ rfl (HZ2.out.row _)) rfl ?_;exact HFAIL.out HR.out _ rfl
    obtain ⟨N,hN⟩ : ∃ N : Nat,nodes = N:=⟨nodes.toNat,by omega⟩;have hN16 : 1 ≤ N ∧ N ≤ 16:=by omega
    have HR : Hid (lineE nodes s.data.toList = (progP N ws).getD Ev.zero):=by
      show _ = _;rw [lineE_progP,if_pos,H1.out rfl,hN]
      · rfl
      · refine ⟨by omega,by omega,fun q hq e => hnl (HNL.out.2 ⟨q,hq,e⟩)⟩
    subst hN;obtain ⟨hwl,hwz⟩:=HSZ.out ws (H1.out rfl);have HWZ:=hide hwz
    have hAc : ws.length ≤ c:=by
      obtain ⟨A',c',hv,_,hc⟩:=own_slice HO.out;injection hv with e1 e2 e3
      omega
    have HRD0 : Hid (Rd (w2.alloc (.cells (rdC A ws.length c (N : Int) Em.zero) 126)) w.heap.size w2.heap.size A c (N : Int) ws Em.zero) :=
      ⟨Blk.new _ _ _,(PWd.of_own HO.out).step ((Below.refl _ _).alloc (Nat.le_refl _) _),hAc,EmU.zero _ _,HB2.out.size⟩
    clear hlo hwz;go_upto_region 5 with (go_at_call 62;refine (HIX.out _).mono ?_;rintro e w3 ⟨rfl,rfl⟩)
    generalize hW3 : World.alloc w2 _ = W3
    have HR3 : Hid (Rd W3 w.heap.size w2.heap.size A c (N : Int) ws Em.zero):=by
      show Rd _ _ _ _ _ _ _ _;rw [← hW3];exact HRD0.out
    have HB3 : Hid (Below w.heap.size w W3):=by
      show Below _ _ _;rw [← hW3];exact HB2.out.alloc HB2.out.size _
    have HZ3 : Hid (Blk W3 w.heap.size 33 Z):=by
      show Blk _ _ _ _;rw [← hW3];exact HZ2.out.alloc _
    have hzr : w.heap.size ≠ w2.heap.size:=Nat.ne_of_lt HZ2.out.lt;obtain ⟨r,hr⟩ : ∃ r,r = w2.heap.size:=⟨_,rfl⟩;rw [← hr] at HR3 hzr ⊢;clear hW3 HRD0 HFAIL HZ2 hr;have HPL:=hide (plain_any ws w.heap.size r A c (N : Int) Em.zero W3 HR3.out hwl);go_upto_region 6 with (go_at_call 63;refine HPL.out.mono ?_;rintro e w4 ⟨A4,c4,t,ok4,ws4,rfl,hr4,ho4,h3,h4⟩;have HR4:=hide hr4;have HB4:=hide (HB3.out.trans (HR3.out.low ho4));have HZ4:=hide (HZ3.out.only ho4 (fun e => hzr e));have H3:=hide h3;have H4:=hide h4;clear hr4 ho4 h3 h4)
    have htz : t.length ≤ 100000000:=by
      cases ok4 with
      | true => exact HWZ.out (t,false) (by rw [H3.out rfl];simp)
      | false => rw [(H4.out rfl).1];simp
    have HFO:=hide (forms_any (H:=Unit) w4);refine wp_region_lit ?_;refine wpList_step (fun K hK => ?_);rw [if_pos (by rfl)];go_simp;go_at_call 59;refine HFO.out.mono ?_;rintro e w5 ⟨rfl,hmap,hb5⟩;have HR5:=hide (HR4.out.step hb5);have HB5:=hide (HB4.out.trans (hb5.mono HB4.out.size));have HZ5:=hide (HZ4.out.below hb5 HZ4.out.lt);have HMP:=hide hmap;refine hK _ _ ?_;clear hK K hb5 hmap HFO;try simp only [Act.put,aSt,aSz,aSs]
    refine wpList_value rfl (.string (S t)) (by go_simp) ?_;try simp only [Act.put,aSt,aSz,aSs]
    refine wpList_lookup_own_ok w5 rfl _ _ 115 rfl 9 118 (Maps.string_keyed Tryz.underlying9) Tryz.underlying115 (formElem (H:=Unit)) (z:=.agg #[.int .i64 0,.string ⟨#[]⟩]) (Tryz.zeroValue118 w5) (.agg [.lit (.int .i64 0),.lit (.string [])]) [] rfl w4.heap.size 19 formsD rfl HMP.out (.string (S t)) (.string t) rfl (key_str (S t) (by rw [S_size];unfold maxLen;omega)) ?_;intro v ps hv;rw [forms_at] at hv;rw [forms_has]
    cases hff : formRows.find? (fun f => f.1 == t) with
    | none =>
      rw [hff] at hv;have hvv:=formElem_inv hv;subst hvv
      have HRN : Hid (lineE (N : Int) s.data.toList = Ev.zero):=by
        show _ = _;rw [HR.out]
        have : progP N ws = none:=by
          cases ok4 with
          | false =>
            obtain ⟨_,_,h⟩:=H4.out rfl
            cases ws with
            | nil => rfl
            | cons d l =>
              simp only [progP];rw [if_pos (h d l rfl)]
          | true =>
            rw [H3.out rfl];simp only [progP];rw [if_neg (by decide),hff]
        rw [this]
        rfl
      have HZA : Hid (∀ o,Blk (w5.alloc o) w.heap.size 33 Z):=fun o => HZ5.out.alloc o
      have HBA : Hid (∀ o,Below w.heap.size w (w5.alloc o)):=fun o => HB5.out.alloc HB5.out.size o
      clear hff hv;try simp only [Act.put,aSt,aSz,aSs]
      go_upto_region 8 with fail
      generalize hW6 : World.alloc w5 _ = W6;have HZ6 : Hid (Blk W6 w.heap.size 33 Z):=by show Blk _ _ _ _;rw [← hW6];exact HZA.out _
      have HB6 : Hid (Below w.heap.size w W6):=by show Below _ _ _;rw [← hW6];exact HBA.out _
      clear hW6;go_wp2_with (refine wpList_put_at rfl 33 (.tmp 4) (.tmp 51) rfl (w.heap.size) 0 Em.zero.cs rfl rfl 33 Z HZ6.out (ld29 _ (em_size _)) (by rw [em_size,hZs];omega) (ecs_all Em.zero) _ (eput_zero Z hZs Em.zero) ?_);refine bodyPost_ret (results_29 rfl _ rfl (HZ6.out.row _)) rfl ?_;exact evp_zero HZ6.out HB6.out HRN.out
    | some f =>
      rw [hff] at hv;have hvv:=formElem_inv (kd:=f.2.1) (ls:=f.2.2) hv;subst hvv
      have hok : ok4 = true:=by
        cases ok4 with
        | true => rfl
        | false =>
          exfalso
          rw [(H4.out rfl).1] at hff;have : formRows.find? (fun f => f.1 == ([] : List UInt8)) = none:=by decide
          rw [this] at hff
          cases hff
      have HWS : Hid (ws = (t,false) :: ws4):=H3.out hok
      have HPF : Hid (progP N ws = progF N f.2.1 f.2.2 ws4):=by
        show _ = _;rw [HWS.out];simp only [progP];rw [if_neg (by decide),hff]
      have HGL : Hid (goodLs f.2.2):=forms_good f (List.mem_of_find?_eq_some hff);obtain ⟨fk,hfk⟩ : ∃ fk,fk = f.2.1:=⟨_,rfl⟩;obtain ⟨fl,hfl⟩ : ∃ fl,fl = f.2.2:=⟨_,rfl⟩;rw [← hfk,← hfl] at HPF;rw [← hfl] at HGL;rw [← hfk,← hfl];have HZA : Hid (∀ o,Blk (w5.alloc o) w.heap.size 33 Z):=fun o => HZ5.out.alloc o
      have HBA : Hid (∀ o,Below w.heap.size w (w5.alloc o)):=fun o => HB5.out.alloc HB5.out.size o
      have HRA : Hid (∀ o,Rd (w5.alloc o) w.heap.size r A4 c4 (N : Int) ws4 Em.zero):=fun o => HR5.out.step ((Below.refl _ _).alloc (Nat.le_refl _) o)
      clear hff hv hok hfk hfl;try simp only [Act.put,aSt,aSz,aSs]
      go_upto_region 9 with fail
      obtain ⟨W6,hW6⟩ : ∃ W6,W6 = w5.alloc (.cells #[.int .i64 fk,.string (S fl)] 118):=⟨_,rfl⟩;have HR6 : Hid (Rd W6 w.heap.size r A4 c4 (N : Int) ws4 Em.zero):=by show Rd _ _ _ _ _ _ _ _;rw [hW6];exact HRA.out _
      have HZ6 : Hid (Blk W6 w.heap.size 33 Z):=by show Blk _ _ _ _;rw [hW6];exact HZA.out _
      have HB6 : Hid (Below w.heap.size w W6):=by show Below _ _ _;rw [hW6];exact HBA.out _
      have HP6 : Hid (Blk W6 w5.heap.size 118 #[.int .i64 fk,.string (S fl)]):=by show Blk _ _ _ _;rw [hW6];exact Blk.new _ _ _
      rw [← hW6];obtain ⟨pf,hpf⟩ : ∃ pf,pf = w5.heap.size:=⟨_,rfl⟩;rw [← hpf] at HP6 ⊢;clear hW6 hpf HRA HZA HBA HMP HR5 HB5 HZ5;have q0 : W6.cell? ⟨pf,0,none⟩ = some (.int .i64 fk):=HP6.out.cell 0;have c9:=HR6.out.ck;have f9:=Blk.frozen HR6.out.box 2;go_upto_region 10 with fail
      obtain ⟨W7,hW7⟩ : ∃ W7,W7 = W6.setCell ⟨r,2,none⟩ (.int .i64 fk):=⟨_,rfl⟩
      have HR7 : Hid (Rd W7 w.heap.size r A4 c4 (N : Int) ws4 { Em.zero with kd:=fk }):=by
        show Rd _ _ _ _ _ _ _ _;rw [hW7];exact HR6.out.set 2 _ (rset_k _ _ _ _ _ _) (emu_with (EmU.zero _ _) rfl rfl rfl rfl rfl rfl rfl)
      have HZ7 : Hid (Blk W7 w.heap.size 33 Z):=by
        show Blk _ _ _ _;rw [hW7];exact HZ6.out.far (fun e => hzr e) _
      have HB7 : Hid (Below w.heap.size w W7):=by
        show Below _ _ _;rw [hW7];exact HB6.out.trans (HR6.out.low (only_setCell0 _ _ _ _))
      have HP7 : Hid (Blk W7 pf 118 #[.int .i64 fk,.string (S fl)]):=by
        show Blk _ _ _ _;rw [hW7];exact HP6.out.far (fun e => by have e : pf = r:=e;have h1:=HP6.out;rw [e] at h1;exact Blk.ne_ h1 HR6.out.box (by decide) rfl) _
      rw [← hW7];clear hW7 q0 c9 f9 HR6 HZ6 HB6 HP6;have q1 : W7.cell? ⟨pf,1,none⟩ = some (.string (S fl)):=HP7.out.cell 1;obtain ⟨T,hT⟩ : ∃ T,T = fieldsP N fl ws4 { Ev.zero with kd:=fk }:=⟨_,rfl⟩
      have HLE : Hid (lineE (N : Int) s.data.toList = (finE T).getD Ev.zero):=by
        show _ = _;rw [HR.out,HPF.out,hT]
        rfl
      have hb8 : Below W7.heap.size W7 (W7.iter (S fl) 0):=(Below.refl _ _).alloc (Nat.le_refl _) _
      have HL0 : Hid (LtLoop w w.heap.size r W7.heap.size N ws4 fl T Z (W7.iter (S fl) 0)) :=
        ⟨0,A4,c4,ws4,_,It.new _ _,Nat.zero_le _,HR7.out.step hb8,HZ7.out.below hb8 HZ7.out.lt,HB7.out.trans (hb8.mono HB7.out.size),hT,⟨[],rfl⟩,HGL.out,fun _ => rfl,fun _ => rfl⟩
      obtain ⟨ip,hip⟩ : ∃ ip,ip = W7.heap.size:=⟨_,rfl⟩;have hipr : ip ≠ r:=by have:=HR7.out.box.lt;omega
      go_upto_region 11 with fail
      rw [← hip] at HL0 ⊢;have HL00:=hide HL0.out;have hipw : w.heap.size ≤ ip:=by have:=HB7.out.size;omega
      clear q1 hT hb8 hip;go_loopw [12] (fun _ wr => LtLoop w w.heap.size r ip N ws4 fl T Z wr) (fun _ wr => fl.length - wr.iterPos ip)
      case atStart => exact HL00.out
      case round =>
        clear HL0 HL00;unfold LtLoop at hrel;obtain ⟨pos,A8,c8,ws8,m8,hit,hpos,hrd,hz8,hlow,hT8,hsuf,hgood,hop8,hsd8⟩:=hrel;have HIT:=hide hit;have HR8:=hide hrd;have HZ8:=hide hz8;have HB8:=hide hlow;have HT8:=hide hT8;have HSU:=hide hsuf;have HGD:=hide hgood;have HOP:=hide hop8;have HSD:=hide hsd8;clear hit hrd hz8 hlow hT8 hsuf hgood hop8 hsd8
        have hsz8 : ws8.length ≤ 90000000:=by
          obtain ⟨l,hl⟩:=HSU.out;have h1 : ws.length = ws4.length + 1:=by rw [HWS.out];rfl
          have h2 : ws4.length = l.length + ws8.length:=by rw [hl,List.length_append]
          omega
        have HWZ8 : Hid (∀ d ∈ ws8,d.1.length ≤ 100000000):=fun d hd => by
          obtain ⟨l,hl⟩:=HSU.out;refine HWZ.out d ?_;rw [HWS.out,hl];exact List.mem_cons_of_mem _ (List.mem_append_right _ hd)
        by_cases hp : pos < fl.length
        · obtain ⟨ch,hch⟩ : ∃ ch,fl[pos]? = some ch:=⟨_,List.getElem?_eq_getElem hp⟩
          have HDR : Hid (fl.drop pos = ch :: fl.drop (pos + 1)):=by
            show _ = _;obtain ⟨h1,h2⟩:=List.getElem?_eq_some_iff.1 hch;rw [List.drop_eq_getElem_cons h1,h2]
          have hg2:=good_tail (c:=ch) (ls:=fl.drop (pos + 1)) (by rw [← HDR.out];exact HGD.out);have hps : pos < (S fl).size:=by rw [S_size];exact hp
          have hdec : Utf8.decode (S fl) pos = (ch.toNat,1):=by
            rw [decode_dropL (S fl) pos hps,S_data,HDR.out];exact rune_low _ (lt_low hg2.2.1)
          obtain ⟨W9,hW9⟩ : ∃ W9,W9 = putObj wr ip (.stringIter (S fl) (pos + 1)):=⟨_,rfl⟩
          have hnx : ∀ ty,(Instr.next (.pointer (some ⟨ip,0,none⟩)) true ty).run Tryz.prog wr = .ok (.tuple #[.bool true,.int .i64 pos,.int .i32 (ch.toNat : Int)]) W9:=fun ty => by
            rw [run_next_at ty HIT.out hps,hdec,hW9]
          have HIT9 : Hid (It W9 ip (S fl) (pos + 1)):=by show It _ _ _ _;rw [hW9];exact HIT.out.put _
          have HR9 : Hid (Rd W9 w.heap.size r A8 c8 (N : Int) ws8 m8):=by show Rd _ _ _ _ _ _ _ _;rw [hW9];exact HR8.out.iter HIT.out _
          have HZ9 : Hid (Blk W9 w.heap.size 33 Z):=by show Blk _ _ _ _;rw [hW9];exact HIT.out.blk HZ8.out _
          have HB9 : Hid (Below w.heap.size w W9):=by show Below _ _ _;rw [hW9];exact It.low HB8.out hipw HB8.out.size _
          have hOT : OpT W9:=HT.out.below HB9.out h0w
          have HFD:=hide (field_any ch hg2.2.1 N ws8 w.heap.size r A8 c8 m8 W9 HR9.out hN16 hsz8 HWZ8.out hOT h0w (fun e => HOP.out (by rw [HDR.out,e];simp)) (fun e => by
            have h1:=emu_len HR9.out.t;rw [HSD.out (by rw [HDR.out,e];simp)] at h1;simp at h1;omega))
          have HTE : Hid (T = match fieldP N ch ws8 m8.ev with | some (r,e') => fieldsP N (fl.drop (pos + 1)) r e' | none => none):=by
            show _ = _;rw [HT8.out,HDR.out]
            rfl
          have hip9 : wr.iterPos ip = pos:=iterPos_at HIT.out;have HIP9:=hide hip9;clear hch hdec hW9 hOT hip9;go_upto_region 13 with fail
          clear hnx;go_upto_region 14 with (go_at_call 64;refine HFD.out.mono ?_;rintro e w10 ⟨A10,c10,ok10,ws10,m10,rfl,hr10,ho10,h5,h6⟩;have HR10:=hide hr10;have HIT10:=hide (HIT9.out.fd ho10 hipr);have HZ10:=hide (blk_fd HZ9.out ho10 hzr (by decide));have HB10:=hide (HB9.out.trans (fd_low ho10 HB9.out.size HR9.out.hr));have H5:=hide h5;have H6:=hide h6;clear hr10 ho10 h5 h6)
          case roundEnd =>
            rename_i h10
            have hok : ok10 = true:=by
              cases ok10 with
              | false => cases h10
              | true => rfl
            obtain ⟨hf,l,hl⟩:=H5.out hok;have hk:=field_keeps hg2.2.1 hf
            have HL9 : Hid (LtLoop w w.heap.size r ip N ws4 fl T Z w10):=by
              refine ⟨pos + 1,A10,c10,ws10,m10,HIT10.out,by omega,HR10.out,HZ10.out,HB10.out,?_,?_,hg2.1,?_,?_⟩
              · rw [HTE.out,hf]
              · obtain ⟨l2,hl2⟩:=HSU.out
                exact ⟨l2 ++ l,by rw [hl2,hl,List.append_assoc]⟩
              · intro h79
                have h1 : ch ≠ 79:=fun e => hg2.2.2.1 e h79
                have h2:=hk.1 h1;have h3 : m8.op = 0:=HOP.out (by rw [HDR.out];exact List.mem_cons_of_mem _ h79);exact h2.trans h3
              · intro h83
                have h1 : ch ≠ 83:=fun e => hg2.2.2.2 e h83
                have h2:=hk.2 h1;have h3 : m8.sd = []:=HSD.out (by rw [HDR.out];exact List.mem_cons_of_mem _ h83);exact h2.trans h3
            have hm1 : w10.iterPos ip = pos + 1:=iterPos_at HIT10.out;have HM1:=hide hm1;clear hf hk hl hm1;refine ⟨HL9.out,?_⟩;rw [HM1.out,HIP9.out];omega
          have HRN : Hid (ok10 = false → lineE (N : Int) s.data.toList = Ev.zero):=fun h => by
            rw [HLE.out,HTE.out,H6.out h]
            rfl
          cases ok10 with
          | false =>
            go_wp2_with (refine wpList_put_at rfl 33 (.tmp 4) (.tmp 68) rfl (w.heap.size) 0 Em.zero.cs rfl rfl 33 Z HZ10.out (ld29 _ (em_size _)) (by rw [em_size,hZs];omega) (ecs_all Em.zero) _ (eput_zero Z hZs Em.zero) ?_);refine bodyPost_ret (results_29 rfl _ rfl (HZ10.out.row _)) rfl ?_;exact evp_zero HZ10.out HB10.out (HRN.out (by first | rfl | trivial))
          | true => first | contradiction | go_wp2_with fail
        · have hps : ¬ pos < (S fl).size:=by rw [S_size];exact hp
          have hnx : ∀ ty,(Instr.next (.pointer (some ⟨ip,0,none⟩)) true ty).run Tryz.prog wr = .ok (.tuple #[.bool false]) wr:=fun ty => run_next_no ty HIT.out hps
          have HTE : Hid (T = some (ws8,m8.ev)):=by
            show _ = _;rw [HT8.out,List.drop_eq_nil_of_le (by omega)]
            rfl
          have c0:=HR8.out.c0;clear hps hp
          by_cases hw : ws8 = []
          · have HRN : Hid (m8.ev = lineE (N : Int) s.data.toList):=by
              show _ = _;rw [HLE.out,HTE.out,hw]
              rfl
            have g1 : ws8.length = 0:=by rw [hw];rfl
            have g2 : ¬ (0 : Int) < (ws8.length : Int):=by omega
            clear hw;go_upto_region 17 with fail
            refine wp_region_lit ?_;refine wpList_value rfl (.pointer (some ⟨r,0,none⟩)) (by go_simp) ?_;try simp only [Act.put,aSt,aSz,aSs]
            refine wpList_value rfl (.pointer (some ⟨r,0,none⟩)) (by go_simp) ?_;try simp only [Act.put,aSt,aSz,aSs]
            refine wpList_value rfl (.pointer (some ⟨r,2,none⟩)) (by go_simp) ?_;try simp only [Act.put,aSt,aSz,aSs]
            refine wpList_value rfl (.agg m8.cs) (ex_load 33 (.tmp 78) rfl ⟨r,2,none⟩ rfl m8.cs _ Tryz.underlying33 rfl (ld29 _ (em_size _)) HR8.out.ev) ?_;try simp only [Act.put,aSt,aSz,aSs]
            go_wp2_with (refine wpList_put_at rfl 33 (.tmp 4) (.tmp 79) rfl (w.heap.size) 0 m8.cs rfl rfl 33 Z HZ8.out (ld29 _ (em_size _)) (by rw [em_size,hZs];omega) (ecs_all m8) _ (eput_zero Z hZs m8) ?_);refine bodyPost_ret (results_29 rfl _ rfl (HZ8.out.row _)) rfl ?_;exact evp_out (Nat.le_refl _) HZ8.out HR8.out.t HB8.out HRN.out
          · have HRN : Hid (lineE (N : Int) s.data.toList = Ev.zero):=by
              show _ = _;rw [HLE.out,HTE.out]
              cases ws8 with
              | nil => exact absurd rfl hw
              | cons a l => rfl
            have g1 : ¬ ws8.length = 0:=fun e => hw (List.length_eq_zero_iff.1 e)
            have g2 : (0 : Int) < (ws8.length : Int):=by omega
            clear hw;go_wp2_with (refine wpList_put_at rfl 33 (.tmp 4) (.tmp 75) rfl (w.heap.size) 0 Em.zero.cs rfl rfl 33 Z HZ8.out (ld29 _ (em_size _)) (by rw [em_size,hZs];omega) (ecs_all Em.zero) _ (eput_zero Z hZs Em.zero) ?_);refine bodyPost_ret (results_29 rfl _ rfl (HZ8.out.row _)) rfl ?_;exact evp_zero HZ8.out HB8.out HRN.out
end Go.Proofs.YtcibcmfaebbhnaaGreatDoor
