/-
  The program's quote. (Printed by wip/tools/mkquq.py.) The program's ask: a command's words. (Printed by wip/tools/mkpak.py.)
-/
import Derived.Test.YtcibcmfaebbhnaaGreatDoorPRead
import Derived.Test.YtcibcmfaebbhnaaGreatDoorPPcm
import Derived.Test.YtcibcmfaebbhnaaGreatDoorPWri
import Derived.Test.YtcibcmfaebbhnaaGreatDoorPWords
set_option linter.unusedSimpArgs false
set_option linter.unusedVariables false
set_option maxRecDepth 100000
set_option maxHeartbeats 3000000

namespace Go.Proofs.YtcibcmfaebbhnaaGreatDoor
open Go.RowKit Go.WideShapes Go.ChangeShapes Q
theorem own_of_alloc (w : World) (e : TypeId) (xs : List Value) (n : Nat) (h : xs.length = n) (hn : n ≤ maxLen) : (w.alloc (.cells xs.toArray e)).ownsRow w.heap.size e 1 (.slice (some ⟨w.heap.size,0,none⟩) n n) n xs:=by
 refine ⟨by rw [h,Nat.mul_one],.inr ⟨w.heap.size,n,xs.toArray,rfl,Nat.le_refl _,Blk.new w _ _,Nat.le_refl _,hn,by simpa using h,?_⟩⟩;rw [Nat.mul_one,List.take_of_length_le (by simp;omega)]
theorem quote_any (s : ByteArray) (w : World) (hs : s.size ≤ 1000000000000) :
  Calls Tryz.prog 58 #[.string s] w fun e w' => e = .returned (.string (S (quoteL s.data.toList))) ∧ Below w.heap.size w w':=by
 obtain ⟨i5,hi5,hz5,hs5,hb5⟩:=info_parts info5;have I5:=hide hi5;clear hi5;have HO1 : Hid ((w.alloc (.cells #[.int .u8 34] 5)).ownsRow w.heap.size 5 1 (.slice (some ⟨w.heap.size,0,none⟩) 1 1) 1 (Lib.byteCells [34])):=own_of_alloc w 5 [.int .u8 34] 1 rfl (by unfold maxLen;omega);have HB1 : Hid (Below w.heap.size w (w.alloc (.cells #[.int .u8 34] 5))):=(Below.refl _ _).alloc (Nat.le_refl _) _;go_enter Tryz.func58,Tryz.ntmps58;go_upto_region 3 with fail
 go_loopw [3,4,5,9] (fun v i4 cc i9 wr => ∃ (k g cap : Nat) (out : List UInt8),k ≤ s.size ∧ i9 = .int .i64 k ∧ out = [34] ++ (s.data.toList.take k).flatMap qb ∧ v = .slice (some ⟨g,0,none⟩) out.length cap ∧ Hid (wr.ownsRow w.heap.size 5 1 (.slice (some ⟨g,0,none⟩) out.length cap) out.length (Lib.byteCells out)) ∧ Hid (Below w.heap.size w wr)) (fun _ _ _ i _ => s.size - (intOf i).toNat)
 case atStart => exact ⟨0,w.heap.size,1,[34],Nat.zero_le _,rfl,rfl,rfl,HO1.out,HB1.out⟩
 case round =>
  obtain ⟨k,g,cap,out,hk,rfl,hout,rfl,hown,hb⟩:=hrel;have HOUT:=hide hout
  have hol : out.length ≤ 4000000000001:=by
   have h1:=qbs_len (s.data.toList.take k);rw [List.length_take,str_len] at h1;have h2 : out.length = 1 + ((s.data.toList.take k).flatMap qb).length:=by rw [hout,List.length_append];rfl
   omega
  have hsb : w.heap.size ≤ wr.heap.size:=hb.out.size;clear hout HO1 HB1
  by_cases hlt : k < s.size
  ·obtain ⟨c,hc⟩ : ∃ c,c = s[k]:=⟨_,rfl⟩
   have hcc:=hc.symm;have hqt:=qb_take hlt;rw [hcc] at hqt;have HQT:=hide hqt;have c256 : c.toNat < 256:=c.toNat_lt;have k0 : (0 : Int) ≤ (k : Int):=by omega
   have ks : (k : Int) < (s.size : Int):=by omega
   clear hqt hc
   by_cases h1 : c.toNat = 34 ∨ c.toNat = 92
   ·have HQ : Hid (qb c = [92,c]):=if_pos h1
    by_cases h34 : c.toNat = 34
    ·have e1 : ((c.toNat : Int) == 34) = true:=by rw [beq_iff_eq];omega
     clear h1 h34;go_wp2_with (at_builtin;refine wpList_push rfl (.tmp 26) (.tmp 28) _ rfl w.heap.size 5 i5 _ 1 1 Tryz.underlying29 I5.out hz5 hs5 hb5 rfl (by omega) (.slice (some ⟨g,0,none⟩) out.length cap) out.length _ rfl hown.out 2 2 #[.int .u8 92,.int .u8 (c.toNat : Int)] rfl rfl (by simp [Value.oneCell']) (by omega) (by unfold maxLen;omega) (by omega) hsb ?_;intro g7 c7 w7 hown7 _ hb7 _ _ _;have HO7 : Hid (w7.ownsRow w.heap.size 5 1 (.slice (some ⟨g7,0,none⟩) (out ++ qb c).length c7) (out ++ qb c).length (Lib.byteCells (out ++ qb c))):=(by rw [HQ.out,List.length_append,Lib.byteCells_append];exact hown7);have HL7 : Hid ((out ++ qb c).length = out.length + 2):=(by rw [HQ.out,List.length_append];rfl);have HB7 : Hid (Below w.heap.size w w7):=hb.out.trans hb7;clear hown7 hb7);go_roundw
     case rel => exact ⟨k + 1,g7,c7,out ++ qb c,by omega,by go_num,by rw [HOUT.out,List.append_assoc,HQT.out],by rw [HL7.out],HO7.out,HB7.out⟩
     case measure => simp [intOf];omega
    ·have e1 : ((c.toNat : Int) == 34) = false:=by rw [beq_eq_false_iff_ne];omega
     have e2 : ((c.toNat : Int) == 92) = true:=by rw [beq_iff_eq];omega
     clear h1 h34;go_wp2_with (at_builtin;refine wpList_push rfl (.tmp 26) (.tmp 28) _ rfl w.heap.size 5 i5 _ 1 1 Tryz.underlying29 I5.out hz5 hs5 hb5 rfl (by omega) (.slice (some ⟨g,0,none⟩) out.length cap) out.length _ rfl hown.out 2 2 #[.int .u8 92,.int .u8 (c.toNat : Int)] rfl rfl (by simp [Value.oneCell']) (by omega) (by unfold maxLen;omega) (by omega) hsb ?_;intro g7 c7 w7 hown7 _ hb7 _ _ _;have HO7 : Hid (w7.ownsRow w.heap.size 5 1 (.slice (some ⟨g7,0,none⟩) (out ++ qb c).length c7) (out ++ qb c).length (Lib.byteCells (out ++ qb c))):=(by rw [HQ.out,List.length_append,Lib.byteCells_append];exact hown7);have HL7 : Hid ((out ++ qb c).length = out.length + 2):=(by rw [HQ.out,List.length_append];rfl);have HB7 : Hid (Below w.heap.size w w7):=hb.out.trans hb7;clear hown7 hb7);go_roundw
     case rel => exact ⟨k + 1,g7,c7,out ++ qb c,by omega,by go_num,by rw [HOUT.out,List.append_assoc,HQT.out],by rw [HL7.out],HO7.out,HB7.out⟩
     case measure => simp [intOf];omega
   ·have e1 : ((c.toNat : Int) == 34) = false:=by rw [beq_eq_false_iff_ne];omega
    have e2 : ((c.toNat : Int) == 92) = false:=by rw [beq_eq_false_iff_ne];omega
    by_cases h2 : c.toNat < 32
    ·have d1 : decide ((c.toNat : Int) < 32) = true:=decide_eq_true (by omega)
     have HQ : Hid (qb c = [92,120,hexd (c.toNat / 16),hexd (c.toNat % 16)]):=by
      show _ = _;unfold qb;rw [if_neg h1,if_pos (.inl h2)]
     clear h1;obtain ⟨q,hq⟩ : ∃ q,q = c.toNat / 16:=⟨_,rfl⟩;obtain ⟨r,hr⟩ : ∃ r,r = c.toNat % 16:=⟨_,rfl⟩;have hqi : (c.toNat : Int) / 16 = (q : Int):=by omega
     have hand : bits BinOp.and IntKind.u8 (c.toNat : Int) 15 = (r : Int):=by rw [hr];exact and15 c256
     have q16 : q < 16:=by omega
     have r16 : r < 16:=by omega
     have q16i : (q : Int) < 16:=by omega
     have r16i : (r : Int) < 16:=by omega
     have hDq:=fun h' => hexd_at q16 h'
     have hDr:=fun h' => hexd_at r16 h'
     rw [← hq,← hr] at HQ;clear hq hr;go_upto_region 10 with fail
     go_region_law (refine step_push _ (by rfl) (.tmp 37) (.tmp 44) _ (by rfl) w.heap.size 5 i5 _ 1 1 Tryz.underlying29 I5.out hz5 hs5 hb5 (by rfl) (by omega) (.slice (some ⟨g,0,none⟩) out.length cap) out.length (Lib.byteCells out) (by rfl) ?_ wr.heap.size 4 4 #[.int .u8 92,.int .u8 120,.int .u8 ((hexd q).toNat : Int),.int .u8 ((hexd r).toNat : Int)] (by rfl) ?_ (by rfl) ?_ (by omega) ?_ ?_ ?_ ?_;exact hown.out.alloc _;exact Blk.new wr _ _;(intro u hu;simp at hu;rcases hu with rfl | rfl | rfl | rfl <;> rfl);(unfold maxLen;omega);omega;(simp;omega);intro g7 c7 w7 hown7 hgr7 _ _)
     all_goals
      have HO7 : Hid (w7.ownsRow w.heap.size 5 1 (.slice (some ⟨g7,0,none⟩) (out ++ qb c).length c7) (out ++ qb c).length (Lib.byteCells (out ++ qb c))):=by
       rw [HQ.out,List.length_append,Lib.byteCells_append];exact hown7
      have HL7 : Hid ((out ++ qb c).length = out.length + 4):=by rw [HQ.out,List.length_append];rfl
      have HB7 : Hid (Below w.heap.size w w7):=by
       first
       | exact ((hb.out.alloc hsb _).drew).grown hgr7 (by simp;omega) (fun q hq => (hown.out.lt q hq).1)
       | exact ((hb.out.drew.alloc hsb _)).grown hgr7 (by simp;omega) (fun q hq => (hown.out.lt q hq).1)
      clear hown7 hgr7;go_wp2_with fail

      go_roundw
      case rel => exact ⟨k + 1,g7,c7,out ++ qb c,by omega,by go_num,by rw [HOUT.out,List.append_assoc,HQT.out],by rw [HL7.out],HO7.out,HB7.out⟩
      case measure => simp [intOf];omega
    ·have d1 : decide ((c.toNat : Int) < 32) = false:=decide_eq_false (by omega)
     have d1n : ¬ c.toNat < 32:=h2
     by_cases h3 : 126 < c.toNat
     ·have d2 : decide ((126 : Int) < (c.toNat : Int)) = true:=decide_eq_true (by omega)
      have HQ : Hid (qb c = [92,120,hexd (c.toNat / 16),hexd (c.toNat % 16)]):=by
       show _ = _;unfold qb;rw [if_neg h1,if_pos (.inr h3)]
      clear h1 h2;obtain ⟨q,hq⟩ : ∃ q,q = c.toNat / 16:=⟨_,rfl⟩;obtain ⟨r,hr⟩ : ∃ r,r = c.toNat % 16:=⟨_,rfl⟩;have hqi : (c.toNat : Int) / 16 = (q : Int):=by omega
      have hand : bits BinOp.and IntKind.u8 (c.toNat : Int) 15 = (r : Int):=by rw [hr];exact and15 c256
      have q16 : q < 16:=by omega
      have r16 : r < 16:=by omega
      have q16i : (q : Int) < 16:=by omega
      have r16i : (r : Int) < 16:=by omega
      have hDq:=fun h' => hexd_at q16 h'
      have hDr:=fun h' => hexd_at r16 h'
      rw [← hq,← hr] at HQ;clear hq hr;go_upto_region 10 with fail
      go_region_law (refine step_push _ (by rfl) (.tmp 37) (.tmp 44) _ (by rfl) w.heap.size 5 i5 _ 1 1 Tryz.underlying29 I5.out hz5 hs5 hb5 (by rfl) (by omega) (.slice (some ⟨g,0,none⟩) out.length cap) out.length (Lib.byteCells out) (by rfl) ?_ wr.heap.size 4 4 #[.int .u8 92,.int .u8 120,.int .u8 ((hexd q).toNat : Int),.int .u8 ((hexd r).toNat : Int)] (by rfl) ?_ (by rfl) ?_ (by omega) ?_ ?_ ?_ ?_;exact hown.out.alloc _;exact Blk.new wr _ _;(intro u hu;simp at hu;rcases hu with rfl | rfl | rfl | rfl <;> rfl);(unfold maxLen;omega);omega;(simp;omega);intro g7 c7 w7 hown7 hgr7 _ _)
      all_goals
       have HO7 : Hid (w7.ownsRow w.heap.size 5 1 (.slice (some ⟨g7,0,none⟩) (out ++ qb c).length c7) (out ++ qb c).length (Lib.byteCells (out ++ qb c))):=by
        rw [HQ.out,List.length_append,Lib.byteCells_append];exact hown7
       have HL7 : Hid ((out ++ qb c).length = out.length + 4):=by rw [HQ.out,List.length_append];rfl
       have HB7 : Hid (Below w.heap.size w w7):=by
        first
        | exact ((hb.out.alloc hsb _).drew).grown hgr7 (by simp;omega) (fun q hq => (hown.out.lt q hq).1)
        | exact ((hb.out.drew.alloc hsb _)).grown hgr7 (by simp;omega) (fun q hq => (hown.out.lt q hq).1)
       clear hown7 hgr7;go_wp2_with fail

       go_roundw
       case rel => exact ⟨k + 1,g7,c7,out ++ qb c,by omega,by go_num,by rw [HOUT.out,List.append_assoc,HQT.out],by rw [HL7.out],HO7.out,HB7.out⟩
       case measure => simp [intOf];omega
     ·have d2 : decide ((126 : Int) < (c.toNat : Int)) = false:=decide_eq_false (by omega)
      have HQ : Hid (qb c = [c]):=by
       show _ = _;unfold qb;rw [if_neg h1,if_neg (by omega)]
      clear h1 h2;go_wp2_with (at_builtin;refine wpList_push rfl (.tmp 15) (.tmp 17) _ rfl w.heap.size 5 i5 _ 1 1 Tryz.underlying29 I5.out hz5 hs5 hb5 rfl (by omega) (.slice (some ⟨g,0,none⟩) out.length cap) out.length _ rfl hown.out 1 1 #[.int .u8 (c.toNat : Int)] rfl rfl (by simp [Value.oneCell']) (by omega) (by unfold maxLen;omega) (by omega) hsb ?_;intro g7 c7 w7 hown7 _ hb7 _ _ _;have HO7 : Hid (w7.ownsRow w.heap.size 5 1 (.slice (some ⟨g7,0,none⟩) (out ++ qb c).length c7) (out ++ qb c).length (Lib.byteCells (out ++ qb c))):=(by rw [HQ.out,List.length_append,Lib.byteCells_append];exact hown7);have HL7 : Hid ((out ++ qb c).length = out.length + 1):=(by rw [HQ.out,List.length_append];rfl);have HB7 : Hid (Below w.heap.size w w7):=hb.out.trans hb7;clear hown7 hb7);go_roundw
      case rel => exact ⟨k + 1,g7,c7,out ++ qb c,by omega,by go_num,by rw [HOUT.out,List.append_assoc,HQT.out],by rw [HL7.out],HO7.out,HB7.out⟩
      case measure => simp [intOf];omega
  ·obtain hks : k = s.size:=by omega
   have hki : ¬ (k : Int) < (s.size : Int):=by omega
   clear hlt
   go_wp2_with (first
    | (at_builtin;refine wpList_push rfl (.tmp 47) (.tmp 48) _ rfl w.heap.size 5 i5 _ 1 1 Tryz.underlying29 I5.out hz5 hs5 hb5 rfl (by omega) (.slice (some ⟨g,0,none⟩) out.length cap) out.length _ rfl hown.out 1 1 #[.int .u8 34] rfl rfl (by simp [Value.oneCell']) (by omega) (by unfold maxLen;omega) (by omega) hsb ?_;intro g7 c7 w7 hown7 _ hb7 _ _ _;have HO7 : Hid (w7.ownsRow w.heap.size 5 1 (.slice (some ⟨g7,0,none⟩) (out ++ [34]).length c7) (out ++ [34]).length (Lib.byteCells (out ++ [34]))):=(by rw [List.length_append,Lib.byteCells_append];exact hown7);have HB7:=hide hb7;clear hown7 hb7)
    | (refine wpList_conv_bytes rfl (.tmp 49) 29 9 5 rfl Tryz.underlying29 Tryz.underlying5 Tryz.underlying9 ⟨g7,0,none⟩ (out.length + 1) c7 (out ++ [34]) rfl (by simp) (own_bytes HO7.out) ?_))
   go_ret;refine ⟨?_,hb.out.trans HB7.out⟩;rw [HOUT.out,hks,List.take_of_length_le (by rw [str_len];exact Nat.le_refl _)]
   rfl
def txs (ls : List (List UInt8)) : List Value:=ls.map fun l => .string (S l)
theorem txs_app (a b : List (List UInt8)) : txs (a ++ b) = txs a ++ txs b:=List.map_append
theorem info9s : (Tryz.prog.info? 9).map (fun i => (i.zero,i.size,i.bytes)) = some (some (.string { data:=#[] }),1,16):=by kernel_rfl
def Em.cmd (m : Em) : Array Value:=#[.int .i64 m.cl,.int .i64 m.cn,.int .i64 m.rq,.int .i64 m.op,.string m.key,.string m.val,.string m.old]
theorem ldcm (m : Em) : (Tryz.prog.info? 31).map (·.size) = some m.cmd.size:=by
 show _ = some 7
 kernel_rfl
theorem cmd_in {w : World} {g : Nat} {m : Em} (h : Blk w g 33 m.cs) : ∀ j v,m.cmd[j]? = some v → w.cell? ((⟨g,5,none⟩ : Addr).add j) = some v:=by
 intro j v hv
 have e2 : w.cell? ((⟨g,5,none⟩ : Addr).add j) = w.cell? ⟨g,5 + j,none⟩:=by
  unfold Addr.add
  split
  ·rename_i h0;subst h0;rfl
  ·rfl
 rw [e2,h.cell (5 + j)]
 match j,hv with
 | 0,hv => exact hv
 | 1,hv => exact hv
 | 2,hv => exact hv
 | 3,hv => exact hv
 | 4,hv => exact hv
 | 5,hv => exact hv
 | 6,hv => exact hv
 | j + 7,hv => simp [Em.cmd] at hv
def askL (e : Ev) : List (List UInt8):=if 1 ≤ e.op ∧ e.op ≤ 9 then askW e else []
theorem ask_len (e : Ev) : (askL e).length ≤ 4:=by
 unfold askL askW
 split
 ·have : ∀ (a b : List (List UInt8)),a.length ≤ 1 → b.length ≤ 1 → (a ++ b).length ≤ 2:=fun a b h1 h2 => by simp;omega
  have h1:=this (if e.val ≠ [] ∨ e.old ≠ [] then [quoteL e.val] else []) (if e.old ≠ [] then [quoteL e.old] else []) (by split <;> simp) (by split <;> simp);simp only [List.length_cons,List.length_nil] at h1 ⊢;omega
 ·simp
def RowP (ls : List (List UInt8)) (w : World) (e : Ending) (w' : World) : Prop:=∃ (A : Option Addr) (c : Nat),e = .returned (.slice A ls.length c) ∧ w'.ownsRow w.heap.size 9 1 (.slice A ls.length c) ls.length (txs ls) ∧ Below w.heap.size w w'
theorem own_texts (w : World) (xs : List Value) (h : xs.length ≤ 8) : (w.alloc (.cells xs.toArray 9)).ownsRow w.heap.size 9 1 (.slice (some ⟨w.heap.size,0,none⟩) xs.length xs.length) xs.length xs :=
 own_of_alloc w 9 xs xs.length rfl (by unfold maxLen;omega)
theorem ask_bad (m : Em) (w : World) (hop : m.op < 1 ∨ 10 ≤ m.op) :
  Calls Tryz.prog 60 #[.agg m.cmd] w fun e w' => RowP (askL m.ev) w e w':=by
 have HR : Hid (askL m.ev = []):=by
  show _ = _;unfold askL;rw [if_neg (fun h => by have h1 : 1 ≤ m.op ∧ m.op ≤ 9:=h;omega)]
 have HO : Hid (∀ W,Below w.heap.size w W → RowP (askL m.ev) w (.returned (.slice none 0 0)) W):=fun W hb => by
  rw [HR.out];exact ⟨none,0,rfl,World.ownsRow_nil _ _ _ _,hb⟩
 by_cases h1 : m.op < 1
 ·go_enter Tryz.func60,Tryz.ntmps60
  go_upto_region 1 with fail
  generalize hW1 : World.alloc w _ = W1
  have HB1 : Hid (Below w.heap.size w W1):=by
   show Below _ _ _;rw [← hW1];exact (Below.refl _ _).alloc (Nat.le_refl _) _
  have HX1 : Hid (Blk W1 w.heap.size 31 m.cmd):=by
   show Blk _ _ _ _;rw [← hW1];exact Blk.new _ _ _
  clear hW1;have k3 : W1.cell? ⟨w.heap.size,3,none⟩ = some (.int .i64 m.op):=HX1.out.cell 3;go_wp2_with fail;go_ret;exact HO.out _ HB1.out
 ·have h2 : 10 ≤ m.op:=by omega
  go_enter Tryz.func60,Tryz.ntmps60;go_upto_region 1 with fail
  generalize hW1 : World.alloc w _ = W1
  have HB1 : Hid (Below w.heap.size w W1):=by
   show Below _ _ _;rw [← hW1];exact (Below.refl _ _).alloc (Nat.le_refl _) _
  have HX1 : Hid (Blk W1 w.heap.size 31 m.cmd):=by
   show Blk _ _ _ _;rw [← hW1];exact Blk.new _ _ _
  clear hW1;have k3 : W1.cell? ⟨w.heap.size,3,none⟩ = some (.int .i64 m.op):=HX1.out.cell 3;go_wp2_with fail;go_ret;exact HO.out _ HB1.out
theorem ask_good (m : Em) (w : World) (hT : OpT w) (j : Nat) (hj : m.op = (j : Int)) (hj1 : 1 ≤ j) (hj9 : j < 10) (hbk : m.key.size + m.val.size + m.old.size ≤ 4000000) :
  Calls Tryz.prog 60 #[.agg m.cmd] w fun e w' => RowP (askL m.ev) w e w':=by
 obtain ⟨i9,hi9,hz9,hs9,hb9⟩:=info_parts info9s;have I9:=hide hi9;clear hi9;obtain ⟨TK,hTK⟩ : ∃ TK,TK = quoteL m.key.data.toList:=⟨_,rfl⟩;obtain ⟨TV,hTV⟩ : ∃ TV,TV = quoteL m.val.data.toList:=⟨_,rfl⟩;obtain ⟨TO,hTO⟩ : ∃ TO,TO = quoteL m.old.data.toList:=⟨_,rfl⟩
 have HR : Hid (askL m.ev = opW j :: TK :: ((if m.ev.val ≠ [] ∨ m.ev.old ≠ [] then [TV] else []) ++ (if m.ev.old ≠ [] then [TO] else []))):=by
  show _ = _;unfold askL;rw [if_pos (show 1 ≤ m.ev.op ∧ m.ev.op ≤ 9 by show 1 ≤ m.op ∧ m.op ≤ 9;omega)]
  have e : opL.getD (m.ev.op.toNat - 1) [] = opW j:=by
   show opL.getD (m.op.toNat - 1) [] = opW j;rw [hj];obtain ⟨i,rfl⟩ : ∃ i,j = i + 1:=⟨j - 1,by omega⟩
   rfl
  unfold askW;rw [e,hTK,hTV,hTO]
  rfl
 have HQK : Hid (∀ W,Calls Tryz.prog 58 #[.string m.key] W fun e w' => e = .returned (.string (S TK)) ∧ Below W.heap.size W w'):=fun W => hTK ▸ quote_any m.key W (by omega)
 have HQV : Hid (∀ W,Calls Tryz.prog 58 #[.string m.val] W fun e w' => e = .returned (.string (S TV)) ∧ Below W.heap.size W w'):=fun W => hTV ▸ quote_any m.val W (by omega)
 have HQO : Hid (∀ W,Calls Tryz.prog 58 #[.string m.old] W fun e w' => e = .returned (.string (S TO)) ∧ Below W.heap.size W w'):=fun W => hTO ▸ quote_any m.old W (by omega)
 have HT:=hide hT;have H0:=hide hT.lt;have HJ:=hide hj;have HJ9:=hide hj9;have HC : Hid (∀ V,Blk V w.heap.size 31 m.cmd → ∀ k v,m.cmd[k]? = some v → V.cell? ⟨w.heap.size,k,none⟩ = some v):=fun V hV k v hv => (hV.cell k).trans hv
 clear hTK hTV hTO hT hbk;go_enter Tryz.func60,Tryz.ntmps60;go_upto_region 1 with fail
 generalize hW1 : World.alloc w _ = W1
 have HB1 : Hid (Below w.heap.size w W1):=by
  show Below _ _ _;rw [← hW1];exact (Below.refl _ _).alloc (Nat.le_refl _) _
 have HX1 : Hid (Blk W1 w.heap.size 31 m.cmd):=by
  show Blk _ _ _ _;rw [← hW1];exact Blk.new _ _ _
 clear hW1;have k3 : W1.cell? ⟨w.heap.size,3,none⟩ = some (.int .i64 m.op):=HX1.out.cell 3;rw [hj] at k3;have h1 : ¬ (j : Int) < 1:=by omega
 have h2 : ¬ (10 : Int) ≤ (j : Int):=by omega
 have j0 : (0 : Int) ≤ (j : Int):=by omega
 have j10 : (j : Int) < 10:=by omega
 clear hj hj1 hj9;go_upto_region 3 with fail
 clear k3;have HQ : Hid (OpT W1.drew ∧ Blk W1.drew w.heap.size 31 m.cmd):=⟨HT.out.below HB1.out.drew H0.out,HX1.out.drew⟩;obtain ⟨W4,hW4⟩ : ∃ W4,W4 = W1.drew:=⟨_,rfl⟩;have HB4 : Hid (Below w.heap.size w W4):=by show Below _ _ _;rw [hW4];exact HB1.out.drew
 refine wp_region_L [] (fun V => OpT V ∧ Blk V w.heap.size 31 m.cmd) (by kernel_rfl) ?_;rw [← hW4] at HQ ⊢;clear hW4;refine tk 0 12 (v:=?_) rfl HQ.out ?_ ?_
 rotate_left;· intro V hV;go_simp;try with_reducible rfl
 try simp only [Act.put,aSt,aSz,aSs]
 refine tk 1 13 (v:=?_) rfl HQ.out ?_ ?_
 rotate_left
 ·intro V hV
  have k : V.cell? ⟨w.heap.size,3,none⟩ = some (.int .i64 m.op):=HC.out V hV.2 3 _ rfl;rw [HJ.out] at k;go_simp;try with_reducible rfl
 try simp only [Act.put,aSt,aSz,aSs]
 refine tk 2 14 (v:=?_) rfl HQ.out ?_ ?_
 rotate_left;· intro V hV;go_simp;try with_reducible rfl
 try simp only [Act.put,aSt,aSz,aSs]
 refine tk 3 15 (v:=?_) rfl HQ.out ?_ ?_
 rotate_left
 ·intro V hV
  have k:=(hV.1.at_ j HJ9.out).trans (opV_at j HJ9.out);go_simp;try with_reducible rfl
 try simp only [Act.put,aSt,aSz,aSs]
 refine tk 4 16 (v:=?_) rfl HQ.out ?_ ?_
 rotate_left;· intro V hV;go_simp;try with_reducible rfl
 try simp only [Act.put,aSt,aSz,aSs]
 refine tk 5 17 (v:=?_) rfl HQ.out ?_ ?_
 rotate_left
 ·intro V hV
  have k : V.cell? ⟨w.heap.size,4,none⟩ = some (.string m.key):=HC.out V hV.2 4 _ rfl;go_simp;try with_reducible rfl
 try simp only [Act.put,aSt,aSz,aSs]
 refine wpL_one 6 (by kernel_rfl) rfl (fun K hK => ?_);rw [if_pos (by rfl)];go_simp;go_at_call 58;refine (HQK.out _).mono ?_;rintro e w5 ⟨rfl,hb5⟩;have HQ5 : Hid (OpT w5 ∧ Blk w5 w.heap.size 31 m.cmd):=⟨HQ.out.1.below hb5 (by have:=HB4.out.size;have:=H0.out;omega),HQ.out.2.below hb5 HQ.out.2.lt⟩;have HB5:=hide (HB4.out.trans (hb5.mono HB4.out.size));refine hK _ _ (fun _ => HQ5.out) ?_;clear hK K hb5;try simp only [Act.put,aSt,aSz,aSs]
 refine wpL_one 7 (by kernel_rfl) rfl (fun K hK => ?_);rw [if_pos (by rfl)];go_simp;have HO6 : Hid ((w5.alloc (.cells #[.string (S (opW j)),.string (S TK)] 9)).ownsRow w.heap.size 9 1 (.slice (some ⟨w5.heap.size,0,none⟩) 2 2) 2 (txs [opW j,TK])):=own_base (own_texts w5 [.string (S (opW j)),.string (S TK)] (by simp)) HB5.out.size;have HX6 : Hid (OpT (w5.alloc (.cells #[.string (S (opW j)),.string (S TK)] 9)) ∧ Blk (w5.alloc (.cells #[.string (S (opW j)),.string (S TK)] 9)) w.heap.size 31 m.cmd):=⟨HQ5.out.1.below ((Below.refl _ _).alloc (Nat.le_refl _) _) (by have:=HB5.out.size;have:=H0.out;omega),HQ5.out.2.alloc _⟩;have HB6 : Hid (Below w.heap.size w (w5.alloc (.cells #[.string (S (opW j)),.string (S TK)] 9))):=HB5.out.alloc HB5.out.size _;obtain ⟨w6,hw6⟩ : ∃ w6,w6 = w5.alloc (.cells #[.string (S (opW j)),.string (S TK)] 9):=⟨_,rfl⟩;obtain ⟨g6,hg6⟩ : ∃ g6,g6 = w5.heap.size:=⟨_,rfl⟩;rw [← hw6] at HO6 HX6 HB6;rw [← hg6] at HO6;refine hK _ _ (fun _ => ?_) ?_
 ·first | exact HX6.out | (rw [← hw6];exact HX6.out)
 rw [← hw6,← hg6];clear hK K hw6 hg6;try simp only [Act.put,aSt,aSz,aSs]
 refine tk 8 3 (v:=?_) rfl HX6.out ?_ ?_
 rotate_left;· intro V hV;go_simp;try with_reducible rfl
 try simp only [Act.put,aSt,aSz,aSs]
 refine wpL_done (by kernel_rfl) ?_ _;have L0 : Hid (∀ x : ByteArray,x.data.toList = [] → x = ⟨#[]⟩):=fun x h => ByteArray.ext (Array.toList_inj.1 h)
 have L1 : Hid (∀ x : ByteArray,¬ x.data.toList = [] → ¬ x.toList = [] ∧ (x.toList == []) = false):=fun x h => by
  rw [← ByteArray.toList_eq] at h;exact ⟨h,by simpa using h⟩
 have k5 : w6.cell? ⟨w.heap.size,5,none⟩ = some (.string m.val):=HC.out _ HX6.out.2 5 _ rfl;have k6 : w6.cell? ⟨w.heap.size,6,none⟩ = some (.string m.old):=HC.out _ HX6.out.2 6 _ rfl
 by_cases hv : m.val.data.toList = []
 ·rw [L0.out _ hv] at k5
  by_cases ho : m.old.data.toList = []
  ·rw [L0.out _ ho] at k6
   go_wp2_with fail;go_ret
   have e : askL m.ev = [opW j,TK]:=by
    have hv' : m.ev.val = m.val.data.toList:=rfl;have ho' : m.ev.old = m.old.data.toList:=rfl;rw [HR.out,hv',ho'];simp [hv,ho]
   rw [e];exact ⟨_,_,rfl,HO6.out,HB6.out⟩
  ·have o1:=(L1.out _ ho).1
   have o2:=(L1.out _ ho).2;go_upto_region 5 with fail
   refine wp_region_lit ?_;refine wpList_value rfl (.slice (some ⟨g6,0,none⟩) 2 2) (by go_simp) ?_;try simp only [Act.put,aSt,aSz,aSs]
   refine wpList_value rfl (.pointer (some ⟨w.heap.size,5,none⟩)) (by go_simp) ?_;try simp only [Act.put,aSt,aSz,aSs]
   refine wpList_value rfl (.string m.val) (by have k : World.cell? _ ⟨w.heap.size,5,none⟩ = some (.string m.val):=HC.out _ HX6.out.2 5 _ rfl;clear k5 k6;go_simp) ?_;try simp only [Act.put,aSt,aSz,aSs]
   refine wpList_step (fun K hK => ?_);rw [if_pos (by rfl)];go_simp;go_at_call 58;refine (HQV.out _).mono ?_;rintro e w7 ⟨rfl,hb7⟩;have HX7 : Hid (OpT w7 ∧ Blk w7 w.heap.size 31 m.cmd):=⟨HX6.out.1.below hb7 (by have:=HB6.out.size;have:=H0.out;omega),HX6.out.2.below hb7 HX6.out.2.lt⟩;have HO7:=hide (own_step HO6.out hb7);have HB7:=hide (HB6.out.trans (hb7.mono HB6.out.size));refine hK _ _ ?_;clear hK K hb7;try simp only [Act.put,aSt,aSz,aSs]
   refine wpList_step (fun K hK => ?_);rw [if_pos (by rfl)];go_simp;refine hK _ _ ?_;clear hK K;try simp only [Act.put,aSt,aSz,aSs]
   refine wpList_push (W:=w7) (cs:=#[.string (S TV)]) rfl (.tmp 28) (.tmp 32) 101 rfl w.heap.size 9 i9 (.string { data:=#[] }) 1 16 Tryz.underlying101 I9.out hz9 hs9 hb9 rfl (by omega) (.slice (some ⟨g6,0,none⟩) 2 2) 2 (txs [opW j,TK]) rfl HO7.out 1 1 rfl rfl (by simp [Value.oneCell']) (by omega) (by unfold maxLen;omega) (by omega) HB7.out.size ?_;intro g7 c7 v7 hown hgr hbl _ _ _;have HX7p : Hid (OpT v7 ∧ Blk v7 w.heap.size 31 m.cmd):=⟨HX7.out.1.below hbl H0.out,((HX7.out.2.alloc _).grown hgr (Ne.symm (own_blk_ne HO7.out HX7.out.2 (by decide))))⟩
   have HO7p : Hid (v7.ownsRow w.heap.size 9 1 (.slice (some ⟨g7,0,none⟩) (2 + 1) c7) (2 + 1) (txs ([opW j,TK] ++ [TV]))):=by
    show World.ownsRow _ _ _ _ _ _ _;rw [txs_app];exact hown
   have HB7p:=hide (HB7.out.trans hbl);clear hown hgr hbl HX7 HO7 HB7;try simp only [Act.put,aSt,aSz,aSs]
   clear k5 k6;have k5 : v7.cell? ⟨w.heap.size,5,none⟩ = some (.string m.val):=HC.out _ HX7p.out.2 5 _ rfl;have k6 : v7.cell? ⟨w.heap.size,6,none⟩ = some (.string m.old):=HC.out _ HX7p.out.2 6 _ rfl;try rw [L0.out _ hv] at k5
   try rw [L0.out _ ho] at k6
   go_upto_region 7 with fail
   refine wp_region_lit ?_;refine wpList_value rfl (.slice (some ⟨g7,0,none⟩) (2 + 1) c7) (by go_simp) ?_;try simp only [Act.put,aSt,aSz,aSs]
   refine wpList_value rfl (.pointer (some ⟨w.heap.size,6,none⟩)) (by go_simp) ?_;try simp only [Act.put,aSt,aSz,aSs]
   refine wpList_value rfl (.string m.old) (by have k : World.cell? _ ⟨w.heap.size,6,none⟩ = some (.string m.old):=HC.out _ HX7p.out.2 6 _ rfl;clear k5 k6;go_simp) ?_;try simp only [Act.put,aSt,aSz,aSs]
   refine wpList_step (fun K hK => ?_);rw [if_pos (by rfl)];go_simp;go_at_call 58;refine (HQO.out _).mono ?_;rintro e w8 ⟨rfl,hb8⟩;have HX8 : Hid (OpT w8 ∧ Blk w8 w.heap.size 31 m.cmd):=⟨HX7p.out.1.below hb8 (by have:=HB7p.out.size;have:=H0.out;omega),HX7p.out.2.below hb8 HX7p.out.2.lt⟩;have HO8:=hide (own_step HO7p.out hb8);have HB8:=hide (HB7p.out.trans (hb8.mono HB7p.out.size));refine hK _ _ ?_;clear hK K hb8;try simp only [Act.put,aSt,aSz,aSs]
   refine wpList_step (fun K hK => ?_);rw [if_pos (by rfl)];go_simp;refine hK _ _ ?_;clear hK K;try simp only [Act.put,aSt,aSz,aSs]
   refine wpList_push (W:=w8) (cs:=#[.string (S TO)]) rfl (.tmp 37) (.tmp 41) 101 rfl w.heap.size 9 i9 (.string { data:=#[] }) 1 16 Tryz.underlying101 I9.out hz9 hs9 hb9 rfl (by omega) (.slice (some ⟨g7,0,none⟩) (2 + 1) c7) (2 + 1) (txs ([opW j,TK] ++ [TV])) rfl HO8.out 1 1 rfl rfl (by simp [Value.oneCell']) (by omega) (by unfold maxLen;omega) (by omega) HB8.out.size ?_;intro g8 c8 v8 hown hgr hbl _ _ _;have HX8p : Hid (OpT v8 ∧ Blk v8 w.heap.size 31 m.cmd):=⟨HX8.out.1.below hbl H0.out,((HX8.out.2.alloc _).grown hgr (Ne.symm (own_blk_ne HO8.out HX8.out.2 (by decide))))⟩
   have HO8p : Hid (v8.ownsRow w.heap.size 9 1 (.slice (some ⟨g8,0,none⟩) ((2 + 1) + 1) c8) ((2 + 1) + 1) (txs (([opW j,TK] ++ [TV]) ++ [TO]))):=by
    show World.ownsRow _ _ _ _ _ _ _;rw [txs_app];exact hown
   have HB8p:=hide (HB8.out.trans hbl);clear hown hgr hbl HX8 HO8 HB8;try simp only [Act.put,aSt,aSz,aSs]
   clear k5 k6;have k5 : v8.cell? ⟨w.heap.size,5,none⟩ = some (.string m.val):=HC.out _ HX8p.out.2 5 _ rfl;have k6 : v8.cell? ⟨w.heap.size,6,none⟩ = some (.string m.old):=HC.out _ HX8p.out.2 6 _ rfl;try rw [L0.out _ hv] at k5
   try rw [L0.out _ ho] at k6
   go_wp2_with fail;go_ret
   have e : askL m.ev = (([opW j,TK] ++ [TV]) ++ [TO]):=by
    have hv' : m.ev.val = m.val.data.toList:=rfl;have ho' : m.ev.old = m.old.data.toList:=rfl;rw [HR.out,hv',ho'];simp [hv,ho]
   rw [e];exact ⟨_,_,rfl,HO8p.out,HB8p.out⟩
 ·have n1:=(L1.out _ hv).1
  have n2:=(L1.out _ hv).2
  by_cases ho : m.old.data.toList = []
  ·rw [L0.out _ ho] at k6
   go_upto_region 5 with fail
   refine wp_region_lit ?_;refine wpList_value rfl (.slice (some ⟨g6,0,none⟩) 2 2) (by go_simp) ?_;try simp only [Act.put,aSt,aSz,aSs]
   refine wpList_value rfl (.pointer (some ⟨w.heap.size,5,none⟩)) (by go_simp) ?_;try simp only [Act.put,aSt,aSz,aSs]
   refine wpList_value rfl (.string m.val) (by have k : World.cell? _ ⟨w.heap.size,5,none⟩ = some (.string m.val):=HC.out _ HX6.out.2 5 _ rfl;clear k5 k6;go_simp) ?_;try simp only [Act.put,aSt,aSz,aSs]
   refine wpList_step (fun K hK => ?_);rw [if_pos (by rfl)];go_simp;go_at_call 58;refine (HQV.out _).mono ?_;rintro e w7 ⟨rfl,hb7⟩;have HX7 : Hid (OpT w7 ∧ Blk w7 w.heap.size 31 m.cmd):=⟨HX6.out.1.below hb7 (by have:=HB6.out.size;have:=H0.out;omega),HX6.out.2.below hb7 HX6.out.2.lt⟩;have HO7:=hide (own_step HO6.out hb7);have HB7:=hide (HB6.out.trans (hb7.mono HB6.out.size));refine hK _ _ ?_;clear hK K hb7;try simp only [Act.put,aSt,aSz,aSs]
   refine wpList_step (fun K hK => ?_);rw [if_pos (by rfl)];go_simp;refine hK _ _ ?_;clear hK K;try simp only [Act.put,aSt,aSz,aSs]
   refine wpList_push (W:=w7) (cs:=#[.string (S TV)]) rfl (.tmp 28) (.tmp 32) 101 rfl w.heap.size 9 i9 (.string { data:=#[] }) 1 16 Tryz.underlying101 I9.out hz9 hs9 hb9 rfl (by omega) (.slice (some ⟨g6,0,none⟩) 2 2) 2 (txs [opW j,TK]) rfl HO7.out 1 1 rfl rfl (by simp [Value.oneCell']) (by omega) (by unfold maxLen;omega) (by omega) HB7.out.size ?_;intro g7 c7 v7 hown hgr hbl _ _ _;have HX7p : Hid (OpT v7 ∧ Blk v7 w.heap.size 31 m.cmd):=⟨HX7.out.1.below hbl H0.out,((HX7.out.2.alloc _).grown hgr (Ne.symm (own_blk_ne HO7.out HX7.out.2 (by decide))))⟩
   have HO7p : Hid (v7.ownsRow w.heap.size 9 1 (.slice (some ⟨g7,0,none⟩) (2 + 1) c7) (2 + 1) (txs ([opW j,TK] ++ [TV]))):=by
    show World.ownsRow _ _ _ _ _ _ _;rw [txs_app];exact hown
   have HB7p:=hide (HB7.out.trans hbl);clear hown hgr hbl HX7 HO7 HB7;try simp only [Act.put,aSt,aSz,aSs]
   clear k5 k6;have k5 : v7.cell? ⟨w.heap.size,5,none⟩ = some (.string m.val):=HC.out _ HX7p.out.2 5 _ rfl;have k6 : v7.cell? ⟨w.heap.size,6,none⟩ = some (.string m.old):=HC.out _ HX7p.out.2 6 _ rfl;try rw [L0.out _ hv] at k5
   try rw [L0.out _ ho] at k6
   go_wp2_with fail;go_ret
   have e : askL m.ev = ([opW j,TK] ++ [TV]):=by
    have hv' : m.ev.val = m.val.data.toList:=rfl;have ho' : m.ev.old = m.old.data.toList:=rfl;rw [HR.out,hv',ho'];simp [hv,ho]
   rw [e];exact ⟨_,_,rfl,HO7p.out,HB7p.out⟩
  ·have o1:=(L1.out _ ho).1
   have o2:=(L1.out _ ho).2;go_upto_region 5 with fail
   refine wp_region_lit ?_;refine wpList_value rfl (.slice (some ⟨g6,0,none⟩) 2 2) (by go_simp) ?_;try simp only [Act.put,aSt,aSz,aSs]
   refine wpList_value rfl (.pointer (some ⟨w.heap.size,5,none⟩)) (by go_simp) ?_;try simp only [Act.put,aSt,aSz,aSs]
   refine wpList_value rfl (.string m.val) (by have k : World.cell? _ ⟨w.heap.size,5,none⟩ = some (.string m.val):=HC.out _ HX6.out.2 5 _ rfl;clear k5 k6;go_simp) ?_;try simp only [Act.put,aSt,aSz,aSs]
   refine wpList_step (fun K hK => ?_);rw [if_pos (by rfl)];go_simp;go_at_call 58;refine (HQV.out _).mono ?_;rintro e w7 ⟨rfl,hb7⟩;have HX7 : Hid (OpT w7 ∧ Blk w7 w.heap.size 31 m.cmd):=⟨HX6.out.1.below hb7 (by have:=HB6.out.size;have:=H0.out;omega),HX6.out.2.below hb7 HX6.out.2.lt⟩;have HO7:=hide (own_step HO6.out hb7);have HB7:=hide (HB6.out.trans (hb7.mono HB6.out.size));refine hK _ _ ?_;clear hK K hb7;try simp only [Act.put,aSt,aSz,aSs]
   refine wpList_step (fun K hK => ?_);rw [if_pos (by rfl)];go_simp;refine hK _ _ ?_;clear hK K;try simp only [Act.put,aSt,aSz,aSs]
   refine wpList_push (W:=w7) (cs:=#[.string (S TV)]) rfl (.tmp 28) (.tmp 32) 101 rfl w.heap.size 9 i9 (.string { data:=#[] }) 1 16 Tryz.underlying101 I9.out hz9 hs9 hb9 rfl (by omega) (.slice (some ⟨g6,0,none⟩) 2 2) 2 (txs [opW j,TK]) rfl HO7.out 1 1 rfl rfl (by simp [Value.oneCell']) (by omega) (by unfold maxLen;omega) (by omega) HB7.out.size ?_;intro g7 c7 v7 hown hgr hbl _ _ _;have HX7p : Hid (OpT v7 ∧ Blk v7 w.heap.size 31 m.cmd):=⟨HX7.out.1.below hbl H0.out,((HX7.out.2.alloc _).grown hgr (Ne.symm (own_blk_ne HO7.out HX7.out.2 (by decide))))⟩
   have HO7p : Hid (v7.ownsRow w.heap.size 9 1 (.slice (some ⟨g7,0,none⟩) (2 + 1) c7) (2 + 1) (txs ([opW j,TK] ++ [TV]))):=by
    show World.ownsRow _ _ _ _ _ _ _;rw [txs_app];exact hown
   have HB7p:=hide (HB7.out.trans hbl);clear hown hgr hbl HX7 HO7 HB7;try simp only [Act.put,aSt,aSz,aSs]
   clear k5 k6;have k5 : v7.cell? ⟨w.heap.size,5,none⟩ = some (.string m.val):=HC.out _ HX7p.out.2 5 _ rfl;have k6 : v7.cell? ⟨w.heap.size,6,none⟩ = some (.string m.old):=HC.out _ HX7p.out.2 6 _ rfl;try rw [L0.out _ hv] at k5
   try rw [L0.out _ ho] at k6
   go_upto_region 7 with fail
   refine wp_region_lit ?_;refine wpList_value rfl (.slice (some ⟨g7,0,none⟩) (2 + 1) c7) (by go_simp) ?_;try simp only [Act.put,aSt,aSz,aSs]
   refine wpList_value rfl (.pointer (some ⟨w.heap.size,6,none⟩)) (by go_simp) ?_;try simp only [Act.put,aSt,aSz,aSs]
   refine wpList_value rfl (.string m.old) (by have k : World.cell? _ ⟨w.heap.size,6,none⟩ = some (.string m.old):=HC.out _ HX7p.out.2 6 _ rfl;clear k5 k6;go_simp) ?_;try simp only [Act.put,aSt,aSz,aSs]
   refine wpList_step (fun K hK => ?_);rw [if_pos (by rfl)];go_simp;go_at_call 58;refine (HQO.out _).mono ?_;rintro e w8 ⟨rfl,hb8⟩;have HX8 : Hid (OpT w8 ∧ Blk w8 w.heap.size 31 m.cmd):=⟨HX7p.out.1.below hb8 (by have:=HB7p.out.size;have:=H0.out;omega),HX7p.out.2.below hb8 HX7p.out.2.lt⟩;have HO8:=hide (own_step HO7p.out hb8);have HB8:=hide (HB7p.out.trans (hb8.mono HB7p.out.size));refine hK _ _ ?_;clear hK K hb8;try simp only [Act.put,aSt,aSz,aSs]
   refine wpList_step (fun K hK => ?_);rw [if_pos (by rfl)];go_simp;refine hK _ _ ?_;clear hK K;try simp only [Act.put,aSt,aSz,aSs]
   refine wpList_push (W:=w8) (cs:=#[.string (S TO)]) rfl (.tmp 37) (.tmp 41) 101 rfl w.heap.size 9 i9 (.string { data:=#[] }) 1 16 Tryz.underlying101 I9.out hz9 hs9 hb9 rfl (by omega) (.slice (some ⟨g7,0,none⟩) (2 + 1) c7) (2 + 1) (txs ([opW j,TK] ++ [TV])) rfl HO8.out 1 1 rfl rfl (by simp [Value.oneCell']) (by omega) (by unfold maxLen;omega) (by omega) HB8.out.size ?_;intro g8 c8 v8 hown hgr hbl _ _ _;have HX8p : Hid (OpT v8 ∧ Blk v8 w.heap.size 31 m.cmd):=⟨HX8.out.1.below hbl H0.out,((HX8.out.2.alloc _).grown hgr (Ne.symm (own_blk_ne HO8.out HX8.out.2 (by decide))))⟩
   have HO8p : Hid (v8.ownsRow w.heap.size 9 1 (.slice (some ⟨g8,0,none⟩) ((2 + 1) + 1) c8) ((2 + 1) + 1) (txs (([opW j,TK] ++ [TV]) ++ [TO]))):=by
    show World.ownsRow _ _ _ _ _ _ _;rw [txs_app];exact hown
   have HB8p:=hide (HB8.out.trans hbl);clear hown hgr hbl HX8 HO8 HB8;try simp only [Act.put,aSt,aSz,aSs]
   clear k5 k6;have k5 : v8.cell? ⟨w.heap.size,5,none⟩ = some (.string m.val):=HC.out _ HX8p.out.2 5 _ rfl;have k6 : v8.cell? ⟨w.heap.size,6,none⟩ = some (.string m.old):=HC.out _ HX8p.out.2 6 _ rfl;try rw [L0.out _ hv] at k5
   try rw [L0.out _ ho] at k6
   go_wp2_with fail;go_ret
   have e : askL m.ev = (([opW j,TK] ++ [TV]) ++ [TO]):=by
    have hv' : m.ev.val = m.val.data.toList:=rfl;have ho' : m.ev.old = m.old.data.toList:=rfl;rw [HR.out,hv',ho'];simp [hv,ho]
   rw [e];exact ⟨_,_,rfl,HO8p.out,HB8p.out⟩
theorem ask_any (m : Em) (w : World) (hT : OpT w) (hbk : m.key.size + m.val.size + m.old.size ≤ 4000000) :
  Calls Tryz.prog 60 #[.agg m.cmd] w fun e w' => RowP (askL m.ev) w e w':=by
 by_cases h1 : 1 ≤ m.op ∧ m.op ≤ 9
 ·exact ask_good m w hT m.op.toNat (by omega) (by omega) (by omega) hbk
 ·exact ask_bad m w (by omega)
end Go.Proofs.YtcibcmfaebbhnaaGreatDoor
