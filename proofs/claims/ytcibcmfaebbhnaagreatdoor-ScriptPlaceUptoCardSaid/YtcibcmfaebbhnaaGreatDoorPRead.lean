/-
  The reference's Quote. Plain functions that read: strings in their own form, counts, pieces; and what they read of what was written. The reference's Count and loose.
-/
import Derived.StillTailTactics
import Derived.Test.YtcibcmfaebbhnaaGreatDoorPRdc
import Derived.Lib.ItoaNum
import Derived.Lib.Join
set_option linter.unusedSimpArgs false
set_option linter.unusedVariables false
set_option maxRecDepth 100000
set_option maxHeartbeats 4000000

namespace Go.Proofs.YtcibcmfaebbhnaaGreatDoor
open Go.RowKit Go.WideShapes Go.ChangeShapes Q
theorem step_push {P : Program} (w : World) {ops : Array Oper} {o : Oper} {a : Act} {K : Act → World → Prop} {Q : Exit → Act → World → Prop} {E : Prop} (hgd : o.guard = none) (s x : Operand) (t : TypeId)
  (ho : o.op = .call { callee:=.builtin .append,args:=#[s,x],argTypes:=#[t,t] })
  (base : Nat) (e : TypeId) (i : TypeInfo) (z : Value) (size bytes : Nat) (ht : P.underlying t = some (.slice e)) (hi : P.info? e = some i) (hz : i.zero = some z)
  (hsize : i.size = size) (hby : i.bytes = bytes) (hzs : z.cells.size = size) (hsz : 0 < size)
  (v : Value) (n : Nat) (xs : List Value) (hs : a.eval s = v) (hown : w.ownsRow base e size v n xs)
  (gx m c : Nat) (cs : Array Value) (hx : a.eval x = .slice (some ⟨gx,0,none⟩) m c) (hb : Blk w gx e cs) (hcs : cs.size = m * size) (h1 : ∀ u ∈ cs.toList,u.oneCell' = true)
  (hm : 0 < m) (h63 : n + m ≤ maxLen) (hbytes : (n + m) * bytes ≤ 140737488355328) (hbase : base ≤ w.heap.size)
  (h : ∀ g cap w',w'.ownsRow base e size (.slice (some ⟨g,0,none⟩) (n + m) cap) (n + m) (xs ++ cs.toList) → w.grownBy w' v.ownBlock → (v.ownBlock = some g ∨ g = w.heap.size) → g < w'.heap.size → K (a.put o.dst (.slice (some ⟨g,0,none⟩) (n + m) cap)) w') :
  if Region.wanted o (yielded ops a.tmps) = true then Oper.wp P o a w K Q else E :=
 step_append_lies w hgd s x t ho base e i z size bytes ht hi hz hsize hby hzs hsz v n xs hs hown ⟨gx,0,none⟩ m c cs.toList hx (by simpa using hcs) (World.news_of_block hb) h1 hm h63 hbytes hbase w.heap.size rfl h
theorem info5 : (Tryz.prog.info? 5).map (fun i => (i.zero,i.size,i.bytes)) = some (some (.int .u8 0),1,1):=by kernel_rfl
def hexd (n : Nat) : UInt8:=([48,49,50,51,52,53,54,55,56,57,97,98,99,100,101,102] : List UInt8).getD n 0
theorem hexd_at {q : Nat} (h : q < 16) (h' : q < ({ data:=#[48,49,50,51,52,53,54,55,56,57,97,98,99,100,101,102] } : ByteArray).size) : ({ data:=#[48,49,50,51,52,53,54,55,56,57,97,98,99,100,101,102] } : ByteArray)[q]'h' = hexd q:=by
 have : ∀ q : Fin 16,({ data:=#[48,49,50,51,52,53,54,55,56,57,97,98,99,100,101,102] } : ByteArray)[q.val]'(q.isLt) = hexd q.val:=by decide +kernel
 exact this ⟨q,h⟩
theorem and15 {n : Nat} (h : n < 256) : bits BinOp.and IntKind.u8 (n : Int) 15 = ((n % 16 : Nat) : Int):=by
 have : ∀ n : Fin 256,bits BinOp.and IntKind.u8 (n.val : Int) 15 = ((n.val % 16 : Nat) : Int):=by decide +kernel
 exact this ⟨n,h⟩
def qb (c : UInt8) : List UInt8:=if c.toNat = 34 ∨ c.toNat = 92 then [92,c] else if c.toNat < 32 ∨ 126 < c.toNat then [92,120,hexd (c.toNat / 16),hexd (c.toNat % 16)] else [c]
def quoteL (l : List UInt8) : List UInt8:=[34] ++ l.flatMap qb ++ [34]
theorem qb_len (c : UInt8) : (qb c).length ≤ 4:=by unfold qb;split <;> (try split) <;> simp
theorem qbs_len (l : List UInt8) : (l.flatMap qb).length ≤ 4 * l.length:=by
 induction l with
 | nil => simp
 | cons a l ih => rw [List.flatMap_cons,List.length_append,List.length_cons];have:=qb_len a;omega
theorem str_len (s : ByteArray) : s.data.toList.length = s.size:=Array.length_toList
theorem qb_take {s : ByteArray} {k : Nat} (h : k < s.size) : (s.data.toList.take (k + 1)).flatMap qb = (s.data.toList.take k).flatMap qb ++ qb s[k]:=by
 rw [List.take_succ_eq_append_getElem (by rw [str_len];exact h),List.flatMap_append];simp
 rfl
theorem own_bytes {w : World} {base g cap : Nat} {l : List UInt8} (h : w.ownsRow base 5 1 (.slice (some ⟨g,0,none⟩) l.length cap) l.length (Lib.byteCells l)) : ∀ j (hj : j < l.length),w.cell? ((⟨g,0,none⟩ : Addr).add j) = some (.int .u8 (l[j].toNat : Int)):=fun j hj =>
 World.ownsRow.cells (g:=g) h rfl j _ (by simp [Lib.byteCells,hj])
theorem Quote_any (s : ByteArray) (w : World) (hs : s.size ≤ 1000000000000) :
  Calls Tryz.prog 69 #[.string s] w fun e w' => e = .returned (.string (S (quoteL s.data.toList))) ∧ Below w.heap.size w w':=by
 obtain ⟨i5,hi5,hz5,hs5,hb5⟩:=info_parts info5;have I5:=hide hi5;clear hi5;go_enter Tryz.func69,Tryz.ntmps69;go_upto_region 5 with (at_builtin;refine wpList_push rfl (.tmp 7) (.tmp 8) _ rfl w.heap.size 5 i5 _ 1 1 Tryz.underlying29 I5.out hz5 hs5 hb5 rfl (by omega) (.slice none 0 0) 0 [] rfl (World.ownsRow_nil _ _ _ _) 1 1 #[.int .u8 34] rfl rfl (by simp [Value.oneCell']) (by omega) (by unfold maxLen;omega) (by omega) (Nat.le_refl _) ?_;intro g1 c1 w1 hown1 _ hb1 _ _ _;have HO1:=hide hown1;have HB1:=hide hb1;clear hown1 hb1)
 go_loopw [4,5,6] (fun v i cc wr => ∃ (k : Nat) (g cap : Nat) (out : List UInt8),k ≤ s.size ∧ i = .int .i64 k ∧ out = [34] ++ (s.data.toList.take k).flatMap qb ∧ v = .slice (some ⟨g,0,none⟩) out.length cap ∧ Hid (wr.ownsRow w.heap.size 5 1 (.slice (some ⟨g,0,none⟩) out.length cap) out.length (Lib.byteCells out)) ∧ Hid (Below w.heap.size w wr)) (fun _ i _ _ => s.size - (intOf i).toNat)
 case atStart => exact ⟨0,g1,c1,[34],Nat.zero_le _,rfl,rfl,rfl,HO1.out,HB1.out⟩
 case round =>
  obtain ⟨k,g,cap,out,hk,rfl,hout,rfl,hown,hb⟩:=hrel;have HOUT:=hide hout
  have hol : out.length ≤ 4000000000001:=by
   have h1:=qbs_len (s.data.toList.take k);rw [List.length_take,str_len] at h1;have h2 : out.length = 1 + ((s.data.toList.take k).flatMap qb).length:=by rw [hout,List.length_append];rfl
   omega
  have hsb : w.heap.size ≤ wr.heap.size:=hb.out.size;clear hout HO1 HB1
  by_cases hlt : k < s.size
  ·obtain ⟨c,hc⟩ : ∃ c,c = s[k]:=⟨_,rfl⟩
   have hcc:=hc.symm;have hqt:=qb_take hlt;rw [hcc] at hqt;have HQT:=hide hqt;have c256 : c.toNat < 256:=c.toNat_lt;have k0 : (0 : Int) ≤ (k : Int):=by omega
   have ks : (k : Int) < (s.size : Int):=by omega
   clear hqt hc
   by_cases h1 : c.toNat = 34 ∨ c.toNat = 92
   ·have HQ : Hid (qb c = [92,c]):=if_pos h1
    by_cases h34 : c.toNat = 34
    ·have e1 : ((c.toNat : Int) == 34) = true:=by rw [beq_iff_eq];omega
     clear h1 h34;go_wp2_with (at_builtin;refine wpList_push rfl (.tmp 30) (.tmp 32) _ rfl w.heap.size 5 i5 _ 1 1 Tryz.underlying29 I5.out hz5 hs5 hb5 rfl (by omega) (.slice (some ⟨g,0,none⟩) out.length cap) out.length _ rfl hown.out 2 2 #[.int .u8 92,.int .u8 (c.toNat : Int)] rfl rfl (by simp [Value.oneCell']) (by omega) (by unfold maxLen;omega) (by omega) hsb ?_;intro g7 c7 w7 hown7 _ hb7 _ _ _;have HO7 : Hid (w7.ownsRow w.heap.size 5 1 (.slice (some ⟨g7,0,none⟩) (out ++ qb c).length c7) (out ++ qb c).length (Lib.byteCells (out ++ qb c))):=(by rw [HQ.out,List.length_append,Lib.byteCells_append];exact hown7);have HL7 : Hid ((out ++ qb c).length = out.length + 2):=(by rw [HQ.out,List.length_append];rfl);have HB7 : Hid (Below w.heap.size w w7):=hb.out.trans hb7;clear hown7 hb7);go_roundw
     case rel => exact ⟨k + 1,g7,c7,out ++ qb c,by omega,by go_num,by rw [HOUT.out,List.append_assoc,HQT.out],by rw [HL7.out],HO7.out,HB7.out⟩
     case measure => simp [intOf];omega
    ·have e1 : ((c.toNat : Int) == 34) = false:=by rw [beq_eq_false_iff_ne];omega
     have e2 : ((c.toNat : Int) == 92) = true:=by rw [beq_iff_eq];omega
     clear h1 h34;go_wp2_with (at_builtin;refine wpList_push rfl (.tmp 30) (.tmp 32) _ rfl w.heap.size 5 i5 _ 1 1 Tryz.underlying29 I5.out hz5 hs5 hb5 rfl (by omega) (.slice (some ⟨g,0,none⟩) out.length cap) out.length _ rfl hown.out 2 2 #[.int .u8 92,.int .u8 (c.toNat : Int)] rfl rfl (by simp [Value.oneCell']) (by omega) (by unfold maxLen;omega) (by omega) hsb ?_;intro g7 c7 w7 hown7 _ hb7 _ _ _;have HO7 : Hid (w7.ownsRow w.heap.size 5 1 (.slice (some ⟨g7,0,none⟩) (out ++ qb c).length c7) (out ++ qb c).length (Lib.byteCells (out ++ qb c))):=(by rw [HQ.out,List.length_append,Lib.byteCells_append];exact hown7);have HL7 : Hid ((out ++ qb c).length = out.length + 2):=(by rw [HQ.out,List.length_append];rfl);have HB7 : Hid (Below w.heap.size w w7):=hb.out.trans hb7;clear hown7 hb7);go_roundw
     case rel => exact ⟨k + 1,g7,c7,out ++ qb c,by omega,by go_num,by rw [HOUT.out,List.append_assoc,HQT.out],by rw [HL7.out],HO7.out,HB7.out⟩
     case measure => simp [intOf];omega
   ·have e1 : ((c.toNat : Int) == 34) = false:=by rw [beq_eq_false_iff_ne];omega
    have e2 : ((c.toNat : Int) == 92) = false:=by rw [beq_eq_false_iff_ne];omega
    by_cases h2 : c.toNat < 32
    ·have d1 : decide ((c.toNat : Int) < 32) = true:=decide_eq_true (by omega)
     have HQ : Hid (qb c = [92,120,hexd (c.toNat / 16),hexd (c.toNat % 16)]):=by
      show _ = _;unfold qb;rw [if_neg h1,if_pos (.inl h2)]
     clear h1;obtain ⟨q,hq⟩ : ∃ q,q = c.toNat / 16:=⟨_,rfl⟩;obtain ⟨r,hr⟩ : ∃ r,r = c.toNat % 16:=⟨_,rfl⟩;have hqi : (c.toNat : Int) / 16 = (q : Int):=by omega
     have hand : bits BinOp.and IntKind.u8 (c.toNat : Int) 15 = (r : Int):=by rw [hr];exact and15 c256
     have q16 : q < 16:=by omega
     have r16 : r < 16:=by omega
     have q16i : (q : Int) < 16:=by omega
     have r16i : (r : Int) < 16:=by omega
     have hDq:=fun h' => hexd_at q16 h'
     have hDr:=fun h' => hexd_at r16 h'
     rw [← hq,← hr] at HQ;clear hq hr;go_upto_region 12 with fail
     go_region_law (refine step_push _ (by rfl) (.tmp 41) (.tmp 50) _ (by rfl) w.heap.size 5 i5 _ 1 1 Tryz.underlying29 I5.out hz5 hs5 hb5 (by rfl) (by omega) (.slice (some ⟨g,0,none⟩) out.length cap) out.length (Lib.byteCells out) (by rfl) ?_ wr.heap.size 4 4 #[.int .u8 92,.int .u8 120,.int .u8 ((hexd q).toNat : Int),.int .u8 ((hexd r).toNat : Int)] (by rfl) ?_ (by rfl) ?_ (by omega) ?_ ?_ ?_ ?_;exact hown.out.alloc _;exact Blk.new wr _ _;(intro u hu;simp at hu;rcases hu with rfl | rfl | rfl | rfl <;> rfl);(unfold maxLen;omega);omega;(simp;omega);intro g7 c7 w7 hown7 hgr7 _ _)
     all_goals
      have HO7 : Hid (w7.ownsRow w.heap.size 5 1 (.slice (some ⟨g7,0,none⟩) (out ++ qb c).length c7) (out ++ qb c).length (Lib.byteCells (out ++ qb c))):=by
       rw [HQ.out,List.length_append,Lib.byteCells_append];exact hown7
      have HL7 : Hid ((out ++ qb c).length = out.length + 4):=by rw [HQ.out,List.length_append];rfl
      have HB7 : Hid (Below w.heap.size w w7):=by
       first
       | exact ((hb.out.alloc hsb _).drew).grown hgr7 (by simp;omega) (fun q hq => (hown.out.lt q hq).1)
       | exact ((hb.out.drew.alloc hsb _)).grown hgr7 (by simp;omega) (fun q hq => (hown.out.lt q hq).1)
      clear hown7 hgr7;go_wp2_with fail

      go_roundw
      case rel => exact ⟨k + 1,g7,c7,out ++ qb c,by omega,by go_num,by rw [HOUT.out,List.append_assoc,HQT.out],by rw [HL7.out],HO7.out,HB7.out⟩
      case measure => simp [intOf];omega
    ·have d1 : decide ((c.toNat : Int) < 32) = false:=decide_eq_false (by omega)
     have d1n : ¬ c.toNat < 32:=h2
     by_cases h3 : 126 < c.toNat
     ·have d2 : decide ((126 : Int) < (c.toNat : Int)) = true:=decide_eq_true (by omega)
      have HQ : Hid (qb c = [92,120,hexd (c.toNat / 16),hexd (c.toNat % 16)]):=by
       show _ = _;unfold qb;rw [if_neg h1,if_pos (.inr h3)]
      clear h1 h2;obtain ⟨q,hq⟩ : ∃ q,q = c.toNat / 16:=⟨_,rfl⟩;obtain ⟨r,hr⟩ : ∃ r,r = c.toNat % 16:=⟨_,rfl⟩;have hqi : (c.toNat : Int) / 16 = (q : Int):=by omega
      have hand : bits BinOp.and IntKind.u8 (c.toNat : Int) 15 = (r : Int):=by rw [hr];exact and15 c256
      have q16 : q < 16:=by omega
      have r16 : r < 16:=by omega
      have q16i : (q : Int) < 16:=by omega
      have r16i : (r : Int) < 16:=by omega
      have hDq:=fun h' => hexd_at q16 h'
      have hDr:=fun h' => hexd_at r16 h'
      rw [← hq,← hr] at HQ;clear hq hr;go_upto_region 12 with fail
      go_region_law (refine step_push _ (by rfl) (.tmp 41) (.tmp 50) _ (by rfl) w.heap.size 5 i5 _ 1 1 Tryz.underlying29 I5.out hz5 hs5 hb5 (by rfl) (by omega) (.slice (some ⟨g,0,none⟩) out.length cap) out.length (Lib.byteCells out) (by rfl) ?_ wr.heap.size 4 4 #[.int .u8 92,.int .u8 120,.int .u8 ((hexd q).toNat : Int),.int .u8 ((hexd r).toNat : Int)] (by rfl) ?_ (by rfl) ?_ (by omega) ?_ ?_ ?_ ?_;exact hown.out.alloc _;exact Blk.new wr _ _;(intro u hu;simp at hu;rcases hu with rfl | rfl | rfl | rfl <;> rfl);(unfold maxLen;omega);omega;(simp;omega);intro g7 c7 w7 hown7 hgr7 _ _)
      all_goals
       have HO7 : Hid (w7.ownsRow w.heap.size 5 1 (.slice (some ⟨g7,0,none⟩) (out ++ qb c).length c7) (out ++ qb c).length (Lib.byteCells (out ++ qb c))):=by
        rw [HQ.out,List.length_append,Lib.byteCells_append];exact hown7
       have HL7 : Hid ((out ++ qb c).length = out.length + 4):=by rw [HQ.out,List.length_append];rfl
       have HB7 : Hid (Below w.heap.size w w7):=by
        first
        | exact ((hb.out.alloc hsb _).drew).grown hgr7 (by simp;omega) (fun q hq => (hown.out.lt q hq).1)
        | exact ((hb.out.drew.alloc hsb _)).grown hgr7 (by simp;omega) (fun q hq => (hown.out.lt q hq).1)
       clear hown7 hgr7;go_wp2_with fail

       go_roundw
       case rel => exact ⟨k + 1,g7,c7,out ++ qb c,by omega,by go_num,by rw [HOUT.out,List.append_assoc,HQT.out],by rw [HL7.out],HO7.out,HB7.out⟩
       case measure => simp [intOf];omega
     ·have d2 : decide ((126 : Int) < (c.toNat : Int)) = false:=decide_eq_false (by omega)
      have HQ : Hid (qb c = [c]):=by
       show _ = _;unfold qb;rw [if_neg h1,if_neg (by omega)]
      clear h1 h2;go_wp2_with (at_builtin;refine wpList_push rfl (.tmp 19) (.tmp 21) _ rfl w.heap.size 5 i5 _ 1 1 Tryz.underlying29 I5.out hz5 hs5 hb5 rfl (by omega) (.slice (some ⟨g,0,none⟩) out.length cap) out.length _ rfl hown.out 1 1 #[.int .u8 (c.toNat : Int)] rfl rfl (by simp [Value.oneCell']) (by omega) (by unfold maxLen;omega) (by omega) hsb ?_;intro g7 c7 w7 hown7 _ hb7 _ _ _;have HO7 : Hid (w7.ownsRow w.heap.size 5 1 (.slice (some ⟨g7,0,none⟩) (out ++ qb c).length c7) (out ++ qb c).length (Lib.byteCells (out ++ qb c))):=(by rw [HQ.out,List.length_append,Lib.byteCells_append];exact hown7);have HL7 : Hid ((out ++ qb c).length = out.length + 1):=(by rw [HQ.out,List.length_append];rfl);have HB7 : Hid (Below w.heap.size w w7):=hb.out.trans hb7;clear hown7 hb7);go_roundw
      case rel => exact ⟨k + 1,g7,c7,out ++ qb c,by omega,by go_num,by rw [HOUT.out,List.append_assoc,HQT.out],by rw [HL7.out],HO7.out,HB7.out⟩
      case measure => simp [intOf];omega
  ·obtain hks : k = s.size:=by omega
   have hki : ¬ (k : Int) < (s.size : Int):=by omega
   clear hlt
   go_wp2_with (first
    | (at_builtin;refine wpList_push rfl (.tmp 52) (.tmp 53) _ rfl w.heap.size 5 i5 _ 1 1 Tryz.underlying29 I5.out hz5 hs5 hb5 rfl (by omega) (.slice (some ⟨g,0,none⟩) out.length cap) out.length _ rfl hown.out 1 1 #[.int .u8 34] rfl rfl (by simp [Value.oneCell']) (by omega) (by unfold maxLen;omega) (by omega) hsb ?_;intro g7 c7 w7 hown7 _ hb7 _ _ _;have HO7 : Hid (w7.ownsRow w.heap.size 5 1 (.slice (some ⟨g7,0,none⟩) (out ++ [34]).length c7) (out ++ [34]).length (Lib.byteCells (out ++ [34]))):=(by rw [List.length_append,Lib.byteCells_append];exact hown7);have HB7:=hide hb7;clear hown7 hb7)
    | (refine wpList_conv_bytes rfl (.tmp 55) 29 9 5 rfl Tryz.underlying29 Tryz.underlying5 Tryz.underlying9 ⟨g7,0,none⟩ (out.length + 1) c7 (out ++ [34]) rfl (by simp) (own_bytes HO7.out) ?_))
   go_ret;refine ⟨?_,hb.out.trans HB7.out⟩;rw [HOUT.out,hks,List.take_of_length_le (by rw [str_len];exact Nat.le_refl _)]
   rfl
end Go.Proofs.YtcibcmfaebbhnaaGreatDoor
namespace Go.Proofs.YtcibcmfaebbhnaaGreatDoor
open Go
def nib (c : UInt8) : Option Nat:=if 48 ≤ c.toNat ∧ c.toNat ≤ 57 then some (c.toNat - 48) else if 97 ≤ c.toNat ∧ c.toNat ≤ 102 then some (c.toNat - 87) else none
theorem nib_lt {c : UInt8} {x : Nat} (h : nib c = some x) : x < 16:=by
 unfold nib at h
 split at h
 ·injection h with h;omega
 ·split at h
  ·injection h with h;omega
  ·cases h
inductive QS where
 | stop (rest : List UInt8)
 | byte (b : UInt8) (rest : List UInt8)
 | bad
def qhex : List UInt8 → QS
 | h :: l :: r =>
  match nib h,nib l with
  | some x,some y => .byte (UInt8.ofNat (16 * x + y)) r
  | _,_ => .bad
 | _ => .bad
def qesc : List UInt8 → QS
 | [] => .bad
 | d :: r => if d.toNat = 34 ∨ d.toNat = 92 then .byte d r else if d.toNat = 120 then qhex r else .bad
def qstep : List UInt8 → QS
 | [] => .bad
 | c :: r => if c.toNat = 34 then .stop r else if c.toNat < 32 ∨ 126 < c.toNat then .bad else if c.toNat ≠ 92 then .byte c r else qesc r
theorem qhex_lt {l : List UInt8} {b : UInt8} {r : List UInt8} (h : qhex l = .byte b r) : r.length + 2 = l.length:=by
 match l,h with
 | [],h => cases h
 | [_],h => cases h
 | x :: y :: r',h =>
  rw [qhex] at h
  cases hx : nib x with
  | none => simp [hx] at h
  | some a =>
   cases hy : nib y with
   | none => simp [hx,hy] at h
   | some b' =>
    simp only [hx,hy] at h;injection h with h1 h2
    subst h2;simp
theorem qhex_stop {l r : List UInt8} (h : qhex l = .stop r) : False:=by
 match l,h with
 | [],h => cases h
 | [_],h => cases h
 | x :: y :: r',h =>
  rw [qhex] at h
  cases hx : nib x with
  | none => simp [hx] at h
  | some a =>
   cases hy : nib y with
   | none => simp [hx,hy] at h
   | some b' => simp [hx,hy] at h
theorem qesc_lt {l : List UInt8} {b : UInt8} {r : List UInt8} (h : qesc l = .byte b r) : r.length < l.length:=by
 match l,h with
 | [],h => cases h
 | d :: r',h =>
  rw [qesc] at h
  split at h
  ·injection h with h1 h2
   subst h2;simp
  ·split at h
   ·have:=qhex_lt h
    simp;omega
   ·cases h
theorem qesc_stop {l r : List UInt8} (h : qesc l = .stop r) : False:=by
 match l,h with
 | [],h => cases h
 | d :: r',h =>
  rw [qesc] at h
  split at h
  ·cases h
  ·split at h
   ·exact qhex_stop h
   ·cases h
theorem qstep_stop {l r : List UInt8} (h : qstep l = .stop r) : r.length < l.length:=by
 match l,h with
 | [],h => cases h
 | c :: r',h =>
  rw [qstep] at h
  split at h
  ·injection h with h
   subst h;simp
  ·split at h
   ·cases h
   ·split at h
    ·cases h
    ·exact (qesc_stop h).elim
theorem qstep_byte {l : List UInt8} {b : UInt8} {r : List UInt8} (h : qstep l = .byte b r) : r.length < l.length:=by
 match l,h with
 | [],h => cases h
 | c :: r',h =>
  rw [qstep] at h
  split at h
  ·cases h
  ·split at h
   ·cases h
   ·split at h
    ·injection h with h1 h2
     subst h2;simp
    ·have:=qesc_lt h
     simp;omega
def unq (l : List UInt8) : Option (List UInt8 × List UInt8) :=
 match hq : qstep l with
 | .stop r => some ([],r)
 | .byte b r => (unq r).map fun p => (b :: p.1,p.2)
 | .bad => none
termination_by l.length
decreasing_by exact qstep_byte hq
theorem unq_eq (l : List UInt8) : unq l = match qstep l with
 | .stop r => some ([],r)
 | .byte b r => (unq r).map fun p => (b :: p.1,p.2)
 | .bad => none:=by
 rw [unq]
 split <;> rename_i h <;> simp [h]
theorem unq_stop {l r : List UInt8} (h : qstep l = .stop r) : unq l = some ([],r):=by rw [unq_eq,h]
theorem unq_byte {l r : List UInt8} {b : UInt8} (h : qstep l = .byte b r) : unq l = (unq r).map fun p => (b :: p.1,p.2):=by rw [unq_eq,h]
theorem unq_bad {l : List UInt8} (h : qstep l = .bad) : unq l = none:=by rw [unq_eq,h]
theorem unq_lt : ∀ (n : Nat) (l : List UInt8),l.length ≤ n → ∀ b r,unq l = some (b,r) → r.length < l.length
 | 0,l,hl,b,r,h => by
  have : l = []:=List.length_eq_zero_iff.1 (by omega);subst this;rw [unq_bad (by rfl)] at h
  cases h
 | n + 1,l,hl,b,r,h => by
  cases hq : qstep l with
  | stop r1 =>
   rw [unq_stop hq] at h;injection h with h
   injection h with h1 h2
   subst h2;exact qstep_stop hq
  | byte b1 r1 =>
   rw [unq_byte hq] at h;obtain ⟨p,hp,he⟩:=Option.map_eq_some_iff.1 h;injection he with h1 h2
   have hlt:=qstep_byte hq;have:=unq_lt n r1 (by omega) p.1 p.2 hp;rw [← h2];omega
  | bad =>
   rw [unq_bad hq] at h
   cases h
end Go.Proofs.YtcibcmfaebbhnaaGreatDoor
namespace Go.Proofs.YtcibcmfaebbhnaaGreatDoor
open Go.RowKit Go.WideShapes Go.ChangeShapes Q
theorem take_snoc {s : ByteArray} {j : Nat} (h : j < s.size) : s.data.toList.take (j + 1) = s.data.toList.take j ++ [s[j]]:=by
 rw [List.take_succ_eq_append_getElem (by rw [str_len];exact h)]
 rfl
theorem valD_take_le {s : ByteArray} (j : Nat) : valD 0 (s.data.toList.take j) ≤ valD 0 s.data.toList:=by
 have h : valD 0 s.data.toList = valD (valD 0 (s.data.toList.take j)) (s.data.toList.drop j):=by
  rw [← valD_app,List.take_append_drop]
 rw [h];exact valD_ge _ _
theorem bget {s : ByteArray} {j : Nat} (h : j < s.size) : s.data.toList[j]? = some s[j]:=by
 rw [List.getElem?_eq_getElem (by rw [str_len];exact h)]
 rfl
theorem bmem {s : ByteArray} {j : Nat} (h : j < s.size) : s[j] ∈ s.data.toList:=List.mem_of_getElem? (bget h)
theorem bempty {s : ByteArray} : s.data.toList = [] ↔ s.size = 0:=by
 rw [← List.length_eq_zero_iff,str_len]
theorem bhead {s : ByteArray} (h : 0 < s.size) : s.data.toList.head? = some s[0]:=by
 rw [List.head?_eq_getElem?];exact bget h
theorem cnt_shape {s : ByteArray} (h : s.size = 0 ∨ 19 < s.size ∨ (1 < s.size ∧ s.data.toList.head? = some 48)) : cnt s.data.toList = none:=by
 unfold cnt;rw [if_pos]
 rcases h with h | h | h
 ·exact .inl (bempty.2 h)
 ·exact .inr (.inl (by rw [str_len];exact h))
 ·exact .inr (.inr (by rw [str_len];exact h))
theorem cnt_digit {s : ByteArray} {j : Nat} (h : j < s.size) (hd : isD s[j] = false) : cnt s.data.toList = none:=by
 unfold cnt
 split
 ·rfl
 ·rw [if_neg]
  intro ha;rw [List.all_eq_true] at ha;rw [ha _ (bmem h)] at hd
  cases hd
theorem cnt_over {s : ByteArray} (j : Nat) (h : 4611686018427387904 < valD 0 (s.data.toList.take j)) : cnt s.data.toList = none:=by
 have:=valD_take_le (s:=s) j;unfold cnt
 split
 ·rfl
 ·split
  ·rw [if_neg (by omega)]
  ·rfl
theorem cnt_yes {s : ByteArray} (h0 : ¬ (s.size = 0 ∨ 19 < s.size ∨ (1 < s.size ∧ s.data.toList.head? = some 48))) (hd : s.data.toList.all isD = true) (hv : valD 0 s.data.toList ≤ 4611686018427387904) : cnt s.data.toList = some (valD 0 s.data.toList):=by
 unfold cnt;rw [if_neg,if_pos hd,if_pos hv];intro h
 apply h0
 rcases h with h | h | h
 ·exact .inl (bempty.1 h)
 ·rw [str_len] at h;exact .inr (.inl h)
 ·rw [str_len] at h;exact .inr (.inr h)
def CtLoop (s : ByteArray) (w : World) (v i : Value) (wr : World) : Prop:=w = wr ∧ ∃ j : Nat,j ≤ s.size ∧ i = .int .i64 j ∧ v = .int .i64 ((valD 0 (s.data.toList.take j) : Nat) : Int) ∧ (s.data.toList.take j).all isD = true ∧ valD 0 (s.data.toList.take j) ≤ 4611686018427387904
theorem count_ref (s : ByteArray) (w : World) (hs : s.size ≤ 1000000000000) :
  Calls Tryz.prog 114 #[.string s] w fun e w' => e = .returned (.int .i64 (cntZ s.data.toList)) ∧ w = w':=by
 by_cases hn : s.size = 0 ∨ 19 < s.size ∨ (1 < s.size ∧ s.data.toList.head? = some 48)
 ·have HS : Hid (cntZ s.data.toList = -1):=by
   show _ = _;unfold cntZ;rw [cnt_shape hn]
  by_cases h0 : s.size = 0
  ·have e0 : ((s.size : Int) == 0) = true:=by rw [beq_iff_eq];omega
   have e0' : (s.size : Int) = 0:=by omega
   clear hn;go_enter Tryz.func114,Tryz.ntmps114;go_wp2_with fail;go_ret;refine ⟨?_,rfl⟩;rw [HS.out]
   rfl
  ·have e0 : ((s.size : Int) == 0) = false:=by rw [beq_eq_false_iff_ne];omega
   by_cases h19 : 19 < s.size
   ·have e1 : (19 : Int) < (s.size : Int):=by omega
    clear hn h0;go_enter Tryz.func114,Tryz.ntmps114;go_wp2_with fail;go_ret;refine ⟨?_,rfl⟩;rw [HS.out]
    rfl
   ·obtain ⟨h1,h48⟩ : 1 < s.size ∧ s.data.toList.head? = some 48:=(hn.resolve_left h0).resolve_left h19
    have hz0 : 0 < s.size:=by omega
    obtain ⟨c0,hc0⟩ : ∃ c0,c0 = s[0]'hz0:=⟨_,rfl⟩;have hcc:=hc0.symm
    have hc : c0.toNat = 48:=by
     rw [bhead hz0,← hc0] at h48;rw [Option.some.inj h48]
     rfl
    have e1 : ¬ (19 : Int) < (s.size : Int):=by omega
    have e2 : ((c0.toNat : Int) == 48) = true:=by rw [beq_iff_eq];omega
    have e3 : (1 : Int) < (s.size : Int):=by omega
    have e4 : (0 : Int) < (s.size : Int):=by omega
    clear hn h0 h19 h48 hc0 hc;go_enter Tryz.func114,Tryz.ntmps114;go_wp2_with fail;go_ret;refine ⟨?_,rfl⟩;rw [HS.out]
    rfl
 ·have h0 : 0 < s.size:=by omega
  obtain ⟨c0,hc0⟩ : ∃ c0,c0 = s[0]:=⟨_,rfl⟩;have hcc:=hc0.symm;have e0 : ((s.size : Int) == 0) = false:=by rw [beq_eq_false_iff_ne];omega
  have e1 : ¬ (19 : Int) < (s.size : Int):=by omega
  have e4 : (0 : Int) < (s.size : Int):=by omega
  have h19 : s.size ≤ 19:=by omega
  have hz : c0.toNat = 48 → s.size = 1:=by
   intro h
   have hh : s.data.toList.head? = some 48:=by
    rw [bhead h0,← hc0]
    congr 1
    apply UInt8.toNat_inj.1
    exact h
   rcases Nat.lt_or_ge 1 s.size with h1 | h1
   ·exact absurd (.inr (.inr ⟨h1,hh⟩)) hn
   ·omega
  have HNO:=hide hn;have HL0 : Hid (CtLoop s w (.int .i64 0) (.int .i64 0) w):=⟨rfl,0,Nat.zero_le _,rfl,rfl,rfl,by simp [valD]⟩;clear hn hc0
  by_cases hc : c0.toNat = 48
  all_goals
   have e2 : ((c0.toNat : Int) == 48) = decide (c0.toNat = 48):=by rw [Bool.eq_iff_iff,beq_iff_eq,decide_eq_true_iff];omega
   have e3 : c0.toNat = 48 → ¬ (1 : Int) < (s.size : Int):=by intro h;have:=hz h;omega
   first
   | (rw [decide_eq_true hc] at e2;have e3:=e3 hc)
   | rw [decide_eq_false hc] at e2
   clear hz hc;go_enter Tryz.func114,Tryz.ntmps114;go_upto_region 5 with fail
   clear e0 e1 e2 e4 hcc
   try clear e3
   go_loopw [3,4,5] (fun v i _ wr => CtLoop s w v i wr) (fun _ i _ _ => s.size - (intOf i).toNat)
   case atStart => exact HL0.out
   case round =>
    clear HL0;unfold CtLoop at hrel;obtain ⟨rfl,j,hj,rfl,rfl,hall,hval⟩:=hrel;obtain ⟨V,hV⟩ : ∃ V,V = valD 0 (s.data.toList.take j):=⟨_,rfl⟩;rw [← hV] at hval ⊢;have HV:=hide hV;have HALL:=hide hall;clear hV hall;have j0 : (0 : Int) ≤ (j : Int):=by omega
    by_cases hlt : j < s.size
    ·obtain ⟨c,hc⟩ : ∃ c,c = s[j]:=⟨_,rfl⟩
     have hcc:=hc.symm;have HC:=hide hc;have c256 : c.toNat < 256:=c.toNat_lt;have js : (j : Int) < (s.size : Int):=by omega
     by_cases hd : 48 ≤ c.toNat ∧ c.toNat ≤ 57
     ·obtain ⟨d,hdd⟩ : ∃ d : Nat,d = c.toNat - 48:=⟨_,rfl⟩
      have hde : (c.toNat : Int) - 48 = (d : Int):=by omega
      have d1 : ¬ (c.toNat : Int) < 48:=by omega
      have d2 : ¬ 57 < (c.toNat : Int):=by omega
      have d9 : d ≤ 9:=by omega
      have hD : isD c = true:=decide_eq_true hd
      have HV2 : Hid (valD 0 (s.data.toList.take (j + 1)) = 10 * V + d):=by
       show _ = _;rw [take_snoc hlt,valD_snoc,← HV.out,← HC.out,← hdd]
      have HALL2 : Hid ((s.data.toList.take (j + 1)).all isD = true):=by
       show _ = _;rw [take_snoc hlt,List.all_append,HALL.out,← HC.out,List.all_cons,hD]
       rfl
      have hw1 : IntKind.u8.wrap ((c.toNat : Int) - 48) = (d : Int):=by rw [hde];exact u8_wrap _ (by omega) (by omega)
      have hw2 : IntKind.i64.wrap ((4611686018427387904 : Int) - (d : Int)) = 4611686018427387904 - (d : Int):=i64_wrap _ (by omega) (by omega);obtain ⟨M,hM⟩ : ∃ M : Nat,M = (4611686018427387904 - d) / 10:=⟨_,rfl⟩
      have hq : ((4611686018427387904 : Int) - (d : Int)).tdiv 10 = (M : Int):=by
       rw [Int.tdiv_eq_ediv_of_nonneg (by omega)];omega
      have hMb : M ≤ 461168601842738790:=by omega
      clear hc hd hdd hde
      by_cases hov : M < V
      ·have o1 : (M : Int) < (V : Int):=by omega
       have HS : Hid (cntZ s.data.toList = -1):=by
        show _ = _;unfold cntZ;rw [cnt_over (j + 1) (by rw [HV2.out];omega)]
       clear hM;go_wp2_with fail;go_ret;refine ⟨?_,rfl⟩;rw [HS.out]
       rfl
      ·have o1 : ¬ (M : Int) < (V : Int):=by omega
       have hV2 : 10 * V + d ≤ 4611686018427387904:=by omega
       have hw3 : IntKind.i64.wrap (10 * (V : Int)) = 10 * (V : Int):=i64_wrap _ (by omega) (by omega);have hw4 : IntKind.i64.wrap (10 * (V : Int) + (d : Int)) = 10 * (V : Int) + (d : Int):=i64_wrap _ (by omega) (by omega);have HL4 : Hid (CtLoop s w (.int .i64 (10 * (V : Int) + (d : Int))) (.int .i64 ((j : Int) + 1)) w):=⟨rfl,j + 1,by omega,by go_num,by first | (rw [HV2.out];done) | (rw [HV2.out];congr 1;done) | (rw [HV2.out];congr 1;omega),HALL2.out,by rw [HV2.out];exact hV2⟩;clear hM;go_wp2_with fail;go_roundw
       case rel => first | exact HL4.out | exact ⟨_,_,_,HL4.out,rfl,rfl,rfl⟩
       case measure => simp [intOf];omega
     ·have hD : isD c = false:=decide_eq_false hd
      have HS : Hid (cntZ s.data.toList = -1):=by
       show _ = _;unfold cntZ;rw [cnt_digit hlt (by rw [← HC.out];exact hD)]
      have g1 : (48 : Int) ≤ (c.toNat : Int) → 57 < (c.toNat : Int):=by omega
      clear hc hd
      by_cases hlo : (c.toNat : Int) < 48
      all_goals
       go_wp2_with fail
       all_goals try (exfalso;omega)
       all_goals go_ret
       all_goals refine ⟨?_,rfl⟩
       all_goals rw [HS.out]
       all_goals rfl
    ·have js : ¬ (j : Int) < (s.size : Int):=by omega
     have HS : Hid (cntZ s.data.toList = (V : Int)):=by
      have hjs : j = s.size:=by omega
      have ht : s.data.toList.take j = s.data.toList:=List.take_of_length_le (by rw [str_len];omega);have h1:=HV.out;have h2:=HALL.out;rw [ht] at h1 h2;show _ = _;unfold cntZ;rw [cnt_yes HNO.out h2 (by rw [← h1];exact hval),← h1]
     clear hlt;go_wp2_with fail;go_ret;refine ⟨?_,rfl⟩;rw [HS.out]
     rfl
end Go.Proofs.YtcibcmfaebbhnaaGreatDoor
