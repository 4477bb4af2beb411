/-
  Small laws that other texts lean on: the size of a sum of texts, a []byte turned into a text, a load of a whole struct. Plain: a line's words, read byte by byte; a line's words where a line's end may stand in a word. Plain: the event of a line's words, as the program reads it and as the document does. The reference's number of a word. A configuration: what the program's CheckConfig and the reference's answer: 0 where all numbers are in their ranges, else 22. Plain: a script's configuration out of its second and third lines. The reference's header: the names of a configuration's numbers.
-/
import Derived.StillTail
import Derived.Test.YtcibcmfaebbhnaaGreatDoorPRdc
import Derived.Test.YtcibcmfaebbhnaaGreatDoorPRead
import Derived.Lib.SpaceUEq
import Derived.Lib.MapLaws
import Derived.Test.YtcibcmfaebbhnaaGreatDoorRows
set_option linter.unusedSimpArgs false
set_option linter.unusedVariables false
set_option maxRecDepth 100000
set_option maxHeartbeats 2000000

namespace Go.Proofs.YtcibcmfaebbhnaaGreatDoor
open Go.RowKit Go.WideShapes Go.ChangeShapes Q
theorem size_lim {a b : List UInt8} (h : a.length + b.length ≤ 9223372036854775807) : ¬ 9223372036854775807 < (S a).size + (S b).size:=by
 rw [S_size,S_size];omega
theorem conv_reads {W : World} {B n c : Nat} {A : Option Addr} {l : List UInt8} (h : Reads W B 1 A n (Lib.byteCells l)) : (convert 29 9 (.slice A n c)).run Tryz.prog W = .ok (.string (S l)) W:=by
 have hl : l.length = n:=by have:=h.1;rw [Lib.byteCells_length] at this;omega
 rcases Nat.eq_zero_or_pos n with h0 | h0
 ·subst h0
  have : l = []:=List.eq_nil_of_length_eq_zero hl;subst this
  cases A with
  | none =>
   rw [run_convert_bytes_string W 29 9 5 none 0 c Tryz.underlying29 Tryz.underlying5 Tryz.underlying9];simp [Conv.bytesToString]
   rfl
  | some ad => exact run_conv_bytes (.tmp 0) 29 9 5 Tryz.underlying29 Tryz.underlying5 Tryz.underlying9 ad 0 c [] rfl fun j hj => absurd hj (by simp)
 ·obtain ⟨ad,rfl,_,hc⟩:=h.2 h0
  exact run_conv_bytes (.tmp 0) 29 9 5 Tryz.underlying29 Tryz.underlying5 Tryz.underlying9 ad n c l hl.symm fun j hj => hc j _ (by simp [Lib.byteCells,hj])
theorem blk_new (w : World) (t : TypeId) (cs : Array Value) (g : Nat) (h : g = w.heap.size) : Blk (w.alloc (.cells cs t)) g t cs:=by subst h;exact Blk.new w t cs
section
variable {P : Program}
theorem run_load_at (w : World) (ad : Addr) (ty : TypeId) (cs : Array Value) (d : TypeDesc) (hu : P.underlying ty = some d) (hd : (match d with | .struct _ | .array _ _ => true | _ => false) = true) (hi : (P.info? ty).map (·.size) = some cs.size)
  (h : ∀ j v,cs[j]? = some v → w.cell? (ad.add j) = some v) : (loadVar ty ad).run P w = .ok (.agg cs) w:=by
 have hl : (loadCells ad cs.toList.length).run P w = .ok cs.toList.toArray w:=run_loadCells_list (P:=P) w ad cs.toList (fun j v hv => h j v (by simpa using hv))
 cases hq : P.info? ty with
 | none => simp [hq] at hi
 | some i =>
  have hs : i.size = cs.size:=by simpa [hq] using hi
  have hagg : (isAgg ty).run P w = .ok true w:=by
   unfold isAgg;rw [Sem.run_bind,run_underlying hu w]
   cases d <;> simp_all
  simp only [Array.length_toList,Array.toArray_toList] at hl;simp [loadVar,Sem.run_bind,hagg,sizeOf,typeInfo,hq,hs,hl]
end
theorem own_ne {w : World} {base : Nat} {e t : TypeId} {size n g : Nat} {v : Value} {xs : List Value} {cs : Array Value} (ho : w.ownsRow base e size v n xs) (hb : Blk w g t cs) (ht : t ≠ e) : some g ≠ v.ownBlock:=by
 intro h
 rcases ho.2 with ⟨rfl,_⟩ | ⟨g',cap,cur,rfl,_,hg,_⟩
 ·cases h
 ·have : g = g':=by simpa [Value.ownBlock] using h
  subst this;exact Blk.ne_ hb (t':=e) hg ht rfl
theorem own_slice {w : World} {base : Nat} {e : TypeId} {size n : Nat} {v : Value} {xs : List Value} (h : w.ownsRow base e size v n xs) : ∃ A c,v = .slice A n c ∧ Reads w w.heap.size size A n xs ∧ n ≤ c:=by
 have hr:=h
 rcases h.2 with ⟨rfl,h0⟩ | ⟨g,cap,cur,rfl,_,hg,hc,_⟩
 ·refine ⟨none,0,by rw [h0],⟨h.1,fun hn => by omega⟩,by omega⟩
 ·exact ⟨some ⟨g,0,none⟩,cap,rfl,Reads.of_own hr,hc⟩
theorem own_slice' {w : World} {base : Nat} {e : TypeId} {size n : Nat} {v : Value} {xs : List Value} (h : w.ownsRow base e size v n xs) : ∃ A c,v = .slice A n c:=by
 rcases h.2 with ⟨h0,h1⟩ | ⟨g,cap,cur,h0,_⟩
 ·exact ⟨none,0,by rw [h0,h1]⟩
 ·exact ⟨_,_,h0⟩
theorem own_step {w w' : World} {base : Nat} {e : TypeId} {size n : Nat} {v : Value} {xs : List Value} (ho : w.ownsRow base e size v n xs) (h : Below w.heap.size w w') : w'.ownsRow base e size v n xs :=
 ho.kept (only_of_below h none) (by cases h1 : v.ownBlock with | none => exact .inl rfl | some g => exact .inr (by simp))
theorem own_kept {w w' : World} {b b' : Nat} {e e' : TypeId} {s s' n n' : Nat} {v v' : Value} {xs xs' : List Value} (h : w.ownsRow b e s v n xs) (h' : w.ownsRow b' e' s' v' n' xs') (hne : e ≠ e') (hg : w.grownBy w' v'.ownBlock) : w'.ownsRow b e s v n xs:=by
 refine h.kept hg ?_
 rcases h.2 with ⟨rfl,_⟩ | ⟨g,cap,cur,rfl,_,hk,_⟩
 ·exact .inl rfl
 ·exact .inr (own_ne h' hk hne)
end Go.Proofs.YtcibcmfaebbhnaaGreatDoor
namespace Go.Proofs.YtcibcmfaebbhnaaGreatDoor
open Go
def blk (c : UInt8) : Bool:=c.toNat == 32 || c.toNat == 9
def plnB (nl : Bool) (c : UInt8) : Bool:=!blk c && !(c.toNat == 34) && !(nl && c.toNat == 10)
def edge : List UInt8 → Bool
 | [] => true
 | c :: _ => blk c
abbrev Wd:=List UInt8 × Bool
theorem drop_len (p : UInt8 → Bool) (l : List UInt8) : (l.dropWhile p).length ≤ l.length:=(List.dropWhile_sublist p).length_le
def wordsG (nl : Bool) (l : List UInt8) : Option (List Wd) :=
 match l with
 | [] => some []
 | c :: r =>
  if blk c = true then wordsG nl r
  else if c.toNat = 34 then
   match h : unq r with
   | none => none
   | some p => if edge p.2 = true then (wordsG nl p.2).map ((p.1,true) :: ·) else none
  else if plnB nl c = true ∧ edge (r.dropWhile (plnB nl)) = true then (wordsG nl (r.dropWhile (plnB nl))).map ((c :: r.takeWhile (plnB nl),false) :: ·) else none
termination_by l.length
decreasing_by
 ·simp
 ·have:=unq_lt _ r (Nat.le_refl _) p.1 p.2 h
  simp only [List.length_cons];omega
 ·have:=drop_len (plnB nl) r
  simp only [List.length_cons];omega
section
variable {nl : Bool}
theorem wds_nil : wordsG nl [] = some []:=by rw [wordsG]
theorem wds_blank {c : UInt8} (r : List UInt8) (h : blk c = true) : wordsG nl (c :: r) = wordsG nl r:=by
 conv => lhs;rw [wordsG]
 rw [if_pos h]
theorem wds_str {c : UInt8} (r : List UInt8) (h : c.toNat = 34) : wordsG nl (c :: r) = match unq r with
  | none => none
  | some p => if edge p.2 = true then (wordsG nl p.2).map ((p.1,true) :: ·) else none:=by
 have hb : ¬ blk c = true:=by unfold blk;rw [h];decide
 conv => lhs;rw [wordsG]
 rw [if_neg hb,if_pos h]
 split <;> (rename_i h1;rw [h1])
theorem wds_run {c : UInt8} (r : List UInt8) (h : plnB nl c = true) : wordsG nl (c :: r) = if edge (r.dropWhile (plnB nl)) = true then (wordsG nl (r.dropWhile (plnB nl))).map ((c :: r.takeWhile (plnB nl),false) :: ·) else none:=by
 have hb : ¬ blk c = true:=by
  intro e;unfold plnB at h;rw [e] at h;simp at h
 have hq : ¬ c.toNat = 34:=by
  intro e;unfold plnB at h;rw [e] at h;simp at h
 conv => lhs;rw [wordsG]
 rw [if_neg hb,if_neg hq]
 by_cases he : edge (r.dropWhile (plnB nl)) = true
 ·rw [if_pos ⟨h,he⟩,if_pos he]
 ·rw [if_neg (fun h => he h.2),if_neg he]
theorem wds_stop {c : UInt8} (r : List UInt8) (hb : blk c = false) (hq : ¬ c.toNat = 34) (h : plnB nl c = false) : wordsG nl (c :: r) = none:=by
 conv => lhs;rw [wordsG]
 rw [if_neg (by rw [hb];decide),if_neg hq,if_neg (by rw [h];rintro ⟨h1,_⟩;cases h1)]
theorem takeW {p : UInt8 → Bool} : ∀ {w t : List UInt8},(∀ q ∈ w,p q = true) → (t = [] ∨ ∃ c r,t = c :: r ∧ p c = false) → (w ++ t).takeWhile p = w ∧ (w ++ t).dropWhile p = t
 | [],t,_,ht => by
  rcases ht with rfl | ⟨c,r,rfl,hc⟩
  ·exact ⟨rfl,rfl⟩
  ·simp [List.takeWhile,List.dropWhile,hc]
 | a :: w,t,hw,ht => by
  have h1:=takeW (p:=p) (w:=w) (t:=t) (fun q hq => hw q (by simp [hq])) ht;have h2:=hw a (by simp);simp [List.takeWhile,List.dropWhile,h2,h1.1,h1.2]
theorem wds_word {w t : List UInt8} (hne : w ≠ []) (hw : ∀ q ∈ w,plnB nl q = true) (ht : t = [] ∨ ∃ c r,t = c :: r ∧ plnB nl c = false) : wordsG nl (w ++ t) = if edge t = true then (wordsG nl t).map ((w,false) :: ·) else none:=by
 cases w with
 | nil => exact absurd rfl hne
 | cons a w =>
  have h1:=takeW (p:=plnB nl) (w:=w) (t:=t) (fun q hq => hw q (by simp [hq])) ht;rw [List.cons_append,wds_run _ (hw a (by simp)),h1.1,h1.2]
theorem blk_pln {c : UInt8} (h : blk c = true) : plnB nl c = false:=by unfold plnB;rw [h];rfl
theorem quo_pln {c : UInt8} (h : c.toNat = 34) : plnB nl c = false:=by unfold plnB;rw [h];simp
theorem wds_last {w : List UInt8} (hne : w ≠ []) (hw : ∀ q ∈ w,plnB nl q = true) : wordsG nl w = some [(w,false)]:=by
 have:=wds_word hne hw (.inl rfl : ([] : List UInt8) = [] ∨ _);rw [List.append_nil] at this;rw [this,if_pos (show edge [] = true from rfl),wds_nil]
 rfl
theorem wds_sep {w r : List UInt8} {c : UInt8} (hne : w ≠ []) (hw : ∀ q ∈ w,plnB nl q = true) (hc : blk c = true) : wordsG nl (w ++ c :: r) = (wordsG nl r).map ((w,false) :: ·):=by
 rw [wds_word hne hw (.inr ⟨c,r,rfl,blk_pln hc⟩),if_pos (show edge (c :: r) = true from hc),wds_blank r hc]
theorem wds_bad {w r : List UInt8} {c : UInt8} (hne : w ≠ []) (hw : ∀ q ∈ w,plnB nl q = true) (hb : blk c = false) (hc : plnB nl c = false) : wordsG nl (w ++ c :: r) = none:=by
 rw [wds_word hne hw (.inr ⟨c,r,rfl,hc⟩),if_neg (by show ¬ blk c = true;rw [hb];decide)]
end
def Inn (q : UInt8) : Prop:=32 ≤ q.toNat ∧ q.toNat ≤ 126
theorem nib_inn {c : UInt8} {x : Nat} (h : nib c = some x) : Inn c:=by
 unfold nib at h
 split at h
 ·exact ⟨by omega,by omega⟩
 ·split at h
  ·exact ⟨by omega,by omega⟩
  ·cases h
theorem qhex_pre {l r : List UInt8} {b : UInt8} (h : qhex l = .byte b r) : ∃ a,l = a ++ r ∧ ∀ q ∈ a,Inn q:=by
 match l,h with
 | [],h => cases h
 | [_],h => cases h
 | x :: y :: r',h =>
  rw [qhex] at h
  cases hx : nib x with
  | none => simp [hx] at h
  | some a =>
   cases hy : nib y with
   | none => simp [hx,hy] at h
   | some b' =>
    simp only [hx,hy] at h;injection h with h1 h2
    subst h2;refine ⟨[x,y],rfl,fun q hq => ?_⟩;simp only [List.mem_cons,List.mem_nil_iff,or_false] at hq
    rcases hq with rfl | rfl
    ·exact nib_inn hx
    ·exact nib_inn hy
theorem qesc_pre {l r : List UInt8} {b : UInt8} (h : qesc l = .byte b r) : ∃ a,l = a ++ r ∧ ∀ q ∈ a,Inn q:=by
 match l,h with
 | [],h => cases h
 | d :: r',h =>
  rw [qesc] at h
  split at h
  ·rename_i hd
   injection h with h1 h2
   subst h2;refine ⟨[d],rfl,fun q hq => ?_⟩;simp only [List.mem_cons,List.mem_nil_iff,or_false] at hq;subst hq
   rcases hd with hd | hd <;> exact ⟨by omega,by omega⟩
  ·split at h
   ·rename_i hd
    obtain ⟨a,rfl,ha⟩:=qhex_pre h;refine ⟨d :: a,rfl,fun q hq => ?_⟩
    rcases List.mem_cons.1 hq with rfl | hq
    ·exact ⟨by omega,by omega⟩
    ·exact ha q hq
   ·cases h
theorem qstep_pre {l r : List UInt8} {b : UInt8} (h : qstep l = .byte b r) : ∃ a,l = a ++ r ∧ ∀ q ∈ a,Inn q:=by
 match l,h with
 | [],h => cases h
 | c :: r',h =>
  rw [qstep] at h
  split at h
  ·cases h
  ·split at h
   ·cases h
   ·rename_i h1 h2
    have hc : Inn c:=⟨by omega,by omega⟩
    split at h
    ·injection h with h3 h4
     subst h4;refine ⟨[c],rfl,fun q hq => ?_⟩;simp only [List.mem_cons,List.mem_nil_iff,or_false] at hq;subst hq;exact hc
    ·obtain ⟨a,rfl,ha⟩:=qesc_pre h
     refine ⟨c :: a,rfl,fun q hq => ?_⟩
     rcases List.mem_cons.1 hq with rfl | hq
     ·exact hc
     ·exact ha q hq
theorem qstop_pre {l r : List UInt8} (h : qstep l = .stop r) : ∃ a,l = a ++ r ∧ ∀ q ∈ a,Inn q:=by
 match l,h with
 | [],h => cases h
 | c :: r',h =>
  rw [qstep] at h
  split at h
  ·rename_i hc
   injection h with h
   subst h;refine ⟨[c],rfl,fun q hq => ?_⟩;simp only [List.mem_cons,List.mem_nil_iff,or_false] at hq;subst hq;exact ⟨by omega,by omega⟩
  ·split at h
   ·cases h
   ·split at h
    ·cases h
    ·exact absurd (qesc_stop h) id
theorem unq_pre : ∀ (n : Nat) (l : List UInt8),l.length ≤ n → ∀ b r,unq l = some (b,r) → ∃ a,l = a ++ r ∧ ∀ q ∈ a,Inn q
 | n,l,hn,b,r,h => by
  cases hs : qstep l with
  | bad => rw [unq_bad hs] at h;cases h
  | stop r' =>
   rw [unq_stop hs] at h;injection h with h
   injection h with h1 h2
   subst h2;exact qstop_pre hs
  | byte c r' =>
   rw [unq_byte hs] at h
   cases hu : unq r' with
   | none => rw [hu] at h;cases h
   | some p =>
    obtain ⟨b2,r2⟩:=p;rw [hu] at h;injection h with h
    injection h with h1 h2
    have hlt:=qstep_byte hs
    match n,hn with
    | 0,hn => omega
    | n + 1,hn =>
     obtain ⟨a2,e2,h3⟩:=unq_pre n r' (by omega) b2 r2 hu;obtain ⟨a1,e1,h4⟩:=qstep_pre hs;simp only at h2;subst h2;refine ⟨a1 ++ a2,by rw [e1,e2,List.append_assoc],fun q hq => ?_⟩
     rcases List.mem_append.1 hq with hq | hq
     ·exact h4 q hq
     ·exact h3 q hq
theorem take_plain {p : UInt8 → Bool} : ∀ (l : List UInt8),∀ q ∈ l.takeWhile p,p q = true
 | [],q,hq => by cases hq
 | a :: l,q,hq => by
  cases h : p a with
  | true =>
   rw [List.takeWhile_cons,h,if_pos rfl] at hq
   rcases List.mem_cons.1 hq with rfl | hq
   ·exact h
   ·exact take_plain l q hq
  | false =>
   rw [List.takeWhile_cons,h,if_neg (by decide)] at hq
   cases hq
theorem wds_nl : ∀ (n : Nat) (l : List UInt8),l.length ≤ n → ((∀ q ∈ l,¬ q.toNat = 10) → wordsG true l = wordsG false l) ∧ ((∃ q ∈ l,q.toNat = 10) → wordsG true l = none)
 | n,[],hn => ⟨fun _ => by rw [wds_nil,wds_nil],fun h => by obtain ⟨q,hq,_⟩:=h;cases hq⟩
 | 0,c :: r,hn => by simp at hn
 | n + 1,c :: r,hn => by
  have hr : r.length ≤ n:=by simpa using hn
  by_cases hb : blk c = true
  ·have ih:=wds_nl n r hr
   have h10 : ¬ c.toNat = 10:=by
    intro e;unfold blk at hb;rw [e] at hb
    cases hb
   rw [wds_blank r hb,wds_blank r hb];refine ⟨fun h => ih.1 fun q hq => h q (by simp [hq]),fun h => ih.2 ?_⟩;obtain ⟨q,hq,e⟩:=h
   rcases List.mem_cons.1 hq with rfl | hq
   ·exact absurd e h10
   ·exact ⟨q,hq,e⟩
  ·by_cases hq : c.toNat = 34
   ·rw [wds_str r hq,wds_str r hq]
    cases hu : unq r with
    | none => exact ⟨fun _ => rfl,fun _ => rfl⟩
    | some p =>
     obtain ⟨b,t⟩:=p;obtain ⟨a,ha,hin⟩:=unq_pre _ r (Nat.le_refl _) b t hu;have hlt:=unq_lt _ r (Nat.le_refl _) b t hu;have ih:=wds_nl n t (by omega);simp only
     by_cases he : edge t = true
     ·rw [if_pos he,if_pos he]
      refine ⟨fun h => by rw [ih.1 fun q hq => h q (by rw [ha];simp [hq])],fun h => ?_⟩;obtain ⟨q,hq2,e⟩:=h;rw [ih.2,Option.map_none]
      rcases List.mem_cons.1 hq2 with rfl | hq2
      ·omega
      ·rw [ha] at hq2
       rcases List.mem_append.1 hq2 with hq2 | hq2
       ·have:=(hin q hq2).1
        omega
       ·exact ⟨q,hq2,e⟩
     ·rw [if_neg he,if_neg he]
      exact ⟨fun _ => rfl,fun _ => rfl⟩
   ·have hbf : blk c = false:=by simpa using hb
    by_cases h10 : c.toNat = 10
    ·have hp : plnB true c = false:=by unfold plnB;rw [h10];simp
     rw [wds_stop r hbf hq hp];exact ⟨fun h => absurd h10 (h c (by simp)),fun _ => rfl⟩
    ·have hp : ∀ nl,plnB nl c = true:=fun nl => by
      unfold plnB;rw [hbf];simp [hq,h10]
     have hagree : ∀ w : List UInt8,(∀ q ∈ w,¬ q.toNat = 10) → ∀ q ∈ w,plnB true q = plnB false q:=fun w hw q hq => by
      unfold plnB;simp [hw q hq]
     -- the run of the narrow reading
     have e0 : r.takeWhile (plnB true) ++ r.dropWhile (plnB true) = r:=List.takeWhile_append_dropWhile;obtain ⟨w,hw⟩ : ∃ w,w = r.takeWhile (plnB true):=⟨_,rfl⟩;obtain ⟨t,ht⟩ : ∃ t,t = r.dropWhile (plnB true):=⟨_,rfl⟩;have hwp : ∀ q ∈ w,plnB true q = true:=by rw [hw];exact take_plain r
     have hw10 : ∀ q ∈ w,¬ q.toNat = 10:=fun q hq e => by
      have:=hwp q hq;unfold plnB at this;rw [e] at this;simp at this
     have htl : t.length ≤ r.length:=by rw [ht];exact drop_len _ _
     have ih:=wds_nl n t (by omega);rw [wds_run r (hp true),← hw,← ht];rw [← hw,← ht] at e0
     have hhead : t = [] ∨ ∃ c' r',t = c' :: r' ∧ plnB true c' = false:=by
      cases hT : t with
      | nil => exact .inl rfl
      | cons c' r' =>
       refine .inr ⟨c',r',rfl,?_⟩;have:=List.head?_dropWhile_not (plnB true) r;rw [← ht,hT] at this;simpa using this
     refine ⟨fun h => ?_,fun h => ?_⟩
     ·have hr10 : ∀ q ∈ r,¬ q.toNat = 10:=fun q hq => h q (by simp [hq])
      have hwf : ∀ q ∈ w,plnB false q = true:=fun q hq => by rw [← hagree w hw10 q hq];exact hwp q hq
      have htf : t = [] ∨ ∃ c' r',t = c' :: r' ∧ plnB false c' = false:=by
       rcases hhead with h1 | ⟨c',r',h1,h2⟩
       ·exact .inl h1
       ·refine .inr ⟨c',r',h1,?_⟩
        have h3 : c' ∈ r:=by rw [← e0,h1];simp
        have h4:=hr10 c' h3;have h5 : plnB false c' = plnB true c':=by unfold plnB;simp [h4]
        exact h5.trans h2
      have h5:=takeW hwf htf;rw [e0] at h5;rw [wds_run r (hp false),h5.1,h5.2,ih.1 fun q hq => hr10 q (by rw [← e0];simp [hq])]
     ·obtain ⟨q,hq2,e⟩:=h
      have hqt : q ∈ t:=by
       rcases List.mem_cons.1 hq2 with rfl | hq2
       ·exact absurd e h10
       ·rw [← e0] at hq2
        rcases List.mem_append.1 hq2 with hq2 | hq2
        ·exact absurd e (hw10 q hq2)
        ·exact hq2
      rw [ih.2 ⟨q,hqt,e⟩]
      split <;> rfl
theorem rune_low {c : UInt8} (r : List UInt8) (h : c.toNat < 128) : Lib.decodeL (c :: r) = (c.toNat,1):=Lib.decodeL_ascii c r h
theorem take_low {l : List UInt8} {n : Nat} (h0 : 0 < n → 128 ≤ (l.getD 0 0).toNat) (h1 : 1 < n → 128 ≤ (l.getD 1 0).toNat) (h2 : 2 < n → 128 ≤ (l.getD 2 0).toNat) (h3 : 3 < n → 128 ≤ (l.getD 3 0).toNat) (hn : n ≤ 4) : ∀ q ∈ l.take n,128 ≤ q.toNat:=by
 intro q hq;obtain ⟨i,hi,rfl⟩:=List.getElem_of_mem hq;rw [List.length_take] at hi;rw [List.getElem_take];have e : l.getD i 0 = l[i]:=by simp [show i < l.length by omega]
 rw [← e];have : i = 0 ∨ i = 1 ∨ i = 2 ∨ i = 3:=by omega
 rcases this with rfl | rfl | rfl | rfl
 ·exact h0 (by omega)
 ·exact h1 (by omega)
 ·exact h2 (by omega)
 ·exact h3 (by omega)
theorem rune_high {c : UInt8} (r : List UInt8) (h : 128 ≤ c.toNat) : 128 ≤ (Lib.decodeL (c :: r)).1 ∧ 1 ≤ (Lib.decodeL (c :: r)).2 ∧ (Lib.decodeL (c :: r)).2 ≤ (c :: r).length ∧ ∀ q ∈ (c :: r).take (Lib.decodeL (c :: r)).2,128 ≤ q.toNat:=by
 obtain ⟨l,hl⟩ : ∃ l,l = c :: r:=⟨_,rfl⟩;have hc : (l.getD 0 0).toNat = c.toNat:=by rw [hl];rfl
 have hlen : 1 ≤ l.length:=by rw [hl];simp
 rw [← hl,Lib.decodeL_N]
 rcases Lib.decodeN_shape l.length (l.getD 0 0).toNat (l.getD 1 0).toNat (l.getD 2 0).toNat (l.getD 3 0).toNat with ⟨h1,_⟩ | ⟨h1,h2,h3,h4,e⟩ | ⟨h1,h2,h3,h4,h5,h6,e⟩ | ⟨h1,h2,h3,h4,h5,h6,h7,e⟩ | e
 ·omega
 ·rw [e];exact ⟨by show 128 ≤ _;omega,by show 1 ≤ 2;omega,by show 2 ≤ _;omega,take_low (fun _ => by omega) (fun _ => by omega) (fun h => by simp at h) (fun h => by simp at h) (by simp)⟩
 ·rw [e];exact ⟨by show 128 ≤ _;omega,by show 1 ≤ 3;omega,by show 3 ≤ _;omega,take_low (fun _ => by omega) (fun _ => by omega) (fun _ => by omega) (fun h => by simp at h) (by simp)⟩
 ·rw [e];exact ⟨by show 128 ≤ _;omega,by show 1 ≤ 4;omega,by show 4 ≤ _;omega,take_low (fun _ => by omega) (fun _ => by omega) (fun _ => by omega) (fun _ => by omega) (by simp)⟩
 ·rw [e];exact ⟨by show 128 ≤ 65533;omega,by show 1 ≤ 1;omega,by show 1 ≤ _;omega,take_low (fun _ => by omega) (fun h => by simp at h) (fun h => by simp at h) (fun h => by simp at h) (by simp)⟩
structure Ev where
 (kd a b n cl cn rq op : Int)
 (key val old bd : List UInt8)
 sd : List Int
def Ev.zero : Ev:=⟨0,0,0,0,0,0,0,0,[],[],[],[],[]⟩
def wcnt (w : Wd) : Option Nat:=if w.2 = true then none else cnt w.1
inductive Lt where
 | P | Q | K | N | D | T | X
def thingE (nodes : Nat) (e : Ev) (c : Lt) (w : Wd) : Option Ev:=match c with
 | .P => match wcnt w with | some x => if x < nodes then some { e with a:=x } else none | none => none
 | .Q => match wcnt w with | some x => if x < nodes ∧ ¬ (x : Int) = e.a then some { e with b:=x } else none | none => none
 | .K => match wcnt w with | some x => some { e with a:=x } | none => none
 | .N => match wcnt w with | some x => some { e with n:=x } | none => none
 | .D => match wcnt w with | some x => if 1 ≤ x ∧ x ≤ 16 then some { e with n:=x } else none | none => none
 | .T => if w.2 = true ∧ w.1.length ≤ 4000 then some { e with bd:=w.1 } else none
 | .X => if w.2 = true ∧ w.1.length ≤ 40000 then some { e with bd:=w.1 } else none
def thingsE (nodes : Nat) : List Lt → List Wd → Ev → Option Ev
 | [],[],e => some e
 | [],_ :: _,_ => none
 | _ :: _,[],_ => none
 | c :: cs,w :: ws,e => match thingE nodes e c w with | some e' => thingsE nodes cs ws e' | none => none
theorem things_len {nodes : Nat} : ∀ (cs : List Lt) (ws : List Wd) (e : Ev),¬ ws.length = cs.length → thingsE nodes cs ws e = none
 | [],[],e,h => absurd rfl h
 | [],_ :: _,e,_ => rfl
 | _ :: _,[],e,_ => rfl
 | c :: cs,w :: ws,e,h => by
  unfold thingsE
  cases thingE nodes e c w with
  | none => rfl
  | some e' => exact things_len cs ws e' (fun h' => h (by simp [h']))
def opL : List (List UInt8):=[[115,101,116],[103,101,116],[99,97,115],[100,101,108],[97,100,100],[108,111,99,107],[117,110,108,111,99,107],[102,101,110,99,101],[101,110,100]]
def opNo (s : List UInt8) : Nat:=match opL.findIdx? (· == s) with | some i => i + 1 | none => 0
def txtE (w : Wd) : Option (List UInt8):=if w.2 = true ∧ w.1.length ≤ 16 then some w.1 else none
def txtsE (e : Ev) : List Wd → Option Ev
 | [k] => match txtE k with | some x => some { e with key:=x } | none => none
 | [k,v] => match txtE k,txtE v with | some x,some y => some { e with key:=x,val:=y } | _,_ => none
 | [k,v,o] => match txtE k,txtE v,txtE o with | some x,some y,some z => some { e with key:=x,val:=y,old:=z } | _,_,_ => none
 | _ => none
def doE (nodes : Nat) : List Wd → Option Ev
 | p :: o :: ts => match wcnt p with
  | some x => if x < nodes ∧ o.2 = false ∧ 0 < opNo o.1 then txtsE { Ev.zero with kd:=4,a:=x,op:=opNo o.1 } ts else none
  | none => none
 | _ => none
def sidesE : List Wd → Option (List Int)
 | [] => some []
 | w :: ws => match wcnt w with
  | some x => if x < 16 then (sidesE ws).map ((x : Int) :: ·) else none
  | none => none
def splitE (nodes : Nat) (ws : List Wd) : Option Ev:=if ws.length = nodes then (sidesE ws).map fun l => { Ev.zero with kd:=11,sd:=l } else none
def formL : List (List UInt8 × Int × List Lt):=[
 ([110,111,111,112],0,[]),([114,111,117,110,100],1,[]),([116,105,99,107],2,[.P]),([115,101,110,100],3,[.P,.T]),([99,114,97,115,104],5,[.P]),
 ([114,101,115,116,97,114,116],6,[.P]),([116,101,97,114],7,[.P,.N]),([108,101,97,118,101],18,[.P]),([99,117,116],8,[.P,.Q]),([104,101,97,108],9,[.P,.Q]),
 ([100,101,108,97,121],10,[.P,.Q,.D]),([100,114,111,112],12,[.K]),([100,117,112],13,[.K]),([110,111,119],14,[.K]),([104,111,108,100],15,[.K,.D]),
 ([102,108,105,112],16,[.K,.N]),([105,110,106,101,99,116],17,[.P,.Q,.X])]
def eventE (nodes : Nat) : List Wd → Option Ev
 | [] => none
 | w :: ws =>
  if w.2 = true then none
  else if w.1 = [100,111] then doE nodes ws
  else if w.1 = [115,112,108,105,116] then splitE nodes ws
  else match formL.find? (fun f => f.1 == w.1) with
   | some f => thingsE nodes f.2.2 ws { Ev.zero with kd:=f.2.1 }
   | none => none
def lineE (nodes : Int) (t : List UInt8) : Ev :=
 if 1 ≤ nodes ∧ nodes ≤ 16 then
  match wordsG true t with
  | some ws => (eventE nodes.toNat ws).getD Ev.zero
  | none => Ev.zero
 else Ev.zero
theorem lineE_prog (nodes : Int) (t : List UInt8) : lineE nodes t = if 1 ≤ nodes ∧ nodes ≤ 16 ∧ ∀ q ∈ t,¬ q.toNat = 10 then (match wordsG false t with | some ws => (eventE nodes.toNat ws).getD Ev.zero | none => Ev.zero) else Ev.zero:=by
 unfold lineE
 by_cases h : 1 ≤ nodes ∧ nodes ≤ 16
 ·rw [if_pos h]
  have hn:=wds_nl t.length t (Nat.le_refl _)
  by_cases h10 : ∀ q ∈ t,¬ q.toNat = 10
  ·rw [if_pos ⟨h.1,h.2,h10⟩,hn.1 h10]
  ·rw [if_neg (fun h' => h10 h'.2.2),hn.2 (by
    simp only [Classical.not_forall,Classical.not_not] at h10;obtain ⟨q,hq,e⟩:=h10;exact ⟨q,hq,e⟩)]
 ·rw [if_neg h,if_neg (fun h' => h ⟨h'.1,h'.2.1⟩)]
end Go.Proofs.YtcibcmfaebbhnaaGreatDoor
namespace Go.Proofs.YtcibcmfaebbhnaaGreatDoor
open Go.RowKit Go.WideShapes Go.ChangeShapes Q
def wcntZ (w : Wd) : Int:=match wcnt w with | some n => (n : Int) | none => -1
theorem number_ref (q : Bool) (s : ByteArray) (w : World) (hs : s.size ≤ 1000000000000) :
  Calls Tryz.prog 105 #[.agg #[.bool q,.string s]] w fun e w' => e = .returned (.int .i64 (wcntZ (s.data.toList,q))) ∧ Below w.heap.size w w':=by
 have HC:=hide (count_ref s (w.alloc (.cells #[.bool q,.string s] 165)) hs);have HB:=hide ((Below.refl w.heap.size w).alloc (Nat.le_refl _) (.cells #[.bool q,.string s] 165));have P1 : Blk (w.alloc (.cells #[.bool q,.string s] 165)) w.heap.size 165 #[.bool q,.string s]:=Blk.new _ _ _;have c0:=P1.cell 0;have c1:=P1.cell 1;clear P1
 cases q with
 | true =>
  go_enter Tryz.func105,Tryz.ntmps105;go_wp2_with fail;go_ret;exact ⟨rfl,HB.out⟩
 | false =>
  go_enter Tryz.func105,Tryz.ntmps105;go_wp2_with (go_at_call 114;refine HC.out.mono ?_;rintro e w2 ⟨rfl,rfl⟩);go_ret;exact ⟨rfl,HB.out⟩
def inB (v lo hi : Int) : Bool:=decide (lo ≤ v) && decide (v ≤ hi)
theorem inB_true {v lo hi : Int} (h : inB v lo hi = true) : lo ≤ v ∧ v ≤ hi:=by
 unfold inB at h;simp only [Bool.and_eq_true,decide_eq_true_eq] at h;exact h
theorem inB_false {v lo hi : Int} (h : inB v lo hi = false) : v < lo ∨ hi < v:=by
 unfold inB at h;simp only [Bool.and_eq_false_iff,decide_eq_false_iff_not] at h;omega
theorem inB_mk {v lo hi : Int} (h1 : lo ≤ v) (h2 : v ≤ hi) : inB v lo hi = true:=by unfold inB;simp [h1,h2]
theorem inB_lo {v lo hi : Int} (h : v < lo) : inB v lo hi = false:=by
 unfold inB;simp only [Bool.and_eq_false_iff,decide_eq_false_iff_not];omega
theorem inB_hi {v lo hi : Int} (h : hi < v) : inB v lo hi = false:=by
 unfold inB;simp only [Bool.and_eq_false_iff,decide_eq_false_iff_not];omega
structure Cfg where
 nodes : Int
 window : Int
 base : Int
 step : Int
 cap : Int
 room : Int
 floor : Int
 votes : List Int
def sumOf (vs : List Int) : Nat → Int
 | 0 => 0
 | k + 1 => sumOf vs k + nth vs k
def VFine (vs : List Int) (k : Nat) : Prop:=∀ j,j < k → 0 ≤ nth vs j ∧ nth vs j ≤ 9
theorem VFine.zero (vs : List Int) : VFine vs 0:=fun _ h => absurd h (by omega)
theorem VFine.succ {vs : List Int} {k : Nat} (h : VFine vs k) (h0 : 0 ≤ nth vs k) (h9 : nth vs k ≤ 9) : VFine vs (k + 1):=by
 intro j hj
 by_cases e : j = k
 ·subst e;exact ⟨h0,h9⟩
 ·exact h j (by omega)
theorem sumOf_bound {vs : List Int} {n : Nat} (h : VFine vs n) : ∀ k,k ≤ n → 0 ≤ sumOf vs k ∧ sumOf vs k ≤ 9 * k:=by
 intro k
 induction k with
 | zero => intro _;simp [sumOf]
 | succ k ih =>
  intro hk;have:=ih (by omega);have hv:=h k (by omega);rw [sumOf];omega
structure Cfg.Ok (c : Cfg) : Prop where
 nodes : 1 ≤ c.nodes ∧ c.nodes ≤ 16
 window : 1 ≤ c.window ∧ c.window ≤ 8
 cap : 1 ≤ c.cap ∧ c.cap ≤ 64
 base : 1 ≤ c.base ∧ c.base ≤ c.cap
 step : 1 ≤ c.step ∧ c.step ≤ c.cap
 room : 1 ≤ c.room ∧ c.room ≤ 20000
 floor : 0 ≤ c.floor ∧ c.floor ≤ 4611686018427387904
 len : (c.votes.length : Int) = c.nodes
 fine : VFine c.votes c.votes.length
 sum : sumOf c.votes c.votes.length ≠ 0
open Classical in
noncomputable def Cfg.err (c : Cfg) : Int:=if c.Ok then 0 else 22
theorem Cfg.err_ok {c : Cfg} (h : c.Ok) : c.err = 0:=by unfold Cfg.err;rw [if_pos h]
theorem Cfg.err_bad {c : Cfg} (h : ¬ c.Ok) : c.err = 22:=by unfold Cfg.err;rw [if_neg h]
theorem within_any (v lo hi : Int) (w : World) :
  Calls Tryz.prog 31 #[.int .i64 v,.int .i64 lo,.int .i64 hi] w fun e w' => e = .returned (.bool (inB v lo hi)) ∧ w = w':=by
 by_cases h1 : lo ≤ v
 ·by_cases h2 : v ≤ hi
  ·have HB:=hide (inB_mk h1 h2)
   go_enter Tryz.func31,Tryz.ntmps31;go_wp2;go_ret;exact ⟨ret_bool (by rw [HB.out]),rfl⟩
  ·have HB:=hide (inB_hi (v:=v) (lo:=lo) (hi:=hi) (by omega))
   go_enter Tryz.func31,Tryz.ntmps31;go_wp2;go_ret;exact ⟨ret_bool (by rw [HB.out]),rfl⟩
 ·have HB:=hide (inB_lo (v:=v) (lo:=lo) (hi:=hi) (by omega))
  have d : decide (lo ≤ v) = false:=by simp;omega
  go_enter Tryz.func31,Tryz.ntmps31;go_wp2;go_ret;exact ⟨ret_bool HB.out.symm,rfl⟩
end Go.Proofs.YtcibcmfaebbhnaaGreatDoor
namespace Go.Proofs.YtcibcmfaebbhnaaGreatDoor
open Go
def Cfg.zero : Cfg:=⟨0,0,0,0,0,0,0,[]⟩
def cfNames : List (List UInt8):=[[110,111,100,101,115],[119,105,110,100,111,119],[98,97,115,101],[115,116,101,112],[99,97,112],[114,111,111,109],[102,108,111,111,114]]
end Go.Proofs.YtcibcmfaebbhnaaGreatDoor
namespace Go.Proofs.YtcibcmfaebbhnaaGreatDoor
open Go.RowKit Go.WideShapes Go.ChangeShapes Q
def hdrV : Array Value:=(cfNames.flatMap fun n => [Value.string (S n),Value.string ⟨#[]⟩]).toArray
theorem header_ref (w : World) : Calls Tryz.prog 41 #[] w fun e w' => e = .returned (.slice (some ⟨w.heap.size,0,none⟩) 14 14) ∧ w' = w.alloc (.cells hdrV 9):=by
 go_enter Tryz.func41,Tryz.ntmps41;go_wp2_with fail;go_ret;exact ⟨rfl,rfl⟩
theorem hdrV_at : ∀ k n,cfNames[k]? = some n → hdrV[2 * k]? = some (.string (S n)):=by
 intro k n h
 match k,h with
 | 0,h => obtain rfl:=Option.some.inj h;rfl
 | 1,h => obtain rfl:=Option.some.inj h;rfl
 | 2,h => obtain rfl:=Option.some.inj h;rfl
 | 3,h => obtain rfl:=Option.some.inj h;rfl
 | 4,h => obtain rfl:=Option.some.inj h;rfl
 | 5,h => obtain rfl:=Option.some.inj h;rfl
 | 6,h => obtain rfl:=Option.some.inj h;rfl
 | k + 7,h => simp [cfNames] at h
end Go.Proofs.YtcibcmfaebbhnaaGreatDoor
