/-
  The reference's CheckConfig by contract. Plain: the event of a line's words, as the program goes: word by word, letter by letter.
-/
import Derived.Test.YtcibcmfaebbhnaaGreatDoorPCfgW
import Derived.Test.YtcibcmfaebbhnaaGreatDoorPHdr
set_option linter.unusedSimpArgs false
set_option linter.unusedVariables false
set_option maxRecDepth 100000
set_option maxHeartbeats 1000000

namespace Go.Proofs.YtcibcmfaebbhnaaGreatDoor
open Go.RowKit Go.WideShapes Go.ChangeShapes Q
theorem rcheck_bad0 (nd wn bs st cp rm fl : Int) (vs : List Int) (A : Option Addr) (n k : Nat) (w : World) (b : nd < 1) :
  Calls Tryz.prog 26 #[cfgV ⟨nd,wn,bs,st,cp,rm,fl,vs⟩ A n k] w fun e w' => e = .returned (.int .i64 22) ∧ w.alloc (cfgO ⟨nd,wn,bs,st,cp,rm,fl,vs⟩ A n k) = w':=by
 unfold cfgV cfgO;go_enter Tryz.func26,Tryz.ntmps26;go_wp2;go_ret;exact ⟨rfl,rfl⟩
theorem rcheck_bad1 (nd wn bs st cp rm fl : Int) (vs : List Int) (A : Option Addr) (n k : Nat) (w : World) (l0 : 1 ≤ nd) (b : 16 < nd) :
  Calls Tryz.prog 26 #[cfgV ⟨nd,wn,bs,st,cp,rm,fl,vs⟩ A n k] w fun e w' => e = .returned (.int .i64 22) ∧ w.alloc (cfgO ⟨nd,wn,bs,st,cp,rm,fl,vs⟩ A n k) = w':=by
 unfold cfgV cfgO;go_enter Tryz.func26,Tryz.ntmps26;go_wp2;go_ret;exact ⟨rfl,rfl⟩
theorem rcheck_bad2 (nd wn bs st cp rm fl : Int) (vs : List Int) (A : Option Addr) (n k : Nat) (w : World) (l0 : 1 ≤ nd) (u0 : nd ≤ 16) (b : wn < 1) :
  Calls Tryz.prog 26 #[cfgV ⟨nd,wn,bs,st,cp,rm,fl,vs⟩ A n k] w fun e w' => e = .returned (.int .i64 22) ∧ w.alloc (cfgO ⟨nd,wn,bs,st,cp,rm,fl,vs⟩ A n k) = w':=by
 unfold cfgV cfgO;go_enter Tryz.func26,Tryz.ntmps26;go_wp2;go_ret;exact ⟨rfl,rfl⟩
theorem rcheck_bad3 (nd wn bs st cp rm fl : Int) (vs : List Int) (A : Option Addr) (n k : Nat) (w : World) (l0 : 1 ≤ nd) (u0 : nd ≤ 16) (l1 : 1 ≤ wn) (b : 8 < wn) :
  Calls Tryz.prog 26 #[cfgV ⟨nd,wn,bs,st,cp,rm,fl,vs⟩ A n k] w fun e w' => e = .returned (.int .i64 22) ∧ w.alloc (cfgO ⟨nd,wn,bs,st,cp,rm,fl,vs⟩ A n k) = w':=by
 unfold cfgV cfgO;go_enter Tryz.func26,Tryz.ntmps26;go_wp2;go_ret;exact ⟨rfl,rfl⟩
theorem rcheck_bad4 (nd wn bs st cp rm fl : Int) (vs : List Int) (A : Option Addr) (n k : Nat) (w : World) (l0 : 1 ≤ nd) (u0 : nd ≤ 16) (l1 : 1 ≤ wn) (u1 : wn ≤ 8) (b : cp < 1) :
  Calls Tryz.prog 26 #[cfgV ⟨nd,wn,bs,st,cp,rm,fl,vs⟩ A n k] w fun e w' => e = .returned (.int .i64 22) ∧ w.alloc (cfgO ⟨nd,wn,bs,st,cp,rm,fl,vs⟩ A n k) = w':=by
 unfold cfgV cfgO;go_enter Tryz.func26,Tryz.ntmps26;go_wp2;go_ret;exact ⟨rfl,rfl⟩
theorem rcheck_bad5 (nd wn bs st cp rm fl : Int) (vs : List Int) (A : Option Addr) (n k : Nat) (w : World) (l0 : 1 ≤ nd) (u0 : nd ≤ 16) (l1 : 1 ≤ wn) (u1 : wn ≤ 8) (l2 : 1 ≤ cp) (b : 64 < cp) :
  Calls Tryz.prog 26 #[cfgV ⟨nd,wn,bs,st,cp,rm,fl,vs⟩ A n k] w fun e w' => e = .returned (.int .i64 22) ∧ w.alloc (cfgO ⟨nd,wn,bs,st,cp,rm,fl,vs⟩ A n k) = w':=by
 unfold cfgV cfgO;go_enter Tryz.func26,Tryz.ntmps26;go_wp2;go_ret;exact ⟨rfl,rfl⟩
theorem rcheck_bad6 (nd wn bs st cp rm fl : Int) (vs : List Int) (A : Option Addr) (n k : Nat) (w : World) (l0 : 1 ≤ nd) (u0 : nd ≤ 16) (l1 : 1 ≤ wn) (u1 : wn ≤ 8) (l2 : 1 ≤ cp) (u2 : cp ≤ 64) (b : bs < 1) :
  Calls Tryz.prog 26 #[cfgV ⟨nd,wn,bs,st,cp,rm,fl,vs⟩ A n k] w fun e w' => e = .returned (.int .i64 22) ∧ w.alloc (cfgO ⟨nd,wn,bs,st,cp,rm,fl,vs⟩ A n k) = w':=by
 unfold cfgV cfgO;go_enter Tryz.func26,Tryz.ntmps26;go_wp2;go_ret;exact ⟨rfl,rfl⟩
theorem rcheck_bad7 (nd wn bs st cp rm fl : Int) (vs : List Int) (A : Option Addr) (n k : Nat) (w : World) (l0 : 1 ≤ nd) (u0 : nd ≤ 16) (l1 : 1 ≤ wn) (u1 : wn ≤ 8) (l2 : 1 ≤ cp) (u2 : cp ≤ 64) (l3 : 1 ≤ bs) (b : cp < bs) :
  Calls Tryz.prog 26 #[cfgV ⟨nd,wn,bs,st,cp,rm,fl,vs⟩ A n k] w fun e w' => e = .returned (.int .i64 22) ∧ w.alloc (cfgO ⟨nd,wn,bs,st,cp,rm,fl,vs⟩ A n k) = w':=by
 unfold cfgV cfgO;go_enter Tryz.func26,Tryz.ntmps26;go_wp2;go_ret;exact ⟨rfl,rfl⟩
theorem rcheck_bad8 (nd wn bs st cp rm fl : Int) (vs : List Int) (A : Option Addr) (n k : Nat) (w : World) (l0 : 1 ≤ nd) (u0 : nd ≤ 16) (l1 : 1 ≤ wn) (u1 : wn ≤ 8) (l2 : 1 ≤ cp) (u2 : cp ≤ 64) (l3 : 1 ≤ bs) (u3 : bs ≤ cp) (b : st < 1) :
  Calls Tryz.prog 26 #[cfgV ⟨nd,wn,bs,st,cp,rm,fl,vs⟩ A n k] w fun e w' => e = .returned (.int .i64 22) ∧ w.alloc (cfgO ⟨nd,wn,bs,st,cp,rm,fl,vs⟩ A n k) = w':=by
 unfold cfgV cfgO;go_enter Tryz.func26,Tryz.ntmps26;go_wp2;go_ret;exact ⟨rfl,rfl⟩
theorem rcheck_bad9 (nd wn bs st cp rm fl : Int) (vs : List Int) (A : Option Addr) (n k : Nat) (w : World) (l0 : 1 ≤ nd) (u0 : nd ≤ 16) (l1 : 1 ≤ wn) (u1 : wn ≤ 8) (l2 : 1 ≤ cp) (u2 : cp ≤ 64) (l3 : 1 ≤ bs) (u3 : bs ≤ cp) (l4 : 1 ≤ st) (b : cp < st) :
  Calls Tryz.prog 26 #[cfgV ⟨nd,wn,bs,st,cp,rm,fl,vs⟩ A n k] w fun e w' => e = .returned (.int .i64 22) ∧ w.alloc (cfgO ⟨nd,wn,bs,st,cp,rm,fl,vs⟩ A n k) = w':=by
 unfold cfgV cfgO;go_enter Tryz.func26,Tryz.ntmps26;go_wp2;go_ret;exact ⟨rfl,rfl⟩
theorem rcheck_bad10 (nd wn bs st cp rm fl : Int) (vs : List Int) (A : Option Addr) (n k : Nat) (w : World) (l0 : 1 ≤ nd) (u0 : nd ≤ 16) (l1 : 1 ≤ wn) (u1 : wn ≤ 8) (l2 : 1 ≤ cp) (u2 : cp ≤ 64) (l3 : 1 ≤ bs) (u3 : bs ≤ cp) (l4 : 1 ≤ st) (u4 : st ≤ cp) (b : rm < 1) :
  Calls Tryz.prog 26 #[cfgV ⟨nd,wn,bs,st,cp,rm,fl,vs⟩ A n k] w fun e w' => e = .returned (.int .i64 22) ∧ w.alloc (cfgO ⟨nd,wn,bs,st,cp,rm,fl,vs⟩ A n k) = w':=by
 unfold cfgV cfgO;go_enter Tryz.func26,Tryz.ntmps26;go_wp2;go_ret;exact ⟨rfl,rfl⟩
theorem rcheck_bad11 (nd wn bs st cp rm fl : Int) (vs : List Int) (A : Option Addr) (n k : Nat) (w : World) (l0 : 1 ≤ nd) (u0 : nd ≤ 16) (l1 : 1 ≤ wn) (u1 : wn ≤ 8) (l2 : 1 ≤ cp) (u2 : cp ≤ 64) (l3 : 1 ≤ bs) (u3 : bs ≤ cp) (l4 : 1 ≤ st) (u4 : st ≤ cp) (l5 : 1 ≤ rm) (b : 20000 < rm) :
  Calls Tryz.prog 26 #[cfgV ⟨nd,wn,bs,st,cp,rm,fl,vs⟩ A n k] w fun e w' => e = .returned (.int .i64 22) ∧ w.alloc (cfgO ⟨nd,wn,bs,st,cp,rm,fl,vs⟩ A n k) = w':=by
 unfold cfgV cfgO;go_enter Tryz.func26,Tryz.ntmps26;go_wp2;go_ret;exact ⟨rfl,rfl⟩
theorem rcheck_bad12 (nd wn bs st cp rm fl : Int) (vs : List Int) (A : Option Addr) (n k : Nat) (w : World) (l0 : 1 ≤ nd) (u0 : nd ≤ 16) (l1 : 1 ≤ wn) (u1 : wn ≤ 8) (l2 : 1 ≤ cp) (u2 : cp ≤ 64) (l3 : 1 ≤ bs) (u3 : bs ≤ cp) (l4 : 1 ≤ st) (u4 : st ≤ cp) (l5 : 1 ≤ rm) (u5 : rm ≤ 20000) (b : fl < 0) :
  Calls Tryz.prog 26 #[cfgV ⟨nd,wn,bs,st,cp,rm,fl,vs⟩ A n k] w fun e w' => e = .returned (.int .i64 22) ∧ w.alloc (cfgO ⟨nd,wn,bs,st,cp,rm,fl,vs⟩ A n k) = w':=by
 unfold cfgV cfgO;go_enter Tryz.func26,Tryz.ntmps26;go_wp2;go_ret;exact ⟨rfl,rfl⟩
theorem rcheck_bad13 (nd wn bs st cp rm fl : Int) (vs : List Int) (A : Option Addr) (n k : Nat) (w : World) (l0 : 1 ≤ nd) (u0 : nd ≤ 16) (l1 : 1 ≤ wn) (u1 : wn ≤ 8) (l2 : 1 ≤ cp) (u2 : cp ≤ 64) (l3 : 1 ≤ bs) (u3 : bs ≤ cp) (l4 : 1 ≤ st) (u4 : st ≤ cp) (l5 : 1 ≤ rm) (u5 : rm ≤ 20000) (l6 : 0 ≤ fl) (b : 4611686018427387904 < fl) :
  Calls Tryz.prog 26 #[cfgV ⟨nd,wn,bs,st,cp,rm,fl,vs⟩ A n k] w fun e w' => e = .returned (.int .i64 22) ∧ w.alloc (cfgO ⟨nd,wn,bs,st,cp,rm,fl,vs⟩ A n k) = w':=by
 unfold cfgV cfgO;go_enter Tryz.func26,Tryz.ntmps26;go_wp2;go_ret;exact ⟨rfl,rfl⟩
theorem rcheck_bad14 (nd wn bs st cp rm fl : Int) (vs : List Int) (A : Option Addr) (n k : Nat) (w : World) (l0 : 1 ≤ nd) (u0 : nd ≤ 16) (l1 : 1 ≤ wn) (u1 : wn ≤ 8) (l2 : 1 ≤ cp) (u2 : cp ≤ 64) (l3 : 1 ≤ bs) (u3 : bs ≤ cp) (l4 : 1 ≤ st) (u4 : st ≤ cp) (l5 : 1 ≤ rm) (u5 : rm ≤ 20000) (l6 : 0 ≤ fl) (u6 : fl ≤ 4611686018427387904) (b : ((n : Int) != nd) = true) :
  Calls Tryz.prog 26 #[cfgV ⟨nd,wn,bs,st,cp,rm,fl,vs⟩ A n k] w fun e w' => e = .returned (.int .i64 22) ∧ w.alloc (cfgO ⟨nd,wn,bs,st,cp,rm,fl,vs⟩ A n k) = w':=by
 unfold cfgV cfgO;go_enter Tryz.func26,Tryz.ntmps26;go_wp2;go_ret;exact ⟨rfl,rfl⟩
theorem rcheck_late (nd wn bs st cp rm fl : Int) (vs : List Int) (A : Option Addr) (n k : Nat) (w : World) (h : RI w w.heap.size A n vs) (hn : n ≤ 16) (l0 : 1 ≤ nd) (u0 : nd ≤ 16) (l1 : 1 ≤ wn) (u1 : wn ≤ 8) (l2 : 1 ≤ cp) (u2 : cp ≤ 64) (l3 : 1 ≤ bs) (u3 : bs ≤ cp) (l4 : 1 ≤ st) (u4 : st ≤ cp) (l5 : 1 ≤ rm) (u5 : rm ≤ 20000) (l6 : 0 ≤ fl) (u6 : fl ≤ 4611686018427387904) (b : ((n : Int) != nd) = false) :
  Calls Tryz.prog 26 #[cfgV ⟨nd,wn,bs,st,cp,rm,fl,vs⟩ A n k] w fun e w' => e = .returned (.int .i64 (Cfg.err ⟨nd,wn,bs,st,cp,rm,fl,vs⟩)) ∧ w.alloc (cfgO ⟨nd,wn,bs,st,cp,rm,fl,vs⟩ A n k) = w':=by
 have hl:=h.len;subst hl
 have HC : Hid (VFine vs vs.length → sumOf vs vs.length ≠ 0 → Cfg.err ⟨nd,wn,bs,st,cp,rm,fl,vs⟩ = 0):=fun hv hs =>
  Cfg.err_ok ⟨⟨l0,u0⟩,⟨l1,u1⟩,⟨l2,u2⟩,⟨l3,u3⟩,⟨l4,u4⟩,⟨l5,u5⟩,⟨l6,u6⟩,by simpa using b,hv,hs⟩
 have HB : Hid (∀ j,j < vs.length → nth vs j < 0 ∨ 9 < nth vs j → Cfg.err ⟨nd,wn,bs,st,cp,rm,fl,vs⟩ = 22):=fun j hj hb =>
  Cfg.err_bad fun hok => by
   have q : 0 ≤ nth vs j ∧ nth vs j ≤ 9:=hok.fine j hj;omega
 have HZ : Hid (sumOf vs vs.length = 0 → Cfg.err ⟨nd,wn,bs,st,cp,rm,fl,vs⟩ = 22):=fun hz => Cfg.err_bad fun hok => hok.sum hz
 unfold cfgV cfgO;go_enter Tryz.func26,Tryz.ntmps26;go_wp2;clear l0 u0 l1 u1 l2 u2 l3 u3 l4 u4 l5 u5 l6 u6 b;go_loop [3,4] (fun t i => ∃ k : Nat,k ≤ vs.length ∧ i = .int .i64 k ∧ t = .int .i64 (sumOf vs k) ∧ Hid (VFine vs k)) (fun _ i => vs.length - (intOf i).toNat)
 case atStart => exact ⟨0,Nat.zero_le _,rfl,rfl,VFine.zero vs⟩
 case round =>
  obtain ⟨k,hk,rfl,rfl,hfine⟩:=hrel;have b1:=sumOf_bound hfine.out k (Nat.le_refl _)
  by_cases hlt : k < vs.length
  ·obtain ⟨ad,rfl,hb,hc⟩:=h.at_ hlt
   have hc' : ∀ o,(w.alloc o).cell? (ad.add k) = some (.int .i64 (nth vs k)):=fun o => (World.cell?_alloc_lt w o _ (by rw [block_of_add];exact hb)).trans hc
   clear hc
   by_cases v0 : nth vs k < 0
   ·have he:=hide (HB.out k hlt (.inl v0))
    go_wp2;go_ret;exact ⟨ret_int he.out.symm,rfl⟩
   ·by_cases v9 : 9 < nth vs k
    ·have he:=hide (HB.out k hlt (.inr v9))
     go_wp2;go_ret;exact ⟨ret_int he.out.symm,rfl⟩
    ·have hf:=hide (hfine.out.succ (by omega) (by omega))
     go_wp2;go_round
     case rel => exact ⟨k + 1,by omega,by go_num,rfl,hf⟩
     case measure => simp [intOf];omega
  ·obtain rfl : k = vs.length:=by omega
   by_cases hz : sumOf vs vs.length = 0
   ·have hb:=hide (HZ.out hz)
    have hz' : (sumOf vs vs.length == 0) = true:=by simp [hz]
    clear hz;go_wp2;go_ret;exact ⟨ret_int hb.out.symm,rfl⟩
   ·have hb:=hide (HC.out hfine.out hz)
    have hz' : (sumOf vs vs.length == 0) = false:=by simp [hz]
    clear hz;go_wp2;go_ret;exact ⟨ret_int hb.out.symm,rfl⟩
theorem rcheck_any (nd wn bs st cp rm fl : Int) (vs : List Int) (A : Option Addr) (n k : Nat) (w : World) (h : RI w w.heap.size A n vs) (hn : n ≤ 17592186044416) :
  Calls Tryz.prog 26 #[cfgV ⟨nd,wn,bs,st,cp,rm,fl,vs⟩ A n k] w fun e w' => e = .returned (.int .i64 (Cfg.err ⟨nd,wn,bs,st,cp,rm,fl,vs⟩)) ∧ w.alloc (cfgO ⟨nd,wn,bs,st,cp,rm,fl,vs⟩ A n k) = w':=by
 have hl:=h.len;have bad : ¬ Cfg.Ok ⟨nd,wn,bs,st,cp,rm,fl,vs⟩ → Cfg.err ⟨nd,wn,bs,st,cp,rm,fl,vs⟩ = 22:=Cfg.err_bad
 rcases Int.lt_or_le nd 1 with b | l0
 ·rw [bad (fun hok => by have q : 1 ≤ nd ∧ nd ≤ 16:=hok.nodes;omega)];exact rcheck_bad0 nd wn bs st cp rm fl vs A n k w b
 rcases Int.lt_or_le 16 nd with b | u0
 ·rw [bad (fun hok => by have q : 1 ≤ nd ∧ nd ≤ 16:=hok.nodes;omega)];exact rcheck_bad1 nd wn bs st cp rm fl vs A n k w l0 b
 rcases Int.lt_or_le wn 1 with b | l1
 ·rw [bad (fun hok => by have q : 1 ≤ wn ∧ wn ≤ 8:=hok.window;omega)];exact rcheck_bad2 nd wn bs st cp rm fl vs A n k w l0 u0 b
 rcases Int.lt_or_le 8 wn with b | u1
 ·rw [bad (fun hok => by have q : 1 ≤ wn ∧ wn ≤ 8:=hok.window;omega)];exact rcheck_bad3 nd wn bs st cp rm fl vs A n k w l0 u0 l1 b
 rcases Int.lt_or_le cp 1 with b | l2
 ·rw [bad (fun hok => by have q : 1 ≤ cp ∧ cp ≤ 64:=hok.cap;omega)];exact rcheck_bad4 nd wn bs st cp rm fl vs A n k w l0 u0 l1 u1 b
 rcases Int.lt_or_le 64 cp with b | u2
 ·rw [bad (fun hok => by have q : 1 ≤ cp ∧ cp ≤ 64:=hok.cap;omega)];exact rcheck_bad5 nd wn bs st cp rm fl vs A n k w l0 u0 l1 u1 l2 b
 rcases Int.lt_or_le bs 1 with b | l3
 ·rw [bad (fun hok => by have q : 1 ≤ bs ∧ bs ≤ cp:=hok.base;omega)];exact rcheck_bad6 nd wn bs st cp rm fl vs A n k w l0 u0 l1 u1 l2 u2 b
 rcases Int.lt_or_le cp bs with b | u3
 ·rw [bad (fun hok => by have q : 1 ≤ bs ∧ bs ≤ cp:=hok.base;omega)];exact rcheck_bad7 nd wn bs st cp rm fl vs A n k w l0 u0 l1 u1 l2 u2 l3 b
 rcases Int.lt_or_le st 1 with b | l4
 ·rw [bad (fun hok => by have q : 1 ≤ st ∧ st ≤ cp:=hok.step;omega)];exact rcheck_bad8 nd wn bs st cp rm fl vs A n k w l0 u0 l1 u1 l2 u2 l3 u3 b
 rcases Int.lt_or_le cp st with b | u4
 ·rw [bad (fun hok => by have q : 1 ≤ st ∧ st ≤ cp:=hok.step;omega)];exact rcheck_bad9 nd wn bs st cp rm fl vs A n k w l0 u0 l1 u1 l2 u2 l3 u3 l4 b
 rcases Int.lt_or_le rm 1 with b | l5
 ·rw [bad (fun hok => by have q : 1 ≤ rm ∧ rm ≤ 20000:=hok.room;omega)];exact rcheck_bad10 nd wn bs st cp rm fl vs A n k w l0 u0 l1 u1 l2 u2 l3 u3 l4 u4 b
 rcases Int.lt_or_le 20000 rm with b | u5
 ·rw [bad (fun hok => by have q : 1 ≤ rm ∧ rm ≤ 20000:=hok.room;omega)];exact rcheck_bad11 nd wn bs st cp rm fl vs A n k w l0 u0 l1 u1 l2 u2 l3 u3 l4 u4 l5 b
 rcases Int.lt_or_le fl 0 with b | l6
 ·rw [bad (fun hok => by have q : 0 ≤ fl ∧ fl ≤ 4611686018427387904:=hok.floor;omega)];exact rcheck_bad12 nd wn bs st cp rm fl vs A n k w l0 u0 l1 u1 l2 u2 l3 u3 l4 u4 l5 u5 b
 rcases Int.lt_or_le 4611686018427387904 fl with b | u6
 ·rw [bad (fun hok => by have q : 0 ≤ fl ∧ fl ≤ 4611686018427387904:=hok.floor;omega)];exact rcheck_bad13 nd wn bs st cp rm fl vs A n k w l0 u0 l1 u1 l2 u2 l3 u3 l4 u4 l5 u5 l6 b
 cases b : ((n : Int) != nd)
 ·have hn' : n ≤ 16:=by simp at b;omega
  exact rcheck_late nd wn bs st cp rm fl vs A n k w h hn' l0 u0 l1 u1 l2 u2 l3 u3 l4 u4 l5 u5 l6 u6 b
 ·rw [bad (fun hok => by have q : (vs.length : Int) = nd:=hok.len;simp at b;omega)];exact rcheck_bad14 nd wn bs st cp rm fl vs A n k w l0 u0 l1 u1 l2 u2 l3 u3 l4 u4 l5 u5 l6 u6 b
end Go.Proofs.YtcibcmfaebbhnaaGreatDoor
namespace Go.Proofs.YtcibcmfaebbhnaaGreatDoor
open Go
def numP (lo hi : Nat) : List Wd → Option (Nat × List Wd)
 | [] => none
 | w :: ws => match wcnt w with | some x => if lo ≤ x ∧ x ≤ hi then some (x,ws) else none | none => none
def txtP (most : Nat) : List Wd → Option (List UInt8 × List Wd)
 | [] => none
 | w :: ws => if w.2 = true ∧ w.1.length ≤ most then some (w.1,ws) else none
def sidesP : Nat → List Wd → List Int → Option (List Wd × List Int)
 | 0,ws,acc => some (ws,acc)
 | n + 1,ws,acc => match numP 0 15 ws with | some (x,ws') => sidesP n ws' (acc ++ [(x : Int)]) | none => none
def txtsP (e : Ev) (ws : List Wd) : Option (List Wd × Ev) :=
 match txtP 16 ws with
 | none => none
 | some (k,r1) => if r1 = [] then some ([],{ e with key:=k }) else match txtP 16 r1 with
  | none => none
  | some (v,r2) => if r2 = [] then some ([],{ e with key:=k,val:=v }) else match txtP 16 r2 with
   | none => none
   | some (o,r3) => some (r3,{ e with key:=k,val:=v,old:=o })
def cmdP (e : Ev) : List Wd → Option (List Wd × Ev)
 | [] => none
 | o :: ts => if o.2 = false ∧ 0 < opNo o.1 then txtsP { e with op:=(opNo o.1 : Nat) } ts else none
def fieldP (nodes : Nat) (c : UInt8) (ws : List Wd) (e : Ev) : Option (List Wd × Ev) :=
 if c = 80 then (match numP 0 (nodes - 1) ws with | some (x,r) => some (r,{ e with a:=x }) | none => none)
 else if c = 81 then (match numP 0 (nodes - 1) ws with | some (x,r) => if ¬ (x : Int) = e.a then some (r,{ e with b:=x }) else none | none => none)
 else if c = 75 then (match numP 0 4611686018427387904 ws with | some (x,r) => some (r,{ e with a:=x }) | none => none)
 else if c = 78 then (match numP 0 4611686018427387904 ws with | some (x,r) => some (r,{ e with n:=x }) | none => none)
 else if c = 68 then (match numP 1 16 ws with | some (x,r) => some (r,{ e with n:=x }) | none => none)
 else if c = 84 then (match txtP (if e.kd = 17 then 40000 else 4000) ws with | some (b,r) => some (r,{ e with bd:=b }) | none => none)
 else if c = 79 then cmdP e ws
 else (match sidesP nodes ws e.sd with | some (r,l) => some (r,{ e with sd:=l }) | none => none)
def fieldsP (nodes : Nat) : List UInt8 → List Wd → Ev → Option (List Wd × Ev)
 | [],ws,e => some (ws,e)
 | c :: cs,ws,e => match fieldP nodes c ws e with | some (r,e') => fieldsP nodes cs r e' | none => none
def formRows : List (List UInt8 × Int × List UInt8):=[([110,111,111,112],0,[]),
 ([114,111,117,110,100],1,[]),
 ([116,105,99,107],2,[80]),
 ([115,101,110,100],3,[80,84]),
 ([100,111],4,[80,79]),
 ([99,114,97,115,104],5,[80]),
 ([114,101,115,116,97,114,116],6,[80]),
 ([116,101,97,114],7,[80,78]),
 ([108,101,97,118,101],18,[80]),
 ([99,117,116],8,[80,81]),
 ([104,101,97,108],9,[80,81]),
 ([100,101,108,97,121],10,[80,81,68]),
 ([115,112,108,105,116],11,[83]),
 ([100,114,111,112],12,[75]),
 ([100,117,112],13,[75]),
 ([110,111,119],14,[75]),
 ([104,111,108,100],15,[75,68]),
 ([102,108,105,112],16,[75,78]),
 ([105,110,106,101,99,116],17,[80,81,84])]
def progF (nodes : Nat) (k : Int) (ls : List UInt8) (ws : List Wd) : Option Ev:=match fieldsP nodes ls ws { Ev.zero with kd:=k } with
 | some ([],e) => some e
 | _ => none
def progP (nodes : Nat) : List Wd → Option Ev
 | [] => none
 | w :: ws => if w.2 = true then none else match formRows.find? (fun f => f.1 == w.1) with
  | some f => progF nodes f.2.1 f.2.2 ws
  | none => none
theorem wcnt_le {w : Wd} {x : Nat} (h : wcnt w = some x) : x ≤ 4611686018427387904:=by
 unfold wcnt at h
 split at h
 ·cases h
 ·exact cnt_le h
def ltOf : Lt → UInt8
 | .P => 80
 | .Q => 81
 | .K => 75
 | .N => 78
 | .D => 68
 | .T => 84
 | .X => 84
theorem field_thing {nodes : Nat} (hn : 1 ≤ nodes) (c : Lt) (w : Wd) (ws : List Wd) (e : Ev) (hT : c = .T → ¬ e.kd = 17) (hX : c = .X → e.kd = 17) :
  fieldP nodes (ltOf c) (w :: ws) e = (thingE nodes e c w).map fun e' => (ws,e'):=by
 have hz : ∀ x : Nat,wcnt w = some x → x ≤ 4611686018427387904:=fun x h => wcnt_le h
 cases c
 ·simp only [ltOf,fieldP,thingE,numP]
  cases h : wcnt w with
  | none => rfl
  | some x =>
   by_cases hx : x < nodes
   ·simp [hx,show x ≤ nodes - 1 by omega]
   ·simp [hx,show ¬ x ≤ nodes - 1 by omega]
 ·simp only [ltOf,fieldP,thingE,numP]
  cases h : wcnt w with
  | none => rfl
  | some x =>
   by_cases hx : x < nodes
   ·by_cases ha : (x : Int) = e.a
    ·simp [hx,show x ≤ nodes - 1 by omega,ha]
    ·simp [hx,show x ≤ nodes - 1 by omega,ha]
   ·simp [hx,show ¬ x ≤ nodes - 1 by omega]
 ·simp only [ltOf,fieldP,thingE,numP]
  cases h : wcnt w with
  | none => rfl
  | some x => simp [hz x h]
 ·simp only [ltOf,fieldP,thingE,numP]
  cases h : wcnt w with
  | none => rfl
  | some x => simp [hz x h]
 ·simp only [ltOf,fieldP,thingE,numP]
  cases h : wcnt w with
  | none => rfl
  | some x =>
   by_cases hx : 1 ≤ x ∧ x ≤ 16
   ·simp [hx]
   ·simp [hx]
 ·simp only [ltOf,fieldP,thingE,txtP,if_neg (hT rfl)]
  by_cases hx : w.2 = true ∧ w.1.length ≤ 4000
  ·simp [hx]
  ·simp [hx]
 ·simp only [ltOf,fieldP,thingE,txtP,if_pos (hX rfl)]
  by_cases hx : w.2 = true ∧ w.1.length ≤ 40000
  ·simp [hx]
  ·simp [hx]
theorem field_nil {nodes : Nat} (c : Lt) (e : Ev) : fieldP nodes (ltOf c) [] e = none:=by
 cases c <;> rfl
theorem thing_kd {nodes : Nat} {e e' : Ev} {c : Lt} {w : Wd} (h : thingE nodes e c w = some e') : e'.kd = e.kd:=by
 unfold thingE at h
 split at h <;> repeat' (split at h)
 all_goals first | (injection h with h;subst h;rfl) | cases h
theorem fields_things {nodes : Nat} (hn : 1 ≤ nodes) : ∀ (cs : List Lt) (ws : List Wd) (e : Ev),(Lt.T ∈ cs → ¬ e.kd = 17) → (Lt.X ∈ cs → e.kd = 17) →
  (match fieldsP nodes (cs.map ltOf) ws e with | some ([],e') => some e' | _ => none) = thingsE nodes cs ws e
 | [],[],e,_,_ => rfl
 | [],_ :: _,e,_,_ => rfl
 | c :: cs,[],e,_,_ => by
  simp only [List.map_cons,fieldsP,field_nil]
  rfl
 | c :: cs,w :: ws,e,hT,hX => by
  simp only [List.map_cons,fieldsP,thingsE];rw [field_thing hn c w ws e (fun h => hT (by simp [h])) (fun h => hX (by simp [h]))]
  cases h : thingE nodes e c w with
  | none => rfl
  | some e' =>
   have hk:=thing_kd h;exact fields_things hn cs ws e' (fun h => by rw [hk];exact hT (by simp [h])) (fun h => by rw [hk];exact hX (by simp [h]))
theorem sides_prog : ∀ (n : Nat) (ws : List Wd) (acc : List Int),(match sidesP n ws acc with | some ([],l) => some l | _ => none) = if ws.length = n then (sidesE ws).map (acc ++ ·) else none
 | 0,[],acc => by simp [sidesP,sidesE]
 | 0,_ :: _,acc => by simp [sidesP]
 | n + 1,[],acc => by simp [sidesP,numP]
 | n + 1,w :: ws,acc => by
  simp only [sidesP,numP,sidesE,List.length_cons,Nat.add_right_cancel_iff]
  cases h : wcnt w with
  | none => simp
  | some x =>
   by_cases hx : x < 16
   ·have ih:=sides_prog n ws (acc ++ [(x : Int)])
    simp only [Nat.zero_le,true_and,show x ≤ 15 by omega,if_true,hx];rw [ih]
    by_cases hl : ws.length = n
    ·rw [if_pos hl,if_pos hl,Option.map_map]
     congr 1
     funext l
     simp
    ·rw [if_neg hl,if_neg hl]
   ·simp [show ¬ x ≤ 15 by omega,hx]
theorem txts_prog (e : Ev) (ws : List Wd) : (match txtsP e ws with | some ([],e') => some e' | _ => none) = txtsE e ws:=by
 match ws with
 | [] => rfl
 | [k] =>
  simp only [txtsP,txtP,txtsE,txtE]
  by_cases hk : k.2 = true ∧ k.1.length ≤ 16
  ·simp [hk]
  ·simp [hk]
 | [k,v] =>
  simp only [txtsP,txtP,txtsE,txtE]
  by_cases hk : k.2 = true ∧ k.1.length ≤ 16
  ·by_cases hv : v.2 = true ∧ v.1.length ≤ 16
   ·simp [hk,hv]
   ·simp [hk,hv]
  ·simp [hk]
 | [k,v,o] =>
  simp only [txtsP,txtP,txtsE,txtE]
  by_cases hk : k.2 = true ∧ k.1.length ≤ 16
  ·by_cases hv : v.2 = true ∧ v.1.length ≤ 16
   ·by_cases ho : o.2 = true ∧ o.1.length ≤ 16
    ·simp [hk,hv,ho]
    ·simp [hk,hv,ho]
   ·simp [hk,hv]
  ·simp [hk]
 | k :: v :: o :: x :: r =>
  simp only [txtsP,txtP,txtsE]
  by_cases hk : k.2 = true ∧ k.1.length ≤ 16
  ·by_cases hv : v.2 = true ∧ v.1.length ≤ 16
   ·by_cases ho : o.2 = true ∧ o.1.length ≤ 16
    ·simp [hk,hv,ho]
    ·simp [hk,hv,ho]
   ·simp [hk,hv]
  ·simp [hk]
theorem do_prog {nodes : Nat} (hn : 1 ≤ nodes) (ws : List Wd) : progF nodes 4 [80,79] ws = doE nodes ws:=by
 match ws with
 | [] => rfl
 | [p] =>
  have h:=field_thing hn .P p [] { Ev.zero with kd:=4 } (fun h => by cases h) (fun h => by cases h);unfold progF;simp only [fieldsP];rw [show (80 : UInt8) = ltOf .P from rfl,h];simp only [doE]
  cases h2 : thingE nodes { Ev.zero with kd:=4 } .P p with
  | none => rfl
  | some e' => rfl
 | p :: o :: ts =>
  have h:=field_thing hn .P p (o :: ts) { Ev.zero with kd:=4 } (fun h => by cases h) (fun h => by cases h);unfold progF;simp only [fieldsP];rw [show (80 : UInt8) = ltOf .P from rfl,h];simp only [doE,thingE]
  cases hx : wcnt p with
  | none => rfl
  | some x =>
   by_cases hl : x < nodes
   ·simp only [hl,if_true,true_and,Option.map_some]
    show (match (match cmdP { Ev.zero with kd:=4,a:=(x : Int) } (o :: ts) with | some (r,e') => some (r,e') | none => none) with | some ([],e) => some e | _ => none) = _;simp only [cmdP]
    by_cases ho : o.2 = false ∧ 0 < opNo o.1
    ·rw [if_pos ho,if_pos ho,← txts_prog]
     cases txtsP { Ev.zero with kd:=4,a:=(x : Int),op:=(opNo o.1 : Nat) } ts with
     | none => rfl
     | some q => rfl
    ·rw [if_neg ho,if_neg ho]
   ·simp [hl]
theorem split_prog {nodes : Nat} (ws : List Wd) : progF nodes 11 [83] ws = splitE nodes ws:=by
 unfold progF splitE;simp only [fieldsP];have h:=sides_prog nodes ws [];have hf : fieldP nodes 83 ws { Ev.zero with kd:=11 } = match sidesP nodes ws [] with | some (r,l) => some (r,{ Ev.zero with kd:=11,sd:=l }) | none => none:=rfl
 rw [hf]
 by_cases hl : ws.length = nodes
 ·rw [if_pos hl] at h ⊢
  cases hs : sidesP nodes ws [] with
  | none =>
   rw [hs] at h
   cases hq : sidesE ws with
   | none => rfl
   | some l => rw [hq] at h;cases h
  | some p =>
   obtain ⟨r,l⟩:=p;rw [hs] at h
   cases r with
   | nil =>
    cases hq : sidesE ws with
    | none => rw [hq] at h;cases h
    | some l' =>
     rw [hq] at h;simp at h;subst h
     rfl
   | cons a r =>
    cases hq : sidesE ws with
    | none => rfl
    | some l => rw [hq] at h;cases h
 ·rw [if_neg hl] at h ⊢
  cases hs : sidesP nodes ws [] with
  | none => rfl
  | some p =>
   obtain ⟨r,l⟩:=p;rw [hs] at h
   cases r with
   | nil => cases h
   | cons a r => rfl
theorem form_prog {nodes : Nat} (hn : 1 ≤ nodes) (k : Int) (cs : List Lt) (ws : List Wd) (hT : Lt.T ∈ cs → ¬ k = 17) (hX : Lt.X ∈ cs → k = 17) : progF nodes k (cs.map ltOf) ws = thingsE nodes cs ws { Ev.zero with kd:=k } :=
 fields_things hn cs ws { Ev.zero with kd:=k } hT hX
theorem progP_eq {nodes : Nat} (hn : 1 ≤ nodes) (ws : List Wd) : progP nodes ws = eventE nodes ws:=by
 cases ws with
 | nil => rfl
 | cons w ws =>
  simp only [progP,eventE]
  by_cases hq : w.2 = true
  ·rw [if_pos hq,if_pos hq]
  rw [if_neg hq,if_neg hq]
  by_cases hd : w.1 = [100,111]
  ·rw [if_pos hd,hd]
   exact do_prog hn ws
  rw [if_neg hd]
  by_cases hs : w.1 = [115,112,108,105,116]
  ·rw [if_pos hs,hs]
   exact split_prog ws
  rw [if_neg hs];have F:=fun (k : Int) (cs : List Lt) (hT : Lt.T ∈ cs → ¬ k = 17) (hX : Lt.X ∈ cs → k = 17) => form_prog hn k cs ws hT hX
  by_cases h0 : w.1 = [110,111,111,112]
  ·rw [h0]
   exact F 0 [] (by simp) (by simp)
  by_cases h1 : w.1 = [114,111,117,110,100]
  ·rw [h1]
   exact F 1 [] (by simp) (by simp)
  by_cases h2 : w.1 = [116,105,99,107]
  ·rw [h2]
   exact F 2 [.P] (by simp) (by simp)
  by_cases h3 : w.1 = [115,101,110,100]
  ·rw [h3]
   exact F 3 [.P,.T] (by simp) (by simp)
  by_cases h4 : w.1 = [99,114,97,115,104]
  ·rw [h4]
   exact F 5 [.P] (by simp) (by simp)
  by_cases h5 : w.1 = [114,101,115,116,97,114,116]
  ·rw [h5]
   exact F 6 [.P] (by simp) (by simp)
  by_cases h6 : w.1 = [116,101,97,114]
  ·rw [h6]
   exact F 7 [.P,.N] (by simp) (by simp)
  by_cases h7 : w.1 = [108,101,97,118,101]
  ·rw [h7]
   exact F 18 [.P] (by simp) (by simp)
  by_cases h8 : w.1 = [99,117,116]
  ·rw [h8]
   exact F 8 [.P,.Q] (by simp) (by simp)
  by_cases h9 : w.1 = [104,101,97,108]
  ·rw [h9]
   exact F 9 [.P,.Q] (by simp) (by simp)
  by_cases h10 : w.1 = [100,101,108,97,121]
  ·rw [h10]
   exact F 10 [.P,.Q,.D] (by simp) (by simp)
  by_cases h11 : w.1 = [100,114,111,112]
  ·rw [h11]
   exact F 12 [.K] (by simp) (by simp)
  by_cases h12 : w.1 = [100,117,112]
  ·rw [h12]
   exact F 13 [.K] (by simp) (by simp)
  by_cases h13 : w.1 = [110,111,119]
  ·rw [h13]
   exact F 14 [.K] (by simp) (by simp)
  by_cases h14 : w.1 = [104,111,108,100]
  ·rw [h14]
   exact F 15 [.K,.D] (by simp) (by simp)
  by_cases h15 : w.1 = [102,108,105,112]
  ·rw [h15]
   exact F 16 [.K,.N] (by simp) (by simp)
  by_cases h16 : w.1 = [105,110,106,101,99,116]
  ·rw [h16]
   exact F 17 [.P,.Q,.X] (by simp) (by simp)
  have e1 : formRows.find? (fun f => f.1 == w.1) = none:=by
   rw [List.find?_eq_none];intro f hf;simp only [formRows,List.mem_cons,List.mem_nil_iff,or_false] at hf;rw [beq_iff_eq];intro e
   rcases hf with rfl | rfl | rfl | rfl | rfl | rfl | rfl | rfl | rfl | rfl | rfl | rfl | rfl | rfl | rfl | rfl | rfl | rfl | rfl
   all_goals simp only at e
   all_goals first | exact hd e.symm | exact hs e.symm | exact h0 e.symm | exact h1 e.symm | exact h2 e.symm | exact h3 e.symm | exact h4 e.symm | exact h5 e.symm | exact h6 e.symm | exact h7 e.symm | exact h8 e.symm | exact h9 e.symm | exact h10 e.symm | exact h11 e.symm | exact h12 e.symm | exact h13 e.symm | exact h14 e.symm | exact h15 e.symm | exact h16 e.symm
  have e2 : formL.find? (fun f => f.1 == w.1) = none:=by
   rw [List.find?_eq_none];intro f hf;simp only [formL,List.mem_cons,List.mem_nil_iff,or_false] at hf;rw [beq_iff_eq];intro e
   rcases hf with rfl | rfl | rfl | rfl | rfl | rfl | rfl | rfl | rfl | rfl | rfl | rfl | rfl | rfl | rfl | rfl | rfl
   all_goals simp only at e
   all_goals first | exact h0 e.symm | exact h1 e.symm | exact h2 e.symm | exact h3 e.symm | exact h4 e.symm | exact h5 e.symm | exact h6 e.symm | exact h7 e.symm | exact h8 e.symm | exact h9 e.symm | exact h10 e.symm | exact h11 e.symm | exact h12 e.symm | exact h13 e.symm | exact h14 e.symm | exact h15 e.symm | exact h16 e.symm
  rw [e1,e2]
theorem lineE_progP (nodes : Int) (t : List UInt8) : lineE nodes t = if 1 ≤ nodes ∧ nodes ≤ 16 ∧ ∀ q ∈ t,¬ q.toNat = 10 then (match wordsG false t with | some ws => (progP nodes.toNat ws).getD Ev.zero | none => Ev.zero) else Ev.zero:=by
 rw [lineE_prog]
 by_cases h : 1 ≤ nodes ∧ nodes ≤ 16 ∧ ∀ q ∈ t,¬ q.toNat = 10
 ·rw [if_pos h,if_pos h]
  cases wordsG false t with
  | none => rfl
  | some ws => simp only [progP_eq (show 1 ≤ nodes.toNat by omega)]
 ·rw [if_neg h,if_neg h]
end Go.Proofs.YtcibcmfaebbhnaaGreatDoor
