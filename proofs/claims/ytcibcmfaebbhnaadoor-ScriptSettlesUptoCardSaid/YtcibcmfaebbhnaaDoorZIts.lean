/-
  Contracts of the library laid at this program: where each function and type of their text lies. (Printed by wip/tools/mklay2.py.) Contracts of strconv.Itoa and strings.Join at this program; the program's joined.
-/
import Derived.Shelf.Strconv.Itoa3
import Derived.Shelf.Strings.OnBuilder
import Derived.Test.YtcibcmfaebbhnaaDoorZQuq
import Derived.Lib.AppendIntMem
set_option linter.unusedVariables false
namespace Go.Proofs.YtcibcmfaebbhnaaDoor
open Go.Shelf
def sren : Go.Shelf.Ren := ⟨fun | 129 => 99 | 156 => 61 | 165 => 76 | 166 => 77 | 169 => 78 | 171 => 58 | 240 => 84 | 241 => 85 | 243 => 75 | 246 => 83 | 276 => 93 | 277 => 94 | 283 => 87 | 284 => 88 | 285 => 89 | 286 => 90 | 317 => 98 | 318 => 100 | 319 => 101 | 320 => 102 | 337 => 110 | 338 => 111 | n => n,
  fun | 0 => 0 | 2 => 2 | 3 => 3 | 4 => 4 | 5 => 5 | 9 => 9 | 20 => 20 | 31 => 57 | 37 => 24 | 46 => 122 | 51 => 156 | 53 => 137 | 70 => 127 | 72 => 129 | 75 => 132 | 76 => 133 | 80 => 135 | 127 => 142 | 164 => 150 | 171 => 144 | 173 => 147 | 212 => 155 | 213 => 157 | 232 => 171 | 233 => 172 | n => n,
  fun | 17 => 2 | 18 => 5 | 19 => 6 | n => n⟩
theorem la171 : LaysM.n171 Tryd.prog sren := {
  mixed := by kernel_rfl,
  f129 := Tryd.func99.trans (congrArg some (by kernel_rfl)),
  f171 := Tryd.func58.trans (congrArg some (by kernel_rfl)),
  f243 := Tryd.func75.trans (congrArg some (by kernel_rfl)),
  f246 := Tryd.func83.trans (congrArg some (by kernel_rfl)),
  f283 := Tryd.func87.trans (congrArg some (by kernel_rfl)),
  f284 := Tryd.func88.trans (congrArg some (by kernel_rfl)),
  f285 := Tryd.func89.trans (congrArg some (by kernel_rfl)),
  f286 := Tryd.func90.trans (congrArg some (by kernel_rfl)),
  f317 := Tryd.func98.trans (congrArg some (by kernel_rfl)),
  f318 := Tryd.func100.trans (congrArg some (by kernel_rfl)),
  f319 := Tryd.func101.trans (congrArg some (by kernel_rfl)),
  f320 := Tryd.func102.trans (congrArg some (by kernel_rfl)),
  f337 := Tryd.func110.trans (congrArg some (by kernel_rfl)),
  f338 := Tryd.func111.trans (congrArg some (by kernel_rfl)),
  t0 := Tryd.underlying0,
  a0 := Tryd.isAgg0,
  z0 := Tryd.sizeOf0,
  v0 := Tryd.zeroValue0,
  t2 := Tryd.underlying2,
  a2 := Tryd.isAgg2,
  z2 := Tryd.sizeOf2,
  v2 := Tryd.zeroValue2,
  t3 := Tryd.underlying3,
  a3 := Tryd.isAgg3,
  z3 := Tryd.sizeOf3,
  v3 := Tryd.zeroValue3,
  t4 := Tryd.underlying4,
  a4 := Tryd.isAgg4,
  z4 := Tryd.sizeOf4,
  v4 := Tryd.zeroValue4,
  t5 := Tryd.underlying5,
  a5 := Tryd.isAgg5,
  z5 := Tryd.sizeOf5,
  v5 := Tryd.zeroValue5,
  t9 := Tryd.underlying9,
  a9 := Tryd.isAgg9,
  z9 := Tryd.sizeOf9,
  v9 := Tryd.zeroValue9,
  t20 := Tryd.underlying20,
  a20 := Tryd.isAgg20,
  z20 := Tryd.sizeOf20,
  v20 := Tryd.zeroValue20,
  t37 := Tryd.underlying24,
  a37 := Tryd.isAgg24,
  z37 := Tryd.sizeOf24,
  v37 := Tryd.zeroValue24,
  t46 := Tryd.underlying122,
  a46 := Tryd.isAgg122,
  z46 := Tryd.sizeOf122,
  v46 := Tryd.zeroValue122,
  t51 := Tryd.underlying156,
  a51 := Tryd.isAgg156,
  z51 := Tryd.sizeOf156,
  v51 := Tryd.zeroValue156,
  t53 := Tryd.underlying137,
  a53 := Tryd.isAgg137,
  z53 := Tryd.sizeOf137,
  v53 := Tryd.zeroValue137,
  t171 := Tryd.underlying144,
  a171 := Tryd.isAgg144,
  z171 := Tryd.sizeOf144,
  v171 := Tryd.zeroValue144,
  t173 := Tryd.underlying147,
  a173 := Tryd.isAgg147,
  z173 := Tryd.sizeOf147,
  v173 := Tryd.zeroValue147,
  t212 := Tryd.underlying155,
  a212 := Tryd.isAgg155,
  z212 := Tryd.sizeOf155,
  v212 := Tryd.zeroValue155,
  t213 := Tryd.underlying157,
  a213 := Tryd.isAgg157,
  z213 := Tryd.sizeOf157,
  t232 := Tryd.underlying171,
  a232 := Tryd.isAgg171,
  z232 := Tryd.sizeOf171,
  v232 := Tryd.zeroValue171,
  t233 := Tryd.underlying172,
  a233 := Tryd.isAgg172,
  z233 := Tryd.sizeOf172,
  v233 := Tryd.zeroValue172,
  g17 := by kernel_rfl,
  g18 := by kernel_rfl,
  g19 := by kernel_rfl,
  i0 := by kernel_rfl,
  i2 := by kernel_rfl,
  i3 := by kernel_rfl,
  i4 := by kernel_rfl,
  i5 := by kernel_rfl,
  i9 := by kernel_rfl,
  i20 := by kernel_rfl,
  i37 := by kernel_rfl,
  i46 := by kernel_rfl,
  i51 := by kernel_rfl,
  i53 := by kernel_rfl,
  i171 := by kernel_rfl,
  i173 := by kernel_rfl,
  i212 := by kernel_rfl,
  i232 := by kernel_rfl,
  i233 := by kernel_rfl,
  m17 := by kernel_rfl,
  m18 := by kernel_rfl,
  m19 := by kernel_rfl }
theorem la156 : Lays.n156 Tryd.prog sren := {
  mixed := by kernel_rfl,
  f156 := Tryd.func61.trans (congrArg some (by kernel_rfl)),
  f165 := Tryd.func76.trans (congrArg some (by kernel_rfl)),
  f166 := Tryd.func77.trans (congrArg some (by kernel_rfl)),
  f169 := Tryd.func78.trans (congrArg some (by kernel_rfl)),
  f240 := Tryd.func84.trans (congrArg some (by kernel_rfl)),
  f241 := Tryd.func85.trans (congrArg some (by kernel_rfl)),
  f276 := Tryd.func93.trans (congrArg some (by kernel_rfl)),
  f277 := Tryd.func94.trans (congrArg some (by kernel_rfl)),
  t0 := Tryd.underlying0,
  a0 := Tryd.isAgg0,
  z0 := Tryd.sizeOf0,
  v0 := Tryd.zeroValue0,
  t3 := Tryd.underlying3,
  a3 := Tryd.isAgg3,
  z3 := Tryd.sizeOf3,
  v3 := Tryd.zeroValue3,
  t4 := Tryd.underlying4,
  a4 := Tryd.isAgg4,
  z4 := Tryd.sizeOf4,
  v4 := Tryd.zeroValue4,
  t9 := Tryd.underlying9,
  a9 := Tryd.isAgg9,
  z9 := Tryd.sizeOf9,
  v9 := Tryd.zeroValue9,
  t20 := Tryd.underlying20,
  a20 := Tryd.isAgg20,
  z20 := Tryd.sizeOf20,
  v20 := Tryd.zeroValue20,
  t31 := Tryd.underlying57,
  a31 := Tryd.isAgg57,
  z31 := Tryd.sizeOf57,
  v31 := Tryd.zeroValue57,
  t37 := Tryd.underlying24,
  a37 := Tryd.isAgg24,
  z37 := Tryd.sizeOf24,
  v37 := Tryd.zeroValue24,
  t70 := Tryd.underlying127,
  a70 := Tryd.isAgg127,
  z70 := Tryd.sizeOf127,
  v70 := Tryd.zeroValue127,
  t72 := Tryd.underlying129,
  a72 := Tryd.isAgg129,
  z72 := Tryd.sizeOf129,
  v72 := Tryd.zeroValue129,
  t75 := Tryd.underlying132,
  a75 := Tryd.isAgg132,
  z75 := Tryd.sizeOf132,
  v75 := Tryd.zeroValue132,
  t76 := Tryd.underlying133,
  a76 := Tryd.isAgg133,
  z76 := Tryd.sizeOf133,
  v76 := Tryd.zeroValue133,
  t127 := Tryd.underlying142,
  a127 := Tryd.isAgg142,
  z127 := Tryd.sizeOf142,
  v127 := Tryd.zeroValue142,
  t164 := Tryd.underlying150,
  a164 := Tryd.isAgg150,
  z164 := Tryd.sizeOf150,
  v164 := Tryd.zeroValue150 }
theorem sextra : Builder.Extra Tryd.prog sren where
  sizeBuilder := by kernel_rfl
  liesBuilder := by kernel_rfl
  t5 := Tryd.underlying5
  a5 := Tryd.isAgg5
  z5 := Tryd.sizeOf5
  v5 := Tryd.zeroValue5
  infoByte := by kernel_rfl
  cellsByte := by kernel_rfl
  sizeByte := by kernel_rfl
  neB5 := by decide
end Go.Proofs.YtcibcmfaebbhnaaDoor
set_option linter.unusedVariables false
set_option linter.unusedSimpArgs false
namespace Go.Proofs.YtcibcmfaebbhnaaDoor
open Go.RowKit Go.WideShapes Go.ChangeShapes Q
/-- The library's table of powers lies as its initialiser lays it. -/
def Tab (w : World) : Prop := Lib.TabIs Tryd.prog w "internal/strconv.uint64pow10" .u64 Lib.pow10Tab
theorem Tab.below {w w' : World} (h : Tab w) (hb : Below w.heap.size w w') : Tab w' := Lib.tabBelow_of_tabIs h w' hb
theorem grow_below (w : World) (k : Nat) (os : Array Obj) : Below w.heap.size w (Sort.grow (w.drewN k) os) :=
  ⟨rfl, rfl, rfl, by show w.heap.size ≤ (w.heap ++ os).size; simp, fun g hg => Lib.heap_grow_old w k os g hg⟩
theorem itoa_any (n : Int) (w : World) (h0 : -9223372036854775808 ≤ n) (h1 : n ≤ 9223372036854775807) (hT : Tab w) :
    Calls Tryd.prog 58 #[.int .i64 n] w fun e w' => e = .returned (.string (S (Lib.itoa n))) ∧ Below w.heap.size w w' :=
  (Any.strconv_Itoa la171 n h0 h1 w hT).mono fun e w' ⟨he, k, os, hw⟩ => ⟨he, by rw [hw]; exact grow_below w k os⟩
theorem join_any (bk c : Nat) (ls : List (List UInt8)) (sep : List UInt8) (w : World) (hcells : ∀ (j : Nat) l, ls[j]? = some l → w.cell? ⟨bk, j, none⟩ = some (.string (S l))) (hbk : bk < w.heap.size) (hN : ls.length ≤ 140737488355328) (hcap : ls.length ≤ c)
    (hlen : (Lib.join ls sep).length ≤ 140737488355328) :
    Calls Tryd.prog 61 #[.slice (some ⟨bk, 0, none⟩) ls.length c, .string (S sep)] w fun e w' => e = .returned (.string (S (Lib.join ls sep))) ∧ Below w.heap.size w w' := by
  have hm : (ls.map S).map (fun x : ByteArray => x.data.toList) = ls := by
    rw [List.map_map]
    exact List.map_id'' (fun l => S_data l) ls
  have h := Any.strings_Join la156 sextra bk 0 c (ls.map S) (S sep) w (fun j x hx => by
    rw [List.getElem?_map] at hx
    obtain ⟨l, hl, rfl⟩ := Option.map_eq_some_iff.1 hx
    rw [Nat.zero_add]
    exact hcells j l hl) hbk (by rw [List.length_map]; exact hN) (by rw [List.length_map]; exact hcap) (by rw [hm, S_data]; exact hlen)
  rw [hm, S_data, List.length_map] at h
  exact h
end Go.Proofs.YtcibcmfaebbhnaaDoor
