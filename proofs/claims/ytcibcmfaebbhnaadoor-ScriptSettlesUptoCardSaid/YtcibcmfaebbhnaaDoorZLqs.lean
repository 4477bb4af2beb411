/-
  Contracts of the library's IndexByte and Cut laid at this program. (Printed by wip/tools/mklay4.py.)
-/
import Derived.Shelf.Small.Strs
import Derived.Shelf.Small.Wraps
import Derived.Shelf.Strings.Cut
import Derived.Test.YtcibcmfaebbhnaaDoorZDig
set_option linter.unusedVariables false
namespace Go.Proofs.YtcibcmfaebbhnaaDoor
open Go.Shelf
def qren : Go.Shelf.Ren := ⟨fun | 137 => 26 | 145 => 66 | 217 => 48 | 219 => 86 | 220 => 79 | 224 => 96 | 225 => 95 | 266 => 72 | 267 => 97 | 314 => 109 | n => n,
  fun | 3 => 3 | 4 => 4 | 5 => 5 | 9 => 9 | 24 => 71 | 46 => 122 | 51 => 156 | 59 => 115 | 146 => 165 | n => n,
  fun | 1 => 1 | n => n⟩
theorem lq137 : Lays.n137 Tryd.prog qren := {
  mixed := by kernel_rfl,
  f137 := Tryd.func26.trans (congrArg some (by kernel_rfl)),
  f217 := Tryd.func48.trans (congrArg some (by kernel_rfl)),
  f266 := Tryd.func72.trans (congrArg some (by kernel_rfl)),
  t3 := Tryd.underlying3,
  a3 := Tryd.isAgg3,
  z3 := Tryd.sizeOf3,
  v3 := Tryd.zeroValue3,
  t5 := Tryd.underlying5,
  a5 := Tryd.isAgg5,
  z5 := Tryd.sizeOf5,
  v5 := Tryd.zeroValue5,
  t9 := Tryd.underlying9,
  a9 := Tryd.isAgg9,
  z9 := Tryd.sizeOf9,
  v9 := Tryd.zeroValue9 }
theorem lq145 : Lays.n145 Tryd.prog qren := {
  mixed := by kernel_rfl,
  f145 := Tryd.func66.trans (congrArg some (by kernel_rfl)),
  f217 := Tryd.func48.trans (congrArg some (by kernel_rfl)),
  f219 := Tryd.func86.trans (congrArg some (by kernel_rfl)),
  f220 := Tryd.func79.trans (congrArg some (by kernel_rfl)),
  f224 := Tryd.func96.trans (congrArg some (by kernel_rfl)),
  f225 := Tryd.func95.trans (congrArg some (by kernel_rfl)),
  f266 := Tryd.func72.trans (congrArg some (by kernel_rfl)),
  f267 := Tryd.func97.trans (congrArg some (by kernel_rfl)),
  f314 := Tryd.func109.trans (congrArg some (by kernel_rfl)),
  t3 := Tryd.underlying3,
  a3 := Tryd.isAgg3,
  z3 := Tryd.sizeOf3,
  v3 := Tryd.zeroValue3,
  t4 := Tryd.underlying4,
  a4 := Tryd.isAgg4,
  z4 := Tryd.sizeOf4,
  v4 := Tryd.zeroValue4,
  t5 := Tryd.underlying5,
  a5 := Tryd.isAgg5,
  z5 := Tryd.sizeOf5,
  v5 := Tryd.zeroValue5,
  t9 := Tryd.underlying9,
  a9 := Tryd.isAgg9,
  z9 := Tryd.sizeOf9,
  v9 := Tryd.zeroValue9,
  t46 := Tryd.underlying122,
  a46 := Tryd.isAgg122,
  z46 := Tryd.sizeOf122,
  v46 := Tryd.zeroValue122,
  t51 := Tryd.underlying156,
  a51 := Tryd.isAgg156,
  z51 := Tryd.sizeOf156,
  v51 := Tryd.zeroValue156,
  t59 := Tryd.underlying115,
  a59 := Tryd.isAgg115,
  z59 := Tryd.sizeOf115,
  v59 := Tryd.zeroValue115,
  t146 := Tryd.underlying165,
  a146 := Tryd.isAgg165,
  z146 := Tryd.sizeOf165,
  v146 := Tryd.zeroValue165,
  g1 := by kernel_rfl }
theorem index_any (s : ByteArray) (c : UInt8) (w : World) : Calls Tryd.prog 26 #[.string s, .int .u8 (c.toNat : Int)] w fun e w' => e = .returned (.int .i64 (Lib.indexByte s.data.toList c)) ∧ w = w' := by
  have h := Any.strings_IndexByte lq137 s (c.toNat : Int) w
  have e : ((c.toNat : Int)).toNat.toUInt8 = c := by simp
  rw [e] at h
  exact h.mono fun e w' ⟨h1, h2⟩ => ⟨h1, h2.symm⟩
end Go.Proofs.YtcibcmfaebbhnaaDoor
