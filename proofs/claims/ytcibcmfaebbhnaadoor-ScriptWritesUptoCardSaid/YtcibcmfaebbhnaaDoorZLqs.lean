/-
  Contracts of the library's IndexByte and Cut laid at this program. (Printed by wip/tools/mklay4.py.)
-/
import Derived.Shelf.Small.Strs
import Derived.Shelf.Small.Wraps
import Derived.Shelf.Strings.Cut
import Derived.Test.YtcibcmfaebbhnaaDoorZRdc
set_option linter.unusedVariables false
namespace Go.Proofs.YtcibcmfaebbhnaaDoor
open Go.Shelf
def qren : Go.Shelf.Ren := ⟨fun | 137 => 26 | 145 => 66 | 217 => 48 | 219 => 86 | 220 => 79 | 224 => 96 | 225 => 95 | 266 => 72 | 267 => 97 | 314 => 109 | n => n,
  fun | 3 => 3 | 4 => 4 | 5 => 5 | 9 => 9 | 24 => 71 | 46 => 122 | 51 => 156 | 59 => 115 | 146 => 165 | n => n,
  fun | 1 => 1 | n => n⟩
theorem lq137 : Lays.n137 Tryd.prog qren := {
  mixed := by kernel_rfl,
  f137 := Tryd.func26.trans (congrArg some (by kernel_rfl)),
  f217 := Tryd.func48.trans (congrArg some (by kernel_rfl)),
  f266 := Tryd.func72.trans (congrArg some (by kernel_rfl)),
  t3 := Tryd.underlying3,
  a3 := Tryd.isAgg3,
  z3 := Tryd.sizeOf3,
  v3 := Tryd.zeroValue3,
  t5 := Tryd.underlying5,
  a5 := Tryd.isAgg5,
  z5 := Tryd.sizeOf5,
  v5 := Tryd.zeroValue5,
  t9 := Tryd.underlying9,
  a9 := Tryd.isAgg9,
  z9 := Tryd.sizeOf9,
  v9 := Tryd.zeroValue9 }
theorem index_any (s : ByteArray) (c : UInt8) (w : World) : Calls Tryd.prog 26 #[.string s, .int .u8 (c.toNat : Int)] w fun e w' => e = .returned (.int .i64 (Lib.indexByte s.data.toList c)) ∧ w = w' := by
  have h := Any.strings_IndexByte lq137 s (c.toNat : Int) w
  have e : ((c.toNat : Int)).toNat.toUInt8 = c := by simp
  rw [e] at h
  exact h.mono fun e w' ⟨h1, h2⟩ => ⟨h1, h2.symm⟩
end Go.Proofs.YtcibcmfaebbhnaaDoor
