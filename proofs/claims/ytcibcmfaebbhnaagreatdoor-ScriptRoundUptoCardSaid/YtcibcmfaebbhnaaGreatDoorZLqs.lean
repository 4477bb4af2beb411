/-
  Contracts of the library's IndexByte and Cut laid at this program. (Printed by wip/tools/mklay4.py.)
-/
import Derived.Shelf.Small.Strs
import Derived.Shelf.Small.Wraps
import Derived.Shelf.Strings.Cut
import Derived.Test.YtcibcmfaebbhnaaGreatDoorZRdc
set_option linter.unusedVariables false
namespace Go.Proofs.YtcibcmfaebbhnaaGreatDoor
open Go.Shelf
def qren : Go.Shelf.Ren := ⟨fun | 137 => 62 | 145 => 77 | 217 => 86 | 219 => 106 | 220 => 94 | 224 => 116 | 225 => 115 | 266 => 103 | 267 => 117 | 314 => 122 | n => n,
  fun | 3 => 3 | 4 => 4 | 5 => 5 | 9 => 9 | 24 => 127 | 46 => 156 | 51 => 184 | 59 => 144 | 146 => 192 | n => n,
  fun | 1 => 3 | n => n⟩
theorem lq137 : Lays.n137 Tryz.prog qren := {
  mixed := by kernel_rfl,
  f137 := Tryz.func62.trans (congrArg some (by kernel_rfl)),
  f217 := Tryz.func86.trans (congrArg some (by kernel_rfl)),
  f266 := Tryz.func103.trans (congrArg some (by kernel_rfl)),
  t3 := Tryz.underlying3,
  a3 := Tryz.isAgg3,
  z3 := Tryz.sizeOf3,
  v3 := Tryz.zeroValue3,
  t5 := Tryz.underlying5,
  a5 := Tryz.isAgg5,
  z5 := Tryz.sizeOf5,
  v5 := Tryz.zeroValue5,
  t9 := Tryz.underlying9,
  a9 := Tryz.isAgg9,
  z9 := Tryz.sizeOf9,
  v9 := Tryz.zeroValue9 }
theorem lq145 : Lays.n145 Tryz.prog qren := {
  mixed := by kernel_rfl,
  f145 := Tryz.func77.trans (congrArg some (by kernel_rfl)),
  f217 := Tryz.func86.trans (congrArg some (by kernel_rfl)),
  f219 := Tryz.func106.trans (congrArg some (by kernel_rfl)),
  f220 := Tryz.func94.trans (congrArg some (by kernel_rfl)),
  f224 := Tryz.func116.trans (congrArg some (by kernel_rfl)),
  f225 := Tryz.func115.trans (congrArg some (by kernel_rfl)),
  f266 := Tryz.func103.trans (congrArg some (by kernel_rfl)),
  f267 := Tryz.func117.trans (congrArg some (by kernel_rfl)),
  f314 := Tryz.func122.trans (congrArg some (by kernel_rfl)),
  t3 := Tryz.underlying3,
  a3 := Tryz.isAgg3,
  z3 := Tryz.sizeOf3,
  v3 := Tryz.zeroValue3,
  t4 := Tryz.underlying4,
  a4 := Tryz.isAgg4,
  z4 := Tryz.sizeOf4,
  v4 := Tryz.zeroValue4,
  t5 := Tryz.underlying5,
  a5 := Tryz.isAgg5,
  z5 := Tryz.sizeOf5,
  v5 := Tryz.zeroValue5,
  t9 := Tryz.underlying9,
  a9 := Tryz.isAgg9,
  z9 := Tryz.sizeOf9,
  v9 := Tryz.zeroValue9,
  t46 := Tryz.underlying156,
  a46 := Tryz.isAgg156,
  z46 := Tryz.sizeOf156,
  v46 := Tryz.zeroValue156,
  t51 := Tryz.underlying184,
  a51 := Tryz.isAgg184,
  z51 := Tryz.sizeOf184,
  v51 := Tryz.zeroValue184,
  t59 := Tryz.underlying144,
  a59 := Tryz.isAgg144,
  z59 := Tryz.sizeOf144,
  v59 := Tryz.zeroValue144,
  t146 := Tryz.underlying192,
  a146 := Tryz.isAgg192,
  z146 := Tryz.sizeOf192,
  v146 := Tryz.zeroValue192,
  g1 := by kernel_rfl }
theorem index_any (s : ByteArray) (c : UInt8) (w : World) : Calls Tryz.prog 62 #[.string s, .int .u8 (c.toNat : Int)] w fun e w' => e = .returned (.int .i64 (Lib.indexByte s.data.toList c)) ∧ w = w' := by
  have h := Any.strings_IndexByte lq137 s (c.toNat : Int) w
  have e : ((c.toNat : Int)).toNat.toUInt8 = c := by simp
  rw [e] at h
  exact h.mono fun e w' ⟨h1, h2⟩ => ⟨h1, h2.symm⟩
end Go.Proofs.YtcibcmfaebbhnaaGreatDoor
