/-
  Texts joined.
-/
import Derived.Shelf.SlSortCmp.NoneTotal
import Derived.Test.YtgfcbmflnldicaaGreatBW1
set_option linter.unusedVariables false
set_option linter.unusedSimpArgs false
set_option maxRecDepth 100000
set_option maxHeartbeats 40000000
namespace Go.Proofs.YtgfcbmflnldicaaGreat
open Go.RowKit
def laySortL_ren : Go.Shelf.Ren := ⟨fun | 6 => 118 | 15 => 188 | 14 => 189 | 28 => 232 | 29 => 233 | 20 => 234 | 21 => 235 | 22 => 236 | 23 => 237 | 24 => 238 | 25 => 239 | 26 => 240 | 27 => 241 | 46 => 256 | 47 => 252 | 48 => 253 | 49 => 257 | 50 => 258 | 57 => 268 | n => n, fun | 22 => 42 | 24 => 24 | 25 => 148 | 3 => 3 | 39 => 194 | 0 => 0 | 53 => 221 | 55 => 135 | 4 => 4 | 46 => 214 | 45 => 213 | 50 => 150 | 5 => 5 | 9 => 9 | 66 => 231 | 70 => 235 | 76 => 244 | 77 => 245 | n => n, fun | n => n⟩
theorem laySortL : Go.Proofs.SlLaysF.n6 Tryz.prog laySortL_ren := {
 mixed := by kernel_rfl
 f6 := ⟨Tryz.f118.name, by decide, Tryz.func118.trans (congrArg some (by kernel_rfl))⟩
 f14 := ⟨Tryz.f189.name, by decide, Tryz.func189.trans (congrArg some (by kernel_rfl))⟩
 f15 := Tryz.func188.trans (congrArg some (by kernel_rfl))
 f20 := ⟨Tryz.f234.name, by decide, Tryz.func234.trans (congrArg some (by kernel_rfl))⟩
 f21 := ⟨Tryz.f235.name, by decide, Tryz.func235.trans (congrArg some (by kernel_rfl))⟩
 f22 := ⟨Tryz.f236.name, by decide, Tryz.func236.trans (congrArg some (by kernel_rfl))⟩
 f23 := ⟨Tryz.f237.name, by decide, Tryz.func237.trans (congrArg some (by kernel_rfl))⟩
 f24 := ⟨Tryz.f238.name, by decide, Tryz.func238.trans (congrArg some (by kernel_rfl))⟩
 f25 := ⟨Tryz.f239.name, by decide, Tryz.func239.trans (congrArg some (by kernel_rfl))⟩
 f26 := ⟨Tryz.f240.name, by decide, Tryz.func240.trans (congrArg some (by kernel_rfl))⟩
 f27 := ⟨Tryz.f241.name, by decide, Tryz.func241.trans (congrArg some (by kernel_rfl))⟩
 f28 := Tryz.func232.trans (congrArg some (by kernel_rfl))
 f29 := Tryz.func233.trans (congrArg some (by kernel_rfl))
 f46 := ⟨Tryz.f256.name, by decide, Tryz.func256.trans (congrArg some (by kernel_rfl))⟩
 f47 := Tryz.func252.trans (congrArg some (by kernel_rfl))
 f48 := Tryz.func253.trans (congrArg some (by kernel_rfl))
 f49 := ⟨Tryz.f257.name, by decide, Tryz.func257.trans (congrArg some (by kernel_rfl))⟩
 f50 := ⟨Tryz.f258.name, by decide, Tryz.func258.trans (congrArg some (by kernel_rfl))⟩
 f57 := ⟨Tryz.f268.name, by decide, Tryz.func268.trans (congrArg some (by kernel_rfl))⟩
 t0 := Tryz.underlying0
 a0 := Tryz.isAgg0
 z0 := Tryz.sizeOf0
 v0 := Tryz.zeroValue0
 t3 := Tryz.underlying3
 a3 := Tryz.isAgg3
 z3 := Tryz.sizeOf3
 v3 := Tryz.zeroValue3
 t4 := Tryz.underlying4
 a4 := Tryz.isAgg4
 z4 := Tryz.sizeOf4
 v4 := Tryz.zeroValue4
 t5 := Tryz.underlying5
 a5 := Tryz.isAgg5
 z5 := Tryz.sizeOf5
 v5 := Tryz.zeroValue5
 t9 := Tryz.underlying9
 a9 := Tryz.isAgg9
 z9 := Tryz.sizeOf9
 v9 := Tryz.zeroValue9
 t22 := Tryz.underlying42
 a22 := Tryz.isAgg42
 z22 := Tryz.sizeOf42
 v22 := Tryz.zeroValue42
 a24 := Tryz.isAgg24
 z24 := Tryz.sizeOf24
 t25 := Tryz.underlying148
 a25 := Tryz.isAgg148
 z25 := Tryz.sizeOf148
 v25 := Tryz.zeroValue148
 t39 := Tryz.underlying194
 a39 := Tryz.isAgg194
 z39 := Tryz.sizeOf194
 v39 := Tryz.zeroValue194
 t45 := Tryz.underlying213
 a45 := Tryz.isAgg213
 z45 := Tryz.sizeOf213
 v45 := Tryz.zeroValue213
 t46 := Tryz.underlying214
 a46 := Tryz.isAgg214
 z46 := Tryz.sizeOf214
 v46 := Tryz.zeroValue214
 t50 := Tryz.underlying150
 a50 := Tryz.isAgg150
 z50 := Tryz.sizeOf150
 v50 := Tryz.zeroValue150
 t53 := Tryz.underlying221
 a53 := Tryz.isAgg221
 z53 := Tryz.sizeOf221
 v53 := Tryz.zeroValue221
 t55 := Tryz.underlying135
 a55 := Tryz.isAgg135
 z55 := Tryz.sizeOf135
 v55 := Tryz.zeroValue135
 t66 := Tryz.underlying231
 a66 := Tryz.isAgg231
 z66 := Tryz.sizeOf231
 v66 := Tryz.zeroValue231
 t70 := Tryz.underlying235
 a70 := Tryz.isAgg235
 z70 := Tryz.sizeOf235
 v70 := Tryz.zeroValue235
 t76 := Tryz.underlying244
 a76 := Tryz.isAgg244
 z76 := Tryz.sizeOf244
 v76 := Tryz.zeroValue244
 t77 := Tryz.underlying245
 a77 := Tryz.isAgg245
 z77 := Tryz.sizeOf245
 v77 := Tryz.zeroValue245 }
end Go.Proofs.YtgfcbmflnldicaaGreat
