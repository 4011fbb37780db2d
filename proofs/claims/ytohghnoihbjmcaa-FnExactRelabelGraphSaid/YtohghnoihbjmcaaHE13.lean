/-
  Texts joined.
-/
import Derived.Shelf.SlSortCmp.NoneTotal
import Derived.Test.YtohghnoihbjmcaaHE1
set_option linter.unusedVariables false
set_option linter.unusedSimpArgs false
set_option maxRecDepth 100000
set_option maxHeartbeats 40000000
namespace Go.Proofs.Ytohghnoihbjmcaa
open Go.RowKit
def laySortE_ren : Go.Shelf.Ren := ⟨fun | 6 => 79 | 15 => 82 | 14 => 93 | 28 => 103 | 29 => 104 | 20 => 106 | 21 => 107 | 22 => 108 | 23 => 109 | 24 => 110 | 25 => 111 | 26 => 112 | 27 => 113 | 46 => 127 | 47 => 115 | 48 => 116 | 49 => 128 | 50 => 129 | 57 => 134 | n => n, fun | 22 => 28 | 24 => 58 | 25 => 60 | 3 => 3 | 39 => 84 | 0 => 0 | 53 => 106 | 55 => 108 | 4 => 4 | 46 => 99 | 45 => 98 | 50 => 66 | 5 => 5 | 9 => 9 | 66 => 115 | 70 => 119 | 76 => 128 | 77 => 129 | n => n, fun | n => n⟩
theorem laySortE : Go.Proofs.SlLaysF0.n6 Try.prog laySortE_ren := {
 mixed := by kernel_rfl
 f6 := ⟨Try.f79.name, by decide, Try.func79.trans (congrArg some (by kernel_rfl))⟩
 f14 := ⟨Try.f93.name, by decide, Try.func93.trans (congrArg some (by kernel_rfl))⟩
 f15 := Try.func82.trans (congrArg some (by kernel_rfl))
 f20 := ⟨Try.f106.name, by decide, Try.func106.trans (congrArg some (by kernel_rfl))⟩
 f21 := ⟨Try.f107.name, by decide, Try.func107.trans (congrArg some (by kernel_rfl))⟩
 f22 := ⟨Try.f108.name, by decide, Try.func108.trans (congrArg some (by kernel_rfl))⟩
 f23 := ⟨Try.f109.name, by decide, Try.func109.trans (congrArg some (by kernel_rfl))⟩
 f24 := ⟨Try.f110.name, by decide, Try.func110.trans (congrArg some (by kernel_rfl))⟩
 f25 := ⟨Try.f111.name, by decide, Try.func111.trans (congrArg some (by kernel_rfl))⟩
 f26 := ⟨Try.f112.name, by decide, Try.func112.trans (congrArg some (by kernel_rfl))⟩
 f27 := ⟨Try.f113.name, by decide, Try.func113.trans (congrArg some (by kernel_rfl))⟩
 f28 := Try.func103.trans (congrArg some (by kernel_rfl))
 f29 := Try.func104.trans (congrArg some (by kernel_rfl))
 f46 := ⟨Try.f127.name, by decide, Try.func127.trans (congrArg some (by kernel_rfl))⟩
 f47 := Try.func115.trans (congrArg some (by kernel_rfl))
 f48 := Try.func116.trans (congrArg some (by kernel_rfl))
 f49 := ⟨Try.f128.name, by decide, Try.func128.trans (congrArg some (by kernel_rfl))⟩
 f50 := ⟨Try.f129.name, by decide, Try.func129.trans (congrArg some (by kernel_rfl))⟩
 f57 := ⟨Try.f134.name, by decide, Try.func134.trans (congrArg some (by kernel_rfl))⟩
 t0 := Try.underlying0
 a0 := Try.isAgg0
 z0 := Try.sizeOf0
 v0 := Try.zeroValue0
 t3 := Try.underlying3
 a3 := Try.isAgg3
 z3 := Try.sizeOf3
 v3 := Try.zeroValue3
 t4 := Try.underlying4
 a4 := Try.isAgg4
 z4 := Try.sizeOf4
 v4 := Try.zeroValue4
 t5 := Try.underlying5
 a5 := Try.isAgg5
 z5 := Try.sizeOf5
 v5 := Try.zeroValue5
 t9 := Try.underlying9
 a9 := Try.isAgg9
 z9 := Try.sizeOf9
 v9 := Try.zeroValue9
 t22 := Try.underlying28
 a22 := Try.isAgg28
 z22 := Try.sizeOf28
 v22 := Try.zeroValue28
 t25 := Try.underlying60
 a25 := Try.isAgg60
 z25 := Try.sizeOf60
 v25 := Try.zeroValue60
 t39 := Try.underlying84
 a39 := Try.isAgg84
 z39 := Try.sizeOf84
 v39 := Try.zeroValue84
 t45 := Try.underlying98
 a45 := Try.isAgg98
 z45 := Try.sizeOf98
 v45 := Try.zeroValue98
 t46 := Try.underlying99
 a46 := Try.isAgg99
 z46 := Try.sizeOf99
 v46 := Try.zeroValue99
 t50 := Try.underlying66
 a50 := Try.isAgg66
 z50 := Try.sizeOf66
 v50 := Try.zeroValue66
 t53 := Try.underlying106
 a53 := Try.isAgg106
 z53 := Try.sizeOf106
 v53 := Try.zeroValue106
 t55 := Try.underlying108
 a55 := Try.isAgg108
 z55 := Try.sizeOf108
 v55 := Try.zeroValue108
 t66 := Try.underlying115
 a66 := Try.isAgg115
 z66 := Try.sizeOf115
 v66 := Try.zeroValue115
 t70 := Try.underlying119
 a70 := Try.isAgg119
 z70 := Try.sizeOf119
 v70 := Try.zeroValue119
 t76 := Try.underlying128
 a76 := Try.isAgg128
 z76 := Try.sizeOf128
 v76 := Try.zeroValue128
 t77 := Try.underlying129
 a77 := Try.isAgg129
 z77 := Try.sizeOf129
 v77 := Try.zeroValue129 }
end Go.Proofs.Ytohghnoihbjmcaa
