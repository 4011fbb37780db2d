/-
  Texts joined.
-/
import Derived.Shelf.SortM.Plain
import Derived.Shelf.SortM.SortNone
import Derived.Test.YtohghnoihbjmcaaHF1
set_option linter.unusedVariables false
set_option linter.unusedSimpArgs false
set_option maxRecDepth 100000
set_option maxHeartbeats 40000000
namespace Go.Proofs.Ytohghnoihbjmcaa
open Go.RowKit
def laySortI_ren : Go.Shelf.Ren := ⟨fun | 5 => 62 | 8 => 82 | 7 => 81 | 19 => 103 | 20 => 104 | 10 => 94 | 11 => 95 | 12 => 96 | 13 => 97 | 14 => 98 | 15 => 99 | 16 => 100 | 17 => 101 | 18 => 102 | 30 => 114 | 31 => 115 | 32 => 116 | 33 => 117 | 34 => 118 | 35 => 91 | 40 => 130 | n => n, fun | 23 => 22 | 25 => 2 | 3 => 3 | 32 => 84 | 22 => 22 | 0 => 0 | 44 => 106 | 46 => 108 | 4 => 4 | 36 => 99 | 35 => 98 | 41 => 66 | 5 => 5 | 9 => 9 | 53 => 115 | 57 => 119 | 63 => 128 | 64 => 129 | n => n, fun | n => n⟩
theorem laySortI : Go.Proofs.SlLaysM.n5 Try.prog laySortI_ren := {
 mixed := by kernel_rfl
 f5 := ⟨Try.f62.name, by decide, Try.func62.trans (congrArg some (by kernel_rfl))⟩
 f7 := ⟨Try.f81.name, by decide, Try.func81.trans (congrArg some (by kernel_rfl))⟩
 f8 := Try.func82.trans (congrArg some (by kernel_rfl))
 f10 := ⟨Try.f94.name, by decide, Try.func94.trans (congrArg some (by kernel_rfl))⟩
 f11 := ⟨Try.f95.name, by decide, Try.func95.trans (congrArg some (by kernel_rfl))⟩
 f12 := ⟨Try.f96.name, by decide, Try.func96.trans (congrArg some (by kernel_rfl))⟩
 f13 := ⟨Try.f97.name, by decide, Try.func97.trans (congrArg some (by kernel_rfl))⟩
 f14 := ⟨Try.f98.name, by decide, Try.func98.trans (congrArg some (by kernel_rfl))⟩
 f15 := ⟨Try.f99.name, by decide, Try.func99.trans (congrArg some (by kernel_rfl))⟩
 f16 := ⟨Try.f100.name, by decide, Try.func100.trans (congrArg some (by kernel_rfl))⟩
 f17 := ⟨Try.f101.name, by decide, Try.func101.trans (congrArg some (by kernel_rfl))⟩
 f18 := ⟨Try.f102.name, by decide, Try.func102.trans (congrArg some (by kernel_rfl))⟩
 f19 := Try.func103.trans (congrArg some (by kernel_rfl))
 f20 := Try.func104.trans (congrArg some (by kernel_rfl))
 f30 := ⟨Try.f114.name, by decide, Try.func114.trans (congrArg some (by kernel_rfl))⟩
 f31 := Try.func115.trans (congrArg some (by kernel_rfl))
 f32 := Try.func116.trans (congrArg some (by kernel_rfl))
 f33 := ⟨Try.f117.name, by decide, Try.func117.trans (congrArg some (by kernel_rfl))⟩
 f34 := ⟨Try.f118.name, by decide, Try.func118.trans (congrArg some (by kernel_rfl))⟩
 f35 := ⟨Try.f91.name, by decide, Try.func91.trans (congrArg some (by kernel_rfl))⟩
 f40 := ⟨Try.f130.name, by decide, Try.func130.trans (congrArg some (by kernel_rfl))⟩
 t0 := Try.underlying0
 a0 := Try.isAgg0
 z0 := Try.sizeOf0
 v0 := Try.zeroValue0
 t3 := Try.underlying3
 a3 := Try.isAgg3
 z3 := Try.sizeOf3
 v3 := Try.zeroValue3
 t4 := Try.underlying4
 a4 := Try.isAgg4
 z4 := Try.sizeOf4
 v4 := Try.zeroValue4
 t5 := Try.underlying5
 a5 := Try.isAgg5
 z5 := Try.sizeOf5
 v5 := Try.zeroValue5
 t9 := Try.underlying9
 a9 := Try.isAgg9
 z9 := Try.sizeOf9
 v9 := Try.zeroValue9
 t22 := Try.underlying22
 a22 := Try.isAgg22
 z22 := Try.sizeOf22
 v22 := Try.zeroValue22
 t23 := Try.underlying22
 a23 := Try.isAgg22
 z23 := Try.sizeOf22
 v23 := Try.zeroValue22
 t25 := Try.underlying2
 a25 := Try.isAgg2
 z25 := Try.sizeOf2
 v25 := Try.zeroValue2
 t32 := Try.underlying84
 a32 := Try.isAgg84
 z32 := Try.sizeOf84
 v32 := Try.zeroValue84
 t35 := Try.underlying98
 a35 := Try.isAgg98
 z35 := Try.sizeOf98
 v35 := Try.zeroValue98
 t36 := Try.underlying99
 a36 := Try.isAgg99
 z36 := Try.sizeOf99
 v36 := Try.zeroValue99
 t41 := Try.underlying66
 a41 := Try.isAgg66
 z41 := Try.sizeOf66
 v41 := Try.zeroValue66
 t44 := Try.underlying106
 a44 := Try.isAgg106
 z44 := Try.sizeOf106
 v44 := Try.zeroValue106
 t46 := Try.underlying108
 a46 := Try.isAgg108
 z46 := Try.sizeOf108
 v46 := Try.zeroValue108
 t53 := Try.underlying115
 a53 := Try.isAgg115
 z53 := Try.sizeOf115
 v53 := Try.zeroValue115
 t57 := Try.underlying119
 a57 := Try.isAgg119
 z57 := Try.sizeOf119
 v57 := Try.zeroValue119
 t63 := Try.underlying128
 a63 := Try.isAgg128
 z63 := Try.sizeOf128
 v63 := Try.zeroValue128
 t64 := Try.underlying129
 a64 := Try.isAgg129
 z64 := Try.sizeOf129
 v64 := Try.zeroValue129 }
end Go.Proofs.Ytohghnoihbjmcaa
