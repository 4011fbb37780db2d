/-
  Texts joined.
-/
import Derived.Shelf.SortM.Plain
import Derived.Shelf.SortM.SortNone
import Derived.Test.YtpglmogoddgmoaaJA1
set_option linter.unusedVariables false
set_option linter.unusedSimpArgs false
set_option maxRecDepth 100000
set_option maxHeartbeats 40000000
namespace Go.Proofs.Ytpglmogoddgmoaa
open Go.RowKit
def laySortI_ren : Go.Shelf.Ren := ⟨fun | 5 => 165 | 8 => 194 | 7 => 193 | 19 => 211 | 20 => 212 | 10 => 202 | 11 => 203 | 12 => 204 | 13 => 205 | 14 => 206 | 15 => 207 | 16 => 208 | 17 => 209 | 18 => 210 | 30 => 221 | 31 => 222 | 32 => 223 | 33 => 224 | 34 => 225 | 35 => 200 | 40 => 229 | n => n, fun | 23 => 24 | 25 => 2 | 3 => 3 | 32 => 174 | 22 => 24 | 0 => 0 | 44 => 200 | 46 => 129 | 4 => 4 | 36 => 194 | 35 => 193 | 41 => 172 | 5 => 5 | 9 => 9 | 53 => 207 | 57 => 211 | 63 => 215 | 64 => 216 | n => n, fun | n => n⟩
theorem laySortI : Go.Proofs.SlLaysM.n5 Try.prog laySortI_ren := {
 mixed := by kernel_rfl
 f5 := ⟨Try.f165.name, by decide, Try.func165.trans (congrArg some (by kernel_rfl))⟩
 f7 := ⟨Try.f193.name, by decide, Try.func193.trans (congrArg some (by kernel_rfl))⟩
 f8 := Try.func194.trans (congrArg some (by kernel_rfl))
 f10 := ⟨Try.f202.name, by decide, Try.func202.trans (congrArg some (by kernel_rfl))⟩
 f11 := ⟨Try.f203.name, by decide, Try.func203.trans (congrArg some (by kernel_rfl))⟩
 f12 := ⟨Try.f204.name, by decide, Try.func204.trans (congrArg some (by kernel_rfl))⟩
 f13 := ⟨Try.f205.name, by decide, Try.func205.trans (congrArg some (by kernel_rfl))⟩
 f14 := ⟨Try.f206.name, by decide, Try.func206.trans (congrArg some (by kernel_rfl))⟩
 f15 := ⟨Try.f207.name, by decide, Try.func207.trans (congrArg some (by kernel_rfl))⟩
 f16 := ⟨Try.f208.name, by decide, Try.func208.trans (congrArg some (by kernel_rfl))⟩
 f17 := ⟨Try.f209.name, by decide, Try.func209.trans (congrArg some (by kernel_rfl))⟩
 f18 := ⟨Try.f210.name, by decide, Try.func210.trans (congrArg some (by kernel_rfl))⟩
 f19 := Try.func211.trans (congrArg some (by kernel_rfl))
 f20 := Try.func212.trans (congrArg some (by kernel_rfl))
 f30 := ⟨Try.f221.name, by decide, Try.func221.trans (congrArg some (by kernel_rfl))⟩
 f31 := Try.func222.trans (congrArg some (by kernel_rfl))
 f32 := Try.func223.trans (congrArg some (by kernel_rfl))
 f33 := ⟨Try.f224.name, by decide, Try.func224.trans (congrArg some (by kernel_rfl))⟩
 f34 := ⟨Try.f225.name, by decide, Try.func225.trans (congrArg some (by kernel_rfl))⟩
 f35 := ⟨Try.f200.name, by decide, Try.func200.trans (congrArg some (by kernel_rfl))⟩
 f40 := ⟨Try.f229.name, by decide, Try.func229.trans (congrArg some (by kernel_rfl))⟩
 t0 := Try.underlying0
 a0 := Try.isAgg0
 z0 := Try.sizeOf0
 v0 := Try.zeroValue0
 t3 := Try.underlying3
 a3 := Try.isAgg3
 z3 := Try.sizeOf3
 v3 := Try.zeroValue3
 t4 := Try.underlying4
 a4 := Try.isAgg4
 z4 := Try.sizeOf4
 v4 := Try.zeroValue4
 t5 := Try.underlying5
 a5 := Try.isAgg5
 z5 := Try.sizeOf5
 v5 := Try.zeroValue5
 t9 := Try.underlying9
 a9 := Try.isAgg9
 z9 := Try.sizeOf9
 v9 := Try.zeroValue9
 t22 := Try.underlying24
 a22 := Try.isAgg24
 z22 := Try.sizeOf24
 v22 := Try.zeroValue24
 t23 := Try.underlying24
 a23 := Try.isAgg24
 z23 := Try.sizeOf24
 v23 := Try.zeroValue24
 t25 := Try.underlying2
 a25 := Try.isAgg2
 z25 := Try.sizeOf2
 v25 := Try.zeroValue2
 t32 := Try.underlying174
 a32 := Try.isAgg174
 z32 := Try.sizeOf174
 v32 := Try.zeroValue174
 t35 := Try.underlying193
 a35 := Try.isAgg193
 z35 := Try.sizeOf193
 v35 := Try.zeroValue193
 t36 := Try.underlying194
 a36 := Try.isAgg194
 z36 := Try.sizeOf194
 v36 := Try.zeroValue194
 t41 := Try.underlying172
 a41 := Try.isAgg172
 z41 := Try.sizeOf172
 v41 := Try.zeroValue172
 t44 := Try.underlying200
 a44 := Try.isAgg200
 z44 := Try.sizeOf200
 v44 := Try.zeroValue200
 t46 := Try.underlying129
 a46 := Try.isAgg129
 z46 := Try.sizeOf129
 v46 := Try.zeroValue129
 t53 := Try.underlying207
 a53 := Try.isAgg207
 z53 := Try.sizeOf207
 v53 := Try.zeroValue207
 t57 := Try.underlying211
 a57 := Try.isAgg211
 z57 := Try.sizeOf211
 v57 := Try.zeroValue211
 t63 := Try.underlying215
 a63 := Try.isAgg215
 z63 := Try.sizeOf215
 v63 := Try.zeroValue215
 t64 := Try.underlying216
 a64 := Try.isAgg216
 z64 := Try.sizeOf216
 v64 := Try.zeroValue216 }
end Go.Proofs.Ytpglmogoddgmoaa
