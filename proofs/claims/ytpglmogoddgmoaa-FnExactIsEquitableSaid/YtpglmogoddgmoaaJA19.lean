/-
  Texts joined.
-/
import Derived.Shelf.SlSortCmp.NoneTotal
import Derived.Test.YtpglmogoddgmoaaJA1
set_option linter.unusedVariables false
set_option linter.unusedSimpArgs false
set_option maxRecDepth 100000
set_option maxHeartbeats 40000000
namespace Go.Proofs.Ytpglmogoddgmoaa
open Go.RowKit
def laySortL_ren : Go.Shelf.Ren := ⟨fun | 6 => 168 | 15 => 194 | 14 => 195 | 28 => 211 | 29 => 212 | 20 => 213 | 21 => 214 | 22 => 215 | 23 => 216 | 24 => 217 | 25 => 218 | 26 => 219 | 27 => 220 | 46 => 226 | 47 => 222 | 48 => 223 | 49 => 227 | 50 => 228 | 57 => 230 | n => n, fun | 22 => 27 | 24 => 24 | 25 => 155 | 3 => 3 | 39 => 174 | 0 => 0 | 53 => 200 | 55 => 129 | 4 => 4 | 46 => 194 | 45 => 193 | 50 => 172 | 5 => 5 | 9 => 9 | 66 => 207 | 70 => 211 | 76 => 215 | 77 => 216 | n => n, fun | n => n⟩
theorem laySortL : Go.Proofs.SlLaysF.n6 Try.prog laySortL_ren := {
 mixed := by kernel_rfl
 f6 := ⟨Try.f168.name, by decide, Try.func168.trans (congrArg some (by kernel_rfl))⟩
 f14 := ⟨Try.f195.name, by decide, Try.func195.trans (congrArg some (by kernel_rfl))⟩
 f15 := Try.func194.trans (congrArg some (by kernel_rfl))
 f20 := ⟨Try.f213.name, by decide, Try.func213.trans (congrArg some (by kernel_rfl))⟩
 f21 := ⟨Try.f214.name, by decide, Try.func214.trans (congrArg some (by kernel_rfl))⟩
 f22 := ⟨Try.f215.name, by decide, Try.func215.trans (congrArg some (by kernel_rfl))⟩
 f23 := ⟨Try.f216.name, by decide, Try.func216.trans (congrArg some (by kernel_rfl))⟩
 f24 := ⟨Try.f217.name, by decide, Try.func217.trans (congrArg some (by kernel_rfl))⟩
 f25 := ⟨Try.f218.name, by decide, Try.func218.trans (congrArg some (by kernel_rfl))⟩
 f26 := ⟨Try.f219.name, by decide, Try.func219.trans (congrArg some (by kernel_rfl))⟩
 f27 := ⟨Try.f220.name, by decide, Try.func220.trans (congrArg some (by kernel_rfl))⟩
 f28 := Try.func211.trans (congrArg some (by kernel_rfl))
 f29 := Try.func212.trans (congrArg some (by kernel_rfl))
 f46 := ⟨Try.f226.name, by decide, Try.func226.trans (congrArg some (by kernel_rfl))⟩
 f47 := Try.func222.trans (congrArg some (by kernel_rfl))
 f48 := Try.func223.trans (congrArg some (by kernel_rfl))
 f49 := ⟨Try.f227.name, by decide, Try.func227.trans (congrArg some (by kernel_rfl))⟩
 f50 := ⟨Try.f228.name, by decide, Try.func228.trans (congrArg some (by kernel_rfl))⟩
 f57 := ⟨Try.f230.name, by decide, Try.func230.trans (congrArg some (by kernel_rfl))⟩
 t0 := Try.underlying0
 a0 := Try.isAgg0
 z0 := Try.sizeOf0
 v0 := Try.zeroValue0
 t3 := Try.underlying3
 a3 := Try.isAgg3
 z3 := Try.sizeOf3
 v3 := Try.zeroValue3
 t4 := Try.underlying4
 a4 := Try.isAgg4
 z4 := Try.sizeOf4
 v4 := Try.zeroValue4
 t5 := Try.underlying5
 a5 := Try.isAgg5
 z5 := Try.sizeOf5
 v5 := Try.zeroValue5
 t9 := Try.underlying9
 a9 := Try.isAgg9
 z9 := Try.sizeOf9
 v9 := Try.zeroValue9
 t22 := Try.underlying27
 a22 := Try.isAgg27
 z22 := Try.sizeOf27
 v22 := Try.zeroValue27
 a24 := Try.isAgg24
 z24 := Try.sizeOf24
 t25 := Try.underlying155
 a25 := Try.isAgg155
 z25 := Try.sizeOf155
 v25 := Try.zeroValue155
 t39 := Try.underlying174
 a39 := Try.isAgg174
 z39 := Try.sizeOf174
 v39 := Try.zeroValue174
 t45 := Try.underlying193
 a45 := Try.isAgg193
 z45 := Try.sizeOf193
 v45 := Try.zeroValue193
 t46 := Try.underlying194
 a46 := Try.isAgg194
 z46 := Try.sizeOf194
 v46 := Try.zeroValue194
 t50 := Try.underlying172
 a50 := Try.isAgg172
 z50 := Try.sizeOf172
 v50 := Try.zeroValue172
 t53 := Try.underlying200
 a53 := Try.isAgg200
 z53 := Try.sizeOf200
 v53 := Try.zeroValue200
 t55 := Try.underlying129
 a55 := Try.isAgg129
 z55 := Try.sizeOf129
 v55 := Try.zeroValue129
 t66 := Try.underlying207
 a66 := Try.isAgg207
 z66 := Try.sizeOf207
 v66 := Try.zeroValue207
 t70 := Try.underlying211
 a70 := Try.isAgg211
 z70 := Try.sizeOf211
 v70 := Try.zeroValue211
 t76 := Try.underlying215
 a76 := Try.isAgg215
 z76 := Try.sizeOf215
 v76 := Try.zeroValue215
 t77 := Try.underlying216
 a77 := Try.isAgg216
 z77 := Try.sizeOf216
 v77 := Try.zeroValue216 }
end Go.Proofs.Ytpglmogoddgmoaa
