/-
  Texts joined.
-/
import Derived.Shelf.SlicesE.Compact
import Derived.Test.YtpglmogoddgmoaaJA1
set_option linter.unusedVariables false
set_option linter.unusedSimpArgs false
set_option maxRecDepth 100000
set_option maxHeartbeats 40000000
namespace Go.Proofs.Ytpglmogoddgmoaa
open Go.RowKit
def layCompactI_ren : Go.Shelf.Ren := ⟨fun | 43 => 166 | n => n, fun | 22 => 24 | 23 => 2 | 3 => 3 | 4 => 4 | 0 => 0 | n => n, fun | n => n⟩
theorem layCompactI : Go.Proofs.SlLaysE.n43 Try.prog layCompactI_ren := {
 mixed := by kernel_rfl
 f43 := ⟨Try.f166.name, by decide, Try.func166.trans (congrArg some (by kernel_rfl))⟩
 t0 := Try.underlying0
 a0 := Try.isAgg0
 z0 := Try.sizeOf0
 v0 := Try.zeroValue0
 t3 := Try.underlying3
 a3 := Try.isAgg3
 z3 := Try.sizeOf3
 v3 := Try.zeroValue3
 t4 := Try.underlying4
 a4 := Try.isAgg4
 z4 := Try.sizeOf4
 v4 := Try.zeroValue4
 t22 := Try.underlying24
 a22 := Try.isAgg24
 z22 := Try.sizeOf24
 v22 := Try.zeroValue24
 a23 := Try.isAgg2
 z23 := Try.sizeOf2 }
end Go.Proofs.Ytpglmogoddgmoaa
