/-
  Texts joined.
-/
import Derived.Shelf.SlicesE.Clone
import Derived.Test.YtpglmogoddgmoaaJA1
set_option linter.unusedVariables false
set_option linter.unusedSimpArgs false
set_option maxRecDepth 100000
set_option maxHeartbeats 40000000
namespace Go.Proofs.Ytpglmogoddgmoaa
open Go.RowKit
def layCloneI_ren : Go.Shelf.Ren := ⟨fun | 41 => 124 | n => n, fun | 22 => 24 | 23 => 2 | 4 => 4 | n => n, fun | n => n⟩
theorem layCloneI : Go.Proofs.SlLaysE0.n41 Try.prog layCloneI_ren := {
 mixed := by kernel_rfl
 f41 := ⟨Try.f124.name, by decide, Try.func124.trans (congrArg some (by kernel_rfl))⟩
 t4 := Try.underlying4
 a4 := Try.isAgg4
 z4 := Try.sizeOf4
 v4 := Try.zeroValue4
 t22 := Try.underlying24
 a22 := Try.isAgg24
 z22 := Try.sizeOf24
 v22 := Try.zeroValue24 }
end Go.Proofs.Ytpglmogoddgmoaa
namespace Go.Proofs.Ytpglmogoddgmoaa
open Go.RowKit
def layCloneL_ren : Go.Shelf.Ren := ⟨fun | 41 => 167 | n => n, fun | 22 => 27 | 23 => 24 | 4 => 4 | n => n, fun | n => n⟩
theorem layCloneL : Go.Proofs.SlLaysE0.n41 Try.prog layCloneL_ren := {
 mixed := by kernel_rfl
 f41 := ⟨Try.f167.name, by decide, Try.func167.trans (congrArg some (by kernel_rfl))⟩
 t4 := Try.underlying4
 a4 := Try.isAgg4
 z4 := Try.sizeOf4
 v4 := Try.zeroValue4
 t22 := Try.underlying27
 a22 := Try.isAgg27
 z22 := Try.sizeOf27
 v22 := Try.zeroValue27 }
end Go.Proofs.Ytpglmogoddgmoaa
