/-
  Texts joined.
-/
import Derived.Shelf.SlicesE.Clone
import Derived.Test.YtgfcbmflnldicaaGreatRF1
set_option linter.unusedVariables false
set_option linter.unusedSimpArgs false
set_option maxRecDepth 100000
set_option maxHeartbeats 40000000
namespace Go.Proofs.YtgfcbmflnldicaaGreat
open Go.RowKit
def layCloneI_ren : Go.Shelf.Ren := ⟨fun | 41 => 115 | n => n, fun | 22 => 24 | 23 => 2 | 4 => 4 | n => n, fun | n => n⟩
theorem layCloneI : Go.Proofs.SlLaysE0.n41 Tryz.prog layCloneI_ren := {
 mixed := by kernel_rfl
 f41 := ⟨Tryz.f115.name, by decide, Tryz.func115.trans (congrArg some (by kernel_rfl))⟩
 t4 := Tryz.underlying4
 a4 := Tryz.isAgg4
 z4 := Tryz.sizeOf4
 v4 := Tryz.zeroValue4
 t22 := Tryz.underlying24
 a22 := Tryz.isAgg24
 z22 := Tryz.sizeOf24
 v22 := Tryz.zeroValue24 }
end Go.Proofs.YtgfcbmflnldicaaGreat
namespace Go.Proofs.YtgfcbmflnldicaaGreat
open Go.RowKit
def layCloneL_ren : Go.Shelf.Ren := ⟨fun | 41 => 117 | n => n, fun | 22 => 42 | 23 => 24 | 4 => 4 | n => n, fun | n => n⟩
theorem layCloneL : Go.Proofs.SlLaysE0.n41 Tryz.prog layCloneL_ren := {
 mixed := by kernel_rfl
 f41 := ⟨Tryz.f117.name, by decide, Tryz.func117.trans (congrArg some (by kernel_rfl))⟩
 t4 := Tryz.underlying4
 a4 := Tryz.isAgg4
 z4 := Tryz.sizeOf4
 v4 := Tryz.zeroValue4
 t22 := Tryz.underlying42
 a22 := Tryz.isAgg42
 z22 := Tryz.sizeOf42
 v22 := Tryz.zeroValue42 }
end Go.Proofs.YtgfcbmflnldicaaGreat
