/-
  Texts joined.
-/
import Derived.Shelf.Strconv.Itoa4
import Derived.Test.YtgfcbmflnldicaaDoorGT1
set_option linter.unusedVariables false
set_option linter.unusedSimpArgs false
set_option maxRecDepth 100000
set_option maxHeartbeats 40000000
namespace Go.Proofs.YtgfcbmflnldicaaDoor
open Go.Shelf
def lays173_ren : Go.Shelf.Ren := ⟨fun | 173 => 30 | 246 => 42 | 283 => 47 | 284 => 48 | 285 => 49 | 286 => 50 | 129 => 54 | 317 => 53 | 318 => 55 | 319 => 56 | 320 => 57 | 337 => 58 | 338 => 59 | n => n, fun | 2 => 2 | 3 => 3 | 9 => 9 | 4 => 4 | 171 => 73 | 0 => 0 | 53 => 74 | 37 => 58 | 5 => 5 | 173 => 77 | 212 => 84 | 51 => 85 | 20 => 20 | 213 => 86 | 46 => 88 | 232 => 91 | 233 => 92 | n => n, fun | 17 => 0 | 18 => 2 | 19 => 3 | n => n⟩
theorem lays173 : Go.Proofs.Lays.n173 Tryd.prog lays173_ren := {
 mixed := by kernel_rfl
 f129 := Tryd.func54.trans (congrArg some (by kernel_rfl))
 f173 := Tryd.func30.trans (congrArg some (by kernel_rfl))
 f246 := Tryd.func42.trans (congrArg some (by kernel_rfl))
 f283 := Tryd.func47.trans (congrArg some (by kernel_rfl))
 f284 := Tryd.func48.trans (congrArg some (by kernel_rfl))
 f285 := Tryd.func49.trans (congrArg some (by kernel_rfl))
 f286 := Tryd.func50.trans (congrArg some (by kernel_rfl))
 f317 := Tryd.func53.trans (congrArg some (by kernel_rfl))
 f318 := Tryd.func55.trans (congrArg some (by kernel_rfl))
 f319 := Tryd.func56.trans (congrArg some (by kernel_rfl))
 f320 := Tryd.func57.trans (congrArg some (by kernel_rfl))
 f337 := Tryd.func58.trans (congrArg some (by kernel_rfl))
 f338 := Tryd.func59.trans (congrArg some (by kernel_rfl))
 t0 := Tryd.underlying0
 a0 := Tryd.isAgg0
 z0 := Tryd.sizeOf0
 v0 := Tryd.zeroValue0
 t2 := Tryd.underlying2
 a2 := Tryd.isAgg2
 z2 := Tryd.sizeOf2
 v2 := Tryd.zeroValue2
 t3 := Tryd.underlying3
 a3 := Tryd.isAgg3
 z3 := Tryd.sizeOf3
 v3 := Tryd.zeroValue3
 t4 := Tryd.underlying4
 a4 := Tryd.isAgg4
 z4 := Tryd.sizeOf4
 v4 := Tryd.zeroValue4
 t5 := Tryd.underlying5
 a5 := Tryd.isAgg5
 z5 := Tryd.sizeOf5
 v5 := Tryd.zeroValue5
 t9 := Tryd.underlying9
 a9 := Tryd.isAgg9
 z9 := Tryd.sizeOf9
 v9 := Tryd.zeroValue9
 t20 := Tryd.underlying20
 a20 := Tryd.isAgg20
 z20 := Tryd.sizeOf20
 v20 := Tryd.zeroValue20
 t37 := Tryd.underlying58
 a37 := Tryd.isAgg58
 z37 := Tryd.sizeOf58
 v37 := Tryd.zeroValue58
 t46 := Tryd.underlying88
 a46 := Tryd.isAgg88
 z46 := Tryd.sizeOf88
 v46 := Tryd.zeroValue88
 t51 := Tryd.underlying85
 a51 := Tryd.isAgg85
 z51 := Tryd.sizeOf85
 v51 := Tryd.zeroValue85
 t53 := Tryd.underlying74
 a53 := Tryd.isAgg74
 z53 := Tryd.sizeOf74
 v53 := Tryd.zeroValue74
 t171 := Tryd.underlying73
 a171 := Tryd.isAgg73
 z171 := Tryd.sizeOf73
 v171 := Tryd.zeroValue73
 t173 := Tryd.underlying77
 a173 := Tryd.isAgg77
 z173 := Tryd.sizeOf77
 v173 := Tryd.zeroValue77
 t212 := Tryd.underlying84
 a212 := Tryd.isAgg84
 z212 := Tryd.sizeOf84
 v212 := Tryd.zeroValue84
 t213 := Tryd.underlying86
 a213 := Tryd.isAgg86
 z213 := Tryd.sizeOf86
 t232 := Tryd.underlying91
 a232 := Tryd.isAgg91
 z232 := Tryd.sizeOf91
 v232 := Tryd.zeroValue91
 t233 := Tryd.underlying92
 a233 := Tryd.isAgg92
 z233 := Tryd.sizeOf92
 v233 := Tryd.zeroValue92
 g17 := by kernel_rfl
 g18 := by kernel_rfl
 g19 := by kernel_rfl }
open Go.RowKit Go.Sort Go.Lib in
theorem strconv_FormatInt_10_small (i : Nat) (hi : i < 100) (w : World) :
    Calls Tryd.prog 30 #[.int .i64 i, .int .i64 10] w fun e w' => e = .returned (.string ⟨(Lib.decDigits i).toArray⟩) ∧ w' = w := Any.strconv_FormatInt_10_small lays173 i hi w
end Go.Proofs.YtgfcbmflnldicaaDoor
