/-
  Texts joined.
-/
import Derived.Shelf.Strings.OnBuilder
import Derived.Test.YtgfcbmflnldicaaDoorGT1
set_option linter.unusedVariables false
set_option linter.unusedSimpArgs false
set_option maxRecDepth 100000
set_option maxHeartbeats 40000000
namespace Go.Proofs.YtgfcbmflnldicaaDoor
open Go.Shelf
def lays156_ren : Go.Shelf.Ren := ⟨fun | 156 => 18 | 165 => 34 | 166 => 35 | 169 => 36 | 240 => 44 | 241 => 45 | 276 => 51 | 277 => 52 | n => n, fun | 31 => 39 | 9 => 9 | 3 => 3 | 4 => 4 | 0 => 0 | 20 => 20 | 72 => 60 | 76 => 64 | 70 => 57 | 37 => 58 | 75 => 63 | 127 => 70 | 164 => 79 | 5 => 5 | 80 => 66 | n => n, fun | n => n⟩
theorem lays156 : Go.Proofs.Lays.n156 Tryd.prog lays156_ren := {
 mixed := by kernel_rfl
 f156 := Tryd.func18.trans (congrArg some (by kernel_rfl))
 f165 := Tryd.func34.trans (congrArg some (by kernel_rfl))
 f166 := Tryd.func35.trans (congrArg some (by kernel_rfl))
 f169 := Tryd.func36.trans (congrArg some (by kernel_rfl))
 f240 := Tryd.func44.trans (congrArg some (by kernel_rfl))
 f241 := Tryd.func45.trans (congrArg some (by kernel_rfl))
 f276 := Tryd.func51.trans (congrArg some (by kernel_rfl))
 f277 := Tryd.func52.trans (congrArg some (by kernel_rfl))
 t0 := Tryd.underlying0
 a0 := Tryd.isAgg0
 z0 := Tryd.sizeOf0
 v0 := Tryd.zeroValue0
 t3 := Tryd.underlying3
 a3 := Tryd.isAgg3
 z3 := Tryd.sizeOf3
 v3 := Tryd.zeroValue3
 t4 := Tryd.underlying4
 a4 := Tryd.isAgg4
 z4 := Tryd.sizeOf4
 v4 := Tryd.zeroValue4
 t9 := Tryd.underlying9
 a9 := Tryd.isAgg9
 z9 := Tryd.sizeOf9
 v9 := Tryd.zeroValue9
 t20 := Tryd.underlying20
 a20 := Tryd.isAgg20
 z20 := Tryd.sizeOf20
 v20 := Tryd.zeroValue20
 t31 := Tryd.underlying39
 a31 := Tryd.isAgg39
 z31 := Tryd.sizeOf39
 v31 := Tryd.zeroValue39
 t37 := Tryd.underlying58
 a37 := Tryd.isAgg58
 z37 := Tryd.sizeOf58
 v37 := Tryd.zeroValue58
 t70 := Tryd.underlying57
 a70 := Tryd.isAgg57
 z70 := Tryd.sizeOf57
 v70 := Tryd.zeroValue57
 t72 := Tryd.underlying60
 a72 := Tryd.isAgg60
 z72 := Tryd.sizeOf60
 v72 := Tryd.zeroValue60
 t75 := Tryd.underlying63
 a75 := Tryd.isAgg63
 z75 := Tryd.sizeOf63
 v75 := Tryd.zeroValue63
 t76 := Tryd.underlying64
 a76 := Tryd.isAgg64
 z76 := Tryd.sizeOf64
 v76 := Tryd.zeroValue64
 t127 := Tryd.underlying70
 a127 := Tryd.isAgg70
 z127 := Tryd.sizeOf70
 v127 := Tryd.zeroValue70
 t164 := Tryd.underlying79
 a164 := Tryd.isAgg79
 z164 := Tryd.sizeOf79
 v164 := Tryd.zeroValue79 }
theorem Builder_Extra_156 : Builder.Extra Tryd.prog lays156_ren := {
 sizeBuilder := by kernel_rfl
 liesBuilder := by kernel_rfl
 t5 := Tryd.underlying5
 a5 := Tryd.isAgg5
 z5 := Tryd.sizeOf5
 v5 := Tryd.zeroValue5
 infoByte := by kernel_rfl
 cellsByte := by kernel_rfl
 sizeByte := by kernel_rfl
 neB5 := by decide }
open Go.RowKit in
theorem strings_Join_none (a : Option Addr) (c : Nat) (sep : ByteArray) (w : World) :
    Calls Tryd.prog 18 #[.slice a 0 c, .string sep] w fun e w' => e = .returned (.string ⟨#[]⟩) ∧ w' = w := Any.strings_Join_none lays156 Builder_Extra_156 a c sep w
open Go.RowKit in
theorem strings_Join (bk o c : Nat) (xs : List ByteArray) (sep : ByteArray) (w : World) (hcells : ∀ (j : Nat) x, xs[j]? = some x → w.cell? ⟨bk, o + j, none⟩ = some (.string x)) (hbk : bk < w.heap.size) (hN : xs.length ≤ 140737488355328) (hcap : xs.length ≤ c) (hlen : (Lib.join (xs.map (·.data.toList)) sep.data.toList).length ≤ 140737488355328) :
    Calls Tryd.prog 18 #[.slice (some ⟨bk, o, none⟩) xs.length c, .string sep] w fun e w' => e = .returned (.string ⟨(Lib.join (xs.map (·.data.toList)) sep.data.toList).toArray⟩) ∧ Below w.heap.size w w' := Any.strings_Join lays156 Builder_Extra_156 bk o c xs sep w hcells hbk hN hcap hlen
end Go.Proofs.YtgfcbmflnldicaaDoor
