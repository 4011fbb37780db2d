/-
  No cell of these rows narrows 'for every input' (looked for: loops, veiled, ifaces, maps, wideKeys, modest, calm, conditions, laid).
  DERIVED. THE GIVEN ROWS OF THIS SEAT. 11 by the template 'for every input the law returns true; each argument reads behind the call as it read before'; 0 by the template 'total and deterministic' (their statements: YtgmgpcaahanmiaaTotals.lean).
  GIVEN WITH THE SEED: the statements are not yours to turn. If you find one false, say at which input.
  Laid BY PROGRAM, IN A SANDBOX (cutbox-rows.mjs): the forced cells as the released guide's own fill.sh prints them over the translation 7160f8778a911a2e… (all of the seat's roots in one cut). By AI agents, Wed Nov 11 2026. No macro, syntax, notation, axiom, sorry.
-/
import Derived.Test.YtgmgpcaahanmiaaChecked
import GoSem.Claim
import GoSem.ClaimJoined
import GoSem.ClaimMapViews
import Derived.JoinedTies
import Derived.KernelRfl
namespace Go.Proofs.Ytgmgpcaahanmiaa
/- THE CELL 'sum', in the pinned program and in every row, IS THE sha256 OF THE DUMP (.gsa) THAT YtgmgpcaahanmiaaProg.lean LOADS. Nothing in Lean hashes anything: it is a label: what it is worth is what the hold of that sum in a sandbox is worth. -/
noncomputable def Try.pinned : Pinned := { name := "ytgmgpcaahanmiaa", sum := "7160f8778a911a2ef9672aefe2ddfdd1f346d9ddc6e65b57d405994adc676b62", checked := Try.checked }
namespace Rows
def none {H : Type} : Left H := { results := [], args := [] }

/-- 'laws.FnExactCorrectHamming': WHATEVER THE INPUT: true; the input reads as it did. -/
def fnExactCorrectHammingSpec : ChangeSpec := { name := "fnExactCorrectHamming", fn := fun _ => fun
  | [d1, d2, d3] => { results := [.lit (.bool true)], args := [d1, d2, d3] }
  | _ => none }
def fnExactCorrectHammingRow : OpenClaim := { program := "ytgmgpcaahanmiaa", sum := "7160f8778a911a2ef9672aefe2ddfdd1f346d9ddc6e65b57d405994adc676b62", func := "loop.example/g00920/laws.FnExactCorrectHamming", spec := "fnExactCorrectHamming", unfollowed := true, recurses := true, apart := false }
def FnExactCorrectHammingSaid : Prop := fnExactCorrectHammingRow.holds Try.pinned (OpenSpec.ofChange fnExactCorrectHammingSpec)

/-- ITS FALSE NEIGHBOUR: 'it returns false'. Refute it at one input. -/
def fnExactCorrectHammingWrong : ChangeSpec := { name := "fnExactCorrectHamming", fn := fun _ => fun
  | [d1, d2, d3] => { results := [.lit (.bool false)], args := [d1, d2, d3] }
  | _ => none }
def FnExactCorrectHammingWrongFalsely : Prop := fnExactCorrectHammingRow.holds Try.pinned (OpenSpec.ofChange fnExactCorrectHammingWrong)

/-- 'laws.FnCorrected': WHATEVER THE INPUT: true; the input reads as it did. -/
def fnCorrectedSpec : ChangeSpec := { name := "fnCorrected", fn := fun _ => fun
  | [d] => { results := [.lit (.bool true)], args := [d] }
  | _ => none }
def fnCorrectedRow : OpenClaim := { program := "ytgmgpcaahanmiaa", sum := "7160f8778a911a2ef9672aefe2ddfdd1f346d9ddc6e65b57d405994adc676b62", func := "loop.example/g00920/laws.FnCorrected", spec := "fnCorrected", unfollowed := true, recurses := true, apart := false }
def FnCorrectedSaid : Prop := fnCorrectedRow.holds Try.pinned (OpenSpec.ofChange fnCorrectedSpec)

/-- ITS FALSE NEIGHBOUR: 'it returns false'. Refute it at one input. -/
def fnCorrectedWrong : ChangeSpec := { name := "fnCorrected", fn := fun _ => fun
  | [d] => { results := [.lit (.bool false)], args := [d] }
  | _ => none }
def FnCorrectedWrongFalsely : Prop := fnCorrectedRow.holds Try.pinned (OpenSpec.ofChange fnCorrectedWrong)

/-- 'laws.FnReedSolomon': WHATEVER THE INPUT: true; the input reads as it did. -/
def fnReedSolomonSpec : ChangeSpec := { name := "fnReedSolomon", fn := fun _ => fun
  | [d1, d2] => { results := [.lit (.bool true)], args := [d1, d2] }
  | _ => none }
def fnReedSolomonRow : OpenClaim := { program := "ytgmgpcaahanmiaa", sum := "7160f8778a911a2ef9672aefe2ddfdd1f346d9ddc6e65b57d405994adc676b62", func := "loop.example/g00920/laws.FnReedSolomon", spec := "fnReedSolomon", unfollowed := true, recurses := true, apart := false }
def FnReedSolomonSaid : Prop := fnReedSolomonRow.holds Try.pinned (OpenSpec.ofChange fnReedSolomonSpec)

/-- ITS FALSE NEIGHBOUR: 'it returns false'. Refute it at one input. -/
def fnReedSolomonWrong : ChangeSpec := { name := "fnReedSolomon", fn := fun _ => fun
  | [d1, d2] => { results := [.lit (.bool false)], args := [d1, d2] }
  | _ => none }
def FnReedSolomonWrongFalsely : Prop := fnReedSolomonRow.holds Try.pinned (OpenSpec.ofChange fnReedSolomonWrong)

/-- 'laws.FnHamming': WHATEVER THE INPUT: true; the input reads as it did. -/
def fnHammingSpec : ChangeSpec := { name := "fnHamming", fn := fun _ => fun
  | [d] => { results := [.lit (.bool true)], args := [d] }
  | _ => none }
def fnHammingRow : OpenClaim := { program := "ytgmgpcaahanmiaa", sum := "7160f8778a911a2ef9672aefe2ddfdd1f346d9ddc6e65b57d405994adc676b62", func := "loop.example/g00920/laws.FnHamming", spec := "fnHamming", unfollowed := true, recurses := true, apart := false }
def FnHammingSaid : Prop := fnHammingRow.holds Try.pinned (OpenSpec.ofChange fnHammingSpec)

/-- ITS FALSE NEIGHBOUR: 'it returns false'. Refute it at one input. -/
def fnHammingWrong : ChangeSpec := { name := "fnHamming", fn := fun _ => fun
  | [d] => { results := [.lit (.bool false)], args := [d] }
  | _ => none }
def FnHammingWrongFalsely : Prop := fnHammingRow.holds Try.pinned (OpenSpec.ofChange fnHammingWrong)

/-- 'laws.FnDualCode': WHATEVER THE INPUT: true; the input reads as it did. -/
def fnDualCodeSpec : ChangeSpec := { name := "fnDualCode", fn := fun _ => fun
  | [d1, d2] => { results := [.lit (.bool true)], args := [d1, d2] }
  | _ => none }
def fnDualCodeRow : OpenClaim := { program := "ytgmgpcaahanmiaa", sum := "7160f8778a911a2ef9672aefe2ddfdd1f346d9ddc6e65b57d405994adc676b62", func := "loop.example/g00920/laws.FnDualCode", spec := "fnDualCode", unfollowed := true, recurses := true, apart := false }
def FnDualCodeSaid : Prop := fnDualCodeRow.holds Try.pinned (OpenSpec.ofChange fnDualCodeSpec)

/-- ITS FALSE NEIGHBOUR: 'it returns false'. Refute it at one input. -/
def fnDualCodeWrong : ChangeSpec := { name := "fnDualCode", fn := fun _ => fun
  | [d1, d2] => { results := [.lit (.bool false)], args := [d1, d2] }
  | _ => none }
def FnDualCodeWrongFalsely : Prop := fnDualCodeRow.holds Try.pinned (OpenSpec.ofChange fnDualCodeWrong)

/-- 'laws.FnSyndromes': WHATEVER THE INPUT: true; the input reads as it did. -/
def fnSyndromesSpec : ChangeSpec := { name := "fnSyndromes", fn := fun _ => fun
  | [d1, d2] => { results := [.lit (.bool true)], args := [d1, d2] }
  | _ => none }
def fnSyndromesRow : OpenClaim := { program := "ytgmgpcaahanmiaa", sum := "7160f8778a911a2ef9672aefe2ddfdd1f346d9ddc6e65b57d405994adc676b62", func := "loop.example/g00920/laws.FnSyndromes", spec := "fnSyndromes", unfollowed := true, recurses := true, apart := false }
def FnSyndromesSaid : Prop := fnSyndromesRow.holds Try.pinned (OpenSpec.ofChange fnSyndromesSpec)

/-- ITS FALSE NEIGHBOUR: 'it returns false'. Refute it at one input. -/
def fnSyndromesWrong : ChangeSpec := { name := "fnSyndromes", fn := fun _ => fun
  | [d1, d2] => { results := [.lit (.bool false)], args := [d1, d2] }
  | _ => none }
def FnSyndromesWrongFalsely : Prop := fnSyndromesRow.holds Try.pinned (OpenSpec.ofChange fnSyndromesWrong)

/-- 'laws.FnPlaces': WHATEVER THE INPUT: true; the input reads as it did. -/
def fnPlacesSpec : ChangeSpec := { name := "fnPlaces", fn := fun _ => fun
  | [d1, d2] => { results := [.lit (.bool true)], args := [d1, d2] }
  | _ => none }
def fnPlacesRow : OpenClaim := { program := "ytgmgpcaahanmiaa", sum := "7160f8778a911a2ef9672aefe2ddfdd1f346d9ddc6e65b57d405994adc676b62", func := "loop.example/g00920/laws.FnPlaces", spec := "fnPlaces", unfollowed := true, recurses := true, apart := false }
def FnPlacesSaid : Prop := fnPlacesRow.holds Try.pinned (OpenSpec.ofChange fnPlacesSpec)

/-- ITS FALSE NEIGHBOUR: 'it returns false'. Refute it at one input. -/
def fnPlacesWrong : ChangeSpec := { name := "fnPlaces", fn := fun _ => fun
  | [d1, d2] => { results := [.lit (.bool false)], args := [d1, d2] }
  | _ => none }
def FnPlacesWrongFalsely : Prop := fnPlacesRow.holds Try.pinned (OpenSpec.ofChange fnPlacesWrong)

/-- 'laws.FnMacWilliams': WHATEVER THE INPUT: true; the input reads as it did. -/
def fnMacWilliamsSpec : ChangeSpec := { name := "fnMacWilliams", fn := fun _ => fun
  | [d] => { results := [.lit (.bool true)], args := [d] }
  | _ => none }
def fnMacWilliamsRow : OpenClaim := { program := "ytgmgpcaahanmiaa", sum := "7160f8778a911a2ef9672aefe2ddfdd1f346d9ddc6e65b57d405994adc676b62", func := "loop.example/g00920/laws.FnMacWilliams", spec := "fnMacWilliams", unfollowed := true, recurses := true, apart := false }
def FnMacWilliamsSaid : Prop := fnMacWilliamsRow.holds Try.pinned (OpenSpec.ofChange fnMacWilliamsSpec)

/-- ITS FALSE NEIGHBOUR: 'it returns false'. Refute it at one input. -/
def fnMacWilliamsWrong : ChangeSpec := { name := "fnMacWilliams", fn := fun _ => fun
  | [d] => { results := [.lit (.bool false)], args := [d] }
  | _ => none }
def FnMacWilliamsWrongFalsely : Prop := fnMacWilliamsRow.holds Try.pinned (OpenSpec.ofChange fnMacWilliamsWrong)

/-- 'laws.FnBounds': WHATEVER THE INPUT: true; the input reads as it did. -/
def fnBoundsSpec : ChangeSpec := { name := "fnBounds", fn := fun _ => fun
  | [d] => { results := [.lit (.bool true)], args := [d] }
  | _ => none }
def fnBoundsRow : OpenClaim := { program := "ytgmgpcaahanmiaa", sum := "7160f8778a911a2ef9672aefe2ddfdd1f346d9ddc6e65b57d405994adc676b62", func := "loop.example/g00920/laws.FnBounds", spec := "fnBounds", unfollowed := true, recurses := true, apart := false }
def FnBoundsSaid : Prop := fnBoundsRow.holds Try.pinned (OpenSpec.ofChange fnBoundsSpec)

/-- ITS FALSE NEIGHBOUR: 'it returns false'. Refute it at one input. -/
def fnBoundsWrong : ChangeSpec := { name := "fnBounds", fn := fun _ => fun
  | [d] => { results := [.lit (.bool false)], args := [d] }
  | _ => none }
def FnBoundsWrongFalsely : Prop := fnBoundsRow.holds Try.pinned (OpenSpec.ofChange fnBoundsWrong)

/-- 'laws.FnExactRankOfDesign': WHATEVER THE INPUT: true; the input reads as it did. -/
def fnExactRankOfDesignSpec : ChangeSpec := { name := "fnExactRankOfDesign", fn := fun _ => fun
  | [d1, d2] => { results := [.lit (.bool true)], args := [d1, d2] }
  | _ => none }
def fnExactRankOfDesignRow : OpenClaim := { program := "ytgmgpcaahanmiaa", sum := "7160f8778a911a2ef9672aefe2ddfdd1f346d9ddc6e65b57d405994adc676b62", func := "loop.example/g00920/laws.FnExactRankOfDesign", spec := "fnExactRankOfDesign", unfollowed := true, recurses := true, apart := false }
def FnExactRankOfDesignSaid : Prop := fnExactRankOfDesignRow.holds Try.pinned (OpenSpec.ofChange fnExactRankOfDesignSpec)

/-- ITS FALSE NEIGHBOUR: 'it returns false'. Refute it at one input. -/
def fnExactRankOfDesignWrong : ChangeSpec := { name := "fnExactRankOfDesign", fn := fun _ => fun
  | [d1, d2] => { results := [.lit (.bool false)], args := [d1, d2] }
  | _ => none }
def FnExactRankOfDesignWrongFalsely : Prop := fnExactRankOfDesignRow.holds Try.pinned (OpenSpec.ofChange fnExactRankOfDesignWrong)

/-- 'laws.FnExactCodeOfDesign': WHATEVER THE INPUT: true; the input reads as it did. -/
def fnExactCodeOfDesignSpec : ChangeSpec := { name := "fnExactCodeOfDesign", fn := fun _ => fun
  | [d1, d2] => { results := [.lit (.bool true)], args := [d1, d2] }
  | _ => none }
def fnExactCodeOfDesignRow : OpenClaim := { program := "ytgmgpcaahanmiaa", sum := "7160f8778a911a2ef9672aefe2ddfdd1f346d9ddc6e65b57d405994adc676b62", func := "loop.example/g00920/laws.FnExactCodeOfDesign", spec := "fnExactCodeOfDesign", unfollowed := true, recurses := true, apart := false }
def FnExactCodeOfDesignSaid : Prop := fnExactCodeOfDesignRow.holds Try.pinned (OpenSpec.ofChange fnExactCodeOfDesignSpec)

/-- ITS FALSE NEIGHBOUR: 'it returns false'. Refute it at one input. -/
def fnExactCodeOfDesignWrong : ChangeSpec := { name := "fnExactCodeOfDesign", fn := fun _ => fun
  | [d1, d2] => { results := [.lit (.bool false)], args := [d1, d2] }
  | _ => none }
def FnExactCodeOfDesignWrongFalsely : Prop := fnExactCodeOfDesignRow.holds Try.pinned (OpenSpec.ofChange fnExactCodeOfDesignWrong)

/- THE SECOND FORM. 'bulk': how many values and letters a reading holds, each counted each time it is reached (what is shared counts as often as it is met; a slice's spare places count too). A statement '..UptoSaid' is the law's where the arguments, and the package variables that the reading takes, are together of bulk at most 1048576: NARROWER than '..Said'. Prove '..Said' where nothing that the law and all that it calls make is longer than what came in: it says more and counts as full. Else prove '..UptoSaid'. A law counts once. -/
mutual
def uptoBulk {H : Type} : DataW H → Nat
  | .lit (.string bytes) => bytes.length + 1
  | .lit _ => 1
  | .nil => 1
  | .ptr d => uptoBulk d + 1
  | .slice elems spare => uptoBulkAll elems + uptoBulkAll spare + 1
  | .agg parts => uptoBulkAll parts + 1
  | .iface _ d => uptoBulk d + 1
  | .map entries => uptoBulkEntries entries + 1
  | .held _ => 1
def uptoBulkAll {H : Type} : List (DataW H) → Nat
  | [] => 0
  | d :: r => uptoBulk d + uptoBulkAll r
def uptoBulkEntries {H : Type} : List (Lit × DataW H) → Nat
  | [] => 0
  | x :: r => uptoBulkEntry x + uptoBulkEntries r
def uptoBulkEntry {H : Type} : Lit × DataW H → Nat
  | (.string bytes, d) => bytes.length + uptoBulk d + 1
  | (_, d) => uptoBulk d + 1
 end
def uptoSmall : (H : Type) → List (DataW H) → Bool := fun _ ds => decide (uptoBulkAll ds ≤ 1048576)
def OpenSpec.upto (s : _root_.Go.ChangeSpec) : _root_.Go.OpenSpec := { _root_.Go.OpenSpec.ofChange s with cond := some uptoSmall }

/-- 'laws.FnExactCorrectHamming', WHERE WHAT IT READS IS OF BULK AT MOST 1048576: true; the input reads as it did. -/
def fnExactCorrectHammingUptoRow : OpenClaim := { program := "ytgmgpcaahanmiaa", sum := "7160f8778a911a2ef9672aefe2ddfdd1f346d9ddc6e65b57d405994adc676b62", func := "loop.example/g00920/laws.FnExactCorrectHamming", spec := "fnExactCorrectHamming", unfollowed := true, recurses := true, apart := false, narrowed := true }
def FnExactCorrectHammingUptoSaid : Prop := fnExactCorrectHammingUptoRow.holds Try.pinned (OpenSpec.upto fnExactCorrectHammingSpec)

/-- 'laws.FnCorrected', WHERE WHAT IT READS IS OF BULK AT MOST 1048576: true; the input reads as it did. -/
def fnCorrectedUptoRow : OpenClaim := { program := "ytgmgpcaahanmiaa", sum := "7160f8778a911a2ef9672aefe2ddfdd1f346d9ddc6e65b57d405994adc676b62", func := "loop.example/g00920/laws.FnCorrected", spec := "fnCorrected", unfollowed := true, recurses := true, apart := false, narrowed := true }
def FnCorrectedUptoSaid : Prop := fnCorrectedUptoRow.holds Try.pinned (OpenSpec.upto fnCorrectedSpec)

/-- 'laws.FnReedSolomon', WHERE WHAT IT READS IS OF BULK AT MOST 1048576: true; the input reads as it did. -/
def fnReedSolomonUptoRow : OpenClaim := { program := "ytgmgpcaahanmiaa", sum := "7160f8778a911a2ef9672aefe2ddfdd1f346d9ddc6e65b57d405994adc676b62", func := "loop.example/g00920/laws.FnReedSolomon", spec := "fnReedSolomon", unfollowed := true, recurses := true, apart := false, narrowed := true }
def FnReedSolomonUptoSaid : Prop := fnReedSolomonUptoRow.holds Try.pinned (OpenSpec.upto fnReedSolomonSpec)

/-- 'laws.FnHamming', WHERE WHAT IT READS IS OF BULK AT MOST 1048576: true; the input reads as it did. -/
def fnHammingUptoRow : OpenClaim := { program := "ytgmgpcaahanmiaa", sum := "7160f8778a911a2ef9672aefe2ddfdd1f346d9ddc6e65b57d405994adc676b62", func := "loop.example/g00920/laws.FnHamming", spec := "fnHamming", unfollowed := true, recurses := true, apart := false, narrowed := true }
def FnHammingUptoSaid : Prop := fnHammingUptoRow.holds Try.pinned (OpenSpec.upto fnHammingSpec)

/-- 'laws.FnDualCode', WHERE WHAT IT READS IS OF BULK AT MOST 1048576: true; the input reads as it did. -/
def fnDualCodeUptoRow : OpenClaim := { program := "ytgmgpcaahanmiaa", sum := "7160f8778a911a2ef9672aefe2ddfdd1f346d9ddc6e65b57d405994adc676b62", func := "loop.example/g00920/laws.FnDualCode", spec := "fnDualCode", unfollowed := true, recurses := true, apart := false, narrowed := true }
def FnDualCodeUptoSaid : Prop := fnDualCodeUptoRow.holds Try.pinned (OpenSpec.upto fnDualCodeSpec)

/-- 'laws.FnSyndromes', WHERE WHAT IT READS IS OF BULK AT MOST 1048576: true; the input reads as it did. -/
def fnSyndromesUptoRow : OpenClaim := { program := "ytgmgpcaahanmiaa", sum := "7160f8778a911a2ef9672aefe2ddfdd1f346d9ddc6e65b57d405994adc676b62", func := "loop.example/g00920/laws.FnSyndromes", spec := "fnSyndromes", unfollowed := true, recurses := true, apart := false, narrowed := true }
def FnSyndromesUptoSaid : Prop := fnSyndromesUptoRow.holds Try.pinned (OpenSpec.upto fnSyndromesSpec)

/-- 'laws.FnPlaces', WHERE WHAT IT READS IS OF BULK AT MOST 1048576: true; the input reads as it did. -/
def fnPlacesUptoRow : OpenClaim := { program := "ytgmgpcaahanmiaa", sum := "7160f8778a911a2ef9672aefe2ddfdd1f346d9ddc6e65b57d405994adc676b62", func := "loop.example/g00920/laws.FnPlaces", spec := "fnPlaces", unfollowed := true, recurses := true, apart := false, narrowed := true }
def FnPlacesUptoSaid : Prop := fnPlacesUptoRow.holds Try.pinned (OpenSpec.upto fnPlacesSpec)

/-- 'laws.FnMacWilliams', WHERE WHAT IT READS IS OF BULK AT MOST 1048576: true; the input reads as it did. -/
def fnMacWilliamsUptoRow : OpenClaim := { program := "ytgmgpcaahanmiaa", sum := "7160f8778a911a2ef9672aefe2ddfdd1f346d9ddc6e65b57d405994adc676b62", func := "loop.example/g00920/laws.FnMacWilliams", spec := "fnMacWilliams", unfollowed := true, recurses := true, apart := false, narrowed := true }
def FnMacWilliamsUptoSaid : Prop := fnMacWilliamsUptoRow.holds Try.pinned (OpenSpec.upto fnMacWilliamsSpec)

/-- 'laws.FnBounds', WHERE WHAT IT READS IS OF BULK AT MOST 1048576: true; the input reads as it did. -/
def fnBoundsUptoRow : OpenClaim := { program := "ytgmgpcaahanmiaa", sum := "7160f8778a911a2ef9672aefe2ddfdd1f346d9ddc6e65b57d405994adc676b62", func := "loop.example/g00920/laws.FnBounds", spec := "fnBounds", unfollowed := true, recurses := true, apart := false, narrowed := true }
def FnBoundsUptoSaid : Prop := fnBoundsUptoRow.holds Try.pinned (OpenSpec.upto fnBoundsSpec)

/-- 'laws.FnExactRankOfDesign', WHERE WHAT IT READS IS OF BULK AT MOST 1048576: true; the input reads as it did. -/
def fnExactRankOfDesignUptoRow : OpenClaim := { program := "ytgmgpcaahanmiaa", sum := "7160f8778a911a2ef9672aefe2ddfdd1f346d9ddc6e65b57d405994adc676b62", func := "loop.example/g00920/laws.FnExactRankOfDesign", spec := "fnExactRankOfDesign", unfollowed := true, recurses := true, apart := false, narrowed := true }
def FnExactRankOfDesignUptoSaid : Prop := fnExactRankOfDesignUptoRow.holds Try.pinned (OpenSpec.upto fnExactRankOfDesignSpec)

/-- 'laws.FnExactCodeOfDesign', WHERE WHAT IT READS IS OF BULK AT MOST 1048576: true; the input reads as it did. -/
def fnExactCodeOfDesignUptoRow : OpenClaim := { program := "ytgmgpcaahanmiaa", sum := "7160f8778a911a2ef9672aefe2ddfdd1f346d9ddc6e65b57d405994adc676b62", func := "loop.example/g00920/laws.FnExactCodeOfDesign", spec := "fnExactCodeOfDesign", unfollowed := true, recurses := true, apart := false, narrowed := true }
def FnExactCodeOfDesignUptoSaid : Prop := fnExactCodeOfDesignUptoRow.holds Try.pinned (OpenSpec.upto fnExactCodeOfDesignSpec)

end Rows
end Go.Proofs.Ytgmgpcaahanmiaa
