/-
  No cell of these rows narrows 'for every input' (looked for: loops, veiled, ifaces, maps, wideKeys, modest, calm, conditions, laid).
  DERIVED. THE GIVEN ROWS OF THIS SEAT. 12 by the template 'for every input the law returns true; each argument reads behind the call as it read before'; 0 by the template 'total and deterministic' (their statements: YtkbppgpegljcoaaTotals.lean).
  GIVEN WITH THE SEED: the statements are not yours to turn. If you find one false, say at which input.
  Laid BY PROGRAM, IN A SANDBOX (cutbox-rows.mjs): the forced cells as the released guide's own fill.sh prints them over the translation 5cfadcefafe07015… (all of the seat's roots in one cut). By AI agents, Wed Nov 11 2026. No macro, syntax, notation, axiom, sorry.
-/
import Derived.Test.YtkbppgpegljcoaaChecked
import GoSem.Claim
import GoSem.ClaimJoined
import GoSem.ClaimMapViews
import Derived.JoinedTies
import Derived.KernelRfl
namespace Go.Proofs.Ytkbppgpegljcoaa
/- THE CELL 'sum', in the pinned program and in every row, IS THE sha256 OF THE DUMP (.gsa) THAT YtkbppgpegljcoaaProg.lean LOADS. Nothing in Lean hashes anything: it is a label: what it is worth is what the hold of that sum in a sandbox is worth. -/
noncomputable def Try.pinned : Pinned := { name := "ytkbppgpegljcoaa", sum := "5cfadcefafe07015423371116c4408bc8c5ae246e21e5ebbba8e43d592440408", checked := Try.checked }
namespace Rows
def none {H : Type} : Left H := { results := [], args := [] }

/-- 'laws.FnExactBallSize': WHATEVER THE INPUT: true; the input reads as it did. -/
def fnExactBallSizeSpec : ChangeSpec := { name := "fnExactBallSize", fn := fun _ => fun
  | [d1, d2, d3] => { results := [.lit (.bool true)], args := [d1, d2, d3] }
  | _ => none }
def fnExactBallSizeRow : OpenClaim := { program := "ytkbppgpegljcoaa", sum := "5cfadcefafe07015423371116c4408bc8c5ae246e21e5ebbba8e43d592440408", func := "loop.example/g00920/laws.FnExactBallSize", spec := "fnExactBallSize", unfollowed := true, recurses := true, apart := false }
def FnExactBallSizeSaid : Prop := fnExactBallSizeRow.holds Try.pinned (OpenSpec.ofChange fnExactBallSizeSpec)

/-- ITS FALSE NEIGHBOUR: 'it returns false'. Refute it at one input. -/
def fnExactBallSizeWrong : ChangeSpec := { name := "fnExactBallSize", fn := fun _ => fun
  | [d1, d2, d3] => { results := [.lit (.bool false)], args := [d1, d2, d3] }
  | _ => none }
def FnExactBallSizeWrongFalsely : Prop := fnExactBallSizeRow.holds Try.pinned (OpenSpec.ofChange fnExactBallSizeWrong)

/-- 'laws.FnExactHammingBound': WHATEVER THE INPUT: true; the input reads as it did. -/
def fnExactHammingBoundSpec : ChangeSpec := { name := "fnExactHammingBound", fn := fun _ => fun
  | [d1, d2, d3] => { results := [.lit (.bool true)], args := [d1, d2, d3] }
  | _ => none }
def fnExactHammingBoundRow : OpenClaim := { program := "ytkbppgpegljcoaa", sum := "5cfadcefafe07015423371116c4408bc8c5ae246e21e5ebbba8e43d592440408", func := "loop.example/g00920/laws.FnExactHammingBound", spec := "fnExactHammingBound", unfollowed := true, recurses := true, apart := false }
def FnExactHammingBoundSaid : Prop := fnExactHammingBoundRow.holds Try.pinned (OpenSpec.ofChange fnExactHammingBoundSpec)

/-- ITS FALSE NEIGHBOUR: 'it returns false'. Refute it at one input. -/
def fnExactHammingBoundWrong : ChangeSpec := { name := "fnExactHammingBound", fn := fun _ => fun
  | [d1, d2, d3] => { results := [.lit (.bool false)], args := [d1, d2, d3] }
  | _ => none }
def FnExactHammingBoundWrongFalsely : Prop := fnExactHammingBoundRow.holds Try.pinned (OpenSpec.ofChange fnExactHammingBoundWrong)

/-- 'laws.FnExactPolynomialWord': WHATEVER THE INPUT: true; the input reads as it did. -/
def fnExactPolynomialWordSpec : ChangeSpec := { name := "fnExactPolynomialWord", fn := fun _ => fun
  | [d1, d2, d3] => { results := [.lit (.bool true)], args := [d1, d2, d3] }
  | _ => none }
def fnExactPolynomialWordRow : OpenClaim := { program := "ytkbppgpegljcoaa", sum := "5cfadcefafe07015423371116c4408bc8c5ae246e21e5ebbba8e43d592440408", func := "loop.example/g00920/laws.FnExactPolynomialWord", spec := "fnExactPolynomialWord", unfollowed := true, recurses := true, apart := false }
def FnExactPolynomialWordSaid : Prop := fnExactPolynomialWordRow.holds Try.pinned (OpenSpec.ofChange fnExactPolynomialWordSpec)

/-- ITS FALSE NEIGHBOUR: 'it returns false'. Refute it at one input. -/
def fnExactPolynomialWordWrong : ChangeSpec := { name := "fnExactPolynomialWord", fn := fun _ => fun
  | [d1, d2, d3] => { results := [.lit (.bool false)], args := [d1, d2, d3] }
  | _ => none }
def FnExactPolynomialWordWrongFalsely : Prop := fnExactPolynomialWordRow.holds Try.pinned (OpenSpec.ofChange fnExactPolynomialWordWrong)

/-- 'laws.FnExactDecodePolynomial': WHATEVER THE INPUT: true; the input reads as it did. -/
def fnExactDecodePolynomialSpec : ChangeSpec := { name := "fnExactDecodePolynomial", fn := fun _ => fun
  | [d1, d2, d3] => { results := [.lit (.bool true)], args := [d1, d2, d3] }
  | _ => none }
def fnExactDecodePolynomialRow : OpenClaim := { program := "ytkbppgpegljcoaa", sum := "5cfadcefafe07015423371116c4408bc8c5ae246e21e5ebbba8e43d592440408", func := "loop.example/g00920/laws.FnExactDecodePolynomial", spec := "fnExactDecodePolynomial", unfollowed := true, recurses := true, apart := false }
def FnExactDecodePolynomialSaid : Prop := fnExactDecodePolynomialRow.holds Try.pinned (OpenSpec.ofChange fnExactDecodePolynomialSpec)

/-- ITS FALSE NEIGHBOUR: 'it returns false'. Refute it at one input. -/
def fnExactDecodePolynomialWrong : ChangeSpec := { name := "fnExactDecodePolynomial", fn := fun _ => fun
  | [d1, d2, d3] => { results := [.lit (.bool false)], args := [d1, d2, d3] }
  | _ => none }
def FnExactDecodePolynomialWrongFalsely : Prop := fnExactDecodePolynomialRow.holds Try.pinned (OpenSpec.ofChange fnExactDecodePolynomialWrong)

/-- 'laws.FnExactCorrectHamming': WHATEVER THE INPUT: true; the input reads as it did. -/
def fnExactCorrectHammingSpec : ChangeSpec := { name := "fnExactCorrectHamming", fn := fun _ => fun
  | [d1, d2, d3] => { results := [.lit (.bool true)], args := [d1, d2, d3] }
  | _ => none }
def fnExactCorrectHammingRow : OpenClaim := { program := "ytkbppgpegljcoaa", sum := "5cfadcefafe07015423371116c4408bc8c5ae246e21e5ebbba8e43d592440408", func := "loop.example/g00920/laws.FnExactCorrectHamming", spec := "fnExactCorrectHamming", unfollowed := true, recurses := true, apart := false }
def FnExactCorrectHammingSaid : Prop := fnExactCorrectHammingRow.holds Try.pinned (OpenSpec.ofChange fnExactCorrectHammingSpec)

/-- ITS FALSE NEIGHBOUR: 'it returns false'. Refute it at one input. -/
def fnExactCorrectHammingWrong : ChangeSpec := { name := "fnExactCorrectHamming", fn := fun _ => fun
  | [d1, d2, d3] => { results := [.lit (.bool false)], args := [d1, d2, d3] }
  | _ => none }
def FnExactCorrectHammingWrongFalsely : Prop := fnExactCorrectHammingRow.holds Try.pinned (OpenSpec.ofChange fnExactCorrectHammingWrong)

/-- 'laws.FnExactValidCode': WHATEVER THE INPUT: true; the input reads as it did. -/
def fnExactValidCodeSpec : ChangeSpec := { name := "fnExactValidCode", fn := fun _ => fun
  | [d] => { results := [.lit (.bool true)], args := [d] }
  | _ => none }
def fnExactValidCodeRow : OpenClaim := { program := "ytkbppgpegljcoaa", sum := "5cfadcefafe07015423371116c4408bc8c5ae246e21e5ebbba8e43d592440408", func := "loop.example/g00920/laws.FnExactValidCode", spec := "fnExactValidCode", unfollowed := true, recurses := true, apart := false }
def FnExactValidCodeSaid : Prop := fnExactValidCodeRow.holds Try.pinned (OpenSpec.ofChange fnExactValidCodeSpec)

/-- ITS FALSE NEIGHBOUR: 'it returns false'. Refute it at one input. -/
def fnExactValidCodeWrong : ChangeSpec := { name := "fnExactValidCode", fn := fun _ => fun
  | [d] => { results := [.lit (.bool false)], args := [d] }
  | _ => none }
def FnExactValidCodeWrongFalsely : Prop := fnExactValidCodeRow.holds Try.pinned (OpenSpec.ofChange fnExactValidCodeWrong)

/-- 'laws.FnExactMakeCode': WHATEVER THE INPUT: true; the input reads as it did. -/
def fnExactMakeCodeSpec : ChangeSpec := { name := "fnExactMakeCode", fn := fun _ => fun
  | [d1, d2] => { results := [.lit (.bool true)], args := [d1, d2] }
  | _ => none }
def fnExactMakeCodeRow : OpenClaim := { program := "ytkbppgpegljcoaa", sum := "5cfadcefafe07015423371116c4408bc8c5ae246e21e5ebbba8e43d592440408", func := "loop.example/g00920/laws.FnExactMakeCode", spec := "fnExactMakeCode", unfollowed := true, recurses := true, apart := false }
def FnExactMakeCodeSaid : Prop := fnExactMakeCodeRow.holds Try.pinned (OpenSpec.ofChange fnExactMakeCodeSpec)

/-- ITS FALSE NEIGHBOUR: 'it returns false'. Refute it at one input. -/
def fnExactMakeCodeWrong : ChangeSpec := { name := "fnExactMakeCode", fn := fun _ => fun
  | [d1, d2] => { results := [.lit (.bool false)], args := [d1, d2] }
  | _ => none }
def FnExactMakeCodeWrongFalsely : Prop := fnExactMakeCodeRow.holds Try.pinned (OpenSpec.ofChange fnExactMakeCodeWrong)

/-- 'laws.FnExactReedSolomon': WHATEVER THE INPUT: true; the input reads as it did. -/
def fnExactReedSolomonSpec : ChangeSpec := { name := "fnExactReedSolomon", fn := fun _ => fun
  | [d1, d2, d3] => { results := [.lit (.bool true)], args := [d1, d2, d3] }
  | _ => none }
def fnExactReedSolomonRow : OpenClaim := { program := "ytkbppgpegljcoaa", sum := "5cfadcefafe07015423371116c4408bc8c5ae246e21e5ebbba8e43d592440408", func := "loop.example/g00920/laws.FnExactReedSolomon", spec := "fnExactReedSolomon", unfollowed := true, recurses := true, apart := false }
def FnExactReedSolomonSaid : Prop := fnExactReedSolomonRow.holds Try.pinned (OpenSpec.ofChange fnExactReedSolomonSpec)

/-- ITS FALSE NEIGHBOUR: 'it returns false'. Refute it at one input. -/
def fnExactReedSolomonWrong : ChangeSpec := { name := "fnExactReedSolomon", fn := fun _ => fun
  | [d1, d2, d3] => { results := [.lit (.bool false)], args := [d1, d2, d3] }
  | _ => none }
def FnExactReedSolomonWrongFalsely : Prop := fnExactReedSolomonRow.holds Try.pinned (OpenSpec.ofChange fnExactReedSolomonWrong)

/-- 'laws.FnExactCodeHas': WHATEVER THE INPUT: true; the input reads as it did. -/
def fnExactCodeHasSpec : ChangeSpec := { name := "fnExactCodeHas", fn := fun _ => fun
  | [d1, d2] => { results := [.lit (.bool true)], args := [d1, d2] }
  | _ => none }
def fnExactCodeHasRow : OpenClaim := { program := "ytkbppgpegljcoaa", sum := "5cfadcefafe07015423371116c4408bc8c5ae246e21e5ebbba8e43d592440408", func := "loop.example/g00920/laws.FnExactCodeHas", spec := "fnExactCodeHas", unfollowed := true, recurses := true, apart := false }
def FnExactCodeHasSaid : Prop := fnExactCodeHasRow.holds Try.pinned (OpenSpec.ofChange fnExactCodeHasSpec)

/-- ITS FALSE NEIGHBOUR: 'it returns false'. Refute it at one input. -/
def fnExactCodeHasWrong : ChangeSpec := { name := "fnExactCodeHas", fn := fun _ => fun
  | [d1, d2] => { results := [.lit (.bool false)], args := [d1, d2] }
  | _ => none }
def FnExactCodeHasWrongFalsely : Prop := fnExactCodeHasRow.holds Try.pinned (OpenSpec.ofChange fnExactCodeHasWrong)

/-- 'laws.FnExactEncodeWord': WHATEVER THE INPUT: true; the input reads as it did. -/
def fnExactEncodeWordSpec : ChangeSpec := { name := "fnExactEncodeWord", fn := fun _ => fun
  | [d1, d2] => { results := [.lit (.bool true)], args := [d1, d2] }
  | _ => none }
def fnExactEncodeWordRow : OpenClaim := { program := "ytkbppgpegljcoaa", sum := "5cfadcefafe07015423371116c4408bc8c5ae246e21e5ebbba8e43d592440408", func := "loop.example/g00920/laws.FnExactEncodeWord", spec := "fnExactEncodeWord", unfollowed := true, recurses := true, apart := false }
def FnExactEncodeWordSaid : Prop := fnExactEncodeWordRow.holds Try.pinned (OpenSpec.ofChange fnExactEncodeWordSpec)

/-- ITS FALSE NEIGHBOUR: 'it returns false'. Refute it at one input. -/
def fnExactEncodeWordWrong : ChangeSpec := { name := "fnExactEncodeWord", fn := fun _ => fun
  | [d1, d2] => { results := [.lit (.bool false)], args := [d1, d2] }
  | _ => none }
def FnExactEncodeWordWrongFalsely : Prop := fnExactEncodeWordRow.holds Try.pinned (OpenSpec.ofChange fnExactEncodeWordWrong)

/-- 'laws.FnExactWordsOf': WHATEVER THE INPUT: true; the input reads as it did. -/
def fnExactWordsOfSpec : ChangeSpec := { name := "fnExactWordsOf", fn := fun _ => fun
  | [d] => { results := [.lit (.bool true)], args := [d] }
  | _ => none }
def fnExactWordsOfRow : OpenClaim := { program := "ytkbppgpegljcoaa", sum := "5cfadcefafe07015423371116c4408bc8c5ae246e21e5ebbba8e43d592440408", func := "loop.example/g00920/laws.FnExactWordsOf", spec := "fnExactWordsOf", unfollowed := true, recurses := true, apart := false }
def FnExactWordsOfSaid : Prop := fnExactWordsOfRow.holds Try.pinned (OpenSpec.ofChange fnExactWordsOfSpec)

/-- ITS FALSE NEIGHBOUR: 'it returns false'. Refute it at one input. -/
def fnExactWordsOfWrong : ChangeSpec := { name := "fnExactWordsOf", fn := fun _ => fun
  | [d] => { results := [.lit (.bool false)], args := [d] }
  | _ => none }
def FnExactWordsOfWrongFalsely : Prop := fnExactWordsOfRow.holds Try.pinned (OpenSpec.ofChange fnExactWordsOfWrong)

/-- 'laws.FnExactDistanceOf': WHATEVER THE INPUT: true; the input reads as it did. -/
def fnExactDistanceOfSpec : ChangeSpec := { name := "fnExactDistanceOf", fn := fun _ => fun
  | [d] => { results := [.lit (.bool true)], args := [d] }
  | _ => none }
def fnExactDistanceOfRow : OpenClaim := { program := "ytkbppgpegljcoaa", sum := "5cfadcefafe07015423371116c4408bc8c5ae246e21e5ebbba8e43d592440408", func := "loop.example/g00920/laws.FnExactDistanceOf", spec := "fnExactDistanceOf", unfollowed := true, recurses := true, apart := false }
def FnExactDistanceOfSaid : Prop := fnExactDistanceOfRow.holds Try.pinned (OpenSpec.ofChange fnExactDistanceOfSpec)

/-- ITS FALSE NEIGHBOUR: 'it returns false'. Refute it at one input. -/
def fnExactDistanceOfWrong : ChangeSpec := { name := "fnExactDistanceOf", fn := fun _ => fun
  | [d] => { results := [.lit (.bool false)], args := [d] }
  | _ => none }
def FnExactDistanceOfWrongFalsely : Prop := fnExactDistanceOfRow.holds Try.pinned (OpenSpec.ofChange fnExactDistanceOfWrong)

/- THE SECOND FORM. 'bulk': how many values and letters a reading holds, each counted each time it is reached (what is shared counts as often as it is met; a slice's spare places count too). A statement '..UptoSaid' is the law's where the arguments, and the package variables that the reading takes, are together of bulk at most 1048576: NARROWER than '..Said'. Prove '..Said' where nothing that the law and all that it calls make is longer than what came in: it says more and counts as full. Else prove '..UptoSaid'. A law counts once. -/
mutual
def uptoBulk {H : Type} : DataW H → Nat
  | .lit (.string bytes) => bytes.length + 1
  | .lit _ => 1
  | .nil => 1
  | .ptr d => uptoBulk d + 1
  | .slice elems spare => uptoBulkAll elems + uptoBulkAll spare + 1
  | .agg parts => uptoBulkAll parts + 1
  | .iface _ d => uptoBulk d + 1
  | .map entries => uptoBulkEntries entries + 1
  | .held _ => 1
def uptoBulkAll {H : Type} : List (DataW H) → Nat
  | [] => 0
  | d :: r => uptoBulk d + uptoBulkAll r
def uptoBulkEntries {H : Type} : List (Lit × DataW H) → Nat
  | [] => 0
  | x :: r => uptoBulkEntry x + uptoBulkEntries r
def uptoBulkEntry {H : Type} : Lit × DataW H → Nat
  | (.string bytes, d) => bytes.length + uptoBulk d + 1
  | (_, d) => uptoBulk d + 1
 end
def uptoSmall : (H : Type) → List (DataW H) → Bool := fun _ ds => decide (uptoBulkAll ds ≤ 1048576)
def OpenSpec.upto (s : _root_.Go.ChangeSpec) : _root_.Go.OpenSpec := { _root_.Go.OpenSpec.ofChange s with cond := some uptoSmall }

/-- 'laws.FnExactBallSize', WHERE WHAT IT READS IS OF BULK AT MOST 1048576: true; the input reads as it did. -/
def fnExactBallSizeUptoRow : OpenClaim := { program := "ytkbppgpegljcoaa", sum := "5cfadcefafe07015423371116c4408bc8c5ae246e21e5ebbba8e43d592440408", func := "loop.example/g00920/laws.FnExactBallSize", spec := "fnExactBallSize", unfollowed := true, recurses := true, apart := false, narrowed := true }
def FnExactBallSizeUptoSaid : Prop := fnExactBallSizeUptoRow.holds Try.pinned (OpenSpec.upto fnExactBallSizeSpec)

/-- 'laws.FnExactHammingBound', WHERE WHAT IT READS IS OF BULK AT MOST 1048576: true; the input reads as it did. -/
def fnExactHammingBoundUptoRow : OpenClaim := { program := "ytkbppgpegljcoaa", sum := "5cfadcefafe07015423371116c4408bc8c5ae246e21e5ebbba8e43d592440408", func := "loop.example/g00920/laws.FnExactHammingBound", spec := "fnExactHammingBound", unfollowed := true, recurses := true, apart := false, narrowed := true }
def FnExactHammingBoundUptoSaid : Prop := fnExactHammingBoundUptoRow.holds Try.pinned (OpenSpec.upto fnExactHammingBoundSpec)

/-- 'laws.FnExactPolynomialWord', WHERE WHAT IT READS IS OF BULK AT MOST 1048576: true; the input reads as it did. -/
def fnExactPolynomialWordUptoRow : OpenClaim := { program := "ytkbppgpegljcoaa", sum := "5cfadcefafe07015423371116c4408bc8c5ae246e21e5ebbba8e43d592440408", func := "loop.example/g00920/laws.FnExactPolynomialWord", spec := "fnExactPolynomialWord", unfollowed := true, recurses := true, apart := false, narrowed := true }
def FnExactPolynomialWordUptoSaid : Prop := fnExactPolynomialWordUptoRow.holds Try.pinned (OpenSpec.upto fnExactPolynomialWordSpec)

/-- 'laws.FnExactDecodePolynomial', WHERE WHAT IT READS IS OF BULK AT MOST 1048576: true; the input reads as it did. -/
def fnExactDecodePolynomialUptoRow : OpenClaim := { program := "ytkbppgpegljcoaa", sum := "5cfadcefafe07015423371116c4408bc8c5ae246e21e5ebbba8e43d592440408", func := "loop.example/g00920/laws.FnExactDecodePolynomial", spec := "fnExactDecodePolynomial", unfollowed := true, recurses := true, apart := false, narrowed := true }
def FnExactDecodePolynomialUptoSaid : Prop := fnExactDecodePolynomialUptoRow.holds Try.pinned (OpenSpec.upto fnExactDecodePolynomialSpec)

/-- 'laws.FnExactCorrectHamming', WHERE WHAT IT READS IS OF BULK AT MOST 1048576: true; the input reads as it did. -/
def fnExactCorrectHammingUptoRow : OpenClaim := { program := "ytkbppgpegljcoaa", sum := "5cfadcefafe07015423371116c4408bc8c5ae246e21e5ebbba8e43d592440408", func := "loop.example/g00920/laws.FnExactCorrectHamming", spec := "fnExactCorrectHamming", unfollowed := true, recurses := true, apart := false, narrowed := true }
def FnExactCorrectHammingUptoSaid : Prop := fnExactCorrectHammingUptoRow.holds Try.pinned (OpenSpec.upto fnExactCorrectHammingSpec)

/-- 'laws.FnExactValidCode', WHERE WHAT IT READS IS OF BULK AT MOST 1048576: true; the input reads as it did. -/
def fnExactValidCodeUptoRow : OpenClaim := { program := "ytkbppgpegljcoaa", sum := "5cfadcefafe07015423371116c4408bc8c5ae246e21e5ebbba8e43d592440408", func := "loop.example/g00920/laws.FnExactValidCode", spec := "fnExactValidCode", unfollowed := true, recurses := true, apart := false, narrowed := true }
def FnExactValidCodeUptoSaid : Prop := fnExactValidCodeUptoRow.holds Try.pinned (OpenSpec.upto fnExactValidCodeSpec)

/-- 'laws.FnExactMakeCode', WHERE WHAT IT READS IS OF BULK AT MOST 1048576: true; the input reads as it did. -/
def fnExactMakeCodeUptoRow : OpenClaim := { program := "ytkbppgpegljcoaa", sum := "5cfadcefafe07015423371116c4408bc8c5ae246e21e5ebbba8e43d592440408", func := "loop.example/g00920/laws.FnExactMakeCode", spec := "fnExactMakeCode", unfollowed := true, recurses := true, apart := false, narrowed := true }
def FnExactMakeCodeUptoSaid : Prop := fnExactMakeCodeUptoRow.holds Try.pinned (OpenSpec.upto fnExactMakeCodeSpec)

/-- 'laws.FnExactReedSolomon', WHERE WHAT IT READS IS OF BULK AT MOST 1048576: true; the input reads as it did. -/
def fnExactReedSolomonUptoRow : OpenClaim := { program := "ytkbppgpegljcoaa", sum := "5cfadcefafe07015423371116c4408bc8c5ae246e21e5ebbba8e43d592440408", func := "loop.example/g00920/laws.FnExactReedSolomon", spec := "fnExactReedSolomon", unfollowed := true, recurses := true, apart := false, narrowed := true }
def FnExactReedSolomonUptoSaid : Prop := fnExactReedSolomonUptoRow.holds Try.pinned (OpenSpec.upto fnExactReedSolomonSpec)

/-- 'laws.FnExactCodeHas', WHERE WHAT IT READS IS OF BULK AT MOST 1048576: true; the input reads as it did. -/
def fnExactCodeHasUptoRow : OpenClaim := { program := "ytkbppgpegljcoaa", sum := "5cfadcefafe07015423371116c4408bc8c5ae246e21e5ebbba8e43d592440408", func := "loop.example/g00920/laws.FnExactCodeHas", spec := "fnExactCodeHas", unfollowed := true, recurses := true, apart := false, narrowed := true }
def FnExactCodeHasUptoSaid : Prop := fnExactCodeHasUptoRow.holds Try.pinned (OpenSpec.upto fnExactCodeHasSpec)

/-- 'laws.FnExactEncodeWord', WHERE WHAT IT READS IS OF BULK AT MOST 1048576: true; the input reads as it did. -/
def fnExactEncodeWordUptoRow : OpenClaim := { program := "ytkbppgpegljcoaa", sum := "5cfadcefafe07015423371116c4408bc8c5ae246e21e5ebbba8e43d592440408", func := "loop.example/g00920/laws.FnExactEncodeWord", spec := "fnExactEncodeWord", unfollowed := true, recurses := true, apart := false, narrowed := true }
def FnExactEncodeWordUptoSaid : Prop := fnExactEncodeWordUptoRow.holds Try.pinned (OpenSpec.upto fnExactEncodeWordSpec)

/-- 'laws.FnExactWordsOf', WHERE WHAT IT READS IS OF BULK AT MOST 1048576: true; the input reads as it did. -/
def fnExactWordsOfUptoRow : OpenClaim := { program := "ytkbppgpegljcoaa", sum := "5cfadcefafe07015423371116c4408bc8c5ae246e21e5ebbba8e43d592440408", func := "loop.example/g00920/laws.FnExactWordsOf", spec := "fnExactWordsOf", unfollowed := true, recurses := true, apart := false, narrowed := true }
def FnExactWordsOfUptoSaid : Prop := fnExactWordsOfUptoRow.holds Try.pinned (OpenSpec.upto fnExactWordsOfSpec)

/-- 'laws.FnExactDistanceOf', WHERE WHAT IT READS IS OF BULK AT MOST 1048576: true; the input reads as it did. -/
def fnExactDistanceOfUptoRow : OpenClaim := { program := "ytkbppgpegljcoaa", sum := "5cfadcefafe07015423371116c4408bc8c5ae246e21e5ebbba8e43d592440408", func := "loop.example/g00920/laws.FnExactDistanceOf", spec := "fnExactDistanceOf", unfollowed := true, recurses := true, apart := false, narrowed := true }
def FnExactDistanceOfUptoSaid : Prop := fnExactDistanceOfUptoRow.holds Try.pinned (OpenSpec.upto fnExactDistanceOfSpec)

end Rows
end Go.Proofs.Ytkbppgpegljcoaa
