/-
  No cell of these rows narrows 'for every input' (looked for: loops, veiled, ifaces, maps, wideKeys, modest, calm, conditions, laid).
  DERIVED. THE GIVEN ROWS OF THIS SEAT. 8 by the template 'for every input the law returns true; each argument reads behind the call as it read before'; 0 by the template 'total and deterministic' (their statements: YtcblhjhabhjbkaaTotals.lean).
  GIVEN WITH THE SEED: the statements are not yours to turn. If you find one false, say at which input.
  Laid BY PROGRAM, IN A SANDBOX (cutbox-rows.mjs): the forced cells as the released guide's own fill.sh prints them over the translation 9877c9bcaae118e1… (all of the seat's roots in one cut). By AI agents, Wed Nov 11 2026. No macro, syntax, notation, axiom, sorry.
-/
import Derived.Test.YtcblhjhabhjbkaaChecked
import GoSem.Claim
import GoSem.ClaimJoined
import GoSem.ClaimMapViews
import Derived.JoinedTies
import Derived.KernelRfl
namespace Go.Proofs.Ytcblhjhabhjbkaa
/- THE CELL 'sum', in the pinned program and in every row, IS THE sha256 OF THE DUMP (.gsa) THAT YtcblhjhabhjbkaaProg.lean LOADS. Nothing in Lean hashes anything: it is a label: what it is worth is what the hold of that sum in a sandbox is worth. -/
noncomputable def Try.pinned : Pinned := { name := "ytcblhjhabhjbkaa", sum := "9877c9bcaae118e19afd4c25aeb7b8df7876ec4ab0462ae7de6509c8f0a42001", checked := Try.checked }
namespace Rows
def none {H : Type} : Left H := { results := [], args := [] }

/-- 'laws.FnExactHullOf': WHATEVER THE INPUT: true; the input reads as it did. -/
def fnExactHullOfSpec : ChangeSpec := { name := "fnExactHullOf", fn := fun _ => fun
  | [d] => { results := [.lit (.bool true)], args := [d] }
  | _ => none }
def fnExactHullOfRow : OpenClaim := { program := "ytcblhjhabhjbkaa", sum := "9877c9bcaae118e19afd4c25aeb7b8df7876ec4ab0462ae7de6509c8f0a42001", func := "loop.example/g00920/laws.FnExactHullOf", spec := "fnExactHullOf", unfollowed := true, recurses := true, apart := false }
def FnExactHullOfSaid : Prop := fnExactHullOfRow.holds Try.pinned (OpenSpec.ofChange fnExactHullOfSpec)

/-- ITS FALSE NEIGHBOUR: 'it returns false'. Refute it at one input. -/
def fnExactHullOfWrong : ChangeSpec := { name := "fnExactHullOf", fn := fun _ => fun
  | [d] => { results := [.lit (.bool false)], args := [d] }
  | _ => none }
def FnExactHullOfWrongFalsely : Prop := fnExactHullOfRow.holds Try.pinned (OpenSpec.ofChange fnExactHullOfWrong)

/-- 'laws.FnExactExtendCode': WHATEVER THE INPUT: true; the input reads as it did. -/
def fnExactExtendCodeSpec : ChangeSpec := { name := "fnExactExtendCode", fn := fun _ => fun
  | [d] => { results := [.lit (.bool true)], args := [d] }
  | _ => none }
def fnExactExtendCodeRow : OpenClaim := { program := "ytcblhjhabhjbkaa", sum := "9877c9bcaae118e19afd4c25aeb7b8df7876ec4ab0462ae7de6509c8f0a42001", func := "loop.example/g00920/laws.FnExactExtendCode", spec := "fnExactExtendCode", unfollowed := true, recurses := true, apart := false }
def FnExactExtendCodeSaid : Prop := fnExactExtendCodeRow.holds Try.pinned (OpenSpec.ofChange fnExactExtendCodeSpec)

/-- ITS FALSE NEIGHBOUR: 'it returns false'. Refute it at one input. -/
def fnExactExtendCodeWrong : ChangeSpec := { name := "fnExactExtendCode", fn := fun _ => fun
  | [d] => { results := [.lit (.bool false)], args := [d] }
  | _ => none }
def FnExactExtendCodeWrongFalsely : Prop := fnExactExtendCodeRow.holds Try.pinned (OpenSpec.ofChange fnExactExtendCodeWrong)

/-- 'laws.FnExactDualWeights': WHATEVER THE INPUT: true; the input reads as it did. -/
def fnExactDualWeightsSpec : ChangeSpec := { name := "fnExactDualWeights", fn := fun _ => fun
  | [d] => { results := [.lit (.bool true)], args := [d] }
  | _ => none }
def fnExactDualWeightsRow : OpenClaim := { program := "ytcblhjhabhjbkaa", sum := "9877c9bcaae118e19afd4c25aeb7b8df7876ec4ab0462ae7de6509c8f0a42001", func := "loop.example/g00920/laws.FnExactDualWeights", spec := "fnExactDualWeights", unfollowed := true, recurses := true, apart := false }
def FnExactDualWeightsSaid : Prop := fnExactDualWeightsRow.holds Try.pinned (OpenSpec.ofChange fnExactDualWeightsSpec)

/-- ITS FALSE NEIGHBOUR: 'it returns false'. Refute it at one input. -/
def fnExactDualWeightsWrong : ChangeSpec := { name := "fnExactDualWeights", fn := fun _ => fun
  | [d] => { results := [.lit (.bool false)], args := [d] }
  | _ => none }
def FnExactDualWeightsWrongFalsely : Prop := fnExactDualWeightsRow.holds Try.pinned (OpenSpec.ofChange fnExactDualWeightsWrong)

/-- 'laws.FnExactPunctureCode': WHATEVER THE INPUT: true; the input reads as it did. -/
def fnExactPunctureCodeSpec : ChangeSpec := { name := "fnExactPunctureCode", fn := fun _ => fun
  | [d1, d2] => { results := [.lit (.bool true)], args := [d1, d2] }
  | _ => none }
def fnExactPunctureCodeRow : OpenClaim := { program := "ytcblhjhabhjbkaa", sum := "9877c9bcaae118e19afd4c25aeb7b8df7876ec4ab0462ae7de6509c8f0a42001", func := "loop.example/g00920/laws.FnExactPunctureCode", spec := "fnExactPunctureCode", unfollowed := true, recurses := true, apart := false }
def FnExactPunctureCodeSaid : Prop := fnExactPunctureCodeRow.holds Try.pinned (OpenSpec.ofChange fnExactPunctureCodeSpec)

/-- ITS FALSE NEIGHBOUR: 'it returns false'. Refute it at one input. -/
def fnExactPunctureCodeWrong : ChangeSpec := { name := "fnExactPunctureCode", fn := fun _ => fun
  | [d1, d2] => { results := [.lit (.bool false)], args := [d1, d2] }
  | _ => none }
def FnExactPunctureCodeWrongFalsely : Prop := fnExactPunctureCodeRow.holds Try.pinned (OpenSpec.ofChange fnExactPunctureCodeWrong)

/-- 'laws.FnExactShortenCode': WHATEVER THE INPUT: true; the input reads as it did. -/
def fnExactShortenCodeSpec : ChangeSpec := { name := "fnExactShortenCode", fn := fun _ => fun
  | [d1, d2] => { results := [.lit (.bool true)], args := [d1, d2] }
  | _ => none }
def fnExactShortenCodeRow : OpenClaim := { program := "ytcblhjhabhjbkaa", sum := "9877c9bcaae118e19afd4c25aeb7b8df7876ec4ab0462ae7de6509c8f0a42001", func := "loop.example/g00920/laws.FnExactShortenCode", spec := "fnExactShortenCode", unfollowed := true, recurses := true, apart := false }
def FnExactShortenCodeSaid : Prop := fnExactShortenCodeRow.holds Try.pinned (OpenSpec.ofChange fnExactShortenCodeSpec)

/-- ITS FALSE NEIGHBOUR: 'it returns false'. Refute it at one input. -/
def fnExactShortenCodeWrong : ChangeSpec := { name := "fnExactShortenCode", fn := fun _ => fun
  | [d1, d2] => { results := [.lit (.bool false)], args := [d1, d2] }
  | _ => none }
def FnExactShortenCodeWrongFalsely : Prop := fnExactShortenCodeRow.holds Try.pinned (OpenSpec.ofChange fnExactShortenCodeWrong)

/-- 'laws.FnExactHammingCode': WHATEVER THE INPUT: true; the input reads as it did. -/
def fnExactHammingCodeSpec : ChangeSpec := { name := "fnExactHammingCode", fn := fun _ => fun
  | [d1, d2] => { results := [.lit (.bool true)], args := [d1, d2] }
  | _ => none }
def fnExactHammingCodeRow : OpenClaim := { program := "ytcblhjhabhjbkaa", sum := "9877c9bcaae118e19afd4c25aeb7b8df7876ec4ab0462ae7de6509c8f0a42001", func := "loop.example/g00920/laws.FnExactHammingCode", spec := "fnExactHammingCode", unfollowed := true, recurses := true, apart := false }
def FnExactHammingCodeSaid : Prop := fnExactHammingCodeRow.holds Try.pinned (OpenSpec.ofChange fnExactHammingCodeSpec)

/-- ITS FALSE NEIGHBOUR: 'it returns false'. Refute it at one input. -/
def fnExactHammingCodeWrong : ChangeSpec := { name := "fnExactHammingCode", fn := fun _ => fun
  | [d1, d2] => { results := [.lit (.bool false)], args := [d1, d2] }
  | _ => none }
def FnExactHammingCodeWrongFalsely : Prop := fnExactHammingCodeRow.holds Try.pinned (OpenSpec.ofChange fnExactHammingCodeWrong)

/-- 'laws.FnExactSimplexCode': WHATEVER THE INPUT: true; the input reads as it did. -/
def fnExactSimplexCodeSpec : ChangeSpec := { name := "fnExactSimplexCode", fn := fun _ => fun
  | [d1, d2] => { results := [.lit (.bool true)], args := [d1, d2] }
  | _ => none }
def fnExactSimplexCodeRow : OpenClaim := { program := "ytcblhjhabhjbkaa", sum := "9877c9bcaae118e19afd4c25aeb7b8df7876ec4ab0462ae7de6509c8f0a42001", func := "loop.example/g00920/laws.FnExactSimplexCode", spec := "fnExactSimplexCode", unfollowed := true, recurses := true, apart := false }
def FnExactSimplexCodeSaid : Prop := fnExactSimplexCodeRow.holds Try.pinned (OpenSpec.ofChange fnExactSimplexCodeSpec)

/-- ITS FALSE NEIGHBOUR: 'it returns false'. Refute it at one input. -/
def fnExactSimplexCodeWrong : ChangeSpec := { name := "fnExactSimplexCode", fn := fun _ => fun
  | [d1, d2] => { results := [.lit (.bool false)], args := [d1, d2] }
  | _ => none }
def FnExactSimplexCodeWrongFalsely : Prop := fnExactSimplexCodeRow.holds Try.pinned (OpenSpec.ofChange fnExactSimplexCodeWrong)

/-- 'laws.FnExactCorrectHamming': WHATEVER THE INPUT: true; the input reads as it did. -/
def fnExactCorrectHammingSpec : ChangeSpec := { name := "fnExactCorrectHamming", fn := fun _ => fun
  | [d1, d2, d3] => { results := [.lit (.bool true)], args := [d1, d2, d3] }
  | _ => none }
def fnExactCorrectHammingRow : OpenClaim := { program := "ytcblhjhabhjbkaa", sum := "9877c9bcaae118e19afd4c25aeb7b8df7876ec4ab0462ae7de6509c8f0a42001", func := "loop.example/g00920/laws.FnExactCorrectHamming", spec := "fnExactCorrectHamming", unfollowed := true, recurses := true, apart := false }
def FnExactCorrectHammingSaid : Prop := fnExactCorrectHammingRow.holds Try.pinned (OpenSpec.ofChange fnExactCorrectHammingSpec)

/-- ITS FALSE NEIGHBOUR: 'it returns false'. Refute it at one input. -/
def fnExactCorrectHammingWrong : ChangeSpec := { name := "fnExactCorrectHamming", fn := fun _ => fun
  | [d1, d2, d3] => { results := [.lit (.bool false)], args := [d1, d2, d3] }
  | _ => none }
def FnExactCorrectHammingWrongFalsely : Prop := fnExactCorrectHammingRow.holds Try.pinned (OpenSpec.ofChange fnExactCorrectHammingWrong)

/- THE SECOND FORM. 'bulk': how many values and letters a reading holds, each counted each time it is reached (what is shared counts as often as it is met; a slice's spare places count too). A statement '..UptoSaid' is the law's where the arguments, and the package variables that the reading takes, are together of bulk at most 1048576: NARROWER than '..Said'. Prove '..Said' where nothing that the law and all that it calls make is longer than what came in: it says more and counts as full. Else prove '..UptoSaid'. A law counts once. -/
mutual
def uptoBulk {H : Type} : DataW H → Nat
  | .lit (.string bytes) => bytes.length + 1
  | .lit _ => 1
  | .nil => 1
  | .ptr d => uptoBulk d + 1
  | .slice elems spare => uptoBulkAll elems + uptoBulkAll spare + 1
  | .agg parts => uptoBulkAll parts + 1
  | .iface _ d => uptoBulk d + 1
  | .map entries => uptoBulkEntries entries + 1
  | .held _ => 1
def uptoBulkAll {H : Type} : List (DataW H) → Nat
  | [] => 0
  | d :: r => uptoBulk d + uptoBulkAll r
def uptoBulkEntries {H : Type} : List (Lit × DataW H) → Nat
  | [] => 0
  | x :: r => uptoBulkEntry x + uptoBulkEntries r
def uptoBulkEntry {H : Type} : Lit × DataW H → Nat
  | (.string bytes, d) => bytes.length + uptoBulk d + 1
  | (_, d) => uptoBulk d + 1
 end
def uptoSmall : (H : Type) → List (DataW H) → Bool := fun _ ds => decide (uptoBulkAll ds ≤ 1048576)
def OpenSpec.upto (s : _root_.Go.ChangeSpec) : _root_.Go.OpenSpec := { _root_.Go.OpenSpec.ofChange s with cond := some uptoSmall }

/-- 'laws.FnExactHullOf', WHERE WHAT IT READS IS OF BULK AT MOST 1048576: true; the input reads as it did. -/
def fnExactHullOfUptoRow : OpenClaim := { program := "ytcblhjhabhjbkaa", sum := "9877c9bcaae118e19afd4c25aeb7b8df7876ec4ab0462ae7de6509c8f0a42001", func := "loop.example/g00920/laws.FnExactHullOf", spec := "fnExactHullOf", unfollowed := true, recurses := true, apart := false, narrowed := true }
def FnExactHullOfUptoSaid : Prop := fnExactHullOfUptoRow.holds Try.pinned (OpenSpec.upto fnExactHullOfSpec)

/-- 'laws.FnExactExtendCode', WHERE WHAT IT READS IS OF BULK AT MOST 1048576: true; the input reads as it did. -/
def fnExactExtendCodeUptoRow : OpenClaim := { program := "ytcblhjhabhjbkaa", sum := "9877c9bcaae118e19afd4c25aeb7b8df7876ec4ab0462ae7de6509c8f0a42001", func := "loop.example/g00920/laws.FnExactExtendCode", spec := "fnExactExtendCode", unfollowed := true, recurses := true, apart := false, narrowed := true }
def FnExactExtendCodeUptoSaid : Prop := fnExactExtendCodeUptoRow.holds Try.pinned (OpenSpec.upto fnExactExtendCodeSpec)

/-- 'laws.FnExactDualWeights', WHERE WHAT IT READS IS OF BULK AT MOST 1048576: true; the input reads as it did. -/
def fnExactDualWeightsUptoRow : OpenClaim := { program := "ytcblhjhabhjbkaa", sum := "9877c9bcaae118e19afd4c25aeb7b8df7876ec4ab0462ae7de6509c8f0a42001", func := "loop.example/g00920/laws.FnExactDualWeights", spec := "fnExactDualWeights", unfollowed := true, recurses := true, apart := false, narrowed := true }
def FnExactDualWeightsUptoSaid : Prop := fnExactDualWeightsUptoRow.holds Try.pinned (OpenSpec.upto fnExactDualWeightsSpec)

/-- 'laws.FnExactPunctureCode', WHERE WHAT IT READS IS OF BULK AT MOST 1048576: true; the input reads as it did. -/
def fnExactPunctureCodeUptoRow : OpenClaim := { program := "ytcblhjhabhjbkaa", sum := "9877c9bcaae118e19afd4c25aeb7b8df7876ec4ab0462ae7de6509c8f0a42001", func := "loop.example/g00920/laws.FnExactPunctureCode", spec := "fnExactPunctureCode", unfollowed := true, recurses := true, apart := false, narrowed := true }
def FnExactPunctureCodeUptoSaid : Prop := fnExactPunctureCodeUptoRow.holds Try.pinned (OpenSpec.upto fnExactPunctureCodeSpec)

/-- 'laws.FnExactShortenCode', WHERE WHAT IT READS IS OF BULK AT MOST 1048576: true; the input reads as it did. -/
def fnExactShortenCodeUptoRow : OpenClaim := { program := "ytcblhjhabhjbkaa", sum := "9877c9bcaae118e19afd4c25aeb7b8df7876ec4ab0462ae7de6509c8f0a42001", func := "loop.example/g00920/laws.FnExactShortenCode", spec := "fnExactShortenCode", unfollowed := true, recurses := true, apart := false, narrowed := true }
def FnExactShortenCodeUptoSaid : Prop := fnExactShortenCodeUptoRow.holds Try.pinned (OpenSpec.upto fnExactShortenCodeSpec)

/-- 'laws.FnExactHammingCode', WHERE WHAT IT READS IS OF BULK AT MOST 1048576: true; the input reads as it did. -/
def fnExactHammingCodeUptoRow : OpenClaim := { program := "ytcblhjhabhjbkaa", sum := "9877c9bcaae118e19afd4c25aeb7b8df7876ec4ab0462ae7de6509c8f0a42001", func := "loop.example/g00920/laws.FnExactHammingCode", spec := "fnExactHammingCode", unfollowed := true, recurses := true, apart := false, narrowed := true }
def FnExactHammingCodeUptoSaid : Prop := fnExactHammingCodeUptoRow.holds Try.pinned (OpenSpec.upto fnExactHammingCodeSpec)

/-- 'laws.FnExactSimplexCode', WHERE WHAT IT READS IS OF BULK AT MOST 1048576: true; the input reads as it did. -/
def fnExactSimplexCodeUptoRow : OpenClaim := { program := "ytcblhjhabhjbkaa", sum := "9877c9bcaae118e19afd4c25aeb7b8df7876ec4ab0462ae7de6509c8f0a42001", func := "loop.example/g00920/laws.FnExactSimplexCode", spec := "fnExactSimplexCode", unfollowed := true, recurses := true, apart := false, narrowed := true }
def FnExactSimplexCodeUptoSaid : Prop := fnExactSimplexCodeUptoRow.holds Try.pinned (OpenSpec.upto fnExactSimplexCodeSpec)

/-- 'laws.FnExactCorrectHamming', WHERE WHAT IT READS IS OF BULK AT MOST 1048576: true; the input reads as it did. -/
def fnExactCorrectHammingUptoRow : OpenClaim := { program := "ytcblhjhabhjbkaa", sum := "9877c9bcaae118e19afd4c25aeb7b8df7876ec4ab0462ae7de6509c8f0a42001", func := "loop.example/g00920/laws.FnExactCorrectHamming", spec := "fnExactCorrectHamming", unfollowed := true, recurses := true, apart := false, narrowed := true }
def FnExactCorrectHammingUptoSaid : Prop := fnExactCorrectHammingUptoRow.holds Try.pinned (OpenSpec.upto fnExactCorrectHammingSpec)

end Rows
end Go.Proofs.Ytcblhjhabhjbkaa
