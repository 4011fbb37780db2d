/-
  No cell of these rows narrows 'for every input' (looked for: loops, veiled, ifaces, maps, wideKeys, modest, calm, conditions, laid).
  DERIVED. THE GIVEN ROWS OF THIS SEAT. 6 by the template 'for every input the law returns true; each argument reads behind the call as it read before'; 0 by the template 'total and deterministic' (their statements: YtcdfabnhaephhaaTotals.lean).
  GIVEN WITH THE SEED: the statements are not yours to turn. If you find one false, say at which input.
  Laid BY PROGRAM, IN A SANDBOX (cutbox-rows.mjs): the forced cells as the released guide's own fill.sh prints them over the translation 3b1c9226d0c18931… (all of the seat's roots in one cut). By AI agents, Wed Nov 11 2026. No macro, syntax, notation, axiom, sorry.
-/
import Derived.Test.YtcdfabnhaephhaaChecked
import GoSem.Claim
import GoSem.ClaimJoined
import GoSem.ClaimMapViews
import Derived.JoinedTies
import Derived.KernelRfl
namespace Go.Proofs.Ytcdfabnhaephhaa
/- THE CELL 'sum', in the pinned program and in every row, IS THE sha256 OF THE DUMP (.gsa) THAT YtcdfabnhaephhaaProg.lean LOADS. Nothing in Lean hashes anything: it is a label: what it is worth is what the hold of that sum in a sandbox is worth. -/
noncomputable def Try.pinned : Pinned := { name := "ytcdfabnhaephhaa", sum := "3b1c9226d0c189316814eb335076a31926020faf168a6dcf94fa3a28befbf583", checked := Try.checked }
namespace Rows
def none {H : Type} : Left H := { results := [], args := [] }

/-- 'laws.FnExactSupportOf': WHATEVER THE INPUT: true; the input reads as it did. -/
def fnExactSupportOfSpec : ChangeSpec := { name := "fnExactSupportOf", fn := fun _ => fun
  | [d] => { results := [.lit (.bool true)], args := [d] }
  | _ => none }
def fnExactSupportOfRow : OpenClaim := { program := "ytcdfabnhaephhaa", sum := "3b1c9226d0c189316814eb335076a31926020faf168a6dcf94fa3a28befbf583", func := "loop.example/g00920/laws.FnExactSupportOf", spec := "fnExactSupportOf", apart := false }
def FnExactSupportOfSaid : Prop := fnExactSupportOfRow.holds Try.pinned (OpenSpec.ofChange fnExactSupportOfSpec)

/-- ITS FALSE NEIGHBOUR: 'it returns false'. Refute it at one input. -/
def fnExactSupportOfWrong : ChangeSpec := { name := "fnExactSupportOf", fn := fun _ => fun
  | [d] => { results := [.lit (.bool false)], args := [d] }
  | _ => none }
def FnExactSupportOfWrongFalsely : Prop := fnExactSupportOfRow.holds Try.pinned (OpenSpec.ofChange fnExactSupportOfWrong)

/-- 'laws.FnExactSameGraph': WHATEVER THE INPUT: true; the input reads as it did. -/
def fnExactSameGraphSpec : ChangeSpec := { name := "fnExactSameGraph", fn := fun _ => fun
  | [d1, d2] => { results := [.lit (.bool true)], args := [d1, d2] }
  | _ => none }
def fnExactSameGraphRow : OpenClaim := { program := "ytcdfabnhaephhaa", sum := "3b1c9226d0c189316814eb335076a31926020faf168a6dcf94fa3a28befbf583", func := "loop.example/g00920/laws.FnExactSameGraph", spec := "fnExactSameGraph", apart := false }
def FnExactSameGraphSaid : Prop := fnExactSameGraphRow.holds Try.pinned (OpenSpec.ofChange fnExactSameGraphSpec)

/-- ITS FALSE NEIGHBOUR: 'it returns false'. Refute it at one input. -/
def fnExactSameGraphWrong : ChangeSpec := { name := "fnExactSameGraph", fn := fun _ => fun
  | [d1, d2] => { results := [.lit (.bool false)], args := [d1, d2] }
  | _ => none }
def FnExactSameGraphWrongFalsely : Prop := fnExactSameGraphRow.holds Try.pinned (OpenSpec.ofChange fnExactSameGraphWrong)

/-- 'laws.FnExactGriesmerLength': WHATEVER THE INPUT: true; the input reads as it did. -/
def fnExactGriesmerLengthSpec : ChangeSpec := { name := "fnExactGriesmerLength", fn := fun _ => fun
  | [d1, d2, d3] => { results := [.lit (.bool true)], args := [d1, d2, d3] }
  | _ => none }
def fnExactGriesmerLengthRow : OpenClaim := { program := "ytcdfabnhaephhaa", sum := "3b1c9226d0c189316814eb335076a31926020faf168a6dcf94fa3a28befbf583", func := "loop.example/g00920/laws.FnExactGriesmerLength", spec := "fnExactGriesmerLength", unfollowed := true, recurses := true, apart := false }
def FnExactGriesmerLengthSaid : Prop := fnExactGriesmerLengthRow.holds Try.pinned (OpenSpec.ofChange fnExactGriesmerLengthSpec)

/-- ITS FALSE NEIGHBOUR: 'it returns false'. Refute it at one input. -/
def fnExactGriesmerLengthWrong : ChangeSpec := { name := "fnExactGriesmerLength", fn := fun _ => fun
  | [d1, d2, d3] => { results := [.lit (.bool false)], args := [d1, d2, d3] }
  | _ => none }
def FnExactGriesmerLengthWrongFalsely : Prop := fnExactGriesmerLengthRow.holds Try.pinned (OpenSpec.ofChange fnExactGriesmerLengthWrong)

/-- 'laws.FnExactSingletonBound': WHATEVER THE INPUT: true; the input reads as it did. -/
def fnExactSingletonBoundSpec : ChangeSpec := { name := "fnExactSingletonBound", fn := fun _ => fun
  | [d1, d2, d3] => { results := [.lit (.bool true)], args := [d1, d2, d3] }
  | _ => none }
def fnExactSingletonBoundRow : OpenClaim := { program := "ytcdfabnhaephhaa", sum := "3b1c9226d0c189316814eb335076a31926020faf168a6dcf94fa3a28befbf583", func := "loop.example/g00920/laws.FnExactSingletonBound", spec := "fnExactSingletonBound", unfollowed := true, recurses := true, apart := false }
def FnExactSingletonBoundSaid : Prop := fnExactSingletonBoundRow.holds Try.pinned (OpenSpec.ofChange fnExactSingletonBoundSpec)

/-- ITS FALSE NEIGHBOUR: 'it returns false'. Refute it at one input. -/
def fnExactSingletonBoundWrong : ChangeSpec := { name := "fnExactSingletonBound", fn := fun _ => fun
  | [d1, d2, d3] => { results := [.lit (.bool false)], args := [d1, d2, d3] }
  | _ => none }
def FnExactSingletonBoundWrongFalsely : Prop := fnExactSingletonBoundRow.holds Try.pinned (OpenSpec.ofChange fnExactSingletonBoundWrong)

/-- 'laws.FnExactSameCode': WHATEVER THE INPUT: true; the input reads as it did. -/
def fnExactSameCodeSpec : ChangeSpec := { name := "fnExactSameCode", fn := fun _ => fun
  | [d1, d2] => { results := [.lit (.bool true)], args := [d1, d2] }
  | _ => none }
def fnExactSameCodeRow : OpenClaim := { program := "ytcdfabnhaephhaa", sum := "3b1c9226d0c189316814eb335076a31926020faf168a6dcf94fa3a28befbf583", func := "loop.example/g00920/laws.FnExactSameCode", spec := "fnExactSameCode", unfollowed := true, recurses := true, apart := false }
def FnExactSameCodeSaid : Prop := fnExactSameCodeRow.holds Try.pinned (OpenSpec.ofChange fnExactSameCodeSpec)

/-- ITS FALSE NEIGHBOUR: 'it returns false'. Refute it at one input. -/
def fnExactSameCodeWrong : ChangeSpec := { name := "fnExactSameCode", fn := fun _ => fun
  | [d1, d2] => { results := [.lit (.bool false)], args := [d1, d2] }
  | _ => none }
def FnExactSameCodeWrongFalsely : Prop := fnExactSameCodeRow.holds Try.pinned (OpenSpec.ofChange fnExactSameCodeWrong)

/-- 'laws.FnExactValidGraph': WHATEVER THE INPUT: true; the input reads as it did. -/
def fnExactValidGraphSpec : ChangeSpec := { name := "fnExactValidGraph", fn := fun _ => fun
  | [d] => { results := [.lit (.bool true)], args := [d] }
  | _ => none }
def fnExactValidGraphRow : OpenClaim := { program := "ytcdfabnhaephhaa", sum := "3b1c9226d0c189316814eb335076a31926020faf168a6dcf94fa3a28befbf583", func := "loop.example/g00920/laws.FnExactValidGraph", spec := "fnExactValidGraph", unfollowed := true, recurses := true, apart := false }
def FnExactValidGraphSaid : Prop := fnExactValidGraphRow.holds Try.pinned (OpenSpec.ofChange fnExactValidGraphSpec)

/-- ITS FALSE NEIGHBOUR: 'it returns false'. Refute it at one input. -/
def fnExactValidGraphWrong : ChangeSpec := { name := "fnExactValidGraph", fn := fun _ => fun
  | [d] => { results := [.lit (.bool false)], args := [d] }
  | _ => none }
def FnExactValidGraphWrongFalsely : Prop := fnExactValidGraphRow.holds Try.pinned (OpenSpec.ofChange fnExactValidGraphWrong)

/- THE SECOND FORM. 'bulk': how many values and letters a reading holds, each counted each time it is reached (what is shared counts as often as it is met; a slice's spare places count too). A statement '..UptoSaid' is the law's where the arguments, and the package variables that the reading takes, are together of bulk at most 1048576: NARROWER than '..Said'. Prove '..Said' where nothing that the law and all that it calls make is longer than what came in: it says more and counts as full. Else prove '..UptoSaid'. A law counts once. -/
mutual
def uptoBulk {H : Type} : DataW H → Nat
  | .lit (.string bytes) => bytes.length + 1
  | .lit _ => 1
  | .nil => 1
  | .ptr d => uptoBulk d + 1
  | .slice elems spare => uptoBulkAll elems + uptoBulkAll spare + 1
  | .agg parts => uptoBulkAll parts + 1
  | .iface _ d => uptoBulk d + 1
  | .map entries => uptoBulkEntries entries + 1
  | .held _ => 1
def uptoBulkAll {H : Type} : List (DataW H) → Nat
  | [] => 0
  | d :: r => uptoBulk d + uptoBulkAll r
def uptoBulkEntries {H : Type} : List (Lit × DataW H) → Nat
  | [] => 0
  | x :: r => uptoBulkEntry x + uptoBulkEntries r
def uptoBulkEntry {H : Type} : Lit × DataW H → Nat
  | (.string bytes, d) => bytes.length + uptoBulk d + 1
  | (_, d) => uptoBulk d + 1
 end
def uptoSmall : (H : Type) → List (DataW H) → Bool := fun _ ds => decide (uptoBulkAll ds ≤ 1048576)
def OpenSpec.upto (s : _root_.Go.ChangeSpec) : _root_.Go.OpenSpec := { _root_.Go.OpenSpec.ofChange s with cond := some uptoSmall }

/-- 'laws.FnExactSupportOf', WHERE WHAT IT READS IS OF BULK AT MOST 1048576: true; the input reads as it did. -/
def fnExactSupportOfUptoRow : OpenClaim := { program := "ytcdfabnhaephhaa", sum := "3b1c9226d0c189316814eb335076a31926020faf168a6dcf94fa3a28befbf583", func := "loop.example/g00920/laws.FnExactSupportOf", spec := "fnExactSupportOf", apart := false, narrowed := true }
def FnExactSupportOfUptoSaid : Prop := fnExactSupportOfUptoRow.holds Try.pinned (OpenSpec.upto fnExactSupportOfSpec)

/-- 'laws.FnExactSameGraph', WHERE WHAT IT READS IS OF BULK AT MOST 1048576: true; the input reads as it did. -/
def fnExactSameGraphUptoRow : OpenClaim := { program := "ytcdfabnhaephhaa", sum := "3b1c9226d0c189316814eb335076a31926020faf168a6dcf94fa3a28befbf583", func := "loop.example/g00920/laws.FnExactSameGraph", spec := "fnExactSameGraph", apart := false, narrowed := true }
def FnExactSameGraphUptoSaid : Prop := fnExactSameGraphUptoRow.holds Try.pinned (OpenSpec.upto fnExactSameGraphSpec)

/-- 'laws.FnExactGriesmerLength', WHERE WHAT IT READS IS OF BULK AT MOST 1048576: true; the input reads as it did. -/
def fnExactGriesmerLengthUptoRow : OpenClaim := { program := "ytcdfabnhaephhaa", sum := "3b1c9226d0c189316814eb335076a31926020faf168a6dcf94fa3a28befbf583", func := "loop.example/g00920/laws.FnExactGriesmerLength", spec := "fnExactGriesmerLength", unfollowed := true, recurses := true, apart := false, narrowed := true }
def FnExactGriesmerLengthUptoSaid : Prop := fnExactGriesmerLengthUptoRow.holds Try.pinned (OpenSpec.upto fnExactGriesmerLengthSpec)

/-- 'laws.FnExactSingletonBound', WHERE WHAT IT READS IS OF BULK AT MOST 1048576: true; the input reads as it did. -/
def fnExactSingletonBoundUptoRow : OpenClaim := { program := "ytcdfabnhaephhaa", sum := "3b1c9226d0c189316814eb335076a31926020faf168a6dcf94fa3a28befbf583", func := "loop.example/g00920/laws.FnExactSingletonBound", spec := "fnExactSingletonBound", unfollowed := true, recurses := true, apart := false, narrowed := true }
def FnExactSingletonBoundUptoSaid : Prop := fnExactSingletonBoundUptoRow.holds Try.pinned (OpenSpec.upto fnExactSingletonBoundSpec)

/-- 'laws.FnExactSameCode', WHERE WHAT IT READS IS OF BULK AT MOST 1048576: true; the input reads as it did. -/
def fnExactSameCodeUptoRow : OpenClaim := { program := "ytcdfabnhaephhaa", sum := "3b1c9226d0c189316814eb335076a31926020faf168a6dcf94fa3a28befbf583", func := "loop.example/g00920/laws.FnExactSameCode", spec := "fnExactSameCode", unfollowed := true, recurses := true, apart := false, narrowed := true }
def FnExactSameCodeUptoSaid : Prop := fnExactSameCodeUptoRow.holds Try.pinned (OpenSpec.upto fnExactSameCodeSpec)

/-- 'laws.FnExactValidGraph', WHERE WHAT IT READS IS OF BULK AT MOST 1048576: true; the input reads as it did. -/
def fnExactValidGraphUptoRow : OpenClaim := { program := "ytcdfabnhaephhaa", sum := "3b1c9226d0c189316814eb335076a31926020faf168a6dcf94fa3a28befbf583", func := "loop.example/g00920/laws.FnExactValidGraph", spec := "fnExactValidGraph", unfollowed := true, recurses := true, apart := false, narrowed := true }
def FnExactValidGraphUptoSaid : Prop := fnExactValidGraphUptoRow.holds Try.pinned (OpenSpec.upto fnExactValidGraphSpec)

end Rows
end Go.Proofs.Ytcdfabnhaephhaa
