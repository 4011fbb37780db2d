/-
  No cell of these rows narrows 'for every input' (looked for: loops, veiled, ifaces, maps, wideKeys, modest, calm, conditions, laid).
  DERIVED. THE GIVEN ROWS OF THIS SEAT. 8 by the template 'for every input the law returns true; each argument reads behind the call as it read before'; 0 by the template 'total and deterministic' (their statements: YtohghnoihbjmcaaTotals.lean).
  GIVEN WITH THE SEED: the statements are not yours to turn. If you find one false, say at which input.
  Laid BY PROGRAM, IN A SANDBOX (cutbox-rows.mjs): the forced cells as the released guide's own fill.sh prints them over the translation 063f5ddd0643087c… (all of the seat's roots in one cut). By AI agents, Wed Nov 11 2026. No macro, syntax, notation, axiom, sorry.
-/
import Derived.Test.YtohghnoihbjmcaaChecked
import GoSem.Claim
import GoSem.ClaimJoined
import GoSem.ClaimMapViews
import Derived.JoinedTies
import Derived.KernelRfl
namespace Go.Proofs.Ytohghnoihbjmcaa
/- THE CELL 'sum', in the pinned program and in every row, IS THE sha256 OF THE DUMP (.gsa) THAT YtohghnoihbjmcaaProg.lean LOADS. Nothing in Lean hashes anything: it is a label: what it is worth is what the hold of that sum in a sandbox is worth. -/
noncomputable def Try.pinned : Pinned := { name := "ytohghnoihbjmcaa", sum := "063f5ddd0643087c23a6206e0215d22ec5d0f813469dac17ba1f14b2b53a38c0", checked := Try.checked }
namespace Rows
def none {H : Type} : Left H := { results := [], args := [] }

/-- 'laws.FnExactValidGraph': WHATEVER THE INPUT: true; the input reads as it did. -/
def fnExactValidGraphSpec : ChangeSpec := { name := "fnExactValidGraph", fn := fun _ => fun
  | [d] => { results := [.lit (.bool true)], args := [d] }
  | _ => none }
def fnExactValidGraphRow : OpenClaim := { program := "ytohghnoihbjmcaa", sum := "063f5ddd0643087c23a6206e0215d22ec5d0f813469dac17ba1f14b2b53a38c0", func := "loop.example/g00920/laws.FnExactValidGraph", spec := "fnExactValidGraph", unfollowed := true, recurses := true, apart := false }
def FnExactValidGraphSaid : Prop := fnExactValidGraphRow.holds Try.pinned (OpenSpec.ofChange fnExactValidGraphSpec)

/-- ITS FALSE NEIGHBOUR: 'it returns false'. Refute it at one input. -/
def fnExactValidGraphWrong : ChangeSpec := { name := "fnExactValidGraph", fn := fun _ => fun
  | [d] => { results := [.lit (.bool false)], args := [d] }
  | _ => none }
def FnExactValidGraphWrongFalsely : Prop := fnExactValidGraphRow.holds Try.pinned (OpenSpec.ofChange fnExactValidGraphWrong)

/-- 'laws.FnExactComplementGraph': WHATEVER THE INPUT: true; the input reads as it did. -/
def fnExactComplementGraphSpec : ChangeSpec := { name := "fnExactComplementGraph", fn := fun _ => fun
  | [d] => { results := [.lit (.bool true)], args := [d] }
  | _ => none }
def fnExactComplementGraphRow : OpenClaim := { program := "ytohghnoihbjmcaa", sum := "063f5ddd0643087c23a6206e0215d22ec5d0f813469dac17ba1f14b2b53a38c0", func := "loop.example/g00920/laws.FnExactComplementGraph", spec := "fnExactComplementGraph", unfollowed := true, recurses := true, apart := false }
def FnExactComplementGraphSaid : Prop := fnExactComplementGraphRow.holds Try.pinned (OpenSpec.ofChange fnExactComplementGraphSpec)

/-- ITS FALSE NEIGHBOUR: 'it returns false'. Refute it at one input. -/
def fnExactComplementGraphWrong : ChangeSpec := { name := "fnExactComplementGraph", fn := fun _ => fun
  | [d] => { results := [.lit (.bool false)], args := [d] }
  | _ => none }
def FnExactComplementGraphWrongFalsely : Prop := fnExactComplementGraphRow.holds Try.pinned (OpenSpec.ofChange fnExactComplementGraphWrong)

/-- 'laws.FnExactDegreesOf': WHATEVER THE INPUT: true; the input reads as it did. -/
def fnExactDegreesOfSpec : ChangeSpec := { name := "fnExactDegreesOf", fn := fun _ => fun
  | [d] => { results := [.lit (.bool true)], args := [d] }
  | _ => none }
def fnExactDegreesOfRow : OpenClaim := { program := "ytohghnoihbjmcaa", sum := "063f5ddd0643087c23a6206e0215d22ec5d0f813469dac17ba1f14b2b53a38c0", func := "loop.example/g00920/laws.FnExactDegreesOf", spec := "fnExactDegreesOf", unfollowed := true, recurses := true, apart := false }
def FnExactDegreesOfSaid : Prop := fnExactDegreesOfRow.holds Try.pinned (OpenSpec.ofChange fnExactDegreesOfSpec)

/-- ITS FALSE NEIGHBOUR: 'it returns false'. Refute it at one input. -/
def fnExactDegreesOfWrong : ChangeSpec := { name := "fnExactDegreesOf", fn := fun _ => fun
  | [d] => { results := [.lit (.bool false)], args := [d] }
  | _ => none }
def FnExactDegreesOfWrongFalsely : Prop := fnExactDegreesOfRow.holds Try.pinned (OpenSpec.ofChange fnExactDegreesOfWrong)

/-- 'laws.FnExactNeighborsOf': WHATEVER THE INPUT: true; the input reads as it did. -/
def fnExactNeighborsOfSpec : ChangeSpec := { name := "fnExactNeighborsOf", fn := fun _ => fun
  | [d1, d2] => { results := [.lit (.bool true)], args := [d1, d2] }
  | _ => none }
def fnExactNeighborsOfRow : OpenClaim := { program := "ytohghnoihbjmcaa", sum := "063f5ddd0643087c23a6206e0215d22ec5d0f813469dac17ba1f14b2b53a38c0", func := "loop.example/g00920/laws.FnExactNeighborsOf", spec := "fnExactNeighborsOf", unfollowed := true, recurses := true, apart := false }
def FnExactNeighborsOfSaid : Prop := fnExactNeighborsOfRow.holds Try.pinned (OpenSpec.ofChange fnExactNeighborsOfSpec)

/-- ITS FALSE NEIGHBOUR: 'it returns false'. Refute it at one input. -/
def fnExactNeighborsOfWrong : ChangeSpec := { name := "fnExactNeighborsOf", fn := fun _ => fun
  | [d1, d2] => { results := [.lit (.bool false)], args := [d1, d2] }
  | _ => none }
def FnExactNeighborsOfWrongFalsely : Prop := fnExactNeighborsOfRow.holds Try.pinned (OpenSpec.ofChange fnExactNeighborsOfWrong)

/-- 'laws.FnExactMakeGraph': WHATEVER THE INPUT: true; the input reads as it did. -/
def fnExactMakeGraphSpec : ChangeSpec := { name := "fnExactMakeGraph", fn := fun _ => fun
  | [d1, d2] => { results := [.lit (.bool true)], args := [d1, d2] }
  | _ => none }
def fnExactMakeGraphRow : OpenClaim := { program := "ytohghnoihbjmcaa", sum := "063f5ddd0643087c23a6206e0215d22ec5d0f813469dac17ba1f14b2b53a38c0", func := "loop.example/g00920/laws.FnExactMakeGraph", spec := "fnExactMakeGraph", unfollowed := true, recurses := true, apart := false }
def FnExactMakeGraphSaid : Prop := fnExactMakeGraphRow.holds Try.pinned (OpenSpec.ofChange fnExactMakeGraphSpec)

/-- ITS FALSE NEIGHBOUR: 'it returns false'. Refute it at one input. -/
def fnExactMakeGraphWrong : ChangeSpec := { name := "fnExactMakeGraph", fn := fun _ => fun
  | [d1, d2] => { results := [.lit (.bool false)], args := [d1, d2] }
  | _ => none }
def FnExactMakeGraphWrongFalsely : Prop := fnExactMakeGraphRow.holds Try.pinned (OpenSpec.ofChange fnExactMakeGraphWrong)

/-- 'laws.FnExactComponentsOf': WHATEVER THE INPUT: true; the input reads as it did. -/
def fnExactComponentsOfSpec : ChangeSpec := { name := "fnExactComponentsOf", fn := fun _ => fun
  | [d] => { results := [.lit (.bool true)], args := [d] }
  | _ => none }
def fnExactComponentsOfRow : OpenClaim := { program := "ytohghnoihbjmcaa", sum := "063f5ddd0643087c23a6206e0215d22ec5d0f813469dac17ba1f14b2b53a38c0", func := "loop.example/g00920/laws.FnExactComponentsOf", spec := "fnExactComponentsOf", unfollowed := true, recurses := true, apart := false }
def FnExactComponentsOfSaid : Prop := fnExactComponentsOfRow.holds Try.pinned (OpenSpec.ofChange fnExactComponentsOfSpec)

/-- ITS FALSE NEIGHBOUR: 'it returns false'. Refute it at one input. -/
def fnExactComponentsOfWrong : ChangeSpec := { name := "fnExactComponentsOf", fn := fun _ => fun
  | [d] => { results := [.lit (.bool false)], args := [d] }
  | _ => none }
def FnExactComponentsOfWrongFalsely : Prop := fnExactComponentsOfRow.holds Try.pinned (OpenSpec.ofChange fnExactComponentsOfWrong)

/-- 'laws.FnExactRelabelGraph': WHATEVER THE INPUT: true; the input reads as it did. -/
def fnExactRelabelGraphSpec : ChangeSpec := { name := "fnExactRelabelGraph", fn := fun _ => fun
  | [d1, d2] => { results := [.lit (.bool true)], args := [d1, d2] }
  | _ => none }
def fnExactRelabelGraphRow : OpenClaim := { program := "ytohghnoihbjmcaa", sum := "063f5ddd0643087c23a6206e0215d22ec5d0f813469dac17ba1f14b2b53a38c0", func := "loop.example/g00920/laws.FnExactRelabelGraph", spec := "fnExactRelabelGraph", unfollowed := true, recurses := true, apart := false }
def FnExactRelabelGraphSaid : Prop := fnExactRelabelGraphRow.holds Try.pinned (OpenSpec.ofChange fnExactRelabelGraphSpec)

/-- ITS FALSE NEIGHBOUR: 'it returns false'. Refute it at one input. -/
def fnExactRelabelGraphWrong : ChangeSpec := { name := "fnExactRelabelGraph", fn := fun _ => fun
  | [d1, d2] => { results := [.lit (.bool false)], args := [d1, d2] }
  | _ => none }
def FnExactRelabelGraphWrongFalsely : Prop := fnExactRelabelGraphRow.holds Try.pinned (OpenSpec.ofChange fnExactRelabelGraphWrong)

/-- 'laws.FnExactIsEquitable': WHATEVER THE INPUT: true; the input reads as it did. -/
def fnExactIsEquitableSpec : ChangeSpec := { name := "fnExactIsEquitable", fn := fun _ => fun
  | [d1, d2] => { results := [.lit (.bool true)], args := [d1, d2] }
  | _ => none }
def fnExactIsEquitableRow : OpenClaim := { program := "ytohghnoihbjmcaa", sum := "063f5ddd0643087c23a6206e0215d22ec5d0f813469dac17ba1f14b2b53a38c0", func := "loop.example/g00920/laws.FnExactIsEquitable", spec := "fnExactIsEquitable", unfollowed := true, recurses := true, apart := false }
def FnExactIsEquitableSaid : Prop := fnExactIsEquitableRow.holds Try.pinned (OpenSpec.ofChange fnExactIsEquitableSpec)

/-- ITS FALSE NEIGHBOUR: 'it returns false'. Refute it at one input. -/
def fnExactIsEquitableWrong : ChangeSpec := { name := "fnExactIsEquitable", fn := fun _ => fun
  | [d1, d2] => { results := [.lit (.bool false)], args := [d1, d2] }
  | _ => none }
def FnExactIsEquitableWrongFalsely : Prop := fnExactIsEquitableRow.holds Try.pinned (OpenSpec.ofChange fnExactIsEquitableWrong)

/- THE SECOND FORM. 'bulk': how many values and letters a reading holds, each counted each time it is reached (what is shared counts as often as it is met; a slice's spare places count too). A statement '..UptoSaid' is the law's where the arguments, and the package variables that the reading takes, are together of bulk at most 1048576: NARROWER than '..Said'. Prove '..Said' where nothing that the law and all that it calls make is longer than what came in: it says more and counts as full. Else prove '..UptoSaid'. A law counts once. -/
mutual
def uptoBulk {H : Type} : DataW H → Nat
  | .lit (.string bytes) => bytes.length + 1
  | .lit _ => 1
  | .nil => 1
  | .ptr d => uptoBulk d + 1
  | .slice elems spare => uptoBulkAll elems + uptoBulkAll spare + 1
  | .agg parts => uptoBulkAll parts + 1
  | .iface _ d => uptoBulk d + 1
  | .map entries => uptoBulkEntries entries + 1
  | .held _ => 1
def uptoBulkAll {H : Type} : List (DataW H) → Nat
  | [] => 0
  | d :: r => uptoBulk d + uptoBulkAll r
def uptoBulkEntries {H : Type} : List (Lit × DataW H) → Nat
  | [] => 0
  | x :: r => uptoBulkEntry x + uptoBulkEntries r
def uptoBulkEntry {H : Type} : Lit × DataW H → Nat
  | (.string bytes, d) => bytes.length + uptoBulk d + 1
  | (_, d) => uptoBulk d + 1
 end
def uptoSmall : (H : Type) → List (DataW H) → Bool := fun _ ds => decide (uptoBulkAll ds ≤ 1048576)
def OpenSpec.upto (s : _root_.Go.ChangeSpec) : _root_.Go.OpenSpec := { _root_.Go.OpenSpec.ofChange s with cond := some uptoSmall }

/-- 'laws.FnExactValidGraph', WHERE WHAT IT READS IS OF BULK AT MOST 1048576: true; the input reads as it did. -/
def fnExactValidGraphUptoRow : OpenClaim := { program := "ytohghnoihbjmcaa", sum := "063f5ddd0643087c23a6206e0215d22ec5d0f813469dac17ba1f14b2b53a38c0", func := "loop.example/g00920/laws.FnExactValidGraph", spec := "fnExactValidGraph", unfollowed := true, recurses := true, apart := false, narrowed := true }
def FnExactValidGraphUptoSaid : Prop := fnExactValidGraphUptoRow.holds Try.pinned (OpenSpec.upto fnExactValidGraphSpec)

/-- 'laws.FnExactComplementGraph', WHERE WHAT IT READS IS OF BULK AT MOST 1048576: true; the input reads as it did. -/
def fnExactComplementGraphUptoRow : OpenClaim := { program := "ytohghnoihbjmcaa", sum := "063f5ddd0643087c23a6206e0215d22ec5d0f813469dac17ba1f14b2b53a38c0", func := "loop.example/g00920/laws.FnExactComplementGraph", spec := "fnExactComplementGraph", unfollowed := true, recurses := true, apart := false, narrowed := true }
def FnExactComplementGraphUptoSaid : Prop := fnExactComplementGraphUptoRow.holds Try.pinned (OpenSpec.upto fnExactComplementGraphSpec)

/-- 'laws.FnExactDegreesOf', WHERE WHAT IT READS IS OF BULK AT MOST 1048576: true; the input reads as it did. -/
def fnExactDegreesOfUptoRow : OpenClaim := { program := "ytohghnoihbjmcaa", sum := "063f5ddd0643087c23a6206e0215d22ec5d0f813469dac17ba1f14b2b53a38c0", func := "loop.example/g00920/laws.FnExactDegreesOf", spec := "fnExactDegreesOf", unfollowed := true, recurses := true, apart := false, narrowed := true }
def FnExactDegreesOfUptoSaid : Prop := fnExactDegreesOfUptoRow.holds Try.pinned (OpenSpec.upto fnExactDegreesOfSpec)

/-- 'laws.FnExactNeighborsOf', WHERE WHAT IT READS IS OF BULK AT MOST 1048576: true; the input reads as it did. -/
def fnExactNeighborsOfUptoRow : OpenClaim := { program := "ytohghnoihbjmcaa", sum := "063f5ddd0643087c23a6206e0215d22ec5d0f813469dac17ba1f14b2b53a38c0", func := "loop.example/g00920/laws.FnExactNeighborsOf", spec := "fnExactNeighborsOf", unfollowed := true, recurses := true, apart := false, narrowed := true }
def FnExactNeighborsOfUptoSaid : Prop := fnExactNeighborsOfUptoRow.holds Try.pinned (OpenSpec.upto fnExactNeighborsOfSpec)

/-- 'laws.FnExactMakeGraph', WHERE WHAT IT READS IS OF BULK AT MOST 1048576: true; the input reads as it did. -/
def fnExactMakeGraphUptoRow : OpenClaim := { program := "ytohghnoihbjmcaa", sum := "063f5ddd0643087c23a6206e0215d22ec5d0f813469dac17ba1f14b2b53a38c0", func := "loop.example/g00920/laws.FnExactMakeGraph", spec := "fnExactMakeGraph", unfollowed := true, recurses := true, apart := false, narrowed := true }
def FnExactMakeGraphUptoSaid : Prop := fnExactMakeGraphUptoRow.holds Try.pinned (OpenSpec.upto fnExactMakeGraphSpec)

/-- 'laws.FnExactComponentsOf', WHERE WHAT IT READS IS OF BULK AT MOST 1048576: true; the input reads as it did. -/
def fnExactComponentsOfUptoRow : OpenClaim := { program := "ytohghnoihbjmcaa", sum := "063f5ddd0643087c23a6206e0215d22ec5d0f813469dac17ba1f14b2b53a38c0", func := "loop.example/g00920/laws.FnExactComponentsOf", spec := "fnExactComponentsOf", unfollowed := true, recurses := true, apart := false, narrowed := true }
def FnExactComponentsOfUptoSaid : Prop := fnExactComponentsOfUptoRow.holds Try.pinned (OpenSpec.upto fnExactComponentsOfSpec)

/-- 'laws.FnExactRelabelGraph', WHERE WHAT IT READS IS OF BULK AT MOST 1048576: true; the input reads as it did. -/
def fnExactRelabelGraphUptoRow : OpenClaim := { program := "ytohghnoihbjmcaa", sum := "063f5ddd0643087c23a6206e0215d22ec5d0f813469dac17ba1f14b2b53a38c0", func := "loop.example/g00920/laws.FnExactRelabelGraph", spec := "fnExactRelabelGraph", unfollowed := true, recurses := true, apart := false, narrowed := true }
def FnExactRelabelGraphUptoSaid : Prop := fnExactRelabelGraphUptoRow.holds Try.pinned (OpenSpec.upto fnExactRelabelGraphSpec)

/-- 'laws.FnExactIsEquitable', WHERE WHAT IT READS IS OF BULK AT MOST 1048576: true; the input reads as it did. -/
def fnExactIsEquitableUptoRow : OpenClaim := { program := "ytohghnoihbjmcaa", sum := "063f5ddd0643087c23a6206e0215d22ec5d0f813469dac17ba1f14b2b53a38c0", func := "loop.example/g00920/laws.FnExactIsEquitable", spec := "fnExactIsEquitable", unfollowed := true, recurses := true, apart := false, narrowed := true }
def FnExactIsEquitableUptoSaid : Prop := fnExactIsEquitableUptoRow.holds Try.pinned (OpenSpec.upto fnExactIsEquitableSpec)

end Rows
end Go.Proofs.Ytohghnoihbjmcaa
