/-
  No cell of these rows narrows 'for every input' (looked for: loops, veiled, ifaces, maps, wideKeys, modest, calm, conditions, laid).
  DERIVED. THE GIVEN ROWS OF THIS SEAT. 5 by the template 'for every input the law returns true; each argument reads behind the call as it read before'; 0 by the template 'total and deterministic' (their statements: YtpglmogoddgmoaaTotals.lean).
  GIVEN WITH THE SEED: the statements are not yours to turn. If you find one false, say at which input.
  Laid BY PROGRAM, IN A SANDBOX (cutbox-rows.mjs): the forced cells as the released guide's own fill.sh prints them over the translation 598cd67cc90af212… (all of the seat's roots in one cut). By AI agents, Wed Nov 11 2026. No macro, syntax, notation, axiom, sorry.
-/
import Derived.Test.YtpglmogoddgmoaaChecked
import GoSem.Claim
import GoSem.ClaimJoined
import GoSem.ClaimMapViews
import Derived.JoinedTies
import Derived.KernelRfl
namespace Go.Proofs.Ytpglmogoddgmoaa
/- THE CELL 'sum', in the pinned program and in every row, IS THE sha256 OF THE DUMP (.gsa) THAT YtpglmogoddgmoaaProg.lean LOADS. Nothing in Lean hashes anything: it is a label: what it is worth is what the hold of that sum in a sandbox is worth. -/
noncomputable def Try.pinned : Pinned := { name := "ytpglmogoddgmoaa", sum := "598cd67cc90af2123e8f433b4a5fb13feb2d1f58fb8529bbafa4e837104133f5", checked := Try.checked }
namespace Rows
def none {H : Type} : Left H := { results := [], args := [] }

/-- 'laws.FnMatrices': WHATEVER THE INPUT: true; the input reads as it did. -/
def fnMatricesSpec : ChangeSpec := { name := "fnMatrices", fn := fun _ => fun
  | [d1, d2] => { results := [.lit (.bool true)], args := [d1, d2] }
  | _ => none }
def fnMatricesRow : OpenClaim := { program := "ytpglmogoddgmoaa", sum := "598cd67cc90af2123e8f433b4a5fb13feb2d1f58fb8529bbafa4e837104133f5", func := "loop.example/g00920/laws.FnMatrices", spec := "fnMatrices", unfollowed := true, recurses := true, apart := false }
def FnMatricesSaid : Prop := fnMatricesRow.holds Try.pinned (OpenSpec.ofChange fnMatricesSpec)

/-- ITS FALSE NEIGHBOUR: 'it returns false'. Refute it at one input. -/
def fnMatricesWrong : ChangeSpec := { name := "fnMatrices", fn := fun _ => fun
  | [d1, d2] => { results := [.lit (.bool false)], args := [d1, d2] }
  | _ => none }
def FnMatricesWrongFalsely : Prop := fnMatricesRow.holds Try.pinned (OpenSpec.ofChange fnMatricesWrong)

/-- 'laws.FnExactRankOfDesign': WHATEVER THE INPUT: true; the input reads as it did. -/
def fnExactRankOfDesignSpec : ChangeSpec := { name := "fnExactRankOfDesign", fn := fun _ => fun
  | [d1, d2] => { results := [.lit (.bool true)], args := [d1, d2] }
  | _ => none }
def fnExactRankOfDesignRow : OpenClaim := { program := "ytpglmogoddgmoaa", sum := "598cd67cc90af2123e8f433b4a5fb13feb2d1f58fb8529bbafa4e837104133f5", func := "loop.example/g00920/laws.FnExactRankOfDesign", spec := "fnExactRankOfDesign", unfollowed := true, recurses := true, apart := false }
def FnExactRankOfDesignSaid : Prop := fnExactRankOfDesignRow.holds Try.pinned (OpenSpec.ofChange fnExactRankOfDesignSpec)

/-- ITS FALSE NEIGHBOUR: 'it returns false'. Refute it at one input. -/
def fnExactRankOfDesignWrong : ChangeSpec := { name := "fnExactRankOfDesign", fn := fun _ => fun
  | [d1, d2] => { results := [.lit (.bool false)], args := [d1, d2] }
  | _ => none }
def FnExactRankOfDesignWrongFalsely : Prop := fnExactRankOfDesignRow.holds Try.pinned (OpenSpec.ofChange fnExactRankOfDesignWrong)

/-- 'laws.FnBounds': WHATEVER THE INPUT: true; the input reads as it did. -/
def fnBoundsSpec : ChangeSpec := { name := "fnBounds", fn := fun _ => fun
  | [d] => { results := [.lit (.bool true)], args := [d] }
  | _ => none }
def fnBoundsRow : OpenClaim := { program := "ytpglmogoddgmoaa", sum := "598cd67cc90af2123e8f433b4a5fb13feb2d1f58fb8529bbafa4e837104133f5", func := "loop.example/g00920/laws.FnBounds", spec := "fnBounds", unfollowed := true, recurses := true, apart := false }
def FnBoundsSaid : Prop := fnBoundsRow.holds Try.pinned (OpenSpec.ofChange fnBoundsSpec)

/-- ITS FALSE NEIGHBOUR: 'it returns false'. Refute it at one input. -/
def fnBoundsWrong : ChangeSpec := { name := "fnBounds", fn := fun _ => fun
  | [d] => { results := [.lit (.bool false)], args := [d] }
  | _ => none }
def FnBoundsWrongFalsely : Prop := fnBoundsRow.holds Try.pinned (OpenSpec.ofChange fnBoundsWrong)

/-- 'laws.FnExactCodeOfDesign': WHATEVER THE INPUT: true; the input reads as it did. -/
def fnExactCodeOfDesignSpec : ChangeSpec := { name := "fnExactCodeOfDesign", fn := fun _ => fun
  | [d1, d2] => { results := [.lit (.bool true)], args := [d1, d2] }
  | _ => none }
def fnExactCodeOfDesignRow : OpenClaim := { program := "ytpglmogoddgmoaa", sum := "598cd67cc90af2123e8f433b4a5fb13feb2d1f58fb8529bbafa4e837104133f5", func := "loop.example/g00920/laws.FnExactCodeOfDesign", spec := "fnExactCodeOfDesign", unfollowed := true, recurses := true, apart := false }
def FnExactCodeOfDesignSaid : Prop := fnExactCodeOfDesignRow.holds Try.pinned (OpenSpec.ofChange fnExactCodeOfDesignSpec)

/-- ITS FALSE NEIGHBOUR: 'it returns false'. Refute it at one input. -/
def fnExactCodeOfDesignWrong : ChangeSpec := { name := "fnExactCodeOfDesign", fn := fun _ => fun
  | [d1, d2] => { results := [.lit (.bool false)], args := [d1, d2] }
  | _ => none }
def FnExactCodeOfDesignWrongFalsely : Prop := fnExactCodeOfDesignRow.holds Try.pinned (OpenSpec.ofChange fnExactCodeOfDesignWrong)

/-- 'laws.FnExactIsEquitable': WHATEVER THE INPUT: true; the input reads as it did. -/
def fnExactIsEquitableSpec : ChangeSpec := { name := "fnExactIsEquitable", fn := fun _ => fun
  | [d1, d2] => { results := [.lit (.bool true)], args := [d1, d2] }
  | _ => none }
def fnExactIsEquitableRow : OpenClaim := { program := "ytpglmogoddgmoaa", sum := "598cd67cc90af2123e8f433b4a5fb13feb2d1f58fb8529bbafa4e837104133f5", func := "loop.example/g00920/laws.FnExactIsEquitable", spec := "fnExactIsEquitable", unfollowed := true, recurses := true, apart := false }
def FnExactIsEquitableSaid : Prop := fnExactIsEquitableRow.holds Try.pinned (OpenSpec.ofChange fnExactIsEquitableSpec)

/-- ITS FALSE NEIGHBOUR: 'it returns false'. Refute it at one input. -/
def fnExactIsEquitableWrong : ChangeSpec := { name := "fnExactIsEquitable", fn := fun _ => fun
  | [d1, d2] => { results := [.lit (.bool false)], args := [d1, d2] }
  | _ => none }
def FnExactIsEquitableWrongFalsely : Prop := fnExactIsEquitableRow.holds Try.pinned (OpenSpec.ofChange fnExactIsEquitableWrong)

/- THE SECOND FORM. 'bulk': how many values and letters a reading holds, each counted each time it is reached (what is shared counts as often as it is met; a slice's spare places count too). A statement '..UptoSaid' is the law's where the arguments, and the package variables that the reading takes, are together of bulk at most 1048576: NARROWER than '..Said'. Prove '..Said' where nothing that the law and all that it calls make is longer than what came in: it says more and counts as full. Else prove '..UptoSaid'. A law counts once. -/
mutual
def uptoBulk {H : Type} : DataW H → Nat
  | .lit (.string bytes) => bytes.length + 1
  | .lit _ => 1
  | .nil => 1
  | .ptr d => uptoBulk d + 1
  | .slice elems spare => uptoBulkAll elems + uptoBulkAll spare + 1
  | .agg parts => uptoBulkAll parts + 1
  | .iface _ d => uptoBulk d + 1
  | .map entries => uptoBulkEntries entries + 1
  | .held _ => 1
def uptoBulkAll {H : Type} : List (DataW H) → Nat
  | [] => 0
  | d :: r => uptoBulk d + uptoBulkAll r
def uptoBulkEntries {H : Type} : List (Lit × DataW H) → Nat
  | [] => 0
  | x :: r => uptoBulkEntry x + uptoBulkEntries r
def uptoBulkEntry {H : Type} : Lit × DataW H → Nat
  | (.string bytes, d) => bytes.length + uptoBulk d + 1
  | (_, d) => uptoBulk d + 1
 end
def uptoSmall : (H : Type) → List (DataW H) → Bool := fun _ ds => decide (uptoBulkAll ds ≤ 1048576)
def OpenSpec.upto (s : _root_.Go.ChangeSpec) : _root_.Go.OpenSpec := { _root_.Go.OpenSpec.ofChange s with cond := some uptoSmall }

/-- 'laws.FnMatrices', WHERE WHAT IT READS IS OF BULK AT MOST 1048576: true; the input reads as it did. -/
def fnMatricesUptoRow : OpenClaim := { program := "ytpglmogoddgmoaa", sum := "598cd67cc90af2123e8f433b4a5fb13feb2d1f58fb8529bbafa4e837104133f5", func := "loop.example/g00920/laws.FnMatrices", spec := "fnMatrices", unfollowed := true, recurses := true, apart := false, narrowed := true }
def FnMatricesUptoSaid : Prop := fnMatricesUptoRow.holds Try.pinned (OpenSpec.upto fnMatricesSpec)

/-- 'laws.FnExactRankOfDesign', WHERE WHAT IT READS IS OF BULK AT MOST 1048576: true; the input reads as it did. -/
def fnExactRankOfDesignUptoRow : OpenClaim := { program := "ytpglmogoddgmoaa", sum := "598cd67cc90af2123e8f433b4a5fb13feb2d1f58fb8529bbafa4e837104133f5", func := "loop.example/g00920/laws.FnExactRankOfDesign", spec := "fnExactRankOfDesign", unfollowed := true, recurses := true, apart := false, narrowed := true }
def FnExactRankOfDesignUptoSaid : Prop := fnExactRankOfDesignUptoRow.holds Try.pinned (OpenSpec.upto fnExactRankOfDesignSpec)

/-- 'laws.FnBounds', WHERE WHAT IT READS IS OF BULK AT MOST 1048576: true; the input reads as it did. -/
def fnBoundsUptoRow : OpenClaim := { program := "ytpglmogoddgmoaa", sum := "598cd67cc90af2123e8f433b4a5fb13feb2d1f58fb8529bbafa4e837104133f5", func := "loop.example/g00920/laws.FnBounds", spec := "fnBounds", unfollowed := true, recurses := true, apart := false, narrowed := true }
def FnBoundsUptoSaid : Prop := fnBoundsUptoRow.holds Try.pinned (OpenSpec.upto fnBoundsSpec)

/-- 'laws.FnExactCodeOfDesign', WHERE WHAT IT READS IS OF BULK AT MOST 1048576: true; the input reads as it did. -/
def fnExactCodeOfDesignUptoRow : OpenClaim := { program := "ytpglmogoddgmoaa", sum := "598cd67cc90af2123e8f433b4a5fb13feb2d1f58fb8529bbafa4e837104133f5", func := "loop.example/g00920/laws.FnExactCodeOfDesign", spec := "fnExactCodeOfDesign", unfollowed := true, recurses := true, apart := false, narrowed := true }
def FnExactCodeOfDesignUptoSaid : Prop := fnExactCodeOfDesignUptoRow.holds Try.pinned (OpenSpec.upto fnExactCodeOfDesignSpec)

/-- 'laws.FnExactIsEquitable', WHERE WHAT IT READS IS OF BULK AT MOST 1048576: true; the input reads as it did. -/
def fnExactIsEquitableUptoRow : OpenClaim := { program := "ytpglmogoddgmoaa", sum := "598cd67cc90af2123e8f433b4a5fb13feb2d1f58fb8529bbafa4e837104133f5", func := "loop.example/g00920/laws.FnExactIsEquitable", spec := "fnExactIsEquitable", unfollowed := true, recurses := true, apart := false, narrowed := true }
def FnExactIsEquitableUptoSaid : Prop := fnExactIsEquitableUptoRow.holds Try.pinned (OpenSpec.upto fnExactIsEquitableSpec)

end Rows
end Go.Proofs.Ytpglmogoddgmoaa
