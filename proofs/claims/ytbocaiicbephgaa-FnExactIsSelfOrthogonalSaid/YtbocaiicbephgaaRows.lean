/-
  No cell of these rows narrows 'for every input' (looked for: loops, veiled, ifaces, maps, wideKeys, modest, calm, conditions, laid).
  DERIVED. THE GIVEN ROWS OF THIS SEAT. 12 by the template 'for every input the law returns true; each argument reads behind the call as it read before'; 0 by the template 'total and deterministic' (their statements: YtbocaiicbephgaaTotals.lean).
  GIVEN WITH THE SEED: the statements are not yours to turn. If you find one false, say at which input.
  Laid BY PROGRAM, IN A SANDBOX (cutbox-rows.mjs): the forced cells as the released guide's own fill.sh prints them over the translation bc523fe53a20d7ad… (all of the seat's roots in one cut). By AI agents, Wed Nov 11 2026. No macro, syntax, notation, axiom, sorry.
-/
import Derived.Test.YtbocaiicbephgaaChecked
import GoSem.Claim
import GoSem.ClaimJoined
import GoSem.ClaimMapViews
import Derived.JoinedTies
import Derived.KernelRfl
namespace Go.Proofs.Ytbocaiicbephgaa
/- THE CELL 'sum', in the pinned program and in every row, IS THE sha256 OF THE DUMP (.gsa) THAT YtbocaiicbephgaaProg.lean LOADS. Nothing in Lean hashes anything: it is a label: what it is worth is what the hold of that sum in a sandbox is worth. -/
noncomputable def Try.pinned : Pinned := { name := "ytbocaiicbephgaa", sum := "bc523fe53a20d7ad438f5c1924aaa58d4fe34df9c0ccf208d2114c453e61be4b", checked := Try.checked }
namespace Rows
def none {H : Type} : Left H := { results := [], args := [] }

/-- 'laws.FnExactEncodeWord': WHATEVER THE INPUT: true; the input reads as it did. -/
def fnExactEncodeWordSpec : ChangeSpec := { name := "fnExactEncodeWord", fn := fun _ => fun
  | [d1, d2] => { results := [.lit (.bool true)], args := [d1, d2] }
  | _ => none }
def fnExactEncodeWordRow : OpenClaim := { program := "ytbocaiicbephgaa", sum := "bc523fe53a20d7ad438f5c1924aaa58d4fe34df9c0ccf208d2114c453e61be4b", func := "loop.example/g00920/laws.FnExactEncodeWord", spec := "fnExactEncodeWord", unfollowed := true, recurses := true, apart := false }
def FnExactEncodeWordSaid : Prop := fnExactEncodeWordRow.holds Try.pinned (OpenSpec.ofChange fnExactEncodeWordSpec)

/-- ITS FALSE NEIGHBOUR: 'it returns false'. Refute it at one input. -/
def fnExactEncodeWordWrong : ChangeSpec := { name := "fnExactEncodeWord", fn := fun _ => fun
  | [d1, d2] => { results := [.lit (.bool false)], args := [d1, d2] }
  | _ => none }
def FnExactEncodeWordWrongFalsely : Prop := fnExactEncodeWordRow.holds Try.pinned (OpenSpec.ofChange fnExactEncodeWordWrong)

/-- 'laws.FnExactCodeHas': WHATEVER THE INPUT: true; the input reads as it did. -/
def fnExactCodeHasSpec : ChangeSpec := { name := "fnExactCodeHas", fn := fun _ => fun
  | [d1, d2] => { results := [.lit (.bool true)], args := [d1, d2] }
  | _ => none }
def fnExactCodeHasRow : OpenClaim := { program := "ytbocaiicbephgaa", sum := "bc523fe53a20d7ad438f5c1924aaa58d4fe34df9c0ccf208d2114c453e61be4b", func := "loop.example/g00920/laws.FnExactCodeHas", spec := "fnExactCodeHas", unfollowed := true, recurses := true, apart := false }
def FnExactCodeHasSaid : Prop := fnExactCodeHasRow.holds Try.pinned (OpenSpec.ofChange fnExactCodeHasSpec)

/-- ITS FALSE NEIGHBOUR: 'it returns false'. Refute it at one input. -/
def fnExactCodeHasWrong : ChangeSpec := { name := "fnExactCodeHas", fn := fun _ => fun
  | [d1, d2] => { results := [.lit (.bool false)], args := [d1, d2] }
  | _ => none }
def FnExactCodeHasWrongFalsely : Prop := fnExactCodeHasRow.holds Try.pinned (OpenSpec.ofChange fnExactCodeHasWrong)

/-- 'laws.FnExactWordsOf': WHATEVER THE INPUT: true; the input reads as it did. -/
def fnExactWordsOfSpec : ChangeSpec := { name := "fnExactWordsOf", fn := fun _ => fun
  | [d] => { results := [.lit (.bool true)], args := [d] }
  | _ => none }
def fnExactWordsOfRow : OpenClaim := { program := "ytbocaiicbephgaa", sum := "bc523fe53a20d7ad438f5c1924aaa58d4fe34df9c0ccf208d2114c453e61be4b", func := "loop.example/g00920/laws.FnExactWordsOf", spec := "fnExactWordsOf", unfollowed := true, recurses := true, apart := false }
def FnExactWordsOfSaid : Prop := fnExactWordsOfRow.holds Try.pinned (OpenSpec.ofChange fnExactWordsOfSpec)

/-- ITS FALSE NEIGHBOUR: 'it returns false'. Refute it at one input. -/
def fnExactWordsOfWrong : ChangeSpec := { name := "fnExactWordsOf", fn := fun _ => fun
  | [d] => { results := [.lit (.bool false)], args := [d] }
  | _ => none }
def FnExactWordsOfWrongFalsely : Prop := fnExactWordsOfRow.holds Try.pinned (OpenSpec.ofChange fnExactWordsOfWrong)

/-- 'laws.FnExactDistanceOf': WHATEVER THE INPUT: true; the input reads as it did. -/
def fnExactDistanceOfSpec : ChangeSpec := { name := "fnExactDistanceOf", fn := fun _ => fun
  | [d] => { results := [.lit (.bool true)], args := [d] }
  | _ => none }
def fnExactDistanceOfRow : OpenClaim := { program := "ytbocaiicbephgaa", sum := "bc523fe53a20d7ad438f5c1924aaa58d4fe34df9c0ccf208d2114c453e61be4b", func := "loop.example/g00920/laws.FnExactDistanceOf", spec := "fnExactDistanceOf", unfollowed := true, recurses := true, apart := false }
def FnExactDistanceOfSaid : Prop := fnExactDistanceOfRow.holds Try.pinned (OpenSpec.ofChange fnExactDistanceOfSpec)

/-- ITS FALSE NEIGHBOUR: 'it returns false'. Refute it at one input. -/
def fnExactDistanceOfWrong : ChangeSpec := { name := "fnExactDistanceOf", fn := fun _ => fun
  | [d] => { results := [.lit (.bool false)], args := [d] }
  | _ => none }
def FnExactDistanceOfWrongFalsely : Prop := fnExactDistanceOfRow.holds Try.pinned (OpenSpec.ofChange fnExactDistanceOfWrong)

/-- 'laws.FnExactWeightsOf': WHATEVER THE INPUT: true; the input reads as it did. -/
def fnExactWeightsOfSpec : ChangeSpec := { name := "fnExactWeightsOf", fn := fun _ => fun
  | [d] => { results := [.lit (.bool true)], args := [d] }
  | _ => none }
def fnExactWeightsOfRow : OpenClaim := { program := "ytbocaiicbephgaa", sum := "bc523fe53a20d7ad438f5c1924aaa58d4fe34df9c0ccf208d2114c453e61be4b", func := "loop.example/g00920/laws.FnExactWeightsOf", spec := "fnExactWeightsOf", unfollowed := true, recurses := true, apart := false }
def FnExactWeightsOfSaid : Prop := fnExactWeightsOfRow.holds Try.pinned (OpenSpec.ofChange fnExactWeightsOfSpec)

/-- ITS FALSE NEIGHBOUR: 'it returns false'. Refute it at one input. -/
def fnExactWeightsOfWrong : ChangeSpec := { name := "fnExactWeightsOf", fn := fun _ => fun
  | [d] => { results := [.lit (.bool false)], args := [d] }
  | _ => none }
def FnExactWeightsOfWrongFalsely : Prop := fnExactWeightsOfRow.holds Try.pinned (OpenSpec.ofChange fnExactWeightsOfWrong)

/-- 'laws.FnExactNearestWord': WHATEVER THE INPUT: true; the input reads as it did. -/
def fnExactNearestWordSpec : ChangeSpec := { name := "fnExactNearestWord", fn := fun _ => fun
  | [d1, d2] => { results := [.lit (.bool true)], args := [d1, d2] }
  | _ => none }
def fnExactNearestWordRow : OpenClaim := { program := "ytbocaiicbephgaa", sum := "bc523fe53a20d7ad438f5c1924aaa58d4fe34df9c0ccf208d2114c453e61be4b", func := "loop.example/g00920/laws.FnExactNearestWord", spec := "fnExactNearestWord", unfollowed := true, recurses := true, apart := false }
def FnExactNearestWordSaid : Prop := fnExactNearestWordRow.holds Try.pinned (OpenSpec.ofChange fnExactNearestWordSpec)

/-- ITS FALSE NEIGHBOUR: 'it returns false'. Refute it at one input. -/
def fnExactNearestWordWrong : ChangeSpec := { name := "fnExactNearestWord", fn := fun _ => fun
  | [d1, d2] => { results := [.lit (.bool false)], args := [d1, d2] }
  | _ => none }
def FnExactNearestWordWrongFalsely : Prop := fnExactNearestWordRow.holds Try.pinned (OpenSpec.ofChange fnExactNearestWordWrong)

/-- 'laws.FnExactCheckMatrix': WHATEVER THE INPUT: true; the input reads as it did. -/
def fnExactCheckMatrixSpec : ChangeSpec := { name := "fnExactCheckMatrix", fn := fun _ => fun
  | [d] => { results := [.lit (.bool true)], args := [d] }
  | _ => none }
def fnExactCheckMatrixRow : OpenClaim := { program := "ytbocaiicbephgaa", sum := "bc523fe53a20d7ad438f5c1924aaa58d4fe34df9c0ccf208d2114c453e61be4b", func := "loop.example/g00920/laws.FnExactCheckMatrix", spec := "fnExactCheckMatrix", unfollowed := true, recurses := true, apart := false }
def FnExactCheckMatrixSaid : Prop := fnExactCheckMatrixRow.holds Try.pinned (OpenSpec.ofChange fnExactCheckMatrixSpec)

/-- ITS FALSE NEIGHBOUR: 'it returns false'. Refute it at one input. -/
def fnExactCheckMatrixWrong : ChangeSpec := { name := "fnExactCheckMatrix", fn := fun _ => fun
  | [d] => { results := [.lit (.bool false)], args := [d] }
  | _ => none }
def FnExactCheckMatrixWrongFalsely : Prop := fnExactCheckMatrixRow.holds Try.pinned (OpenSpec.ofChange fnExactCheckMatrixWrong)

/-- 'laws.FnExactSyndromeOf': WHATEVER THE INPUT: true; the input reads as it did. -/
def fnExactSyndromeOfSpec : ChangeSpec := { name := "fnExactSyndromeOf", fn := fun _ => fun
  | [d1, d2] => { results := [.lit (.bool true)], args := [d1, d2] }
  | _ => none }
def fnExactSyndromeOfRow : OpenClaim := { program := "ytbocaiicbephgaa", sum := "bc523fe53a20d7ad438f5c1924aaa58d4fe34df9c0ccf208d2114c453e61be4b", func := "loop.example/g00920/laws.FnExactSyndromeOf", spec := "fnExactSyndromeOf", unfollowed := true, recurses := true, apart := false }
def FnExactSyndromeOfSaid : Prop := fnExactSyndromeOfRow.holds Try.pinned (OpenSpec.ofChange fnExactSyndromeOfSpec)

/-- ITS FALSE NEIGHBOUR: 'it returns false'. Refute it at one input. -/
def fnExactSyndromeOfWrong : ChangeSpec := { name := "fnExactSyndromeOf", fn := fun _ => fun
  | [d1, d2] => { results := [.lit (.bool false)], args := [d1, d2] }
  | _ => none }
def FnExactSyndromeOfWrongFalsely : Prop := fnExactSyndromeOfRow.holds Try.pinned (OpenSpec.ofChange fnExactSyndromeOfWrong)

/-- 'laws.FnExactIsMds': WHATEVER THE INPUT: true; the input reads as it did. -/
def fnExactIsMdsSpec : ChangeSpec := { name := "fnExactIsMds", fn := fun _ => fun
  | [d] => { results := [.lit (.bool true)], args := [d] }
  | _ => none }
def fnExactIsMdsRow : OpenClaim := { program := "ytbocaiicbephgaa", sum := "bc523fe53a20d7ad438f5c1924aaa58d4fe34df9c0ccf208d2114c453e61be4b", func := "loop.example/g00920/laws.FnExactIsMds", spec := "fnExactIsMds", unfollowed := true, recurses := true, apart := false }
def FnExactIsMdsSaid : Prop := fnExactIsMdsRow.holds Try.pinned (OpenSpec.ofChange fnExactIsMdsSpec)

/-- ITS FALSE NEIGHBOUR: 'it returns false'. Refute it at one input. -/
def fnExactIsMdsWrong : ChangeSpec := { name := "fnExactIsMds", fn := fun _ => fun
  | [d] => { results := [.lit (.bool false)], args := [d] }
  | _ => none }
def FnExactIsMdsWrongFalsely : Prop := fnExactIsMdsRow.holds Try.pinned (OpenSpec.ofChange fnExactIsMdsWrong)

/-- 'laws.FnExactIsPerfect': WHATEVER THE INPUT: true; the input reads as it did. -/
def fnExactIsPerfectSpec : ChangeSpec := { name := "fnExactIsPerfect", fn := fun _ => fun
  | [d] => { results := [.lit (.bool true)], args := [d] }
  | _ => none }
def fnExactIsPerfectRow : OpenClaim := { program := "ytbocaiicbephgaa", sum := "bc523fe53a20d7ad438f5c1924aaa58d4fe34df9c0ccf208d2114c453e61be4b", func := "loop.example/g00920/laws.FnExactIsPerfect", spec := "fnExactIsPerfect", unfollowed := true, recurses := true, apart := false }
def FnExactIsPerfectSaid : Prop := fnExactIsPerfectRow.holds Try.pinned (OpenSpec.ofChange fnExactIsPerfectSpec)

/-- ITS FALSE NEIGHBOUR: 'it returns false'. Refute it at one input. -/
def fnExactIsPerfectWrong : ChangeSpec := { name := "fnExactIsPerfect", fn := fun _ => fun
  | [d] => { results := [.lit (.bool false)], args := [d] }
  | _ => none }
def FnExactIsPerfectWrongFalsely : Prop := fnExactIsPerfectRow.holds Try.pinned (OpenSpec.ofChange fnExactIsPerfectWrong)

/-- 'laws.FnExactDualCode': WHATEVER THE INPUT: true; the input reads as it did. -/
def fnExactDualCodeSpec : ChangeSpec := { name := "fnExactDualCode", fn := fun _ => fun
  | [d] => { results := [.lit (.bool true)], args := [d] }
  | _ => none }
def fnExactDualCodeRow : OpenClaim := { program := "ytbocaiicbephgaa", sum := "bc523fe53a20d7ad438f5c1924aaa58d4fe34df9c0ccf208d2114c453e61be4b", func := "loop.example/g00920/laws.FnExactDualCode", spec := "fnExactDualCode", unfollowed := true, recurses := true, apart := false }
def FnExactDualCodeSaid : Prop := fnExactDualCodeRow.holds Try.pinned (OpenSpec.ofChange fnExactDualCodeSpec)

/-- ITS FALSE NEIGHBOUR: 'it returns false'. Refute it at one input. -/
def fnExactDualCodeWrong : ChangeSpec := { name := "fnExactDualCode", fn := fun _ => fun
  | [d] => { results := [.lit (.bool false)], args := [d] }
  | _ => none }
def FnExactDualCodeWrongFalsely : Prop := fnExactDualCodeRow.holds Try.pinned (OpenSpec.ofChange fnExactDualCodeWrong)

/-- 'laws.FnExactIsSelfOrthogonal': WHATEVER THE INPUT: true; the input reads as it did. -/
def fnExactIsSelfOrthogonalSpec : ChangeSpec := { name := "fnExactIsSelfOrthogonal", fn := fun _ => fun
  | [d] => { results := [.lit (.bool true)], args := [d] }
  | _ => none }
def fnExactIsSelfOrthogonalRow : OpenClaim := { program := "ytbocaiicbephgaa", sum := "bc523fe53a20d7ad438f5c1924aaa58d4fe34df9c0ccf208d2114c453e61be4b", func := "loop.example/g00920/laws.FnExactIsSelfOrthogonal", spec := "fnExactIsSelfOrthogonal", unfollowed := true, recurses := true, apart := false }
def FnExactIsSelfOrthogonalSaid : Prop := fnExactIsSelfOrthogonalRow.holds Try.pinned (OpenSpec.ofChange fnExactIsSelfOrthogonalSpec)

/-- ITS FALSE NEIGHBOUR: 'it returns false'. Refute it at one input. -/
def fnExactIsSelfOrthogonalWrong : ChangeSpec := { name := "fnExactIsSelfOrthogonal", fn := fun _ => fun
  | [d] => { results := [.lit (.bool false)], args := [d] }
  | _ => none }
def FnExactIsSelfOrthogonalWrongFalsely : Prop := fnExactIsSelfOrthogonalRow.holds Try.pinned (OpenSpec.ofChange fnExactIsSelfOrthogonalWrong)

/- THE SECOND FORM. 'bulk': how many values and letters a reading holds, each counted each time it is reached (what is shared counts as often as it is met; a slice's spare places count too). A statement '..UptoSaid' is the law's where the arguments, and the package variables that the reading takes, are together of bulk at most 1048576: NARROWER than '..Said'. Prove '..Said' where nothing that the law and all that it calls make is longer than what came in: it says more and counts as full. Else prove '..UptoSaid'. A law counts once. -/
mutual
def uptoBulk {H : Type} : DataW H → Nat
  | .lit (.string bytes) => bytes.length + 1
  | .lit _ => 1
  | .nil => 1
  | .ptr d => uptoBulk d + 1
  | .slice elems spare => uptoBulkAll elems + uptoBulkAll spare + 1
  | .agg parts => uptoBulkAll parts + 1
  | .iface _ d => uptoBulk d + 1
  | .map entries => uptoBulkEntries entries + 1
  | .held _ => 1
def uptoBulkAll {H : Type} : List (DataW H) → Nat
  | [] => 0
  | d :: r => uptoBulk d + uptoBulkAll r
def uptoBulkEntries {H : Type} : List (Lit × DataW H) → Nat
  | [] => 0
  | x :: r => uptoBulkEntry x + uptoBulkEntries r
def uptoBulkEntry {H : Type} : Lit × DataW H → Nat
  | (.string bytes, d) => bytes.length + uptoBulk d + 1
  | (_, d) => uptoBulk d + 1
 end
def uptoSmall : (H : Type) → List (DataW H) → Bool := fun _ ds => decide (uptoBulkAll ds ≤ 1048576)
def OpenSpec.upto (s : _root_.Go.ChangeSpec) : _root_.Go.OpenSpec := { _root_.Go.OpenSpec.ofChange s with cond := some uptoSmall }

/-- 'laws.FnExactEncodeWord', WHERE WHAT IT READS IS OF BULK AT MOST 1048576: true; the input reads as it did. -/
def fnExactEncodeWordUptoRow : OpenClaim := { program := "ytbocaiicbephgaa", sum := "bc523fe53a20d7ad438f5c1924aaa58d4fe34df9c0ccf208d2114c453e61be4b", func := "loop.example/g00920/laws.FnExactEncodeWord", spec := "fnExactEncodeWord", unfollowed := true, recurses := true, apart := false, narrowed := true }
def FnExactEncodeWordUptoSaid : Prop := fnExactEncodeWordUptoRow.holds Try.pinned (OpenSpec.upto fnExactEncodeWordSpec)

/-- 'laws.FnExactCodeHas', WHERE WHAT IT READS IS OF BULK AT MOST 1048576: true; the input reads as it did. -/
def fnExactCodeHasUptoRow : OpenClaim := { program := "ytbocaiicbephgaa", sum := "bc523fe53a20d7ad438f5c1924aaa58d4fe34df9c0ccf208d2114c453e61be4b", func := "loop.example/g00920/laws.FnExactCodeHas", spec := "fnExactCodeHas", unfollowed := true, recurses := true, apart := false, narrowed := true }
def FnExactCodeHasUptoSaid : Prop := fnExactCodeHasUptoRow.holds Try.pinned (OpenSpec.upto fnExactCodeHasSpec)

/-- 'laws.FnExactWordsOf', WHERE WHAT IT READS IS OF BULK AT MOST 1048576: true; the input reads as it did. -/
def fnExactWordsOfUptoRow : OpenClaim := { program := "ytbocaiicbephgaa", sum := "bc523fe53a20d7ad438f5c1924aaa58d4fe34df9c0ccf208d2114c453e61be4b", func := "loop.example/g00920/laws.FnExactWordsOf", spec := "fnExactWordsOf", unfollowed := true, recurses := true, apart := false, narrowed := true }
def FnExactWordsOfUptoSaid : Prop := fnExactWordsOfUptoRow.holds Try.pinned (OpenSpec.upto fnExactWordsOfSpec)

/-- 'laws.FnExactDistanceOf', WHERE WHAT IT READS IS OF BULK AT MOST 1048576: true; the input reads as it did. -/
def fnExactDistanceOfUptoRow : OpenClaim := { program := "ytbocaiicbephgaa", sum := "bc523fe53a20d7ad438f5c1924aaa58d4fe34df9c0ccf208d2114c453e61be4b", func := "loop.example/g00920/laws.FnExactDistanceOf", spec := "fnExactDistanceOf", unfollowed := true, recurses := true, apart := false, narrowed := true }
def FnExactDistanceOfUptoSaid : Prop := fnExactDistanceOfUptoRow.holds Try.pinned (OpenSpec.upto fnExactDistanceOfSpec)

/-- 'laws.FnExactWeightsOf', WHERE WHAT IT READS IS OF BULK AT MOST 1048576: true; the input reads as it did. -/
def fnExactWeightsOfUptoRow : OpenClaim := { program := "ytbocaiicbephgaa", sum := "bc523fe53a20d7ad438f5c1924aaa58d4fe34df9c0ccf208d2114c453e61be4b", func := "loop.example/g00920/laws.FnExactWeightsOf", spec := "fnExactWeightsOf", unfollowed := true, recurses := true, apart := false, narrowed := true }
def FnExactWeightsOfUptoSaid : Prop := fnExactWeightsOfUptoRow.holds Try.pinned (OpenSpec.upto fnExactWeightsOfSpec)

/-- 'laws.FnExactNearestWord', WHERE WHAT IT READS IS OF BULK AT MOST 1048576: true; the input reads as it did. -/
def fnExactNearestWordUptoRow : OpenClaim := { program := "ytbocaiicbephgaa", sum := "bc523fe53a20d7ad438f5c1924aaa58d4fe34df9c0ccf208d2114c453e61be4b", func := "loop.example/g00920/laws.FnExactNearestWord", spec := "fnExactNearestWord", unfollowed := true, recurses := true, apart := false, narrowed := true }
def FnExactNearestWordUptoSaid : Prop := fnExactNearestWordUptoRow.holds Try.pinned (OpenSpec.upto fnExactNearestWordSpec)

/-- 'laws.FnExactCheckMatrix', WHERE WHAT IT READS IS OF BULK AT MOST 1048576: true; the input reads as it did. -/
def fnExactCheckMatrixUptoRow : OpenClaim := { program := "ytbocaiicbephgaa", sum := "bc523fe53a20d7ad438f5c1924aaa58d4fe34df9c0ccf208d2114c453e61be4b", func := "loop.example/g00920/laws.FnExactCheckMatrix", spec := "fnExactCheckMatrix", unfollowed := true, recurses := true, apart := false, narrowed := true }
def FnExactCheckMatrixUptoSaid : Prop := fnExactCheckMatrixUptoRow.holds Try.pinned (OpenSpec.upto fnExactCheckMatrixSpec)

/-- 'laws.FnExactSyndromeOf', WHERE WHAT IT READS IS OF BULK AT MOST 1048576: true; the input reads as it did. -/
def fnExactSyndromeOfUptoRow : OpenClaim := { program := "ytbocaiicbephgaa", sum := "bc523fe53a20d7ad438f5c1924aaa58d4fe34df9c0ccf208d2114c453e61be4b", func := "loop.example/g00920/laws.FnExactSyndromeOf", spec := "fnExactSyndromeOf", unfollowed := true, recurses := true, apart := false, narrowed := true }
def FnExactSyndromeOfUptoSaid : Prop := fnExactSyndromeOfUptoRow.holds Try.pinned (OpenSpec.upto fnExactSyndromeOfSpec)

/-- 'laws.FnExactIsMds', WHERE WHAT IT READS IS OF BULK AT MOST 1048576: true; the input reads as it did. -/
def fnExactIsMdsUptoRow : OpenClaim := { program := "ytbocaiicbephgaa", sum := "bc523fe53a20d7ad438f5c1924aaa58d4fe34df9c0ccf208d2114c453e61be4b", func := "loop.example/g00920/laws.FnExactIsMds", spec := "fnExactIsMds", unfollowed := true, recurses := true, apart := false, narrowed := true }
def FnExactIsMdsUptoSaid : Prop := fnExactIsMdsUptoRow.holds Try.pinned (OpenSpec.upto fnExactIsMdsSpec)

/-- 'laws.FnExactIsPerfect', WHERE WHAT IT READS IS OF BULK AT MOST 1048576: true; the input reads as it did. -/
def fnExactIsPerfectUptoRow : OpenClaim := { program := "ytbocaiicbephgaa", sum := "bc523fe53a20d7ad438f5c1924aaa58d4fe34df9c0ccf208d2114c453e61be4b", func := "loop.example/g00920/laws.FnExactIsPerfect", spec := "fnExactIsPerfect", unfollowed := true, recurses := true, apart := false, narrowed := true }
def FnExactIsPerfectUptoSaid : Prop := fnExactIsPerfectUptoRow.holds Try.pinned (OpenSpec.upto fnExactIsPerfectSpec)

/-- 'laws.FnExactDualCode', WHERE WHAT IT READS IS OF BULK AT MOST 1048576: true; the input reads as it did. -/
def fnExactDualCodeUptoRow : OpenClaim := { program := "ytbocaiicbephgaa", sum := "bc523fe53a20d7ad438f5c1924aaa58d4fe34df9c0ccf208d2114c453e61be4b", func := "loop.example/g00920/laws.FnExactDualCode", spec := "fnExactDualCode", unfollowed := true, recurses := true, apart := false, narrowed := true }
def FnExactDualCodeUptoSaid : Prop := fnExactDualCodeUptoRow.holds Try.pinned (OpenSpec.upto fnExactDualCodeSpec)

/-- 'laws.FnExactIsSelfOrthogonal', WHERE WHAT IT READS IS OF BULK AT MOST 1048576: true; the input reads as it did. -/
def fnExactIsSelfOrthogonalUptoRow : OpenClaim := { program := "ytbocaiicbephgaa", sum := "bc523fe53a20d7ad438f5c1924aaa58d4fe34df9c0ccf208d2114c453e61be4b", func := "loop.example/g00920/laws.FnExactIsSelfOrthogonal", spec := "fnExactIsSelfOrthogonal", unfollowed := true, recurses := true, apart := false, narrowed := true }
def FnExactIsSelfOrthogonalUptoSaid : Prop := fnExactIsSelfOrthogonalUptoRow.holds Try.pinned (OpenSpec.upto fnExactIsSelfOrthogonalSpec)

end Rows
end Go.Proofs.Ytbocaiicbephgaa
