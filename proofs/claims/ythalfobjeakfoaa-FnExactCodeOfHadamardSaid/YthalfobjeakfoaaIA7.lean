/-
  Texts joined.
-/
import Derived.ChangeOld
import Derived.Deep.Slices
import Derived.OpenShut
import Derived.ProofKit
import Derived.ShutString
import Derived.Test.YthalfobjeakfoaaRows
import Derived.Test.YthalfobjeakfoaaIA1
set_option linter.unusedVariables false
set_option linter.unusedSimpArgs false
set_option maxRecDepth 100000
set_option maxHeartbeats 40000000
namespace Go.Proofs.Ythalfobjeakfoaa
open Go.RowKit Go.ChangeShapes Go.WideShapes Go.ChangeAt
theorem ownKnob_none : ownKnob Try.prog.godebug = none := by kernel_rfl
theorem laidOut_ok : laidOutB Try.prog = true := by kernel_rfl
theorem Try.cells_i64 : Try.prog.cellsOf 2 = 1 := by kernel_rfl
def I64 (x : Int) : Prop := -9223372036854775808 ≤ x ∧ x ≤ 9223372036854775807
theorem I64_of_wf {x : Int} (h : (Lit.int .i64 x).wf = true) : I64 x := by
 have h1 : IntKind.i64.min = -9223372036854775808 := rfl
 have h2 : IntKind.i64.max = 9223372036854775807 := rfl
 simp only [Lit.wf, Bool.and_eq_true, decide_eq_true_eq] at h
 unfold I64
 omega
section
variable {H : Type} {enc : TypeId × Value → H} {W : World} {base : Nat} {spare : Nat → Bool} {hd : Bool}
structure SL where
 a : Option Addr
 c : Nat
 xs : List Int
def SL.val (X : SL) : Value := .slice X.a X.xs.length X.c
def SL.ok (X : SL) (W : World) : Prop := X.xs.length ≤ maxLen ∧ (X.xs.length ≤ 1048576 → Rd W X.a X.xs) ∧ ∀ x ∈ X.xs, I64 x
end
end Go.Proofs.Ythalfobjeakfoaa
