/-
  Texts joined.
-/
import Derived.Test.YtgmgpcaahanmiaaY11
import Derived.Test.YtgmgpcaahanmiaaY12
set_option linter.unusedVariables false
set_option linter.unusedSimpArgs false
set_option maxRecDepth 100000
set_option maxHeartbeats 40000000
namespace Go.Proofs.Ytgmgpcaahanmiaa
open Go.RowKit
attribute [local go_sem ↓] Go.wp_at_zero Go.wp_at_succ
def fdR (p d : Int) (xs : List Int) : FD := ⟨p, d.toNat, xs⟩
theorem fdR_eq (F : FD) : fdR F.p F.k F.poly = F := by cases F; simp [fdR]
def mkRes (p d : Int) (xs : List Int) (m : List (List Int)) : Int × Int × List Int × List (List Int) × Int :=
 if okM p d xs m = true then mkC (fdR p d xs) (form (fdR p d xs) m (nthL m 0).length) else (0, 0, [], [], 1)
end Go.Proofs.Ytgmgpcaahanmiaa
