/-
  Texts joined.
-/
import Derived.Test.YtkiljcbejmiioaaGreatLK12
import Derived.Test.YtkiljcbejmiioaaGreatLK13
set_option linter.unusedVariables false
set_option linter.unusedSimpArgs false
set_option maxRecDepth 100000
set_option maxHeartbeats 40000000
namespace Go.Proofs.YtkiljcbejmiioaaGreat
open Go.RowKit
attribute [local go_sem ↓] Go.wp_at_zero Go.wp_at_succ
def fdR (p d : Int) (xs : List Int) : FD := ⟨p, d.toNat, xs⟩
theorem fdR_eq (F : FD) : fdR F.p F.k F.poly = F := by cases F; simp [fdR]
end Go.Proofs.YtkiljcbejmiioaaGreat
