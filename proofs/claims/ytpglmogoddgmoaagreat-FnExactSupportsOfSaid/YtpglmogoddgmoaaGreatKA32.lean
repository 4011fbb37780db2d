/-
  Texts joined.
-/
import Derived.Test.YtpglmogoddgmoaaGreatKA19
import Derived.Test.YtpglmogoddgmoaaGreatKA31
set_option linter.unusedVariables false
set_option linter.unusedSimpArgs false
set_option maxRecDepth 100000
set_option maxHeartbeats 40000000
namespace Go.Proofs.YtpglmogoddgmoaaGreat
open Go.RowKit
attribute [local go_sem ↓] Go.wp_at_zero Go.wp_at_succ
def ResLLi (w : World) (r : List (List Int) × Int) (e : Ending) (w' : World) : Prop := ∃ v, e = .returned (.tuple #[v, .int .i64 r.2]) ∧ OwnS w' w.heap.size v r.1 ∧ Below w.heap.size w w'
end Go.Proofs.YtpglmogoddgmoaaGreat
