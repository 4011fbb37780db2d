/-
  Texts joined.
-/
import Derived.Test.YtgfcbmflnldicaaGreatBW7
import Derived.Test.YtgfcbmflnldicaaGreatBW8
import Derived.Test.YtgfcbmflnldicaaGreatBW14
set_option linter.unusedVariables false
set_option linter.unusedSimpArgs false
set_option maxRecDepth 100000
set_option maxHeartbeats 40000000
namespace Go.Proofs.YtgfcbmflnldicaaGreat
open Go.RowKit
attribute [local go_sem ↓] Go.wp_at_zero Go.wp_at_succ
theorem OwnC.nil (w : World) (B : Nat) : OwnC w B (.slice none 0 0) (.slice none 0 0) [] [] := ⟨B, Nat.le_refl _, Own.nil _ _, fun k hk => by simp [Value.ownBlock] at hk, OwnS.nil _ _⟩
end Go.Proofs.YtgfcbmflnldicaaGreat
