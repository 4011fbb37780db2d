/-
  Texts joined.
-/
import Derived.Test.YtpglmogoddgmoaaJC1
import Derived.Test.YtpglmogoddgmoaaJC11
import Derived.Test.YtpglmogoddgmoaaJC14
set_option linter.unusedVariables false
set_option linter.unusedSimpArgs false
set_option maxRecDepth 100000
set_option maxHeartbeats 40000000
namespace Go.Proofs.Ytpglmogoddgmoaa
open Go.RowKit
theorem kp_set4 {w : World} {g lo hi : Nat} (h : g < lo ∨ hi ≤ g) (a b c d : Value) : Kp w ((((w.setCell ⟨g, 0, none⟩ a).setCell ⟨g, 1, none⟩ b).setCell ⟨g, 2, none⟩ c).setCell ⟨g, 3, none⟩ d) lo hi := by
 have one : ∀ (W : World) (i : Nat) (v : Value), Kp W (W.setCell ⟨g, i, none⟩ v) lo hi := fun W i v => ⟨by simp, fun k h1 h2 => Below.heap_setCell W ⟨g, i, none⟩ v k (by show k ≠ g; omega)⟩
 exact (((one _ _ _).trans (one _ _ _)).trans (one _ _ _)).trans (one _ _ _)
end Go.Proofs.Ytpglmogoddgmoaa
