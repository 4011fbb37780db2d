/-
  Texts joined.
-/
import Derived.Laws.Rows
import Derived.Test.YtohghnoihbjmcaaHE1
import Derived.Test.YtohghnoihbjmcaaHE11
set_option linter.unusedVariables false
set_option linter.unusedSimpArgs false
set_option maxRecDepth 100000
set_option maxHeartbeats 40000000
namespace Go.Proofs.Ytohghnoihbjmcaa
open Go.RowKit
structure FD.Good (F : FD) : Prop where
 ok : F.Ok
 spl : split (F.p ^ F.k) = (F.p, (F.k : Int))
end Go.Proofs.Ytohghnoihbjmcaa
namespace Go.Proofs.Ytohghnoihbjmcaa
open Go.RowKit
attribute [local go_sem ↓] Go.wp_at_zero Go.wp_at_succ
section
variable {w w' : World} {B g n c : Nat} {v v' : Value} {yss : List (List Int)} {ys : List Int}
end
theorem Own.slice_val {w : World} {B : Nat} {v : Value} {xs : List Int} (h : Own w B v xs) : ∃ a c, v = .slice a xs.length c := by
 obtain ⟨a, c, e, _⟩ := h.form
 exact ⟨a, c, e⟩
def cols (m : List (List Int)) (n : Nat) : List (List Int) := (List.range n).map fun j => m.map fun row => nth row j
end Go.Proofs.Ytohghnoihbjmcaa
