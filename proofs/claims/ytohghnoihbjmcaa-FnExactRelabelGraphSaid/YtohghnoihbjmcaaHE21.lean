/-
  Texts joined.
-/
import Derived.Test.YtohghnoihbjmcaaHE7
import Derived.Test.YtohghnoihbjmcaaHE17
import Derived.Test.YtohghnoihbjmcaaHE19
import Derived.Test.YtohghnoihbjmcaaHE20
set_option linter.unusedVariables false
set_option linter.unusedSimpArgs false
set_option maxRecDepth 100000
set_option maxHeartbeats 40000000
namespace Go.Proofs.Ytohghnoihbjmcaa
open Go.RowKit
attribute [local go_sem ↓] Go.wp_at_zero Go.wp_at_succ
theorem GG.inE {n : Nat} {xs : List Int} {es : List (Int × Int)} (h : GG n xs es) : InE n es := fun e he => by
 have h1 := h.lo e he
 have h2 := h.lt e he
 have h3 := h.hi e he
 omega
end Go.Proofs.Ytohghnoihbjmcaa
namespace Go.Proofs.Ytohghnoihbjmcaa
open Go.RowKit
attribute [local go_sem ↓] Go.wp_at_zero Go.wp_at_succ
def RetG (w : World) (r : List Int × List (Int × Int) × Int) (e : Ending) (w' : World) : Prop := ∃ v u, e = .returned (.tuple #[.agg #[v, u], .int .i64 r.2.2]) ∧ OwnG2 w' w.heap.size v u r.1 r.2.1 ∧ Below w.heap.size w w'
theorem OwnG2.nil (w : World) (B : Nat) : OwnG2 w B (.slice none 0 0) (.slice none 0 0) [] [] := ⟨Own.nil _ _, OwnE.nil _ _⟩
theorem OwnG2.storeBelow {w : World} {B : Nat} {v u : Value} {xs : List Int} {es : List (Int × Int)} (h : OwnG2 w B v u xs es) {p : Addr} (hp : p.block < B) (x : Value) : OwnG2 (w.setCell p x) B v u xs es := ⟨h.1.storeBelow hp x, h.2.storeBelow hp x⟩
theorem OwnG2.mono {w : World} {B B' : Nat} {v u : Value} {xs : List Int} {es : List (Int × Int)} (h : OwnG2 w B v u xs es) (hB : B' ≤ B) : OwnG2 w B' v u xs es := ⟨h.1.mono hB, h.2.mono hB⟩
end Go.Proofs.Ytohghnoihbjmcaa
