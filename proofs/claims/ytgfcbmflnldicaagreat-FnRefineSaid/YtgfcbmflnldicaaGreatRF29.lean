/-
  Texts joined.
-/
import Derived.Test.YtgfcbmflnldicaaGreatRF11
import Derived.Test.YtgfcbmflnldicaaGreatRF14
import Derived.Test.YtgfcbmflnldicaaGreatRF17
set_option linter.unusedVariables false
set_option linter.unusedSimpArgs false
set_option maxRecDepth 100000
set_option maxHeartbeats 40000000
namespace Go.Proofs.YtgfcbmflnldicaaGreat
open Go.RowKit
attribute [local go_sem ↓] Go.wp_at_zero Go.wp_at_succ
def RetG (w : World) (r : List Int × List (Int × Int) × Int) (e : Ending) (w' : World) : Prop := ∃ v u, e = .returned (.tuple #[.agg #[v, u], .int .i64 r.2.2]) ∧ OwnG2 w' w.heap.size v u r.1 r.2.1 ∧ Below w.heap.size w w'
theorem OwnG2.nil (w : World) (B : Nat) : OwnG2 w B (.slice none 0 0) (.slice none 0 0) [] [] := ⟨Own.nil _ _, OwnE.nil _ _⟩
theorem OwnG2.storeBelow {w : World} {B : Nat} {v u : Value} {xs : List Int} {es : List (Int × Int)} (h : OwnG2 w B v u xs es) {p : Addr} (hp : p.block < B) (x : Value) : OwnG2 (w.setCell p x) B v u xs es := ⟨h.1.storeBelow hp x, h.2.storeBelow hp x⟩
theorem OwnG2.mono {w : World} {B B' : Nat} {v u : Value} {xs : List Int} {es : List (Int × Int)} (h : OwnG2 w B v u xs es) (hB : B' ≤ B) : OwnG2 w B' v u xs es := ⟨h.1.mono hB, h.2.mono hB⟩
end Go.Proofs.YtgfcbmflnldicaaGreat
