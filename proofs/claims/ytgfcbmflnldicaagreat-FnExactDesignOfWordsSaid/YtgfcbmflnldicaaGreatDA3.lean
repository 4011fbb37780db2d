/-
  Texts joined.
-/
import Derived.Deep.DeepCutAuto
import Derived.Deep.DrawnRows
import Derived.Deep.RegionHeld3
import Derived.Test.YtgfcbmflnldicaaGreatDA1
import Derived.Test.YtgfcbmflnldicaaGreatDA2
set_option linter.unusedVariables false
set_option linter.unusedSimpArgs false
set_option maxRecDepth 100000
set_option maxHeartbeats 40000000
namespace Go.Proofs.YtgfcbmflnldicaaGreat
open Go.RowKit
attribute [local go_sem ↓] Go.wp_at_zero Go.wp_at_succ
theorem OwnE.storeBelow {w : World} {B : Nat} {v : Value} {es : List (Int × Int)} (h : OwnE w B v es) {p : Addr} (hp : p.block < B) (u : Value) : OwnE (w.setCell p u) B v es := ⟨h.1, ownsRow_setCell_below h.2 hp u⟩
def OwnG (w : World) (B : Nat) (v u : Value) (xs : List Int) (es : List (Int × Int)) : Prop := ∃ M, B ≤ M ∧ Own w B v xs ∧ In v B M ∧ OwnE w M u es
theorem OwnG.form {w : World} {B : Nat} {v u : Value} {xs : List Int} {es : List (Int × Int)} (h : OwnG w B v u xs es) :
    ∃ a c ra rc, v = .slice a xs.length c ∧ u = .slice ra es.length rc ∧ Rd w a xs ∧ RdE w ra es := by
 obtain ⟨M, _, h2, _, h4⟩ := h
 obtain ⟨a, c, e, r, _⟩ := h2.form
 obtain ⟨ra, rc, e', r', _⟩ := h4.form
 exact ⟨a, c, ra, rc, e, e', r, r'⟩
theorem OwnG.below {w w' : World} {B B1 : Nat} {v u : Value} {xs : List Int} {es : List (Int × Int)} (h : OwnG w B v u xs es) (hb : Below B1 w w') (hlt : w.heap.size ≤ B1) : OwnG w' B v u xs es := by
 obtain ⟨M, h1, h2, h3, h4⟩ := h
 exact ⟨M, h1, h2.below hb hlt, h3, h4.below hb hlt⟩
theorem OwnG.storeBelow {w : World} {B : Nat} {v u : Value} {xs : List Int} {es : List (Int × Int)} (h : OwnG w B v u xs es) {p : Addr} (hp : p.block < B) (x : Value) : OwnG (w.setCell p x) B v u xs es := by
 obtain ⟨M, h1, h2, h3, h4⟩ := h
 exact ⟨M, h1, h2.storeBelow hp x, h3, h4.storeBelow (by omega) x⟩
theorem OwnG.mono {w : World} {B B' : Nat} {v u : Value} {xs : List Int} {es : List (Int × Int)} (h : OwnG w B v u xs es) (hB : B' ≤ B) : OwnG w B' v u xs es := by
 obtain ⟨M, h1, h2, h3, h4⟩ := h
 exact ⟨M, by omega, h2.mono hB, fun k hk => by have := h3 k hk; omega, h4⟩
end Go.Proofs.YtgfcbmflnldicaaGreat
