/-
  Texts joined.
-/
import Derived.Test.YtgfcbmflnldicaaGreatRF13
import Derived.Test.YtgfcbmflnldicaaGreatRF32
import Derived.Test.YtgfcbmflnldicaaGreatRF34
import Derived.Test.YtgfcbmflnldicaaGreatRF35
set_option linter.unusedVariables false
set_option linter.unusedSimpArgs false
set_option maxRecDepth 100000
set_option maxHeartbeats 40000000
namespace Go.Proofs.YtgfcbmflnldicaaGreat
open Go.RowKit
attribute [local go_sem ↓] Go.wp_at_zero Go.wp_at_succ
theorem Own.mk {w w' : World} {B g : Nat} {v : Value} {xs : List Int} (h : Own w B v xs) (m : Mk w w' g (g + 1)) (hB : g < B) : Own w' B v xs := (h.toH.kp (m.kp (.inr (by omega)) (Nat.le_refl _))).1
theorem OwnS.mk {w w' : World} {B g : Nat} {v : Value} {xss : List (List Int)} (h : OwnS w B v xss) (m : Mk w w' g (g + 1)) (hB : g < B) : OwnS w' B v xss := (h.toH.kp (m.kp (.inr (by omega)) (Nat.le_refl _))).own
theorem Mk.own {w a b : World} {lo hi k : Nat} (h : Mk w a lo hi) (hg : a.grownBy b (some k)) (hk : w.heap.size ≤ k) (hlo : lo ≤ w.heap.size) : Mk w b lo hi :=
 ⟨h.1.grown hg (by have := h.size; omega) (fun q hq => by injection hq; omega), fun c hc hcw => (hg.block c (by have := h.size; omega) (fun e => by injection e; omega)).trans (h.2 c hc hcw)⟩
theorem Mk.new {w a b : World} {lo hi : Nat} (h : Mk w a lo hi) (hb : Below w.heap.size a b) (hlo : lo ≤ w.heap.size) : Mk w b lo hi := ⟨h.1.trans (hb.mono hlo), fun c hc hcw => (hb.block c hcw).trans (h.2 c hc hcw)⟩
theorem Src.keep {w w' : World} {g T B : Nat} (h : Src w g T) (hb : Below B w w') (hB : g < B) : Src w' g T := h.kp ⟨hb.size, fun c _ hc => hb.block c (by omega)⟩
end Go.Proofs.YtgfcbmflnldicaaGreat
