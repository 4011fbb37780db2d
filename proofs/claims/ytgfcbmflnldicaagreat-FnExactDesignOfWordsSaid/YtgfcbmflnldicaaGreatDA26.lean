/-
  Texts joined.
-/
import Derived.Test.YtgfcbmflnldicaaGreatDA5
import Derived.Test.YtgfcbmflnldicaaGreatDA6
import Derived.Test.YtgfcbmflnldicaaGreatDA18
import Derived.Test.YtgfcbmflnldicaaGreatDA25
set_option linter.unusedVariables false
set_option linter.unusedSimpArgs false
set_option maxRecDepth 100000
set_option maxHeartbeats 40000000
namespace Go.Proofs.YtgfcbmflnldicaaGreat
open Go.RowKit
attribute [local go_sem ↓] Go.wp_at_zero Go.wp_at_succ
def InE (n : Nat) (es : List (Int × Int)) : Prop := ∀ e ∈ es, 0 ≤ e.1 ∧ e.1 < n ∧ 0 ≤ e.2 ∧ e.2 < n
theorem InE.at_ {n : Nat} {es : List (Int × Int)} (h : InE n es) {k : Nat} (hk : k < es.length) : ∃ x y : Nat, nthE es k = ((x : Int), (y : Int)) ∧ x < n ∧ y < n := by
 obtain ⟨h1, h2, h3, h4⟩ := h _ (nthE_mem hk)
 refine ⟨(nthE es k).1.toNat, (nthE es k).2.toNat, ?_, by omega, by omega⟩
 rw [Int.toNat_of_nonneg h1, Int.toNat_of_nonneg h3]
theorem TabB.put2 {w : World} {B g c n : Nat} {T : Nat → Nat → Bool} {x y : Nat} (h : TabB w B (.slice (some ⟨g, 0, none⟩) n c) n n T) (hx : x < n) (hy : y < n) :
    ∃ q r, w.cell? ⟨g, x, none⟩ = some (.slice (some ⟨q, 0, none⟩) n n) ∧ w.cell? ⟨q, y, none⟩ = some (.bool (T x y)) ∧ w.frozen? ⟨q, y, none⟩ = false ∧ g ≠ q ∧ B ≤ q ∧ q < w.heap.size ∧
     w.cell? ⟨g, y, none⟩ = some (.slice (some ⟨r, 0, none⟩) n n) ∧ (∃ u, (w.setCell ⟨q, y, none⟩ (.bool true)).cell? ⟨r, x, none⟩ = some u) ∧ (w.setCell ⟨q, y, none⟩ (.bool true)).frozen? ⟨r, x, none⟩ = false ∧ g ≠ r ∧ B ≤ r ∧ r < w.heap.size ∧
     TabB ((w.setCell ⟨q, y, none⟩ (.bool true)).setCell ⟨r, x, none⟩ (.bool true)) B (.slice (some ⟨g, 0, none⟩) n c) n n (putT T x y) := by
 obtain ⟨q, c1, c2, f1, hB, hq, hgq, hput⟩ := h.at_ hx hy
 have h1 := hput true
 obtain ⟨r, d1, d2, f2, hBr, hr, hgr, hput2⟩ := h1.at_ hy hx
 have h2 := hput2 true
 have d1' : w.cell? ⟨g, y, none⟩ = some (.slice (some ⟨r, 0, none⟩) n n) := by
  rw [← d1]; exact (cell_block (Below.heap_setCell w ⟨q, y, none⟩ _ g hgq) _).symm
 refine ⟨q, r, c1, c2, f1, hgq, hB, hq, d1', ⟨_, d2⟩, f2, hgr, hBr, by simpa using hr, h2.congr fun i j hi hj => ?_⟩
 rw [putT]
 by_cases e1 : i = y ∧ j = x
 · rw [if_pos e1]; simp [e1.1, e1.2]
 · rw [if_neg e1]
   by_cases e2 : i = x ∧ j = y
   · rw [if_pos e2]; simp [e2.1, e2.2]
   · rw [if_neg e2]
     have a1 : (i == x && j == y) = false := by
      rw [Bool.and_eq_false_iff, beq_eq_false_iff_ne, beq_eq_false_iff_ne]; omega
     have a2 : (i == y && j == x) = false := by
      rw [Bool.and_eq_false_iff, beq_eq_false_iff_ne, beq_eq_false_iff_ne]; omega
     rw [a1, a2]; simp
end Go.Proofs.YtgfcbmflnldicaaGreat
