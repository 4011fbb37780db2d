/-
  Texts joined.
-/
import Derived.Test.YtkiljcbejmiioaaGreatLK5
import Derived.Test.YtkiljcbejmiioaaGreatLK16
import Derived.Test.YtkiljcbejmiioaaGreatLK19
set_option linter.unusedVariables false
set_option linter.unusedSimpArgs false
set_option maxRecDepth 100000
set_option maxHeartbeats 40000000
namespace Go.Proofs.YtkiljcbejmiioaaGreat
open Go.RowKit
def supps (W : List (List Int)) (k : Int) : List (List Int) := (W.filter fun x => decide (((wt x : Nat) : Int) = k)).map fun x => suppTo x x.length
theorem supps_hit {W : List (List Int)} {k : Int} {i : Nat} (hi : i < W.length) (h : ((wt (nthL W i) : Nat) : Int) = k) : supps (W.take (i + 1)) k = supps (W.take i) k ++ [suppTo (nthL W i) (nthL W i).length] := by
 rw [List.take_add_one, List.getElem?_eq_getElem hi, supps, supps, List.filter_append, List.map_append]
 rw [nthL_lt hi] at h ⊢
 simp [h]
theorem supps_miss {W : List (List Int)} {k : Int} {i : Nat} (hi : i < W.length) (h : ¬ ((wt (nthL W i) : Nat) : Int) = k) : supps (W.take (i + 1)) k = supps (W.take i) k := by
 rw [List.take_add_one, List.getElem?_eq_getElem hi, supps, supps, List.filter_append, List.map_append]
 rw [nthL_lt hi] at h
 simp [h]
theorem supps_len (W : List (List Int)) (k : Int) : (supps W k).length ≤ W.length := by
 rw [supps, List.length_map]
 exact List.length_filter_le _ _
structure At (L : List (List Int)) (x : List Int) (p : Nat) : Prop where
 le : p ≤ L.length
 lo : ∀ i, i < p → LtL (nthL L i) x
 hi : ∀ i, p ≤ i → i < L.length → LtL x (nthL L i)
end Go.Proofs.YtkiljcbejmiioaaGreat
