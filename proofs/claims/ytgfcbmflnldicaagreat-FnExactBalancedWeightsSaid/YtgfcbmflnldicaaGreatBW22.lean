/-
  Texts joined.
-/
import Derived.Test.YtgfcbmflnldicaaGreatBW3
import Derived.Test.YtgfcbmflnldicaaGreatBW17
import Derived.Test.YtgfcbmflnldicaaGreatBW21
set_option linter.unusedVariables false
set_option linter.unusedSimpArgs false
set_option maxRecDepth 100000
set_option maxHeartbeats 40000000
namespace Go.Proofs.YtgfcbmflnldicaaGreat
open Go.RowKit
def supps (W : List (List Int)) (k : Int) : List (List Int) := (W.filter fun x => decide (((wt x : Nat) : Int) = k)).map fun x => suppTo x x.length
theorem supps_hit {W : List (List Int)} {k : Int} {i : Nat} (hi : i < W.length) (h : ((wt (nthL W i) : Nat) : Int) = k) : supps (W.take (i + 1)) k = supps (W.take i) k ++ [suppTo (nthL W i) (nthL W i).length] := by
 rw [List.take_add_one, List.getElem?_eq_getElem hi, supps, supps, List.filter_append, List.map_append]
 rw [nthL_lt hi] at h ⊢
 simp [h]
theorem supps_miss {W : List (List Int)} {k : Int} {i : Nat} (hi : i < W.length) (h : ¬ ((wt (nthL W i) : Nat) : Int) = k) : supps (W.take (i + 1)) k = supps (W.take i) k := by
 rw [List.take_add_one, List.getElem?_eq_getElem hi, supps, supps, List.filter_append, List.map_append]
 rw [nthL_lt hi] at h
 simp [h]
theorem supps_len (W : List (List Int)) (k : Int) : (supps W k).length ≤ W.length := by
 rw [supps, List.length_map]
 exact List.length_filter_le _ _
theorem distL_len (xs : List (List Int)) : (distL xs).length ≤ xs.length := by
 rw [distL]
 exact Nat.le_trans (cmpct_len _ _) (by rw [(sortL_perm xs).length_eq]; exact Nat.le_refl _)
structure At (L : List (List Int)) (x : List Int) (p : Nat) : Prop where
 le : p ≤ L.length
 lo : ∀ i, i < p → LtL (nthL L i) x
 hi : ∀ i, p ≤ i → i < L.length → LtL x (nthL L i)
theorem put_dist {xs : List (List Int)} {x : List Int} {p : Nat} (h : At (distL xs) x p) : (distL xs).take p ++ x :: (distL xs).drop p = distL (xs ++ [x]) := by
 have hs := List.pairwise_iff_getElem.1 (distL_strict xs)
 refine distL_eq ?_ fun y => ?_
 · rw [List.pairwise_append]
   refine ⟨(distL_strict xs).sublist (List.take_sublist _ _), ?_, ?_⟩
   · rw [List.pairwise_cons]
     refine ⟨fun y hy => ?_, (distL_strict xs).sublist (List.drop_sublist _ _)⟩
     obtain ⟨i, hi, rfl⟩ := List.getElem_of_mem hy
     rw [List.length_drop] at hi
     have := h.hi (p + i) (by omega) (by omega)
     rw [nthL_lt (by omega)] at this
     rw [List.getElem_drop]
     exact this
   · intro a ha b hb
     obtain ⟨i, hi, rfl⟩ := List.getElem_of_mem ha
     rw [List.length_take] at hi
     have h1 := h.lo i (by omega)
     rw [nthL_lt (by omega)] at h1
     rw [List.getElem_take]
     rcases List.mem_cons.1 hb with rfl | hb
     · exact h1
     · obtain ⟨j, hj, rfl⟩ := List.getElem_of_mem hb
       rw [List.length_drop] at hj
       have h2 := h.hi (p + j) (by omega) (by omega)
       rw [nthL_lt (by omega)] at h2
       rw [List.getElem_drop]
       exact h1.trans h2
 · have e : (distL xs).take p ++ (distL xs).drop p = distL xs := List.take_append_drop _ _
   rw [List.mem_append, List.mem_cons, List.mem_append, List.mem_singleton, ← distL_mem xs y]
   conv => rhs; rw [← e]
   rw [List.mem_append]
   constructor
   · rintro (h1 | h1 | h1)
     · exact .inl (.inl h1)
     · exact .inr h1
     · exact .inl (.inr h1)
   · rintro ((h1 | h1) | h1)
     · exact .inl h1
     · exact .inr (.inr h1)
     · exact .inr (.inl h1)
theorem dist_again {xs : List (List Int)} {x : List Int} (h : x ∈ distL xs) : distL xs = distL (xs ++ [x]) := by
 refine distL_eq (distL_strict xs) fun y => ?_
 rw [distL_mem, List.mem_append, List.mem_singleton]
 constructor
 · exact .inl
 · rintro (h1 | rfl)
   · exact h1
   · exact (distL_mem xs _).1 h
end Go.Proofs.YtgfcbmflnldicaaGreat
