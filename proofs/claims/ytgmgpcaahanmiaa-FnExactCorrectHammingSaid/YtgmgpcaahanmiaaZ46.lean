/-
  Walk: products of matrices, the program's.
-/
import Derived.BigQuiet
import Derived.Deep.DeepCutAuto
import Derived.Deep.DeepMust
import Derived.Deep.DrawnRows
import Derived.Deep.Draws
import Derived.Deep.OwnRows
import Derived.Deep.QuietTactic
import Derived.Deep.RegionHeld3
import Derived.IntWalk
import Derived.Laws.Rows
import Derived.Lib.Hide
import Derived.Maps.AppendAt
import Derived.StillTailTactics
import Derived.Test.YtgmgpcaahanmiaaProg
import Derived.WalkKit
import Derived.WalkLawsBesides
import Derived.WalkSpells
import Derived.Test.YtgmgpcaahanmiaaZ1
import Derived.Test.YtgmgpcaahanmiaaZ39
import Derived.Test.YtgmgpcaahanmiaaZ45
set_option linter.unusedVariables false
set_option linter.unusedSimpArgs false
namespace Go.Proofs.Ytgmgpcaahanmiaa
open Go.RowKit
attribute [local go_sem ↓] Go.wp_at_zero Go.wp_at_succ

def prodTo (F : FD) (a cs : List (List Int)) (i : Nat) : List (List Int) := (a.take i).map fun row => cs.map (dotF F row)
def lineTo (F : FD) (row : List Int) (cs : List (List Int)) (k : Nat) : List Int := (cs.take k).map (dotF F row)
theorem prodTo_len (F : FD) (a cs : List (List Int)) {i : Nat} (hi : i ≤ a.length) : (prodTo F a cs i).length = i := by rw [prodTo, List.length_map, List.length_take]; omega
theorem prodTo_succ (F : FD) (a cs : List (List Int)) {i : Nat} (hi : i < a.length) : prodTo F a cs (i + 1) = prodTo F a cs i ++ [cs.map (dotF F (nthL a i))] := by rw [prodTo, prodTo, take_nthL hi, List.map_append]; rfl
theorem lineTo_len (F : FD) (row : List Int) (cs : List (List Int)) {k : Nat} (hk : k ≤ cs.length) : (lineTo F row cs k).length = k := by rw [lineTo, List.length_map, List.length_take]; omega
theorem lineTo_succ (F : FD) (row : List Int) (cs : List (List Int)) {k : Nat} (hk : k < cs.length) : lineTo F row cs (k + 1) = lineTo F row cs k ++ [dotF F row (nthL cs k)] := by rw [lineTo, lineTo, take_nthL hk, List.map_append]; rfl
theorem cols_Mat {F : FD} (ok : F.Ok) {n : Nat} {m : List (List Int)} (h : F.Mat n m) : F.Mat m.length (cols m n) := by
  have n2 := ok.n_bd
  intro xs hx
  rw [cols, List.mem_map] at hx
  obtain ⟨j, hj, rfl⟩ := hx
  refine ⟨by rw [List.length_map], fun x hx => ?_⟩
  rw [List.mem_map] at hx
  obtain ⟨row, hr, rfl⟩ := hx
  have := h row hr
  rw [List.mem_range] at hj
  exact this.2 _ (nth_mem (by rw [this.1]; exact hj))
theorem cols_cols {F : FD} {n : Nat} {m : List (List Int)} (h : F.Mat n m) : cols (cols m n) m.length = m := by
  refine eq_of_nthL (cols_len _ _) fun i hi => ?_
  rw [cols_len] at hi
  rw [cols_nth _ hi]
  have hl := (Mat_nth h hi).1
  refine eq_of_nth (by rw [List.length_map, cols_len, hl]) fun k hk => ?_
  rw [List.length_map, cols_len] at hk
  rw [nth_lt (by rw [List.length_map, cols_len]; exact hk), List.getElem_map, ← nthL_lt (by rw [cols_len]; exact hk), cols_nth m hk, nth_lt (by rw [List.length_map]; exact hi), List.getElem_map, ← nthL_lt hi]

end Go.Proofs.Ytgmgpcaahanmiaa

