/-
  Walks: products of rows; IsSelfOrthogonal on both sides. Printed by gen_cwo.py.
-/
import Derived.BigQuiet
import Derived.BigRegion
import Derived.ChangeOld
import Derived.Deep.DeepCutAuto
import Derived.Deep.DeepMust
import Derived.Deep.DrawnRows
import Derived.Deep.Draws
import Derived.Deep.OwnRows
import Derived.Deep.QuietTactic
import Derived.Deep.RegionHeld3
import Derived.Deep.Slices
import Derived.IntWalk
import Derived.Laws.Rows
import Derived.Lib.Hide
import Derived.Maps.AppendAt
import Derived.OpenShut
import Derived.OwnWalk
import Derived.ProofKit
import Derived.ShutString
import Derived.StillTailTactics
import Derived.Test.YtgmgpcaahanmiaaProg
import Derived.Test.YtgmgpcaahanmiaaRows
import Derived.WalkKit
import Derived.WalkLawsBesides
import Derived.WalkSpells
import Derived.Test.YtgmgpcaahanmiaaZ20
import Derived.Test.YtgmgpcaahanmiaaZ24
import Derived.Test.YtgmgpcaahanmiaaZ30
import Derived.Test.YtgmgpcaahanmiaaZ35
import Derived.Test.YtgmgpcaahanmiaaZ37
import Derived.Test.YtgmgpcaahanmiaaZ39
import Derived.Test.YtgmgpcaahanmiaaZ46
set_option linter.unusedVariables false
set_option linter.unusedSimpArgs false
namespace Go.Proofs.Ytgmgpcaahanmiaa
open Go.RowKit
attribute [local go_sem ↓] Go.wp_at_zero Go.wp_at_succ
/-- The products of all rows with all rows. -/
def gram (F : FD) (m : List (List Int)) : List (List Int) := m.map fun r => m.map fun s => dotF F r s
def soV (F : FD) (m : List (List Int)) : Bool := (List.range m.length).all fun i => (List.range (i + 1)).all fun k => dotF F (nthL m i) (nthL m k) == 0
def soRes (p d : Int) (xs : List Int) (m : List (List Int)) : Bool := okC p d xs m && soV (fdR p d xs) m
theorem dotF_comm {F : FD} (ok : F.Ok) {xs ys : List Int} (h : xs.length = ys.length) : dotF F xs ys = dotF F ys xs := by
  rw [dotF, dotF, h]
  exact sum_congr fun j _ => mul_comm' ok _ _
theorem gram_so {F : FD} (ok : F.Ok) {n : Nat} {m : List (List Int)} (hM : F.Mat n m) : (!(gram F m).any fun r => !isZ r) = soV F m := by
  rw [Bool.eq_iff_iff, Bool.not_eq_true', List.any_eq_false, soV, List.all_eq_true]
  have key : ∀ i k, i < m.length → k < m.length → dotF F (nthL m i) (nthL m k) = dotF F (nthL m k) (nthL m i) := fun i k hi hk => dotF_comm ok (by rw [(Mat_nth hM hi).1, (Mat_nth hM hk).1])
  constructor
  · intro h i hi
    rw [List.mem_range] at hi
    rw [List.all_eq_true]
    intro k hk
    rw [List.mem_range] at hk
    have h1 := h (m.map fun s => dotF F (nthL m i) s) (List.mem_map.2 ⟨nthL m i, nthL_mem hi, rfl⟩)
    simp only [Bool.not_eq_true', Bool.not_eq_false, isZ] at h1
    have h2 : (m.map fun s => dotF F (nthL m i) s).any notZero = false := by simpa using h1
    rw [List.any_eq_false] at h2
    have h3 := h2 (dotF F (nthL m i) (nthL m k)) (List.mem_map.2 ⟨nthL m k, nthL_mem (by omega), rfl⟩)
    simpa [notZero] using h3
  · intro h r hr
    rw [gram, List.mem_map] at hr
    obtain ⟨x, hx, rfl⟩ := hr
    obtain ⟨i, hi, rfl⟩ := List.getElem_of_mem hx
    rw [← nthL_lt hi]
    have hz : (m.map fun s => dotF F (nthL m i) s).any notZero = false := by
      rw [List.any_eq_false]
      intro y hy
      rw [List.mem_map] at hy
      obtain ⟨z, hz, rfl⟩ := hy
      obtain ⟨k, hk, rfl⟩ := List.getElem_of_mem hz
      rw [← nthL_lt hk]
      have hik : dotF F (nthL m i) (nthL m k) = 0 := by
        by_cases hle : k ≤ i
        · have := h i (List.mem_range.2 hi)
          rw [List.all_eq_true] at this
          simpa using this k (List.mem_range.2 (by omega))
        · have := h k (List.mem_range.2 hk)
          rw [List.all_eq_true] at this
          rw [key i k hi hk]
          simpa using this i (List.mem_range.2 (by omega))
      simp [notZero, hik]
    simp [isZ, hz]
end Go.Proofs.Ytgmgpcaahanmiaa

