/-
  Walks: ReedSolomon, on both sides. Printed by gen_rs2.py.
-/
import Derived.BigQuiet
import Derived.BigRegion
import Derived.ChangeOld
import Derived.Deep.DeepCutAuto
import Derived.Deep.DeepMust
import Derived.Deep.DrawnRows
import Derived.Deep.Draws
import Derived.Deep.OwnRows
import Derived.Deep.QuietTactic
import Derived.Deep.RegionHeld3
import Derived.Deep.Slices
import Derived.IntWalk
import Derived.Laws.Rows
import Derived.Lib.Hide
import Derived.Maps.AppendAt
import Derived.OpenShut
import Derived.OwnWalk
import Derived.ProofKit
import Derived.ShutString
import Derived.StillTailTactics
import Derived.Test.YtcblhjhabhjbkaaProg
import Derived.Test.YtcblhjhabhjbkaaRows
import Derived.WalkKit
import Derived.WalkLawsBesides
import Derived.WalkSpells
import Derived.Test.YtcblhjhabhjbkaaZ10
import Derived.Test.YtcblhjhabhjbkaaZ14
set_option linter.unusedVariables false
set_option linter.unusedSimpArgs false
namespace Go.Proofs.Ytcblhjhabhjbkaa
open Go.RowKit
attribute [local go_sem ↓] Go.wp_at_zero Go.wp_at_succ

def unit (k i : Nat) : List Int := (zeros k).set i 1
theorem unit_len (k i : Nat) : (unit k i).length = k := by rw [unit, List.length_set, zeros_len]
theorem unit_el (k i : Nat) : ∀ c ∈ unit k i, 0 ≤ c ∧ c ≤ 1000000 := by
  intro c hc
  rcases List.mem_or_eq_of_mem_set hc with h | h
  · rw [zeros, List.mem_replicate] at h; omega
  · omega
def rsRows (F : FD) (k n m : Nat) : List (List Int) := (List.range m).map fun i => vals F (unit k i) n
theorem rsRows_len (F : FD) (k n m : Nat) : (rsRows F k n m).length = m := by simp [rsRows]
theorem rsRows_succ (F : FD) (k n m : Nat) : rsRows F k n (m + 1) = rsRows F k n m ++ [vals F (unit k m) n] := by simp [rsRows, List.range_succ]
theorem vals_el {F : FD} (ok : F.Ok) (msg : List Int) (n : Nat) : ∀ x ∈ vals F msg n, 0 ≤ x ∧ x < F.n := by
  intro x hx
  obtain ⟨i, _, rfl⟩ := List.mem_map.1 hx
  cases msg with
  | nil => exact ⟨Int.le_refl _, by have := ok.n_bd; show (0 : Int) < _; omega⟩
  | cons c cs =>
    have h := lin_range (show 0 < F.p by have := ok.p2; omega) 1 F.k (mulF F.p F.k F.poly (valF F i cs) i) c
    rw [ok.n_eq] at h
    exact h
theorem rsRows_Mat {F : FD} (ok : F.Ok) (k n m : Nat) : F.Mat n (rsRows F k n m) := by
  intro xs hx
  obtain ⟨i, _, rfl⟩ := List.mem_map.1 hx
  exact ⟨vals_len _ _ _, vals_el ok _ _⟩
theorem fdOf_good {q : Int} (h : isField q = true) : (fdOf q).Good := by
  obtain ⟨ok, hq, hs⟩ := fdOf_ok h
  exact ⟨ok, by rw [hq]; exact hs⟩
def rsRes (q k n : Int) : Int × Int × List Int × List (List Int) × Int :=
  if rsCode q k n = 0 then mkC (fdOf q) (form (fdOf q) (rsRows (fdOf q) k.toNat n.toNat k.toNat) n.toNat) else (0, 0, [], [], rsCode q k n)
theorem rsCode_zero {q k n : Int} (h : rsCode q k n = 0) : isField q = true ∧ 2 ≤ q ∧ q ≤ 64 ∧ 1 ≤ n ∧ n ≤ 32 ∧ 1 ≤ k ∧ k ≤ 8 ∧ k ≤ n ∧ capTo q 4096 k.toNat ≤ 4096 := by
  unfold rsCode at h
  by_cases hl : lenOk q n = true
  · obtain ⟨hf, h2, h64, hn1, hn2⟩ := lenOk_true hl
    rw [if_pos hl] at h
    by_cases hk : inB k 1 n = true
    · obtain ⟨hk1, hk2⟩ := inB_true.1 hk
      rw [if_pos hk] at h
      by_cases h8 : 8 < k
      · rw [if_pos h8] at h; omega
      · rw [if_neg h8] at h
        by_cases hc : 4096 < capTo q 4096 k.toNat
        · rw [if_pos hc] at h; omega
        · exact ⟨hf, h2, h64, hn1, hn2, hk1, by omega, hk2, by omega⟩
    · rw [if_neg hk] at h; omega
  · rw [if_neg hl] at h; omega
end Go.Proofs.Ytcblhjhabhjbkaa

