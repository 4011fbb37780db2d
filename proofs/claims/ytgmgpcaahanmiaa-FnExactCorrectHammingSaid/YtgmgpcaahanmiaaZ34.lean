/-
  Plain mathematics: the vectors orthogonal to rows, as both sides lay them.
-/
import Derived.BigQuiet
import Derived.Deep.DeepCutAuto
import Derived.Deep.DeepMust
import Derived.Deep.DrawnRows
import Derived.Deep.Draws
import Derived.Deep.OwnRows
import Derived.Deep.QuietTactic
import Derived.Deep.RegionHeld3
import Derived.IntWalk
import Derived.Laws.Rows
import Derived.Lib.Hide
import Derived.Maps.AppendAt
import Derived.StillTailTactics
import Derived.Test.YtgmgpcaahanmiaaProg
import Derived.WalkKit
import Derived.WalkLawsBesides
import Derived.WalkSpells
import Derived.Test.YtgmgpcaahanmiaaZ28
set_option linter.unusedVariables false
set_option linter.unusedSimpArgs false
namespace Go.Proofs.Ytgmgpcaahanmiaa
open Go.RowKit

/-- The vector of a column without pivot, i pivots laid. -/
def nulIn (F : FD) (rows : List (List Int)) (piv : List Int) (n c : Nat) : Nat → List Int
  | 0 => (zeros n).set c 1
  | i + 1 => (nulIn F rows piv n c i).set (nth piv i).toNat (F.sub 0 (nth (nthL rows i) c))
def nulV (F : FD) (rows : List (List Int)) (piv : List Int) (n c : Nat) : List Int := nulIn F rows piv n c piv.length
/-- The vectors of the first columns without pivot. -/
def nulTo (F : FD) (rows : List (List Int)) (piv : List Int) (n : Nat) : Nat → List (List Int)
  | 0 => []
  | c + 1 => if piv.contains (c : Int) = true then nulTo F rows piv n c else nulTo F rows piv n c ++ [nulV F rows piv n c]
def nulB (F : FD) (m : List (List Int)) (n : Nat) : List (List Int) := nulTo F (form F m n) (red F m n).2 n n
def nul (F : FD) (m : List (List Int)) (n : Nat) : List (List Int) := form F (nulB F m n) n

theorem nulIn_len (F : FD) (rows : List (List Int)) (piv : List Int) (n c i : Nat) : (nulIn F rows piv n c i).length = n := by
  induction i with
  | zero => rw [nulIn, List.length_set, zeros_len]
  | succ i ih => rw [nulIn, List.length_set, ih]
theorem set_bd {q : Int} {xs : List Int} (h : ∀ x ∈ xs, 0 ≤ x ∧ x < q) {y : Int} (hy : 0 ≤ y ∧ y < q) (i : Nat) : ∀ x ∈ xs.set i y, 0 ≤ x ∧ x < q := by
  intro x hx
  rcases List.mem_or_eq_of_mem_set hx with h1 | h1
  · exact h x h1
  · rw [h1]; exact hy
theorem nulIn_el {F : FD} (ok : F.Ok) (rows : List (List Int)) (piv : List Int) (n c i : Nat) : ∀ x ∈ nulIn F rows piv n c i, 0 ≤ x ∧ x < F.n := by
  have n2 := ok.n_bd
  induction i with
  | zero =>
    refine set_bd (fun x hx => ?_) (by omega) _
    rw [zeros, List.mem_replicate] at hx
    omega
  | succ i ih => exact set_bd ih (sub_bd ok _ _) _
theorem nulTo_Mat {F : FD} (ok : F.Ok) (rows : List (List Int)) (piv : List Int) (n c : Nat) : F.Mat n (nulTo F rows piv n c) := by
  induction c with
  | zero => intro xs hx; simp [nulTo] at hx
  | succ c ih =>
    rw [nulTo]
    split
    · exact ih
    · exact Mat_snoc ih ⟨nulIn_len _ _ _ _ _ _, nulIn_el ok _ _ _ _ _⟩
theorem nulTo_le (F : FD) (rows : List (List Int)) (piv : List Int) (n c : Nat) : (nulTo F rows piv n c).length ≤ c := by
  induction c with
  | zero => simp [nulTo]
  | succ c ih =>
    rw [nulTo]
    split
    · omega
    · simp; omega
theorem red_nil (F : FD) (c : Nat) : red F [] c = ([], []) := by
  induction c with
  | zero => rfl
  | succ c ih => rw [red, ih]; rfl
theorem form_nil (F : FD) (n : Nat) : form F [] n = [] := by rw [form, red_nil]; rfl
theorem nul_Mat {F : FD} (ok : F.Ok) (m : List (List Int)) (n : Nat) : F.Mat n (nul F m n) := form_Mat ok (nulTo_Mat ok _ _ _ _)
end Go.Proofs.Ytgmgpcaahanmiaa

