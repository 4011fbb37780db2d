/-
  Plain mathematics: words of messages; all words, row by row and message by message.
-/
import Derived.BigQuiet
import Derived.Deep.DeepCutAuto
import Derived.Deep.DeepMust
import Derived.Deep.DrawnRows
import Derived.Deep.Draws
import Derived.Deep.OwnRows
import Derived.Deep.QuietTactic
import Derived.Deep.RegionHeld3
import Derived.Laws.Rows
import Derived.Lib.Hide
import Derived.Maps.AppendAt
import Derived.StillTailTactics
import Derived.Test.YtgmgpcaahanmiaaProg
import Derived.WalkKit
import Derived.WalkLawsBesides
import Derived.WalkSpells
import Derived.Test.YtgmgpcaahanmiaaZ7
import Derived.Test.YtgmgpcaahanmiaaZ17
set_option linter.unusedVariables false
set_option linter.unusedSimpArgs false
namespace Go.Proofs.Ytgmgpcaahanmiaa
open Go.RowKit

/-- The sum of the first k rows times the elements of a message. -/
def encTo (F : FD) (n : Nat) (rows : List (List Int)) (msg : List Int) : Nat → List Int
  | 0 => zeros n
  | k + 1 => addTo F (encTo F n rows msg k) (nthL rows k) (nth msg k) n
theorem encTo_len (F : FD) (n : Nat) (rows : List (List Int)) (msg : List Int) (k : Nat) : (encTo F n rows msg k).length = n := by
  induction k with
  | zero => exact zeros_len n
  | succ k ih => rw [encTo, addTo_len, ih]
theorem addTo_bd {F : FD} (ok : F.Ok) {xs ys : List Int} (s : Int) {k : Nat} (hk : k ≤ xs.length) (h : ∀ x ∈ xs, 0 ≤ x ∧ x < F.n) : ∀ x ∈ addTo F xs ys s k, 0 ≤ x ∧ x < F.n := by
  intro x hx
  obtain ⟨i, hi, rfl⟩ := List.getElem_of_mem hx
  rw [← nth_lt hi, addTo_nth F xs ys s k hk]
  rw [addTo_len] at hi
  split
  · exact add_bd ok _ _
  · exact h _ (nth_mem hi)
theorem encTo_el {F : FD} (ok : F.Ok) (n : Nat) (rows : List (List Int)) (msg : List Int) (k : Nat) : ∀ x ∈ encTo F n rows msg k, 0 ≤ x ∧ x < F.n := by
  induction k with
  | zero =>
    intro x hx
    rw [encTo, zeros, List.mem_replicate] at hx
    have := ok.n_bd
    omega
  | succ k ih => exact addTo_bd ok _ (by rw [encTo_len]; exact Nat.le_refl _) ih

theorem encTo_congr (F : FD) (n : Nat) (rows : List (List Int)) {m1 m2 : List Int} {k : Nat} (h : ∀ i, i < k → nth m1 i = nth m2 i) : encTo F n rows m1 k = encTo F n rows m2 k := by
  induction k with
  | zero => rfl
  | succ k ih => rw [encTo, encTo, ih (fun i hi => h i (by omega)), h k (by omega)]
/-- The digits of a number, the highest first. -/
def hig (j q k : Nat) : List Int := (dig j q k).reverse
theorem hig_len (j q k : Nat) : (hig j q k).length = k := by rw [hig, List.length_reverse, dig_len]
theorem hig_succ (j x : Nat) {q : Nat} (hx : x < q) (k : Nat) : hig (j * q + x) q (k + 1) = hig j q k ++ [(x : Int)] := by
  have hq : (0 : Int) < q := by omega
  rw [hig, dig_cons _ _ hq, List.reverse_cons, hig]
  have e1 : ((j * q + x : Nat) : Int) % (q : Int) = x := by
    rw [← Int.natCast_emod]
    congr 1
    rw [Nat.add_comm, Nat.add_mul_mod_self_right, Nat.mod_eq_of_lt hx]
  have e2 : ((j * q + x : Nat) : Int) / (q : Int) = j := by
    rw [← Int.natCast_ediv]
    congr 1
    rw [Nat.add_comm, Nat.add_mul_div_right _ _ (by omega), Nat.div_eq_of_lt hx, Nat.zero_add]
  rw [e1, e2]
theorem hig_el (j : Nat) {q : Nat} (hq : 0 < q) (k : Nat) : ∀ c ∈ hig j q k, 0 ≤ c ∧ c < q := fun c hc => dig_range (by omega) k c (List.mem_reverse.1 hc)
/-- All words of the first k rows, in order. -/
def wordsTo (F : FD) (n : Nat) (rows : List (List Int)) (k : Nat) : List (List Int) := (List.range (F.n ^ k)).map fun j => encTo F n rows (hig j F.n k) k
theorem wordsTo_len (F : FD) (n : Nat) (rows : List (List Int)) (k : Nat) : (wordsTo F n rows k).length = F.n ^ k := by simp [wordsTo]
theorem wordsTo_nth (F : FD) (n : Nat) (rows : List (List Int)) {k j : Nat} (hj : j < F.n ^ k) : nthL (wordsTo F n rows k) j = encTo F n rows (hig j F.n k) k := by simp [wordsTo, nthL, hj]
theorem nth_snoc_lt {m : List Int} {x : Int} {i : Nat} (h : i < m.length) : nth (m ++ [x]) i = nth m i := by
  rw [nth, nth, List.getD_eq_getElem?_getD, List.getElem?_append_left h, ← List.getD_eq_getElem?_getD]
theorem nth_snoc_eq {m : List Int} {x : Int} : nth (m ++ [x]) m.length = x := by simp [nth]
theorem enc_snoc (F : FD) (n : Nat) (rows : List (List Int)) (j : Nat) {x : Nat} (hx : x < F.n) (k : Nat) : encTo F n rows (hig (j * F.n + x) F.n (k + 1)) (k + 1) = addTo F (encTo F n rows (hig j F.n k) k) (nthL rows k) x n := by
  rw [hig_succ j x hx, encTo]
  congr 1
  · exact encTo_congr F n rows fun i hi => nth_snoc_lt (by rw [hig_len]; exact hi)
  · have h := nth_snoc_eq (m := hig j F.n k) (x := (x : Int))
    rw [hig_len] at h
    exact h
theorem range_mul {α : Type} (f : Nat → α) (b : Nat) : ∀ a : Nat, (List.range (a * b)).map f = (List.range a).flatMap fun j => (List.range b).map fun x => f (j * b + x)
  | 0 => by simp
  | a + 1 => by
    rw [Nat.succ_mul, List.range_add, List.map_append, range_mul f b a, List.range_succ, List.flatMap_append, List.map_map]
    simp [Function.comp_def]
/-- One more row: every word with every multiple of it. -/
theorem wordsTo_succ (F : FD) (n : Nat) (rows : List (List Int)) (k : Nat) : wordsTo F n rows (k + 1) = (wordsTo F n rows k).flatMap fun wd => (List.range F.n).map fun (x : Nat) => addTo F wd (nthL rows k) x n := by
  rw [wordsTo, Nat.pow_succ, range_mul, wordsTo, List.flatMap_map]
  congr 1
  funext j
  refine List.map_congr_left fun x hx => ?_
  exact enc_snoc F n rows j (List.mem_range.1 hx) k
/-- The sum of a vector and a multiple, as the spec has it. -/
def plus (F : FD) (a b : List Int) : List Int := (List.range a.length).map fun (i : Nat) => F.add (nth a i) (nth b i)
theorem plus_len (F : FD) (a b : List Int) : (plus F a b).length = a.length := by simp [plus]
theorem plus_nth (F : FD) (a b : List Int) {i : Nat} (h : i < a.length) : nth (plus F a b) i = F.add (nth a i) (nth b i) := by simp [plus, nth, h]
theorem plus_scale (F : FD) {wd row : List Int} (hl : row.length = wd.length) (x : Int) : plus F wd (scale F x row) = addTo F wd row x wd.length := by
  refine eq_of_nth (by rw [plus_len, addTo_len]) fun i hi => ?_
  rw [plus_len] at hi
  rw [plus_nth F _ _ hi, addTo_nth F _ _ _ _ (Nat.le_refl _), if_pos hi, scale_nth F x (by omega)]
end Go.Proofs.Ytgmgpcaahanmiaa

