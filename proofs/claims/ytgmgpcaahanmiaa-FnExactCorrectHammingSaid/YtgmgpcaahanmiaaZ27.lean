/-
  Plain mathematics: the span of rows; the echelon form spans what the rows span, and is the only one that does.
-/
import Derived.BigQuiet
import Derived.Deep.DeepCutAuto
import Derived.Deep.DeepMust
import Derived.Deep.DrawnRows
import Derived.Deep.Draws
import Derived.Deep.OwnRows
import Derived.Deep.QuietTactic
import Derived.Deep.RegionHeld3
import Derived.Laws.Rows
import Derived.Lib.Hide
import Derived.Maps.AppendAt
import Derived.StillTailTactics
import Derived.Test.YtgmgpcaahanmiaaProg
import Derived.WalkKit
import Derived.WalkLawsBesides
import Derived.WalkSpells
import Derived.Test.YtgmgpcaahanmiaaZ7
import Derived.Test.YtgmgpcaahanmiaaZ17
set_option linter.unusedVariables false
set_option linter.unusedSimpArgs false
namespace Go.Proofs.Ytgmgpcaahanmiaa
open Go.RowKit

section
variable {F : FD}
/-- The first k of f added up. -/
def FD.sum (F : FD) (f : Nat → Int) : Nat → Int
  | 0 => 0
  | k + 1 => F.add (F.sum f k) (f k)
theorem sum_el (ok : F.Ok) (f : Nat → Int) (k : Nat) : F.el (F.sum f k) := by
  cases k with
  | zero => exact zero_el ok
  | succ k => exact lin_el ok _ _ _
theorem sum_congr {f g : Nat → Int} {k : Nat} (h : ∀ j, j < k → f j = g j) : F.sum f k = F.sum g k := by
  induction k with
  | zero => rfl
  | succ k ih => rw [FD.sum, FD.sum, ih (fun j hj => h j (by omega)), h k (by omega)]
theorem add4 (ok : F.Ok) (a b c d : Int) : F.add (F.add a b) (F.add c d) = F.add (F.add a c) (F.add b d) := by
  rw [add_assoc' ok, add_assoc' ok, ← add_assoc' ok b c d, ← add_assoc' ok c b d, add_comm' ok b c]
theorem sum_add (ok : F.Ok) (f g : Nat → Int) (k : Nat) : F.sum (fun j => F.add (f j) (g j)) k = F.add (F.sum f k) (F.sum g k) := by
  induction k with
  | zero => rw [FD.sum, FD.sum, FD.sum, add_zero' ok (zero_el ok)]
  | succ k ih => rw [FD.sum, FD.sum, FD.sum, ih, add4 ok]
theorem sum_zero (ok : F.Ok) {f : Nat → Int} {k : Nat} (h : ∀ j, j < k → f j = 0) : F.sum f k = 0 := by
  induction k with
  | zero => rfl
  | succ k ih => rw [FD.sum, ih (fun j hj => h j (by omega)), h k (by omega), add_zero' ok (zero_el ok)]
/-- One place alone counts. -/
theorem sum_one (ok : F.Ok) {f : Nat → Int} {k l : Nat} (hl : l < k) (he : F.el (f l)) (h : ∀ j, j < k → j ≠ l → f j = 0) : F.sum f k = f l := by
  induction k with
  | zero => omega
  | succ k ih =>
    rw [FD.sum]
    by_cases e : l = k
    · subst e
      rw [sum_zero ok (fun j hj => h j (by omega) (by omega)), zero_add' ok he]
    · rw [ih (by omega) (fun j hj hne => h j (by omega) hne), h k (by omega) (fun e2 => e e2.symm), add_zero' ok he]
theorem mul_sum (ok : F.Ok) (c : Int) (f : Nat → Int) (k : Nat) : F.mul c (F.sum f k) = F.sum (fun j => F.mul c (f j)) k := by
  induction k with
  | zero => exact mul_zero_all ok c
  | succ k ih => rw [FD.sum, FD.sum, mul_add' ok, ih]

/-- What can be made of rows: a vector is a function of the place. -/
inductive Sp (F : FD) (rows : List (List Int)) : (Nat → Int) → Prop
  | zero : Sp F rows (fun _ => 0)
  | step {v : Nat → Int} {j : Nat} {c : Int} (h : Sp F rows v) (hj : j < rows.length) (hc : F.el c) : Sp F rows (fun i => F.add (v i) (F.mul c (nth (nthL rows j) i)))
variable {rows A B : List (List Int)}
theorem Sp.el (ok : F.Ok) {v : Nat → Int} (h : Sp F rows v) (i : Nat) : F.el (v i) := by
  cases h with
  | zero => exact zero_el ok
  | step => exact lin_el ok _ _ _
theorem Sp.add (ok : F.Ok) {u v : Nat → Int} (hu : Sp F rows u) (hv : Sp F rows v) : Sp F rows (fun i => F.add (u i) (v i)) := by
  induction hv with
  | zero =>
    have e : (fun i => F.add (u i) 0) = u := by funext i; rw [add_zero' ok (hu.el ok i)]
    rw [e]; exact hu
  | @step v j c h hj hc ih =>
    have e : (fun i => F.add (u i) (F.add (v i) (F.mul c (nth (nthL rows j) i)))) = fun i => F.add (F.add (u i) (v i)) (F.mul c (nth (nthL rows j) i)) := by funext i; rw [add_assoc' ok]
    rw [e]; exact ih.step hj hc
theorem Sp.mul (ok : F.Ok) {v : Nat → Int} (hv : Sp F rows v) {a : Int} : Sp F rows (fun i => F.mul a (v i)) := by
  induction hv with
  | zero =>
    have e : (fun _ : Nat => F.mul a 0) = fun _ => 0 := by funext i; rw [mul_zero_all ok]
    rw [e]; exact .zero
  | @step v j c h hj hc ih =>
    have e : (fun i => F.mul a (F.add (v i) (F.mul c (nth (nthL rows j) i)))) = fun i => F.add (F.mul a (v i)) (F.mul (F.mul a c) (nth (nthL rows j) i)) := by funext i; rw [mul_add' ok, mul_assoc_all ok]
    rw [e]; exact ih.step hj (mul_el ok _ _)
theorem one_el (ok : F.Ok) : F.el 1 := (el_n ok).2 (by have := ok.n_bd; omega)
theorem nth_el {n : Nat} (ok : F.Ok) (hM : F.Mat n rows) {j : Nat} (hj : j < rows.length) (i : Nat) : F.el (nth (nthL rows j) i) := by
  rcases Nat.lt_or_ge i (nthL rows j).length with h | h
  · exact (el_n ok).2 ((Mat_nth hM hj).2 _ (nth_mem h))
  · rw [nth_big h]; exact zero_el ok
theorem Sp.row {n : Nat} (ok : F.Ok) (hM : F.Mat n rows) {j : Nat} (hj : j < rows.length) : Sp F rows (nth (nthL rows j)) := by
  have h := Sp.zero (F := F) (rows := rows) |>.step hj (one_el ok)
  have e : (fun i => F.add 0 (F.mul 1 (nth (nthL rows j) i))) = nth (nthL rows j) := by
    funext i
    have := nth_el ok hM hj i
    rw [one_mul' ok this, zero_add' ok this]
  rw [e] at h; exact h
/-- What is made of rows that are made of rows. -/
theorem Sp.of (ok : F.Ok) (h : ∀ j, j < B.length → Sp F A (nth (nthL B j))) {v : Nat → Int} (hv : Sp F B v) : Sp F A v := by
  induction hv with
  | zero => exact .zero
  | @step v j c hs hj hc ih => exact ih.add ok ((h j hj).mul ok)
theorem Sp.sub (ok : F.Ok) {u v : Nat → Int} (hu : Sp F rows u) (hv : Sp F rows v) (c : Int) : Sp F rows (fun i => F.sub (u i) (F.mul c (v i))) := by
  have h := hu.add ok (hv.mul ok (a := F.sub 0 c))
  have e : (fun i => F.add (u i) (F.mul (F.sub 0 c) (v i))) = fun i => F.sub (u i) (F.mul c (v i)) := by
    funext i
    exact add_neg_mul (by have := ok.p2; omega) ok.len (u i) c (v i)
  rw [e] at h; exact h
theorem Sp.big {n : Nat} (ok : F.Ok) (hM : F.Mat n rows) {v : Nat → Int} (h : Sp F rows v) {i : Nat} (hi : n ≤ i) : v i = 0 := by
  induction h with
  | zero => rfl
  | @step v j c h hj hc ih =>
    show F.add (v i) (F.mul c (nth (nthL rows j) i)) = 0
    rw [ih, nth_big (by rw [(Mat_nth hM hj).1]; exact hi), mul_zero_all ok, add_zero' ok (zero_el ok)]

/-! ### Echelon forms -/
structure Ech (F : FD) (n : Nat) (rows : List (List Int)) (piv : List Nat) : Prop where
  mat : F.Mat n rows
  len : piv.length = rows.length
  lt : ∀ j, j < piv.length → piv.getD j 0 < n
  mono : ∀ i j, i < j → j < piv.length → piv.getD i 0 < piv.getD j 0
  one : ∀ i j, i < piv.length → j < piv.length → nth (nthL rows i) (piv.getD j 0) = if i = j then 1 else 0
  lead : ∀ j i, j < piv.length → i < piv.getD j 0 → nth (nthL rows j) i = 0
variable {n : Nat} {piv : List Nat}
/-- A vector of the span, by its places at the pivots. -/
theorem Ech.coord (ok : F.Ok) (h : Ech F n rows piv) {v : Nat → Int} (hv : Sp F rows v) (i : Nat) : v i = F.sum (fun j => F.mul (v (piv.getD j 0)) (nth (nthL rows j) i)) rows.length := by
  induction hv with
  | zero => exact (sum_zero ok fun j _ => zero_mul_all ok _).symm
  | @step v l c hs hl hc ih =>
    rw [show (fun j => F.mul (F.add (v (piv.getD j 0)) (F.mul c (nth (nthL rows l) (piv.getD j 0)))) (nth (nthL rows j) i)) = fun j => F.add (F.mul (v (piv.getD j 0)) (nth (nthL rows j) i)) (F.mul (F.mul c (nth (nthL rows l) (piv.getD j 0))) (nth (nthL rows j) i)) by funext j; rw [add_mul' ok]]
    rw [sum_add ok, ← ih]
    congr 1
    have hl' : l < piv.length := by rw [h.len]; exact hl
    rw [sum_one ok (l := l) hl (mul_el ok _ _) (fun j hj hne => by rw [h.one l j hl' (by rw [h.len]; exact hj), if_neg (Ne.symm hne), mul_zero_all ok, zero_mul_all ok])]
    rw [h.one l l hl' hl', if_pos rfl, mul_comm' ok c 1, one_mul' ok hc]
theorem Ech.zero_of (ok : F.Ok) (h : Ech F n rows piv) {v : Nat → Int} (hv : Sp F rows v) (h0 : ∀ j, j < piv.length → v (piv.getD j 0) = 0) (i : Nat) : v i = 0 := by
  rw [h.coord ok hv i]
  exact sum_zero ok fun j hj => by rw [h0 j (by rw [h.len]; exact hj), zero_mul_all ok]
/-- The first place that is not zero is a pivot. -/
theorem Ech.lead_piv (ok : F.Ok) (h : Ech F n rows piv) {v : Nat → Int} (hv : Sp F rows v) {l : Nat} (h1 : v l ≠ 0) (h2 : ∀ i, i < l → v i = 0) : l ∈ piv := by
  rcases Classical.em (l ∈ piv) with hm | hm
  · exact hm
  · exfalso
    apply h1
    rw [h.coord ok hv l]
    refine sum_zero ok fun j hj => ?_
    have hj' : j < piv.length := by rw [h.len]; exact hj
    rcases Nat.lt_trichotomy (piv.getD j 0) l with hlt | heq | hgt
    · rw [h2 _ hlt, zero_mul_all ok]
    · exact absurd (by rw [← heq, List.getD_eq_getElem?_getD, List.getElem?_eq_getElem hj']; exact List.getElem_mem hj') hm
    · rw [h.lead j l hj' hgt, mul_zero_all ok]
theorem sorted_ext {p q : List Nat} (hp : ∀ i j, i < j → j < p.length → p.getD i 0 < p.getD j 0) (hq : ∀ i j, i < j → j < q.length → q.getD i 0 < q.getD j 0) (h : ∀ x, x ∈ p ↔ x ∈ q) : p = q := by
  have pw : ∀ {p : List Nat}, (∀ i j, i < j → j < p.length → p.getD i 0 < p.getD j 0) → p.Pairwise (· < ·) := fun {p} hp => by
    rw [List.pairwise_iff_getElem]
    intro i j hi hj hij
    have := hp i j hij hj
    rwa [List.getD_eq_getElem?_getD, List.getElem?_eq_getElem hi, List.getD_eq_getElem?_getD, List.getElem?_eq_getElem hj] at this
  exact List.Perm.eq_of_pairwise (le := (· < ·)) (fun a b _ _ h1 h2 => absurd h1 (Nat.lt_asymm h2)) (pw hp) (pw hq) ((List.perm_ext_iff_of_nodup ((pw hp).imp Nat.ne_of_lt) ((pw hq).imp Nat.ne_of_lt)).2 h)
end
end Go.Proofs.Ytgmgpcaahanmiaa

