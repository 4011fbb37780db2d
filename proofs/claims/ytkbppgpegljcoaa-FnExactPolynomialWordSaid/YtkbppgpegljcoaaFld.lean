/-
  Plain mathematics of the fields: capped powers, digits, numbers, remainders of polynomials. No program here.
-/
import Derived.Test.YtkbppgpegljcoaaMem
namespace Go.Proofs.Ytkbppgpegljcoaa
open Go.RowKit

/-! ### Powers -/
/-- A power of b, in k rounds that stop above l. -/
def capTo (b l : Int) : Nat → Int
  | 0 => 1
  | k + 1 => if capTo b l k ≤ l then capTo b l k * b else capTo b l k
theorem capTo_stop {b l : Int} {k : Nat} (h : ¬ capTo b l k ≤ l) : ∀ m, k ≤ m → capTo b l m = capTo b l k := by
  intro m hm
  induction m with
  | zero => obtain rfl : k = 0 := by omega
            rfl
  | succ m ih =>
    by_cases e : k = m + 1
    · subst e; rfl
    · have := ih (by omega)
      rw [capTo, this, if_neg h]
theorem capTo_go {b l : Int} {k : Nat} (h : capTo b l k ≤ l) : capTo b l (k + 1) = capTo b l k * b := by rw [capTo, if_pos h]
theorem capTo_pos {b l : Int} (hb : 1 ≤ b) (k : Nat) : 1 ≤ capTo b l k := by
  induction k with
  | zero => exact Int.le_refl _
  | succ k ih =>
    rw [capTo]
    split
    · have := Int.mul_le_mul ih hb (by omega) (by omega)
      omega
    · exact ih
theorem capTo_le {b l : Int} (hb : 1 ≤ b) (hl : 1 ≤ l) (k : Nat) : capTo b l k ≤ l * b := by
  have hlb : l * 1 ≤ l * b := Int.mul_le_mul_of_nonneg_left hb (by omega)
  induction k with
  | zero => show (1 : Int) ≤ _; omega
  | succ k ih =>
    rw [capTo]
    split
    · exact Int.mul_le_mul_of_nonneg_right (by assumption) (by omega)
    · exact ih
theorem capTo_pow {b l : Int} (hb : 1 ≤ b) : ∀ k : Nat, b ^ k ≤ l → capTo b l k = b ^ k := by
  intro k
  induction k with
  | zero => intro _; simp [capTo]
  | succ k ih =>
    intro h
    have h1 : b ^ k ≤ b ^ (k + 1) := by
      rw [Int.pow_succ]
      have h0 : 0 ≤ b ^ k := Int.pow_nonneg (by omega)
      have := Int.mul_le_mul_of_nonneg_left hb h0
      omega
    have h2 := ih (by omega)
    rw [capTo, h2, if_pos (by omega), Int.pow_succ]

/-! ### Digits and numbers -/
def dig (a p : Int) (k : Nat) : List Int := (List.range k).map (fun (i : Nat) => a / p ^ i % p)
theorem dig_len (a p : Int) (k : Nat) : (dig a p k).length = k := by simp [dig]
theorem dig_succ (a p : Int) (k : Nat) : dig a p (k + 1) = dig a p k ++ [a / p ^ k % p] := by simp [dig, List.range_succ]
theorem dig_nth (a p : Int) {k i : Nat} (h : i < k) : nth (dig a p k) i = a / p ^ i % p := by simp [nth, dig, h]
theorem dig_range {a p : Int} (hp : 0 < p) (k : Nat) : ∀ x ∈ dig a p k, 0 ≤ x ∧ x < p := by
  intro x hx
  obtain ⟨i, _, rfl⟩ := List.mem_map.1 hx
  exact ⟨Int.emod_nonneg _ (by omega), Int.emod_lt_of_pos _ hp⟩
theorem div_pow_succ (a p : Int) (hp : 0 < p) (k : Nat) : a / p ^ k / p = a / p ^ (k + 1) := by
  rw [Int.pow_succ, Int.ediv_ediv_of_nonneg (Int.pow_nonneg (by omega))]

def num (p : Int) (xs : List Int) : Int := xs.foldr (fun x acc => acc * p + x) 0
theorem num_nil (p : Int) : num p [] = 0 := rfl
theorem num_cons (p x : Int) (xs : List Int) : num p (x :: xs) = num p xs * p + x := rfl
theorem num_drop (p : Int) {xs : List Int} {k : Nat} (h : k < xs.length) : num p (xs.drop k) = num p (xs.drop (k + 1)) * p + nth xs k := by
  rw [List.drop_eq_getElem_cons h, num_cons, nth_lt h]
theorem num_bound {p : Int} (hp : 0 < p) {xs : List Int} (h : ∀ x ∈ xs, 0 ≤ x ∧ x < p) : 0 ≤ num p xs ∧ num p xs < p ^ xs.length := by
  induction xs with
  | nil => simp [num]
  | cons x xs ih =>
    have h1 := ih (fun y hy => h y (List.mem_cons_of_mem _ hy))
    have h2 := h x (List.mem_cons_self)
    rw [num_cons, List.length_cons, Int.pow_succ]
    have h3 : 0 ≤ num p xs * p := Int.mul_nonneg h1.1 (by omega)
    have h4 : (num p xs + 1) * p ≤ p ^ xs.length * p := Int.mul_le_mul_of_nonneg_right (by omega) (by omega)
    rw [Int.add_mul] at h4
    omega
theorem num_zero {p : Int} (hp : 0 < p) {xs : List Int} (h : ∀ x ∈ xs, 0 ≤ x ∧ x < p) : num p xs = 0 ↔ ∀ x ∈ xs, x = 0 := by
  induction xs with
  | nil => simp [num]
  | cons x xs ih =>
    have h0 : ∀ y ∈ xs, 0 ≤ y ∧ y < p := fun y hy => h y (List.mem_cons_of_mem _ hy)
    have h1 := num_bound hp h0
    have h2 := h x (List.mem_cons_self)
    have h3 : 0 ≤ num p xs * p := Int.mul_nonneg h1.1 (by omega)
    rw [num_cons]
    constructor
    · intro e y hy
      have hx0 : x = 0 := by omega
      have hm : num p xs * p = 0 := by omega
      have hn : num p xs = 0 := by
        rcases Int.mul_eq_zero.1 hm with h | h
        · exact h
        · omega
      rcases List.mem_cons.1 hy with rfl | hy
      · exact hx0
      · exact (ih h0).1 hn y hy
    · intro e
      rw [(ih h0).2 (fun y hy => e y (List.mem_cons_of_mem _ hy)), e x List.mem_cons_self]; simp

/-! ### Remainders -/
theorem nth_set_same {xs : List Int} {i : Nat} (h : i < xs.length) (v : Int) : nth (xs.set i v) i = v := by simp [nth, h]
theorem nth_set_ne {xs : List Int} {i j : Nat} (h : i ≠ j) (v : Int) : nth (xs.set i v) j = nth xs j := by
  simp [nth, List.getD_eq_getElem?_getD, List.getElem?_set_ne h]
/-- k places of xs, from off on, less c times the first k of ys, modulo p. -/
def setK (xs ys : List Int) (c p : Int) (off : Nat) : Nat → List Int
  | 0 => xs
  | k + 1 => (setK xs ys c p off k).set (off + k) ((nth xs (off + k) - c * nth ys k) % p)
theorem setK_len (xs ys : List Int) (c p : Int) (off k : Nat) : (setK xs ys c p off k).length = xs.length := by
  induction k with
  | zero => rfl
  | succ k ih => rw [setK, List.length_set, ih]
theorem setK_nth (xs ys : List Int) (c p : Int) (off : Nat) {k j : Nat} (h : j < off ∨ off + k ≤ j) : nth (setK xs ys c p off k) j = nth xs j := by
  induction k with
  | zero => rfl
  | succ k ih => rw [setK, nth_set_ne (by omega), ih (by omega)]
def InR (p : Int) (xs : List Int) : Prop := ∀ x ∈ xs, 0 ≤ x ∧ x < p
theorem InR.nth {p : Int} {xs : List Int} (h : InR p xs) {i : Nat} (hi : i < xs.length) : 0 ≤ nth xs i ∧ nth xs i < p := h _ (nth_mem hi)
theorem InR.set {p : Int} {xs : List Int} (h : InR p xs) (i : Nat) {v : Int} (hv : 0 ≤ v ∧ v < p) : InR p (xs.set i v) := by
  intro x hx
  rcases List.mem_or_eq_of_mem_set hx with h1 | rfl
  · exact h x h1
  · exact hv
theorem emod_range {p : Int} (hp : 0 < p) (a : Int) : 0 ≤ a % p ∧ a % p < p := ⟨Int.emod_nonneg _ (by omega), Int.emod_lt_of_pos _ hp⟩
theorem setK_in {p : Int} (hp : 0 < p) {xs : List Int} (h : InR p xs) (ys : List Int) (c : Int) (off k : Nat) : InR p (setK xs ys c p off k) := by
  induction k with
  | zero => exact h
  | succ k ih => exact ih.set _ (emod_range hp _)
/-- t rounds of the division by ys, whose last coefficient is 1. -/
def remTo (p : Int) (ys xs : List Int) : Nat → List Int
  | 0 => xs
  | t + 1 => setK (remTo p ys xs t) ys (nth (remTo p ys xs t) (xs.length - 1 - t)) p (xs.length - 1 - t - (ys.length - 1)) ys.length
theorem remTo_len (p : Int) (ys xs : List Int) (t : Nat) : (remTo p ys xs t).length = xs.length := by
  induction t with
  | zero => rfl
  | succ t ih => rw [remTo, setK_len, ih]
theorem remTo_in {p : Int} (hp : 0 < p) {xs : List Int} (h : InR p xs) (ys : List Int) (t : Nat) : InR p (remTo p ys xs t) := by
  induction t with
  | zero => exact h
  | succ t ih => exact setK_in hp ih _ _ _ _
/-- The remainder of xs by ys. -/
def prem (p : Int) (ys xs : List Int) : List Int := (remTo p ys xs (xs.length - (ys.length - 1))).take (ys.length - 1)
theorem prem_in {p : Int} (hp : 0 < p) {xs : List Int} (h : InR p xs) (ys : List Int) : InR p (prem p ys xs) := fun x hx => remTo_in hp h _ _ x (List.mem_of_mem_take hx)
theorem prem_len (p : Int) (ys xs : List Int) : (prem p ys xs).length = min (ys.length - 1) xs.length := by
  rw [prem, List.length_take, remTo_len]

end Go.Proofs.Ytkbppgpegljcoaa
