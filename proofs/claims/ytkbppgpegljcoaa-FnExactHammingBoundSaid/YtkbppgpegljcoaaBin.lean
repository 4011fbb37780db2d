/-
  Plain: binomials by Pascal's rows, the binomial theorem, sizes of balls.
-/
import Derived.Test.YtkbppgpegljcoaaChoose
import Derived.Test.YtkbppgpegljcoaaSpace
namespace Go.Proofs.Ytkbppgpegljcoaa
open Go.RowKit

/-- Pascal's rows. -/
def prow : Nat → List Nat
  | 0 => [1]
  | n + 1 => List.zipWith (· + ·) (0 :: prow n) (prow n ++ [0])
def bin (n k : Nat) : Nat := (prow n).getD k 0
theorem prow_len (n : Nat) : (prow n).length = n + 1 := by
  induction n with
  | zero => rfl
  | succ n ih => simp [prow, ih]
theorem bin_zero (n : Nat) : bin n 0 = 1 := by
  induction n with
  | zero => rfl
  | succ n ih =>
    have h := prow_len n
    unfold bin at ih ⊢
    rw [prow]
    cases hp : prow n with
    | nil => rw [hp] at h; simp at h
    | cons x r => rw [hp] at ih; simp at ih ⊢; exact ih
theorem bin_succ (n k : Nat) : bin (n + 1) (k + 1) = bin n k + bin n (k + 1) := by
  have h := prow_len n
  unfold bin
  rw [prow]
  simp only [List.getD_eq_getElem?_getD, List.getElem?_zipWith, List.getElem?_cons_succ]
  rcases Nat.lt_or_ge (k + 1) (n + 1) with h1 | h1
  · rw [List.getElem?_append_left (by omega), List.getElem?_eq_getElem (by omega), List.getElem?_eq_getElem (by omega)]
    simp
  · rcases Nat.lt_or_ge k (n + 1) with h2 | h2
    · have : k + 1 = (prow n).length := by omega
      rw [List.getElem?_append_right (by omega), this, Nat.sub_self, List.getElem?_eq_getElem (show k < (prow n).length by omega)]
      simp
    · rw [List.getElem?_eq_none (show (prow n).length ≤ k by omega), List.getElem?_eq_none (show (prow n).length ≤ k + 1 by omega)]
      simp
theorem bin_big {n k : Nat} (h : n < k) : bin n k = 0 := by
  unfold bin
  rw [List.getD_eq_getElem?_getD, List.getElem?_eq_none (by rw [prow_len]; omega)]; rfl
theorem bin_table : ∀ n : Nat, n < 33 → ∀ k : Nat, k < n + 1 → chTo n k k = (bin n k : Int) := by decide +kernel
theorem chooseV_bin {n k : Nat} (hn : n ≤ 32) (hk : k ≤ n) : chooseV n k = (bin n k : Int) := by
  rw [chooseV, inB_yes (by omega) (by omega), inB_yes (by omega) (by omega)]
  simp only [Bool.and_self, if_true, Int.toNat_natCast]
  exact bin_table n (by omega) k (by omega)

/-! ### Sums -/
def sumTo (f : Nat → Int) : Nat → Int
  | 0 => 0
  | n + 1 => sumTo f n + f n
theorem sumTo_add (f g : Nat → Int) (n : Nat) : sumTo (fun i => f i + g i) n = sumTo f n + sumTo g n := by
  induction n with
  | zero => rfl
  | succ n ih => simp only [sumTo, ih]; omega
theorem sumTo_mul (c : Int) (f : Nat → Int) (n : Nat) : sumTo (fun i => c * f i) n = c * sumTo f n := by
  induction n with
  | zero => simp [sumTo]
  | succ n ih => simp only [sumTo, ih, Int.mul_add]
theorem sumTo_shift (f : Nat → Int) (n : Nat) : sumTo f (n + 1) = f 0 + sumTo (fun i => f (i + 1)) n := by
  induction n with
  | zero => simp [sumTo]
  | succ n ih => rw [sumTo, ih]; simp only [sumTo]; omega
theorem sumTo_congr {f g : Nat → Int} {n : Nat} (h : ∀ i, i < n → f i = g i) : sumTo f n = sumTo g n := by
  induction n with
  | zero => rfl
  | succ n ih => rw [sumTo, sumTo, ih (fun i hi => h i (by omega)), h n (by omega)]
theorem sumTo_nonneg {f : Nat → Int} {n : Nat} (h : ∀ i, i < n → 0 ≤ f i) : 0 ≤ sumTo f n := by
  induction n with
  | zero => exact Int.le_refl _
  | succ n ih =>
    have := ih (fun i hi => h i (by omega))
    have := h n (by omega)
    rw [sumTo]; omega
theorem sumTo_mono {f : Nat → Int} (h : ∀ i, 0 ≤ f i) {m n : Nat} (hmn : m ≤ n) : sumTo f m ≤ sumTo f n := by
  induction n with
  | zero => obtain rfl : m = 0 := by omega
            exact Int.le_refl _
  | succ n ih =>
    by_cases e : m = n + 1
    · subst e; exact Int.le_refl _
    · have := ih (by omega)
      have := h n
      rw [sumTo]; omega

theorem binomial (a : Int) (n : Nat) : sumTo (fun i => (bin n i : Int) * a ^ i) (n + 1) = (a + 1) ^ n := by
  induction n with
  | zero => simp [sumTo, bin, prow]
  | succ n ih =>
    rw [sumTo_shift]
    have e1 : sumTo (fun i => (bin (n + 1) (i + 1) : Int) * a ^ (i + 1)) (n + 1) =
        sumTo (fun i => a * ((bin n i : Int) * a ^ i) + (bin n (i + 1) : Int) * a ^ (i + 1)) (n + 1) := by
      apply sumTo_congr
      intro i _
      rw [bin_succ, Int.natCast_add, Int.add_mul, Int.pow_succ, ← Int.mul_assoc, Int.mul_comm _ a]
    rw [e1, sumTo_add, sumTo_mul, ih]
    have e2 : sumTo (fun i => (bin n (i + 1) : Int) * a ^ (i + 1)) (n + 1) = sumTo (fun i => (bin n (i + 1) : Int) * a ^ (i + 1)) n := by
      rw [sumTo, bin_big (show n < n + 1 by omega)]; simp
    rw [e2]
    rw [sumTo_shift] at ih
    simp only [bin_zero, Int.natCast_one, Int.pow_zero, Int.mul_one] at ih ⊢
    rw [Int.pow_succ, Int.mul_add, Int.mul_one, Int.mul_comm]
    omega

/-! ### Balls -/
def ballT (q : Int) (n : Nat) (i : Nat) : Int := chooseV n i * (q - 1) ^ i
def ballV (q : Int) (n r : Nat) : Int := sumTo (ballT q n) (r + 1)
theorem chooseV_nonneg {n : Nat} (hn : n ≤ 32) (i : Nat) : 0 ≤ chooseV n i := by
  by_cases h : i ≤ n
  · rw [chooseV_bin hn h]; omega
  · rw [chooseV, inB_no2 (show ¬ (i : Int) ≤ n by omega)]; simp
theorem ballT_nonneg {q : Int} (hq : 1 ≤ q) {n : Nat} (hn : n ≤ 32) (i : Nat) : 0 ≤ ballT q n i :=
  Int.mul_nonneg (chooseV_nonneg hn i) (Int.pow_nonneg (by omega))
theorem ball_all {q : Int} {n : Nat} (hn : n ≤ 32) : sumTo (ballT q n) (n + 1) = q ^ n := by
  have h := binomial (q - 1) n
  rw [Int.sub_add_cancel] at h
  rw [← h]
  apply sumTo_congr
  intro i hi
  rw [ballT, chooseV_bin hn (by omega)]
theorem ball_le {q : Int} (hq : 1 ≤ q) {n : Nat} (hn : n ≤ 32) {r : Nat} (hr : r ≤ n + 1) : sumTo (ballT q n) r ≤ q ^ n := by
  rw [← ball_all hn]
  exact sumTo_mono (ballT_nonneg hq hn) hr
theorem ballT_le {q : Int} (hq : 1 ≤ q) {n : Nat} (hn : n ≤ 32) {i : Nat} (hi : i ≤ n) : ballT q n i ≤ q ^ n := by
  have h1 := ball_le hq hn (show i + 1 ≤ n + 1 by omega)
  have h2 : 0 ≤ sumTo (ballT q n) i := sumTo_nonneg (fun j _ => ballT_nonneg hq hn j)
  rw [sumTo] at h1
  omega
theorem ball_pos {q : Int} (hq : 1 ≤ q) {n : Nat} (hn : n ≤ 32) (r : Nat) : 1 ≤ ballV q n r := by
  have h0 : ballT q n 0 = 1 := by
    rw [ballT]
    have h := chooseV_bin hn (Nat.zero_le n)
    rw [bin_zero] at h
    simp only [Int.pow_zero, Int.mul_one]
    exact h
  have := sumTo_mono (ballT_nonneg hq hn) (show 1 ≤ r + 1 by omega)
  have e : sumTo (ballT q n) 1 = 1 := by simp [sumTo, h0]
  unfold ballV
  omega
/-- A capped power that is not above the bound is the power. -/
theorem capTo_eq {b l : Int} (hb : 1 ≤ b) {m : Nat} (h : capTo b l m ≤ l) : capTo b l m = b ^ m := by
  induction m with
  | zero => simp [capTo]
  | succ m ih =>
    have h1 := capTo_anti (show m ≤ m + 1 by omega) h
    rw [capTo_go h1, ih h1, Int.pow_succ]
end Go.Proofs.Ytkbppgpegljcoaa
