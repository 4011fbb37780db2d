/-
  Binomials: the plain function, its tables; walks of both Choose. Printed by gen_choose.py.
-/
import Derived.BigQuiet
import Derived.Deep.DeepMust
import Derived.Deep.Draws
import Derived.Deep.OwnRows
import Derived.Deep.QuietTactic
import Derived.Lib.Hide
import Derived.Maps.AppendAt
import Derived.Test.YtcblhjhabhjbkaaProg
import Derived.WalkKit
import Derived.WalkLawsBesides
import Derived.WalkSpells
import Derived.Test.YtcblhjhabhjbkaaZ6
set_option linter.unusedVariables false
set_option linter.unusedSimpArgs false
namespace Go.Proofs.Ytcblhjhabhjbkaa
open Go.RowKit

def chTo (n k : Nat) : Nat → Int
  | 0 => 1
  | i + 1 => chTo n k i * ((n : Int) - (k : Int) + ((i : Int) + 1)) / ((i : Int) + 1)
/-- The first i rounds stay small. -/
def chOk (n k : Nat) : Bool := (List.range k).all fun (i : Nat) => decide (0 ≤ chTo n k i) && decide (chTo n k i * ((n : Int) - (k : Int) + ((i : Int) + 1)) ≤ 1000000000000)
theorem chOk_table : ∀ n : Nat, n < 33 → ∀ k : Nat, k < n + 1 → chOk n k = true := by decide +kernel
theorem ch_table (n : Nat) (hn : n < 33) (k : Nat) (hk : k < n + 1) (i : Nat) (hi : i < k) : (decide (0 ≤ chTo n k i) && decide (chTo n k i * ((n : Int) - (k : Int) + ((i : Int) + 1)) ≤ 1000000000000)) = true := by
  have := chOk_table n hn k hk
  rw [chOk, List.all_eq_true] at this
  exact this i (List.mem_range.2 hi)
/-- How many subsets of a size there are. -/
def chooseV (n k : Int) : Int := if inB n 0 32 && inB k 0 n then chTo n.toNat k.toNat k.toNat else 0

set_option maxHeartbeats 800000 in
theorem specChoose_any (n k : Int) (w : World) :
    Calls Try.prog 116 #[.int .i64 n, .int .i64 k] w fun e w' => e = .returned (.int .i64 (chooseV n k)) ∧ w = w' := by
  generalize hR : chooseV n k = R
  have HR := Lib.hid hR
  clear hR
  go_enter Try.func116, Try.ntmps116
  go_wp2_with fail
  refine (l00In_any n 0 32 w).mono ?_
  rintro e w1 ⟨rfl, rfl⟩
  rcases hf : inB n 0 32 with _ | _
  · have HF := Lib.hid hf
    clear hf
    go_wp2
    go_ret
    exact ⟨ret_int (by rw [← HR.out, chooseV, HF.out]; rfl), rfl⟩
  · obtain ⟨hn0, hn32⟩ := inB_true.1 hf
    have HF := Lib.hid hf
    clear hf
    go_wp2_with fail
    refine (l00In_any k 0 n w).mono ?_
    rintro e w1 ⟨rfl, rfl⟩
    rcases hk : inB k 0 n with _ | _
    · have HK := Lib.hid hk
      clear hk
      go_wp2
      go_ret
      exact ⟨ret_int (by rw [← HR.out, chooseV, HF.out, HK.out]; rfl), rfl⟩
    · obtain ⟨hk0, hkn⟩ := inB_true.1 hk
      have e1 : R = chTo n.toNat k.toNat k.toNat := by rw [← HR.out, chooseV, HF.out, hk]; rfl
      have E1 := Lib.hid e1
      clear hk e1
      obtain ⟨N, rfl⟩ := Int.eq_ofNat_of_zero_le hn0
      obtain ⟨K, rfl⟩ := Int.eq_ofNat_of_zero_le hk0
      go_wp2_with fail
      go_loop [5, 6] (fun ov iv => ∃ (i : Nat) (o : Int), iv = .int .i64 ((i : Int) + 1) ∧ ov = .int .i64 o ∧ i ≤ K ∧ Hid (chTo N K i = o)) (fun _ iv => K + 1 - (intOf iv).toNat)
      case atStart => exact ⟨0, 1, rfl, rfl, by omega, rfl⟩
      case round =>
        obtain ⟨i, o, rfl, rfl, hi, hc⟩ := hrel
        by_cases hik : i < K
        · have ht := ch_table N (by omega) K (by omega) i (by omega)
          rw [hc.out, Bool.and_eq_true, decide_eq_true_eq, decide_eq_true_eq] at ht
          obtain ⟨ht0, ht1⟩ := ht
          have hc1 : chTo N K (i + 1) = o * ((N : Int) - (K : Int) + ((i : Int) + 1)) / ((i : Int) + 1) := by rw [chTo, hc.out]
          have hq0 : 0 ≤ o * ((N : Int) - (K : Int) + ((i : Int) + 1)) := Int.mul_nonneg ht0 (by omega)
          have hq1 : 0 ≤ o * ((N : Int) - (K : Int) + ((i : Int) + 1)) / ((i : Int) + 1) := Int.ediv_nonneg hq0 (by omega)
          have hq2 : o * ((N : Int) - (K : Int) + ((i : Int) + 1)) / ((i : Int) + 1) ≤ o * ((N : Int) - (K : Int) + ((i : Int) + 1)) := Int.ediv_le_self _ hq0
          have HC := Lib.hid hc1
          clear hc1 hc
          go_wp2
          go_round
          case rel => exact ⟨i + 1, _, by go_num, rfl, by omega, HC⟩
          case measure => simp only [intOf]; omega
        · obtain rfl : i = K := by omega
          go_wp2
          go_ret
          exact ⟨ret_int (by rw [E1.out, Int.toNat_natCast, Int.toNat_natCast]; exact hc.out.symm), rfl⟩

set_option maxHeartbeats 800000 in
theorem implChoose_any (n k : Int) (w : World) :
    Calls Try.prog 119 #[.int .i64 n, .int .i64 k] w fun e w' => e = .returned (.int .i64 (chooseV n k)) ∧ w = w' := by
  generalize hR : chooseV n k = R
  have HR := Lib.hid hR
  clear hR
  go_enter Try.func119, Try.ntmps119
  go_wp2_with fail
  refine (within_any n 0 32 w).mono ?_
  rintro e w1 ⟨rfl, rfl⟩
  rcases hf : inB n 0 32 with _ | _
  · have HF := Lib.hid hf
    clear hf
    go_wp2
    go_ret
    exact ⟨ret_int (by rw [← HR.out, chooseV, HF.out]; rfl), rfl⟩
  · obtain ⟨hn0, hn32⟩ := inB_true.1 hf
    have HF := Lib.hid hf
    clear hf
    go_wp2_with fail
    refine (within_any k 0 n w).mono ?_
    rintro e w1 ⟨rfl, rfl⟩
    rcases hk : inB k 0 n with _ | _
    · have HK := Lib.hid hk
      clear hk
      go_wp2
      go_ret
      exact ⟨ret_int (by rw [← HR.out, chooseV, HF.out, HK.out]; rfl), rfl⟩
    · obtain ⟨hk0, hkn⟩ := inB_true.1 hk
      have e1 : R = chTo n.toNat k.toNat k.toNat := by rw [← HR.out, chooseV, HF.out, hk]; rfl
      have E1 := Lib.hid e1
      clear hk e1
      obtain ⟨N, rfl⟩ := Int.eq_ofNat_of_zero_le hn0
      obtain ⟨K, rfl⟩ := Int.eq_ofNat_of_zero_le hk0
      go_wp2_with fail
      go_loop [5, 6] (fun ov iv => ∃ (i : Nat) (o : Int), iv = .int .i64 ((i : Int) + 1) ∧ ov = .int .i64 o ∧ i ≤ K ∧ Hid (chTo N K i = o)) (fun _ iv => K + 1 - (intOf iv).toNat)
      case atStart => exact ⟨0, 1, rfl, rfl, by omega, rfl⟩
      case round =>
        obtain ⟨i, o, rfl, rfl, hi, hc⟩ := hrel
        by_cases hik : i < K
        · have ht := ch_table N (by omega) K (by omega) i (by omega)
          rw [hc.out, Bool.and_eq_true, decide_eq_true_eq, decide_eq_true_eq] at ht
          obtain ⟨ht0, ht1⟩ := ht
          have hc1 : chTo N K (i + 1) = o * ((N : Int) - (K : Int) + ((i : Int) + 1)) / ((i : Int) + 1) := by rw [chTo, hc.out]
          have hq0 : 0 ≤ o * ((N : Int) - (K : Int) + ((i : Int) + 1)) := Int.mul_nonneg ht0 (by omega)
          have hq1 : 0 ≤ o * ((N : Int) - (K : Int) + ((i : Int) + 1)) / ((i : Int) + 1) := Int.ediv_nonneg hq0 (by omega)
          have hq2 : o * ((N : Int) - (K : Int) + ((i : Int) + 1)) / ((i : Int) + 1) ≤ o * ((N : Int) - (K : Int) + ((i : Int) + 1)) := Int.ediv_le_self _ hq0
          have HC := Lib.hid hc1
          clear hc1 hc
          go_wp2
          go_round
          case rel => exact ⟨i + 1, _, by go_num, rfl, by omega, HC⟩
          case measure => simp only [intOf]; omega
        · obtain rfl : i = K := by omega
          go_wp2
          go_ret
          exact ⟨ret_int (by rw [E1.out, Int.toNat_natCast, Int.toNat_natCast]; exact hc.out.symm), rfl⟩

end Go.Proofs.Ytcblhjhabhjbkaa

/-
  Plain: binomials by Pascal's rows, the binomial theorem, sizes of balls.
-/
namespace Go.Proofs.Ytcblhjhabhjbkaa
open Go.RowKit

/-- Pascal's rows. -/
def prow : Nat → List Nat
  | 0 => [1]
  | n + 1 => List.zipWith (· + ·) (0 :: prow n) (prow n ++ [0])
def bin (n k : Nat) : Nat := (prow n).getD k 0
theorem prow_len (n : Nat) : (prow n).length = n + 1 := by
  induction n with
  | zero => rfl
  | succ n ih => simp [prow, ih]
theorem bin_zero (n : Nat) : bin n 0 = 1 := by
  induction n with
  | zero => rfl
  | succ n ih =>
    have h := prow_len n
    unfold bin at ih ⊢
    rw [prow]
    cases hp : prow n with
    | nil => rw [hp] at h; simp at h
    | cons x r => rw [hp] at ih; simp at ih ⊢; exact ih
theorem bin_succ (n k : Nat) : bin (n + 1) (k + 1) = bin n k + bin n (k + 1) := by
  have h := prow_len n
  unfold bin
  rw [prow]
  simp only [List.getD_eq_getElem?_getD, List.getElem?_zipWith, List.getElem?_cons_succ]
  rcases Nat.lt_or_ge (k + 1) (n + 1) with h1 | h1
  · rw [List.getElem?_append_left (by omega), List.getElem?_eq_getElem (by omega), List.getElem?_eq_getElem (by omega)]
    simp
  · rcases Nat.lt_or_ge k (n + 1) with h2 | h2
    · have : k + 1 = (prow n).length := by omega
      rw [List.getElem?_append_right (by omega), this, Nat.sub_self, List.getElem?_eq_getElem (show k < (prow n).length by omega)]
      simp
    · rw [List.getElem?_eq_none (show (prow n).length ≤ k by omega), List.getElem?_eq_none (show (prow n).length ≤ k + 1 by omega)]
      simp
theorem bin_big {n k : Nat} (h : n < k) : bin n k = 0 := by
  unfold bin
  rw [List.getD_eq_getElem?_getD, List.getElem?_eq_none (by rw [prow_len]; omega)]; rfl
theorem bin_table : ∀ n : Nat, n < 33 → ∀ k : Nat, k < n + 1 → chTo n k k = (bin n k : Int) := by decide +kernel
theorem chooseV_bin {n k : Nat} (hn : n ≤ 32) (hk : k ≤ n) : chooseV n k = (bin n k : Int) := by
  rw [chooseV, inB_yes (by omega) (by omega), inB_yes (by omega) (by omega)]
  simp only [Bool.and_self, if_true, Int.toNat_natCast]
  exact bin_table n (by omega) k (by omega)

/-! ### Sums -/
def sumTo (f : Nat → Int) : Nat → Int
  | 0 => 0
  | n + 1 => sumTo f n + f n
theorem sumTo_add (f g : Nat → Int) (n : Nat) : sumTo (fun i => f i + g i) n = sumTo f n + sumTo g n := by
  induction n with
  | zero => rfl
  | succ n ih => simp only [sumTo, ih]; omega
theorem sumTo_mul (c : Int) (f : Nat → Int) (n : Nat) : sumTo (fun i => c * f i) n = c * sumTo f n := by
  induction n with
  | zero => simp [sumTo]
  | succ n ih => simp only [sumTo, ih, Int.mul_add]
theorem sumTo_shift (f : Nat → Int) (n : Nat) : sumTo f (n + 1) = f 0 + sumTo (fun i => f (i + 1)) n := by
  induction n with
  | zero => simp [sumTo]
  | succ n ih => rw [sumTo, ih]; simp only [sumTo]; omega
theorem sumTo_congr {f g : Nat → Int} {n : Nat} (h : ∀ i, i < n → f i = g i) : sumTo f n = sumTo g n := by
  induction n with
  | zero => rfl
  | succ n ih => rw [sumTo, sumTo, ih (fun i hi => h i (by omega)), h n (by omega)]
theorem sumTo_nonneg {f : Nat → Int} {n : Nat} (h : ∀ i, i < n → 0 ≤ f i) : 0 ≤ sumTo f n := by
  induction n with
  | zero => exact Int.le_refl _
  | succ n ih =>
    have := ih (fun i hi => h i (by omega))
    have := h n (by omega)
    rw [sumTo]; omega
theorem sumTo_mono {f : Nat → Int} (h : ∀ i, 0 ≤ f i) {m n : Nat} (hmn : m ≤ n) : sumTo f m ≤ sumTo f n := by
  induction n with
  | zero => obtain rfl : m = 0 := by omega
            exact Int.le_refl _
  | succ n ih =>
    by_cases e : m = n + 1
    · subst e; exact Int.le_refl _
    · have := ih (by omega)
      have := h n
      rw [sumTo]; omega

theorem binomial (a : Int) (n : Nat) : sumTo (fun i => (bin n i : Int) * a ^ i) (n + 1) = (a + 1) ^ n := by
  induction n with
  | zero => simp [sumTo, bin, prow]
  | succ n ih =>
    rw [sumTo_shift]
    have e1 : sumTo (fun i => (bin (n + 1) (i + 1) : Int) * a ^ (i + 1)) (n + 1) =
        sumTo (fun i => a * ((bin n i : Int) * a ^ i) + (bin n (i + 1) : Int) * a ^ (i + 1)) (n + 1) := by
      apply sumTo_congr
      intro i _
      rw [bin_succ, Int.natCast_add, Int.add_mul, Int.pow_succ, ← Int.mul_assoc, Int.mul_comm _ a]
    rw [e1, sumTo_add, sumTo_mul, ih]
    have e2 : sumTo (fun i => (bin n (i + 1) : Int) * a ^ (i + 1)) (n + 1) = sumTo (fun i => (bin n (i + 1) : Int) * a ^ (i + 1)) n := by
      rw [sumTo, bin_big (show n < n + 1 by omega)]; simp
    rw [e2]
    rw [sumTo_shift] at ih
    simp only [bin_zero, Int.natCast_one, Int.pow_zero, Int.mul_one] at ih ⊢
    rw [Int.pow_succ, Int.mul_add, Int.mul_one, Int.mul_comm]
    omega

/-! ### Balls -/
def ballT (q : Int) (n : Nat) (i : Nat) : Int := chooseV n i * (q - 1) ^ i
def ballV (q : Int) (n r : Nat) : Int := sumTo (ballT q n) (r + 1)
theorem chooseV_nonneg {n : Nat} (hn : n ≤ 32) (i : Nat) : 0 ≤ chooseV n i := by
  by_cases h : i ≤ n
  · rw [chooseV_bin hn h]; omega
  · rw [chooseV, inB_no2 (show ¬ (i : Int) ≤ n by omega)]; simp
theorem ballT_nonneg {q : Int} (hq : 1 ≤ q) {n : Nat} (hn : n ≤ 32) (i : Nat) : 0 ≤ ballT q n i :=
  Int.mul_nonneg (chooseV_nonneg hn i) (Int.pow_nonneg (by omega))
theorem ball_all {q : Int} {n : Nat} (hn : n ≤ 32) : sumTo (ballT q n) (n + 1) = q ^ n := by
  have h := binomial (q - 1) n
  rw [Int.sub_add_cancel] at h
  rw [← h]
  apply sumTo_congr
  intro i hi
  rw [ballT, chooseV_bin hn (by omega)]
theorem ball_le {q : Int} (hq : 1 ≤ q) {n : Nat} (hn : n ≤ 32) {r : Nat} (hr : r ≤ n + 1) : sumTo (ballT q n) r ≤ q ^ n := by
  rw [← ball_all hn]
  exact sumTo_mono (ballT_nonneg hq hn) hr
theorem ballT_le {q : Int} (hq : 1 ≤ q) {n : Nat} (hn : n ≤ 32) {i : Nat} (hi : i ≤ n) : ballT q n i ≤ q ^ n := by
  have h1 := ball_le hq hn (show i + 1 ≤ n + 1 by omega)
  have h2 : 0 ≤ sumTo (ballT q n) i := sumTo_nonneg (fun j _ => ballT_nonneg hq hn j)
  rw [sumTo] at h1
  omega
theorem ball_pos {q : Int} (hq : 1 ≤ q) {n : Nat} (hn : n ≤ 32) (r : Nat) : 1 ≤ ballV q n r := by
  have h0 : ballT q n 0 = 1 := by
    rw [ballT]
    have h := chooseV_bin hn (Nat.zero_le n)
    rw [bin_zero] at h
    simp only [Int.pow_zero, Int.mul_one]
    exact h
  have := sumTo_mono (ballT_nonneg hq hn) (show 1 ≤ r + 1 by omega)
  have e : sumTo (ballT q n) 1 = 1 := by simp [sumTo, h0]
  unfold ballV
  omega
/-- A capped power that is not above the bound is the power. -/
theorem capTo_eq {b l : Int} (hb : 1 ≤ b) {m : Nat} (h : capTo b l m ≤ l) : capTo b l m = b ^ m := by
  induction m with
  | zero => simp [capTo]
  | succ m ih =>
    have h1 := capTo_anti (show m ≤ m + 1 by omega) h
    rw [capTo_go h1, ih h1, Int.pow_succ]
end Go.Proofs.Ytcblhjhabhjbkaa

/-
  Walks of l19Ball, ballSize, both BallSize, both HammingBound.
-/
namespace Go.Proofs.Ytcblhjhabhjbkaa
open Go.RowKit

theorem pow_le_LIM {q : Int} (hq : 2 ≤ q) {n i : Nat} (h : q ^ n ≤ LIM) (hi : i ≤ n) : (q - 1) ^ i ≤ LIM :=
  Int.le_trans (pow_base (by omega) (show q - 1 ≤ q by omega) i) (Int.le_trans (pow_mono (by omega) hi) h)
theorem powS_eq {b : Int} (hb : 1 ≤ b) {m : Nat} (h : b ^ m ≤ LIM) : powS b m = b ^ m := by
  have := capTo_pow hb m h
  rw [powS_yes (by rw [this]; exact h), this]
theorem ballV_eq (q : Int) (n r : Nat) : ballV q n r = sumTo (ballT q n) (r + 1) := rfl

/-- What BallSize returns. -/
def ballRes (q n r : Int) : Int × Int := if isSpaceB q n && inB r 0 n then (ballV q n.toNat r.toNat, 0) else (0, 2)
/-- What HammingBound returns. -/
def hamRes (q n d : Int) : Int × Int := if isSpaceB q n && inB d 1 n then (q ^ n.toNat / ballV q n.toNat ((d - 1) / 2).toNat, 0) else (0, 2)

end Go.Proofs.Ytcblhjhabhjbkaa

