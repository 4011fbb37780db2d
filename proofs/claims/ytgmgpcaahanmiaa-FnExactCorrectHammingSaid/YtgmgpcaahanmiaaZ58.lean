/-
  Plain mathematics: the check columns, in order; how many there are.
-/
import Derived.BigQuiet
import Derived.Deep.DeepCutAuto
import Derived.Deep.DeepMust
import Derived.Deep.DrawnRows
import Derived.Deep.Draws
import Derived.Deep.OwnRows
import Derived.Deep.QuietTactic
import Derived.Deep.RegionHeld3
import Derived.Laws.Rows
import Derived.Lib.Hide
import Derived.Maps.AppendAt
import Derived.StillTailTactics
import Derived.Test.YtgmgpcaahanmiaaProg
import Derived.WalkKit
import Derived.WalkLawsBesides
import Derived.WalkSpells
import Derived.Test.YtgmgpcaahanmiaaZ7
import Derived.Test.YtgmgpcaahanmiaaZ25
set_option linter.unusedVariables false
set_option linter.unusedSimpArgs false
namespace Go.Proofs.Ytgmgpcaahanmiaa
open Go.RowKit

/-- The first element that is not zero, or zero. -/
def lead : List Int → Int
  | [] => 0
  | x :: xs => if x = 0 then lead xs else x
theorem lead_app (l : List Int) (x : Int) : lead (l ++ [x]) = if lead l = 0 then x else lead l := by
  induction l with
  | nil =>
    show (if x = 0 then (0 : Int) else x) = x
    split <;> omega
  | cons y ys ih =>
    rw [List.cons_append, lead, lead]
    by_cases h : y = 0
    · rw [if_pos h, if_pos h, ih]
    · rw [if_neg h, if_neg h, if_neg h]
theorem lead_zero {l : List Int} (h : lead l = 0) : ∀ x ∈ l, x = 0 := by
  induction l with
  | nil => intro x hx; exact absurd hx List.not_mem_nil
  | cons y ys ih =>
    rw [lead] at h
    by_cases hy : y = 0
    · rw [if_pos hy] at h
      intro x hx
      rcases List.mem_cons.1 hx with rfl | hx
      · exact hy
      · exact ih h x hx
    · rw [if_neg hy] at h
      exact absurd h hy
theorem lead_of_zero {l : List Int} (h : ∀ x ∈ l, x = 0) : lead l = 0 := by
  induction l with
  | nil => rfl
  | cons y ys ih => rw [lead, if_pos (h y List.mem_cons_self)]; exact ih fun x hx => h x (List.mem_cons_of_mem _ hx)
/-- Where the first element other than zero stands, if there is one. -/
theorem lead_at {l : List Int} (h : lead l ≠ 0) : ∃ k, k < l.length ∧ nth l k = lead l ∧ nth l k ≠ 0 ∧ (∀ j, j < k → nth l j = 0) := by
  induction l with
  | nil => exact absurd rfl h
  | cons y ys ih =>
    rw [lead] at h ⊢
    by_cases hy : y = 0
    · rw [if_pos hy] at h ⊢
      obtain ⟨k, h1, h2, h3, h4⟩ := ih h
      refine ⟨k + 1, by simp; omega, by simpa [nth] using h2, by simpa [nth] using h3, fun j hj => ?_⟩
      cases j with
      | zero => simpa [nth] using hy
      | succ j => simpa [nth] using h4 j (by omega)
    · rw [if_neg hy]
      exact ⟨0, by simp, by simp [nth], by simpa [nth] using hy, fun j hj => absurd hj (Nat.not_lt_zero j)⟩
theorem lead_first {l : List Int} (h : lead l ≠ 0) : ∃ k, k < l.length ∧ nth l k = lead l ∧ nth l k ≠ 0 ∧ (∀ j, j < k → nth l j = 0) ∧ firstOf (fun x => x != 0) l = (k : Int) := by
  obtain ⟨k, h1, h2, h3, h4⟩ := lead_at h
  exact ⟨k, h1, h2, h3, h4, firstOf_yes h1 (by simpa using h3) (fun j hj => by simpa using h4 j hj)⟩
theorem lead_none {l : List Int} (h : lead l = 0) : firstOf (fun x => x != 0) l = -1 := firstOf_no (fun j hj => by simpa using lead_zero h _ (nth_mem hj))
theorem lead_bd {l : List Int} {q : Int} (hq : 0 < q) (h : ∀ x ∈ l, 0 ≤ x ∧ x < q) : 0 ≤ lead l ∧ lead l < q := by
  by_cases h0 : lead l = 0
  · omega
  · obtain ⟨k, h1, h2, _⟩ := lead_at h0
    rw [← h2]
    exact h _ (nth_mem h1)
theorem hig_zero (q k : Nat) : hig 0 q k = zeros k := by
  rw [hig, show ((0 : Nat) : Int) = 0 from rfl, dig_zero, List.reverse_replicate, zeros]
theorem lead_hig_zero {q : Nat} (hq : 0 < q) : ∀ k J : Nat, J < q ^ k → lead (hig J q k) = 0 → J = 0 := by
  intro k
  induction k with
  | zero => intro J h _; simpa using h
  | succ k ih =>
    intro J h hl
    have hd : J / q < q ^ k := Nat.div_lt_of_lt_mul (by rw [Nat.mul_comm]; exact h)
    have hm := Nat.mod_lt J hq
    have e : J = J / q * q + J % q := by rw [Nat.mul_comm]; exact (Nat.div_add_mod J q).symm
    rw [e, hig_succ _ _ hm, lead_app] at hl
    by_cases h0 : lead (hig (J / q) q k) = 0
    · rw [if_pos h0] at hl
      have h1 := ih _ hd h0
      have h2 : J % q = 0 := by omega
      rw [e, h1, h2, Nat.zero_mul]
    · rw [if_neg h0] at hl
      exact absurd hl h0
theorem lead_hig_pos {q : Nat} (hq : 0 < q) {k J : Nat} (h : J < q ^ k) (h1 : 0 < J) : lead (hig J q k) ≠ 0 := fun e => by
  have := lead_hig_zero hq k J h e
  omega
/-- The check columns among the first N vectors. -/
def colsUp (q r : Nat) : Nat → List (List Int)
  | 0 => []
  | N + 1 => if lead (hig N q r) = 1 then colsUp q r N ++ [hig N q r] else colsUp q r N
theorem colsUp_yes {q r N : Nat} (h : lead (hig N q r) = 1) : colsUp q r (N + 1) = colsUp q r N ++ [hig N q r] := by rw [colsUp, if_pos h]
theorem colsUp_no {q r N : Nat} (h : lead (hig N q r) ≠ 1) : colsUp q r (N + 1) = colsUp q r N := by rw [colsUp, if_neg h]
theorem colsUp_one (q r : Nat) : colsUp q r 1 = [] := by
  rw [colsUp, hig_zero, lead_of_zero (fun x hx => by rw [zeros, List.mem_replicate] at hx; exact hx.2)]
  rfl
theorem colsUp_step (q r N : Nat) : (colsUp q r N).length ≤ (colsUp q r (N + 1)).length := by
  rw [colsUp]
  split
  · simp
  · exact Nat.le_refl _
theorem colsUp_mono (q r : Nat) {N M : Nat} (h : N ≤ M) : (colsUp q r N).length ≤ (colsUp q r M).length := by
  induction M with
  | zero => rw [Nat.le_zero.1 h]; exact Nat.le_refl _
  | succ M ih =>
    rcases Nat.lt_or_ge M N with h1 | h1
    · rw [show N = M + 1 by omega]; exact Nat.le_refl _
    · exact Nat.le_trans (ih h1) (colsUp_step q r M)
theorem colsUp_mem {q r N : Nat} {c : List Int} (h : c ∈ colsUp q r N) : ∃ j, j < N ∧ c = hig j q r ∧ lead c = 1 := by
  induction N with
  | zero => exact absurd h List.not_mem_nil
  | succ N ih =>
    rw [colsUp] at h
    split at h
    · next h1 =>
      rcases List.mem_append.1 h with h2 | h2
      · obtain ⟨j, hj, e⟩ := ih h2
        exact ⟨j, by omega, e⟩
      · rw [List.mem_singleton] at h2
        exact ⟨N, by omega, h2, by rw [h2]; exact h1⟩
    · obtain ⟨j, hj, e⟩ := ih h
      exact ⟨j, by omega, e⟩
theorem colsUp_has {q r N j : Nat} (hj : j < N) (h : lead (hig j q r) = 1) : hig j q r ∈ colsUp q r N := by
  induction N with
  | zero => omega
  | succ N ih =>
    rw [colsUp]
    rcases Nat.lt_succ_iff_lt_or_eq.1 hj with h1 | rfl
    · split
      · exact List.mem_append_left _ (ih h1)
      · exact ih h1
    · rw [if_pos h]
      simp
theorem colsUp_el {q r N : Nat} (hq : 0 < q) : ∀ c ∈ colsUp q r N, c.length = r ∧ ∀ x ∈ c, 0 ≤ x ∧ x < q := by
  intro c hc
  obtain ⟨j, _, rfl, _⟩ := colsUp_mem hc
  exact ⟨hig_len _ _ _, hig_el j hq r⟩
/-- 1 + q + .. + q^(k - 1). -/
def many (q : Nat) : Nat → Nat
  | 0 => 0
  | k + 1 => q * many q k + 1
theorem many_pow (q k : Nat) : many q (k + 1) = many q k + q ^ k := by
  induction k with
  | zero => simp [many]
  | succ k ih =>
    show q * many q (k + 1) + 1 = (q * many q k + 1) + q ^ (k + 1)
    rw [ih, Nat.mul_add, Nat.pow_succ, Nat.mul_comm (q ^ k) q]
    omega
theorem many_mono (q k : Nat) : many q k ≤ many q (k + 1) := by rw [many_pow]; omega
theorem many_le (q : Nat) {i j : Nat} (h : i ≤ j) : many q i ≤ many q j := by
  induction j with
  | zero => rw [Nat.le_zero.1 h]; exact Nat.le_refl _
  | succ j ih =>
    rcases Nat.lt_or_ge j i with h1 | h1
    · rw [show i = j + 1 by omega]; exact Nat.le_refl _
    · exact Nat.le_trans (ih h1) (many_mono q j)
theorem pow_le_many (q k : Nat) : q ^ k ≤ many q (k + 1) := by rw [many_pow]; omega
theorem colsUp_block (q k J : Nat) : ∀ x, x ≤ q → (colsUp q (k + 1) (J * q + x)).length = (colsUp q (k + 1) (J * q)).length + (if lead (hig J q k) = 0 then (if 2 ≤ x then 1 else 0) else if lead (hig J q k) = 1 then x else 0) := by
  intro x
  induction x with
  | zero => intro _; simp
  | succ x ih =>
    intro hx
    have ih := ih (by omega)
    rw [show J * q + (x + 1) = J * q + x + 1 by omega, colsUp, hig_succ J x (by omega) k, lead_app]
    by_cases h0 : lead (hig J q k) = 0
    · rw [if_pos h0] at ih ⊢
      rw [if_pos h0]
      by_cases hx1 : x = 1
      · subst hx1
        rw [if_pos (by rfl), List.length_append, ih]
        simp
      · rw [if_neg (by omega), ih]
        congr 1
        by_cases h2 : 2 ≤ x
        · rw [if_pos h2, if_pos (by omega)]
        · rw [if_neg h2, if_neg (by omega)]
    · rw [if_neg h0] at ih ⊢
      rw [if_neg h0]
      by_cases h1 : lead (hig J q k) = 1
      · rw [if_pos h1] at ih ⊢
        rw [if_pos h1, List.length_append, ih]
        rfl
      · rw [if_neg h1] at ih ⊢
        rw [if_neg h1, ih]
theorem colsUp_mul {q : Nat} (hq : 2 ≤ q) (k : Nat) : ∀ J, J ≤ q ^ k → (colsUp q (k + 1) (J * q)).length = q * (colsUp q k J).length + (if J = 0 then 0 else 1) := by
  intro J
  induction J with
  | zero => intro _; simp [colsUp]
  | succ J ih =>
    intro hJ
    have ih := ih (by omega)
    rw [Nat.succ_mul, colsUp_block q k J q (Nat.le_refl _), ih, if_neg (Nat.succ_ne_zero J)]
    by_cases hz : J = 0
    · subst hz
      rw [if_pos rfl, hig_zero, if_pos (lead_of_zero (fun x hx => by rw [zeros, List.mem_replicate] at hx; exact hx.2)), if_pos hq, colsUp_one]
      simp [colsUp]
    · have hp := lead_hig_pos (show 0 < q by omega) (show J < q ^ k by omega) (by omega)
      rw [if_neg hz, if_neg hp]
      by_cases h1 : lead (hig J q k) = 1
      · rw [if_pos h1, colsUp_yes h1, List.length_append, Nat.mul_add]
        simp only [List.length_singleton]
        omega
      · rw [if_neg h1, colsUp_no h1]
theorem colsUp_len {q : Nat} (hq : 2 ≤ q) (k : Nat) : (colsUp q k (q ^ k)).length = many q k := by
  induction k with
  | zero =>
    show (colsUp q 0 1).length = 0
    rw [colsUp_one]
    rfl
  | succ k ih =>
    have hp : 0 < q ^ k := Nat.pow_pos (by omega)
    rw [Nat.pow_succ, colsUp_mul hq k _ (Nat.le_refl _), ih, if_neg (by omega), many]
theorem pow_cap16 {q R : Nat} (h2 : 2 ≤ q) (h64 : q ≤ 64) (hR : R ≤ 4) : q ^ R ≤ 16777216 := by
  have h1 : q ^ R ≤ 64 ^ R := Nat.pow_le_pow_left h64 R
  have h3 : 64 ^ R ≤ 64 ^ 4 := Nat.pow_le_pow_right (by omega) hR
  have h4 : (64 : Nat) ^ 4 = 16777216 := by decide
  omega
/-- There are not too many check columns. -/
def colsOk (q r : Int) : Bool := inB r 2 4 && decide (many q.toNat r.toNat ≤ 32)
theorem colsOk_true {q r : Int} (h : colsOk q r = true) : 2 ≤ r ∧ r ≤ 4 ∧ many q.toNat r.toNat ≤ 32 := by
  rw [colsOk, Bool.and_eq_true, decide_eq_true_eq] at h
  have := inB_true.1 h.1
  exact ⟨this.1, this.2, h.2⟩
/-- The check columns. -/
def hcols (q r : Int) : List (List Int) := colsUp q.toNat r.toNat (q.toNat ^ r.toNat)
theorem hcols_len {q r : Int} (hq : 2 ≤ q) : (hcols q r).length = many q.toNat r.toNat := colsUp_len (by omega) _
theorem hcols_el {q r : Int} (hq : 2 ≤ q) (hr : 0 ≤ r) : ∀ c ∈ hcols q r, c.length = r.toNat ∧ ∀ x ∈ c, 0 ≤ x ∧ x < q := by
  intro c hc
  have h := colsUp_el (show 0 < q.toNat by omega) c hc
  exact ⟨h.1, fun x hx => by have := h.2 x hx; omega⟩
theorem many_two {q : Nat} (hq : 2 ≤ q) {r : Nat} (hr : 2 ≤ r) : q + 1 ≤ many q r := by
  obtain ⟨k, rfl⟩ : ∃ k, r = k + 2 := ⟨r - 2, by omega⟩
  have h : 1 ≤ many q (k + 1) := by rw [many]; omega
  have h2 : q * 1 ≤ q * many q (k + 1) := Nat.mul_le_mul_left q h
  rw [many]
  omega
end Go.Proofs.Ytgmgpcaahanmiaa

