/-
  Binomials: the plain function, its tables; walks of both Choose. Printed by gen_choose.py.
-/
import Derived.Test.YtkbppgpegljcoaaFields
namespace Go.Proofs.Ytkbppgpegljcoaa
open Go.RowKit

def chTo (n k : Nat) : Nat → Int
  | 0 => 1
  | i + 1 => chTo n k i * ((n : Int) - (k : Int) + ((i : Int) + 1)) / ((i : Int) + 1)
/-- The first i rounds stay small. -/
def chOk (n k : Nat) : Bool := (List.range k).all fun (i : Nat) => decide (0 ≤ chTo n k i) && decide (chTo n k i * ((n : Int) - (k : Int) + ((i : Int) + 1)) ≤ 1000000000000)
theorem chOk_table : ∀ n : Nat, n < 33 → ∀ k : Nat, k < n + 1 → chOk n k = true := by decide +kernel
theorem ch_table (n : Nat) (hn : n < 33) (k : Nat) (hk : k < n + 1) (i : Nat) (hi : i < k) : (decide (0 ≤ chTo n k i) && decide (chTo n k i * ((n : Int) - (k : Int) + ((i : Int) + 1)) ≤ 1000000000000)) = true := by
  have := chOk_table n hn k hk
  rw [chOk, List.all_eq_true] at this
  exact this i (List.mem_range.2 hi)
/-- How many subsets of a size there are. -/
def chooseV (n k : Int) : Int := if inB n 0 32 && inB k 0 n then chTo n.toNat k.toNat k.toNat else 0

set_option maxHeartbeats 800000 in
theorem specChoose_any (n k : Int) (w : World) :
    Calls Try.prog 119 #[.int .i64 n, .int .i64 k] w fun e w' => e = .returned (.int .i64 (chooseV n k)) ∧ w = w' := by
  generalize hR : chooseV n k = R
  have HR := Lib.hid hR
  clear hR
  go_enter Try.func119, Try.ntmps119
  go_wp2_with fail
  refine (l00In_any n 0 32 w).mono ?_
  rintro e w1 ⟨rfl, rfl⟩
  rcases hf : inB n 0 32 with _ | _
  · have HF := Lib.hid hf
    clear hf
    go_wp2
    go_ret
    exact ⟨ret_int (by rw [← HR.out, chooseV, HF.out]; rfl), rfl⟩
  · obtain ⟨hn0, hn32⟩ := inB_true.1 hf
    have HF := Lib.hid hf
    clear hf
    go_wp2_with fail
    refine (l00In_any k 0 n w).mono ?_
    rintro e w1 ⟨rfl, rfl⟩
    rcases hk : inB k 0 n with _ | _
    · have HK := Lib.hid hk
      clear hk
      go_wp2
      go_ret
      exact ⟨ret_int (by rw [← HR.out, chooseV, HF.out, HK.out]; rfl), rfl⟩
    · obtain ⟨hk0, hkn⟩ := inB_true.1 hk
      have e1 : R = chTo n.toNat k.toNat k.toNat := by rw [← HR.out, chooseV, HF.out, hk]; rfl
      have E1 := Lib.hid e1
      clear hk e1
      obtain ⟨N, rfl⟩ := Int.eq_ofNat_of_zero_le hn0
      obtain ⟨K, rfl⟩ := Int.eq_ofNat_of_zero_le hk0
      go_wp2_with fail
      go_loop [5, 6] (fun ov iv => ∃ (i : Nat) (o : Int), iv = .int .i64 ((i : Int) + 1) ∧ ov = .int .i64 o ∧ i ≤ K ∧ Hid (chTo N K i = o)) (fun _ iv => K + 1 - (intOf iv).toNat)
      case atStart => exact ⟨0, 1, rfl, rfl, by omega, rfl⟩
      case round =>
        obtain ⟨i, o, rfl, rfl, hi, hc⟩ := hrel
        by_cases hik : i < K
        · have ht := ch_table N (by omega) K (by omega) i (by omega)
          rw [hc.out, Bool.and_eq_true, decide_eq_true_eq, decide_eq_true_eq] at ht
          obtain ⟨ht0, ht1⟩ := ht
          have hc1 : chTo N K (i + 1) = o * ((N : Int) - (K : Int) + ((i : Int) + 1)) / ((i : Int) + 1) := by rw [chTo, hc.out]
          have hq0 : 0 ≤ o * ((N : Int) - (K : Int) + ((i : Int) + 1)) := Int.mul_nonneg ht0 (by omega)
          have hq1 : 0 ≤ o * ((N : Int) - (K : Int) + ((i : Int) + 1)) / ((i : Int) + 1) := Int.ediv_nonneg hq0 (by omega)
          have hq2 : o * ((N : Int) - (K : Int) + ((i : Int) + 1)) / ((i : Int) + 1) ≤ o * ((N : Int) - (K : Int) + ((i : Int) + 1)) := Int.ediv_le_self _ hq0
          have HC := Lib.hid hc1
          clear hc1 hc
          go_wp2
          go_round
          case rel => exact ⟨i + 1, _, by go_num, rfl, by omega, HC⟩
          case measure => simp only [intOf]; omega
        · obtain rfl : i = K := by omega
          go_wp2
          go_ret
          exact ⟨ret_int (by rw [E1.out, Int.toNat_natCast, Int.toNat_natCast]; exact hc.out.symm), rfl⟩

set_option maxHeartbeats 800000 in
theorem implChoose_any (n k : Int) (w : World) :
    Calls Try.prog 120 #[.int .i64 n, .int .i64 k] w fun e w' => e = .returned (.int .i64 (chooseV n k)) ∧ w = w' := by
  generalize hR : chooseV n k = R
  have HR := Lib.hid hR
  clear hR
  go_enter Try.func120, Try.ntmps120
  go_wp2_with fail
  refine (within_any n 0 32 w).mono ?_
  rintro e w1 ⟨rfl, rfl⟩
  rcases hf : inB n 0 32 with _ | _
  · have HF := Lib.hid hf
    clear hf
    go_wp2
    go_ret
    exact ⟨ret_int (by rw [← HR.out, chooseV, HF.out]; rfl), rfl⟩
  · obtain ⟨hn0, hn32⟩ := inB_true.1 hf
    have HF := Lib.hid hf
    clear hf
    go_wp2_with fail
    refine (within_any k 0 n w).mono ?_
    rintro e w1 ⟨rfl, rfl⟩
    rcases hk : inB k 0 n with _ | _
    · have HK := Lib.hid hk
      clear hk
      go_wp2
      go_ret
      exact ⟨ret_int (by rw [← HR.out, chooseV, HF.out, HK.out]; rfl), rfl⟩
    · obtain ⟨hk0, hkn⟩ := inB_true.1 hk
      have e1 : R = chTo n.toNat k.toNat k.toNat := by rw [← HR.out, chooseV, HF.out, hk]; rfl
      have E1 := Lib.hid e1
      clear hk e1
      obtain ⟨N, rfl⟩ := Int.eq_ofNat_of_zero_le hn0
      obtain ⟨K, rfl⟩ := Int.eq_ofNat_of_zero_le hk0
      go_wp2_with fail
      go_loop [5, 6] (fun ov iv => ∃ (i : Nat) (o : Int), iv = .int .i64 ((i : Int) + 1) ∧ ov = .int .i64 o ∧ i ≤ K ∧ Hid (chTo N K i = o)) (fun _ iv => K + 1 - (intOf iv).toNat)
      case atStart => exact ⟨0, 1, rfl, rfl, by omega, rfl⟩
      case round =>
        obtain ⟨i, o, rfl, rfl, hi, hc⟩ := hrel
        by_cases hik : i < K
        · have ht := ch_table N (by omega) K (by omega) i (by omega)
          rw [hc.out, Bool.and_eq_true, decide_eq_true_eq, decide_eq_true_eq] at ht
          obtain ⟨ht0, ht1⟩ := ht
          have hc1 : chTo N K (i + 1) = o * ((N : Int) - (K : Int) + ((i : Int) + 1)) / ((i : Int) + 1) := by rw [chTo, hc.out]
          have hq0 : 0 ≤ o * ((N : Int) - (K : Int) + ((i : Int) + 1)) := Int.mul_nonneg ht0 (by omega)
          have hq1 : 0 ≤ o * ((N : Int) - (K : Int) + ((i : Int) + 1)) / ((i : Int) + 1) := Int.ediv_nonneg hq0 (by omega)
          have hq2 : o * ((N : Int) - (K : Int) + ((i : Int) + 1)) / ((i : Int) + 1) ≤ o * ((N : Int) - (K : Int) + ((i : Int) + 1)) := Int.ediv_le_self _ hq0
          have HC := Lib.hid hc1
          clear hc1 hc
          go_wp2
          go_round
          case rel => exact ⟨i + 1, _, by go_num, rfl, by omega, HC⟩
          case measure => simp only [intOf]; omega
        · obtain rfl : i = K := by omega
          go_wp2
          go_ret
          exact ⟨ret_int (by rw [E1.out, Int.toNat_natCast, Int.toNat_natCast]; exact hc.out.symm), rfl⟩

end Go.Proofs.Ytkbppgpegljcoaa
