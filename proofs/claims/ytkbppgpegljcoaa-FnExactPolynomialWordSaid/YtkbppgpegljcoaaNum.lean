/-
  Walks of small functions on numbers: within, l00In, powerUpTo, size.
-/
import Derived.Test.YtkbppgpegljcoaaFld
namespace Go.Proofs.Ytkbppgpegljcoaa
open Go.RowKit

def inB (n lo hi : Int) : Bool := decide (lo ≤ n ∧ n ≤ hi)
theorem inB_yes {n lo hi : Int} (h1 : lo ≤ n) (h2 : n ≤ hi) : inB n lo hi = true := by simp [inB, h1, h2]
theorem inB_no1 {n lo hi : Int} (h1 : ¬ lo ≤ n) : inB n lo hi = false := by simp [inB, h1]
theorem inB_no2 {n lo hi : Int} (h1 : ¬ n ≤ hi) : inB n lo hi = false := by simp [inB, h1]
theorem inB_true {n lo hi : Int} : inB n lo hi = true ↔ lo ≤ n ∧ n ≤ hi := by simp [inB]

theorem within_any (n lo hi : Int) (w : World) : Calls Try.prog 61 #[.int .i64 n, .int .i64 lo, .int .i64 hi] w fun e w' => e = .returned (.bool (inB n lo hi)) ∧ w = w' := by
  by_cases h1 : lo ≤ n
  · by_cases h2 : n ≤ hi
    · go_enter Try.func61, Try.ntmps61
      go_wp2
      go_ret
      exact ⟨ret_bool (by simp [inB, h1, h2]), rfl⟩
    · go_enter Try.func61, Try.ntmps61
      go_wp2
      go_ret
      exact ⟨ret_bool (by rw [inB_no2 (by omega)]), rfl⟩
  · go_enter Try.func61, Try.ntmps61
    go_wp2
    go_ret
    exact ⟨ret_bool (by rw [inB_no1 (by omega)]), rfl⟩

theorem l00In_any (n lo hi : Int) (w : World) : Calls Try.prog 58 #[.int .i64 n, .int .i64 lo, .int .i64 hi] w fun e w' => e = .returned (.bool (inB n lo hi)) ∧ w = w' := by
  by_cases h1 : lo ≤ n
  · by_cases h2 : n ≤ hi
    · go_enter Try.func58, Try.ntmps58
      go_wp2
      go_ret
      exact ⟨ret_bool (by simp [inB, h1, h2]), rfl⟩
    · go_enter Try.func58, Try.ntmps58
      go_wp2
      go_ret
      exact ⟨ret_bool (by rw [inB_no2 (by omega)]), rfl⟩
  · go_enter Try.func58, Try.ntmps58
    go_wp2
    go_ret
    exact ⟨ret_bool (by rw [inB_no1 (by omega)]), rfl⟩

set_option maxHeartbeats 400000 in
theorem powerUpTo_any (b ex l : Int) (w : World) (hb : 1 ≤ b) (hb2 : b ≤ 1000000) (hl : 1 ≤ l) (hl2 : l ≤ 1000000000000) (hex : ex ≤ 9223372036854775807) :
    Calls Try.prog 64 #[.int .i64 b, .int .i64 ex, .int .i64 l] w fun e w' => e = .returned (.int .i64 (capTo b l ex.toNat)) ∧ w = w' := by
  go_enter Try.func64, Try.ntmps64
  go_wp2
  go_loop [1, 7] (fun ev pv => ∃ (k : Nat) (x y : Int), ev = .int .i64 x ∧ pv = .int .i64 y ∧ Hid (x = ex - k) ∧ Hid (y = capTo b l k) ∧ Hid (k ≤ ex.toNat) ∧ x ≤ 9223372036854775807 ∧ (1 ≤ y)) (fun ev _ => (intOf ev).toNat)
  case atStart => exact ⟨0, ex, 1, rfl, rfl, show _ = _ by simp, rfl, Nat.zero_le _, hex, by omega⟩
  case round =>
    obtain ⟨k, x, y, rfl, rfl, hX, hY, hK, hx, hy⟩ := hrel
    by_cases h1 : 0 < x
    · by_cases h2 : y ≤ l
      · have h3 : y * b ≤ l * 1000000 := by
          have e1 := Int.mul_le_mul_of_nonneg_right h2 (show 0 ≤ b by omega)
          have e2 := Int.mul_le_mul_of_nonneg_left hb2 (show 0 ≤ l by omega)
          omega
        have h4 : 1 ≤ y * b := by
          have := Int.mul_le_mul hy hb (by omega) (by omega)
          omega
        go_wp2
        go_round
        case rel =>
          have hyy := hY.out
          have hkk := hX.out
          exact ⟨k + 1, x - 1, y * b, rfl, rfl, show _ = _ by omega, show _ = _ by rw [capTo_go (by rw [← hyy]; exact h2), hyy], show _ ≤ _ by omega, by omega, h4⟩
        case measure => simp [intOf]; omega
      · go_wp2
        go_ret
        have hkk := hK.out
        have hyy := hY.out
        refine ⟨ret_int ?_, rfl⟩
        rw [hyy, capTo_stop (k := k) (by rw [← hyy]; omega) _ hkk]
    · go_wp2
      go_ret
      have hkk := hK.out
      have hxx := hX.out
      have hyy := hY.out
      refine ⟨ret_int ?_, rfl⟩
      rw [hyy]
      congr 1
      omega
end Go.Proofs.Ytkbppgpegljcoaa
