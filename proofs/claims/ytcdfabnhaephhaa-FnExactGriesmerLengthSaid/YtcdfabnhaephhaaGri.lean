/-
  Walks of l19Field and of both GriesmerLength; the plain law.
-/
import Derived.Test.YtcdfabnhaephhaaMake2
namespace Go.Proofs.Ytcdfabnhaephhaa
open Go.RowKit

theorem l19Field_any (q : Int) (w : World) : Calls Try.prog 40 #[.int .i64 q] w fun e w' => e = .returned (.bool (isField q)) ∧ w = w' := by
  have hc := l03Split_any q w
  unfold isField
  generalize hs : (split q).1 = s at hc
  have HC := hide hc
  clear hc hs
  by_cases h0 : 0 < s
  · go_enter Try.func40, Try.ntmps40
    go_wp2_with fail
    refine (unhide HC).mono ?_
    rintro e w1 ⟨rfl, rfl⟩
    go_wp2
    go_ret
    exact ⟨ret_bool (by simp [h0]), rfl⟩
  · go_enter Try.func40, Try.ntmps40
    go_wp2_with fail
    refine (unhide HC).mono ?_
    rintro e w1 ⟨rfl, rfl⟩
    go_wp2
    go_ret
    exact ⟨ret_bool (by simp [show ¬ 0 < s by omega]), rfl⟩

/-! ### The plain law -/
def gS (q d : Int) : Nat → Int × Int
  | 0 => (0, d)
  | i + 1 => ((gS q d i).1 + (gS q d i).2, ((gS q d i).2 + q - 1) / q)
def gI (q d : Int) : Nat → Int
  | 0 => 0
  | i + 1 => gI q d i + (d + capTo q 32 i - 1) / capTo q 32 i
theorem gri_eq : ∀ q : Nat, q < 65 → 2 ≤ q → ∀ d : Nat, d < 33 → ∀ i : Nat, i < 9 → gI q d i = (gS q d i).1 := by decide +kernel
theorem gS_bd {q d : Int} (hq : 2 ≤ q) (hd : 1 ≤ d) (hd2 : d ≤ 32) (i : Nat) : 0 ≤ (gS q d i).1 ∧ (gS q d i).1 ≤ 32 * i ∧ 1 ≤ (gS q d i).2 ∧ (gS q d i).2 ≤ 32 := by
  induction i with
  | zero => simp [gS]; omega
  | succ i ih =>
    obtain ⟨a, b, c, e⟩ := ih
    simp only [gS]
    generalize (gS q d i).1 = x at *
    generalize (gS q d i).2 = y at *
    have h1 : 1 ≤ (y + q - 1) / q := by
      rw [Int.le_ediv_iff_mul_le (by omega)]; omega
    have h2 : (y + q - 1) / q ≤ y := by
      have : (y + q - 1) / q < y + 1 := by
        rw [Int.ediv_lt_iff_lt_mul (by omega)]
        have := Int.mul_le_mul_of_nonneg_left (show (2:Int) ≤ q from hq) (show 0 ≤ y by omega)
        rw [Int.add_mul]
        have e2 : (y - 1) * (q - 2) ≥ 0 := Int.mul_nonneg (by omega) (by omega)
        rw [Int.sub_mul, Int.mul_sub] at e2
        omega
      omega
    omega

/-- What GriesmerLength returns. -/
def griRes (q k d : Int) : Int × Int := if isField q && (inB k 1 8 && inB d 1 32) then ((gS q d k.toNat).1, 0) else (0, 2)

set_option maxHeartbeats 800000 in
theorem specGri_any (q k d : Int) (w : World) :
    Calls Try.prog 20 #[.int .i64 q, .int .i64 k, .int .i64 d] w fun e w' => e = .returned (.tuple #[.int .i64 (griRes q k d).1, .int .i64 (griRes q k d).2]) ∧ w = w' := by
  generalize hR : griRes q k d = R
  have HR := Lib.hid hR
  clear hR
  go_enter Try.func20, Try.ntmps20
  go_wp2_with fail
  refine (l19Field_any q w).mono ?_
  rintro e w1 ⟨rfl, rfl⟩
  rcases hf : isField q with _ | _
  · have HF := Lib.hid hf
    clear hf
    go_wp2
    go_ret2
    have e1 : R = (0, 2) := by rw [← HR.out, griRes, HF.out]; rfl
    exact ⟨ret_ints2 (by rw [e1]) (by rw [e1]), rfl⟩
  · obtain ⟨hq2, hq64, _⟩ := isField_size hf
    have HF := Lib.hid hf
    clear hf
    go_wp2_with fail
    refine (l00In_any k 1 8 w).mono ?_
    rintro e w1 ⟨rfl, rfl⟩
    rcases hk : inB k 1 8 with _ | _
    · have HK := Lib.hid hk
      clear hk
      go_wp2
      go_ret2
      have e1 : R = (0, 2) := by rw [← HR.out, griRes, HF.out, HK.out]; rfl
      exact ⟨ret_ints2 (by rw [e1]) (by rw [e1]), rfl⟩
    · obtain ⟨hk1, hk8⟩ := inB_true.1 hk
      have HK := Lib.hid hk
      clear hk
      go_wp2_with fail
      refine (l00In_any d 1 32 w).mono ?_
      rintro e w1 ⟨rfl, rfl⟩
      rcases hd : inB d 1 32 with _ | _
      · have HD := Lib.hid hd
        clear hd
        go_wp2
        go_ret2
        have e1 : R = (0, 2) := by rw [← HR.out, griRes, HF.out, HK.out, HD.out]; rfl
        exact ⟨ret_ints2 (by rw [e1]) (by rw [e1]), rfl⟩
      · obtain ⟨hd1, hd32⟩ := inB_true.1 hd
        have HD := Lib.hid hd
        clear hd
        have e1 : R = ((gS q d k.toNat).1, 0) := by rw [← HR.out, griRes, HF.out, HK.out, HD.out]; rfl
        have E1 := Lib.hid e1
        obtain ⟨K, rfl⟩ := Int.eq_ofNat_of_zero_le (show 0 ≤ k by omega)
        clear e1
        go_wp2_with fail
        go_loop [2, 8, 9] (fun dv ov iv => ∃ (i : Nat) (x o : Int), iv = .int .i64 i ∧ i ≤ K ∧ dv = .int .i64 x ∧ ov = .int .i64 o ∧ 0 ≤ o ∧ o ≤ 32 * i ∧ 1 ≤ x ∧ x ≤ 32 ∧ Hid (gS q d i = (o, x))) (fun _ _ iv => K - (intOf iv).toNat)
        case atStart => exact ⟨0, d, 0, rfl, by omega, rfl, rfl, by omega, by omega, hd1, hd32, rfl⟩
        case round =>
          obtain ⟨i, x, o, rfl, hi, rfl, rfl, ho0, ho1, hx1, hx2, hg⟩ := hrel
          by_cases hik : i < K
          · have hb := gS_bd hq2 hd1 hd32 (i + 1)
            have hg1 : gS q d (i + 1) = (o + x, (x + q - 1) / q) := by rw [gS, hg.out]
            rw [hg1] at hb
            obtain ⟨_, hb2, hb3, hb4⟩ := hb
            dsimp only at hb2 hb3 hb4
            have HG := Lib.hid hg1
            clear hg1 hg
            go_wp2
            go_round
            case rel => exact ⟨i + 1, (x + q - 1) / q, o + x, by go_num, by omega, rfl, rfl, by omega, hb2, hb3, hb4, HG⟩
            case measure => simp only [intOf]; omega
          · obtain rfl : i = K := by omega
            go_wp2
            go_ret2
            have e2 := hg.out
            have e3 := E1.out
            rw [Int.toNat_natCast, e2] at e3
            exact ⟨ret_ints2 (by rw [e3]) (by rw [e3]), rfl⟩
end Go.Proofs.Ytcdfabnhaephhaa
