/-
  Walks of l19Ball, ballSize, both BallSize, both HammingBound.
-/
import Derived.Test.YtkbppgpegljcoaaBin
namespace Go.Proofs.Ytkbppgpegljcoaa
open Go.RowKit

theorem pow_le_LIM {q : Int} (hq : 2 ≤ q) {n i : Nat} (h : q ^ n ≤ LIM) (hi : i ≤ n) : (q - 1) ^ i ≤ LIM :=
  Int.le_trans (pow_base (by omega) (show q - 1 ≤ q by omega) i) (Int.le_trans (pow_mono (by omega) hi) h)
theorem powS_eq {b : Int} (hb : 1 ≤ b) {m : Nat} (h : b ^ m ≤ LIM) : powS b m = b ^ m := by
  have := capTo_pow hb m h
  rw [powS_yes (by rw [this]; exact h), this]
theorem ballV_eq (q : Int) (n r : Nat) : ballV q n r = sumTo (ballT q n) (r + 1) := rfl

set_option maxHeartbeats 800000 in
theorem l19Ball_any (q : Int) (n r : Nat) (w : World) (hq : 2 ≤ q) (hq64 : q ≤ 64) (hn : n ≤ 32) (hr : r ≤ n) (hL : q ^ n ≤ LIM) :
    Calls Try.prog 59 #[.int .i64 q, .int .i64 n, .int .i64 r] w fun e w' => e = .returned (.int .i64 (ballV q n r)) ∧ w = w' := by
  have HL := Lib.hid hL
  clear hL
  go_enter Try.func59, Try.ntmps59
  go_wp2
  go_loop [7, 8] (fun ov iv => ∃ (i : Nat) (o : Int), iv = .int .i64 i ∧ ov = .int .i64 o ∧ i ≤ r + 1 ∧ 0 ≤ o ∧ o ≤ 1000000000000 ∧ Hid (sumTo (ballT q n) i = o)) (fun _ iv => r + 1 - (intOf iv).toNat)
  case atStart => exact ⟨0, 0, rfl, rfl, by omega, by omega, by omega, rfl⟩
  case round =>
    obtain ⟨i, o, rfl, rfl, hi, ho0, ho1, hs⟩ := hrel
    by_cases hir : i ≤ r
    · have hS : sumTo (ballT q n) (i + 1) = o + chooseV n i * (q - 1) ^ i := by rw [sumTo, hs.out, ballT]
      have hb := ball_le (q := q) (by omega) hn (show i + 1 ≤ n + 1 by omega)
      have hL := HL.out
      have ht0 := ballT_nonneg (q := q) (by omega) hn i
      have ht1 := ballT_le (q := q) (by omega) hn (show i ≤ n by omega)
      rw [hS] at hb
      rw [ballT] at ht0 ht1
      have hp := powS_eq (b := q - 1) (by omega) (pow_le_LIM hq hL (show i ≤ n by omega))
      have hpw := fun W => l19Power_any (q - 1) i W (by omega) (by omega) (by omega)
      simp only [Int.toNat_natCast, hp] at hpw
      have hX := fun W => specChoose_any n i W
      clear hp
      generalize (q - 1) ^ i = Y at hS hb ht0 ht1 hpw
      generalize chooseV n i = X at hS hb ht0 ht1 hX
      have HS := Lib.hid hS
      have HPW := hide hpw
      have HX := hide hX
      have hb2 : o + X * Y ≤ 1000000000000 := by unfold LIM at hL; omega
      have ht2 : X * Y ≤ 1000000000000 := by unfold LIM at hL; omega
      clear hS hs hpw hX hb hL ht1
      go_wp2_with fail
      refine (unhide HX _).mono ?_
      rintro e w1 ⟨rfl, rfl⟩
      go_wp2_with fail
      refine (unhide HPW _).mono ?_
      rintro e w1 ⟨rfl, rfl⟩
      go_wp2
      go_round
      case rel => exact ⟨i + 1, o + X * Y, by go_num, rfl, by omega, by omega, hb2, HS⟩
      case measure => simp only [intOf]; omega
    · obtain rfl : i = r + 1 := by omega
      go_wp2
      go_ret
      exact ⟨ret_int hs.out.symm, rfl⟩

set_option maxHeartbeats 800000 in
theorem ballSize_any (q : Int) (n r : Nat) (w : World) (hq : 2 ≤ q) (hq64 : q ≤ 64) (hn : n ≤ 32) (hr : r ≤ n) (hL : q ^ n ≤ LIM) :
    Calls Try.prog 62 #[.int .i64 q, .int .i64 n, .int .i64 r] w fun e w' => e = .returned (.int .i64 (ballV q n r)) ∧ w = w' := by
  have HL := Lib.hid hL
  clear hL
  go_enter Try.func62, Try.ntmps62
  go_wp2
  go_loop [7, 8, 12] (fun ov fv iv => ∃ (i : Nat) (o f : Int), iv = .int .i64 i ∧ ov = .int .i64 o ∧ fv = .int .i64 f ∧ i ≤ r + 1 ∧ 0 ≤ o ∧ o ≤ 1000000000000 ∧ 0 ≤ f ∧ Hid (sumTo (ballT q n) i = o) ∧ Hid (f = (q - 1) ^ i)) (fun _ _ iv => r + 1 - (intOf iv).toNat)
  case atStart => exact ⟨0, 0, 1, rfl, rfl, rfl, by omega, by omega, by omega, by omega, rfl, show _ = _ by simp⟩
  case round =>
    obtain ⟨i, o, f, rfl, rfl, rfl, hi, ho0, ho1, hf0, hs, hf⟩ := hrel
    by_cases hir : i ≤ r
    · have hS : sumTo (ballT q n) (i + 1) = o + chooseV n i * f := by rw [sumTo, hs.out, ballT, ← hf.out]
      have hb := ball_le (q := q) (by omega) hn (show i + 1 ≤ n + 1 by omega)
      have hL := HL.out
      have ht0 := ballT_nonneg (q := q) (by omega) hn i
      have ht1 := ballT_le (q := q) (by omega) hn (show i ≤ n by omega)
      rw [hS] at hb
      rw [ballT, ← hf.out] at ht0 ht1
      have hfl := pow_le_LIM hq hL (show i ≤ n by omega)
      rw [← hf.out] at hfl
      unfold LIM at hfl
      have hX := fun W => implChoose_any n i W
      generalize chooseV n i = X at hS hb ht0 ht1 hX
      have hF : f * (q - 1) = (q - 1) ^ (i + 1) := by rw [Int.pow_succ, ← hf.out]
      have HS := Lib.hid hS
      have HF := Lib.hid hF
      have HX := hide hX
      have hb2 : o + X * f ≤ 1000000000000 := by unfold LIM at hL; omega
      have ht2 : X * f ≤ 1000000000000 := by unfold LIM at hL; omega
      have hfq0 : 0 ≤ f * (q - 1) := Int.mul_nonneg hf0 (by omega)
      have hfq1 : f * (q - 1) ≤ 100000000000000 := by
        have := Int.mul_le_mul hfl (show q - 1 ≤ 63 by omega) (by omega) (by omega)
        omega
      clear hS hs hX hb hL ht1 hF hf
      go_wp2_with fail
      refine (unhide HX _).mono ?_
      rintro e w1 ⟨rfl, rfl⟩
      go_wp2
      go_round
      case rel => exact ⟨i + 1, o + X * f, f * (q - 1), by go_num, rfl, rfl, by omega, by omega, hb2, hfq0, HS, HF⟩
      case measure => simp only [intOf]; omega
    · obtain rfl : i = r + 1 := by omega
      go_wp2
      go_ret
      exact ⟨ret_int hs.out.symm, rfl⟩

/-- What BallSize returns. -/
def ballRes (q n r : Int) : Int × Int := if isSpaceB q n && inB r 0 n then (ballV q n.toNat r.toNat, 0) else (0, 2)
/-- What HammingBound returns. -/
def hamRes (q n d : Int) : Int × Int := if isSpaceB q n && inB d 1 n then (q ^ n.toNat / ballV q n.toNat ((d - 1) / 2).toNat, 0) else (0, 2)

set_option maxHeartbeats 800000 in
theorem specBall_any (q n r : Int) (w : World) :
    Calls Try.prog 15 #[.int .i64 q, .int .i64 n, .int .i64 r] w fun e w' => e = .returned (.tuple #[.int .i64 (ballRes q n r).1, .int .i64 (ballRes q n r).2]) ∧ w = w' := by
  generalize hR : ballRes q n r = R
  have HR := Lib.hid hR
  clear hR
  go_enter Try.func15, Try.ntmps15
  go_wp2_with fail
  refine (l19Space_any q n w).mono ?_
  rintro e w1 ⟨rfl, rfl⟩
  rcases hf : isSpaceB q n with _ | _
  · have HF := Lib.hid hf
    clear hf
    go_wp2
    go_ret2
    have e1 : R = (0, 2) := by rw [← HR.out, ballRes, HF.out]; rfl
    exact ⟨ret_ints2 (by rw [e1]) (by rw [e1]), rfl⟩
  · obtain ⟨hfq, hn1, hn32, hcap⟩ := isSpaceB_true hf
    obtain ⟨hq2, hq64, _⟩ := isField_size hfq
    have HF := Lib.hid hf
    clear hf
    go_wp2_with fail
    refine (l00In_any r 0 n _).mono ?_
    rintro e w2 ⟨rfl, rfl⟩
    rcases hk : inB r 0 n with _ | _
    · have HK := Lib.hid hk
      clear hk hcap hfq
      go_wp2
      go_ret2
      have e1 : R = (0, 2) := by rw [← HR.out, ballRes, HF.out, HK.out]; rfl
      exact ⟨ret_ints2 (by rw [e1]) (by rw [e1]), rfl⟩
    · obtain ⟨hr0, hrn⟩ := inB_true.1 hk
      have e1 : R = (ballV q n.toNat r.toNat, 0) := by rw [← HR.out, ballRes, HF.out, hk]; rfl
      clear hk
      obtain ⟨N, rfl⟩ := Int.eq_ofNat_of_zero_le (show 0 ≤ n by omega)
      obtain ⟨K, rfl⟩ := Int.eq_ofNat_of_zero_le (show 0 ≤ r by omega)
      rw [Int.toNat_natCast, Int.toNat_natCast] at e1
      have E1 := Lib.hid e1
      rw [Int.toNat_natCast] at hcap
      have hpe := capTo_eq (by omega) hcap
      rw [hpe] at hcap
      have HB := hide (fun W => l19Ball_any q N K W hq2 hq64 (by omega) (by omega) hcap)
      clear hcap hfq e1 hpe
      go_wp2_with fail
      refine (unhide HB _).mono ?_
      rintro e w2 ⟨rfl, rfl⟩
      go_wp2
      go_ret2
      exact ⟨ret_ints2 (by rw [E1.out]) (by rw [E1.out]), rfl⟩

set_option maxHeartbeats 800000 in
theorem implBall_any (q n r : Int) (w : World) :
    Calls Try.prog 16 #[.int .i64 q, .int .i64 n, .int .i64 r] w fun e w' => e = .returned (.tuple #[.int .i64 (ballRes q n r).1, .int .i64 (ballRes q n r).2]) ∧ Below w.heap.size w w' := by
  generalize hR : ballRes q n r = R
  have HR := Lib.hid hR
  clear hR
  go_enter Try.func16, Try.ntmps16
  go_wp2_with fail
  refine (isSpace_any q n w).mono ?_
  rintro e w1 ⟨rfl, hb⟩
  rcases hf : isSpaceB q n with _ | _
  · have HF := Lib.hid hf
    clear hf
    go_wp2
    go_ret2
    have e1 : R = (0, 2) := by rw [← HR.out, ballRes, HF.out]; rfl
    exact ⟨ret_ints2 (by rw [e1]) (by rw [e1]), hb⟩
  · obtain ⟨hfq, hn1, hn32, hcap⟩ := isSpaceB_true hf
    obtain ⟨hq2, hq64, _⟩ := isField_size hfq
    have HF := Lib.hid hf
    clear hf
    go_wp2_with fail
    refine (within_any r 0 n _).mono ?_
    rintro e w2 ⟨rfl, rfl⟩
    rcases hk : inB r 0 n with _ | _
    · have HK := Lib.hid hk
      clear hk hcap hfq
      go_wp2
      go_ret2
      have e1 : R = (0, 2) := by rw [← HR.out, ballRes, HF.out, HK.out]; rfl
      exact ⟨ret_ints2 (by rw [e1]) (by rw [e1]), hb⟩
    · obtain ⟨hr0, hrn⟩ := inB_true.1 hk
      have e1 : R = (ballV q n.toNat r.toNat, 0) := by rw [← HR.out, ballRes, HF.out, hk]; rfl
      clear hk
      obtain ⟨N, rfl⟩ := Int.eq_ofNat_of_zero_le (show 0 ≤ n by omega)
      obtain ⟨K, rfl⟩ := Int.eq_ofNat_of_zero_le (show 0 ≤ r by omega)
      rw [Int.toNat_natCast, Int.toNat_natCast] at e1
      have E1 := Lib.hid e1
      rw [Int.toNat_natCast] at hcap
      have hpe := capTo_eq (by omega) hcap
      rw [hpe] at hcap
      have HB := hide (fun W => ballSize_any q N K W hq2 hq64 (by omega) (by omega) hcap)
      clear hcap hfq e1 hpe
      go_wp2_with fail
      refine (unhide HB _).mono ?_
      rintro e w2 ⟨rfl, rfl⟩
      go_wp2
      go_ret2
      exact ⟨ret_ints2 (by rw [E1.out]) (by rw [E1.out]), hb⟩

set_option maxHeartbeats 800000 in
theorem specHam_any (q n r : Int) (w : World) :
    Calls Try.prog 17 #[.int .i64 q, .int .i64 n, .int .i64 r] w fun e w' => e = .returned (.tuple #[.int .i64 (hamRes q n r).1, .int .i64 (hamRes q n r).2]) ∧ w = w' := by
  generalize hR : hamRes q n r = R
  have HR := Lib.hid hR
  clear hR
  go_enter Try.func17, Try.ntmps17
  go_wp2_with fail
  refine (l19Space_any q n w).mono ?_
  rintro e w1 ⟨rfl, rfl⟩
  rcases hf : isSpaceB q n with _ | _
  · have HF := Lib.hid hf
    clear hf
    go_wp2
    go_ret2
    have e1 : R = (0, 2) := by rw [← HR.out, hamRes, HF.out]; rfl
    exact ⟨ret_ints2 (by rw [e1]) (by rw [e1]), rfl⟩
  · obtain ⟨hfq, hn1, hn32, hcap⟩ := isSpaceB_true hf
    obtain ⟨hq2, hq64, _⟩ := isField_size hfq
    have HF := Lib.hid hf
    clear hf
    go_wp2_with fail
    refine (l00In_any r 1 n _).mono ?_
    rintro e w2 ⟨rfl, rfl⟩
    rcases hk : inB r 1 n with _ | _
    · have HK := Lib.hid hk
      clear hk hcap hfq
      go_wp2
      go_ret2
      have e1 : R = (0, 2) := by rw [← HR.out, hamRes, HF.out, HK.out]; rfl
      exact ⟨ret_ints2 (by rw [e1]) (by rw [e1]), rfl⟩
    · obtain ⟨hr0, hrn⟩ := inB_true.1 hk
      have e1 : R = (q ^ n.toNat / ballV q n.toNat ((r - 1) / 2).toNat, 0) := by rw [← HR.out, hamRes, HF.out, hk]; rfl
      clear hk
      obtain ⟨N, rfl⟩ := Int.eq_ofNat_of_zero_le (show 0 ≤ n by omega)
      obtain ⟨D, rfl⟩ := Int.eq_ofNat_of_zero_le (show 0 ≤ r by omega)
      rw [Int.toNat_natCast] at e1
      have E1 := Lib.hid e1
      rw [Int.toNat_natCast] at hcap
      have hpe := capTo_eq (by omega) hcap
      have hcap2 := hcap
      rw [hpe] at hcap
      have hdd : ((D : Int) - 1) / 2 = (((D - 1) / 2 : Nat) : Int) := by omega
      have HDD := Lib.hid hdd
      have HB := hide (fun W => l19Ball_any q N ((D - 1) / 2) W hq2 hq64 (by omega) (by omega) hcap)
      have hbp := ball_pos (q := q) (by omega) (show N ≤ 32 by omega) ((D - 1) / 2)
      have hpp : 0 ≤ q ^ N := Int.pow_nonneg (by omega)
      have hpl : q ^ N ≤ 1000000000000 := hcap
      have hps := powS_eq (b := q) (by omega) hcap
      have hpw := fun W => l19Power_any q N W (by omega) (by omega) (by omega)
      simp only [Int.toNat_natCast, hps] at hpw
      have HPW := hide hpw
      clear hps hpw
      clear hcap hcap2 hfq e1 hpe hdd
      generalize hP : q ^ N = P at hpp hpl HPW E1
      generalize hV : ballV q N ((D - 1) / 2) = V at hbp HB
      have HV := Lib.hid hV
      have hq0 : 0 ≤ P / V := Int.ediv_nonneg hpp (by omega)
      have hq1 : P / V ≤ P := Int.ediv_le_self _ hpp
      have hde : ((D : Int) - 1) / 2 = (((D - 1) / 2 : Nat) : Int) := by omega
      have HDE := Lib.hid hde
      clear hP hV hde
      go_wp2_with fail
      refine (unhide HPW _).mono ?_
      rintro e w2 ⟨rfl, rfl⟩
      go_wp2_with fail
      rw [HDE.out]
      refine (unhide HB _).mono ?_
      rintro e w2 ⟨rfl, rfl⟩
      go_wp2
      go_ret2
      exact ⟨ret_ints2 (by rw [E1.out, HDE.out, Int.toNat_natCast, HV.out]) (by rw [E1.out]), rfl⟩

set_option maxHeartbeats 800000 in
theorem implHam_any (q n r : Int) (w : World) :
    Calls Try.prog 18 #[.int .i64 q, .int .i64 n, .int .i64 r] w fun e w' => e = .returned (.tuple #[.int .i64 (hamRes q n r).1, .int .i64 (hamRes q n r).2]) ∧ Below w.heap.size w w' := by
  generalize hR : hamRes q n r = R
  have HR := Lib.hid hR
  clear hR
  go_enter Try.func18, Try.ntmps18
  go_wp2_with fail
  refine (isSpace_any q n w).mono ?_
  rintro e w1 ⟨rfl, hb⟩
  rcases hf : isSpaceB q n with _ | _
  · have HF := Lib.hid hf
    clear hf
    go_wp2
    go_ret2
    have e1 : R = (0, 2) := by rw [← HR.out, hamRes, HF.out]; rfl
    exact ⟨ret_ints2 (by rw [e1]) (by rw [e1]), hb⟩
  · obtain ⟨hfq, hn1, hn32, hcap⟩ := isSpaceB_true hf
    obtain ⟨hq2, hq64, _⟩ := isField_size hfq
    have HF := Lib.hid hf
    clear hf
    go_wp2_with fail
    refine (within_any r 1 n _).mono ?_
    rintro e w2 ⟨rfl, rfl⟩
    rcases hk : inB r 1 n with _ | _
    · have HK := Lib.hid hk
      clear hk hcap hfq
      go_wp2
      go_ret2
      have e1 : R = (0, 2) := by rw [← HR.out, hamRes, HF.out, HK.out]; rfl
      exact ⟨ret_ints2 (by rw [e1]) (by rw [e1]), hb⟩
    · obtain ⟨hr0, hrn⟩ := inB_true.1 hk
      have e1 : R = (q ^ n.toNat / ballV q n.toNat ((r - 1) / 2).toNat, 0) := by rw [← HR.out, hamRes, HF.out, hk]; rfl
      clear hk
      obtain ⟨N, rfl⟩ := Int.eq_ofNat_of_zero_le (show 0 ≤ n by omega)
      obtain ⟨D, rfl⟩ := Int.eq_ofNat_of_zero_le (show 0 ≤ r by omega)
      rw [Int.toNat_natCast] at e1
      have E1 := Lib.hid e1
      rw [Int.toNat_natCast] at hcap
      have hpe := capTo_eq (by omega) hcap
      have hcap2 := hcap
      rw [hpe] at hcap
      have hdd : ((D : Int) - 1) / 2 = (((D - 1) / 2 : Nat) : Int) := by omega
      have HDD := Lib.hid hdd
      have HB := hide (fun W => ballSize_any q N ((D - 1) / 2) W hq2 hq64 (by omega) (by omega) hcap)
      have hbp := ball_pos (q := q) (by omega) (show N ≤ 32 by omega) ((D - 1) / 2)
      have hpp : 0 ≤ q ^ N := Int.pow_nonneg (by omega)
      have hpl : q ^ N ≤ 1000000000000 := hcap
      have hpw := fun W => powerUpTo_any q N 1000000000000 W (by omega) (by omega) (by omega) (by omega) (by omega)
      have hpe2 : capTo q 1000000000000 N = q ^ N := hpe
      simp only [Int.toNat_natCast, hpe2] at hpw
      have HPW := hide hpw
      clear hpw hpe2
      clear hcap hcap2 hfq e1 hpe hdd
      generalize hP : q ^ N = P at hpp hpl HPW E1
      generalize hV : ballV q N ((D - 1) / 2) = V at hbp HB
      have HV := Lib.hid hV
      have hq0 : 0 ≤ P / V := Int.ediv_nonneg hpp (by omega)
      have hq1 : P / V ≤ P := Int.ediv_le_self _ hpp
      have hde : ((D : Int) - 1) / 2 = (((D - 1) / 2 : Nat) : Int) := by omega
      have HDE := Lib.hid hde
      clear hP hV hde
      go_wp2_with fail
      refine (unhide HPW _).mono ?_
      rintro e w2 ⟨rfl, rfl⟩
      go_wp2_with fail
      rw [HDE.out]
      refine (unhide HB _).mono ?_
      rintro e w2 ⟨rfl, rfl⟩
      go_wp2
      go_ret2
      exact ⟨ret_ints2 (by rw [E1.out, HDE.out, Int.toNat_natCast, HV.out]) (by rw [E1.out]), hb⟩

end Go.Proofs.Ytkbppgpegljcoaa
