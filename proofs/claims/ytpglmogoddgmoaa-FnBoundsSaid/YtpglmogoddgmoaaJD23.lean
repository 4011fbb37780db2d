/-
  Texts joined.
-/
import Derived.Test.YtpglmogoddgmoaaJD2
import Derived.Test.YtpglmogoddgmoaaJD4
set_option linter.unusedVariables false
set_option linter.unusedSimpArgs false
set_option maxRecDepth 100000
set_option maxHeartbeats 40000000
namespace Go.Proofs.Ytpglmogoddgmoaa
open Go.RowKit
theorem gI_bd {q d : Int} (hq : 2 ≤ q) (hq64 : q ≤ 64) (hd : 1 ≤ d) (hd2 : d ≤ 32) (i : Nat) (hi : i ≤ 8) : 0 ≤ gI q d i ∧ gI q d i ≤ 32 * i := by
 obtain ⟨n, rfl⟩ := Int.eq_ofNat_of_zero_le (show 0 ≤ q by omega)
 obtain ⟨m, rfl⟩ := Int.eq_ofNat_of_zero_le (show 0 ≤ d by omega)
 rw [gri_eq n (by omega) (by omega) m (by omega) i (by omega)]
 exact ⟨(gS_bd hq hd hd2 i).1, (gS_bd hq hd hd2 i).2.1⟩
theorem implGri_any (q k d : Int) (w : World) :
    Calls Try.prog 35 #[.int .i64 q, .int .i64 k, .int .i64 d] w fun e w' => e = .returned (.tuple #[.int .i64 (griRes q k d).1, .int .i64 (griRes q k d).2]) ∧ Below w.heap.size w w' := by
 generalize hR : griRes q k d = R
 have HR := Lib.hid hR
 clear hR
 go_enter Try.func35, Try.ntmps35
 go_wp2_with fail
 refine (MakeField_any q w).mono ?_
 rintro e w1 ⟨v1, rfl, o1, b1⟩
 obtain ⟨a1, c1, rfl, _, _⟩ := o1.form
 have s1 := b1.size
 have hb := b1.alloc s1 (.cells #[.int .i64 (mkF q).1, .int .i64 (mkF q).2.1, .slice a1 (mkF q).2.2.1.length c1] 26)
 rcases hf : isField q with _ | _
 · rw [mkF_bad hf]
   have HF := Lib.hid hf
   clear hf
   go_wp2
   go_ret2
   have e1 : R = (0, 2) := by rw [← HR.out, griRes, HF.out]; rfl
   exact ⟨ret_ints2 (by rw [e1]) (by rw [e1]), hb⟩
 · rw [mkF_ok hf]
   obtain ⟨hq2, hq64, _⟩ := isField_size hf
   have HF := Lib.hid hf
   clear hf
   go_wp2_with fail
   refine (within_any k 1 8 _).mono ?_
   rintro e w2 ⟨rfl, rfl⟩
   rcases hk : inB k 1 8 with _ | _
   · have HK := Lib.hid hk
     clear hk
     go_wp2
     go_ret2
     have e1 : R = (0, 2) := by rw [← HR.out, griRes, HF.out, HK.out]; rfl
     exact ⟨ret_ints2 (by rw [e1]) (by rw [e1]), hb⟩
   · obtain ⟨hk1, hk8⟩ := inB_true.1 hk
     have HK := Lib.hid hk
     clear hk
     go_wp2_with fail
     refine (within_any d 1 32 _).mono ?_
     rintro e w2 ⟨rfl, rfl⟩
     rcases hd : inB d 1 32 with _ | _
     · have HD := Lib.hid hd
       clear hd
       go_wp2
       go_ret2
       have e1 : R = (0, 2) := by rw [← HR.out, griRes, HF.out, HK.out, HD.out]; rfl
       exact ⟨ret_ints2 (by rw [e1]) (by rw [e1]), hb⟩
     · obtain ⟨hd1, hd32⟩ := inB_true.1 hd
       have HD := Lib.hid hd
       clear hd
       have e1 : R = ((gS q d k.toNat).1, 0) := by rw [← HR.out, griRes, HF.out, HK.out, HD.out]; rfl
       obtain ⟨K, rfl⟩ := Int.eq_ofNat_of_zero_le (show 0 ≤ k by omega)
       rw [Int.toNat_natCast] at e1
       have E1 := Lib.hid e1
       clear e1
       go_wp2_with fail
       go_loop [10, 31] (fun ov iv => ∃ (i : Nat) (o : Int), iv = .int .i64 i ∧ i ≤ K ∧ ov = .int .i64 o ∧ 0 ≤ o ∧ o ≤ 32 * i ∧ Hid (gI q d i = o)) (fun _ iv => K - (intOf iv).toNat)
       case atStart => exact ⟨0, 0, rfl, by omega, rfl, by omega, by omega, rfl⟩
       case round =>
        obtain ⟨i, o, rfl, hi, rfl, ho0, ho1, hg⟩ := hrel
        by_cases hik : i < K
        · have hg1 : gI q d (i + 1) = o + (d + capTo q 32 i - 1) / capTo q 32 i := by rw [gI, hg.out]
          have hc1 := capTo_pos (b := q) (l := 32) (by omega) i
          have hc2 := capTo_le (b := q) (l := 32) (by omega) (by omega) i
          have hbd := gI_bd hq2 hq64 hd1 hd32 (i + 1) (by omega)
          rw [hg1] at hbd
          have hpw := fun W => powerUpTo_any q i 32 W (by omega) (by omega) (by omega) (by omega) (by omega)
          simp only [Int.toNat_natCast] at hpw
          generalize capTo q 32 i = B at hg1 hc1 hc2 hbd hpw
          have hB : B ≤ 2048 := by omega
          have hq0 : 0 ≤ (d + B - 1) / B := Int.ediv_nonneg (by omega) (by omega)
          have hq1 : (d + B - 1) / B ≤ d + B - 1 := Int.ediv_le_self _ (by omega)
          have HG := Lib.hid hg1
          have HPW := hide hpw
          obtain ⟨hbd1, hbd2⟩ := hbd
          clear hg1 hg hpw hc2
          go_wp2_with fail
          refine (unhide HPW _).mono ?_
          rintro e w2 ⟨rfl, rfl⟩
          go_wp2
          go_round
          case rel => exact ⟨i + 1, o + (d + B - 1) / B, by go_num, by omega, rfl, by omega, by omega, HG⟩
          case measure => simp only [intOf]; omega
        · obtain rfl : i = K := by omega
          go_wp2
          go_ret2
          have e2 := hg.out
          have e3 := E1.out
          obtain ⟨n, rfl⟩ := Int.eq_ofNat_of_zero_le (show 0 ≤ q by omega)
          obtain ⟨m, rfl⟩ := Int.eq_ofNat_of_zero_le (show 0 ≤ d by omega)
          rw [gri_eq n (by omega) (by omega) m (by omega) i (by omega)] at e2
          exact ⟨ret_ints2 (by rw [e3]; exact e2.symm) (by rw [e3]), hb⟩
namespace fnExactGriesmerLength
open Go.ChangeShapes Go.WideShapes Go.ChangeAt
end fnExactGriesmerLength
end Go.Proofs.Ytpglmogoddgmoaa
