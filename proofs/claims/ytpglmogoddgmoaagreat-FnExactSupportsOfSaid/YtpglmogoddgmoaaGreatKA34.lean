/-
  Texts joined.
-/
import Derived.Test.YtpglmogoddgmoaaGreatKA1
import Derived.Test.YtpglmogoddgmoaaGreatKA5
import Derived.Test.YtpglmogoddgmoaaGreatKA9
set_option linter.unusedVariables false
set_option linter.unusedSimpArgs false
set_option maxRecDepth 100000
set_option maxHeartbeats 40000000
namespace Go.Proofs.YtpglmogoddgmoaaGreat
open Go.RowKit
attribute [local go_sem ↓] Go.wp_at_zero Go.wp_at_succ
theorem compareS_any (a b : Option Addr) (c d : Nat) (xs ys : List Int) (w : World) (hx : Rd w a xs) (hy : Rd w b ys) :
    Calls Tryz.prog 44 #[.slice a xs.length c, .slice b ys.length d] w fun e w' => e = .returned (.int .i64 (cmpL xs ys)) ∧ Qt w w' := by
 have hxl := hx.len
 have hyl := hy.len
 have HX := hide hx
 have HY := hide hy
 clear hx hy
 go_enter Tryz.func44, Tryz.ntmps44
 go_wp2_with fail
 go_loopw [5] (fun iv wr => ∃ k : Nat, iv = .int .i64 k ∧ k ≤ xs.length ∧ k ≤ ys.length ∧ Hid (cmpL xs ys = cmpL (xs.drop k) (ys.drop k)) ∧ Qt w wr) (fun iv _ => xs.length - (intOf iv).toNat)
 case atStart => exact ⟨0, rfl, Nat.zero_le _, Nat.zero_le _, by show _ = _; rw [List.drop_zero, List.drop_zero], Qt.refl _⟩
 case round =>
  obtain ⟨k, rfl, hk1, hk2, hq, hqt⟩ := hrel
  by_cases h1 : k < xs.length
  · obtain ⟨b1, o1, e1, _, hc1⟩ := (unhide HX).at_ (by omega)
    have g1 : wr.cell? ⟨b1, o1 + k, none⟩ = some (.int .i64 (nth xs k)) := by
     obtain ⟨_, rfl⟩ := hqt
     exact hc1 k h1
    subst e1
    by_cases h2 : k < ys.length
    · obtain ⟨b2, o2, e2, _, hc2⟩ := (unhide HY).at_ (by omega)
      have g2 : wr.cell? ⟨b2, o2 + k, none⟩ = some (.int .i64 (nth ys k)) := by
       obtain ⟨_, rfl⟩ := hqt
       exact hc2 k h2
      subst e2
      have hst := cmpL_drop h1 h2
      obtain ⟨x, hxx⟩ : ∃ x, x = nth xs k := ⟨_, rfl⟩
      obtain ⟨y, hyy⟩ : ∃ y, y = nth ys k := ⟨_, rfl⟩
      rw [← hxx, ← hyy] at hst
      rw [← hxx] at g1
      rw [← hyy] at g2
      clear hxx hyy hc1 hc2
      by_cases hlt : x < y
      · have hz : cmpI x y = -1 := by rw [cmpI, if_pos hlt]
        rw [hz, if_neg (by decide)] at hst
        have HST := Lib.hid hst
        clear hst hz
        go_upto_region 4 with fail
        go_quiet (fail)
        go_wp2
        go_ret
        exact ⟨ret_int (by rw [hq.out, HST.out]), hqt.trans (Qt.one _ _)⟩
      · by_cases hgt : y < x
        · have hz : cmpI x y = 1 := by rw [cmpI, if_neg hlt, if_pos hgt]
          rw [hz, if_neg (by decide)] at hst
          have HST := Lib.hid hst
          clear hst hz
          go_upto_region 4 with fail
          go_quiet (fail)
          go_upto_region 6 with fail
          go_quiet (fail)
          go_wp2
          go_ret
          exact ⟨ret_int (by rw [hq.out, HST.out]), hqt.trans ⟨_, rfl⟩⟩
        · have hz : cmpI x y = 0 := by rw [cmpI, if_neg hlt, if_neg hgt]
          rw [hz, if_pos rfl] at hst
          have HST := Lib.hid hst
          clear hst hz
          go_upto_region 4 with fail
          go_quiet (fail)
          go_upto_region 6 with fail
          go_quiet (fail)
          go_wp2
          go_roundw
          case rel => exact ⟨k + 1, by go_num, by omega, by omega, by show _ = _; rw [hq.out, HST.out], hqt.trans ⟨_, rfl⟩⟩
          case measure => simp only [intOf]; omega
    · have hst := cmpL_long h1 h2
      have HST := Lib.hid hst
      have j1 : ¬ (k : Int) < (ys.length : Int) := by omega
      have j2 : ¬ (xs.length : Int) < (ys.length : Int) := by omega
      have j3 : (ys.length : Int) < (xs.length : Int) := by omega
      clear hst
      go_wp2
      go_ret
      exact ⟨ret_int (by rw [hq.out, HST.out]), hqt⟩
  · by_cases h2 : k < ys.length
    · have hst := cmpL_short h1 h2
      have HST := Lib.hid hst
      have j2 : (xs.length : Int) < (ys.length : Int) := by omega
      clear hst
      go_wp2
      go_ret
      exact ⟨ret_int (by rw [hq.out, HST.out]), hqt⟩
    · have hst := cmpL_end h1 h2
      have HST := Lib.hid hst
      have j2 : ¬ (xs.length : Int) < (ys.length : Int) := by omega
      have j3 : ¬ (ys.length : Int) < (xs.length : Int) := by omega
      clear hst
      go_wp2
      go_ret
      exact ⟨ret_int (by rw [hq.out, HST.out]), hqt⟩
noncomputable instance (xss : List (List Int)) : Decidable (∀ k, 0 < k → k < xss.length → cmpL (nthL xss (k - 1)) (nthL xss k) ≤ 0) := Classical.propDecidable _
end Go.Proofs.YtpglmogoddgmoaaGreat
