/-
  Walks of slices.EqualFunc over lists of lists with slices.Equal, and of areSame.
-/
import Derived.Test.YtkbppgpegljcoaaEq
namespace Go.Proofs.Ytkbppgpegljcoaa
open Go.RowKit

set_option maxHeartbeats 400000 in
theorem equalFuncLists_any (a b : Option Addr) (c d : Nat) (xs ys : List (List Int)) (w : World) (hx : RdS w a xs) (hy : RdS w b ys) :
    Calls Try.prog 146 #[.slice a xs.length c, .slice b ys.length d, .func (.func 147) #[] #[]] w fun e w' => e = .returned (.bool (decide (xs = ys))) ∧ Qt w w' := by
  have hxl := hx.len
  have hyl := hy.len
  by_cases hl : xs.length = ys.length
  · have HL := Lib.hid hl
    generalize hn : ys.length = n at hl hyl
    subst hl
    clear hn
    go_enter Try.func146, Try.ntmps146
    go_wp2
    go_loopw [17] (fun i wr => ∃ (k : Nat), i = .int .i64 k ∧ k ≤ xs.length ∧ Hid (Qt w wr) ∧ Hid (∀ j, j < k → nthL xs j = nthL ys j)) (fun i _ => xs.length - (intOf i).toNat)
    case atStart => exact ⟨0, rfl, by omega, Qt.refl _, fun j hj => by omega⟩
    case round =>
      obtain ⟨k, rfl, hk, hQ, hq⟩ := hrel
      by_cases hkl : k < xs.length
      · obtain ⟨b1, o1, rfl, _, hcx⟩ := (hx.below (hQ.out.below _)).at_ (by omega)
        obtain ⟨b2, o2, rfl, _, hcy⟩ := (hy.below (hQ.out.below _)).at_ (by rw [← HL.out]; omega)
        obtain ⟨ai, ci, hx1, rx⟩ := hcx k hkl
        obtain ⟨aj, cj, hy1, ry⟩ := hcy k (by rw [← HL.out]; omega)
        clear hcx hcy hx hy
        have hc := slicesEqual_any ai aj ci cj (nthL xs k) (nthL ys k) wr rx ry
        obtain ⟨r, hr⟩ : ∃ r, decide (nthL xs k = nthL ys k) = r := ⟨_, rfl⟩
        rw [hr] at hc
        have HR := Lib.hid hr
        have HC := hide hc
        clear hr hc
        go_wp2_with fail
        refine (unhide HC).mono ?_
        rintro e w1 ⟨rfl, q1⟩
        cases r
        · go_wp2
          go_ret
          exact ⟨ret_bool (not_all_eqL (by simpa using HR.out)).symm, hQ.out.trans q1⟩
        · go_wp2
          go_roundw
          case rel =>
            refine ⟨k + 1, by go_num, by omega, hQ.out.trans q1, fun j hj => ?_⟩
            rcases Nat.lt_succ_iff_lt_or_eq.1 hj with h | rfl
            · exact hq.out j h
            · simpa using HR.out
          case measure => simp [intOf]; omega
      · go_wp2
        go_ret
        exact ⟨ret_bool (all_eqL HL.out hkl hq.out).symm, hQ.out⟩
  · have hne : ((xs.length : Int) != (ys.length : Int)) = true := by rw [bne_iff_ne]; omega
    have hd : decide (xs = ys) = false := by rw [decide_eq_false_iff_not]; rintro rfl; exact hl rfl
    have HD := Lib.hid hd
    clear hd
    go_enter Try.func146, Try.ntmps146
    go_wp2
    go_ret
    exact ⟨ret_bool HD.out.symm, 0, rfl⟩

theorem areSame_any (a b : Option Addr) (c d : Nat) (xs ys : List (List Int)) (w : World) (hx : RdS w a xs) (hy : RdS w b ys) :
    Calls Try.prog 101 #[.slice a xs.length c, .slice b ys.length d] w fun e w' => e = .returned (.bool (decide (xs = ys))) ∧ Qt w w' := by
  generalize hr : decide (xs = ys) = r
  have HR := Lib.hid hr
  clear hr
  go_enter Try.func101, Try.ntmps101
  go_wp2_with fail
  refine (equalFuncLists_any a b c d xs ys w hx hy).mono ?_
  rintro e w1 ⟨rfl, q1⟩
  rw [HR.out]
  go_wp2
  go_ret
  exact ⟨rfl, q1⟩
end Go.Proofs.Ytkbppgpegljcoaa
