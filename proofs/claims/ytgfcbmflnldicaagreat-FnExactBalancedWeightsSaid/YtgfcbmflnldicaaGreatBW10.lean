/-
  Texts joined.
-/
import Derived.Test.YtgfcbmflnldicaaGreatBW7
import Derived.Test.YtgfcbmflnldicaaGreatBW8
import Derived.Test.YtgfcbmflnldicaaGreatBW9
set_option linter.unusedVariables false
set_option linter.unusedSimpArgs false
set_option maxRecDepth 100000
set_option maxHeartbeats 40000000
namespace Go.Proofs.YtgfcbmflnldicaaGreat
open Go.RowKit
attribute [local go_sem ↓] Go.wp_at_zero Go.wp_at_succ
theorem l00Has_any (a : Option Addr) (c : Nat) (xs : List Int) (x : Int) (w : World) (hx : Rd w a xs) : Calls Tryz.prog 196 #[.slice a xs.length c, .int .i64 x] w fun e w' => e = .returned (.bool (xs.contains x)) ∧ w = w' := by
 have hxl := hx.len
 have hca : xs.contains x = xs.any (fun y => y == x) := by
  rw [List.contains_eq_any_beq]
  congr 1
  funext y
  exact Bool.eq_iff_iff.2 ⟨fun h => by simpa using (by simpa using h : x = y).symm, fun h => by simpa using (by simpa using h : y = x).symm⟩
 rw [hca, any_firstOf]
 generalize hr : firstOf (fun y => y == x) xs = r
 have HR := Lib.hid hr
 clear hr hca
 go_enter Tryz.func196, Tryz.ntmps196
 go_wp2
 go_loopw [5] (fun i wr => ∃ k : Nat, i = .int .i64 k ∧ k ≤ xs.length ∧ Hid (∀ j, j < k → (nth xs j == x) = false) ∧ w = wr) (fun i _ => xs.length - (intOf i).toNat)
 case atStart => exact ⟨0, rfl, Nat.zero_le _, fun j hj => by omega, rfl⟩
 case round =>
  obtain ⟨k, rfl, hk, hq, rfl⟩ := hrel
  by_cases hkl : k < xs.length
  · obtain ⟨b1, o1, rfl, _, hc⟩ := hx.at_ (by omega)
    have h1 := hc k hkl
    obtain ⟨s, hs⟩ : ∃ s, (nth xs k == x) = s := ⟨_, rfl⟩
    have HS := Lib.hid hs
    generalize nth xs k = y at h1 hs
    clear hc
    cases s
    · go_wp2
      go_roundw
      case rel =>
       refine ⟨k + 1, by go_num, by omega, fun j hj => ?_, trivial⟩
       rcases Nat.lt_succ_iff_lt_or_eq.1 hj with h | rfl
       · exact hq.out j h
       · exact HS.out
      case measure => simp [intOf]; omega
    · go_wp2
      go_ret
      exact ⟨ret_bool (by rw [← HR.out, firstOf_yes (p := fun y => y == x) hkl HS.out hq.out]; simp), rfl⟩
  · go_wp2
    go_ret
    exact ⟨ret_bool (by rw [← HR.out, firstOf_no (p := fun y => y == x) (fun j hj => hq.out j (by omega))]; simp), rfl⟩
end Go.Proofs.YtgfcbmflnldicaaGreat
