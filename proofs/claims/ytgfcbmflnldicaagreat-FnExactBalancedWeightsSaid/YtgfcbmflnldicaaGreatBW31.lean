/-
  Texts joined.
-/
import Derived.Test.YtgfcbmflnldicaaGreatBW1
import Derived.Test.YtgfcbmflnldicaaGreatBW6
import Derived.Test.YtgfcbmflnldicaaGreatBW21
set_option linter.unusedVariables false
set_option linter.unusedSimpArgs false
set_option maxRecDepth 100000
set_option maxHeartbeats 40000000
namespace Go.Proofs.YtgfcbmflnldicaaGreat
open Go.RowKit
attribute [local go_sem ↓] Go.wp_at_zero Go.wp_at_succ
theorem rises_any (a : Option Addr) (c : Nat) (b : List Int) (n m : Int) (w : World) (hr : Rd w a b) (h1 : 1 ≤ n) (h2 : n ≤ 32) (hm : m = n - 1) :
    Calls Tryz.prog 192 #[.slice a b.length c, .int .i64 0, .int .i64 m] w fun e w' => e = .returned (.bool (ris n b)) ∧ Qt w w' := by
 have hbl := hr.len
 have HM := Lib.hid hm
 have HR := hide hr
 clear hr hm
 go_enter Tryz.func192, Tryz.ntmps192
 go_wp2_with fail
 go_loopw [7] (fun iv wr => ∃ i : Nat, iv = .int .i64 i ∧ i ≤ b.length ∧ Hid (∀ k, k < i → risAt n b k) ∧ Qt w wr) (fun iv _ => b.length - (intOf iv).toNat)
 case atStart => exact ⟨0, rfl, Nat.zero_le _, fun k hk => by omega, Qt.refl _⟩
 case round =>
  obtain ⟨i, rfl, hi, hq, hqt⟩ := hrel
  by_cases hil : i < b.length
  · obtain ⟨b1, o1, rfl, _, hc⟩ := (unhide HR).at_ (by omega)
    have g1 : wr.cell? ⟨b1, o1 + i, none⟩ = some (.int .i64 (nth b i)) := by
     obtain ⟨k, rfl⟩ := hqt
     exact hc i hil
    have HNO := hide (fun h => ris_no (n := n) hil h)
    obtain ⟨x, hx⟩ : ∃ x, x = nth b i := ⟨_, rfl⟩
    have HXX := Lib.hid hx
    rw [← hx] at g1
    have HIN : ∀ W, Calls Tryz.prog 113 #[.int .i64 x, .int .i64 0, .int .i64 m] W fun e w' => e = .returned (.bool (inB x 0 m)) ∧ w' = W := fun W => (l00In_any x 0 m W).mono fun _ _ h => ⟨h.1, h.2.symm⟩
    obtain ⟨q, hq0⟩ : ∃ q, q = inB x 0 m := ⟨_, rfl⟩
    rw [← hq0] at HIN
    have HIN := hide HIN
    have HQ := Lib.hid hq0
    clear hq0 hx
    cases q with
    | false =>
     have HN := Lib.hid (show ris n b = false from unhide HNO (fun h => by
      have := HQ.out
      rw [risAt, ← HXX.out] at h
      rw [inB_yes h.1 (by have := h.2.1; have := HM.out; omega)] at this
      cases this))
     clear hc HNO
     go_upto_region 4 with fail
     go_quiet ((go_at_call 113; exact Calls.quiet_of_same (unhide HIN _)))
     go_wp2
     go_ret
     exact ⟨ret_bool (by rw [HN.out]), hqt.trans (Qt.one _ _)⟩
    | true =>
     have hin := inB_true.1 HQ.out.symm
     have hin2 : x < n := by have := HM.out; omega
     have hin1 := hin.1
     clear hin
     by_cases hi0 : i = 0
     · have hz : ¬ (0 : Int) < (i : Int) := by omega
       have hz2 : ¬ 0 < i := by omega
       have hnx : ∀ k, k < i + 1 → risAt n b k := fun k hk => by
        obtain rfl : k = i := by omega
        exact ⟨by rw [← HXX.out]; exact hin1, by rw [← HXX.out]; exact hin2, fun h => by omega⟩
       have HNX := hide hnx
       clear hi0 hnx hin1 hin2 hc hq HNO
       go_upto_region 4 with fail
       go_quiet ((go_at_call 113; exact Calls.quiet_of_same (unhide HIN _)))
       go_wp2
       go_roundw
       case rel => exact ⟨i + 1, by go_num, by omega, unhide HNX, hqt.trans (Qt.one _ _)⟩
       case measure => simp only [intOf]; omega
     · obtain ⟨m1, rfl⟩ : ∃ m1, i = m1 + 1 := ⟨i - 1, by omega⟩
       have g0 : wr.cell? ⟨b1, o1 + m1, none⟩ = some (.int .i64 (nth b m1)) := by
        obtain ⟨k, rfl⟩ := hqt
        exact hc m1 (by omega)
       have hw4 : IntKind.i64.wrap (m1 : Int) = (m1 : Int) := IntWalk.i64_in _ (by omega)
       have i0 : 0 ≤ (m1 : Int) + 1 := by omega
       have i1 : (m1 : Int) + 1 < (b.length : Int) := by omega
       have i2 : (m1 : Int) < (b.length : Int) := by omega
       have i3 : (0 : Int) < (m1 : Int) + 1 := by omega
       have i4 : m1 < b.length := by omega
       obtain ⟨y, hy⟩ : ∃ y, y = nth b m1 := ⟨_, rfl⟩
       rw [← hy] at g0
       by_cases hlt : y < x
       · have hnx : ∀ k, k < m1 + 1 + 1 → risAt n b k := fun k hk => by
           rcases Nat.lt_succ_iff_lt_or_eq.1 hk with h | rfl
           · exact hq.out k h
           · exact ⟨by rw [← HXX.out]; exact hin1, by rw [← HXX.out]; exact hin2, fun h => by rw [← HXX.out, show m1 + 1 - 1 = m1 by omega, ← hy]; exact hlt⟩
         have HNX := hide hnx
         have hge : ¬ x ≤ y := by omega
         clear hi0 hnx hin1 hin2 hc hlt hy hq HNO
         go_upto_region 4 with fail
         go_quiet ((go_at_call 113; exact Calls.quiet_of_same (unhide HIN _)))
         go_wp2
         go_roundw
         case rel => exact ⟨m1 + 1 + 1, by go_num, by omega, unhide HNX, hqt.trans (Qt.one _ _)⟩
         case measure => simp only [intOf]; omega
       · have HN := Lib.hid (show ris n b = false from unhide HNO (fun h => by
           have h5 := h.2.2 (by omega)
           rw [← HXX.out, show m1 + 1 - 1 = m1 by omega, ← hy] at h5
           exact hlt h5))
         have hge : x ≤ y := by omega
         clear hi0 hin1 hin2 hc hlt hy hq HNO
         go_upto_region 4 with fail
         go_quiet ((go_at_call 113; exact Calls.quiet_of_same (unhide HIN _)))
         go_wp2
         go_ret
         exact ⟨ret_bool (by rw [HN.out]), hqt.trans (Qt.one _ _)⟩
  · have hie : i = b.length := by omega
    have HN := Lib.hid (show ris n b = true from ris_yes (fun k hk => hq.out k (by omega)))
    go_wp2
    go_ret
    exact ⟨ret_bool (by rw [HN.out]), hqt⟩
theorem l10Block_any (a : Option Addr) (c : Nat) (b : List Int) (n : Int) (w : World) (hr : Rd w a b) (h1 : 1 ≤ n) (h2 : n ≤ 32) :
    Calls Tryz.prog 130 #[.slice a b.length c, .int .i64 n] w fun e w' => e = .returned (.bool (okB n b)) ∧ Qt w w' := by
 have hbl := hr.len
 by_cases h0 : 0 < b.length
 · have HR := hide (rises_any a c b n (n - 1) w hr h1 h2 rfl)
   have hw : IntKind.i64.wrap (n - 1) = n - 1 := IntWalk.i64_in _ (by omega)
   rw [okB_ris h0]
   have h0' : (0 : Int) < (b.length : Int) := by omega
   go_enter Tryz.func130, Tryz.ntmps130
   go_wp2_with fail
   refine (unhide HR).mono ?_
   rintro e w1 ⟨rfl, q1⟩
   go_wp2
   go_ret
   exact ⟨rfl, q1⟩
 · rw [okB_nil h0]
   have h0' : ¬ (0 : Int) < (b.length : Int) := by omega
   go_enter Tryz.func130, Tryz.ntmps130
   go_wp2
   go_ret
   exact ⟨rfl, Qt.refl _⟩
theorem compareS_any (a b : Option Addr) (c d : Nat) (xs ys : List Int) (w : World) (hx : Rd w a xs) (hy : Rd w b ys) :
    Calls Tryz.prog 39 #[.slice a xs.length c, .slice b ys.length d] w fun e w' => e = .returned (.int .i64 (cmpL xs ys)) ∧ Qt w w' := by
 have hxl := hx.len
 have hyl := hy.len
 have HX := hide hx
 have HY := hide hy
 clear hx hy
 go_enter Tryz.func39, Tryz.ntmps39
 go_wp2_with fail
 go_loopw [5] (fun iv wr => ∃ k : Nat, iv = .int .i64 k ∧ k ≤ xs.length ∧ k ≤ ys.length ∧ Hid (cmpL xs ys = cmpL (xs.drop k) (ys.drop k)) ∧ Qt w wr) (fun iv _ => xs.length - (intOf iv).toNat)
 case atStart => exact ⟨0, rfl, Nat.zero_le _, Nat.zero_le _, by show _ = _; rw [List.drop_zero, List.drop_zero], Qt.refl _⟩
 case round =>
  obtain ⟨k, rfl, hk1, hk2, hq, hqt⟩ := hrel
  by_cases h1 : k < xs.length
  · obtain ⟨b1, o1, e1, _, hc1⟩ := (unhide HX).at_ (by omega)
    have g1 : wr.cell? ⟨b1, o1 + k, none⟩ = some (.int .i64 (nth xs k)) := by
     obtain ⟨_, rfl⟩ := hqt
     exact hc1 k h1
    subst e1
    by_cases h2 : k < ys.length
    · obtain ⟨b2, o2, e2, _, hc2⟩ := (unhide HY).at_ (by omega)
      have g2 : wr.cell? ⟨b2, o2 + k, none⟩ = some (.int .i64 (nth ys k)) := by
       obtain ⟨_, rfl⟩ := hqt
       exact hc2 k h2
      subst e2
      have hst := cmpL_drop h1 h2
      obtain ⟨x, hxx⟩ : ∃ x, x = nth xs k := ⟨_, rfl⟩
      obtain ⟨y, hyy⟩ : ∃ y, y = nth ys k := ⟨_, rfl⟩
      rw [← hxx, ← hyy] at hst
      rw [← hxx] at g1
      rw [← hyy] at g2
      clear hxx hyy hc1 hc2
      by_cases hlt : x < y
      · have hz : cmpI x y = -1 := by rw [cmpI, if_pos hlt]
        rw [hz, if_neg (by decide)] at hst
        have HST := Lib.hid hst
        clear hst hz
        go_upto_region 4 with fail
        go_quiet (fail)
        go_wp2
        go_ret
        exact ⟨ret_int (by rw [hq.out, HST.out]), hqt.trans (Qt.one _ _)⟩
      · by_cases hgt : y < x
        · have hz : cmpI x y = 1 := by rw [cmpI, if_neg hlt, if_pos hgt]
          rw [hz, if_neg (by decide)] at hst
          have HST := Lib.hid hst
          clear hst hz
          go_upto_region 4 with fail
          go_quiet (fail)
          go_upto_region 6 with fail
          go_quiet (fail)
          go_wp2
          go_ret
          exact ⟨ret_int (by rw [hq.out, HST.out]), hqt.trans ⟨_, rfl⟩⟩
        · have hz : cmpI x y = 0 := by rw [cmpI, if_neg hlt, if_neg hgt]
          rw [hz, if_pos rfl] at hst
          have HST := Lib.hid hst
          clear hst hz
          go_upto_region 4 with fail
          go_quiet (fail)
          go_upto_region 6 with fail
          go_quiet (fail)
          go_wp2
          go_roundw
          case rel => exact ⟨k + 1, by go_num, by omega, by omega, by show _ = _; rw [hq.out, HST.out], hqt.trans ⟨_, rfl⟩⟩
          case measure => simp only [intOf]; omega
    · have hst := cmpL_long h1 h2
      have HST := Lib.hid hst
      have j1 : ¬ (k : Int) < (ys.length : Int) := by omega
      have j2 : ¬ (xs.length : Int) < (ys.length : Int) := by omega
      have j3 : (ys.length : Int) < (xs.length : Int) := by omega
      clear hst
      go_wp2
      go_ret
      exact ⟨ret_int (by rw [hq.out, HST.out]), hqt⟩
  · by_cases h2 : k < ys.length
    · have hst := cmpL_short h1 h2
      have HST := Lib.hid hst
      have j2 : (xs.length : Int) < (ys.length : Int) := by omega
      clear hst
      go_wp2
      go_ret
      exact ⟨ret_int (by rw [hq.out, HST.out]), hqt⟩
    · have hst := cmpL_end h1 h2
      have HST := Lib.hid hst
      have j2 : ¬ (xs.length : Int) < (ys.length : Int) := by omega
      have j3 : ¬ (ys.length : Int) < (xs.length : Int) := by omega
      clear hst
      go_wp2
      go_ret
      exact ⟨ret_int (by rw [hq.out, HST.out]), hqt⟩
noncomputable instance (xss : List (List Int)) : Decidable (∀ k, 0 < k → k < xss.length → cmpL (nthL xss (k - 1)) (nthL xss k) ≤ 0) := Classical.propDecidable _
end Go.Proofs.YtgfcbmflnldicaaGreat
