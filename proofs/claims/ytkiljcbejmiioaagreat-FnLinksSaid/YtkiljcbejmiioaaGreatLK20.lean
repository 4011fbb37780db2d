/-
  Texts joined.
-/
import Derived.Test.YtkiljcbejmiioaaGreatLK1
import Derived.Test.YtkiljcbejmiioaaGreatLK6
import Derived.Test.YtkiljcbejmiioaaGreatLK19
set_option linter.unusedVariables false
set_option linter.unusedSimpArgs false
set_option maxRecDepth 100000
set_option maxHeartbeats 40000000
namespace Go.Proofs.YtkiljcbejmiioaaGreat
open Go.RowKit
attribute [local go_sem ↓] Go.wp_at_zero Go.wp_at_succ
theorem rises_any (a : Option Addr) (c : Nat) (b : List Int) (n m : Int) (w : World) (hr : Rd w a b) (h1 : 1 ≤ n) (h2 : n ≤ 32) (hm : m = n - 1) :
    Calls Tryz.prog 114 #[.slice a b.length c, .int .i64 0, .int .i64 m] w fun e w' => e = .returned (.bool (ris n b)) ∧ Qt w w' := by
 have hbl := hr.len
 have HM := Lib.hid hm
 have HR := hide hr
 clear hr hm
 go_enter Tryz.func114, Tryz.ntmps114
 go_wp2_with fail
 go_loopw [7] (fun iv wr => ∃ i : Nat, iv = .int .i64 i ∧ i ≤ b.length ∧ Hid (∀ k, k < i → risAt n b k) ∧ Qt w wr) (fun iv _ => b.length - (intOf iv).toNat)
 case atStart => exact ⟨0, rfl, Nat.zero_le _, fun k hk => by omega, Qt.refl _⟩
 case round =>
  obtain ⟨i, rfl, hi, hq, hqt⟩ := hrel
  by_cases hil : i < b.length
  · obtain ⟨b1, o1, rfl, _, hc⟩ := (unhide HR).at_ (by omega)
    have g1 : wr.cell? ⟨b1, o1 + i, none⟩ = some (.int .i64 (nth b i)) := by
     obtain ⟨k, rfl⟩ := hqt
     exact hc i hil
    have HNO := hide (fun h => ris_no (n := n) hil h)
    obtain ⟨x, hx⟩ : ∃ x, x = nth b i := ⟨_, rfl⟩
    have HXX := Lib.hid hx
    rw [← hx] at g1
    have HIN : ∀ W, Calls Tryz.prog 58 #[.int .i64 x, .int .i64 0, .int .i64 m] W fun e w' => e = .returned (.bool (inB x 0 m)) ∧ w' = W := fun W => (l00In_any x 0 m W).mono fun _ _ h => ⟨h.1, h.2.symm⟩
    obtain ⟨q, hq0⟩ : ∃ q, q = inB x 0 m := ⟨_, rfl⟩
    rw [← hq0] at HIN
    have HIN := hide HIN
    have HQ := Lib.hid hq0
    clear hq0 hx
    cases q with
    | false =>
     have HN := Lib.hid (show ris n b = false from unhide HNO (fun h => by
      have := HQ.out
      rw [risAt, ← HXX.out] at h
      rw [inB_yes h.1 (by have := h.2.1; have := HM.out; omega)] at this
      cases this))
     clear hc HNO
     go_upto_region 4 with fail
     go_quiet ((go_at_call 58; exact Calls.quiet_of_same (unhide HIN _)))
     go_wp2
     go_ret
     exact ⟨ret_bool (by rw [HN.out]), hqt.trans (Qt.one _ _)⟩
    | true =>
     have hin := inB_true.1 HQ.out.symm
     have hin2 : x < n := by have := HM.out; omega
     have hin1 := hin.1
     clear hin
     by_cases hi0 : i = 0
     · have hz : ¬ (0 : Int) < (i : Int) := by omega
       have hz2 : ¬ 0 < i := by omega
       have hnx : ∀ k, k < i + 1 → risAt n b k := fun k hk => by
        obtain rfl : k = i := by omega
        exact ⟨by rw [← HXX.out]; exact hin1, by rw [← HXX.out]; exact hin2, fun h => by omega⟩
       have HNX := hide hnx
       clear hi0 hnx hin1 hin2 hc hq HNO
       go_upto_region 4 with fail
       go_quiet ((go_at_call 58; exact Calls.quiet_of_same (unhide HIN _)))
       go_wp2
       go_roundw
       case rel => exact ⟨i + 1, by go_num, by omega, unhide HNX, hqt.trans (Qt.one _ _)⟩
       case measure => simp only [intOf]; omega
     · obtain ⟨m1, rfl⟩ : ∃ m1, i = m1 + 1 := ⟨i - 1, by omega⟩
       have g0 : wr.cell? ⟨b1, o1 + m1, none⟩ = some (.int .i64 (nth b m1)) := by
        obtain ⟨k, rfl⟩ := hqt
        exact hc m1 (by omega)
       have hw4 : IntKind.i64.wrap (m1 : Int) = (m1 : Int) := IntWalk.i64_in _ (by omega)
       have i0 : 0 ≤ (m1 : Int) + 1 := by omega
       have i1 : (m1 : Int) + 1 < (b.length : Int) := by omega
       have i2 : (m1 : Int) < (b.length : Int) := by omega
       have i3 : (0 : Int) < (m1 : Int) + 1 := by omega
       have i4 : m1 < b.length := by omega
       obtain ⟨y, hy⟩ : ∃ y, y = nth b m1 := ⟨_, rfl⟩
       rw [← hy] at g0
       by_cases hlt : y < x
       · have hnx : ∀ k, k < m1 + 1 + 1 → risAt n b k := fun k hk => by
           rcases Nat.lt_succ_iff_lt_or_eq.1 hk with h | rfl
           · exact hq.out k h
           · exact ⟨by rw [← HXX.out]; exact hin1, by rw [← HXX.out]; exact hin2, fun h => by rw [← HXX.out, show m1 + 1 - 1 = m1 by omega, ← hy]; exact hlt⟩
         have HNX := hide hnx
         have hge : ¬ x ≤ y := by omega
         clear hi0 hnx hin1 hin2 hc hlt hy hq HNO
         go_upto_region 4 with fail
         go_quiet ((go_at_call 58; exact Calls.quiet_of_same (unhide HIN _)))
         go_wp2
         go_roundw
         case rel => exact ⟨m1 + 1 + 1, by go_num, by omega, unhide HNX, hqt.trans (Qt.one _ _)⟩
         case measure => simp only [intOf]; omega
       · have HN := Lib.hid (show ris n b = false from unhide HNO (fun h => by
           have h5 := h.2.2 (by omega)
           rw [← HXX.out, show m1 + 1 - 1 = m1 by omega, ← hy] at h5
           exact hlt h5))
         have hge : x ≤ y := by omega
         clear hi0 hin1 hin2 hc hlt hy hq HNO
         go_upto_region 4 with fail
         go_quiet ((go_at_call 58; exact Calls.quiet_of_same (unhide HIN _)))
         go_wp2
         go_ret
         exact ⟨ret_bool (by rw [HN.out]), hqt.trans (Qt.one _ _)⟩
  · have hie : i = b.length := by omega
    have HN := Lib.hid (show ris n b = true from ris_yes (fun k hk => hq.out k (by omega)))
    go_wp2
    go_ret
    exact ⟨ret_bool (by rw [HN.out]), hqt⟩
theorem l10Block_any (a : Option Addr) (c : Nat) (b : List Int) (n : Int) (w : World) (hr : Rd w a b) (h1 : 1 ≤ n) (h2 : n ≤ 32) :
    Calls Tryz.prog 59 #[.slice a b.length c, .int .i64 n] w fun e w' => e = .returned (.bool (okB n b)) ∧ Qt w w' := by
 have hbl := hr.len
 by_cases h0 : 0 < b.length
 · have HR := hide (rises_any a c b n (n - 1) w hr h1 h2 rfl)
   have hw : IntKind.i64.wrap (n - 1) = n - 1 := IntWalk.i64_in _ (by omega)
   rw [okB_ris h0]
   have h0' : (0 : Int) < (b.length : Int) := by omega
   go_enter Tryz.func59, Tryz.ntmps59
   go_wp2_with fail
   refine (unhide HR).mono ?_
   rintro e w1 ⟨rfl, q1⟩
   go_wp2
   go_ret
   exact ⟨rfl, q1⟩
 · rw [okB_nil h0]
   have h0' : ¬ (0 : Int) < (b.length : Int) := by omega
   go_enter Tryz.func59, Tryz.ntmps59
   go_wp2
   go_ret
   exact ⟨rfl, Qt.refl _⟩
theorem compareS_any (a b : Option Addr) (c d : Nat) (xs ys : List Int) (w : World) (hx : Rd w a xs) (hy : Rd w b ys) :
    Calls Tryz.prog 13 #[.slice a xs.length c, .slice b ys.length d] w fun e w' => e = .returned (.int .i64 (cmpL xs ys)) ∧ Qt w w' := by
 have hxl := hx.len
 have hyl := hy.len
 have HX := hide hx
 have HY := hide hy
 clear hx hy
 go_enter Tryz.func13, Tryz.ntmps13
 go_wp2_with fail
 go_loopw [5] (fun iv wr => ∃ k : Nat, iv = .int .i64 k ∧ k ≤ xs.length ∧ k ≤ ys.length ∧ Hid (cmpL xs ys = cmpL (xs.drop k) (ys.drop k)) ∧ Qt w wr) (fun iv _ => xs.length - (intOf iv).toNat)
 case atStart => exact ⟨0, rfl, Nat.zero_le _, Nat.zero_le _, by show _ = _; rw [List.drop_zero, List.drop_zero], Qt.refl _⟩
 case round =>
  obtain ⟨k, rfl, hk1, hk2, hq, hqt⟩ := hrel
  by_cases h1 : k < xs.length
  · obtain ⟨b1, o1, e1, _, hc1⟩ := (unhide HX).at_ (by omega)
    have g1 : wr.cell? ⟨b1, o1 + k, none⟩ = some (.int .i64 (nth xs k)) := by
     obtain ⟨_, rfl⟩ := hqt
     exact hc1 k h1
    subst e1
    by_cases h2 : k < ys.length
    · obtain ⟨b2, o2, e2, _, hc2⟩ := (unhide HY).at_ (by omega)
      have g2 : wr.cell? ⟨b2, o2 + k, none⟩ = some (.int .i64 (nth ys k)) := by
       obtain ⟨_, rfl⟩ := hqt
       exact hc2 k h2
      subst e2
      have hst := cmpL_drop h1 h2
      obtain ⟨x, hxx⟩ : ∃ x, x = nth xs k := ⟨_, rfl⟩
      obtain ⟨y, hyy⟩ : ∃ y, y = nth ys k := ⟨_, rfl⟩
      rw [← hxx, ← hyy] at hst
      rw [← hxx] at g1
      rw [← hyy] at g2
      clear hxx hyy hc1 hc2
      by_cases hlt : x < y
      · have hz : cmpI x y = -1 := by rw [cmpI, if_pos hlt]
        rw [hz, if_neg (by decide)] at hst
        have HST := Lib.hid hst
        clear hst hz
        go_upto_region 4 with fail
        go_quiet (fail)
        go_wp2
        go_ret
        exact ⟨ret_int (by rw [hq.out, HST.out]), hqt.trans (Qt.one _ _)⟩
      · by_cases hgt : y < x
        · have hz : cmpI x y = 1 := by rw [cmpI, if_neg hlt, if_pos hgt]
          rw [hz, if_neg (by decide)] at hst
          have HST := Lib.hid hst
          clear hst hz
          go_upto_region 4 with fail
          go_quiet (fail)
          go_upto_region 6 with fail
          go_quiet (fail)
          go_wp2
          go_ret
          exact ⟨ret_int (by rw [hq.out, HST.out]), hqt.trans ⟨_, rfl⟩⟩
        · have hz : cmpI x y = 0 := by rw [cmpI, if_neg hlt, if_neg hgt]
          rw [hz, if_pos rfl] at hst
          have HST := Lib.hid hst
          clear hst hz
          go_upto_region 4 with fail
          go_quiet (fail)
          go_upto_region 6 with fail
          go_quiet (fail)
          go_wp2
          go_roundw
          case rel => exact ⟨k + 1, by go_num, by omega, by omega, by show _ = _; rw [hq.out, HST.out], hqt.trans ⟨_, rfl⟩⟩
          case measure => simp only [intOf]; omega
    · have hst := cmpL_long h1 h2
      have HST := Lib.hid hst
      have j1 : ¬ (k : Int) < (ys.length : Int) := by omega
      have j2 : ¬ (xs.length : Int) < (ys.length : Int) := by omega
      have j3 : (ys.length : Int) < (xs.length : Int) := by omega
      clear hst
      go_wp2
      go_ret
      exact ⟨ret_int (by rw [hq.out, HST.out]), hqt⟩
  · by_cases h2 : k < ys.length
    · have hst := cmpL_short h1 h2
      have HST := Lib.hid hst
      have j2 : (xs.length : Int) < (ys.length : Int) := by omega
      clear hst
      go_wp2
      go_ret
      exact ⟨ret_int (by rw [hq.out, HST.out]), hqt⟩
    · have hst := cmpL_end h1 h2
      have HST := Lib.hid hst
      have j2 : ¬ (xs.length : Int) < (ys.length : Int) := by omega
      have j3 : ¬ (ys.length : Int) < (xs.length : Int) := by omega
      clear hst
      go_wp2
      go_ret
      exact ⟨ret_int (by rw [hq.out, HST.out]), hqt⟩
theorem l10Ok_any (g : Nat) (p : Int) (ra : Option Addr) (rc : Nat) (xss : List (List Int)) (w : World) (hc0 : w.cell? ⟨g, 0, none⟩ = some (.int .i64 p)) (hc1 : w.cell? ⟨g, 1, none⟩ = some (.slice ra xss.length rc)) (hx : RdS w ra xss) :
    Calls Tryz.prog 22 #[.pointer (some ⟨g, 0, none⟩)] w fun e w' => e = .returned (.bool (okD p xss)) ∧ Qt w w' := by
 have hxl := hx.len
 have HIN := hide (l00In_any p 1 32 w)
 by_cases hp : 1 ≤ p ∧ p ≤ 32
 · rw [inB_yes hp.1 hp.2] at HIN
   have hp1 := hp.1
   have hp2 := hp.2
   by_cases hl : xss.length ≤ 128
   · have hl' : ¬ (128 : Int) < (xss.length : Int) := by omega
     have HX := hide hx
     clear hx
     go_enter Tryz.func22, Tryz.ntmps22
     go_wp2_with fail
     refine (unhide HIN).mono ?_
     rintro e w1 ⟨rfl, rfl⟩
     go_wp2_with fail
     go_loopw [3] (fun iv wr => ∃ i : Nat, iv = .int .i64 i ∧ i ≤ xss.length ∧ Hid (∀ k, k < i → blkAt p xss k) ∧ Qt w wr) (fun iv _ => xss.length - (intOf iv).toNat)
     case atStart => exact ⟨0, rfl, Nat.zero_le _, fun k hk => by omega, Qt.refl _⟩
     case round =>
      obtain ⟨i, rfl, hi, hq, hqt⟩ := hrel
      have d0 : wr.cell? ⟨g, 0, none⟩ = some (.int .i64 p) := by obtain ⟨_, rfl⟩ := hqt; exact hc0
      have d1 : wr.cell? ⟨g, 1, none⟩ = some (.slice ra xss.length rc) := by obtain ⟨_, rfl⟩ := hqt; exact hc1
      by_cases hil : i < xss.length
      · obtain ⟨b1, o1, rfl, _, hc⟩ := (unhide HX).at_ (by omega)
        obtain ⟨ai, ci, h3, hri⟩ := hc i hil
        have g1 : wr.cell? ⟨b1, o1 + i, none⟩ = some (.slice ai (nthL xss i).length ci) := by obtain ⟨_, rfl⟩ := hqt; exact h3
        have hbl := fun n => l10Block_any ai ci (nthL xss i) p (wr.drewN n) ((hri.below (hqt.below _)).drewN n) hp1 hp2
        have HNO := hide (fun h => okD_no (n := p) hil h)
        obtain ⟨q, hq0⟩ : ∃ q, q = okB p (nthL xss i) := ⟨_, rfl⟩
        rw [← hq0] at hbl
        have HBL := hide hbl
        have HQ := Lib.hid hq0
        clear hbl hq0
        cases q with
        | false =>
         have HN := Lib.hid (show okD p xss = false from unhide HNO (fun h => by rw [blkAt, ← HQ.out] at h; exact absurd h.1 (by decide)))
         obtain ⟨row, hrow⟩ : ∃ row, row = nthL xss i := ⟨_, rfl⟩
         have hrl := hri.len
         rw [← hrow] at g1 HBL hrl
         clear hc h3 hri hrow HNO
         go_upto_region 6 with fail
         go_quiet ((go_at_call 59; exact Calls.quiet_of (unhide HBL _)))
         go_wp2
         go_ret
         exact ⟨ret_bool (by rw [HN.out]), hqt.trans (Qt.one _ _)⟩
        | true =>
         by_cases hi0 : i = 0
         · have hz : ¬ (0 : Int) < (i : Int) := by omega
           have hz2 : ¬ 0 < i := by omega
           have hnx : ∀ k, k < i + 1 → blkAt p xss k := fun k hk => by
            obtain rfl : k = i := by omega
            exact ⟨HQ.out.symm, fun h => by omega⟩
           have HNX := hide hnx
           obtain ⟨row, hrow⟩ : ∃ row, row = nthL xss i := ⟨_, rfl⟩
           have hrl := hri.len
           rw [← hrow] at g1 HBL hrl
           clear hc h3 hri hrow HNO hnx hi0
           go_upto_region 6 with fail
           go_quiet ((go_at_call 59; exact Calls.quiet_of (unhide HBL _)))
           go_wp2
           go_roundw
           case rel => exact ⟨i + 1, by go_num, by omega, unhide HNX, hqt.trans (Qt.one _ _)⟩
           case measure => simp only [intOf]; omega
         · obtain ⟨m1, rfl⟩ : ∃ m1, i = m1 + 1 := ⟨i - 1, by omega⟩
           obtain ⟨aj, cj, h4, hrj⟩ := hc m1 (by omega)
           have g0 : wr.cell? ⟨b1, o1 + m1, none⟩ = some (.slice aj (nthL xss m1).length cj) := by obtain ⟨_, rfl⟩ := hqt; exact h4
           have hcs := fun n => compareS_any aj ai cj ci (nthL xss m1) (nthL xss (m1 + 1)) (wr.drewN n) ((hrj.below (hqt.below _)).drewN n) ((hri.below (hqt.below _)).drewN n)
           have hw4 : IntKind.i64.wrap (m1 : Int) = (m1 : Int) := IntWalk.i64_in _ (by omega)
           have i0 : 0 ≤ (m1 : Int) + 1 := by omega
           have i1 : (m1 : Int) + 1 < (xss.length : Int) := by omega
           have i2 : (m1 : Int) < (xss.length : Int) := by omega
           have i3 : (0 : Int) < (m1 : Int) + 1 := by omega
           have i4 : m1 < xss.length := by omega
           have hrl := hri.len
           have hrl2 := hrj.len
           obtain ⟨z, hz⟩ : ∃ z, z = cmpL (nthL xss m1) (nthL xss (m1 + 1)) := ⟨_, rfl⟩
           rw [← hz] at hcs
           have HZ := Lib.hid hz
           obtain ⟨row, hrow⟩ : ∃ row, row = nthL xss (m1 + 1) := ⟨_, rfl⟩
           obtain ⟨row2, hrow2⟩ : ∃ row, row = nthL xss m1 := ⟨_, rfl⟩
           rw [← hrow] at g1 HBL hrl hcs
           rw [← hrow2] at g0 hrl2 hcs
           have HCS := hide hcs
           clear hc h3 h4 hri hrj hrow hrow2 hcs hz hi0
           by_cases hz0 : 0 < z
           · have HN := Lib.hid (show okD p xss = false from unhide HNO (fun h => by
               have h5 := h.2 (by omega)
               rw [show m1 + 1 - 1 = m1 by omega, ← HZ.out] at h5
               omega))
             clear HNO
             go_upto_region 6 with fail
             go_quiet ((first | (go_at_call 59; exact Calls.quiet_of (unhide HBL _)) | (go_at_call 13; exact Calls.quiet_of (unhide HCS _))))
             go_wp2
             go_ret
             exact ⟨ret_bool (by rw [HN.out]), hqt.trans (Qt.one _ _)⟩
           · have hnx : ∀ k, k < m1 + 1 + 1 → blkAt p xss k := fun k hk => by
               rcases Nat.lt_succ_iff_lt_or_eq.1 hk with h | rfl
               · exact hq.out k h
               · exact ⟨HQ.out.symm, fun h => by rw [show m1 + 1 - 1 = m1 by omega, ← HZ.out]; omega⟩
             have HNX := hide hnx
             clear hnx HNO hq
             go_upto_region 6 with fail
             go_quiet ((first | (go_at_call 59; exact Calls.quiet_of (unhide HBL _)) | (go_at_call 13; exact Calls.quiet_of (unhide HCS _))))
             go_wp2
             go_roundw
             case rel => exact ⟨m1 + 1 + 1, by go_num, by omega, unhide HNX, hqt.trans (Qt.one _ _)⟩
             case measure => simp only [intOf]; omega
      · have HN := Lib.hid (show okD p xss = true from okD_yes hp hl (fun k hk => hq.out k (by omega)))
        have hie : ¬ (i : Int) < (xss.length : Int) := by omega
        clear hq
        go_wp2
        go_ret
        exact ⟨ret_bool (by rw [HN.out]), hqt⟩
   · have hl' : (128 : Int) < (xss.length : Int) := by omega
     have HN := Lib.hid (okD_long (n := p) hl)
     go_enter Tryz.func22, Tryz.ntmps22
     go_wp2_with fail
     refine (unhide HIN).mono ?_
     rintro e w1 ⟨rfl, rfl⟩
     go_wp2
     go_ret
     exact ⟨ret_bool (by rw [HN.out]), Qt.refl _⟩
 · have hf : inB p 1 32 = false := by simp only [inB]; exact decide_eq_false hp
   rw [hf] at HIN
   have HN := Lib.hid (okD_range (xss := xss) hp)
   go_enter Tryz.func22, Tryz.ntmps22
   go_wp2_with fail
   refine (unhide HIN).mono ?_
   rintro e w1 ⟨rfl, rfl⟩
   go_wp2
   go_ret
   exact ⟨ret_bool (by rw [HN.out]), Qt.refl _⟩
theorem validSet_any (a : Option Addr) (c : Nat) (b : List Int) (n : Int) (w : World) (hr : Rd w a b) (h1 : 1 ≤ n) (h2 : n ≤ 32) :
    Calls Tryz.prog 141 #[.slice a b.length c, .int .i64 n] w fun e w' => e = .returned (.bool (ris n b)) ∧ w = w' := by
 have hbl := hr.len
 have HW := hide (within_any n 0 32 w)
 rw [inB_yes (by omega) h2] at HW
 have HR := hide hr
 clear hr
 go_enter Tryz.func141, Tryz.ntmps141
 go_wp2_with fail
 go_loop [5, 10] (fun lv iv => ∃ (i : Nat) (l : Int), iv = .int .i64 i ∧ lv = .int .i64 l ∧ i ≤ b.length ∧ -1 ≤ l ∧ Hid ((∀ k, k < i → risAt n b k) ∧ (l = if i = 0 then -1 else nth b (i - 1)))) (fun _ iv => b.length - (intOf iv).toNat)
 case atStart => exact ⟨0, -1, rfl, rfl, Nat.zero_le _, by omega, ⟨fun k hk => by omega, rfl⟩⟩
 case round =>
  obtain ⟨i, l, rfl, rfl, hi, hl1, hq⟩ := hrel
  by_cases hil : i < b.length
  · obtain ⟨b1, o1, rfl, _, hc⟩ := (unhide HR).at_ (by omega)
    have g1 := hc i hil
    have HNO := hide (fun h => ris_no (n := n) hil h)
    obtain ⟨x, hx⟩ : ∃ x, x = nth b i := ⟨_, rfl⟩
    rw [← hx] at g1
    by_cases hxl : x ≤ l
    · have HN := Lib.hid (show ris n b = false from unhide HNO (fun h => by
        have h3 := hq.out.2
        obtain ⟨h4, h5, h6⟩ := h
        rw [← hx] at h4 h6
        by_cases h0 : i = 0
        · rw [if_pos h0] at h3; omega
        · rw [if_neg h0] at h3
          have := h6 (by omega)
          omega))
      clear hc hx HNO hq
      go_wp2
      go_ret
      exact ⟨ret_bool (by rw [HN.out]), rfl⟩
    · by_cases hxn : n ≤ x
      · have HN := Lib.hid (show ris n b = false from unhide HNO (fun h => by
          have h5 := h.2.1
          omega))
        clear hc hx HNO hq
        go_wp2
        go_ret
        exact ⟨ret_bool (by rw [HN.out]), rfl⟩
      · have hnx : (∀ k, k < i + 1 → risAt n b k) ∧ (x = if i + 1 = 0 then -1 else nth b (i + 1 - 1)) := by
          obtain ⟨h3, h4⟩ := hq.out
          refine ⟨fun k hk => ?_, by rw [if_neg (by omega), hx]; rfl⟩
          rcases Nat.lt_succ_iff_lt_or_eq.1 hk with h | rfl
          · exact h3 k h
          · refine ⟨by omega, by omega, fun h => ?_⟩
            rw [if_neg (by omega)] at h4
            omega
        have HNX := hide hnx
        have hx1 : -1 ≤ x := by omega
        clear hc hx HNO hq hnx
        go_wp2
        go_round
        case rel => exact ⟨i + 1, x, by go_num, rfl, by omega, hx1, unhide HNX⟩
        case measure => simp only [intOf]; omega
  · have HN := Lib.hid (show ris n b = true from ris_yes (fun k hk => hq.out.1 k (by omega)))
    clear hq
    go_wp2_with fail
    refine (unhide HW).mono ?_
    rintro e w1 ⟨rfl, rfl⟩
    go_wp2
    go_ret
    exact ⟨ret_bool (by rw [HN.out]), rfl⟩
theorem isBlock_any (a : Option Addr) (c : Nat) (b : List Int) (n : Int) (w : World) (hr : Rd w a b) (h1 : 1 ≤ n) (h2 : n ≤ 32) :
    Calls Tryz.prog 121 #[.slice a b.length c, .int .i64 n] w fun e w' => e = .returned (.bool (okB n b)) ∧ w = w' := by
 have hbl := hr.len
 by_cases h0 : 0 < b.length
 · have HR := hide (validSet_any a c b n w hr h1 h2)
   rw [okB_ris h0]
   have h0' : (0 : Int) < (b.length : Int) := by omega
   go_enter Tryz.func121, Tryz.ntmps121
   go_wp2_with fail
   refine (unhide HR).mono ?_
   rintro e w1 ⟨rfl, rfl⟩
   go_wp2
   go_ret
   exact ⟨rfl, rfl⟩
 · rw [okB_nil h0]
   have h0' : ¬ (0 : Int) < (b.length : Int) := by omega
   go_enter Tryz.func121, Tryz.ntmps121
   go_wp2
   go_ret
   exact ⟨rfl, rfl⟩
theorem areBlocks1_any (q0 : Nat) (a : Option Addr) (c : Nat) (b : List Int) (n : Int) (w : World) (hr : Rd w a b) (h1 : 1 ≤ n) (h2 : n ≤ 32) (hc : w.cell? ⟨q0, 0, none⟩ = some (.int .i64 n)) :
    Calls Tryz.prog 120 #[.slice a b.length c, .pointer (some ⟨q0, 0, none⟩)] w fun e w' => e = .returned (.bool (!okB n b)) ∧ Below w.heap.size w w' := by
 have HB := hide (isBlock_any a c b n w hr h1 h2)
 obtain ⟨q, hq⟩ : ∃ q, q = okB n b := ⟨_, rfl⟩
 rw [← hq] at HB ⊢
 clear hq
 go_enter Tryz.func120, Tryz.ntmps120
 go_wp2_with fail
 refine (unhide HB).mono ?_
 rintro e w1 ⟨rfl, rfl⟩
 go_wp2
 go_ret
 exact ⟨rfl, Below.refl _ _⟩
theorem ent_ab1 : ∀ (args : Array Value) (w : World), (callFunc 120 args).run Tryz.prog w = .ok (.enter 120 args) w := fun _ _ => by kernel_rfl
theorem areBlocks_any (ra : Option Addr) (rc : Nat) (xss : List (List Int)) (n : Int) (w : World) (hx : RdS w ra xss) :
    Calls Tryz.prog 65 #[.slice ra xss.length rc, .int .i64 n] w fun e w' => e = .returned (.bool (inB n 1 32 && !xss.any fun b => !okB n b)) ∧ Below w.heap.size w w' := by
 obtain ⟨w0, hw0⟩ : ∃ w0, w0 = w.alloc (.cells #[.int .i64 n] 2) := ⟨_, rfl⟩
 have hb0 : Below w.heap.size w w0 := by rw [hw0]; exact (Below.refl _ _).alloc (Nat.le_refl _) _
 have k0 : Blk w0 w.heap.size 2 #[.int .i64 n] := by rw [hw0]; exact Blk.new _ _ _ rfl
 have HW := Lib.hid hw0
 clear hw0
 have f0 : w0.cell? ⟨w.heap.size, 0, none⟩ = some (.int .i64 n) := k0.cell 0
 have HIN := hide (within_any n 1 32 w0)
 by_cases hp : 1 ≤ n ∧ n ≤ 32
 · rw [inB_yes hp.1 hp.2] at HIN ⊢
   have HH := hide (hasL1 120 (fun b => !okB n b) w.heap.size ra rc xss w0 ent_ab1 (hx.below hb0) (fun k ai ci W hk hr hb => areBlocks1_any w.heap.size ai ci (nthL xss k) n W hr hp.1 hp.2 ((k0.below hb k0.lt).cell 0)))
   obtain ⟨q, hq⟩ : ∃ q, q = (xss.any fun b => !okB n b) := ⟨_, rfl⟩
   rw [← hq] at HH ⊢
   clear hq
   go_enter Tryz.func65, Tryz.ntmps65
   go_wp2_with fail
   rw [← HW.out]
   refine (unhide HIN).mono ?_
   rintro e w1 ⟨rfl, rfl⟩
   go_wp2_with fail
   refine (unhide HH).mono ?_
   rintro e w1 ⟨rfl, b1⟩
   have hb1 := hb0.trans (b1.mono (Nat.le_of_lt k0.lt))
   go_wp2
   go_ret
   exact ⟨rfl, hb1⟩
 · have hf : inB n 1 32 = false := by simp only [inB]; exact decide_eq_false hp
   rw [hf] at HIN ⊢
   go_enter Tryz.func65, Tryz.ntmps65
   go_wp2_with fail
   rw [← HW.out]
   refine (unhide HIN).mono ?_
   rintro e w1 ⟨rfl, rfl⟩
   go_wp2
   go_ret
   exact ⟨rfl, hb0⟩
noncomputable instance (xss : List (List Int)) : Decidable (∀ k, 0 < k → k < xss.length → cmpL (nthL xss (k - 1)) (nthL xss k) ≤ 0) := Classical.propDecidable _
noncomputable def sortedL (xss : List (List Int)) : Bool := decide (∀ k, 0 < k → k < xss.length → cmpL (nthL xss (k - 1)) (nthL xss k) ≤ 0)
theorem isSortedL_any (ra : Option Addr) (rc : Nat) (xss : List (List Int)) (w : World) (hx : RdS w ra xss) :
    Calls Tryz.prog 66 #[.slice ra xss.length rc, .func (.func 67) #[] #[]] w fun e w' => e = .returned (.bool (sortedL xss)) ∧ Qt w w' := by
 have hxl := hx.len
 have HX := hide hx
 have hw0 : IntKind.i64.wrap ((xss.length : Int) - 1) = (xss.length : Int) - 1 := IntWalk.i64_in _ (by omega)
 clear hx
 go_enter Tryz.func66, Tryz.ntmps66
 go_wp2_with fail
 go_loopw [5] (fun iv wr => ∃ i : Int, iv = .int .i64 i ∧ -1 ≤ i ∧ i < xss.length ∧ Hid (∀ k : Nat, i < (k : Int) → 0 < k → k < xss.length → cmpL (nthL xss (k - 1)) (nthL xss k) ≤ 0) ∧ Qt w wr) (fun iv _ => (intOf iv + 1).toNat)
 case atStart => exact ⟨(xss.length : Int) - 1, rfl, by omega, by omega, fun k h1 h2 h3 => by omega, Qt.refl _⟩
 case round =>
  obtain ⟨i, rfl, hi1, hi2, hq, hqt⟩ := hrel
  by_cases hi0 : 0 < i
  · obtain ⟨m1, rfl⟩ : ∃ m1 : Nat, i = (m1 : Int) + 1 := ⟨(i - 1).toNat, by omega⟩
    obtain ⟨b1, o1, rfl, _, hc⟩ := (unhide HX).at_ (by omega)
    obtain ⟨ai, ci, h3, hri⟩ := hc (m1 + 1) (by omega)
    obtain ⟨aj, cj, h4, hrj⟩ := hc m1 (by omega)
    have g1 : wr.cell? ⟨b1, o1 + (m1 + 1), none⟩ = some (.slice ai (nthL xss (m1 + 1)).length ci) := by obtain ⟨_, rfl⟩ := hqt; exact h3
    have g0 : wr.cell? ⟨b1, o1 + m1, none⟩ = some (.slice aj (nthL xss m1).length cj) := by obtain ⟨_, rfl⟩ := hqt; exact h4
    have hcs := fun n => compareL_any ai aj ci cj (nthL xss (m1 + 1)) (nthL xss m1) (wr.drewN n) ((hri.below (hqt.below _)).drewN n) ((hrj.below (hqt.below _)).drewN n)
    have hw4 : IntKind.i64.wrap (m1 : Int) = (m1 : Int) := IntWalk.i64_in _ (by omega)
    have i0 : 0 ≤ (m1 : Int) + 1 := by omega
    have i1 : (m1 : Int) + 1 < (xss.length : Int) := by omega
    have i2 : (m1 : Int) < (xss.length : Int) := by omega
    have i4 : m1 < xss.length := by omega
    have i5 : m1 + 1 < xss.length := by omega
    have i6 : ((m1 : Int) + 1).toNat = m1 + 1 := by omega
    have hle : cmpL (nthL xss m1) (nthL xss (m1 + 1)) ≤ 0 ↔ ¬ cmpL (nthL xss (m1 + 1)) (nthL xss m1) < 0 := cmpL_le
    obtain ⟨z, hz⟩ : ∃ z, z = cmpL (nthL xss (m1 + 1)) (nthL xss m1) := ⟨_, rfl⟩
    rw [← hz] at hcs hle
    have HLE := hide hle
    have hrl := hri.len
    have hrl2 := hrj.len
    obtain ⟨row, hrow⟩ : ∃ row, row = nthL xss (m1 + 1) := ⟨_, rfl⟩
    obtain ⟨row2, hrow2⟩ : ∃ row, row = nthL xss m1 := ⟨_, rfl⟩
    rw [← hrow] at g1 hrl hcs
    rw [← hrow2] at g0 hrl2 hcs
    have HCS := hide hcs
    clear hc h3 h4 hri hrj hrow hrow2 hcs hz hi0 hle
    by_cases hz0 : z < 0
    · have HN := Lib.hid (show sortedL xss = false from decide_eq_false (fun h => by
        have h5 := h (m1 + 1) (by omega) i5
        exact (unhide HLE).1 h5 hz0))
      go_upto_region 4 with fail
      go_quiet ((go_at_call 67; exact Calls.quiet_of_same ((unhide HCS _).mono fun _ _ h => ⟨h.1, h.2.symm⟩)))
      go_wp2
      go_ret
      exact ⟨ret_bool (by rw [HN.out]), hqt.trans (Qt.one _ _)⟩
    · have hnx : ∀ k : Nat, (m1 : Int) < (k : Int) → 0 < k → k < xss.length → cmpL (nthL xss (k - 1)) (nthL xss k) ≤ 0 := fun k h1 h2 h3 => by
        by_cases hk : k = m1 + 1
        · subst hk
          exact (unhide HLE).2 hz0
        · exact hq.out k (by omega) h2 h3
      have HNX := hide hnx
      clear hnx hq
      go_upto_region 4 with fail
      go_quiet ((go_at_call 67; exact Calls.quiet_of_same ((unhide HCS _).mono fun _ _ h => ⟨h.1, h.2.symm⟩)))
      go_wp2
      go_roundw
      case rel => exact ⟨(m1 : Int), by go_num, by omega, by omega, unhide HNX, hqt.trans (Qt.one _ _)⟩
      case measure => simp only [intOf]; omega
  · have HN := Lib.hid (show sortedL xss = true from decide_eq_true (fun k h1 h2 => hq.out k (by omega) h1 h2))
    clear hq
    go_wp2
    go_ret
    exact ⟨ret_bool (by rw [HN.out]), hqt⟩
theorem okD_parts (n : Int) (xss : List (List Int)) : okD n xss = (inB n 1 32 && !(xss.any fun b => !okB n b) && decide (xss.length ≤ 128) && sortedL xss) := by
 by_cases h : okD n xss = true
 · obtain ⟨h1, h2, h3⟩ := okD_facts h
   rw [h, inB_yes h1.1 h1.2, decide_eq_true h2]
   have e1 : (xss.any fun b => !okB n b) = false := by
    rw [List.any_eq_false]
    intro b hb
    obtain ⟨i, hi, rfl⟩ := List.getElem_of_mem hb
    have := (h3 i hi).1
    rw [nthL_lt hi] at this
    simp [this]
   have e2 : sortedL xss = true := decide_eq_true fun k hk hkl => (h3 k hkl).2 hk
   rw [e1, e2]; rfl
 · rw [Bool.not_eq_true] at h
   rw [h]
   symm
   by_cases hh : (inB n 1 32 && !(xss.any fun b => !okB n b) && decide (xss.length ≤ 128) && sortedL xss) = true
   · exfalso
     simp only [Bool.and_eq_true, decide_eq_true_eq, Bool.not_eq_true', List.any_eq_false, sortedL] at hh
     obtain ⟨⟨⟨h1, h2⟩, h3⟩, h4⟩ := hh
     rw [okD_yes (inB_true.1 h1) h3 (fun k hk => ⟨by
      have := h2 _ (List.getElem_mem hk)
      rw [nthL_lt hk]
      simpa using this, fun h0 => h4 k h0 hk⟩)] at h
     cases h
   · exact Bool.not_eq_true _ ▸ hh
theorem validDesign_any (p : Int) (ra : Option Addr) (rc : Nat) (xss : List (List Int)) (w : World) (hx : RdS w ra xss) :
    Calls Tryz.prog 26 #[.agg #[.int .i64 p, .slice ra xss.length rc]] w fun e w' => e = .returned (.bool (okD p xss)) ∧ Below w.heap.size w w' := by
 have hxl := hx.len
 obtain ⟨w0, hw0⟩ : ∃ w0, w0 = w.alloc (.cells #[.int .i64 p, .slice ra xss.length rc] 26) := ⟨_, rfl⟩
 have hb0 : Below w.heap.size w w0 := by rw [hw0]; exact (Below.refl _ _).alloc (Nat.le_refl _) _
 have k0 : Blk w0 w.heap.size 26 #[.int .i64 p, .slice ra xss.length rc] := by rw [hw0]; exact Blk.new _ _ _ rfl
 have f0 := k0.cell 0
 have f1 := k0.cell 1
 rw [hw0] at f0 f1
 have HW := Lib.hid hw0
 clear hw0
 have HA := hide (areBlocks_any ra rc xss p w0 (hx.below hb0))
 have hlt := k0.lt
 rw [okD_parts]
 obtain ⟨qa, hqa⟩ : ∃ q, q = (inB p 1 32 && !(xss.any fun b => !okB p b)) := ⟨_, rfl⟩
 rw [← hqa] at HA ⊢
 clear hqa
 cases qa with
 | false =>
  go_enter Tryz.func26, Tryz.ntmps26
  go_wp2_with fail
  rw [← HW.out]
  refine (unhide HA).mono ?_
  rintro e w1 ⟨rfl, b1⟩
  have hb1 := hb0.trans (b1.mono (Nat.le_of_lt hlt))
  go_wp2
  go_ret
  exact ⟨ret_bool (by simp), hb1⟩
 | true =>
  by_cases hl : xss.length ≤ 128
  · have hl' : (xss.length : Int) ≤ 128 := by omega
    have hle : decide (xss.length ≤ 128) = true := decide_eq_true hl
    rw [hle]
    have HL := hide hl
    clear hle
    go_enter Tryz.func26, Tryz.ntmps26
    go_wp2_with fail
    rw [← HW.out]
    refine (unhide HA).mono ?_
    rintro e w1 ⟨rfl, b1⟩
    have hb1 := hb0.trans (b1.mono (Nat.le_of_lt hlt))
    have k1 := k0.below b1 hlt
    have d1 := k1.cell 1
    have HS := hide (isSortedL_any ra rc xss w1 (hx.below hb1))
    obtain ⟨qs, hqs⟩ : ∃ q, q = sortedL xss := ⟨_, rfl⟩
    rw [← hqs] at HS
    have HQS := Lib.hid hqs
    clear hqs
    go_wp2_with fail
    refine (unhide HS).mono ?_
    rintro e w2 ⟨rfl, q2⟩
    go_wp2
    go_ret
    exact ⟨ret_bool (by rw [HQS.out]; simp), hb1.trans (q2.below _)⟩
  · have hl' : ¬ (xss.length : Int) ≤ 128 := by omega
    have hle : decide (xss.length ≤ 128) = false := decide_eq_false hl
    rw [hle]
    clear hle
    go_enter Tryz.func26, Tryz.ntmps26
    go_wp2_with fail
    rw [← HW.out]
    refine (unhide HA).mono ?_
    rintro e w1 ⟨rfl, b1⟩
    have hb1 := hb0.trans (b1.mono (Nat.le_of_lt hlt))
    have k1 := k0.below b1 hlt
    have d1 := k1.cell 1
    go_wp2
    go_ret
    exact ⟨ret_bool (by simp), hb1⟩
end Go.Proofs.YtkiljcbejmiioaaGreat
