/-
  Walks of the comparisons of lists and of lists of lists. Printed by gen_eq.py.
-/
import Derived.Test.YtkbppgpegljcoaaMem2
import Derived.Test.YtkbppgpegljcoaaA
namespace Go.Proofs.Ytkbppgpegljcoaa
open Go.RowKit

theorem quiet_add_qt {P : Program} {f : FuncId} {args : Array Value} {w : World} {v : Value}
    (h : Calls P f args w fun e w' => e = .returned v ∧ Qt w w') : Calls P f args w fun e w'' => e = .returned v ∧ ∃ m, w'' = w.drewN m := h

theorem not_all_eqL {xs ys : List (List Int)} {k : Nat} (h : nthL xs k ≠ nthL ys k) : decide (xs = ys) = false := by
  rw [decide_eq_false_iff_not]
  rintro rfl
  exact h rfl
theorem all_eqL {xs ys : List (List Int)} {k : Nat} (hl : xs.length = ys.length) (hk : ¬ k < xs.length) (h : ∀ j, j < k → nthL xs j = nthL ys j) : decide (xs = ys) = true := by
  rw [decide_eq_true_eq]
  exact eq_of_nthL hl fun i hi => h i (by omega)

set_option maxHeartbeats 400000 in
theorem l00Same_any (a b : Option Addr) (c d : Nat) (xs ys : List Int) (w : World) (hx : Rd w a xs) (hy : Rd w b ys) :
    Calls Try.prog 86 #[.slice a xs.length c, .slice b ys.length d] w fun e w' => e = .returned (.bool (decide (xs = ys))) ∧ Qt w w' := by
  have hxl := hx.len
  have hyl := hy.len
  by_cases hl : xs.length = ys.length
  · have HL := Lib.hid hl
    generalize hn : ys.length = n at hl hyl
    subst hl
    clear hn
    go_enter Try.func86, Try.ntmps86
    go_wp2
    go_loopw [5] (fun i wr => ∃ (k q : Nat), i = .int .i64 k ∧ k ≤ xs.length ∧ wr = w.drewN q ∧ Hid (∀ j, j < k → nth xs j = nth ys j)) (fun i _ => xs.length - (intOf i).toNat)
    case atStart => exact ⟨0, 0, rfl, by omega, rfl, fun j hj => by omega⟩
    case round =>
      obtain ⟨k, q, rfl, hk, rfl, hq⟩ := hrel
      by_cases hkl : k < xs.length
      · obtain ⟨b1, o1, rfl, _, hcx⟩ := hx.at_ (by omega)
        obtain ⟨b2, o2, rfl, _, hcy⟩ := hy.at_ (by rw [← HL.out]; omega)
        have hx1 := hcx k hkl
        have hy1 := hcy k (by rw [← HL.out]; omega)
        clear hcx hcy hx hy
        go_wp2_with fail
        go_quiet (fail)
        go_wp2
        · go_ret
          exact ⟨ret_bool (not_all_eq ‹_›).symm, Qt.two _ _ _⟩
        · go_roundw
          case rel =>
            have hne : (nth xs k != nth ys k) = false := by assumption
            refine ⟨k + 1, _, by go_num, by omega, rfl, fun j hj => ?_⟩
            rcases Nat.lt_succ_iff_lt_or_eq.1 hj with h | rfl
            · exact hq.out j h
            · simpa using hne
          case measure => simp [intOf]; omega
      · go_wp2
        go_ret
        exact ⟨ret_bool (all_eq HL.out hkl hq.out).symm, _, rfl⟩
  · have hne : ((xs.length : Int) != (ys.length : Int)) = true := by rw [bne_iff_ne]; omega
    have hd : decide (xs = ys) = false := by rw [decide_eq_false_iff_not]; rintro rfl; exact hl rfl
    have HD := Lib.hid hd
    clear hd
    go_enter Try.func86, Try.ntmps86
    go_wp2
    go_ret
    exact ⟨ret_bool HD.out.symm, 0, rfl⟩

set_option maxHeartbeats 400000 in
theorem slicesEqual_any (a b : Option Addr) (c d : Nat) (xs ys : List Int) (w : World) (hx : Rd w a xs) (hy : Rd w b ys) :
    Calls Try.prog 147 #[.slice a xs.length c, .slice b ys.length d] w fun e w' => e = .returned (.bool (decide (xs = ys))) ∧ Qt w w' := by
  have hxl := hx.len
  have hyl := hy.len
  by_cases hl : xs.length = ys.length
  · have HL := Lib.hid hl
    generalize hn : ys.length = n at hl hyl
    subst hl
    clear hn
    go_enter Try.func147, Try.ntmps147
    go_wp2
    go_loopw [13] (fun i wr => ∃ (k q : Nat), i = .int .i64 k ∧ k ≤ xs.length ∧ wr = w.drewN q ∧ Hid (∀ j, j < k → nth xs j = nth ys j)) (fun i _ => xs.length - (intOf i).toNat)
    case atStart => exact ⟨0, 0, rfl, by omega, rfl, fun j hj => by omega⟩
    case round =>
      obtain ⟨k, q, rfl, hk, rfl, hq⟩ := hrel
      by_cases hkl : k < xs.length
      · obtain ⟨b1, o1, rfl, _, hcx⟩ := hx.at_ (by omega)
        obtain ⟨b2, o2, rfl, _, hcy⟩ := hy.at_ (by rw [← HL.out]; omega)
        have hx1 := hcx k hkl
        have hy1 := hcy k (by rw [← HL.out]; omega)
        clear hcx hcy hx hy
        go_wp2_with fail
        go_quiet (fail)
        go_wp2
        · go_ret
          exact ⟨ret_bool (not_all_eq ‹_›).symm, Qt.two _ _ _⟩
        · go_roundw
          case rel =>
            have hne : (nth xs k != nth ys k) = false := by assumption
            refine ⟨k + 1, _, by go_num, by omega, rfl, fun j hj => ?_⟩
            rcases Nat.lt_succ_iff_lt_or_eq.1 hj with h | rfl
            · exact hq.out j h
            · simpa using hne
          case measure => simp [intOf]; omega
      · go_wp2
        go_ret
        exact ⟨ret_bool (all_eq HL.out hkl hq.out).symm, _, rfl⟩
  · have hne : ((xs.length : Int) != (ys.length : Int)) = true := by rw [bne_iff_ne]; omega
    have hd : decide (xs = ys) = false := by rw [decide_eq_false_iff_not]; rintro rfl; exact hl rfl
    have HD := Lib.hid hd
    clear hd
    go_enter Try.func147, Try.ntmps147
    go_wp2
    go_ret
    exact ⟨ret_bool HD.out.symm, 0, rfl⟩

set_option maxHeartbeats 400000 in
theorem eqInt64SS_any (a b : Option Addr) (c d : Nat) (xs ys : List (List Int)) (w : World) (hx : RdS w a xs) (hy : RdS w b ys) :
    Calls Try.prog 41 #[.slice a xs.length c, .slice b ys.length d] w fun e w' => e = .returned (.bool (decide (xs = ys))) ∧ Qt w w' := by
  have hxl := hx.len
  have hyl := hy.len
  by_cases hl : xs.length = ys.length
  · have HL := Lib.hid hl
    generalize hn : ys.length = n at hl hyl
    subst hl
    clear hn
    go_enter Try.func41, Try.ntmps41
    go_wp2
    go_loopw [5] (fun i wr => ∃ (k : Nat), i = .int .i64 k ∧ k ≤ xs.length ∧ Hid (Qt w wr) ∧ Hid (∀ j, j < k → nthL xs j = nthL ys j)) (fun i _ => xs.length - (intOf i).toNat)
    case atStart => exact ⟨0, rfl, by omega, Qt.refl _, fun j hj => by omega⟩
    case round =>
      obtain ⟨k, rfl, hk, hQ, hq⟩ := hrel
      by_cases hkl : k < xs.length
      · obtain ⟨b1, o1, rfl, _, hcx⟩ := (hx.below (hQ.out.below _)).at_ (by omega)
        obtain ⟨b2, o2, rfl, _, hcy⟩ := (hy.below (hQ.out.below _)).at_ (by rw [← HL.out]; omega)
        obtain ⟨ai, ci, hx1, rx⟩ := hcx k hkl
        obtain ⟨aj, cj, hy1, ry⟩ := hcy k (by rw [← HL.out]; omega)
        clear hcx hcy hx hy
        have hc := fun n => eqInt64S_any ai aj ci cj (nthL xs k) (nthL ys k) (wr.drewN n) (rx.drewN n) (ry.drewN n)
        obtain ⟨r, hr⟩ : ∃ r, decide (nthL xs k = nthL ys k) = r := ⟨_, rfl⟩
        rw [hr] at hc
        have HR := Lib.hid hr
        have HC := hide hc
        clear hr hc
        go_wp2_with fail
        go_quiet ((go_at_call 22; exact Calls.quiet_of (unhide HC _)))
        cases r
        · go_wp2
          go_ret
          exact ⟨ret_bool (not_all_eqL (by simpa using HR.out)).symm, hQ.out.trans (Qt.one _ _)⟩
        · go_wp2
          go_roundw
          case rel =>
            refine ⟨k + 1, by go_num, by omega, hQ.out.trans (Qt.one _ _), fun j hj => ?_⟩
            rcases Nat.lt_succ_iff_lt_or_eq.1 hj with h | rfl
            · exact hq.out j h
            · simpa using HR.out
          case measure => simp [intOf]; omega
      · go_wp2
        go_ret
        exact ⟨ret_bool (all_eqL HL.out hkl hq.out).symm, hQ.out⟩
  · have hne : ((xs.length : Int) != (ys.length : Int)) = true := by rw [bne_iff_ne]; omega
    have hd : decide (xs = ys) = false := by rw [decide_eq_false_iff_not]; rintro rfl; exact hl rfl
    have HD := Lib.hid hd
    clear hd
    go_enter Try.func41, Try.ntmps41
    go_wp2
    go_ret
    exact ⟨ret_bool HD.out.symm, 0, rfl⟩

set_option maxHeartbeats 400000 in
theorem l10Same_any (a b : Option Addr) (c d : Nat) (xs ys : List (List Int)) (w : World) (hx : RdS w a xs) (hy : RdS w b ys) :
    Calls Try.prog 139 #[.slice a xs.length c, .slice b ys.length d] w fun e w' => e = .returned (.bool (decide (xs = ys))) ∧ Qt w w' := by
  have hxl := hx.len
  have hyl := hy.len
  by_cases hl : xs.length = ys.length
  · have HL := Lib.hid hl
    generalize hn : ys.length = n at hl hyl
    subst hl
    clear hn
    go_enter Try.func139, Try.ntmps139
    go_wp2
    go_loopw [5] (fun i wr => ∃ (k : Nat), i = .int .i64 k ∧ k ≤ xs.length ∧ Hid (Qt w wr) ∧ Hid (∀ j, j < k → nthL xs j = nthL ys j)) (fun i _ => xs.length - (intOf i).toNat)
    case atStart => exact ⟨0, rfl, by omega, Qt.refl _, fun j hj => by omega⟩
    case round =>
      obtain ⟨k, rfl, hk, hQ, hq⟩ := hrel
      by_cases hkl : k < xs.length
      · obtain ⟨b1, o1, rfl, _, hcx⟩ := (hx.below (hQ.out.below _)).at_ (by omega)
        obtain ⟨b2, o2, rfl, _, hcy⟩ := (hy.below (hQ.out.below _)).at_ (by rw [← HL.out]; omega)
        obtain ⟨ai, ci, hx1, rx⟩ := hcx k hkl
        obtain ⟨aj, cj, hy1, ry⟩ := hcy k (by rw [← HL.out]; omega)
        clear hcx hcy hx hy
        have hc := fun n => l00Same_any ai aj ci cj (nthL xs k) (nthL ys k) (wr.drewN n) (rx.drewN n) (ry.drewN n)
        obtain ⟨r, hr⟩ : ∃ r, decide (nthL xs k = nthL ys k) = r := ⟨_, rfl⟩
        rw [hr] at hc
        have HR := Lib.hid hr
        have HC := hide hc
        clear hr hc
        go_wp2_with fail
        go_quiet ((go_at_call 86; exact Calls.quiet_of (unhide HC _)))
        cases r
        · go_wp2
          go_ret
          exact ⟨ret_bool (not_all_eqL (by simpa using HR.out)).symm, hQ.out.trans (Qt.one _ _)⟩
        · go_wp2
          go_roundw
          case rel =>
            refine ⟨k + 1, by go_num, by omega, hQ.out.trans (Qt.one _ _), fun j hj => ?_⟩
            rcases Nat.lt_succ_iff_lt_or_eq.1 hj with h | rfl
            · exact hq.out j h
            · simpa using HR.out
          case measure => simp [intOf]; omega
      · go_wp2
        go_ret
        exact ⟨ret_bool (all_eqL HL.out hkl hq.out).symm, hQ.out⟩
  · have hne : ((xs.length : Int) != (ys.length : Int)) = true := by rw [bne_iff_ne]; omega
    have hd : decide (xs = ys) = false := by rw [decide_eq_false_iff_not]; rintro rfl; exact hl rfl
    have HD := Lib.hid hd
    clear hd
    go_enter Try.func139, Try.ntmps139
    go_wp2
    go_ret
    exact ⟨ret_bool HD.out.symm, 0, rfl⟩

end Go.Proofs.Ytkbppgpegljcoaa
