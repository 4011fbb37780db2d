/-
  Walks: digits, the highest first; at how many places two lists differ.
-/
import Derived.BigQuiet
import Derived.Deep.DeepCutAuto
import Derived.Deep.DeepMust
import Derived.Deep.DrawnRows
import Derived.Deep.Draws
import Derived.Deep.OwnRows
import Derived.Deep.QuietTactic
import Derived.Deep.RegionHeld3
import Derived.IntWalk
import Derived.Laws.Rows
import Derived.Lib.Hide
import Derived.Maps.AppendAt
import Derived.StillTailTactics
import Derived.Test.YtbocaiicbephgaaProg
import Derived.WalkKit
import Derived.WalkLawsBesides
import Derived.WalkSpells
import Derived.Test.YtbocaiicbephgaaZ8
import Derived.Test.YtbocaiicbephgaaZ17
set_option linter.unusedVariables false
set_option linter.unusedSimpArgs false
namespace Go.Proofs.Ytbocaiicbephgaa
open Go.RowKit
attribute [local go_sem ↓] Go.wp_at_zero Go.wp_at_succ

theorem rev_nth {xs : List Int} {i : Nat} (h : i < xs.length) : nth xs.reverse i = nth xs (xs.length - 1 - i) := by
  simp only [nth, List.getD_eq_getElem?_getD]
  rw [List.getElem?_reverse h]
set_option maxHeartbeats 800000 in
theorem l18Apart_any (a b : Option Addr) (c d : Nat) (xs ys : List Int) (w : World) (hx : Rd w a xs) (hy : Rd w b ys) (hl : xs.length = ys.length) :
    Calls Try.prog 70 #[.slice a xs.length c, .slice b ys.length d] w fun e w' => e = .returned (.int .i64 (apartTo xs ys xs.length : Nat)) ∧ Below w.heap.size w w' := by
  have hxl := hx.len
  go_enter Try.func70, Try.ntmps70
  go_wp2
  go_loopw [5, 6] (fun nv iv wr => ∃ (k y : Nat), iv = .int .i64 k ∧ nv = .int .i64 y ∧ k ≤ xs.length ∧ y ≤ k ∧ Hid (y = apartTo xs ys k) ∧ Qt w wr) (fun _ iv _ => xs.length - (intOf iv).toNat)
  case atStart => exact ⟨0, 0, rfl, rfl, Nat.zero_le _, Nat.le_refl _, rfl, Qt.refl _⟩
  case round =>
    obtain ⟨k, y, rfl, rfl, hk, hyk, hY, hq⟩ := hrel
    by_cases hkl : k < xs.length
    · have hb := hq.below w.heap.size
      obtain ⟨b1, o1, rfl, _, hc⟩ := (hx.below hb).at_ (by omega)
      obtain ⟨b2, o2, rfl, _, hd⟩ := (hy.below hb).at_ (by omega)
      have h1 := hc k hkl
      have h2 := hd k (by omega)
      have hkl2 : k < ys.length := by omega
      have hle := apartTo_le xs ys k
      have hst : apartTo xs ys (k + 1) = if nth xs k = nth ys k then apartTo xs ys k else apartTo xs ys k + 1 := rfl
      have HST := Lib.hid hst
      have HL := Lib.hid hl
      obtain ⟨u, hu⟩ : ∃ u, u = nth xs k := ⟨_, rfl⟩
      obtain ⟨v, hv⟩ : ∃ v, v = nth ys k := ⟨_, rfl⟩
      rw [← hu] at h1
      rw [← hv] at h2
      have HU := Lib.hid hu
      have HV := Lib.hid hv
      clear hc hd hst hu hv hl hle
      by_cases hn : u = v
      · have hbn : (u != v) = false := by rw [bne_eq_false_iff_eq]; exact hn
        have HN := Lib.hid hn
        clear hn
        go_upto_region 5 with fail
        go_quiet (fail)
        go_wp2
        go_roundw
        case rel => exact ⟨k + 1, y, by go_num, rfl, by omega, by omega, by show _ = _; rw [HST.out, if_pos (by rw [← HU.out, ← HV.out, HN.out]), hY.out], hq.trans (Qt.one _ _)⟩
        case measure => simp [intOf]; omega
      · have hbn : (u != v) = true := by rw [bne_iff_ne]; exact hn
        have HN := hide hn
        clear hn
        go_upto_region 5 with fail
        go_quiet (fail)
        go_wp2
        go_roundw
        case rel => exact ⟨k + 1, y + 1, by go_num, by go_num, by omega, by omega, by show _ = _; rw [HST.out, if_neg (by rw [← HU.out, ← HV.out]; exact unhide HN), hY.out], hq.trans (Qt.one _ _)⟩
        case measure => simp [intOf]; omega
    · have hke : k = xs.length := by omega
      have HE := Lib.hid hke
      clear hke
      go_wp2
      go_ret
      exact ⟨ret_int (by rw [hY.out, HE.out]), hq.below _⟩

set_option maxHeartbeats 800000 in
theorem distanceBetween_any (a b : Option Addr) (c d : Nat) (xs ys : List Int) (w : World) (hx : Rd w a xs) (hy : Rd w b ys) (hl : xs.length = ys.length) :
    Calls Try.prog 73 #[.slice a xs.length c, .slice b ys.length d] w fun e w' => e = .returned (.int .i64 (apartTo xs ys xs.length : Nat)) ∧ Below w.heap.size w w' := by
  have hxl := hx.len
  go_enter Try.func73, Try.ntmps73
  go_wp2
  go_loopw [5, 9] (fun nv iv wr => ∃ (k y : Nat), iv = .int .i64 k ∧ nv = .int .i64 y ∧ k ≤ xs.length ∧ y ≤ k ∧ Hid (y = apartTo xs ys k) ∧ Qt w wr) (fun _ iv _ => xs.length - (intOf iv).toNat)
  case atStart => exact ⟨0, 0, rfl, rfl, Nat.zero_le _, Nat.le_refl _, rfl, Qt.refl _⟩
  case round =>
    obtain ⟨k, y, rfl, rfl, hk, hyk, hY, hq⟩ := hrel
    by_cases hkl : k < xs.length
    · have hb := hq.below w.heap.size
      obtain ⟨b1, o1, rfl, _, hc⟩ := (hx.below hb).at_ (by omega)
      obtain ⟨b2, o2, rfl, _, hd⟩ := (hy.below hb).at_ (by omega)
      have h1 := hc k hkl
      have h2 := hd k (by omega)
      have hkl2 : k < ys.length := by omega
      have hle := apartTo_le xs ys k
      have hst : apartTo xs ys (k + 1) = if nth xs k = nth ys k then apartTo xs ys k else apartTo xs ys k + 1 := rfl
      have HST := Lib.hid hst
      have HL := Lib.hid hl
      obtain ⟨u, hu⟩ : ∃ u, u = nth xs k := ⟨_, rfl⟩
      obtain ⟨v, hv⟩ : ∃ v, v = nth ys k := ⟨_, rfl⟩
      rw [← hu] at h1
      rw [← hv] at h2
      have HU := Lib.hid hu
      have HV := Lib.hid hv
      clear hc hd hst hu hv hl hle
      by_cases hn : u = v
      · have hbn : (u != v) = false := by rw [bne_eq_false_iff_eq]; exact hn
        have HN := Lib.hid hn
        clear hn
        go_upto_region 5 with fail
        go_quiet (fail)
        go_wp2
        go_roundw
        case rel => exact ⟨k + 1, y, by go_num, rfl, by omega, by omega, by show _ = _; rw [HST.out, if_pos (by rw [← HU.out, ← HV.out, HN.out]), hY.out], hq.trans (Qt.one _ _)⟩
        case measure => simp [intOf]; omega
      · have hbn : (u != v) = true := by rw [bne_iff_ne]; exact hn
        have HN := hide hn
        clear hn
        go_upto_region 5 with fail
        go_quiet (fail)
        go_wp2
        go_roundw
        case rel => exact ⟨k + 1, y + 1, by go_num, by go_num, by omega, by omega, by show _ = _; rw [HST.out, if_neg (by rw [← HU.out, ← HV.out]; exact unhide HN), hY.out], hq.trans (Qt.one _ _)⟩
        case measure => simp [intOf]; omega
    · have hke : k = xs.length := by omega
      have HE := Lib.hid hke
      clear hke
      go_wp2
      go_ret
      exact ⟨ret_int (by rw [hY.out, HE.out]), hq.below _⟩
end Go.Proofs.Ytbocaiicbephgaa

