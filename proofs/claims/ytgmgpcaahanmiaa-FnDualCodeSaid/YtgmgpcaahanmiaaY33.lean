/-
  Texts joined.
-/
import Derived.Test.YtgmgpcaahanmiaaY6
import Derived.Test.YtgmgpcaahanmiaaY32
set_option linter.unusedVariables false
set_option linter.unusedSimpArgs false
set_option maxRecDepth 100000
set_option maxHeartbeats 40000000
namespace Go.Proofs.Ytgmgpcaahanmiaa
open Go.RowKit
attribute [local go_sem ↓] Go.wp_at_zero Go.wp_at_succ
theorem rev_nth {xs : List Int} {i : Nat} (h : i < xs.length) : nth xs.reverse i = nth xs (xs.length - 1 - i) := by
 simp only [nth, List.getD_eq_getElem?_getD]
 rw [List.getElem?_reverse h]
theorem l16Digits_any (n p : Int) (k : Nat) (w : World) (hn : 0 ≤ n) (hn2 : n ≤ 9223372036854775807) (hp : 1 ≤ p) (hp2 : p ≤ 1000000) (hk : k ≤ 1000000) :
    Calls Try.prog 164 #[.int .i64 n, .int .i64 p, .int .i64 k] w fun e w' => ∃ v, e = .returned v ∧ Own w' w.heap.size v (dig n p k).reverse ∧ Below w.heap.size w w' := by
 have hmk := fun W => run_make_row' (P := Try.prog) 22 2 (.int .i64 0) 8 Try.underlying22 Try.info_i64 rfl .i64 .i64 k (by omega) (by omega) W
 go_enter Try.func164, Try.ntmps164
 go_wp2
 go_loopw [0, 8] (fun nv i wr => ∃ (j : Nat) (m x : Int), i = .int .i64 x ∧ nv = .int .i64 m ∧ j ≤ k ∧ x = (k : Int) - 1 - j ∧ 0 ≤ m ∧ m ≤ 9223372036854775807 ∧ Hid (m = n / p ^ j) ∧ wr.rowIs w.heap.size 2 k (fun i => if k - 1 - i < j then .int .i64 (nth (dig n p k) (k - 1 - i)) else .int .i64 0) ∧ Below w.heap.size w wr) (fun _ i _ => (intOf i + 1).toNat)
 case atStart => exact ⟨0, n, _, rfl, rfl, by omega, by omega, hn, hn2, show _ = _ by simp, (World.rowIs_made w _ _ _).congr (fun i _ => by simp), (Below.refl _ _).alloc (Nat.le_refl _) _⟩
 case round =>
  obtain ⟨j, m, x, rfl, rfl, hj, hx, hm0, hm1, hM, hrow, hb⟩ := hrel
  by_cases hjl : j < k
  · obtain ⟨i, hi⟩ := Int.eq_ofNat_of_zero_le (show 0 ≤ x by omega)
    have hij : i = k - 1 - j := by omega
    have hik : i < k := by omega
    subst hi
    obtain ⟨u, hc1⟩ : ∃ u, wr.cell? ⟨w.heap.size, i, none⟩ = some u := ⟨_, hrow.cell hik⟩
    have hf1 := hrow.frozen i
    have HR := Lib.hid hrow
    have HX := Lib.hid hx
    have HIJ := Lib.hid hij
    have hq0 : 0 ≤ m / p := Int.ediv_nonneg hm0 (by omega)
    have hq1 : m / p ≤ m := Int.ediv_le_self _ hm0
    clear hrow hmk hx hij
    go_wp2
    go_roundw
    case rel =>
     have hMM := hM.out
     have hxx := HX.out
     have hii := HIJ.out
     refine ⟨j + 1, m / p, _, rfl, rfl, by omega, by omega, hq0, by omega, show _ = _ by rw [hMM, div_pow_succ n p (by omega) j], (HR.out.set i _).congr (fun q hq => ?_), hb.setCell (Nat.le_refl _) _⟩
     by_cases h1 : q = i
     · subst h1
       rw [if_pos rfl, if_pos (by omega), show k - 1 - q = j by omega, dig_nth n p hjl, hMM]
     · by_cases h2 : k - 1 - q < j
       · rw [if_neg h1, if_pos h2, if_pos (by omega)]
       · rw [if_neg h1, if_neg h2, if_neg (by omega)]
    case measure => first | (simp [intOf]; done) | (simp [intOf]; omega)
  · have HR := Lib.hid hrow
    clear hrow
    go_wp2
    go_ret
    refine ⟨_, rfl, Own.of_rowIs HR.out (Nat.le_refl _) (by rw [List.length_reverse, dig_len]) (by rw [List.length_reverse, dig_len]; omega) (fun i hi => ?_), hb⟩
    rw [if_pos (by omega), rev_nth (by rw [dig_len]; exact hi), dig_len]
theorem distanceBetween_any (a b : Option Addr) (c d : Nat) (xs ys : List Int) (w : World) (hx : Rd w a xs) (hy : Rd w b ys) (hl : xs.length = ys.length) :
    Calls Try.prog 115 #[.slice a xs.length c, .slice b ys.length d] w fun e w' => e = .returned (.int .i64 (apartTo xs ys xs.length : Nat)) ∧ Below w.heap.size w w' := by
 have hxl := hx.len
 go_enter Try.func115, Try.ntmps115
 go_wp2
 go_loopw [5, 9] (fun nv iv wr => ∃ (k y : Nat), iv = .int .i64 k ∧ nv = .int .i64 y ∧ k ≤ xs.length ∧ y ≤ k ∧ Hid (y = apartTo xs ys k) ∧ Qt w wr) (fun _ iv _ => xs.length - (intOf iv).toNat)
 case atStart => exact ⟨0, 0, rfl, rfl, Nat.zero_le _, Nat.le_refl _, rfl, Qt.refl _⟩
 case round =>
  obtain ⟨k, y, rfl, rfl, hk, hyk, hY, hq⟩ := hrel
  by_cases hkl : k < xs.length
  · have hb := hq.below w.heap.size
    obtain ⟨b1, o1, rfl, _, hc⟩ := (hx.below hb).at_ (by omega)
    obtain ⟨b2, o2, rfl, _, hd⟩ := (hy.below hb).at_ (by omega)
    have h1 := hc k hkl
    have h2 := hd k (by omega)
    have hkl2 : k < ys.length := by omega
    have hle := apartTo_le xs ys k
    have hst : apartTo xs ys (k + 1) = if nth xs k = nth ys k then apartTo xs ys k else apartTo xs ys k + 1 := rfl
    have HST := Lib.hid hst
    have HL := Lib.hid hl
    obtain ⟨u, hu⟩ : ∃ u, u = nth xs k := ⟨_, rfl⟩
    obtain ⟨v, hv⟩ : ∃ v, v = nth ys k := ⟨_, rfl⟩
    rw [← hu] at h1
    rw [← hv] at h2
    have HU := Lib.hid hu
    have HV := Lib.hid hv
    clear hc hd hst hu hv hl hle
    by_cases hn : u = v
    · have hbn : (u != v) = false := by rw [bne_eq_false_iff_eq]; exact hn
      have HN := Lib.hid hn
      clear hn
      go_upto_region 5 with fail
      go_quiet (fail)
      go_wp2
      go_roundw
      case rel => exact ⟨k + 1, y, by go_num, rfl, by omega, by omega, by show _ = _; rw [HST.out, if_pos (by rw [← HU.out, ← HV.out, HN.out]), hY.out], hq.trans (Qt.one _ _)⟩
      case measure => simp [intOf]; omega
    · have hbn : (u != v) = true := by rw [bne_iff_ne]; exact hn
      have HN := hide hn
      clear hn
      go_upto_region 5 with fail
      go_quiet (fail)
      go_wp2
      go_roundw
      case rel => exact ⟨k + 1, y + 1, by go_num, by go_num, by omega, by omega, by show _ = _; rw [HST.out, if_neg (by rw [← HU.out, ← HV.out]; exact unhide HN), hY.out], hq.trans (Qt.one _ _)⟩
      case measure => simp [intOf]; omega
  · have hke : k = xs.length := by omega
    have HE := Lib.hid hke
    clear hke
    go_wp2
    go_ret
    exact ⟨ret_int (by rw [hY.out, HE.out]), hq.below _⟩
end Go.Proofs.Ytgmgpcaahanmiaa
