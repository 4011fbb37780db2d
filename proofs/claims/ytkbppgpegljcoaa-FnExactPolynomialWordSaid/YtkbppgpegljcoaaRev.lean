/-
  Walk of slices.Reverse.
-/
import Derived.Test.YtkbppgpegljcoaaArith2
namespace Go.Proofs.Ytkbppgpegljcoaa
open Go.RowKit
attribute [local go_sem ↓] Go.wp_at_zero Go.wp_at_succ

def revTo (xs : List Int) : Nat → List Int
  | 0 => xs
  | t + 1 => ((revTo xs t).set t (nth xs (xs.length - 1 - t))).set (xs.length - 1 - t) (nth xs t)
theorem revTo_len (xs : List Int) (t : Nat) : (revTo xs t).length = xs.length := by
  induction t with
  | zero => rfl
  | succ t ih => rw [revTo, List.length_set, List.length_set, ih]
theorem revTo_nth (xs : List Int) (t : Nat) (ht : 2 * t ≤ xs.length) (i : Nat) (hi : i < xs.length) : nth (revTo xs t) i = if i < t ∨ xs.length ≤ i + t then nth xs (xs.length - 1 - i) else nth xs i := by
  induction t with
  | zero => rw [if_neg (by omega)]; rfl
  | succ t ih =>
    have ih := ih (by omega)
    rw [revTo]
    by_cases h1 : i = xs.length - 1 - t
    · subst h1
      rw [nth_set_same (by rw [List.length_set, revTo_len]; omega), if_pos (by omega)]
      congr 1; omega
    · rw [nth_set_ne (by omega)]
      by_cases h2 : i = t
      · subst h2
        rw [nth_set_same (by rw [revTo_len]; omega), if_pos (by omega)]
      · rw [nth_set_ne (by omega), ih]
        by_cases h3 : i < t ∨ xs.length ≤ i + t
        · rw [if_pos h3, if_pos (by omega)]
        · rw [if_neg h3, if_neg (by omega)]
theorem revTo_all (xs : List Int) (t : Nat) (ht : 2 * t ≤ xs.length) (h2 : xs.length ≤ 2 * t + 1) : revTo xs t = xs.reverse := by
  apply eq_of_nth (by rw [revTo_len, List.length_reverse])
  intro i hi
  rw [revTo_len] at hi
  rw [revTo_nth xs t ht i hi, nth_lt (xs := xs.reverse) (by simpa using hi), List.getElem_reverse, ← nth_lt]
  split
  · rfl
  · congr 1; omega

set_option maxHeartbeats 1600000 in
theorem reverse_any (g c B : Nat) (xs : List Int) (w : World) (ho : Own w B (.slice (some ⟨g, 0, none⟩) xs.length c) xs) :
    Calls Try.prog 129 #[.slice (some ⟨g, 0, none⟩) xs.length c] w fun e w' => e = .returned (.tuple #[]) ∧ Own w' B (.slice (some ⟨g, 0, none⟩) xs.length c) xs.reverse ∧ Below B w w' := by
  have hxl := ho.1
  have hBg := (ho.lt g rfl).1
  have hcap := ho.cap
  unfold maxLen at hcap
  obtain ⟨hcap1, hcap2⟩ := hcap
  have HO := Lib.hid ho
  clear ho
  go_enter Try.func129, Try.ntmps129
  go_wp2
  go_loopw [2, 3] (fun iv jv wr => ∃ (t : Nat) (j : Int), iv = .int .i64 t ∧ jv = .int .i64 j ∧ Hid (j = (xs.length : Int) - 1 - t) ∧ -1 ≤ j + 1 ∧ j < (xs.length : Int) ∧ t ≤ xs.length ∧ Hid (2 * t ≤ xs.length) ∧ Hid (Own wr B (.slice (some ⟨g, 0, none⟩) xs.length c) (revTo xs t)) ∧ Below B w wr) (fun iv _ _ => xs.length - (intOf iv).toNat)
  case atStart => exact ⟨0, _, rfl, rfl, by show _ = _; simp, by omega, by omega, by omega, by show _ ≤ _; omega, HO.out, Below.refl _ _⟩
  case round =>
    obtain ⟨t, j, rfl, rfl, hj, hj0, hj1, htl, ht, ho, hb⟩ := hrel
    by_cases htj : (t : Int) < j
    · obtain ⟨J, rfl⟩ := Int.eq_ofNat_of_zero_le (show 0 ≤ j by omega)
      have hJ : J = xs.length - 1 - t := by have := hj.out; omega
      have hJl : J < xs.length := by omega
      have htJ : t < J := by omega
      have h1 := ho.out.cell (j := t) (by rw [revTo_len]; omega)
      have h2 := ho.out.cell (j := J) (by rw [revTo_len]; omega)
      have f1 := ho.out.frozen t
      have f2 := ho.out.frozen J
      rw [revTo_nth xs t ht.out t (by omega), if_neg (by omega)] at h1
      rw [revTo_nth xs t ht.out J (by omega), if_neg (by omega)] at h2
      have HJ := Lib.hid hJ
      have hne : t ≠ J := by omega
      clear hJ
      go_wp2_with fail
      go_region
      all_goals
        go_wp2
        go_roundw
        case rel =>
          refine ⟨t + 1, (J : Int) - 1, by go_num, rfl, by show _ = _; have := HJ.out; omega, by omega, by omega, by omega, by show _ ≤ _; have := HJ.out; omega, ?_, ((hb.setCell (by show B ≤ g; exact hBg) _).setCell (by show B ≤ g; exact hBg) _).drew⟩
          show Own _ _ _ _
          rw [revTo, ← HJ.out]
          first
            | exact ((ho.out.set t (nth xs J)).1.set J (nth xs t)).1
            | (rw [List.set_comm _ _ hne]; exact ((ho.out.set J (nth xs t)).1.set t (nth xs J)).1)
        case measure => simp only [intOf]; omega
    · go_wp2
      go_end0
      have o := ho.out
      rw [revTo_all xs t ht.out (by have := hj.out; omega)] at o
      exact ⟨rfl, o, hb⟩
end Go.Proofs.Ytkbppgpegljcoaa
