/-
  Walks: digits, the highest first; at how many places two lists differ.
-/
import Derived.BigQuiet
import Derived.Deep.DeepCutAuto
import Derived.Deep.DeepMust
import Derived.Deep.DrawnRows
import Derived.Deep.Draws
import Derived.Deep.OwnRows
import Derived.Deep.QuietTactic
import Derived.Deep.RegionHeld3
import Derived.IntWalk
import Derived.Laws.Rows
import Derived.Lib.Hide
import Derived.Maps.AppendAt
import Derived.StillTailTactics
import Derived.Test.YtcblhjhabhjbkaaProg
import Derived.WalkKit
import Derived.WalkLawsBesides
import Derived.WalkSpells
import Derived.Test.YtcblhjhabhjbkaaZ8
import Derived.Test.YtcblhjhabhjbkaaZ17
set_option linter.unusedVariables false
set_option linter.unusedSimpArgs false
namespace Go.Proofs.Ytcblhjhabhjbkaa
open Go.RowKit
attribute [local go_sem ↓] Go.wp_at_zero Go.wp_at_succ

theorem rev_nth {xs : List Int} {i : Nat} (h : i < xs.length) : nth xs.reverse i = nth xs (xs.length - 1 - i) := by
  simp only [nth, List.getD_eq_getElem?_getD]
  rw [List.getElem?_reverse h]
set_option maxHeartbeats 800000 in
theorem l16Digits_any (n p : Int) (k : Nat) (w : World) (hn : 0 ≤ n) (hn2 : n ≤ 9223372036854775807) (hp : 1 ≤ p) (hp2 : p ≤ 1000000) (hk : k ≤ 1000000) :
    Calls Try.prog 129 #[.int .i64 n, .int .i64 p, .int .i64 k] w fun e w' => ∃ v, e = .returned v ∧ Own w' w.heap.size v (dig n p k).reverse ∧ Below w.heap.size w w' := by
  have hmk := fun W => run_make_row' (P := Try.prog) 22 2 (.int .i64 0) 8 Try.underlying22 Try.info_i64 rfl .i64 .i64 k (by omega) (by omega) W
  go_enter Try.func129, Try.ntmps129
  go_wp2
  go_loopw [0, 8] (fun nv i wr => ∃ (j : Nat) (m x : Int), i = .int .i64 x ∧ nv = .int .i64 m ∧ j ≤ k ∧ x = (k : Int) - 1 - j ∧ 0 ≤ m ∧ m ≤ 9223372036854775807 ∧ Hid (m = n / p ^ j) ∧ wr.rowIs w.heap.size 2 k (fun i => if k - 1 - i < j then .int .i64 (nth (dig n p k) (k - 1 - i)) else .int .i64 0) ∧ Below w.heap.size w wr) (fun _ i _ => (intOf i + 1).toNat)
  case atStart => exact ⟨0, n, _, rfl, rfl, by omega, by omega, hn, hn2, show _ = _ by simp, (World.rowIs_made w _ _ _).congr (fun i _ => by simp), (Below.refl _ _).alloc (Nat.le_refl _) _⟩
  case round =>
    obtain ⟨j, m, x, rfl, rfl, hj, hx, hm0, hm1, hM, hrow, hb⟩ := hrel
    by_cases hjl : j < k
    · obtain ⟨i, hi⟩ := Int.eq_ofNat_of_zero_le (show 0 ≤ x by omega)
      have hij : i = k - 1 - j := by omega
      have hik : i < k := by omega
      subst hi
      obtain ⟨u, hc1⟩ : ∃ u, wr.cell? ⟨w.heap.size, i, none⟩ = some u := ⟨_, hrow.cell hik⟩
      have hf1 := hrow.frozen i
      have HR := Lib.hid hrow
      have HX := Lib.hid hx
      have HIJ := Lib.hid hij
      have hq0 : 0 ≤ m / p := Int.ediv_nonneg hm0 (by omega)
      have hq1 : m / p ≤ m := Int.ediv_le_self _ hm0
      clear hrow hmk hx hij
      go_wp2
      go_roundw
      case rel =>
        have hMM := hM.out
        have hxx := HX.out
        have hii := HIJ.out
        refine ⟨j + 1, m / p, _, rfl, rfl, by omega, by omega, hq0, by omega, show _ = _ by rw [hMM, div_pow_succ n p (by omega) j], (HR.out.set i _).congr (fun q hq => ?_), hb.setCell (Nat.le_refl _) _⟩
        by_cases h1 : q = i
        · subst h1
          rw [if_pos rfl, if_pos (by omega), show k - 1 - q = j by omega, dig_nth n p hjl, hMM]
        · by_cases h2 : k - 1 - q < j
          · rw [if_neg h1, if_pos h2, if_pos (by omega)]
          · rw [if_neg h1, if_neg h2, if_neg (by omega)]
      case measure => first | (simp [intOf]; done) | (simp [intOf]; omega)
    · have HR := Lib.hid hrow
      clear hrow
      go_wp2
      go_ret
      refine ⟨_, rfl, Own.of_rowIs HR.out (Nat.le_refl _) (by rw [List.length_reverse, dig_len]) (by rw [List.length_reverse, dig_len]; omega) (fun i hi => ?_), hb⟩
      rw [if_pos (by omega), rev_nth (by rw [dig_len]; exact hi), dig_len]

end Go.Proofs.Ytcblhjhabhjbkaa

