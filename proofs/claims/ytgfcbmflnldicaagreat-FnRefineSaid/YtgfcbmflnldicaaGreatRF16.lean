/-
  Texts joined.
-/
import Derived.Test.YtgfcbmflnldicaaGreatRF5
import Derived.Test.YtgfcbmflnldicaaGreatRF10
import Derived.Test.YtgfcbmflnldicaaGreatRF15
set_option linter.unusedVariables false
set_option linter.unusedSimpArgs false
set_option maxRecDepth 100000
set_option maxHeartbeats 40000000
namespace Go.Proofs.YtgfcbmflnldicaaGreat
open Go.RowKit Go.Sort Go.Lib
theorem compact_take (xs : List Int) : ∀ m, m ≤ xs.length → compactUpTo xs.toArray m = cmpct eqI (xs.take m)
 | 0, _ => rfl
 | m + 1, h => by
  have ih := compact_take xs m (by omega)
  have hm : m < xs.length := by omega
  have e1 : xs.toArray[m]! = nth xs m := by rw [nth_lt hm]; simp [getElem!_pos, hm]
  rw [compactUpTo_succ, ih, take_nth hm, e1]
  rcases Nat.eq_zero_or_pos m with rfl | h0
  · simp [keeps, cmpct, cmpctFrom]
  · have hne : xs.take m ≠ [] := by
      intro e
      have := congrArg List.length e
      rw [List.length_take, Nat.min_eq_left (by omega)] at this
      simp at this
      omega
    rw [cmpct_snoc eqI _ hne]
    congr 1
    have hl : (xs.take m).getLast hne = nth xs (m - 1) := by
     rw [List.getLast_eq_getElem, List.getElem_take, nth_lt (by omega)]
     congr 1
     rw [List.length_take, Nat.min_eq_left (by omega)]
    rw [hl]
    have e2 : xs.toArray[m - 1]! = nth xs (m - 1) := by rw [nth_lt (by omega)]; simp [getElem!_pos, show m - 1 < xs.length by omega]
    by_cases hk : nth xs m = nth xs (m - 1)
    · have k1 : keeps xs.toArray m = false := by simp [keeps, e1, e2, hk]; omega
      rw [k1]
      simp [eqI, hk]
    · have k1 : keeps xs.toArray m = true := by simp [keeps, e1, e2, hk]
      rw [k1]
      simp [eqI, hk]
theorem compactI_any {w : World} {B : Nat} {v : Value} {xs : List Int} (h : Own w B v xs) :
    Calls Tryz.prog 116 #[v] w fun e w' => ∃ a c, e = .returned (.slice a (cmpct eqI xs).length c) ∧ w.grownBy w' v.ownBlock := by
 rcases h.slice_form with ⟨rfl, rfl⟩ | ⟨g, c, rfl, hB, hg⟩
 · go_enter Tryz.func116, Tryz.ntmps116
   go_wp2
   go_ret
   exact ⟨none, 0, rfl, World.grownBy.refl _ _⟩
 · have hl := h.1
   have hcap : xs.length ≤ c := by
    rcases h.2.2 with ⟨e, _⟩ | ⟨g', cap', cur, e, _, _, hn, _⟩
    · cases e
    · injection e with _ _ e
      omega
   have hfr := fun j => h.frozen j
   have hH : Sort.Holds (Value.int .i64) w g 0 xs.toArray := fun j hj => by
    simp only [List.size_toArray] at hj
    refine ⟨?_, by rw [Nat.zero_add]; exact hfr j⟩
    rw [Nat.zero_add, h.cell hj, nth_lt hj]
    simp [getElem!_pos, hj]
   refine (AnyE.slices_Compact layCompactI (Value.int .i64) (fun _ => rfl) (EqlAt.intD _ _ _) (NeqAt.intD _ _ _) 0 (fun w => Tryz.zeroValue2 w) g 0 c xs.toArray w hH (by simp; omega) (by simpa using hcap)).mono ?_
   rintro e w' ⟨rfl, q, rfl⟩
   refine ⟨some ⟨g, 0, none⟩, c, ?_, grownBy_putRow (Value.int .i64) w g q _⟩
   rw [List.size_toArray, compact_take xs xs.length (Nat.le_refl _), List.take_length]
theorem cellCount_any (a : Option Addr) (c : Nat) (xs : List Int) (w : World) (hx : Rd w a xs) :
    Calls Tryz.prog 54 #[.slice a xs.length c] w fun e w' => e = .returned (.int .i64 (many xs : Int)) ∧ Below w.heap.size w w' := by
 have HCL := hide (cloneI_any a c xs w hx)
 clear hx
 go_enter Tryz.func54, Tryz.ntmps54
 go_wp2_with fail
 refine (unhide HCL).mono ?_
 rintro e w1 ⟨v1, rfl, o1, b1⟩
 have O1 := hide o1
 go_wp2_with fail
 refine (sortI_own (unhide O1)).mono ?_
 rintro e w2 ⟨rfl, o2, g2⟩
 have b2 := Below.step b1 g2 (unhide O1) (Nat.le_refl _) b1.size
 have O2 := hide o2
 clear o1 o2 g2
 go_wp2_with fail
 refine (compactI_any (unhide O2)).mono ?_
 rintro e w3 ⟨a3, c3, rfl, g3⟩
 have b3 := Below.step b2 g3 (unhide O2) (Nat.le_refl _) b2.size
 clear g3
 go_wp2_with fail
 go_ret
 exact ⟨rfl, b3⟩
end Go.Proofs.YtgfcbmflnldicaaGreat
