/-
  Texts joined.
-/
import Derived.Lib.OwnBridge
import Derived.Test.YtgfcbmflnldicaaGreatRF1
import Derived.Test.YtgfcbmflnldicaaGreatRF5
import Derived.Test.YtgfcbmflnldicaaGreatRF8
import Derived.Test.YtgfcbmflnldicaaGreatRF9
set_option linter.unusedVariables false
set_option linter.unusedSimpArgs false
set_option maxRecDepth 100000
set_option maxHeartbeats 40000000
namespace Go.Proofs.YtgfcbmflnldicaaGreat
open Go.RowKit Go.Sort Go.Lib
theorem below_grow (w : World) (os : Array Obj) : Below w.heap.size w (grow w os) :=
 ⟨rfl, rfl, rfl, by simp, fun i hi => by
  have : (w.heap ++ os)[i]? = w.heap[i]? := by rw [Array.getElem?_append_left hi]
  exact this⟩
theorem grownBy_putRow {α : Type} [Inhabited α] (enc : α → Value) (w : World) (g q : Nat) (d : Array α) : w.grownBy (putRow enc (Sort.ahead w q) g 0 d) (some g) := by
 refine ⟨rfl, rfl, rfl, by simp, fun k hk hne => ?_⟩
 have : g ≠ k := fun e => hne (by rw [e])
 simp [putRow, mapBlock, Sort.ahead, Array.getElem?_modify, this]
theorem grownBy_grow {w w' : World} {row : Option Nat} (h : w.grownBy w' row) (os : Array Obj) : w.grownBy (grow w' os) row := by
 have hb := below_grow w' os
 exact ⟨h.os, h.tape, h.output, Nat.le_trans h.size hb.size, fun i hi hne => (hb.block i (Nat.lt_of_lt_of_le hi h.size)).trans (h.block i hi hne)⟩
theorem sortI_own {w : World} {B : Nat} {v : Value} {xs : List Int} (h : Own w B v xs) :
    Calls Tryz.prog 111 #[v] w fun e w' => e = .returned (.tuple #[]) ∧ Own w' B v (sortI xs) ∧ w.grownBy w' v.ownBlock := by
 rcases h.slice_form with ⟨rfl, rfl⟩ | ⟨g, c, rfl, hB, hg⟩
 · refine (AnyM.slices_Sort_int_none laySortI none 0 w).mono ?_
   rintro e w' ⟨rfl, rfl⟩
   have e : sortI ([] : List Int) = [] := by simp [sortI]
   rw [e]
   exact ⟨rfl, Own.nil _ _, World.grownBy.refl _ _⟩
 · have hl := h.1
   have hr := h.2
   have hfr := fun j => h.frozen j
   have hH : Sort.Holds (Value.int .i64) w g 0 xs.toArray := fun j hj => by
    simp only [List.size_toArray] at hj
    refine ⟨?_, by rw [Nat.zero_add]; exact hfr j⟩
    rw [Nat.zero_add, h.cell hj, nth_lt hj]
    simp [getElem!_pos, hj]
   refine (AnyM.slices_Sort_int laySortI g 0 c xs w hH hg (by omega)).mono ?_
   rintro e w' ⟨rfl, q, os, rfl⟩
   have e1 : (xs.mergeSort fun x y => decide (x ≤ y)) = sortI xs := rfl
   rw [e1]
   have hsl := sortI_len xs
   have ho := ownsRow_putRow (q := q) (k := xs.length) hr hsl (Nat.le_refl _)
   have hgb := grownBy_putRow (Value.int .i64) w g q (sortI xs).toArray
   refine ⟨rfl, ⟨by rw [hsl]; exact hl, ?_⟩, grownBy_grow hgb os⟩
   rw [hsl]
   rw [List.take_of_length_le (by omega)] at ho
   exact ownsRow_below ho (below_grow _ os) (Nat.le_refl _)
theorem cloneI_any (a : Option Addr) (c : Nat) (xs : List Int) (w : World) (hx : Rd w a xs) :
    Calls Tryz.prog 115 #[.slice a xs.length c] w fun e w' => ∃ v, e = .returned v ∧ Own w' w.heap.size v xs ∧ Below w.heap.size w w' := by
 have hxl := hx.len
 cases a with
 | none =>
  have h0 : xs = [] := by
   rcases Nat.eq_zero_or_pos xs.length with h | h
   · exact List.eq_nil_of_length_eq_zero h
   · obtain ⟨_, _, e, _⟩ := hx.2 h
     cases e
  subst h0
  refine (AnyE.slices_Clone_nil layCloneI 0 c w).mono ?_
  rintro e w' ⟨rfl, rfl⟩
  exact ⟨_, rfl, Own.nil _ _, Below.refl _ _⟩
 | some p =>
  have q22 := fun W => Lib.run_eql_slice_nil (P := Tryz.prog) W 24 2 (some p) xs.length c 0 0 Tryz.underlying24
  go_enter Tryz.func115, Tryz.ntmps115
  go_wp2_with (at_builtin; refine wpList_append_ints rfl (.tmp 5) (.tmp 6) rfl w.heap.size _ [] xs rfl (Own.empty w (Nat.le_refl _)) (some p) xs.length c rfl rfl (hx.alloc _) (by simpa using hxl) (by simp) ?_; intro v1 w1 hown1 hg1 _)
  go_ret
  exact ⟨_, rfl, by simpa using hown1, Below.step ((Below.refl _ _).alloc (Nat.le_refl _) _) hg1 (Own.empty w (Nat.le_refl _)) (Nat.le_refl _) (by simp)⟩
end Go.Proofs.YtgfcbmflnldicaaGreat
