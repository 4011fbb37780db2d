/-
  Walks of supportOf (the program's and the reference's): the places of the numbers that are not 0.
-/
import Derived.Test.YtcdfabnhaephhaaMem
namespace Go.Proofs.Ytcdfabnhaephhaa
open Go.RowKit

/-- The places below k at which xs is not 0. -/
def suppTo (xs : List Int) (k : Nat) : List Int := ((List.range k).filter (fun i => nth xs i != 0)).map Int.ofNat
theorem suppTo_zero (xs : List Int) : suppTo xs 0 = [] := rfl
theorem suppTo_hit {xs : List Int} {k : Nat} (h : (nth xs k != 0) = true) : suppTo xs (k + 1) = suppTo xs k ++ [(k : Int)] := by
  simp only [suppTo, List.range_succ, List.filter_append, List.map_append, List.filter_cons, h]; rfl
theorem suppTo_miss {xs : List Int} {k : Nat} (h : (nth xs k != 0) = false) : suppTo xs (k + 1) = suppTo xs k := by
  simp [suppTo, List.range_succ, List.filter_append, h]
theorem suppTo_len (xs : List Int) (k : Nat) : (suppTo xs k).length ≤ k := by
  simp only [suppTo, List.length_map]
  exact Nat.le_trans (List.length_filter_le _ _) (by simp)

set_option maxHeartbeats 400000 in
theorem l20Support_any (a : Option Addr) (c : Nat) (xs : List Int) (w : World) (hx : Rd w a xs) :
    Calls Try.prog 31 #[.slice a xs.length c] w fun e w' => ∃ v, e = .returned v ∧ Own w' w.heap.size v (suppTo xs xs.length) ∧ Below w.heap.size w w' := by
  have hxl := hx.len
  go_enter Try.func31, Try.ntmps31
  go_wp2
  go_loopw [3, 4] (fun v i wr => ∃ (k : Nat), i = .int .i64 k ∧ k ≤ xs.length ∧ Own wr w.heap.size v (suppTo xs k) ∧ Below w.heap.size w wr) (fun _ i _ => xs.length - (intOf i).toNat)
  case atStart => exact ⟨0, rfl, by omega, Own.empty w (Nat.le_refl _), (Below.refl _ _).alloc (Nat.le_refl _) _⟩
  case round =>
    obtain ⟨k, rfl, hk, ho, hb⟩ := hrel
    by_cases hkl : k < xs.length
    · obtain ⟨b1, o1, rfl, hb1, hcx⟩ := hx.at_ (by omega)
      have hx1 := (hb.cell (p := ⟨b1, o1 + k, none⟩) hb1).trans (hcx k hkl)
      have hs := suppTo_len xs k
      have hsz := hb.size
      clear hcx hx
      go_wp2_with (at_builtin; refine wpList_append_ints rfl (.tmp 17) (.tmp 19) rfl w.heap.size u3 (suppTo xs k) [(k : Int)] rfl (ho.alloc _) _ 1 1 rfl rfl (Rd.one wr (k : Int) _) (by simp; omega) (by simp; omega) ?_; intro v1 w1 hown1 hg1 _)
      · go_roundw
        case rel => exact ⟨k + 1, by go_num, by omega, by rw [suppTo_hit ‹_›]; exact hown1, Below.step (hb.alloc hsz _) hg1 (ho.alloc _) (Nat.le_refl _) (by simp; omega)⟩
        case measure => simp [intOf]; omega
      · go_roundw
        case rel => exact ⟨k + 1, by go_num, by omega, by rw [suppTo_miss ‹_›]; exact ho, hb⟩
        case measure => simp [intOf]; omega
    · go_wp2
      go_ret
      obtain rfl : k = xs.length := by omega
      exact ⟨_, rfl, ho, hb⟩

set_option maxHeartbeats 400000 in
theorem supportOf_any (a : Option Addr) (c : Nat) (xs : List Int) (w : World) (hx : Rd w a xs) :
    Calls Try.prog 32 #[.slice a xs.length c] w fun e w' => ∃ v, e = .returned v ∧ Own w' w.heap.size v (suppTo xs xs.length) ∧ Below w.heap.size w w' := by
  have hxl := hx.len
  go_enter Try.func32, Try.ntmps32
  go_wp2
  go_loopw [3, 8] (fun v i wr => ∃ (k : Nat), i = .int .i64 k ∧ k ≤ xs.length ∧ Own wr w.heap.size v (suppTo xs k) ∧ Below w.heap.size w wr) (fun _ i _ => xs.length - (intOf i).toNat)
  case atStart => exact ⟨0, rfl, by omega, Own.nil _ _, Below.refl _ _⟩
  case round =>
    obtain ⟨k, rfl, hk, ho, hb⟩ := hrel
    by_cases hkl : k < xs.length
    · obtain ⟨b1, o1, rfl, hb1, hcx⟩ := hx.at_ (by omega)
      have hx1 := (hb.cell (p := ⟨b1, o1 + k, none⟩) hb1).trans (hcx k hkl)
      have hs := suppTo_len xs k
      have hsz := hb.size
      clear hcx hx
      go_wp2_with (at_builtin; refine wpList_append_ints rfl (.tmp 15) (.tmp 17) rfl w.heap.size u3 (suppTo xs k) [(k : Int)] rfl (ho.alloc _) _ 1 1 rfl rfl (Rd.one wr (k : Int) _) (by simp; omega) (by simp; omega) ?_; intro v1 w1 hown1 hg1 _)
      · go_roundw
        case rel => exact ⟨k + 1, by go_num, by omega, by rw [suppTo_hit ‹_›]; exact hown1, Below.step (hb.alloc hsz _) hg1 (ho.alloc _) (Nat.le_refl _) (by simp; omega)⟩
        case measure => simp [intOf]; omega
      · go_roundw
        case rel => exact ⟨k + 1, by go_num, by omega, by rw [suppTo_miss ‹_›]; exact ho, hb⟩
        case measure => simp [intOf]; omega
    · go_wp2
      go_ret
      obtain rfl : k = xs.length := by omega
      exact ⟨_, rfl, ho, hb⟩

/-- What SupportOf returns: the list, the code. -/
def suppRes (xs : List Int) : List Int × Int := if xs.length ≤ 32 then (suppTo xs xs.length, 0) else ([], 5)
theorem specSupportOf_any (a : Option Addr) (c : Nat) (xs : List Int) (w : World) (hx : Rd w a xs) :
    Calls Try.prog 9 #[.slice a xs.length c] w fun e w' => ∃ v, e = .returned (.tuple #[v, .int .i64 (suppRes xs).2]) ∧ Own w' w.heap.size v (suppRes xs).1 ∧ Below w.heap.size w w' := by
  have hxl := hx.len
  by_cases h : xs.length ≤ 32
  · rw [suppRes, if_pos h]
    go_enter Try.func9, Try.ntmps9
    go_wp2_with fail
    refine (l20Support_any _ _ _ _ hx).mono ?_
    rintro e w1 ⟨v, rfl, ho, hb⟩
    go_wp2
    go_ret2
    exact ⟨v, rfl, ho, hb⟩
  · rw [suppRes, if_neg h]
    go_enter Try.func9, Try.ntmps9
    go_wp2
    go_ret2
    exact ⟨_, rfl, Own.nil _ _, Below.refl _ _⟩

theorem implSupportOf_any (a : Option Addr) (c : Nat) (xs : List Int) (w : World) (hx : Rd w a xs) :
    Calls Try.prog 11 #[.slice a xs.length c] w fun e w' => ∃ v, e = .returned (.tuple #[v, .int .i64 (suppRes xs).2]) ∧ Own w' w.heap.size v (suppRes xs).1 ∧ Below w.heap.size w w' := by
  have hxl := hx.len
  by_cases h : xs.length ≤ 32
  · rw [suppRes, if_pos h]
    go_enter Try.func11, Try.ntmps11
    go_wp2_with fail
    refine (supportOf_any _ _ _ _ hx).mono ?_
    rintro e w1 ⟨v, rfl, ho, hb⟩
    go_wp2
    go_ret2
    exact ⟨v, rfl, ho, hb⟩
  · rw [suppRes, if_neg h]
    go_enter Try.func11, Try.ntmps11
    go_wp2
    go_ret2
    exact ⟨_, rfl, Own.nil _ _, Below.refl _ _⟩

end Go.Proofs.Ytcdfabnhaephhaa
