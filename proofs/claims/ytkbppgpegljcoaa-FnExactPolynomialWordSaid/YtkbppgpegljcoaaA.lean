/-
  Walks of the laws' helpers over lists of integers: toInt64S, eqInt64S, markInt64S, heldInt64S, szInt64S.
-/
import Derived.Test.YtkbppgpegljcoaaMem
namespace Go.Proofs.Ytkbppgpegljcoaa
open Go.RowKit

theorem not_all_eq {xs ys : List Int} {k : Nat} (h : (nth xs k != nth ys k) = true) : decide (xs = ys) = false := by
  rw [decide_eq_false_iff_not]
  rintro rfl
  simp at h

theorem all_eq {xs ys : List Int} {k : Nat} (hl : xs.length = ys.length) (hk : ¬ k < xs.length) (h : ∀ j, j < k → nth xs j = nth ys j) : decide (xs = ys) = true := by
  rw [decide_eq_true_eq]
  exact eq_of_nth hl fun i hi => h i (by omega)

set_option maxHeartbeats 400000 in
theorem eqInt64S_any (a b : Option Addr) (c d : Nat) (xs ys : List Int) (w : World) (hx : Rd w a xs) (hy : Rd w b ys) :
    Calls Try.prog 22 #[.slice a xs.length c, .slice b ys.length d] w fun e w' => e = .returned (.bool (decide (xs = ys))) ∧ Qt w w' := by
  have hxl := hx.len
  have hyl := hy.len
  by_cases hl : xs.length = ys.length
  · have HL := Lib.hid hl
    generalize hn : ys.length = n at hl hyl
    subst hl
    clear hn
    go_enter Try.func22, Try.ntmps22
    go_wp2
    go_loopw [5] (fun i wr => ∃ (k q : Nat), i = .int .i64 k ∧ k ≤ xs.length ∧ wr = w.drewN q ∧ Hid (∀ j, j < k → nth xs j = nth ys j)) (fun i _ => xs.length - (intOf i).toNat)
    case atStart => exact ⟨0, 0, rfl, by omega, rfl, fun j hj => by omega⟩
    case round =>
      obtain ⟨k, q, rfl, hk, rfl, hq⟩ := hrel
      by_cases hkl : k < xs.length
      · obtain ⟨b1, o1, rfl, _, hcx⟩ := hx.at_ (by omega)
        obtain ⟨b2, o2, rfl, _, hcy⟩ := hy.at_ (by rw [← HL.out]; omega)
        have hx1 := hcx k hkl
        have hy1 := hcy k (by rw [← HL.out]; omega)
        clear hcx hcy hx hy
        go_wp2_with fail
        go_quiet (fail)
        go_wp2
        · go_ret
          exact ⟨ret_bool (not_all_eq ‹_›).symm, Qt.two _ _ _⟩
        · go_roundw
          case rel =>
            have hne : (nth xs k != nth ys k) = false := by assumption
            refine ⟨k + 1, _, by go_num, by omega, rfl, fun j hj => ?_⟩
            rcases Nat.lt_succ_iff_lt_or_eq.1 hj with h | rfl
            · exact hq.out j h
            · simpa using hne
          case measure => simp [intOf]; omega
      · go_wp2
        go_ret
        exact ⟨ret_bool (all_eq HL.out hkl hq.out).symm, _, rfl⟩
  · have hne : ((xs.length : Int) != (ys.length : Int)) = true := by rw [bne_iff_ne]; omega
    have hd : decide (xs = ys) = false := by rw [decide_eq_false_iff_not]; rintro rfl; exact hl rfl
    have HD := Lib.hid hd
    clear hd
    go_enter Try.func22, Try.ntmps22
    go_wp2
    go_ret
    exact ⟨ret_bool HD.out.symm, 0, rfl⟩

set_option maxHeartbeats 400000 in
theorem toInt64S_any (a : Option Addr) (c : Nat) (xs : List Int) (w : World) (hx : Rd w a xs) :
    Calls Try.prog 20 #[.slice a xs.length c] w fun e w' => ∃ v, e = .returned v ∧ Own w' w.heap.size v xs ∧ Below w.heap.size w w' := by
  have hxl := hx.len
  have hmk := fun W => run_make_row' (P := Try.prog) 25 2 (.int .i64 0) 8 Try.underlying25 Try.info_i64 rfl .i64 .i64 xs.length (by omega) (by omega) W
  go_enter Try.func20, Try.ntmps20
  go_wp2
  go_loopw [4] (fun i wr => ∃ (k : Nat), i = .int .i64 k ∧ k ≤ xs.length ∧ wr.rowIs w.heap.size 2 xs.length (fun j => if j < k then .int .i64 (nth xs j) else .int .i64 0) ∧ Below w.heap.size w wr) (fun i _ => xs.length - (intOf i).toNat)
  case atStart => exact ⟨0, rfl, by omega, (World.rowIs_made w _ _ _).congr (fun i _ => by simp), (Below.refl _ _).alloc (Nat.le_refl _) _⟩
  case round =>
    obtain ⟨k, rfl, hk, hrow, hb⟩ := hrel
    by_cases hkl : k < xs.length
    · obtain ⟨b1, o1, rfl, hb1, hcx⟩ := hx.at_ (by omega)
      have hx1 := (hb.cell (p := ⟨b1, o1 + k, none⟩) hb1).trans (hcx k hkl)
      have hc1 : ∃ u, wr.cell? ⟨w.heap.size, k, none⟩ = some u := ⟨_, hrow.cell hkl⟩
      obtain ⟨u, hc1⟩ := hc1
      have hf1 := hrow.frozen k
      have HR := Lib.hid hrow
      clear hcx hx hrow hmk
      go_wp2
      go_roundw
      case rel =>
        refine ⟨k + 1, by go_num, by omega, (HR.out.set k _).congr (fun i hi => ?_), hb.setCell (Nat.le_refl _) _⟩
        by_cases h1 : i = k
        · subst h1; simp
        · by_cases h2 : i < k
          · simp [h1, h2, show i < k + 1 by omega]
          · simp [h1, h2, show ¬ i < k + 1 by omega]
      case measure => simp [intOf]; omega
    · have HR := Lib.hid hrow
      clear hrow
      go_wp2
      go_ret
      exact ⟨_, rfl, Own.of_rowIs HR.out (Nat.le_refl _) rfl hxl (fun i hi => by simp [show i < k by omega]), hb⟩

set_option maxHeartbeats 400000 in
theorem markInt64S_any (v : Value) (k : Int) (xs : List Int) (B : Nat) (w : World) (hx : Own w B v xs) (hk0 : 0 ≤ k) (hk1 : k ≤ 9000000000000000000) :
    Calls Try.prog 23 #[v, .int .i64 k] w fun e w' => e = .returned (.int .i64 (k + xs.length)) ∧ Own w' B v (marked k xs.length) ∧ w.grownBy w' v.ownBlock := by
  have hxl := hx.1
  rcases hx.slice_form with ⟨rfl, rfl⟩ | ⟨g, c, rfl, hB, hg⟩
  · go_enter Try.func23, Try.ntmps23
    go_wp2
    refine wp_loop_rounds 1 ?_
    rw [rounds_succ]
    go_wp2
    go_ret
    exact ⟨ret_int (by simp), Own.nil _ _, grown_refl _ _⟩
  · go_enter Try.func23, Try.ntmps23
    go_wp2
    go_loopw [1, 5] (fun kv i wr => ∃ (j : Nat), i = .int .i64 j ∧ kv = .int .i64 (k + j) ∧ j ≤ xs.length ∧ Own wr B (.slice (some ⟨g, 0, none⟩) xs.length c) (marked k j ++ xs.drop j) ∧ w.grownBy wr (some g)) (fun _ i _ => xs.length - (intOf i).toNat)
    case atStart => exact ⟨0, rfl, by simp, by omega, by simpa [marked] using hx, grown_refl _ _⟩
    case round =>
      obtain ⟨j, rfl, rfl, hj, ho, hgr⟩ := hrel
      by_cases hjl : j < xs.length
      · obtain ⟨u, hc1⟩ : ∃ u, wr.cell? ⟨g, j, none⟩ = some u := ⟨_, ho.cell (by simp [marked_len]; omega)⟩
        have hf1 := ho.frozen j
        have HO := Lib.hid ho
        clear ho hx
        go_wp2
        go_roundw
        case rel =>
          have hs := HO.out.set j (k + j)
          rw [marked_set k xs j hjl] at hs
          exact ⟨j + 1, by go_num, by go_num, by omega, hs.1, grown_trans_row hgr hs.2⟩
        case measure => simp [intOf]; omega
      · have HO := Lib.hid ho
        clear ho hx
        go_wp2
        go_ret
        obtain rfl : j = xs.length := by omega
        exact ⟨rfl, by simpa using HO.out, hgr⟩

set_option maxHeartbeats 400000 in
theorem heldInt64S_any (a : Option Addr) (c : Nat) (k : Int) (xs : List Int) (w : World) (hx : Rd w a xs) (hk0 : 0 ≤ k) (hk1 : k ≤ 9000000000000000000) :
    Calls Try.prog 24 #[.slice a xs.length c, .int .i64 k] w fun e w' => e = .returned (.int .i64 (held k xs)) ∧ w = w' := by
  have hxl := hx.len
  go_enter Try.func24, Try.ntmps24
  go_wp2
  go_loop [1, 5] (fun kv i => ∃ (j : Nat), i = .int .i64 j ∧ kv = .int .i64 (k + j) ∧ j ≤ xs.length ∧ Hid (∀ i, i < j → nth xs i = k + (i : Int))) (fun _ i => xs.length - (intOf i).toNat)
  case atStart => exact ⟨0, rfl, by simp, by omega, fun j hj => by omega⟩
  case round =>
    obtain ⟨j, rfl, rfl, hj, hq⟩ := hrel
    by_cases hjl : j < xs.length
    · obtain ⟨b1, o1, rfl, _, hcx⟩ := hx.at_ (by omega)
      have hx1 := hcx j hjl
      clear hcx hx
      go_wp2
      · go_ret
        have hne : (nth xs j != k + (j : Int)) = true := by assumption
        exact ⟨ret_int (held_no hjl (by simpa using hne)).symm, rfl⟩
      · have hne : (nth xs j != k + (j : Int)) = false := by assumption
        go_round
        case rel =>
          refine ⟨j + 1, by go_num, by go_num, by omega, fun i hi => ?_⟩
          rcases Nat.lt_succ_iff_lt_or_eq.1 hi with h | rfl
          · exact hq.out i h
          · simpa using hne
        case measure => simp [intOf]; omega
    · go_wp2
      go_ret
      obtain rfl : j = xs.length := by omega
      exact ⟨ret_int (held_yes hq.out).symm, rfl⟩

theorem heldInt64S_marked (a : Option Addr) (c n : Nat) (k : Int) (w : World) (hx : Rd w a (marked k n)) (hk0 : 0 ≤ k) (hk1 : k ≤ 9000000000000000000) :
    Calls Try.prog 24 #[.slice a n c, .int .i64 k] w fun e w' => e = .returned (.int .i64 (k + n)) ∧ w = w' := by
  have h := heldInt64S_any a c k (marked k n) w hx hk0 hk1
  rw [marked_len, held_marked] at h
  exact h

/-- What is left of k when n is taken away; -1 where n is too much. -/
def left (k : Int) (n : Nat) : Int := if (n : Int) ≤ k then k - n else -1
theorem left_yes {k : Int} {n : Nat} (h : (n : Int) ≤ k) : left k n = k - n := if_pos h
theorem left_no {k : Int} {n : Nat} (h : ¬ (n : Int) ≤ k) : left k n = -1 := if_neg h
theorem szInt64S_any (a : Option Addr) (n c : Nat) (k : Int) (w : World) (hn : n ≤ maxLen) (hk0 : 0 ≤ k) (hk1 : k ≤ 1048576) :
    Calls Try.prog 102 #[.slice a n c, .int .i64 k] w fun e w' => e = .returned (.int .i64 (left k n)) ∧ w = w' := by
  unfold maxLen at hn
  by_cases h : (n : Int) ≤ k
  · rw [left_yes h]
    go_enter Try.func102, Try.ntmps102
    go_wp2
    go_ret
    exact ⟨rfl, rfl⟩
  · rw [left_no h]
    go_enter Try.func102, Try.ntmps102
    go_wp2
    go_ret
    exact ⟨rfl, rfl⟩
end Go.Proofs.Ytkbppgpegljcoaa
