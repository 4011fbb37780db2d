/-
  Walks of the laws' helpers over fields and codes: szField, szCode, toField, toCode, eqField, eqCode.
-/
import Derived.Test.YtkbppgpegljcoaaB
namespace Go.Proofs.Ytkbppgpegljcoaa
open Go.RowKit

theorem OwnC.form {w : World} {B : Nat} {v u : Value} {xs : List Int} {xss : List (List Int)} (h : OwnC w B v u xs xss) :
    ∃ a c ra rc, v = .slice a xs.length c ∧ u = .slice ra xss.length rc ∧ Rd w a xs ∧ RdS w ra xss := by
  obtain ⟨M, _, h2, _, h4⟩ := h
  obtain ⟨a, c, e, r, _⟩ := h2.form
  obtain ⟨ra, rc, e', r'⟩ := h4.form
  exact ⟨a, c, ra, rc, e, e', r, r'⟩

theorem szField_any (p d : Int) (a : Option Addr) (n c : Nat) (k : Int) (w : World) (hn : n ≤ maxLen) (hk0 : 0 ≤ k) (hk1 : k ≤ 1048576) :
    Calls Try.prog 34 #[.agg #[.int .i64 p, .int .i64 d, .slice a n c], .int .i64 k] w fun e w' => e = .returned (.int .i64 (left k n)) ∧ Below w.heap.size w w' := by
  go_enter Try.func34, Try.ntmps34
  go_wp2_with fail
  refine (szInt64S_any a n c k _ hn hk0 hk1).mono ?_
  rintro e w1 ⟨rfl, rfl⟩
  by_cases h : (n : Int) ≤ k
  · rw [left_yes h]
    go_wp2
    go_ret
    exact ⟨ret_int (left_yes h).symm, (Below.refl _ _).alloc (Nat.le_refl _) _⟩
  · rw [left_no h]
    go_wp2
    go_ret
    exact ⟨ret_int (left_no (by omega)).symm, (Below.refl _ _).alloc (Nat.le_refl _) _⟩

theorem left_add_no {k : Int} {n m : Nat} (h : ¬ (n : Int) ≤ k) : left k (n + m) = -1 := left_no (by omega)
theorem left_add {k : Int} {n m : Nat} (_h : (n : Int) ≤ k) : left k (n + m) = left (k - n) m := by
  unfold left
  by_cases h2 : (m : Int) ≤ k - n
  · rw [if_pos (by omega), if_pos h2]; omega
  · rw [if_neg (by omega), if_neg h2]

set_option maxHeartbeats 400000 in
theorem szCode_any (p d : Int) (a : Option Addr) (n c : Nat) (b : Option Addr) (cb : Nat) (ls : List Nat) (k : Int) (w : World) (hn : n ≤ maxLen) (hk0 : 0 ≤ k) (hk1 : k ≤ 1048576) (hx : Lens w b ls) :
    Calls Try.prog 29 #[.agg #[.int .i64 p, .int .i64 d, .slice a n c, .slice b ls.length cb], .int .i64 k] w fun e w' => e = .returned (.int .i64 (left k (n + total ls))) ∧ Below w.heap.size w w' := by
  go_enter Try.func29, Try.ntmps29
  go_wp2_with fail
  have hA := (Below.refl w.heap.size w).alloc (Nat.le_refl _) (.cells #[.int .i64 p, .int .i64 d, .slice a n c, .slice b ls.length cb] 38)
  refine (szField_any p d a n c k _ hn hk0 hk1).mono ?_
  rintro e w1 ⟨rfl, hb1⟩
  have hb := hA.trans (hb1.mono (by simp))
  by_cases h : (n : Int) ≤ k
  · rw [left_yes h]
    have hx1 := (hx.alloc (.cells #[.int .i64 p, .int .i64 d, .slice a n c, .slice b ls.length cb] 38)).below hb1
    have hc3 : w1.cell? ⟨w.heap.size, 3, none⟩ = some (.slice b ls.length cb) := (hb1.cell (p := ⟨w.heap.size, 3, none⟩) (by simp)).trans (by rw [World.cell?_alloc_at _ _ _ _ rfl]; rfl)
    go_wp2_with fail
    refine (szInt64SS_any b cb ls (k - n) w1 hx1 (by omega) (by omega)).mono ?_
    rintro e w2 ⟨rfl, rfl⟩
    by_cases h2 : ((total ls : Nat) : Int) ≤ k - n
    · rw [left_yes h2]
      go_wp2
      go_ret
      exact ⟨ret_int (by rw [left_add h, left_yes h2]), hb⟩
    · rw [left_no h2]
      go_wp2
      go_ret
      exact ⟨ret_int (by rw [left_add h, left_no (by omega)]), hb⟩
  · rw [left_no h]
    go_wp2
    go_ret
    exact ⟨ret_int (left_add_no (by omega)).symm, hb⟩

set_option maxHeartbeats 400000 in
theorem toField_any (p d : Int) (a : Option Addr) (c : Nat) (xs : List Int) (w : World) (hx : Rd w a xs) :
    Calls Try.prog 37 #[.agg #[.int .i64 p, .int .i64 d, .slice a xs.length c]] w fun e w' => ∃ v, e = .returned (.agg #[.int .i64 p, .int .i64 d, v]) ∧ Own w' w.heap.size v xs ∧ Below w.heap.size w w' := by
  go_enter Try.func37, Try.ntmps37
  go_wp2_with fail
  obtain ⟨wA, hwA⟩ : ∃ wA, wA = w.alloc (.cells #[.int .i64 p, .int .i64 d, .slice a xs.length c] 35) := ⟨_, rfl⟩
  obtain ⟨wB, hwB⟩ : ∃ wB, wB = wA.alloc (.cells #[.int .i64 0, .int .i64 0, .slice none 0 0] 41) := ⟨_, rfl⟩
  obtain ⟨wC, hwC⟩ : ∃ wC, wC = wB.alloc (.cells #[.int .i64 p, .int .i64 d, .slice none 0 0] 41) := ⟨_, rfl⟩
  have sA : wA.heap.size = w.heap.size + 1 := by rw [hwA]; simp
  have sB : wB.heap.size = w.heap.size + 1 + 1 := by rw [hwB]; simp [sA]
  have sC : wC.heap.size = w.heap.size + 1 + 1 + 1 := by rw [hwC]; simp [sB]
  have kB : Blk wC (w.heap.size + 1) 41 #[.int .i64 0, .int .i64 0, .slice none 0 0] := by rw [hwC, hwB]; exact (Blk.new _ _ _ sA.symm).alloc _
  have kC : Blk wC (w.heap.size + 1 + 1) 41 #[.int .i64 p, .int .i64 d, .slice none 0 0] := by rw [hwC]; exact Blk.new _ _ _ sB.symm
  have hb0 : Below w.heap.size w wC := by rw [hwC, hwB, hwA]; exact (((Below.refl _ _).alloc (Nat.le_refl _) _).alloc (by simp) _).alloc (by simp; omega) _
  rw [← hwA, ← hwB, ← hwC]
  refine (toInt64S_any a c xs wC (hx.below hb0)).mono ?_
  rintro e w1 ⟨v1, rfl, o1, b1⟩
  obtain ⟨a1, c1, rfl, _, _⟩ := o1.form
  have kB1 := kB.below b1 (by omega)
  have kC1 := kC.below b1 (by omega)
  have f0 : w1.cell? ⟨w.heap.size + 1 + 1, 0, none⟩ = some (.int .i64 p) := kC1.cell 0
  have f1 : w1.cell? ⟨w.heap.size + 1 + 1, 1, none⟩ = some (.int .i64 d) := kC1.cell 1
  have f2 : w1.cell? ⟨w.heap.size + 1 + 1, 2, none⟩ = some (.slice none 0 0) := kC1.cell 2
  have f3 := kC1.frozen 2
  have g0 : w1.cell? ⟨w.heap.size + 1, 0, none⟩ = some (.int .i64 0) := kB1.cell 0
  have g1 : w1.cell? ⟨w.heap.size + 1, 1, none⟩ = some (.int .i64 0) := kB1.cell 1
  have g2 : w1.cell? ⟨w.heap.size + 1, 2, none⟩ = some (.slice none 0 0) := kB1.cell 2
  have e0 := kB1.frozen 0
  have e1 := kB1.frozen 1
  have e2 := kB1.frozen 2
  have s1 := b1.size
  clear hwA hwB hwC hx
  go_wp2
  refine bodyPost_ret (results_cell_row rfl _ _ (w.heap.size + 1) 41 #[.int .i64 p, .int .i64 d, .slice a1 xs.length c1] (0, 0) _ rfl
    ((((kB1.far (p := ⟨w.heap.size + 1 + 1, 2, none⟩) (by show w.heap.size + 1 ≠ w.heap.size + 1 + 1; omega) _).set_ 0 _).set_ 1 _).set_ 2 _) Try.underlying41 rfl (by kernel_rfl)) rfl ⟨_, rfl, ?_, ?_⟩
  · exact ((((o1.storeBelow (by show w.heap.size + 1 + 1 < _; omega) _).storeBelow (by show w.heap.size + 1 < _; omega) _).storeBelow (by show w.heap.size + 1 < _; omega) _).storeBelow (by show w.heap.size + 1 < _; omega) _).mono (by omega)
  · exact (((((hb0.trans (b1.mono (by omega))).setCell (by show _ ≤ w.heap.size + 1 + 1; omega) _).setCell (by show _ ≤ w.heap.size + 1; omega) _).setCell (by show _ ≤ w.heap.size + 1; omega) _).setCell (by show _ ≤ w.heap.size + 1; omega) _)

set_option maxHeartbeats 800000 in
theorem toCode_any (p d : Int) (a b : Option Addr) (c cb : Nat) (xs : List Int) (xss : List (List Int)) (w : World) (hx : Rd w a xs) (hxs : RdS w b xss) :
    Calls Try.prog 31 #[.agg #[.int .i64 p, .int .i64 d, .slice a xs.length c, .slice b xss.length cb]] w fun e w' => ∃ v u, e = .returned (.agg #[.int .i64 p, .int .i64 d, v, u]) ∧ OwnC w' w.heap.size v u xs xss ∧ Below w.heap.size w w' := by
  go_enter Try.func31, Try.ntmps31
  go_wp2_with fail
  obtain ⟨wA, hwA⟩ : ∃ wA, wA = w.alloc (.cells #[.int .i64 p, .int .i64 d, .slice a xs.length c, .slice b xss.length cb] 38) := ⟨_, rfl⟩
  obtain ⟨wB, hwB⟩ : ∃ wB, wB = wA.alloc (.cells #[.int .i64 0, .int .i64 0, .slice none 0 0, .slice none 0 0] 43) := ⟨_, rfl⟩
  obtain ⟨wC, hwC⟩ : ∃ wC, wC = wB.alloc (.cells #[.int .i64 0, .int .i64 0, .slice none 0 0, .slice none 0 0] 43) := ⟨_, rfl⟩
  have sA : wA.heap.size = w.heap.size + 1 := by rw [hwA]; simp
  have sB : wB.heap.size = w.heap.size + 1 + 1 := by rw [hwB]; simp [sA]
  have sC : wC.heap.size = w.heap.size + 1 + 1 + 1 := by rw [hwC]; simp [sB]
  have kA : Blk wC w.heap.size 38 #[.int .i64 p, .int .i64 d, .slice a xs.length c, .slice b xss.length cb] := by rw [hwC, hwB, hwA]; exact ((Blk.new _ _ _ rfl).alloc _).alloc _
  have kB : Blk wC (w.heap.size + 1) 43 #[.int .i64 0, .int .i64 0, .slice none 0 0, .slice none 0 0] := by rw [hwC, hwB]; exact (Blk.new _ _ _ sA.symm).alloc _
  have kC : Blk wC (w.heap.size + 1 + 1) 43 #[.int .i64 0, .int .i64 0, .slice none 0 0, .slice none 0 0] := by rw [hwC]; exact Blk.new _ _ _ sB.symm
  have hb0 : Below w.heap.size w wC := by rw [hwC, hwB, hwA]; exact (((Below.refl _ _).alloc (Nat.le_refl _) _).alloc (by simp) _).alloc (by simp; omega) _
  rw [← hwA, ← hwB, ← hwC]
  refine (toField_any p d a c xs wC (hx.below hb0)).mono ?_
  rintro e w1 ⟨v1, rfl, o1, b1⟩
  obtain ⟨a1, c1, rfl, _, i1⟩ := o1.form
  have kA1 := kA.below b1 (by omega)
  have kB1 := kB.below b1 (by omega)
  have kC1 := kC.below b1 (by omega)
  have s1 := b1.size
  have hb1 := hb0.trans (b1.mono (by omega))
  have f0 : w1.cell? ⟨w.heap.size + 1 + 1, 0, none⟩ = some (.int .i64 0) := kC1.cell 0
  have f1 : w1.cell? ⟨w.heap.size + 1 + 1, 1, none⟩ = some (.int .i64 0) := kC1.cell 1
  have f2 : w1.cell? ⟨w.heap.size + 1 + 1, 2, none⟩ = some (.slice none 0 0) := kC1.cell 2
  have p0 := kC1.frozen 0
  have p1 := kC1.frozen 1
  have p2 := kC1.frozen 2
  have h3 : w1.cell? ⟨w.heap.size, 3, none⟩ = some (.slice b xss.length cb) := kA1.cell 3
  clear hwA hwB hwC
  go_wp2_with fail
  obtain ⟨w2, hw2⟩ : ∃ w2, w2 = ((w1.setCell ⟨w.heap.size + 1 + 1, 0, none⟩ (.int .i64 p)).setCell ⟨w.heap.size + 1 + 1, 1, none⟩ (.int .i64 d)).setCell ⟨w.heap.size + 1 + 1, 2, none⟩ (.slice a1 xs.length c1) := ⟨_, rfl⟩
  have kB2 : Blk w2 (w.heap.size + 1) 43 #[.int .i64 0, .int .i64 0, .slice none 0 0, .slice none 0 0] := by
    rw [hw2]; exact ((kB1.far (by show w.heap.size + 1 ≠ w.heap.size + 1 + 1; omega) _).far (by show w.heap.size + 1 ≠ w.heap.size + 1 + 1; omega) _).far (by show w.heap.size + 1 ≠ w.heap.size + 1 + 1; omega) _
  have kC2 : Blk w2 (w.heap.size + 1 + 1) 43 #[.int .i64 p, .int .i64 d, .slice a1 xs.length c1, .slice none 0 0] := by
    rw [hw2]; exact ((kC1.set_ 0 _).set_ 1 _).set_ 2 _
  have o2 : Own w2 wC.heap.size (.slice a1 xs.length c1) xs := by
    rw [hw2]; exact ((o1.storeBelow (by show w.heap.size + 1 + 1 < _; omega) _).storeBelow (by show w.heap.size + 1 + 1 < _; omega) _).storeBelow (by show w.heap.size + 1 + 1 < _; omega) _
  have hb2 : Below w.heap.size w w2 := by
    rw [hw2]; exact ((hb1.setCell (by show _ ≤ w.heap.size + 1 + 1; omega) _).setCell (by show _ ≤ w.heap.size + 1 + 1; omega) _).setCell (by show _ ≤ w.heap.size + 1 + 1; omega) _
  have s2 : w2.heap.size = w1.heap.size := by rw [hw2]; simp
  rw [← hw2]
  clear f0 f1 f2 p0 p1 p2 h3 kB1 kC1 o1 hw2
  refine (toInt64SS_any b cb xss w2 (hxs.below hb2)).mono ?_
  rintro e w3 ⟨v3, rfl, o3, b3⟩
  obtain ⟨a3, c3, rfl, _⟩ := o3.form
  have kB3 := kB2.below b3 (by omega)
  have kC3 := kC2.below b3 (by omega)
  have o2' := o2.below b3 (Nat.le_refl _)
  have hb3 := hb2.trans (b3.mono (by omega))
  have f0 : w3.cell? ⟨w.heap.size + 1 + 1, 0, none⟩ = some (.int .i64 p) := kC3.cell 0
  have f1 : w3.cell? ⟨w.heap.size + 1 + 1, 1, none⟩ = some (.int .i64 d) := kC3.cell 1
  have f2 : w3.cell? ⟨w.heap.size + 1 + 1, 2, none⟩ = some (.slice a1 xs.length c1) := kC3.cell 2
  have f3 : w3.cell? ⟨w.heap.size + 1 + 1, 3, none⟩ = some (.slice none 0 0) := kC3.cell 3
  have p3 := kC3.frozen 3
  have g0 : w3.cell? ⟨w.heap.size + 1, 0, none⟩ = some (.int .i64 0) := kB3.cell 0
  have g1 : w3.cell? ⟨w.heap.size + 1, 1, none⟩ = some (.int .i64 0) := kB3.cell 1
  have g2 : w3.cell? ⟨w.heap.size + 1, 2, none⟩ = some (.slice none 0 0) := kB3.cell 2
  have g3 : w3.cell? ⟨w.heap.size + 1, 3, none⟩ = some (.slice none 0 0) := kB3.cell 3
  have q0 := kB3.frozen 0
  have q1 := kB3.frozen 1
  have q2 := kB3.frozen 2
  have q3 := kB3.frozen 3
  go_wp2
  refine bodyPost_ret (results_cell_row rfl _ _ (w.heap.size + 1) 43 #[.int .i64 p, .int .i64 d, .slice a1 xs.length c1, .slice a3 xss.length c3] (0, 0) _ rfl
    (((((kB3.far (p := ⟨w.heap.size + 1 + 1, 3, none⟩) (by show w.heap.size + 1 ≠ w.heap.size + 1 + 1; omega) _).set_ 0 _).set_ 1 _).set_ 2 _).set_ 3 _) Try.underlying43 rfl (by kernel_rfl)) rfl ⟨_, _, rfl, ?_, ?_⟩
  · have hC : OwnC w3 wC.heap.size (.slice a1 xs.length c1) (.slice a3 xss.length c3) xs xss := ⟨w2.heap.size, by omega, o2', fun k hk => by have := i1 k hk; omega, o3⟩
    exact (((((hC.storeBelow (by show w.heap.size + 1 + 1 < _; omega) _).storeBelow (by show w.heap.size + 1 < _; omega) _).storeBelow (by show w.heap.size + 1 < _; omega) _).storeBelow (by show w.heap.size + 1 < _; omega) _).storeBelow (by show w.heap.size + 1 < _; omega) _).mono (by omega)
  · exact ((((hb3.setCell (by show _ ≤ w.heap.size + 1 + 1; omega) _).setCell (by show _ ≤ w.heap.size + 1; omega) _).setCell (by show _ ≤ w.heap.size + 1; omega) _).setCell (by show _ ≤ w.heap.size + 1; omega) _).setCell (by show _ ≤ w.heap.size + 1; omega) _
end Go.Proofs.Ytkbppgpegljcoaa
