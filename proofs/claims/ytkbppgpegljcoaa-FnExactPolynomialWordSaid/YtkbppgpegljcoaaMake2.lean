/-
  Walk of MakeField (the program's).
-/
import Derived.Test.YtkbppgpegljcoaaMake
import Derived.Test.YtkbppgpegljcoaaMem2
namespace Go.Proofs.Ytkbppgpegljcoaa
open Go.RowKit

set_option maxHeartbeats 1600000 in
theorem MakeField_no (q : Int) (w : World) (h : isField q = false) :
    Calls Try.prog 69 #[.int .i64 q] w fun e w' => ∃ v, e = .returned (.tuple #[.agg #[.int .i64 0, .int .i64 0, v], .int .i64 2]) ∧ Own w' w.heap.size v [] ∧ Below w.heap.size w w' := by
  have hno := isField_no h
  generalize hP : (ppI q).1 = P at hno
  have HP := Lib.hid hP
  clear hP h
  go_enter Try.func69, Try.ntmps69
  go_wp2_with fail
  obtain ⟨w0, hw0⟩ : ∃ w0, w0 = w.alloc (.cells #[.int .i64 0, .int .i64 0, .slice none 0 0] 41) := ⟨_, rfl⟩
  have k0 : Blk w0 w.heap.size 41 #[.int .i64 0, .int .i64 0, .slice none 0 0] := by rw [hw0]; exact Blk.new _ _ _ rfl
  have hb0 : Below w.heap.size w w0 := by rw [hw0]; exact (Below.refl _ _).alloc (Nat.le_refl _) _
  rw [← hw0]
  clear hw0
  refine (PrimePower_any q w0).mono ?_
  rintro e w1 ⟨rfl, b1⟩
  rw [HP.out]
  have k1 := k0.below b1 k0.lt
  have hb1 := hb0.trans (b1.mono hb0.size)
  have f0 : w1.cell? ⟨w.heap.size, 0, none⟩ = some (.int .i64 0) := k1.cell 0
  have f1 : w1.cell? ⟨w.heap.size, 1, none⟩ = some (.int .i64 0) := k1.cell 1
  have f2 : w1.cell? ⟨w.heap.size, 2, none⟩ = some (.slice none 0 0) := k1.cell 2
  have g0 := k1.frozen 0
  have g1 := k1.frozen 1
  have g2 := k1.frozen 2
  by_cases hp0 : P = 0
  · have hp1 : (P == 0) = true := by simpa using hp0
    clear hp0 hno
    go_wp2
    refine bodyPost_ret (results_cell_tmp_row rfl _ _ w.heap.size 41 #[.int .i64 0, .int .i64 0, .slice none 0 0] _ rfl (((k1.set_ 0 _).set_ 1 _).set_ 2 _) Try.underlying41 rfl (by kernel_rfl)) rfl ⟨_, rfl, Own.nil _ _, ?_⟩
    exact ((hb1.setCell (Nat.le_refl _) _).setCell (Nat.le_refl _) _).setCell (Nat.le_refl _) _
  · have hp1 : (P == 0) = false := by simpa using hp0
    have hq : 64 < q := by omega
    clear hp0 hno
    go_wp2
    refine bodyPost_ret (results_cell_tmp_row rfl _ _ w.heap.size 41 #[.int .i64 0, .int .i64 0, .slice none 0 0] _ rfl (((k1.set_ 0 _).set_ 1 _).set_ 2 _) Try.underlying41 rfl (by kernel_rfl)) rfl ⟨_, rfl, Own.nil _ _, ?_⟩
    exact ((hb1.setCell (Nat.le_refl _) _).setCell (Nat.le_refl _) _).setCell (Nat.le_refl _) _

theorem polyAt_in {p : Int} (hp : 2 ≤ p) (k n : Nat) : InR p (polyAt p k n) := InR.app (dig_range (by omega) k) hp

set_option maxHeartbeats 1600000 in
theorem MakeField_yes (q P : Int) (K : Nat) (w : World) (h2 : 2 ≤ q) (h64 : q ≤ 64) (hpp : ppI q = (P, (K : Int))) (hs : SizeOk q P K) :
    Calls Try.prog 69 #[.int .i64 q] w fun e w' => ∃ v, e = .returned (.tuple #[.agg #[.int .i64 P, .int .i64 K, v], .int .i64 0]) ∧ Own w' w.heap.size v (polyAt P K (leastN P K)) ∧ Below w.heap.size w w' := by
  obtain ⟨hN1, hN2, hN3⟩ := leastN_spec hs
  have hPl := hs.lo
  have hPh := hs.hi
  have hK1 := hs.k1
  have hK6 := hs.k6
  have hpow := Lib.hid hs.pow
  have HPP := Lib.hid hpp
  generalize leastN P K = N at hN1 hN2 hN3
  have HN2 := Lib.hid hN2
  have HN3 := hide hN3
  have hp1 : (P == 0) = false := by rw [beq_eq_false_iff_ne]; omega
  clear hpp hN2 hN3 hs
  go_enter Try.func69, Try.ntmps69
  go_wp2_with fail
  obtain ⟨w0, hw0⟩ : ∃ w0, w0 = w.alloc (.cells #[.int .i64 0, .int .i64 0, .slice none 0 0] 41) := ⟨_, rfl⟩
  have k0 : Blk w0 w.heap.size 41 #[.int .i64 0, .int .i64 0, .slice none 0 0] := by rw [hw0]; exact Blk.new _ _ _ rfl
  have hb0 : Below w.heap.size w w0 := by rw [hw0]; exact (Below.refl _ _).alloc (Nat.le_refl _) _
  rw [← hw0]
  clear hw0
  refine (PrimePower_any q w0).mono ?_
  rintro e w1 ⟨rfl, b1⟩
  rw [HPP.out]
  have k1 := k0.below b1 k0.lt
  have hb1 := hb0.trans (b1.mono hb0.size)
  clear k0 b1 hb0
  go_wp2_with fail
  go_loopw [6] (fun nv wr => ∃ n : Nat, nv = .int .i64 n ∧ n ≤ N ∧ Blk wr w.heap.size 41 #[.int .i64 0, .int .i64 0, .slice none 0 0] ∧ Below w.heap.size w wr) (fun nv _ => N - (intOf nv).toNat)
  case atStart => exact ⟨0, rfl, Nat.zero_le _, k1, hb1⟩
  case round =>
    obtain ⟨n, rfl, hnN, kr, hb⟩ := hrel
    have klt := kr.lt
    go_wp2_with fail
    refine (digitsOf_any n P K _ (by omega) (by omega) (by omega) (by omega) (by omega)).mono ?_
    rintro e w2 ⟨v2, rfl, o2, b2⟩
    have hsz2 := b2.size
    go_wp2_with (at_builtin; refine wpList_append_ints rfl (.tmp 22) (.tmp 23) rfl _ v2 (dig n P K) [1] rfl (o2.alloc _) _ 1 1 rfl rfl (Rd.lit1 w2 _) (by rw [dig_len]; simp; omega) (by simp; omega) ?_; intro v3 w3 o3 g3 _)
    have b3 : Below wr.heap.size w2 w3 := Below.step ((Below.refl _ _).alloc hsz2 _) g3 (o2.alloc _) (Nat.le_refl _) (by simp; omega)
    have b13 := b2.trans b3
    obtain ⟨a3, c3, rfl, r3, _⟩ := o3.form
    have hpl := polyAt_len P K n
    refine (irreducible_any a3 c3 (polyAt P K n) P w3 r3 (by omega) (by omega) (polyAt_in hPl K n) (by rw [hpl]; omega) (by rw [hpl, Nat.add_sub_cancel, hpow.out]; exact h64)).mono ?_
    rintro e w4 ⟨rfl, b4⟩
    have b14 := b13.trans (b4.mono b13.size)
    have hb4 := hb.trans (b14.mono hb.size)
    have k4 := kr.below b14 klt
    have HPL := Lib.hid hpl
    clear kr hpl o3 r3 g3 o2 b3 b13 b2 b4
    by_cases hnn : n = N
    · subst hnn
      rw [HN2.out]
      go_wp2_with fail
      refine (digitsOf_any n P K _ (by omega) (by omega) (by omega) (by omega) (by omega)).mono ?_
      rintro e w5 ⟨v5, rfl, o5, b5⟩
      have hsz5 := b5.size
      go_wp2_with (at_builtin; refine wpList_append_ints rfl (.tmp 35) (.tmp 36) rfl _ v5 (dig n P K) [1] rfl (o5.alloc _) _ 1 1 rfl rfl (Rd.lit1 w5 _) (by rw [dig_len]; simp; omega) (by simp; omega) ?_; intro v6 w6 o6 g6 _; (have b6 : Below w4.heap.size w5 w6 := Below.step ((Below.refl _ _).alloc hsz5 _) g6 (o5.alloc _) (Nat.le_refl _) (by simp; omega)); obtain ⟨a6, c6, rfl, _, _⟩ := o6.form; have b46 := b5.trans b6; have k6 := k4.below b46 k4.lt; have f0 : w6.cell? ⟨w.heap.size, 0, none⟩ = some (.int .i64 0) := k6.cell 0; have f1 : w6.cell? ⟨w.heap.size, 1, none⟩ = some (.int .i64 0) := k6.cell 1; have f2 : w6.cell? ⟨w.heap.size, 2, none⟩ = some (.slice none 0 0) := k6.cell 2; have g0 := k6.frozen 0; have g1 := k6.frozen 1; have g2 := k6.frozen 2)
      have hb6 := hb4.trans (b46.mono hb4.size)
      have hwl := k4.lt
      have hla : (dig n P K ++ [1]).length = (dig n P K).length + 1 := by simp
      rw [hla] at o6
      refine bodyPost_ret (results_cell_tmp_row rfl _ _ w.heap.size 41 #[.int .i64 P, .int .i64 K, .slice a6 ((dig n P K).length + 1) c6] _ rfl (((k6.set_ 0 _).set_ 1 _).set_ 2 _) Try.underlying41 rfl (by kernel_rfl)) rfl ⟨_, rfl, ?_, ?_⟩
      · exact (((o6.storeBelow (by show w.heap.size < _; omega) _).storeBelow (by show w.heap.size < _; omega) _).storeBelow (by show w.heap.size < _; omega) _).mono (by omega)
      · exact ((hb6.setCell (Nat.le_refl _) _).setCell (Nat.le_refl _) _).setCell (Nat.le_refl _) _
    · have hf := (unhide HN3) n (by omega)
      rw [hf]
      go_wp2
      go_roundw
      case rel => exact ⟨n + 1, by go_num, by omega, k4, hb4⟩
      case measure => simp only [intOf]; omega

theorem MakeField_any (q : Int) (w : World) :
    Calls Try.prog 69 #[.int .i64 q] w fun e w' => ∃ v, e = .returned (.tuple #[.agg #[.int .i64 (mkF q).1, .int .i64 (mkF q).2.1, v], .int .i64 (mkF q).2.2.2]) ∧ Own w' w.heap.size v (mkF q).2.2.1 ∧ Below w.heap.size w w' := by
  by_cases h : isField q = true
  · obtain ⟨h2, h64, he, k, hk, hs⟩ := isField_size h
    have hm : mkF q = ((split q).1, (k : Int), polyAt (split q).1 k (leastN (split q).1 k), 0) := by rw [mkF, if_pos h, hk, Int.toNat_natCast]
    rw [hm]
    exact MakeField_yes q _ k w h2 h64 (by rw [← he, ← hk]) hs
  · have hm : mkF q = (0, 0, [], 2) := by rw [mkF, if_neg h]
    rw [hm]
    exact MakeField_no q w (by simpa using h)
end Go.Proofs.Ytkbppgpegljcoaa
