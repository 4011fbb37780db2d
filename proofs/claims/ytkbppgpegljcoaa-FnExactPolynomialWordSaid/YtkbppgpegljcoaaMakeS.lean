/-
  Walk of l03Make (the spec's); fields as data.
-/
import Derived.Test.YtkbppgpegljcoaaMake2
import Derived.Test.YtkbppgpegljcoaaArith
import Derived.Laws.Rows
namespace Go.Proofs.Ytkbppgpegljcoaa
open Go.RowKit

set_option maxRecDepth 100000 in
set_option maxHeartbeats 1600000 in
theorem l03Make_yes (q P : Int) (K : Nat) (w : World) (h2 : 2 ≤ q) (h64 : q ≤ 64) (hpp : split q = (P, (K : Int))) (hs : SizeOk q P K) :
    Calls Try.prog 67 #[.int .i64 q] w fun e w' => ∃ v, e = .returned (.agg #[.int .i64 P, .int .i64 K, v]) ∧ Own w' w.heap.size v (polyAt P K (leastN P K)) ∧ Below w.heap.size w w' := by
  obtain ⟨hN1, hN2, hN3⟩ := leastN_spec hs
  have hPl := hs.lo
  have hPh := hs.hi
  have hK1 := hs.k1
  have hK6 := hs.k6
  have hpow := Lib.hid hs.pow
  have HPP := Lib.hid hpp
  generalize leastN P K = N at hN1 hN2 hN3
  have HN2 := Lib.hid hN2
  have HN3 := hide hN3
  clear hpp hN2 hN3 hs
  go_enter Try.func67, Try.ntmps67
  go_wp2_with fail
  obtain ⟨w0, hw0⟩ : ∃ w0, w0 = w.alloc (.cells #[.int .i64 0, .int .i64 0, .slice none 0 0] 41) := ⟨_, rfl⟩
  have k0 : Blk w0 w.heap.size 41 #[.int .i64 0, .int .i64 0, .slice none 0 0] := by rw [hw0]; exact Blk.new _ _ _ rfl
  have hb0 : Below w.heap.size w w0 := by rw [hw0]; exact (Below.refl _ _).alloc (Nat.le_refl _) _
  rw [← hw0]
  clear hw0
  refine (l03Split_any q w0).mono ?_
  rintro e w1 ⟨rfl, rfl⟩
  rw [HPP.out]
  go_wp2_with fail
  go_loopw [5] (fun nv wr => ∃ n : Nat, nv = .int .i64 n ∧ n ≤ N ∧ Blk wr w.heap.size 41 #[.int .i64 0, .int .i64 0, .slice none 0 0] ∧ Below w.heap.size w wr) (fun nv _ => N - (intOf nv).toNat)
  case atStart => exact ⟨0, rfl, Nat.zero_le _, k0, hb0⟩
  case round =>
    obtain ⟨n, rfl, hnN, kr, hb⟩ := hrel
    have klt := kr.lt
    go_wp2_with fail
    refine (l03Digits_any n P K _ (by omega) (by omega) (by omega) (by omega) (by omega)).mono ?_
    rintro e w2 ⟨v2, rfl, o2, b2⟩
    have hsz2 := b2.size
    go_wp2_with (at_builtin; refine wpList_append_ints rfl (.tmp 17) (.tmp 18) rfl _ v2 (dig n P K) [1] rfl (o2.alloc _) _ 1 1 rfl rfl (Rd.lit1 w2 _) (by rw [dig_len]; simp; omega) (by simp; omega) ?_; intro v3 w3 o3 g3 _)
    have b3 : Below wr.heap.size w2 w3 := Below.step ((Below.refl _ _).alloc hsz2 _) g3 (o2.alloc _) (Nat.le_refl _) (by simp; omega)
    have b13 := b2.trans b3
    have hpl := polyAt_len P K n
    have O3 := Lib.hid o3
    obtain ⟨a3, c3, rfl, r3, _⟩ := o3.form
    refine (l03Irreducible_any a3 c3 (polyAt P K n) P w3 r3 (by omega) (by omega) (polyAt_in hPl K n) (by rw [hpl]; omega) (by rw [hpl, Nat.add_sub_cancel, hpow.out]; exact h64)).mono ?_
    rintro e w4 ⟨rfl, b4⟩
    have b14 := b13.trans (b4.mono b13.size)
    have hb4 := hb.trans (b14.mono hb.size)
    have k4 := kr.below b14 klt
    have o4 := O3.out.below b4 (Nat.le_refl _)
    have HPL := Lib.hid hpl
    clear kr hpl r3 g3 o2 b3 b13 b2 b4 O3
    by_cases hnn : n = N
    · subst hnn
      rw [HN2.out]
      have f0 : w4.cell? ⟨w.heap.size, 0, none⟩ = some (.int .i64 0) := k4.cell 0
      have f1 : w4.cell? ⟨w.heap.size, 1, none⟩ = some (.int .i64 0) := k4.cell 1
      have f2 : w4.cell? ⟨w.heap.size, 2, none⟩ = some (.slice none 0 0) := k4.cell 2
      have g0 := k4.frozen 0
      have g1 := k4.frozen 1
      have g2 := k4.frozen 2
      have hla : (dig n P K ++ [1]).length = (dig n P K).length + 1 := by simp
      rw [hla] at o4
      have O4 := Lib.hid o4
      clear o4 hla o3
      go_wp2
      refine bodyPost_ret (results_cell_row rfl _ _ w.heap.size 41 #[.int .i64 P, .int .i64 K, .slice a3 ((dig n P K).length + 1) c3] (0, 0) _ rfl (((k4.set_ 0 _).set_ 1 _).set_ 2 _) Try.underlying41 rfl (by kernel_rfl)) rfl ⟨_, rfl, ?_, ?_⟩
      · exact (((O4.out.storeBelow (by show w.heap.size < _; omega) _).storeBelow (by show w.heap.size < _; omega) _).storeBelow (by show w.heap.size < _; omega) _).mono (by omega)
      · exact ((hb4.setCell (Nat.le_refl _) _).setCell (Nat.le_refl _) _).setCell (Nat.le_refl _) _
    · have hf := (unhide HN3) n (by omega)
      rw [hf]
      go_wp2
      go_roundw
      case rel => exact ⟨n + 1, by go_num, by omega, k4, hb4⟩
      case measure => simp only [intOf]; omega

/-- The field of a size, as data. -/
def fdOf (q : Int) : FD := ⟨(split q).1, (split q).2.toNat, polyAt (split q).1 (split q).2.toNat (leastN (split q).1 (split q).2.toNat)⟩
theorem fdOf_ok {q : Int} (h : isField q = true) : (fdOf q).Ok ∧ (fdOf q).p ^ (fdOf q).k = q ∧ split q = ((fdOf q).p, ((fdOf q).k : Int)) := by
  obtain ⟨h2, h64, he, k, hk, hs⟩ := isField_size h
  obtain ⟨n1, n2, n3⟩ := leastN_spec hs
  have e : fdOf q = ⟨(split q).1, k, polyAt (split q).1 k (leastN (split q).1 k)⟩ := by rw [fdOf, hk, Int.toNat_natCast]
  rw [e]
  have hp := hs.pow
  refine ⟨⟨hs.lo, hs.hi, hs.k1, hs.k6, by show _ ^ _ ≤ _; rw [hp]; exact h64, polyAt_len _ _ _, polyAt_in hs.lo _ _, ?_, n2⟩, hp, by rw [← hk]⟩
  show nth (polyAt _ _ _) k = 1
  rw [polyAt, nth, List.getD_eq_getElem?_getD, List.getElem?_append_right (by rw [dig_len]; exact Nat.le_refl _), dig_len]
  simp
theorem l03Make_any (q : Int) (w : World) (h : isField q = true) :
    Calls Try.prog 67 #[.int .i64 q] w fun e w' => ∃ v, e = .returned (.agg #[.int .i64 (fdOf q).p, .int .i64 (fdOf q).k, v]) ∧ Own w' w.heap.size v (fdOf q).poly ∧ Below w.heap.size w w' := by
  obtain ⟨h2, h64, he, k, hk, hs⟩ := isField_size h
  have e : fdOf q = ⟨(split q).1, k, polyAt (split q).1 k (leastN (split q).1 k)⟩ := by rw [fdOf, hk, Int.toNat_natCast]
  rw [e]
  exact l03Make_yes q _ k w h2 h64 (by rw [← hk]) hs
theorem mkF_fd {q : Int} (h : isField q = true) : mkF q = ((fdOf q).p, ((fdOf q).k : Int), (fdOf q).poly, 0) := by
  obtain ⟨h2, h64, he, k, hk, hs⟩ := isField_size h
  rw [mkF, if_pos h, fdOf, hk, Int.toNat_natCast]
theorem implMake_any (q : Int) (w : World) (h : isField q = true) :
    Calls Try.prog 69 #[.int .i64 q] w fun e w' => ∃ v, e = .returned (.tuple #[.agg #[.int .i64 (fdOf q).p, .int .i64 (fdOf q).k, v], .int .i64 0]) ∧ Own w' w.heap.size v (fdOf q).poly ∧ Below w.heap.size w w' := by
  have := MakeField_any q w
  rw [mkF_fd h] at this
  exact this
end Go.Proofs.Ytkbppgpegljcoaa
