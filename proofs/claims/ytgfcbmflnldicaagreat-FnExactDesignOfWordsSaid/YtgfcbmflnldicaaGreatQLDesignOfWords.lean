/-
  Proved: FnExactDesignOfWords returns true for every input and leaves its arguments as they were. No condition. Printed by gen_law3.py.
-/
import Derived.Test.YtgfcbmflnldicaaGreatDA6
import Derived.Test.YtgfcbmflnldicaaGreatDA35
import Derived.Test.YtgfcbmflnldicaaGreatDA36
set_option linter.unusedVariables false
set_option linter.unusedSimpArgs false
set_option maxRecDepth 100000
set_option maxHeartbeats 40000000
namespace Go.Proofs.YtgfcbmflnldicaaGreat
open Go.RowKit
attribute [local go_sem ↓] Go.wp_at_zero Go.wp_at_succ
theorem dec_self {α : Type} [DecidableEq α] (xs : α) : decide (xs = xs) = true := by simp
theorem lawDesignOfWords (p0 : Int) (d0 : Int) (a0 : Option Addr) (c0 : Nat) (xs0 : List Int) (ra0 : Option Addr) (rc0 : Nat) (xss0 : List (List Int)) (n1 : Int) (w : World) (l0 : xs0.length ≤ maxLen) (h0 : xs0.length ≤ 1048576 → Rd w a0 xs0) (m0 : Lens w ra0 (xss0.map List.length)) (y0 : total (xss0.map List.length) ≤ 1048576 → RdS w ra0 xss0) (ed0 : I64 d0) :
    Calls Tryz.prog 4 #[.agg #[.int .i64 p0, .int .i64 d0, .slice a0 xs0.length c0, .slice ra0 xss0.length rc0], .int .i64 n1] w fun e w' => e = .returned (.bool true) ∧ Below w.heap.size w w' := by
 obtain ⟨rp0, ry0, r1, hR⟩ : ∃ rp0 ry0 r1, (dwRes p0 d0 xs0 xss0 n1) = (rp0, ry0, r1) := ⟨_, _, _, rfl⟩
 have hsp := fun a0' c0' ra0' rc0' W h0' r0' => specDW_any p0 d0 a0' c0' xs0 ra0' rc0' xss0 n1 W h0' r0'  
 rw [hR] at hsp
 have HSP := hide hsp
 clear hsp
 have him := fun a0' c0' ra0' rc0' W h0' r0' => implDW_any p0 d0 a0' c0' xs0 ra0' rc0' xss0 n1 W h0' r0'  ed0
 rw [hR] at him
 have HIM := hide him
 clear him
 clear hR
 obtain ⟨w0, hw0⟩ : ∃ z, z = (w.alloc (.cells #[.int .i64 p0, .int .i64 d0, .slice a0 xs0.length c0, .slice ra0 xss0.length rc0] 44)) := ⟨_, rfl⟩
 have hb0 : Below w.heap.size w w0 := by rw [hw0]; exact ((Below.refl _ _).alloc (Nat.le_refl _) _)
 have kA0 : Blk w0 w.heap.size 44 #[.int .i64 p0, .int .i64 d0, .slice a0 xs0.length c0, .slice ra0 xss0.length rc0] := by rw [hw0]; exact (Blk.new _ _ _ rfl)
 have zb : w.heap.size + 1 ≤ w0.heap.size := by rw [hw0]; simp
 go_enter Tryz.func4, Tryz.ntmps4
 have e0 : (xss0.map List.length).length = xss0.length := by simp
 have zz := szCode_any p0 d0 a0 xs0.length c0 ra0 rc0 (xss0.map List.length) (1048576) w0 l0 (by omega) (by omega) (m0.below hb0)
 rw [e0] at zz
 have Z1 := hide zz
 clear zz e0
 have HP2 := Lib.hid hw0
 clear hw0
 go_wp2_with fail
 rw [← HP2.out]
 refine (unhide Z1).mono ?_
 rintro e w1 ⟨rfl, b3⟩
 have z0 := b3.size
 by_cases g0 : ((xs0.length + total (xss0.map List.length) : Nat) : Int) ≤ 1048576
 · rw [left_yes g0]
   have H0 := (h0 (by omega)).below hb0
   have RR0 := (y0 (by omega)).below hb0
   clear l0 h0 m0 y0 
   have f4 : w1.cell? ⟨w.heap.size, 0, none⟩ = some (.int .i64 p0) := (kA0.kp (Kp.below b3 (by omega))).cell 0
   have f5 : w1.cell? ⟨w.heap.size, 1, none⟩ = some (.int .i64 d0) := (kA0.kp (Kp.below b3 (by omega))).cell 1
   have f6 : w1.cell? ⟨w.heap.size, 2, none⟩ = some (.slice a0 xs0.length c0) := (kA0.kp (Kp.below b3 (by omega))).cell 2
   have f7 : w1.cell? ⟨w.heap.size, 3, none⟩ = some (.slice ra0 xss0.length rc0) := (kA0.kp (Kp.below b3 (by omega))).cell 3
   go_wp2_with fail
   refine (toCode_any p0 d0 a0 ra0 c0 rc0 xs0 xss0 w1 (H0.kp (Kp.below b3 (by omega))) (RR0.kp (Kp.below b3 (by omega)))).mono ?_
   rintro e w2 ⟨to8, so8, rfl, o8, b9⟩
   clear f4 f5 f6 f7
   have z1 := b9.size
   obtain ⟨A10, C10, RA10, RC10, rfl, rfl, _, _⟩ := o8.form
   have O10 := o8.toH (by omega)
   clear o8
   go_wp2_with fail
   refine (unhide HSP A10 C10 RA10 RC10 w2 O10.rd O10.rds).mono ?_
   rintro e w3 ⟨to11, rfl, o11, b12⟩
   have z2 := b12.size
   have o11 : OwnS w3 w2.heap.size to11 ry0 := o11
   obtain ⟨RA13, RC13, rfl, _⟩ := o11.form
   have O13 := o11.toH
   clear o11
   obtain ⟨w4, hP14⟩ : ∃ z, z = w3.alloc (.cells #[.int .i64 rp0, .slice RA13 ry0.length RC13] 47) := ⟨_, rfl⟩
   have b15 : Below w3.heap.size w3 w4 := by rw [hP14]; exact (Below.refl _ _).alloc (Nat.le_refl _) _
   have K16 : Blk w4 w3.heap.size 47 #[.int .i64 rp0, .slice RA13 ry0.length RC13] := by rw [hP14]; exact Blk.new _ _ _ rfl
   have zz3 : w3.heap.size + 1 ≤ w4.heap.size := K16.lt
   have z3 := b15.size
   have f17 : w4.cell? ⟨w.heap.size, 0, none⟩ = some (.int .i64 p0) := (kA0.kp ((((Kp.below b3 (by omega)).trans (Kp.below b9 (by omega))).trans (Kp.below b12 (by omega))).trans (Kp.below b15 (by omega)))).cell 0
   have f18 : w4.cell? ⟨w.heap.size, 1, none⟩ = some (.int .i64 d0) := (kA0.kp ((((Kp.below b3 (by omega)).trans (Kp.below b9 (by omega))).trans (Kp.below b12 (by omega))).trans (Kp.below b15 (by omega)))).cell 1
   have f19 : w4.cell? ⟨w.heap.size, 2, none⟩ = some (.slice a0 xs0.length c0) := (kA0.kp ((((Kp.below b3 (by omega)).trans (Kp.below b9 (by omega))).trans (Kp.below b12 (by omega))).trans (Kp.below b15 (by omega)))).cell 2
   have f20 : w4.cell? ⟨w.heap.size, 3, none⟩ = some (.slice ra0 xss0.length rc0) := (kA0.kp ((((Kp.below b3 (by omega)).trans (Kp.below b9 (by omega))).trans (Kp.below b12 (by omega))).trans (Kp.below b15 (by omega)))).cell 3
   rw [hP14] at f17 f18 f19 f20
   have HP21 := Lib.hid hP14
   clear hP14
   go_wp2_with fail
   rw [← HP21.out]
   refine (toCode_any p0 d0 a0 ra0 c0 rc0 xs0 xss0 w4 (H0.kp ((((Kp.below b3 (by omega)).trans (Kp.below b9 (by omega))).trans (Kp.below b12 (by omega))).trans (Kp.below b15 (by omega)))) (RR0.kp ((((Kp.below b3 (by omega)).trans (Kp.below b9 (by omega))).trans (Kp.below b12 (by omega))).trans (Kp.below b15 (by omega))))).mono ?_
   rintro e w5 ⟨to22, so22, rfl, o22, b23⟩
   clear f17 f18 f19 f20
   have z4 := b23.size
   obtain ⟨A24, C24, RA24, RC24, rfl, rfl, _, _⟩ := o22.form
   have O24 := o22.toH (by omega)
   clear o22
   obtain ⟨w6, hP25⟩ : ∃ z, z = w5.alloc (.cells #[.int .i64 p0, .int .i64 d0, .slice A24 xs0.length C24, .slice RA24 xss0.length RC24] 52) := ⟨_, rfl⟩
   have b26 : Below w5.heap.size w5 w6 := by rw [hP25]; exact (Below.refl _ _).alloc (Nat.le_refl _) _
   have K27 : Blk w6 w5.heap.size 52 #[.int .i64 p0, .int .i64 d0, .slice A24 xs0.length C24, .slice RA24 xss0.length RC24] := by rw [hP25]; exact Blk.new _ _ _ rfl
   have zz5 : w5.heap.size + 1 ≤ w6.heap.size := K27.lt
   have z5 := b26.size
   have HP28 := Lib.hid hP25
   clear hP25
   go_wp2_with fail
   rw [← HP28.out]
   refine (unhide HIM A24 C24 RA24 RC24 w6 (O24.kp (Kp.below b26 (by omega))).rd (O24.kp (Kp.below b26 (by omega))).rds).mono ?_
   rintro e w7 ⟨to29, rfl, o29, b30⟩
   have z6 := b30.size
   have o29 : OwnS w7 w6.heap.size to29 ry0 := o29
   obtain ⟨RA31, RC31, rfl, _⟩ := o29.form
   have O31 := o29.toH
   clear o29
   obtain ⟨w8, hP32⟩ : ∃ z, z = w7.alloc (.cells #[.int .i64 rp0, .slice RA31 ry0.length RC31] 47) := ⟨_, rfl⟩
   have b33 : Below w7.heap.size w7 w8 := by rw [hP32]; exact (Below.refl _ _).alloc (Nat.le_refl _) _
   have K34 : Blk w8 w7.heap.size 47 #[.int .i64 rp0, .slice RA31 ry0.length RC31] := by rw [hP32]; exact Blk.new _ _ _ rfl
   have zz7 : w7.heap.size + 1 ≤ w8.heap.size := K34.lt
   have z7 := b33.size
   have f35 : w8.cell? ⟨w3.heap.size, 0, none⟩ = some (.int .i64 rp0) := (K16.kp ((((Kp.below b23 (by omega)).trans (Kp.below b26 (by omega))).trans (Kp.below b30 (by omega))).trans (Kp.below b33 (by omega)))).cell 0
   have f36 : w8.cell? ⟨w3.heap.size, 1, none⟩ = some (.slice RA13 ry0.length RC13) := (K16.kp ((((Kp.below b23 (by omega)).trans (Kp.below b26 (by omega))).trans (Kp.below b30 (by omega))).trans (Kp.below b33 (by omega)))).cell 1
   rw [hP32] at f35 f36
   have HP37 := Lib.hid hP32
   clear hP32
   go_wp2_with fail
   rw [← HP37.out]
   refine (eqDesign_any rp0 rp0 RA31 RA13 RC31 RC13 ry0 ry0 w8 (O31.kp (Kp.below b33 (by omega))).rd (O13.kp (((((Kp.below b15 (by omega)).trans (Kp.below b23 (by omega))).trans (Kp.below b26 (by omega))).trans (Kp.below b30 (by omega))).trans (Kp.below b33 (by omega)))).rd).mono ?_
   rintro e w9 ⟨rfl, b38⟩
   rw [sameD_self]
   clear f35 f36
   have z8 := b38.size
   have Y39 := (O24.kp ((((Kp.below b26 (by omega)).trans (Kp.below b30 (by omega))).trans (Kp.below b33 (by omega))).trans (Kp.below b38 (by omega)))).rd
   have YY39 := (O24.kp ((((Kp.below b26 (by omega)).trans (Kp.below b30 (by omega))).trans (Kp.below b33 (by omega))).trans (Kp.below b38 (by omega)))).rds
   have X39h := (H0.kp (((((((((Kp.below b3 (by omega)).trans (Kp.below b9 (by omega))).trans (Kp.below b12 (by omega))).trans (Kp.below b15 (by omega))).trans (Kp.below b23 (by omega))).trans (Kp.below b26 (by omega))).trans (Kp.below b30 (by omega))).trans (Kp.below b33 (by omega))).trans (Kp.below b38 (by omega))))
   have X39r := (RR0.kp (((((((((Kp.below b3 (by omega)).trans (Kp.below b9 (by omega))).trans (Kp.below b12 (by omega))).trans (Kp.below b15 (by omega))).trans (Kp.below b23 (by omega))).trans (Kp.below b26 (by omega))).trans (Kp.below b30 (by omega))).trans (Kp.below b33 (by omega))).trans (Kp.below b38 (by omega))))
   have K40 := (K27.kp (((Kp.below b30 (by omega)).trans (Kp.below b33 (by omega))).trans (Kp.below b38 (by omega))))
   have K41 := (kA0.kp (((((((((Kp.below b3 (by omega)).trans (Kp.below b9 (by omega))).trans (Kp.below b12 (by omega))).trans (Kp.below b15 (by omega))).trans (Kp.below b23 (by omega))).trans (Kp.below b26 (by omega))).trans (Kp.below b30 (by omega))).trans (Kp.below b33 (by omega))).trans (Kp.below b38 (by omega))))
   have BX42' : ∀ (W : World), Below w9.heap.size w9 W → (Below w9.heap.size w9 W ∧ W.cell? ⟨w5.heap.size, 0, none⟩ = some (.int .i64 p0) ∧ W.cell? ⟨w5.heap.size, 1, none⟩ = some (.int .i64 d0) ∧ W.cell? ⟨w5.heap.size, 2, none⟩ = some (.slice A24 xs0.length C24) ∧ W.cell? ⟨w5.heap.size, 3, none⟩ = some (.slice RA24 xss0.length RC24) ∧ W.cell? ⟨w.heap.size, 0, none⟩ = some (.int .i64 p0) ∧ W.cell? ⟨w.heap.size, 1, none⟩ = some (.int .i64 d0) ∧ W.cell? ⟨w.heap.size, 2, none⟩ = some (.slice a0 xs0.length c0) ∧ W.cell? ⟨w.heap.size, 3, none⟩ = some (.slice ra0 xss0.length rc0)) := fun _ h => ⟨h, (K40.below h K40.lt).cell 0, (K40.below h K40.lt).cell 1, (K40.below h K40.lt).cell 2, (K40.below h K40.lt).cell 3, (K41.below h K41.lt).cell 0, (K41.below h K41.lt).cell 1, (K41.below h K41.lt).cell 2, (K41.below h K41.lt).cell 3⟩
   have BX42 := hide BX42'
   clear BX42'
   go_upto_region 10 with fail
   go_region_held3 (fun W => Below w9.heap.size w9 W ∧ W.cell? ⟨w5.heap.size, 0, none⟩ = some (.int .i64 p0) ∧ W.cell? ⟨w5.heap.size, 1, none⟩ = some (.int .i64 d0) ∧ W.cell? ⟨w5.heap.size, 2, none⟩ = some (.slice A24 xs0.length C24) ∧ W.cell? ⟨w5.heap.size, 3, none⟩ = some (.slice RA24 xss0.length RC24) ∧ W.cell? ⟨w.heap.size, 0, none⟩ = some (.int .i64 p0) ∧ W.cell? ⟨w.heap.size, 1, none⟩ = some (.int .i64 d0) ∧ W.cell? ⟨w.heap.size, 2, none⟩ = some (.slice a0 xs0.length c0) ∧ W.cell? ⟨w.heap.size, 3, none⟩ = some (.slice ra0 xss0.length rc0))
    (first | exact (unhide BX42) _ (Below.refl _ _) | exact (unhide BX42) _ ((Below.refl _ _).drew) | exact (unhide BX42) _ (by assumption))
    (first
     | (go_at_call_of 18 (Value.slice a0 xs0.length c0); refine (toCode_any p0 d0 a0 ra0 c0 rc0 xs0 xss0 _ ?_ ?_).mono ?_; exact X39h.below (And.left (by assumption)); exact X39r.below (And.left (by assumption)); rintro e W39 ⟨t39, s39, rfl, o39, bb39⟩; obtain ⟨A39, C39, RA39, RC39, rfl, rfl, rr39, rs39⟩ := o39.form; have hB39 := Below.chain (a := w9) (And.left (by assumption)) bb39)
     | (go_at_call 21; refine (eqCode_any p0 d0 p0 d0 A24 A39 RA24 RA39 C24 C39 RC24 RC39 xs0 xs0 xss0 xss0 _ (Y39.below hB39) rr39 (YY39.below hB39) rs39).mono ?_; rintro e w10 ⟨rfl, bc39⟩; have b39e := Below.chain hB39 bc39; rw [sameC_self]))
   clear BX42
   have z9 := b39e.size
   have bdO24 : xs0.length ≤ 1073741824 := O24.len
   have beO24 : (xss0.map List.length).sum ≤ 1152921504606846976 := O24.sum
   have bdO31 : (ry0.map List.length).sum ≤ 1152921504606846976 := O31.sum
   have f43 : w10.cell? ⟨w5.heap.size, 0, none⟩ = some (.int .i64 p0) := (K27.kp ((((Kp.below b30 (by omega)).trans (Kp.below b33 (by omega))).trans (Kp.below b38 (by omega))).trans (Kp.below b39e (by omega)))).cell 0
   have f44 : w10.cell? ⟨w5.heap.size, 1, none⟩ = some (.int .i64 d0) := (K27.kp ((((Kp.below b30 (by omega)).trans (Kp.below b33 (by omega))).trans (Kp.below b38 (by omega))).trans (Kp.below b39e (by omega)))).cell 1
   have f45 : w10.cell? ⟨w5.heap.size, 2, none⟩ = some (.slice A24 xs0.length C24) := (K27.kp ((((Kp.below b30 (by omega)).trans (Kp.below b33 (by omega))).trans (Kp.below b38 (by omega))).trans (Kp.below b39e (by omega)))).cell 2
   have f46 : w10.cell? ⟨w5.heap.size, 3, none⟩ = some (.slice RA24 xss0.length RC24) := (K27.kp ((((Kp.below b30 (by omega)).trans (Kp.below b33 (by omega))).trans (Kp.below b38 (by omega))).trans (Kp.below b39e (by omega)))).cell 3
   go_wp2_with fail
   refine (markCode_any w4.heap.size w5.heap.size p0 d0 A24 RA24 xs0.length xss0.length C24 RC24 (1) xs0 xss0 w10 rfl rfl (O24.kp (((((Kp.below b26 (by omega)).trans (Kp.below b30 (by omega))).trans (Kp.below b33 (by omega))).trans (Kp.below b38 (by omega))).trans (Kp.below b39e (by omega)))) (by omega) (by omega) (by omega) (by omega)).mono ?_
   rintro e w11 ⟨rfl, o48, m47⟩
   clear f43 f44 f45 f46
   have z10 := m47.size
   have kn1 : decide (1 + (xs0.length : Int) + (((xss0.map List.length).sum : Nat) : Int) < 0) = false := by rw [decide_eq_false_iff_not]; omega
   have kn2 : 0 ≤ 1 + (xs0.length : Int) + (((xss0.map List.length).sum : Nat) : Int) := by omega
   have f49 : w11.cell? ⟨w7.heap.size, 0, none⟩ = some (.int .i64 rp0) := (K34.kp (((Kp.below b38 (by omega)).trans (Kp.below b39e (by omega))).trans (Mk.kp m47 (by omega) (by omega)))).cell 0
   have f50 : w11.cell? ⟨w7.heap.size, 1, none⟩ = some (.slice RA31 ry0.length RC31) := (K34.kp (((Kp.below b38 (by omega)).trans (Kp.below b39e (by omega))).trans (Mk.kp m47 (by omega) (by omega)))).cell 1
   have f51 : w11.cell? ⟨w3.heap.size, 0, none⟩ = some (.int .i64 rp0) := (K16.kp (((((((Kp.below b23 (by omega)).trans (Kp.below b26 (by omega))).trans (Kp.below b30 (by omega))).trans (Kp.below b33 (by omega))).trans (Kp.below b38 (by omega))).trans (Kp.below b39e (by omega))).trans (Mk.kp m47 (by omega) (by omega)))).cell 0
   have f52 : w11.cell? ⟨w3.heap.size, 1, none⟩ = some (.slice RA13 ry0.length RC13) := (K16.kp (((((((Kp.below b23 (by omega)).trans (Kp.below b26 (by omega))).trans (Kp.below b30 (by omega))).trans (Kp.below b33 (by omega))).trans (Kp.below b38 (by omega))).trans (Kp.below b39e (by omega))).trans (Mk.kp m47 (by omega) (by omega)))).cell 1
   go_wp2_with fail
   refine (eqDesign_any rp0 rp0 RA31 RA13 RC31 RC13 ry0 ry0 w11 (O31.kp ((((Kp.below b33 (by omega)).trans (Kp.below b38 (by omega))).trans (Kp.below b39e (by omega))).trans (Mk.kp m47 (by omega) (by omega)))).rd (O13.kp ((((((((Kp.below b15 (by omega)).trans (Kp.below b23 (by omega))).trans (Kp.below b26 (by omega))).trans (Kp.below b30 (by omega))).trans (Kp.below b33 (by omega))).trans (Kp.below b38 (by omega))).trans (Kp.below b39e (by omega))).trans (Mk.kp m47 (by omega) (by omega)))).rd).mono ?_
   rintro e w12 ⟨rfl, b53⟩
   rw [sameD_self]
   clear f49 f50 f51 f52
   have z11 := b53.size
   have f54 : w12.cell? ⟨w7.heap.size, 0, none⟩ = some (.int .i64 rp0) := (K34.kp ((((Kp.below b38 (by omega)).trans (Kp.below b39e (by omega))).trans (Mk.kp m47 (by omega) (by omega))).trans (Kp.below b53 (by omega)))).cell 0
   have f55 : w12.cell? ⟨w7.heap.size, 1, none⟩ = some (.slice RA31 ry0.length RC31) := (K34.kp ((((Kp.below b38 (by omega)).trans (Kp.below b39e (by omega))).trans (Mk.kp m47 (by omega) (by omega))).trans (Kp.below b53 (by omega)))).cell 1
   go_wp2_with fail
   refine (markDesign_any w6.heap.size w7.heap.size rp0 RA31 ry0.length RC31 (1) ry0 w12 rfl (O31.kp (((((Kp.below b33 (by omega)).trans (Kp.below b38 (by omega))).trans (Kp.below b39e (by omega))).trans (Mk.kp m47 (by omega) (by omega))).trans (Kp.below b53 (by omega)))) (by omega) (by omega) (by omega) (by omega)).mono ?_
   rintro e w13 ⟨rfl, o57, m56⟩
   clear f54 f55
   have z12 := m56.size
   have kn3 : decide (1 + (((ry0.map List.length).sum : Nat) : Int) < 0) = false := by rw [decide_eq_false_iff_not]; omega
   have kn4 : 0 ≤ 1 + (((ry0.map List.length).sum : Nat) : Int) := by omega
   have kn5 : (1 + (((ry0.map List.length).sum : Nat) : Int) != 1 + (((ry0.map List.length).sum : Nat) : Int)) = false := by simp
   have f58 : w13.cell? ⟨w7.heap.size, 0, none⟩ = some (.int .i64 rp0) := (K34.kp (((((Kp.below b38 (by omega)).trans (Kp.below b39e (by omega))).trans (Mk.kp m47 (by omega) (by omega))).trans (Kp.below b53 (by omega))).trans (Mk.kp m56 (by omega) (by omega)))).cell 0
   have f59 : w13.cell? ⟨w7.heap.size, 1, none⟩ = some (.slice RA31 ry0.length RC31) := (K34.kp (((((Kp.below b38 (by omega)).trans (Kp.below b39e (by omega))).trans (Mk.kp m47 (by omega) (by omega))).trans (Kp.below b53 (by omega))).trans (Mk.kp m56 (by omega) (by omega)))).cell 1
   go_wp2_with fail
   refine (heldDesign_any rp0 RA31 ry0.length RC31 1 (ry0.map List.length) w13 (by simp) o57.rd (by omega) (by omega)).mono ?_
   rintro e w14 ⟨rfl, b60⟩
   clear f58 f59
   have z13 := b60.size
   have f61 : w14.cell? ⟨w.heap.size, 0, none⟩ = some (.int .i64 p0) := (kA0.kp ((((((((((((((Kp.below b3 (by omega)).trans (Kp.below b9 (by omega))).trans (Kp.below b12 (by omega))).trans (Kp.below b15 (by omega))).trans (Kp.below b23 (by omega))).trans (Kp.below b26 (by omega))).trans (Kp.below b30 (by omega))).trans (Kp.below b33 (by omega))).trans (Kp.below b38 (by omega))).trans (Kp.below b39e (by omega))).trans (Mk.kp m47 (by omega) (by omega))).trans (Kp.below b53 (by omega))).trans (Mk.kp m56 (by omega) (by omega))).trans (Kp.below b60 (by omega)))).cell 0
   have f62 : w14.cell? ⟨w.heap.size, 1, none⟩ = some (.int .i64 d0) := (kA0.kp ((((((((((((((Kp.below b3 (by omega)).trans (Kp.below b9 (by omega))).trans (Kp.below b12 (by omega))).trans (Kp.below b15 (by omega))).trans (Kp.below b23 (by omega))).trans (Kp.below b26 (by omega))).trans (Kp.below b30 (by omega))).trans (Kp.below b33 (by omega))).trans (Kp.below b38 (by omega))).trans (Kp.below b39e (by omega))).trans (Mk.kp m47 (by omega) (by omega))).trans (Kp.below b53 (by omega))).trans (Mk.kp m56 (by omega) (by omega))).trans (Kp.below b60 (by omega)))).cell 1
   have f63 : w14.cell? ⟨w.heap.size, 2, none⟩ = some (.slice a0 xs0.length c0) := (kA0.kp ((((((((((((((Kp.below b3 (by omega)).trans (Kp.below b9 (by omega))).trans (Kp.below b12 (by omega))).trans (Kp.below b15 (by omega))).trans (Kp.below b23 (by omega))).trans (Kp.below b26 (by omega))).trans (Kp.below b30 (by omega))).trans (Kp.below b33 (by omega))).trans (Kp.below b38 (by omega))).trans (Kp.below b39e (by omega))).trans (Mk.kp m47 (by omega) (by omega))).trans (Kp.below b53 (by omega))).trans (Mk.kp m56 (by omega) (by omega))).trans (Kp.below b60 (by omega)))).cell 2
   have f64 : w14.cell? ⟨w.heap.size, 3, none⟩ = some (.slice ra0 xss0.length rc0) := (kA0.kp ((((((((((((((Kp.below b3 (by omega)).trans (Kp.below b9 (by omega))).trans (Kp.below b12 (by omega))).trans (Kp.below b15 (by omega))).trans (Kp.below b23 (by omega))).trans (Kp.below b26 (by omega))).trans (Kp.below b30 (by omega))).trans (Kp.below b33 (by omega))).trans (Kp.below b38 (by omega))).trans (Kp.below b39e (by omega))).trans (Mk.kp m47 (by omega) (by omega))).trans (Kp.below b53 (by omega))).trans (Mk.kp m56 (by omega) (by omega))).trans (Kp.below b60 (by omega)))).cell 3
   go_wp2_with fail
   refine (toCode_any p0 d0 a0 ra0 c0 rc0 xs0 xss0 w14 (H0.kp ((((((((((((((Kp.below b3 (by omega)).trans (Kp.below b9 (by omega))).trans (Kp.below b12 (by omega))).trans (Kp.below b15 (by omega))).trans (Kp.below b23 (by omega))).trans (Kp.below b26 (by omega))).trans (Kp.below b30 (by omega))).trans (Kp.below b33 (by omega))).trans (Kp.below b38 (by omega))).trans (Kp.below b39e (by omega))).trans (Mk.kp m47 (by omega) (by omega))).trans (Kp.below b53 (by omega))).trans (Mk.kp m56 (by omega) (by omega))).trans (Kp.below b60 (by omega)))) (RR0.kp ((((((((((((((Kp.below b3 (by omega)).trans (Kp.below b9 (by omega))).trans (Kp.below b12 (by omega))).trans (Kp.below b15 (by omega))).trans (Kp.below b23 (by omega))).trans (Kp.below b26 (by omega))).trans (Kp.below b30 (by omega))).trans (Kp.below b33 (by omega))).trans (Kp.below b38 (by omega))).trans (Kp.below b39e (by omega))).trans (Mk.kp m47 (by omega) (by omega))).trans (Kp.below b53 (by omega))).trans (Mk.kp m56 (by omega) (by omega))).trans (Kp.below b60 (by omega))))).mono ?_
   rintro e w15 ⟨to65, so65, rfl, o65, b66⟩
   clear f61 f62 f63 f64
   have z14 := b66.size
   obtain ⟨A67, C67, RA67, RC67, rfl, rfl, _, _⟩ := o65.form
   have O67 := o65.toH (by omega)
   clear o65
   go_wp2_with fail
   refine (unhide HIM A67 C67 RA67 RC67 w15 O67.rd O67.rds).mono ?_
   rintro e w16 ⟨to68, rfl, o68, b69⟩
   have z15 := b69.size
   have o68 : OwnS w16 w15.heap.size to68 ry0 := o68
   obtain ⟨RA70, RC70, rfl, _⟩ := o68.form
   have O70 := o68.toH
   clear o68
   obtain ⟨w17, hP71⟩ : ∃ z, z = w16.alloc (.cells #[.int .i64 rp0, .slice RA70 ry0.length RC70] 47) := ⟨_, rfl⟩
   have b72 : Below w16.heap.size w16 w17 := by rw [hP71]; exact (Below.refl _ _).alloc (Nat.le_refl _) _
   have K73 : Blk w17 w16.heap.size 47 #[.int .i64 rp0, .slice RA70 ry0.length RC70] := by rw [hP71]; exact Blk.new _ _ _ rfl
   have zz16 : w16.heap.size + 1 ≤ w17.heap.size := K73.lt
   have z16 := b72.size
   have f74 : w17.cell? ⟨w3.heap.size, 0, none⟩ = some (.int .i64 rp0) := (K16.kp (((((((((((((Kp.below b23 (by omega)).trans (Kp.below b26 (by omega))).trans (Kp.below b30 (by omega))).trans (Kp.below b33 (by omega))).trans (Kp.below b38 (by omega))).trans (Kp.below b39e (by omega))).trans (Mk.kp m47 (by omega) (by omega))).trans (Kp.below b53 (by omega))).trans (Mk.kp m56 (by omega) (by omega))).trans (Kp.below b60 (by omega))).trans (Kp.below b66 (by omega))).trans (Kp.below b69 (by omega))).trans (Kp.below b72 (by omega)))).cell 0
   have f75 : w17.cell? ⟨w3.heap.size, 1, none⟩ = some (.slice RA13 ry0.length RC13) := (K16.kp (((((((((((((Kp.below b23 (by omega)).trans (Kp.below b26 (by omega))).trans (Kp.below b30 (by omega))).trans (Kp.below b33 (by omega))).trans (Kp.below b38 (by omega))).trans (Kp.below b39e (by omega))).trans (Mk.kp m47 (by omega) (by omega))).trans (Kp.below b53 (by omega))).trans (Mk.kp m56 (by omega) (by omega))).trans (Kp.below b60 (by omega))).trans (Kp.below b66 (by omega))).trans (Kp.below b69 (by omega))).trans (Kp.below b72 (by omega)))).cell 1
   rw [hP71] at f74 f75
   have HP76 := Lib.hid hP71
   clear hP71
   go_wp2_with fail
   rw [← HP76.out]
   refine (eqDesign_any rp0 rp0 RA70 RA13 RC70 RC13 ry0 ry0 w17 (O70.kp (Kp.below b72 (by omega))).rd (O13.kp ((((((((((((((Kp.below b15 (by omega)).trans (Kp.below b23 (by omega))).trans (Kp.below b26 (by omega))).trans (Kp.below b30 (by omega))).trans (Kp.below b33 (by omega))).trans (Kp.below b38 (by omega))).trans (Kp.below b39e (by omega))).trans (Mk.kp m47 (by omega) (by omega))).trans (Kp.below b53 (by omega))).trans (Mk.kp m56 (by omega) (by omega))).trans (Kp.below b60 (by omega))).trans (Kp.below b66 (by omega))).trans (Kp.below b69 (by omega))).trans (Kp.below b72 (by omega)))).rd).mono ?_
   rintro e w18 ⟨rfl, b77⟩
   rw [sameD_self]
   clear f74 f75
   have z17 := b77.size
   have f78 : w18.cell? ⟨w7.heap.size, 0, none⟩ = some (.int .i64 rp0) := (K34.kp ((((((((((Kp.below b38 (by omega)).trans (Kp.below b39e (by omega))).trans (Mk.kp m47 (by omega) (by omega))).trans (Kp.below b53 (by omega))).trans (Mk.kp m56 (by omega) (by omega))).trans (Kp.below b60 (by omega))).trans (Kp.below b66 (by omega))).trans (Kp.below b69 (by omega))).trans (Kp.below b72 (by omega))).trans (Kp.below b77 (by omega)))).cell 0
   have f79 : w18.cell? ⟨w7.heap.size, 1, none⟩ = some (.slice RA31 ry0.length RC31) := (K34.kp ((((((((((Kp.below b38 (by omega)).trans (Kp.below b39e (by omega))).trans (Mk.kp m47 (by omega) (by omega))).trans (Kp.below b53 (by omega))).trans (Mk.kp m56 (by omega) (by omega))).trans (Kp.below b60 (by omega))).trans (Kp.below b66 (by omega))).trans (Kp.below b69 (by omega))).trans (Kp.below b72 (by omega))).trans (Kp.below b77 (by omega)))).cell 1
   go_wp2_with fail
   refine (heldDesign_any rp0 RA31 ry0.length RC31 1 (ry0.map List.length) w18 (by simp) (o57.kp (((((Kp.below b60 (by omega)).trans (Kp.below b66 (by omega))).trans (Kp.below b69 (by omega))).trans (Kp.below b72 (by omega))).trans (Kp.below b77 (by omega)))).rd (by omega) (by omega)).mono ?_
   rintro e w19 ⟨rfl, b80⟩
   clear f78 f79
   have z18 := b80.size
   go_wp2
   go_ret
   exact ⟨rfl, (((((((((((((((((((hb0.trans (b3.mono (by omega))).trans (b9.mono (by omega))).trans (b12.mono (by omega))).trans (b15.mono (by omega))).trans (b23.mono (by omega))).trans (b26.mono (by omega))).trans (b30.mono (by omega))).trans (b33.mono (by omega))).trans (b38.mono (by omega))).trans (b39e.mono (by omega))).trans (m47.1.mono (by omega))).trans (b53.mono (by omega))).trans (m56.1.mono (by omega))).trans (b60.mono (by omega))).trans (b66.mono (by omega))).trans (b69.mono (by omega))).trans (b72.mono (by omega))).trans (b77.mono (by omega))).trans (b80.mono (by omega)))⟩
 · rw [left_no g0]
   go_wp2
   go_ret
   exact ⟨rfl, (hb0.trans (b3.mono (by omega)))⟩
theorem law_FnExactDesignOfWords (X0 : COD) (n1 : Int) (w : World) (e0 : X0.ok w) (_ : I64 n1) :
    Calls Tryz.prog 4 #[X0.val, .int .i64 n1] w fun e w' => e = .returned (.bool true) ∧ Below w.heap.size w w' :=
 lawDesignOfWords X0.p X0.d X0.l.a X0.l.c X0.l.xs X0.r.a X0.r.c X0.r.xss n1 w e0.2.2.1.1 e0.2.2.1.2.1 e0.2.2.2.1 e0.2.2.2.2.1 e0.2.1
namespace fnExactDesignOfWords
open Go.ChangeShapes Go.WideShapes Go.ChangeAt
theorem lifted (os : Os) (started : os.Started) (H : Type) (enc : TypeId × Value → H) :
    ReturnsInHanded {} Tryz.checked os 4 .any (Rows.fnExactDesignOfWordsSpec.pre6 enc Tryz.prog Tryz.f4 Rows.fnExactDesignOfWordsRow.domain false) (Rows.fnExactDesignOfWordsSpec.post enc Tryz.prog Tryz.f4 false true false false) := by
 refine returnsInHanded_of_change (C := Tryz.checked) ownKnob_none started (by kernel_rfl) Tryz.func4
  (ChangeSpec.witness6 (enc := enc) (C := Tryz.checked) false ⟨#[], #[.agg #[.int .i64 0, .int .i64 0, .slice none 0 0, .slice none 0 0], .int .i64 0], []⟩ 8 (by kernel_rfl) (by kernel_rfl) (by kernel_rfl) (by kernel_rfl)) ?_
 intro W base args ds gs before hval0 hW _ _
 have hval : ∀ (j : Nat) t v, Tryz.f4.params[j]? = some t → args[j]? = some v → Value.okWide Tryz.prog W .any base t v := hval0
 have hW' := hW
 obtain ⟨p, q, hA0, hV, rfl, hfz, hnd⟩ := hW
 have hA : DataW.TrodAll enc Tryz.prog W 0 (fun _ => true) true Tryz.f4.params.toList args.toList ds p := hA0
 rw [Tryz.params4] at hA hval
 obtain ⟨v0, vs0, d0, ds0, p0, q0, hargs, rfl, rfl, h0, r0⟩ := trodAll_cons hA
 obtain ⟨v1, vs1, d1, ds1, p1, q1, rfl, rfl, rfl, h1, r1⟩ := trodAll_cons r0
 obtain ⟨rfl, rfl, rfl⟩ := trodAll_nil r1
 obtain rfl : args = #[v0, v1] := by cases args; simp_all
 obtain ⟨rfl, rfl⟩ := trodVars_none hV
 have k0 := h0
 have lt0 : ∀ x ∈ p0, x.block < W.heap.size := by obtain ⟨m, hm⟩ := k0; exact DataW.trod_lt m _ _ _ hm
 obtain ⟨X0, rfl, e0⟩ := open_cod (hval 0 44 v0 rfl rfl) h0
 have k1 := h1
 have lt1 : ∀ x ∈ p1, x.block < W.heap.size := by obtain ⟨m, hm⟩ := k1; exact DataW.trod_lt m _ _ _ hm
 obtain ⟨a1, rfl, e1⟩ := open_i64 (hval 1 2 v1 rfl rfl) h1
 clear hA0 hval0
 refine (law_FnExactDesignOfWords X0  a1 W e0 e1).mono fun e W' ⟨he, bel⟩ => ?_
 subst he
 exact ⟨_, rfl, _, _, _, [], _, [], hW', trodAll_mk1 (shut_bool Tryz.underlying4 _), (trodAll_cons_mk (Below.trod laidOut_ok (by kernel_rfl) (of_decide_eq_true (by kernel_rfl)) k0 bel lt0) (trodAll_cons_mk (Below.trod laidOut_ok (by kernel_rfl) (of_decide_eq_true (by kernel_rfl)) k1 bel lt1) trodAll_mk0)), rfl, bel.frame _, fun h => by cases h⟩
theorem over : Rows.fnExactDesignOfWordsRow.holds Tryz.pinned (OpenSpec.ofChange Rows.fnExactDesignOfWordsSpec) :=
 OpenClaim.holds_of_wide 4 Tryz.f4 rfl rfl rfl rfl rfl rfl rfl ⟨rfl, rfl, rfl, rfl, rfl⟩ rfl rfl rfl rfl rfl (by kernel_rfl) Tryz.func4 (by kernel_rfl)
  (of_decide_eq_true (by kernel_rfl)) (by unfold Func.isWrapper; first | (rw [if_pos (by decide +kernel)]; kernel_rfl) | (rw [if_neg (by decide +kernel)]; exact ⟨rfl, rfl⟩))
  (fun os started H enc _ => lifted os started H enc)
theorem proved : Rows.FnExactDesignOfWordsSaid := over
end fnExactDesignOfWords
end Go.Proofs.YtgfcbmflnldicaaGreat
