/-
  Proved: FnExactBalancedWeights returns true for every input and leaves its arguments as they were. No condition. Printed by gen_law3.py.
-/
import Derived.Test.YtgfcbmflnldicaaGreatBW3
import Derived.Test.YtgfcbmflnldicaaGreatBW33
import Derived.Test.YtgfcbmflnldicaaGreatBW34
set_option linter.unusedVariables false
set_option linter.unusedSimpArgs false
set_option maxRecDepth 100000
set_option maxHeartbeats 40000000
namespace Go.Proofs.YtgfcbmflnldicaaGreat
open Go.RowKit
attribute [local go_sem ↓] Go.wp_at_zero Go.wp_at_succ
theorem dec_self {α : Type} [DecidableEq α] (xs : α) : decide (xs = xs) = true := by simp
theorem lawBalancedWeights (p0 : Int) (d0 : Int) (a0 : Option Addr) (c0 : Nat) (xs0 : List Int) (ra0 : Option Addr) (rc0 : Nat) (xss0 : List (List Int)) (w : World) (l0 : xs0.length ≤ maxLen) (h0 : xs0.length ≤ 1048576 → Rd w a0 xs0) (m0 : Lens w ra0 (xss0.map List.length)) (y0 : total (xss0.map List.length) ≤ 1048576 → RdS w ra0 xss0) (ed0 : I64 d0) :
    Calls Tryz.prog 5 #[.agg #[.int .i64 p0, .int .i64 d0, .slice a0 xs0.length c0, .slice ra0 xss0.length rc0]] w fun e w' => e = .returned (.bool true) ∧ Below w.heap.size w w' := by
 obtain ⟨r0, r1, hR⟩ : ∃ r0 r1, (bwRes p0 d0 xs0 xss0) = (r0, r1) := ⟨_, _, rfl⟩
 have hsp := fun a0' c0' ra0' rc0' W h0' r0' => specBW_any p0 d0 a0' c0' xs0 ra0' rc0' xss0 W h0' r0'  
 rw [hR] at hsp
 have HSP := hide hsp
 clear hsp
 have him := fun a0' c0' ra0' rc0' W h0' r0' => implBW_any p0 d0 a0' c0' xs0 ra0' rc0' xss0 W h0' r0'  ed0
 rw [hR] at him
 have HIM := hide him
 clear him
 clear hR
 obtain ⟨w0, hw0⟩ : ∃ z, z = (w.alloc (.cells #[.int .i64 p0, .int .i64 d0, .slice a0 xs0.length c0, .slice ra0 xss0.length rc0] 44)) := ⟨_, rfl⟩
 have hb0 : Below w.heap.size w w0 := by rw [hw0]; exact ((Below.refl _ _).alloc (Nat.le_refl _) _)
 have kA0 : Blk w0 w.heap.size 44 #[.int .i64 p0, .int .i64 d0, .slice a0 xs0.length c0, .slice ra0 xss0.length rc0] := by rw [hw0]; exact (Blk.new _ _ _ rfl)
 have zb : w.heap.size + 1 ≤ w0.heap.size := by rw [hw0]; simp
 go_enter Tryz.func5, Tryz.ntmps5
 have e0 : (xss0.map List.length).length = xss0.length := by simp
 have zz := szCode_any p0 d0 a0 xs0.length c0 ra0 rc0 (xss0.map List.length) (1048576) w0 l0 (by omega) (by omega) (m0.below hb0)
 rw [e0] at zz
 have Z1 := hide zz
 clear zz e0
 have HP2 := Lib.hid hw0
 clear hw0
 go_wp2_with fail
 rw [← HP2.out]
 refine (unhide Z1).mono ?_
 rintro e w1 ⟨rfl, b3⟩
 have z0 := b3.size
 by_cases g0 : ((xs0.length + total (xss0.map List.length) : Nat) : Int) ≤ 1048576
 · rw [left_yes g0]
   have H0 := (h0 (by omega)).below hb0
   have RR0 := (y0 (by omega)).below hb0
   clear l0 h0 m0 y0
   have f4 : w1.cell? ⟨w.heap.size, 0, none⟩ = some (.int .i64 p0) := (kA0.kp (Kp.below b3 (by omega))).cell 0
   have f5 : w1.cell? ⟨w.heap.size, 1, none⟩ = some (.int .i64 d0) := (kA0.kp (Kp.below b3 (by omega))).cell 1
   have f6 : w1.cell? ⟨w.heap.size, 2, none⟩ = some (.slice a0 xs0.length c0) := (kA0.kp (Kp.below b3 (by omega))).cell 2
   have f7 : w1.cell? ⟨w.heap.size, 3, none⟩ = some (.slice ra0 xss0.length rc0) := (kA0.kp (Kp.below b3 (by omega))).cell 3
   go_wp2_with fail
   refine (toCode_any p0 d0 a0 ra0 c0 rc0 xs0 xss0 w1 (H0.kp (Kp.below b3 (by omega))) (RR0.kp (Kp.below b3 (by omega)))).mono ?_
   rintro e w2 ⟨to8, so8, rfl, o8, b9⟩
   clear f4 f5 f6 f7
   have z1 := b9.size
   obtain ⟨A10, C10, RA10, RC10, rfl, rfl, _, _⟩ := o8.form
   have O10 := o8.toH (by omega)
   clear o8
   go_wp2_with fail
   refine (unhide HSP A10 C10 RA10 RC10 w2 O10.rd O10.rds).mono ?_
   rintro e w3 ⟨to11, rfl, o11, b12⟩
   have z2 := b12.size
   have o11 : Own w3 w2.heap.size to11 r0 := o11
   obtain ⟨A13, C13, rfl, _, _⟩ := o11.form
   have O13 := o11.toH
   clear o11
   have f14 : w3.cell? ⟨w.heap.size, 0, none⟩ = some (.int .i64 p0) := (kA0.kp (((Kp.below b3 (by omega)).trans (Kp.below b9 (by omega))).trans (Kp.below b12 (by omega)))).cell 0
   have f15 : w3.cell? ⟨w.heap.size, 1, none⟩ = some (.int .i64 d0) := (kA0.kp (((Kp.below b3 (by omega)).trans (Kp.below b9 (by omega))).trans (Kp.below b12 (by omega)))).cell 1
   have f16 : w3.cell? ⟨w.heap.size, 2, none⟩ = some (.slice a0 xs0.length c0) := (kA0.kp (((Kp.below b3 (by omega)).trans (Kp.below b9 (by omega))).trans (Kp.below b12 (by omega)))).cell 2
   have f17 : w3.cell? ⟨w.heap.size, 3, none⟩ = some (.slice ra0 xss0.length rc0) := (kA0.kp (((Kp.below b3 (by omega)).trans (Kp.below b9 (by omega))).trans (Kp.below b12 (by omega)))).cell 3
   go_wp2_with fail
   refine (toCode_any p0 d0 a0 ra0 c0 rc0 xs0 xss0 w3 (H0.kp (((Kp.below b3 (by omega)).trans (Kp.below b9 (by omega))).trans (Kp.below b12 (by omega)))) (RR0.kp (((Kp.below b3 (by omega)).trans (Kp.below b9 (by omega))).trans (Kp.below b12 (by omega))))).mono ?_
   rintro e w4 ⟨to18, so18, rfl, o18, b19⟩
   clear f14 f15 f16 f17
   have z3 := b19.size
   obtain ⟨A20, C20, RA20, RC20, rfl, rfl, _, _⟩ := o18.form
   have O20 := o18.toH (by omega)
   clear o18
   obtain ⟨w5, hP21⟩ : ∃ z, z = w4.alloc (.cells #[.int .i64 p0, .int .i64 d0, .slice A20 xs0.length C20, .slice RA20 xss0.length RC20] 52) := ⟨_, rfl⟩
   have b22 : Below w4.heap.size w4 w5 := by rw [hP21]; exact (Below.refl _ _).alloc (Nat.le_refl _) _
   have K23 : Blk w5 w4.heap.size 52 #[.int .i64 p0, .int .i64 d0, .slice A20 xs0.length C20, .slice RA20 xss0.length RC20] := by rw [hP21]; exact Blk.new _ _ _ rfl
   have zz4 : w4.heap.size + 1 ≤ w5.heap.size := K23.lt
   have z4 := b22.size
   have HP24 := Lib.hid hP21
   clear hP21
   go_wp2_with fail
   rw [← HP24.out]
   refine (unhide HIM A20 C20 RA20 RC20 w5 (O20.kp (Kp.below b22 (by omega))).rd (O20.kp (Kp.below b22 (by omega))).rds).mono ?_
   rintro e w6 ⟨to25, rfl, o25, b26⟩
   have z5 := b26.size
   have o25 : Own w6 w5.heap.size to25 r0 := o25
   obtain ⟨A27, C27, rfl, _, _⟩ := o25.form
   have O27 := o25.toH
   clear o25
   go_wp2_with fail
   refine (eqInt64S_any A27 A13 C27 C13 r0 r0 w6 O27.rd (O13.kp (((Kp.below b19 (by omega)).trans (Kp.below b22 (by omega))).trans (Kp.below b26 (by omega)))).rd).mono ?_
   rintro e w7 ⟨rfl, b28'⟩
   have b28 := b28'.below w6.heap.size
   clear b28'
   rw [dec_self]
   have z6 := b28.size
   have Y29 := (O20.kp (((Kp.below b22 (by omega)).trans (Kp.below b26 (by omega))).trans (Kp.below b28 (by omega)))).rd
   have YY29 := (O20.kp (((Kp.below b22 (by omega)).trans (Kp.below b26 (by omega))).trans (Kp.below b28 (by omega)))).rds
   have X29h := (H0.kp (((((((Kp.below b3 (by omega)).trans (Kp.below b9 (by omega))).trans (Kp.below b12 (by omega))).trans (Kp.below b19 (by omega))).trans (Kp.below b22 (by omega))).trans (Kp.below b26 (by omega))).trans (Kp.below b28 (by omega))))
   have X29r := (RR0.kp (((((((Kp.below b3 (by omega)).trans (Kp.below b9 (by omega))).trans (Kp.below b12 (by omega))).trans (Kp.below b19 (by omega))).trans (Kp.below b22 (by omega))).trans (Kp.below b26 (by omega))).trans (Kp.below b28 (by omega))))
   have K30 := (K23.kp ((Kp.below b26 (by omega)).trans (Kp.below b28 (by omega))))
   have K31 := (kA0.kp (((((((Kp.below b3 (by omega)).trans (Kp.below b9 (by omega))).trans (Kp.below b12 (by omega))).trans (Kp.below b19 (by omega))).trans (Kp.below b22 (by omega))).trans (Kp.below b26 (by omega))).trans (Kp.below b28 (by omega))))
   have BX32' : ∀ (W : World), Below w7.heap.size w7 W → (Below w7.heap.size w7 W ∧ W.cell? ⟨w4.heap.size, 0, none⟩ = some (.int .i64 p0) ∧ W.cell? ⟨w4.heap.size, 1, none⟩ = some (.int .i64 d0) ∧ W.cell? ⟨w4.heap.size, 2, none⟩ = some (.slice A20 xs0.length C20) ∧ W.cell? ⟨w4.heap.size, 3, none⟩ = some (.slice RA20 xss0.length RC20) ∧ W.cell? ⟨w.heap.size, 0, none⟩ = some (.int .i64 p0) ∧ W.cell? ⟨w.heap.size, 1, none⟩ = some (.int .i64 d0) ∧ W.cell? ⟨w.heap.size, 2, none⟩ = some (.slice a0 xs0.length c0) ∧ W.cell? ⟨w.heap.size, 3, none⟩ = some (.slice ra0 xss0.length rc0)) := fun _ h => ⟨h, (K30.below h K30.lt).cell 0, (K30.below h K30.lt).cell 1, (K30.below h K30.lt).cell 2, (K30.below h K30.lt).cell 3, (K31.below h K31.lt).cell 0, (K31.below h K31.lt).cell 1, (K31.below h K31.lt).cell 2, (K31.below h K31.lt).cell 3⟩
   have BX32 := hide BX32'
   clear BX32'
   go_upto_region 10 with fail
   go_region_held3 (fun W => Below w7.heap.size w7 W ∧ W.cell? ⟨w4.heap.size, 0, none⟩ = some (.int .i64 p0) ∧ W.cell? ⟨w4.heap.size, 1, none⟩ = some (.int .i64 d0) ∧ W.cell? ⟨w4.heap.size, 2, none⟩ = some (.slice A20 xs0.length C20) ∧ W.cell? ⟨w4.heap.size, 3, none⟩ = some (.slice RA20 xss0.length RC20) ∧ W.cell? ⟨w.heap.size, 0, none⟩ = some (.int .i64 p0) ∧ W.cell? ⟨w.heap.size, 1, none⟩ = some (.int .i64 d0) ∧ W.cell? ⟨w.heap.size, 2, none⟩ = some (.slice a0 xs0.length c0) ∧ W.cell? ⟨w.heap.size, 3, none⟩ = some (.slice ra0 xss0.length rc0))
    (first | exact (unhide BX32) _ (Below.refl _ _) | exact (unhide BX32) _ ((Below.refl _ _).drew) | exact (unhide BX32) _ (by assumption))
    (first
     | (go_at_call_of 18 (Value.slice a0 xs0.length c0); refine (toCode_any p0 d0 a0 ra0 c0 rc0 xs0 xss0 _ ?_ ?_).mono ?_; exact X29h.below (And.left (by assumption)); exact X29r.below (And.left (by assumption)); rintro e W29 ⟨t29, s29, rfl, o29, bb29⟩; obtain ⟨A29, C29, RA29, RC29, rfl, rfl, rr29, rs29⟩ := o29.form; have hB29 := Below.chain (a := w7) (And.left (by assumption)) bb29)
     | (go_at_call 21; refine (eqCode_any p0 d0 p0 d0 A20 A29 RA20 RA29 C20 C29 RC20 RC29 xs0 xs0 xss0 xss0 _ (Y29.below hB29) rr29 (YY29.below hB29) rs29).mono ?_; rintro e w8 ⟨rfl, bc29⟩; have b29e := Below.chain hB29 bc29; rw [sameC_self]))
   clear BX32
   have z7 := b29e.size
   have bdO20 : xs0.length ≤ 1073741824 := O20.len
   have beO20 : (xss0.map List.length).sum ≤ 1152921504606846976 := O20.sum
   have bdO27 : r0.length ≤ 1073741824 := O27.1.1
   have f33 : w8.cell? ⟨w4.heap.size, 0, none⟩ = some (.int .i64 p0) := (K23.kp (((Kp.below b26 (by omega)).trans (Kp.below b28 (by omega))).trans (Kp.below b29e (by omega)))).cell 0
   have f34 : w8.cell? ⟨w4.heap.size, 1, none⟩ = some (.int .i64 d0) := (K23.kp (((Kp.below b26 (by omega)).trans (Kp.below b28 (by omega))).trans (Kp.below b29e (by omega)))).cell 1
   have f35 : w8.cell? ⟨w4.heap.size, 2, none⟩ = some (.slice A20 xs0.length C20) := (K23.kp (((Kp.below b26 (by omega)).trans (Kp.below b28 (by omega))).trans (Kp.below b29e (by omega)))).cell 2
   have f36 : w8.cell? ⟨w4.heap.size, 3, none⟩ = some (.slice RA20 xss0.length RC20) := (K23.kp (((Kp.below b26 (by omega)).trans (Kp.below b28 (by omega))).trans (Kp.below b29e (by omega)))).cell 3
   go_wp2_with fail
   refine (markCode_any w3.heap.size w4.heap.size p0 d0 A20 RA20 xs0.length xss0.length C20 RC20 (1) xs0 xss0 w8 rfl rfl (O20.kp ((((Kp.below b22 (by omega)).trans (Kp.below b26 (by omega))).trans (Kp.below b28 (by omega))).trans (Kp.below b29e (by omega)))) (by omega) (by omega) (by omega) (by omega)).mono ?_
   rintro e w9 ⟨rfl, o38, m37⟩
   clear f33 f34 f35 f36
   have z8 := m37.size
   have kn1 : decide (1 + (xs0.length : Int) + (((xss0.map List.length).sum : Nat) : Int) < 0) = false := by rw [decide_eq_false_iff_not]; omega
   have kn2 : 0 ≤ 1 + (xs0.length : Int) + (((xss0.map List.length).sum : Nat) : Int) := by omega
   go_wp2_with fail
   refine (eqInt64S_any A27 A13 C27 C13 r0 r0 w9 (O27.kp (((Kp.below b28 (by omega)).trans (Kp.below b29e (by omega))).trans (Mk.kp m37 (by omega) (by omega)))).rd (O13.kp ((((((Kp.below b19 (by omega)).trans (Kp.below b22 (by omega))).trans (Kp.below b26 (by omega))).trans (Kp.below b28 (by omega))).trans (Kp.below b29e (by omega))).trans (Mk.kp m37 (by omega) (by omega)))).rd).mono ?_
   rintro e w10 ⟨rfl, b39'⟩
   have b39 := b39'.below w9.heap.size
   clear b39'
   rw [dec_self]
   have z9 := b39.size
   go_wp2_with fail
   refine (markH_any w5.heap.size w6.heap.size (.slice A27 r0.length C27) (1) r0 w10 (O27.kp ((((Kp.below b28 (by omega)).trans (Kp.below b29e (by omega))).trans (Mk.kp m37 (by omega) (by omega))).trans (Kp.below b39 (by omega)))) (by omega) (by omega) (by omega)).mono ?_
   rintro e w11 ⟨rfl, o41, _, m40⟩
   have z10 := m40.size
   have kn3 : decide (1 + (r0.length : Int) < 0) = false := by rw [decide_eq_false_iff_not]; omega
   have kn4 : 0 ≤ 1 + (r0.length : Int) := by omega
   have kn5 : (1 + (r0.length : Int) != 1 + (r0.length : Int)) = false := by simp
   go_wp2_with fail
   refine (heldInt64S_marked A27 C27 r0.length 1 w11 o41.rd (by omega) (by omega)).mono ?_
   rintro e w12 ⟨rfl, b42'⟩
   have b42 : Below w11.heap.size w11 w12 := by rw [← b42']; exact Below.refl _ _
   clear b42'
   have z11 := b42.size
   have f43 : w12.cell? ⟨w.heap.size, 0, none⟩ = some (.int .i64 p0) := (kA0.kp ((((((((((((Kp.below b3 (by omega)).trans (Kp.below b9 (by omega))).trans (Kp.below b12 (by omega))).trans (Kp.below b19 (by omega))).trans (Kp.below b22 (by omega))).trans (Kp.below b26 (by omega))).trans (Kp.below b28 (by omega))).trans (Kp.below b29e (by omega))).trans (Mk.kp m37 (by omega) (by omega))).trans (Kp.below b39 (by omega))).trans (Mk.kp m40 (by omega) (by omega))).trans (Kp.below b42 (by omega)))).cell 0
   have f44 : w12.cell? ⟨w.heap.size, 1, none⟩ = some (.int .i64 d0) := (kA0.kp ((((((((((((Kp.below b3 (by omega)).trans (Kp.below b9 (by omega))).trans (Kp.below b12 (by omega))).trans (Kp.below b19 (by omega))).trans (Kp.below b22 (by omega))).trans (Kp.below b26 (by omega))).trans (Kp.below b28 (by omega))).trans (Kp.below b29e (by omega))).trans (Mk.kp m37 (by omega) (by omega))).trans (Kp.below b39 (by omega))).trans (Mk.kp m40 (by omega) (by omega))).trans (Kp.below b42 (by omega)))).cell 1
   have f45 : w12.cell? ⟨w.heap.size, 2, none⟩ = some (.slice a0 xs0.length c0) := (kA0.kp ((((((((((((Kp.below b3 (by omega)).trans (Kp.below b9 (by omega))).trans (Kp.below b12 (by omega))).trans (Kp.below b19 (by omega))).trans (Kp.below b22 (by omega))).trans (Kp.below b26 (by omega))).trans (Kp.below b28 (by omega))).trans (Kp.below b29e (by omega))).trans (Mk.kp m37 (by omega) (by omega))).trans (Kp.below b39 (by omega))).trans (Mk.kp m40 (by omega) (by omega))).trans (Kp.below b42 (by omega)))).cell 2
   have f46 : w12.cell? ⟨w.heap.size, 3, none⟩ = some (.slice ra0 xss0.length rc0) := (kA0.kp ((((((((((((Kp.below b3 (by omega)).trans (Kp.below b9 (by omega))).trans (Kp.below b12 (by omega))).trans (Kp.below b19 (by omega))).trans (Kp.below b22 (by omega))).trans (Kp.below b26 (by omega))).trans (Kp.below b28 (by omega))).trans (Kp.below b29e (by omega))).trans (Mk.kp m37 (by omega) (by omega))).trans (Kp.below b39 (by omega))).trans (Mk.kp m40 (by omega) (by omega))).trans (Kp.below b42 (by omega)))).cell 3
   go_wp2_with fail
   refine (toCode_any p0 d0 a0 ra0 c0 rc0 xs0 xss0 w12 (H0.kp ((((((((((((Kp.below b3 (by omega)).trans (Kp.below b9 (by omega))).trans (Kp.below b12 (by omega))).trans (Kp.below b19 (by omega))).trans (Kp.below b22 (by omega))).trans (Kp.below b26 (by omega))).trans (Kp.below b28 (by omega))).trans (Kp.below b29e (by omega))).trans (Mk.kp m37 (by omega) (by omega))).trans (Kp.below b39 (by omega))).trans (Mk.kp m40 (by omega) (by omega))).trans (Kp.below b42 (by omega)))) (RR0.kp ((((((((((((Kp.below b3 (by omega)).trans (Kp.below b9 (by omega))).trans (Kp.below b12 (by omega))).trans (Kp.below b19 (by omega))).trans (Kp.below b22 (by omega))).trans (Kp.below b26 (by omega))).trans (Kp.below b28 (by omega))).trans (Kp.below b29e (by omega))).trans (Mk.kp m37 (by omega) (by omega))).trans (Kp.below b39 (by omega))).trans (Mk.kp m40 (by omega) (by omega))).trans (Kp.below b42 (by omega))))).mono ?_
   rintro e w13 ⟨to47, so47, rfl, o47, b48⟩
   clear f43 f44 f45 f46
   have z12 := b48.size
   obtain ⟨A49, C49, RA49, RC49, rfl, rfl, _, _⟩ := o47.form
   have O49 := o47.toH (by omega)
   clear o47
   go_wp2_with fail
   refine (unhide HIM A49 C49 RA49 RC49 w13 O49.rd O49.rds).mono ?_
   rintro e w14 ⟨to50, rfl, o50, b51⟩
   have z13 := b51.size
   have o50 : Own w14 w13.heap.size to50 r0 := o50
   obtain ⟨A52, C52, rfl, _, _⟩ := o50.form
   have O52 := o50.toH
   clear o50
   go_wp2_with fail
   refine (eqInt64S_any A52 A13 C52 C13 r0 r0 w14 O52.rd (O13.kp (((((((((((Kp.below b19 (by omega)).trans (Kp.below b22 (by omega))).trans (Kp.below b26 (by omega))).trans (Kp.below b28 (by omega))).trans (Kp.below b29e (by omega))).trans (Mk.kp m37 (by omega) (by omega))).trans (Kp.below b39 (by omega))).trans (Mk.kp m40 (by omega) (by omega))).trans (Kp.below b42 (by omega))).trans (Kp.below b48 (by omega))).trans (Kp.below b51 (by omega)))).rd).mono ?_
   rintro e w15 ⟨rfl, b53'⟩
   have b53 := b53'.below w14.heap.size
   clear b53'
   rw [dec_self]
   have z14 := b53.size
   go_wp2_with fail
   refine (heldInt64S_marked A27 C27 r0.length 1 w15 (o41.kp ((((Kp.below b42 (by omega)).trans (Kp.below b48 (by omega))).trans (Kp.below b51 (by omega))).trans (Kp.below b53 (by omega)))).rd (by omega) (by omega)).mono ?_
   rintro e w16 ⟨rfl, b54'⟩
   have b54 : Below w15.heap.size w15 w16 := by rw [← b54']; exact Below.refl _ _
   clear b54'
   have z15 := b54.size
   go_wp2
   go_ret
   exact ⟨rfl, ((((((((((((((((hb0.trans (b3.mono (by omega))).trans (b9.mono (by omega))).trans (b12.mono (by omega))).trans (b19.mono (by omega))).trans (b22.mono (by omega))).trans (b26.mono (by omega))).trans (b28.mono (by omega))).trans (b29e.mono (by omega))).trans (m37.1.mono (by omega))).trans (b39.mono (by omega))).trans (m40.1.mono (by omega))).trans (b42.mono (by omega))).trans (b48.mono (by omega))).trans (b51.mono (by omega))).trans (b53.mono (by omega))).trans (b54.mono (by omega)))⟩
 · rw [left_no g0]
   go_wp2
   go_ret
   exact ⟨rfl, (hb0.trans (b3.mono (by omega)))⟩
theorem law_FnExactBalancedWeights (X0 : COD) (w : World) (e0 : X0.ok w) :
    Calls Tryz.prog 5 #[X0.val] w fun e w' => e = .returned (.bool true) ∧ Below w.heap.size w w' :=
 lawBalancedWeights X0.p X0.d X0.l.a X0.l.c X0.l.xs X0.r.a X0.r.c X0.r.xss w e0.2.2.1.1 e0.2.2.1.2.1 e0.2.2.2.1 e0.2.2.2.2.1 e0.2.1
namespace fnExactBalancedWeights
open Go.ChangeShapes Go.WideShapes Go.ChangeAt
theorem lifted (os : Os) (started : os.Started) (H : Type) (enc : TypeId × Value → H) :
    ReturnsInHanded {} Tryz.checked os 5 .any (Rows.fnExactBalancedWeightsSpec.pre6 enc Tryz.prog Tryz.f5 Rows.fnExactBalancedWeightsRow.domain false) (Rows.fnExactBalancedWeightsSpec.post enc Tryz.prog Tryz.f5 false true false false) := by
 refine returnsInHanded_of_change (C := Tryz.checked) ownKnob_none started (by kernel_rfl) Tryz.func5
  (ChangeSpec.witness6 (enc := enc) (C := Tryz.checked) false ⟨#[], #[.agg #[.int .i64 0, .int .i64 0, .slice none 0 0, .slice none 0 0]], []⟩ 8 (by kernel_rfl) (by kernel_rfl) (by kernel_rfl) (by kernel_rfl)) ?_
 intro W base args ds gs before hval0 hW _ _
 have hval : ∀ (j : Nat) t v, Tryz.f5.params[j]? = some t → args[j]? = some v → Value.okWide Tryz.prog W .any base t v := hval0
 have hW' := hW
 obtain ⟨p, q, hA0, hV, rfl, hfz, hnd⟩ := hW
 have hA : DataW.TrodAll enc Tryz.prog W 0 (fun _ => true) true Tryz.f5.params.toList args.toList ds p := hA0
 rw [Tryz.params5] at hA hval
 obtain ⟨v0, vs0, d0, ds0, p0, q0, hargs, rfl, rfl, h0, r0⟩ := trodAll_cons hA
 obtain ⟨rfl, rfl, rfl⟩ := trodAll_nil r0
 obtain rfl : args = #[v0] := by cases args; simp_all
 obtain ⟨rfl, rfl⟩ := trodVars_none hV
 have k0 := h0
 have lt0 : ∀ x ∈ p0, x.block < W.heap.size := by obtain ⟨m, hm⟩ := k0; exact DataW.trod_lt m _ _ _ hm
 obtain ⟨X0, rfl, e0⟩ := open_cod (hval 0 44 v0 rfl rfl) h0
 clear hA0 hval0
 refine (law_FnExactBalancedWeights X0  W e0).mono fun e W' ⟨he, bel⟩ => ?_
 subst he
 exact ⟨_, rfl, _, _, _, [], _, [], hW', trodAll_mk1 (shut_bool Tryz.underlying4 _), (trodAll_cons_mk (Below.trod laidOut_ok (by kernel_rfl) (of_decide_eq_true (by kernel_rfl)) k0 bel lt0) trodAll_mk0), rfl, bel.frame _, fun h => by cases h⟩
theorem over : Rows.fnExactBalancedWeightsRow.holds Tryz.pinned (OpenSpec.ofChange Rows.fnExactBalancedWeightsSpec) :=
 OpenClaim.holds_of_wide 5 Tryz.f5 rfl rfl rfl rfl rfl rfl rfl ⟨rfl, rfl, rfl, rfl, rfl⟩ rfl rfl rfl rfl rfl (by kernel_rfl) Tryz.func5 (by kernel_rfl)
  (of_decide_eq_true (by kernel_rfl)) (by unfold Func.isWrapper; first | (rw [if_pos (by decide +kernel)]; kernel_rfl) | (rw [if_neg (by decide +kernel)]; exact ⟨rfl, rfl⟩))
  (fun os started H enc _ => lifted os started H enc)
theorem proved : Rows.FnExactBalancedWeightsSaid := over
end fnExactBalancedWeights
end Go.Proofs.YtgfcbmflnldicaaGreat
