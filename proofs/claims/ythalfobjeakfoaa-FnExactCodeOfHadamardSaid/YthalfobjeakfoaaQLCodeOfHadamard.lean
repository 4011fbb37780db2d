/-
  Proved: FnExactCodeOfHadamard returns true for every input and leaves its arguments as they were. No condition. Printed by gen_law3.py.
-/
import Derived.Test.YthalfobjeakfoaaIA2
import Derived.Test.YthalfobjeakfoaaIA15
import Derived.Test.YthalfobjeakfoaaIA16
set_option linter.unusedVariables false
set_option linter.unusedSimpArgs false
set_option maxRecDepth 100000
set_option maxHeartbeats 40000000
namespace Go.Proofs.Ythalfobjeakfoaa
open Go.RowKit
attribute [local go_sem ↓] Go.wp_at_zero Go.wp_at_succ
theorem dec_self {α : Type} [DecidableEq α] (xs : α) : decide (xs = xs) = true := by simp
theorem lawCodeOfHadamard (ra0 : Option Addr) (rc0 : Nat) (xss0 : List (List Int)) (w0 : World) (m0 : Lens w0 ra0 (xss0.map List.length)) (y0 : total (xss0.map List.length) ≤ 1048576 → RdS w0 ra0 xss0) :
    Calls Try.prog 7 #[.slice ra0 xss0.length rc0] w0 fun e w' => e = .returned (.bool true) ∧ Below w0.heap.size w0 w' := by
 obtain ⟨rp0, rd0, rx0, ry0, r1, hR⟩ : ∃ rp0 rd0 rx0 ry0 r1, (hadRes xss0) = (rp0, rd0, rx0, ry0, r1) := ⟨_, _, _, _, _, rfl⟩
 have hsp := fun ra0' rc0' W r0' q0' => specCH2_any ra0' rc0' xss0 W r0' q0'  
 rw [hR] at hsp
 have HSP := hide hsp
 clear hsp
 have him := fun ra0' rc0' W r0' q0' => implCH_any ra0' rc0' xss0 W r0' q0'  
 rw [hR] at him
 have HIM := hide him
 clear him
 clear hR
 have hb0 : Below w0.heap.size w0 w0 := Below.refl _ _
 go_enter Try.func7, Try.ntmps7
 have e0 : (xss0.map List.length).length = xss0.length := by simp
 have zz := szInt64SS_any ra0 rc0 (xss0.map List.length) (1048576) w0 (m0.below hb0) (by omega) (by omega)
 rw [e0] at zz
 have Z1 := hide zz
 clear zz e0
 go_wp2_with fail
 refine (unhide Z1).mono ?_
 rintro e w1 ⟨rfl, b2'⟩
 have b2 : Below w0.heap.size w0 w1 := by rw [← b2']; exact Below.refl _ _
 clear b2'
 have z0 := b2.size
 by_cases g0 : ((total (xss0.map List.length) : Nat) : Int) ≤ 1048576
 · rw [left_yes g0]
   have RR0 := (y0 (by omega)).below hb0
   clear m0 y0
   go_wp2_with fail
   refine (toInt64SS_any ra0 rc0 xss0 w1 (RR0.kp (Kp.below b2 (by omega)))).mono ?_
   rintro e w2 ⟨to3, rfl, o3, b4⟩
   have z1 := b4.size
   obtain ⟨RA5, RC5, rfl, _⟩ := o3.form
   have O5 := o3.toH
   clear o3
   go_wp2_with fail
   refine (unhide HSP RA5 RC5 w2 O5.rd O5.capL).mono ?_
   rintro e w3 ⟨to6, so6, rfl, o6, o6q, b7⟩
   have z2 := b7.size
   have o6 : Own w3 w2.heap.size to6 rx0 := o6
   have o6q : OwnS w3 w2.heap.size so6 ry0 := o6q
   obtain ⟨A8, C8, rfl, Ho6, _⟩ := o6.form
   obtain ⟨RA8, RC8, rfl, RRo6⟩ := o6q.form
   clear o6 o6q
   obtain ⟨w4, hP9⟩ : ∃ z, z = w3.alloc (.cells #[.int .i64 rp0, .int .i64 rd0, .slice A8 rx0.length C8, .slice RA8 ry0.length RC8] 29) := ⟨_, rfl⟩
   have b10 : Below w3.heap.size w3 w4 := by rw [hP9]; exact (Below.refl _ _).alloc (Nat.le_refl _) _
   have K11 : Blk w4 w3.heap.size 29 #[.int .i64 rp0, .int .i64 rd0, .slice A8 rx0.length C8, .slice RA8 ry0.length RC8] := by rw [hP9]; exact Blk.new _ _ _ rfl
   have zz3 : w3.heap.size + 1 ≤ w4.heap.size := K11.lt
   have z3 := b10.size
   have HP12 := Lib.hid hP9
   clear hP9
   go_wp2_with fail
   rw [← HP12.out]
   refine (toInt64SS_any ra0 rc0 xss0 w4 (RR0.kp ((((Kp.below b2 (by omega)).trans (Kp.below b4 (by omega))).trans (Kp.below b7 (by omega))).trans (Kp.below b10 (by omega))))).mono ?_
   rintro e w5 ⟨to13, rfl, o13, b14⟩
   have z4 := b14.size
   obtain ⟨RA15, RC15, rfl, _⟩ := o13.form
   have O15 := o13.toH
   clear o13
   go_wp2_with fail
   refine (unhide HIM RA15 RC15 w5 O15.rd O15.capL).mono ?_
   rintro e w6 ⟨to16, so16, rfl, o16, b17⟩
   have z5 := b17.size
   have o16 : OwnC w6 w5.heap.size to16 so16 rx0 ry0 := o16
   obtain ⟨A18, C18, RA18, RC18, rfl, rfl, _, _⟩ := o16.form
   have O18 := o16.toH (by omega)
   clear o16
   obtain ⟨w7, hP19⟩ : ∃ z, z = w6.alloc (.cells #[.int .i64 rp0, .int .i64 rd0, .slice A18 rx0.length C18, .slice RA18 ry0.length RC18] 29) := ⟨_, rfl⟩
   have b20 : Below w6.heap.size w6 w7 := by rw [hP19]; exact (Below.refl _ _).alloc (Nat.le_refl _) _
   have K21 : Blk w7 w6.heap.size 29 #[.int .i64 rp0, .int .i64 rd0, .slice A18 rx0.length C18, .slice RA18 ry0.length RC18] := by rw [hP19]; exact Blk.new _ _ _ rfl
   have zz6 : w6.heap.size + 1 ≤ w7.heap.size := K21.lt
   have z6 := b20.size
   have f22 : w7.cell? ⟨w3.heap.size, 0, none⟩ = some (.int .i64 rp0) := (K11.kp (((Kp.below b14 (by omega)).trans (Kp.below b17 (by omega))).trans (Kp.below b20 (by omega)))).cell 0
   have f23 : w7.cell? ⟨w3.heap.size, 1, none⟩ = some (.int .i64 rd0) := (K11.kp (((Kp.below b14 (by omega)).trans (Kp.below b17 (by omega))).trans (Kp.below b20 (by omega)))).cell 1
   have f24 : w7.cell? ⟨w3.heap.size, 2, none⟩ = some (.slice A8 rx0.length C8) := (K11.kp (((Kp.below b14 (by omega)).trans (Kp.below b17 (by omega))).trans (Kp.below b20 (by omega)))).cell 2
   have f25 : w7.cell? ⟨w3.heap.size, 3, none⟩ = some (.slice RA8 ry0.length RC8) := (K11.kp (((Kp.below b14 (by omega)).trans (Kp.below b17 (by omega))).trans (Kp.below b20 (by omega)))).cell 3
   rw [hP19] at f22 f23 f24 f25
   have HP26 := Lib.hid hP19
   clear hP19
   go_wp2_with fail
   rw [← HP26.out]
   refine (eqCode_any rp0 rd0 rp0 rd0 A18 A8 RA18 RA8 C18 C8 RC18 RC8 rx0 rx0 ry0 ry0 w7 (O18.kp (Kp.below b20 (by omega))).rd (Ho6.kp ((((Kp.below b10 (by omega)).trans (Kp.below b14 (by omega))).trans (Kp.below b17 (by omega))).trans (Kp.below b20 (by omega)))) (O18.kp (Kp.below b20 (by omega))).rds (RRo6.kp ((((Kp.below b10 (by omega)).trans (Kp.below b14 (by omega))).trans (Kp.below b17 (by omega))).trans (Kp.below b20 (by omega))))).mono ?_
   rintro e w8 ⟨rfl, b27⟩
   rw [sameC_self]
   clear f22 f23 f24 f25
   have z7 := b27.size
   go_wp2_with fail
   refine (toInt64SS_any ra0 rc0 xss0 w8 (RR0.kp ((((((((Kp.below b2 (by omega)).trans (Kp.below b4 (by omega))).trans (Kp.below b7 (by omega))).trans (Kp.below b10 (by omega))).trans (Kp.below b14 (by omega))).trans (Kp.below b17 (by omega))).trans (Kp.below b20 (by omega))).trans (Kp.below b27 (by omega))))).mono ?_
   rintro e w9 ⟨to28, rfl, o28, b29⟩
   have z8 := b29.size
   obtain ⟨RA30, RC30, rfl, _⟩ := o28.form
   have O30 := o28.toH
   clear o28
   go_wp2_with fail
   refine (eqInt64SS_any RA15 RA30 RC15 RC30 xss0 xss0 w9 (O15.kp ((((Kp.below b17 (by omega)).trans (Kp.below b20 (by omega))).trans (Kp.below b27 (by omega))).trans (Kp.below b29 (by omega)))).rd O30.rd).mono ?_
   rintro e w10 ⟨rfl, b31'⟩
   have b31 := b31'.below w9.heap.size
   clear b31'
   rw [dec_self]
   have z9 := b31.size
   have bdO15 : (xss0.map List.length).sum ≤ 1152921504606846976 := O15.sum
   have bdO18 : rx0.length ≤ 1073741824 := O18.len
   have beO18 : (ry0.map List.length).sum ≤ 1152921504606846976 := O18.sum
   go_wp2_with fail
   refine (markSS_any w4.heap.size w5.heap.size RA15 xss0.length RC15 (1) xss0 w10 rfl (O15.kp (((((Kp.below b17 (by omega)).trans (Kp.below b20 (by omega))).trans (Kp.below b27 (by omega))).trans (Kp.below b29 (by omega))).trans (Kp.below b31 (by omega)))) (by omega) (by omega) (by omega)).mono ?_
   rintro e w11 ⟨rfl, o33, m32⟩
   have z10 := m32.size
   have kn1 : decide (1 + (((xss0.map List.length).sum : Nat) : Int) < 0) = false := by rw [decide_eq_false_iff_not]; omega
   have kn2 : 0 ≤ 1 + (((xss0.map List.length).sum : Nat) : Int) := by omega
   have f34 : w11.cell? ⟨w6.heap.size, 0, none⟩ = some (.int .i64 rp0) := (K21.kp ((((Kp.below b27 (by omega)).trans (Kp.below b29 (by omega))).trans (Kp.below b31 (by omega))).trans (Mk.kp m32 (by omega) (by omega)))).cell 0
   have f35 : w11.cell? ⟨w6.heap.size, 1, none⟩ = some (.int .i64 rd0) := (K21.kp ((((Kp.below b27 (by omega)).trans (Kp.below b29 (by omega))).trans (Kp.below b31 (by omega))).trans (Mk.kp m32 (by omega) (by omega)))).cell 1
   have f36 : w11.cell? ⟨w6.heap.size, 2, none⟩ = some (.slice A18 rx0.length C18) := (K21.kp ((((Kp.below b27 (by omega)).trans (Kp.below b29 (by omega))).trans (Kp.below b31 (by omega))).trans (Mk.kp m32 (by omega) (by omega)))).cell 2
   have f37 : w11.cell? ⟨w6.heap.size, 3, none⟩ = some (.slice RA18 ry0.length RC18) := (K21.kp ((((Kp.below b27 (by omega)).trans (Kp.below b29 (by omega))).trans (Kp.below b31 (by omega))).trans (Mk.kp m32 (by omega) (by omega)))).cell 3
   have f38 : w11.cell? ⟨w3.heap.size, 0, none⟩ = some (.int .i64 rp0) := (K11.kp (((((((Kp.below b14 (by omega)).trans (Kp.below b17 (by omega))).trans (Kp.below b20 (by omega))).trans (Kp.below b27 (by omega))).trans (Kp.below b29 (by omega))).trans (Kp.below b31 (by omega))).trans (Mk.kp m32 (by omega) (by omega)))).cell 0
   have f39 : w11.cell? ⟨w3.heap.size, 1, none⟩ = some (.int .i64 rd0) := (K11.kp (((((((Kp.below b14 (by omega)).trans (Kp.below b17 (by omega))).trans (Kp.below b20 (by omega))).trans (Kp.below b27 (by omega))).trans (Kp.below b29 (by omega))).trans (Kp.below b31 (by omega))).trans (Mk.kp m32 (by omega) (by omega)))).cell 1
   have f40 : w11.cell? ⟨w3.heap.size, 2, none⟩ = some (.slice A8 rx0.length C8) := (K11.kp (((((((Kp.below b14 (by omega)).trans (Kp.below b17 (by omega))).trans (Kp.below b20 (by omega))).trans (Kp.below b27 (by omega))).trans (Kp.below b29 (by omega))).trans (Kp.below b31 (by omega))).trans (Mk.kp m32 (by omega) (by omega)))).cell 2
   have f41 : w11.cell? ⟨w3.heap.size, 3, none⟩ = some (.slice RA8 ry0.length RC8) := (K11.kp (((((((Kp.below b14 (by omega)).trans (Kp.below b17 (by omega))).trans (Kp.below b20 (by omega))).trans (Kp.below b27 (by omega))).trans (Kp.below b29 (by omega))).trans (Kp.below b31 (by omega))).trans (Mk.kp m32 (by omega) (by omega)))).cell 3
   go_wp2_with fail
   refine (eqCode_any rp0 rd0 rp0 rd0 A18 A8 RA18 RA8 C18 C8 RC18 RC8 rx0 rx0 ry0 ry0 w11 (O18.kp (((((Kp.below b20 (by omega)).trans (Kp.below b27 (by omega))).trans (Kp.below b29 (by omega))).trans (Kp.below b31 (by omega))).trans (Mk.kp m32 (by omega) (by omega)))).rd (Ho6.kp ((((((((Kp.below b10 (by omega)).trans (Kp.below b14 (by omega))).trans (Kp.below b17 (by omega))).trans (Kp.below b20 (by omega))).trans (Kp.below b27 (by omega))).trans (Kp.below b29 (by omega))).trans (Kp.below b31 (by omega))).trans (Mk.kp m32 (by omega) (by omega)))) (O18.kp (((((Kp.below b20 (by omega)).trans (Kp.below b27 (by omega))).trans (Kp.below b29 (by omega))).trans (Kp.below b31 (by omega))).trans (Mk.kp m32 (by omega) (by omega)))).rds (RRo6.kp ((((((((Kp.below b10 (by omega)).trans (Kp.below b14 (by omega))).trans (Kp.below b17 (by omega))).trans (Kp.below b20 (by omega))).trans (Kp.below b27 (by omega))).trans (Kp.below b29 (by omega))).trans (Kp.below b31 (by omega))).trans (Mk.kp m32 (by omega) (by omega))))).mono ?_
   rintro e w12 ⟨rfl, b42⟩
   rw [sameC_self]
   clear f34 f35 f36 f37 f38 f39 f40 f41
   have z11 := b42.size
   have f43 : w12.cell? ⟨w6.heap.size, 0, none⟩ = some (.int .i64 rp0) := (K21.kp (((((Kp.below b27 (by omega)).trans (Kp.below b29 (by omega))).trans (Kp.below b31 (by omega))).trans (Mk.kp m32 (by omega) (by omega))).trans (Kp.below b42 (by omega)))).cell 0
   have f44 : w12.cell? ⟨w6.heap.size, 1, none⟩ = some (.int .i64 rd0) := (K21.kp (((((Kp.below b27 (by omega)).trans (Kp.below b29 (by omega))).trans (Kp.below b31 (by omega))).trans (Mk.kp m32 (by omega) (by omega))).trans (Kp.below b42 (by omega)))).cell 1
   have f45 : w12.cell? ⟨w6.heap.size, 2, none⟩ = some (.slice A18 rx0.length C18) := (K21.kp (((((Kp.below b27 (by omega)).trans (Kp.below b29 (by omega))).trans (Kp.below b31 (by omega))).trans (Mk.kp m32 (by omega) (by omega))).trans (Kp.below b42 (by omega)))).cell 2
   have f46 : w12.cell? ⟨w6.heap.size, 3, none⟩ = some (.slice RA18 ry0.length RC18) := (K21.kp (((((Kp.below b27 (by omega)).trans (Kp.below b29 (by omega))).trans (Kp.below b31 (by omega))).trans (Mk.kp m32 (by omega) (by omega))).trans (Kp.below b42 (by omega)))).cell 3
   go_wp2_with fail
   refine (markCode_any w5.heap.size w6.heap.size rp0 rd0 A18 RA18 rx0.length ry0.length C18 RC18 (1) rx0 ry0 w12 rfl rfl (O18.kp ((((((Kp.below b20 (by omega)).trans (Kp.below b27 (by omega))).trans (Kp.below b29 (by omega))).trans (Kp.below b31 (by omega))).trans (Mk.kp m32 (by omega) (by omega))).trans (Kp.below b42 (by omega)))) (by omega) (by omega) (by omega) (by omega)).mono ?_
   rintro e w13 ⟨rfl, o48, m47⟩
   clear f43 f44 f45 f46
   have z12 := m47.size
   have kn3 : decide (1 + (rx0.length : Int) + (((ry0.map List.length).sum : Nat) : Int) < 0) = false := by rw [decide_eq_false_iff_not]; omega
   have kn4 : 0 ≤ 1 + (rx0.length : Int) + (((ry0.map List.length).sum : Nat) : Int) := by omega
   have kn5 : (1 + (rx0.length : Int) + (((ry0.map List.length).sum : Nat) : Int) != 1 + (rx0.length : Int) + (((ry0.map List.length).sum : Nat) : Int)) = false := by simp
   have f49 : w13.cell? ⟨w6.heap.size, 0, none⟩ = some (.int .i64 rp0) := (K21.kp ((((((Kp.below b27 (by omega)).trans (Kp.below b29 (by omega))).trans (Kp.below b31 (by omega))).trans (Mk.kp m32 (by omega) (by omega))).trans (Kp.below b42 (by omega))).trans (Mk.kp m47 (by omega) (by omega)))).cell 0
   have f50 : w13.cell? ⟨w6.heap.size, 1, none⟩ = some (.int .i64 rd0) := (K21.kp ((((((Kp.below b27 (by omega)).trans (Kp.below b29 (by omega))).trans (Kp.below b31 (by omega))).trans (Mk.kp m32 (by omega) (by omega))).trans (Kp.below b42 (by omega))).trans (Mk.kp m47 (by omega) (by omega)))).cell 1
   have f51 : w13.cell? ⟨w6.heap.size, 2, none⟩ = some (.slice A18 rx0.length C18) := (K21.kp ((((((Kp.below b27 (by omega)).trans (Kp.below b29 (by omega))).trans (Kp.below b31 (by omega))).trans (Mk.kp m32 (by omega) (by omega))).trans (Kp.below b42 (by omega))).trans (Mk.kp m47 (by omega) (by omega)))).cell 2
   have f52 : w13.cell? ⟨w6.heap.size, 3, none⟩ = some (.slice RA18 ry0.length RC18) := (K21.kp ((((((Kp.below b27 (by omega)).trans (Kp.below b29 (by omega))).trans (Kp.below b31 (by omega))).trans (Mk.kp m32 (by omega) (by omega))).trans (Kp.below b42 (by omega))).trans (Mk.kp m47 (by omega) (by omega)))).cell 3
   go_wp2_with fail
   refine (heldCode_any rp0 rd0 A18 RA18 rx0.length ry0.length C18 RC18 1 (ry0.map List.length) w13 (by simp) o48.rd o48.rds (by omega) (by omega)).mono ?_
   rintro e w14 ⟨rfl, b53⟩
   clear f49 f50 f51 f52
   have z13 := b53.size
   go_wp2_with fail
   refine (toInt64SS_any ra0 rc0 xss0 w14 (RR0.kp ((((((((((((((Kp.below b2 (by omega)).trans (Kp.below b4 (by omega))).trans (Kp.below b7 (by omega))).trans (Kp.below b10 (by omega))).trans (Kp.below b14 (by omega))).trans (Kp.below b17 (by omega))).trans (Kp.below b20 (by omega))).trans (Kp.below b27 (by omega))).trans (Kp.below b29 (by omega))).trans (Kp.below b31 (by omega))).trans (Mk.kp m32 (by omega) (by omega))).trans (Kp.below b42 (by omega))).trans (Mk.kp m47 (by omega) (by omega))).trans (Kp.below b53 (by omega))))).mono ?_
   rintro e w15 ⟨to54, rfl, o54, b55⟩
   have z14 := b55.size
   obtain ⟨RA56, RC56, rfl, _⟩ := o54.form
   have O56 := o54.toH
   clear o54
   go_wp2_with fail
   refine (unhide HIM RA56 RC56 w15 O56.rd O56.capL).mono ?_
   rintro e w16 ⟨to57, so57, rfl, o57, b58⟩
   have z15 := b58.size
   have o57 : OwnC w16 w15.heap.size to57 so57 rx0 ry0 := o57
   obtain ⟨A59, C59, RA59, RC59, rfl, rfl, _, _⟩ := o57.form
   have O59 := o57.toH (by omega)
   clear o57
   obtain ⟨w17, hP60⟩ : ∃ z, z = w16.alloc (.cells #[.int .i64 rp0, .int .i64 rd0, .slice A59 rx0.length C59, .slice RA59 ry0.length RC59] 29) := ⟨_, rfl⟩
   have b61 : Below w16.heap.size w16 w17 := by rw [hP60]; exact (Below.refl _ _).alloc (Nat.le_refl _) _
   have K62 : Blk w17 w16.heap.size 29 #[.int .i64 rp0, .int .i64 rd0, .slice A59 rx0.length C59, .slice RA59 ry0.length RC59] := by rw [hP60]; exact Blk.new _ _ _ rfl
   have zz16 : w16.heap.size + 1 ≤ w17.heap.size := K62.lt
   have z16 := b61.size
   have f63 : w17.cell? ⟨w3.heap.size, 0, none⟩ = some (.int .i64 rp0) := (K11.kp (((((((((((((Kp.below b14 (by omega)).trans (Kp.below b17 (by omega))).trans (Kp.below b20 (by omega))).trans (Kp.below b27 (by omega))).trans (Kp.below b29 (by omega))).trans (Kp.below b31 (by omega))).trans (Mk.kp m32 (by omega) (by omega))).trans (Kp.below b42 (by omega))).trans (Mk.kp m47 (by omega) (by omega))).trans (Kp.below b53 (by omega))).trans (Kp.below b55 (by omega))).trans (Kp.below b58 (by omega))).trans (Kp.below b61 (by omega)))).cell 0
   have f64 : w17.cell? ⟨w3.heap.size, 1, none⟩ = some (.int .i64 rd0) := (K11.kp (((((((((((((Kp.below b14 (by omega)).trans (Kp.below b17 (by omega))).trans (Kp.below b20 (by omega))).trans (Kp.below b27 (by omega))).trans (Kp.below b29 (by omega))).trans (Kp.below b31 (by omega))).trans (Mk.kp m32 (by omega) (by omega))).trans (Kp.below b42 (by omega))).trans (Mk.kp m47 (by omega) (by omega))).trans (Kp.below b53 (by omega))).trans (Kp.below b55 (by omega))).trans (Kp.below b58 (by omega))).trans (Kp.below b61 (by omega)))).cell 1
   have f65 : w17.cell? ⟨w3.heap.size, 2, none⟩ = some (.slice A8 rx0.length C8) := (K11.kp (((((((((((((Kp.below b14 (by omega)).trans (Kp.below b17 (by omega))).trans (Kp.below b20 (by omega))).trans (Kp.below b27 (by omega))).trans (Kp.below b29 (by omega))).trans (Kp.below b31 (by omega))).trans (Mk.kp m32 (by omega) (by omega))).trans (Kp.below b42 (by omega))).trans (Mk.kp m47 (by omega) (by omega))).trans (Kp.below b53 (by omega))).trans (Kp.below b55 (by omega))).trans (Kp.below b58 (by omega))).trans (Kp.below b61 (by omega)))).cell 2
   have f66 : w17.cell? ⟨w3.heap.size, 3, none⟩ = some (.slice RA8 ry0.length RC8) := (K11.kp (((((((((((((Kp.below b14 (by omega)).trans (Kp.below b17 (by omega))).trans (Kp.below b20 (by omega))).trans (Kp.below b27 (by omega))).trans (Kp.below b29 (by omega))).trans (Kp.below b31 (by omega))).trans (Mk.kp m32 (by omega) (by omega))).trans (Kp.below b42 (by omega))).trans (Mk.kp m47 (by omega) (by omega))).trans (Kp.below b53 (by omega))).trans (Kp.below b55 (by omega))).trans (Kp.below b58 (by omega))).trans (Kp.below b61 (by omega)))).cell 3
   rw [hP60] at f63 f64 f65 f66
   have HP67 := Lib.hid hP60
   clear hP60
   go_wp2_with fail
   rw [← HP67.out]
   refine (eqCode_any rp0 rd0 rp0 rd0 A59 A8 RA59 RA8 C59 C8 RC59 RC8 rx0 rx0 ry0 ry0 w17 (O59.kp (Kp.below b61 (by omega))).rd (Ho6.kp ((((((((((((((Kp.below b10 (by omega)).trans (Kp.below b14 (by omega))).trans (Kp.below b17 (by omega))).trans (Kp.below b20 (by omega))).trans (Kp.below b27 (by omega))).trans (Kp.below b29 (by omega))).trans (Kp.below b31 (by omega))).trans (Mk.kp m32 (by omega) (by omega))).trans (Kp.below b42 (by omega))).trans (Mk.kp m47 (by omega) (by omega))).trans (Kp.below b53 (by omega))).trans (Kp.below b55 (by omega))).trans (Kp.below b58 (by omega))).trans (Kp.below b61 (by omega)))) (O59.kp (Kp.below b61 (by omega))).rds (RRo6.kp ((((((((((((((Kp.below b10 (by omega)).trans (Kp.below b14 (by omega))).trans (Kp.below b17 (by omega))).trans (Kp.below b20 (by omega))).trans (Kp.below b27 (by omega))).trans (Kp.below b29 (by omega))).trans (Kp.below b31 (by omega))).trans (Mk.kp m32 (by omega) (by omega))).trans (Kp.below b42 (by omega))).trans (Mk.kp m47 (by omega) (by omega))).trans (Kp.below b53 (by omega))).trans (Kp.below b55 (by omega))).trans (Kp.below b58 (by omega))).trans (Kp.below b61 (by omega))))).mono ?_
   rintro e w18 ⟨rfl, b68⟩
   rw [sameC_self]
   clear f63 f64 f65 f66
   have z17 := b68.size
   have f69 : w18.cell? ⟨w6.heap.size, 0, none⟩ = some (.int .i64 rp0) := (K21.kp (((((((((((Kp.below b27 (by omega)).trans (Kp.below b29 (by omega))).trans (Kp.below b31 (by omega))).trans (Mk.kp m32 (by omega) (by omega))).trans (Kp.below b42 (by omega))).trans (Mk.kp m47 (by omega) (by omega))).trans (Kp.below b53 (by omega))).trans (Kp.below b55 (by omega))).trans (Kp.below b58 (by omega))).trans (Kp.below b61 (by omega))).trans (Kp.below b68 (by omega)))).cell 0
   have f70 : w18.cell? ⟨w6.heap.size, 1, none⟩ = some (.int .i64 rd0) := (K21.kp (((((((((((Kp.below b27 (by omega)).trans (Kp.below b29 (by omega))).trans (Kp.below b31 (by omega))).trans (Mk.kp m32 (by omega) (by omega))).trans (Kp.below b42 (by omega))).trans (Mk.kp m47 (by omega) (by omega))).trans (Kp.below b53 (by omega))).trans (Kp.below b55 (by omega))).trans (Kp.below b58 (by omega))).trans (Kp.below b61 (by omega))).trans (Kp.below b68 (by omega)))).cell 1
   have f71 : w18.cell? ⟨w6.heap.size, 2, none⟩ = some (.slice A18 rx0.length C18) := (K21.kp (((((((((((Kp.below b27 (by omega)).trans (Kp.below b29 (by omega))).trans (Kp.below b31 (by omega))).trans (Mk.kp m32 (by omega) (by omega))).trans (Kp.below b42 (by omega))).trans (Mk.kp m47 (by omega) (by omega))).trans (Kp.below b53 (by omega))).trans (Kp.below b55 (by omega))).trans (Kp.below b58 (by omega))).trans (Kp.below b61 (by omega))).trans (Kp.below b68 (by omega)))).cell 2
   have f72 : w18.cell? ⟨w6.heap.size, 3, none⟩ = some (.slice RA18 ry0.length RC18) := (K21.kp (((((((((((Kp.below b27 (by omega)).trans (Kp.below b29 (by omega))).trans (Kp.below b31 (by omega))).trans (Mk.kp m32 (by omega) (by omega))).trans (Kp.below b42 (by omega))).trans (Mk.kp m47 (by omega) (by omega))).trans (Kp.below b53 (by omega))).trans (Kp.below b55 (by omega))).trans (Kp.below b58 (by omega))).trans (Kp.below b61 (by omega))).trans (Kp.below b68 (by omega)))).cell 3
   go_wp2_with fail
   refine (heldCode_any rp0 rd0 A18 RA18 rx0.length ry0.length C18 RC18 1 (ry0.map List.length) w18 (by simp) (o48.kp (((((Kp.below b53 (by omega)).trans (Kp.below b55 (by omega))).trans (Kp.below b58 (by omega))).trans (Kp.below b61 (by omega))).trans (Kp.below b68 (by omega)))).rd (o48.kp (((((Kp.below b53 (by omega)).trans (Kp.below b55 (by omega))).trans (Kp.below b58 (by omega))).trans (Kp.below b61 (by omega))).trans (Kp.below b68 (by omega)))).rds (by omega) (by omega)).mono ?_
   rintro e w19 ⟨rfl, b73⟩
   clear f69 f70 f71 f72
   have z18 := b73.size
   go_wp2
   go_ret
   exact ⟨rfl, (((((((((((((((((((hb0.trans (b2.mono (by omega))).trans (b4.mono (by omega))).trans (b7.mono (by omega))).trans (b10.mono (by omega))).trans (b14.mono (by omega))).trans (b17.mono (by omega))).trans (b20.mono (by omega))).trans (b27.mono (by omega))).trans (b29.mono (by omega))).trans (b31.mono (by omega))).trans (m32.1.mono (by omega))).trans (b42.mono (by omega))).trans (m47.1.mono (by omega))).trans (b53.mono (by omega))).trans (b55.mono (by omega))).trans (b58.mono (by omega))).trans (b61.mono (by omega))).trans (b68.mono (by omega))).trans (b73.mono (by omega)))⟩
 · rw [left_no g0]
   go_wp2
   go_ret
   exact ⟨rfl, (hb0.trans (b2.mono (by omega)))⟩
theorem law_FnExactCodeOfHadamard (X0 : SLS) (w : World) (e0 : X0.ok w) :
    Calls Try.prog 7 #[X0.val] w fun e w' => e = .returned (.bool true) ∧ Below w.heap.size w w' :=
 lawCodeOfHadamard X0.a X0.c X0.xss w e0.1 e0.2.1
namespace fnExactCodeOfHadamard
open Go.ChangeShapes Go.WideShapes Go.ChangeAt
theorem lifted (os : Os) (started : os.Started) (H : Type) (enc : TypeId × Value → H) :
    ReturnsInHanded {} Try.checked os 7 .any (Rows.fnExactCodeOfHadamardSpec.pre6 enc Try.prog Try.f7 Rows.fnExactCodeOfHadamardRow.domain false) (Rows.fnExactCodeOfHadamardSpec.post enc Try.prog Try.f7 false true false false) := by
 refine returnsInHanded_of_change (C := Try.checked) ownKnob_none started (by kernel_rfl) Try.func7
  (ChangeSpec.witness6 (enc := enc) (C := Try.checked) false ⟨#[], #[.slice none 0 0], []⟩ 8 (by kernel_rfl) (by kernel_rfl) (by kernel_rfl) (by kernel_rfl)) ?_
 intro W base args ds gs before hval0 hW _ _
 have hval : ∀ (j : Nat) t v, Try.f7.params[j]? = some t → args[j]? = some v → Value.okWide Try.prog W .any base t v := hval0
 have hW' := hW
 obtain ⟨p, q, hA0, hV, rfl, hfz, hnd⟩ := hW
 have hA : DataW.TrodAll enc Try.prog W 0 (fun _ => true) true Try.f7.params.toList args.toList ds p := hA0
 rw [Try.params7] at hA hval
 obtain ⟨v0, vs0, d0, ds0, p0, q0, hargs, rfl, rfl, h0, r0⟩ := trodAll_cons hA
 obtain ⟨rfl, rfl, rfl⟩ := trodAll_nil r0
 obtain rfl : args = #[v0] := by cases args; simp_all
 obtain ⟨rfl, rfl⟩ := trodVars_none hV
 have k0 := h0
 have lt0 : ∀ x ∈ p0, x.block < W.heap.size := by obtain ⟨m, hm⟩ := k0; exact DataW.trod_lt m _ _ _ hm
 obtain ⟨X0, rfl, e0⟩ := open_sls (hval 0 27 v0 rfl rfl) h0
 clear hA0 hval0
 refine (law_FnExactCodeOfHadamard X0  W e0).mono fun e W' ⟨he, bel⟩ => ?_
 subst he
 exact ⟨_, rfl, _, _, _, [], _, [], hW', trodAll_mk1 (shut_bool Try.underlying4 _), (trodAll_cons_mk (Below.trod laidOut_ok (by kernel_rfl) (of_decide_eq_true (by kernel_rfl)) k0 bel lt0) trodAll_mk0), rfl, bel.frame _, fun h => by cases h⟩
theorem over : Rows.fnExactCodeOfHadamardRow.holds Try.pinned (OpenSpec.ofChange Rows.fnExactCodeOfHadamardSpec) :=
 OpenClaim.holds_of_wide 7 Try.f7 rfl rfl rfl rfl rfl rfl rfl ⟨rfl, rfl, rfl, rfl, rfl⟩ rfl rfl rfl rfl rfl (by kernel_rfl) Try.func7 (by kernel_rfl)
  (of_decide_eq_true (by kernel_rfl)) (by unfold Func.isWrapper; first | (rw [if_pos (by decide +kernel)]; kernel_rfl) | (rw [if_neg (by decide +kernel)]; exact ⟨rfl, rfl⟩))
  (fun os started H enc _ => lifted os started H enc)
theorem proved : Rows.FnExactCodeOfHadamardSaid := over
end fnExactCodeOfHadamard
end Go.Proofs.Ythalfobjeakfoaa
