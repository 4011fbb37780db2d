/-
  Proved: FnExactComplementGraph returns true for every input and leaves its arguments as they were. No condition. Printed by gen_law3.py.
-/
import Derived.Test.YtohghnoihbjmcaaHC1
import Derived.Test.YtohghnoihbjmcaaHC3
import Derived.Test.YtohghnoihbjmcaaHC16
import Derived.Test.YtohghnoihbjmcaaHC18
set_option linter.unusedVariables false
set_option linter.unusedSimpArgs false
set_option maxRecDepth 100000
set_option maxHeartbeats 40000000
namespace Go.Proofs.Ytohghnoihbjmcaa
open Go.RowKit
attribute [local go_sem ↓] Go.wp_at_zero Go.wp_at_succ
theorem dec_self {α : Type} [DecidableEq α] (xs : α) : decide (xs = xs) = true := by simp
theorem lawComplementGraph (a0 : Option Addr) (c0 : Nat) (xs0 : List Int) (ra0 : Option Addr) (rc0 : Nat) (xss0 : List (Int × Int)) (w : World) (l0 : xs0.length ≤ maxLen) (h0 : xs0.length ≤ 1048576 → Rd w a0 xs0) (m0 : xss0.length ≤ maxLen) (y0 : xss0.length ≤ 1048576 → RdE w ra0 xss0) :
    Calls Try.prog 4 #[.agg #[.slice a0 xs0.length c0, .slice ra0 xss0.length rc0]] w fun e w' => e = .returned (.bool true) ∧ Below w.heap.size w w' := by
 obtain ⟨rx0, ry0, r1, hR⟩ : ∃ rx0 ry0 r1, (cmgRes xs0 xss0) = (rx0, ry0, r1) := ⟨_, _, _, rfl⟩
 have hsp := fun a0' c0' ra0' rc0' W h0' r0' => specCG_any a0' c0' xs0 ra0' rc0' xss0 W h0' r0'  
 rw [hR] at hsp
 have HSP := hide hsp
 clear hsp
 have him := fun a0' c0' ra0' rc0' W h0' r0' => implCG_any a0' c0' xs0 ra0' rc0' xss0 W h0' r0'  
 rw [hR] at him
 have HIM := hide him
 clear him
 clear hR
 obtain ⟨w0, hw0⟩ : ∃ z, z = (w.alloc (.cells #[.slice a0 xs0.length c0, .slice ra0 xss0.length rc0] 25)) := ⟨_, rfl⟩
 have hb0 : Below w.heap.size w w0 := by rw [hw0]; exact ((Below.refl _ _).alloc (Nat.le_refl _) _)
 have kA0 : Blk w0 w.heap.size 25 #[.slice a0 xs0.length c0, .slice ra0 xss0.length rc0] := by rw [hw0]; exact (Blk.new _ _ _ rfl)
 have zb : w.heap.size + 1 ≤ w0.heap.size := by rw [hw0]; simp
 go_enter Try.func4, Try.ntmps4
 have zz := szGraph_any a0 xs0.length c0 ra0 xss0.length rc0 (1048576) w0 l0 m0 (by omega) (by omega)
 have Z1 := hide zz
 clear zz
 have HP2 := Lib.hid hw0
 clear hw0
 go_wp2_with fail
 rw [← HP2.out]
 refine (unhide Z1).mono ?_
 rintro e w1 ⟨rfl, b3⟩
 have z0 := b3.size
 by_cases g0 : ((xs0.length + xss0.length : Nat) : Int) ≤ 1048576
 · rw [left_yes g0]
   have H0 := (h0 (by omega)).below hb0
   have RR0 := (y0 (by omega)).below hb0
   clear l0 h0 m0 y0
   have f4 : w1.cell? ⟨w.heap.size, 0, none⟩ = some (.slice a0 xs0.length c0) := (kA0.kp (Kp.below b3 (by omega))).cell 0
   have f5 : w1.cell? ⟨w.heap.size, 1, none⟩ = some (.slice ra0 xss0.length rc0) := (kA0.kp (Kp.below b3 (by omega))).cell 1
   go_wp2_with fail
   refine (toGraph_any a0 ra0 c0 rc0 xs0 xss0 w1 (H0.kp (Kp.below b3 (by omega))) (RR0.kp (Kp.below b3 (by omega)))).mono ?_
   rintro e w2 ⟨to6, so6, rfl, o6, b7⟩
   clear f4 f5
   have z1 := b7.size
   have o6 := o6.two
   obtain ⟨A8, C8, RA8, RC8, rfl, rfl, _, _⟩ := o6.form
   have O8 := o6.toH (by omega)
   clear o6
   go_wp2_with fail
   refine (unhide HSP A8 C8 RA8 RC8 w2 O8.rd O8.rds).mono ?_
   rintro e w3 ⟨to9, so9, rfl, o9, b10⟩
   have z2 := b10.size
   have o9 : OwnG2 w3 w2.heap.size to9 so9 rx0 ry0 := o9
   obtain ⟨A11, C11, RA11, RC11, rfl, rfl, _, _⟩ := o9.form
   have O11 := o9.toH (by omega)
   clear o9
   obtain ⟨w4, hP12⟩ : ∃ z, z = w3.alloc (.cells #[.slice A11 rx0.length C11, .slice RA11 ry0.length RC11] 30) := ⟨_, rfl⟩
   have b13 : Below w3.heap.size w3 w4 := by rw [hP12]; exact (Below.refl _ _).alloc (Nat.le_refl _) _
   have K14 : Blk w4 w3.heap.size 30 #[.slice A11 rx0.length C11, .slice RA11 ry0.length RC11] := by rw [hP12]; exact Blk.new _ _ _ rfl
   have zz3 : w3.heap.size + 1 ≤ w4.heap.size := K14.lt
   have z3 := b13.size
   have f15 : w4.cell? ⟨w.heap.size, 0, none⟩ = some (.slice a0 xs0.length c0) := (kA0.kp ((((Kp.below b3 (by omega)).trans (Kp.below b7 (by omega))).trans (Kp.below b10 (by omega))).trans (Kp.below b13 (by omega)))).cell 0
   have f16 : w4.cell? ⟨w.heap.size, 1, none⟩ = some (.slice ra0 xss0.length rc0) := (kA0.kp ((((Kp.below b3 (by omega)).trans (Kp.below b7 (by omega))).trans (Kp.below b10 (by omega))).trans (Kp.below b13 (by omega)))).cell 1
   rw [hP12] at f15 f16
   have HP17 := Lib.hid hP12
   clear hP12
   go_wp2_with fail
   rw [← HP17.out]
   refine (toGraph_any a0 ra0 c0 rc0 xs0 xss0 w4 (H0.kp ((((Kp.below b3 (by omega)).trans (Kp.below b7 (by omega))).trans (Kp.below b10 (by omega))).trans (Kp.below b13 (by omega)))) (RR0.kp ((((Kp.below b3 (by omega)).trans (Kp.below b7 (by omega))).trans (Kp.below b10 (by omega))).trans (Kp.below b13 (by omega))))).mono ?_
   rintro e w5 ⟨to18, so18, rfl, o18, b19⟩
   clear f15 f16
   have z4 := b19.size
   have o18 := o18.two
   obtain ⟨A20, C20, RA20, RC20, rfl, rfl, _, _⟩ := o18.form
   have O20 := o18.toH (by omega)
   clear o18
   obtain ⟨w6, hP21⟩ : ∃ z, z = w5.alloc (.cells #[.slice A20 xs0.length C20, .slice RA20 xss0.length RC20] 30) := ⟨_, rfl⟩
   have b22 : Below w5.heap.size w5 w6 := by rw [hP21]; exact (Below.refl _ _).alloc (Nat.le_refl _) _
   have K23 : Blk w6 w5.heap.size 30 #[.slice A20 xs0.length C20, .slice RA20 xss0.length RC20] := by rw [hP21]; exact Blk.new _ _ _ rfl
   have zz5 : w5.heap.size + 1 ≤ w6.heap.size := K23.lt
   have z5 := b22.size
   have HP24 := Lib.hid hP21
   clear hP21
   go_wp2_with fail
   rw [← HP24.out]
   refine (unhide HIM A20 C20 RA20 RC20 w6 (O20.kp (Kp.below b22 (by omega))).rd (O20.kp (Kp.below b22 (by omega))).rds).mono ?_
   rintro e w7 ⟨to25, so25, rfl, o25, b26⟩
   have z6 := b26.size
   have o25 : OwnG2 w7 w6.heap.size to25 so25 rx0 ry0 := o25
   obtain ⟨A27, C27, RA27, RC27, rfl, rfl, _, _⟩ := o25.form
   have O27 := o25.toH (by omega)
   clear o25
   obtain ⟨w8, hP28⟩ : ∃ z, z = w7.alloc (.cells #[.slice A27 rx0.length C27, .slice RA27 ry0.length RC27] 30) := ⟨_, rfl⟩
   have b29 : Below w7.heap.size w7 w8 := by rw [hP28]; exact (Below.refl _ _).alloc (Nat.le_refl _) _
   have K30 : Blk w8 w7.heap.size 30 #[.slice A27 rx0.length C27, .slice RA27 ry0.length RC27] := by rw [hP28]; exact Blk.new _ _ _ rfl
   have zz7 : w7.heap.size + 1 ≤ w8.heap.size := K30.lt
   have z7 := b29.size
   have f31 : w8.cell? ⟨w3.heap.size, 0, none⟩ = some (.slice A11 rx0.length C11) := (K14.kp ((((Kp.below b19 (by omega)).trans (Kp.below b22 (by omega))).trans (Kp.below b26 (by omega))).trans (Kp.below b29 (by omega)))).cell 0
   have f32 : w8.cell? ⟨w3.heap.size, 1, none⟩ = some (.slice RA11 ry0.length RC11) := (K14.kp ((((Kp.below b19 (by omega)).trans (Kp.below b22 (by omega))).trans (Kp.below b26 (by omega))).trans (Kp.below b29 (by omega)))).cell 1
   rw [hP28] at f31 f32
   have HP33 := Lib.hid hP28
   clear hP28
   go_wp2_with fail
   rw [← HP33.out]
   refine (eqGraph_any A27 A11 RA27 RA11 C27 C11 RC27 RC11 rx0 rx0 ry0 ry0 w8 (O27.kp (Kp.below b29 (by omega))).rd (O11.kp (((((Kp.below b13 (by omega)).trans (Kp.below b19 (by omega))).trans (Kp.below b22 (by omega))).trans (Kp.below b26 (by omega))).trans (Kp.below b29 (by omega)))).rd (O27.kp (Kp.below b29 (by omega))).rds (O11.kp (((((Kp.below b13 (by omega)).trans (Kp.below b19 (by omega))).trans (Kp.below b22 (by omega))).trans (Kp.below b26 (by omega))).trans (Kp.below b29 (by omega)))).rds).mono ?_
   rintro e w9 ⟨rfl, b34⟩
   rw [sameG_self]
   clear f31 f32
   have z8 := b34.size
   have Y35 := (O20.kp ((((Kp.below b22 (by omega)).trans (Kp.below b26 (by omega))).trans (Kp.below b29 (by omega))).trans (Kp.below b34 (by omega)))).rd
   have YY35 := (O20.kp ((((Kp.below b22 (by omega)).trans (Kp.below b26 (by omega))).trans (Kp.below b29 (by omega))).trans (Kp.below b34 (by omega)))).rds
   have X35h := (H0.kp (((((((((Kp.below b3 (by omega)).trans (Kp.below b7 (by omega))).trans (Kp.below b10 (by omega))).trans (Kp.below b13 (by omega))).trans (Kp.below b19 (by omega))).trans (Kp.below b22 (by omega))).trans (Kp.below b26 (by omega))).trans (Kp.below b29 (by omega))).trans (Kp.below b34 (by omega))))
   have X35r := (RR0.kp (((((((((Kp.below b3 (by omega)).trans (Kp.below b7 (by omega))).trans (Kp.below b10 (by omega))).trans (Kp.below b13 (by omega))).trans (Kp.below b19 (by omega))).trans (Kp.below b22 (by omega))).trans (Kp.below b26 (by omega))).trans (Kp.below b29 (by omega))).trans (Kp.below b34 (by omega))))
   have K36 := (K23.kp (((Kp.below b26 (by omega)).trans (Kp.below b29 (by omega))).trans (Kp.below b34 (by omega))))
   have K37 := (kA0.kp (((((((((Kp.below b3 (by omega)).trans (Kp.below b7 (by omega))).trans (Kp.below b10 (by omega))).trans (Kp.below b13 (by omega))).trans (Kp.below b19 (by omega))).trans (Kp.below b22 (by omega))).trans (Kp.below b26 (by omega))).trans (Kp.below b29 (by omega))).trans (Kp.below b34 (by omega))))
   have BX38' : ∀ (W : World), Below w9.heap.size w9 W → (Below w9.heap.size w9 W ∧ W.cell? ⟨w5.heap.size, 0, none⟩ = some (.slice A20 xs0.length C20) ∧ W.cell? ⟨w5.heap.size, 1, none⟩ = some (.slice RA20 xss0.length RC20) ∧ W.cell? ⟨w.heap.size, 0, none⟩ = some (.slice a0 xs0.length c0) ∧ W.cell? ⟨w.heap.size, 1, none⟩ = some (.slice ra0 xss0.length rc0)) := fun _ h => ⟨h, (K36.below h K36.lt).cell 0, (K36.below h K36.lt).cell 1, (K37.below h K37.lt).cell 0, (K37.below h K37.lt).cell 1⟩
   have BX38 := hide BX38'
   clear BX38'
   go_upto_region 10 with fail
   go_region_held3 (fun W => Below w9.heap.size w9 W ∧ W.cell? ⟨w5.heap.size, 0, none⟩ = some (.slice A20 xs0.length C20) ∧ W.cell? ⟨w5.heap.size, 1, none⟩ = some (.slice RA20 xss0.length RC20) ∧ W.cell? ⟨w.heap.size, 0, none⟩ = some (.slice a0 xs0.length c0) ∧ W.cell? ⟨w.heap.size, 1, none⟩ = some (.slice ra0 xss0.length rc0))
    (first | exact (unhide BX38) _ (Below.refl _ _) | exact (unhide BX38) _ ((Below.refl _ _).drew) | exact (unhide BX38) _ (by assumption))
    (first
     | (go_at_call_of 13 (Value.slice a0 xs0.length c0); refine (toGraph_any a0 ra0 c0 rc0 xs0 xss0 _ ?_ ?_).mono ?_; exact X35h.below (And.left (by assumption)); exact X35r.below (And.left (by assumption)); rintro e W35 ⟨t35, s35, rfl, o35, bb35⟩; obtain ⟨A35, C35, RA35, RC35, rfl, rfl, rr35, rs35⟩ := o35.form; have hB35 := Below.chain (a := w9) (And.left (by assumption)) bb35)
     | (go_at_call 15; refine (eqGraph_any A20 A35 RA20 RA35 C20 C35 RC20 RC35 xs0 xs0 xss0 xss0 _ (Y35.below hB35) rr35 (YY35.below hB35) rs35).mono ?_; rintro e w10 ⟨rfl, bc35⟩; have b35e := Below.chain hB35 bc35; rw [sameG_self]))
   clear BX38
   have z9 := b35e.size
   have bdO20 : xs0.length ≤ 1073741824 := O20.len
   have beO20 : xss0.length ≤ 1073741824 := O20.len2
   have bdO27 : rx0.length ≤ 1073741824 := O27.len
   have beO27 : ry0.length ≤ 1073741824 := O27.len2
   have f39 : w10.cell? ⟨w5.heap.size, 0, none⟩ = some (.slice A20 xs0.length C20) := (K23.kp ((((Kp.below b26 (by omega)).trans (Kp.below b29 (by omega))).trans (Kp.below b34 (by omega))).trans (Kp.below b35e (by omega)))).cell 0
   have f40 : w10.cell? ⟨w5.heap.size, 1, none⟩ = some (.slice RA20 xss0.length RC20) := (K23.kp ((((Kp.below b26 (by omega)).trans (Kp.below b29 (by omega))).trans (Kp.below b34 (by omega))).trans (Kp.below b35e (by omega)))).cell 1
   go_wp2_with fail
   refine (markGraph_any w4.heap.size w5.heap.size A20 RA20 xs0.length xss0.length C20 RC20 (1) xs0 xss0 w10 rfl rfl (O20.kp (((((Kp.below b22 (by omega)).trans (Kp.below b26 (by omega))).trans (Kp.below b29 (by omega))).trans (Kp.below b34 (by omega))).trans (Kp.below b35e (by omega)))) (by omega) (by omega) (by omega) (by omega)).mono ?_
   rintro e w11 ⟨rfl, o42, m41⟩
   clear f39 f40
   have z10 := m41.size
   have kn1 : decide (1 + (xs0.length : Int) + ((2 * xss0.length : Nat) : Int) < 0) = false := by rw [decide_eq_false_iff_not]; omega
   have kn2 : 0 ≤ 1 + (xs0.length : Int) + ((2 * xss0.length : Nat) : Int) := by omega
   have f43 : w11.cell? ⟨w7.heap.size, 0, none⟩ = some (.slice A27 rx0.length C27) := (K30.kp (((Kp.below b34 (by omega)).trans (Kp.below b35e (by omega))).trans (Mk.kp m41 (by omega) (by omega)))).cell 0
   have f44 : w11.cell? ⟨w7.heap.size, 1, none⟩ = some (.slice RA27 ry0.length RC27) := (K30.kp (((Kp.below b34 (by omega)).trans (Kp.below b35e (by omega))).trans (Mk.kp m41 (by omega) (by omega)))).cell 1
   have f45 : w11.cell? ⟨w3.heap.size, 0, none⟩ = some (.slice A11 rx0.length C11) := (K14.kp (((((((Kp.below b19 (by omega)).trans (Kp.below b22 (by omega))).trans (Kp.below b26 (by omega))).trans (Kp.below b29 (by omega))).trans (Kp.below b34 (by omega))).trans (Kp.below b35e (by omega))).trans (Mk.kp m41 (by omega) (by omega)))).cell 0
   have f46 : w11.cell? ⟨w3.heap.size, 1, none⟩ = some (.slice RA11 ry0.length RC11) := (K14.kp (((((((Kp.below b19 (by omega)).trans (Kp.below b22 (by omega))).trans (Kp.below b26 (by omega))).trans (Kp.below b29 (by omega))).trans (Kp.below b34 (by omega))).trans (Kp.below b35e (by omega))).trans (Mk.kp m41 (by omega) (by omega)))).cell 1
   go_wp2_with fail
   refine (eqGraph_any A27 A11 RA27 RA11 C27 C11 RC27 RC11 rx0 rx0 ry0 ry0 w11 (O27.kp ((((Kp.below b29 (by omega)).trans (Kp.below b34 (by omega))).trans (Kp.below b35e (by omega))).trans (Mk.kp m41 (by omega) (by omega)))).rd (O11.kp ((((((((Kp.below b13 (by omega)).trans (Kp.below b19 (by omega))).trans (Kp.below b22 (by omega))).trans (Kp.below b26 (by omega))).trans (Kp.below b29 (by omega))).trans (Kp.below b34 (by omega))).trans (Kp.below b35e (by omega))).trans (Mk.kp m41 (by omega) (by omega)))).rd (O27.kp ((((Kp.below b29 (by omega)).trans (Kp.below b34 (by omega))).trans (Kp.below b35e (by omega))).trans (Mk.kp m41 (by omega) (by omega)))).rds (O11.kp ((((((((Kp.below b13 (by omega)).trans (Kp.below b19 (by omega))).trans (Kp.below b22 (by omega))).trans (Kp.below b26 (by omega))).trans (Kp.below b29 (by omega))).trans (Kp.below b34 (by omega))).trans (Kp.below b35e (by omega))).trans (Mk.kp m41 (by omega) (by omega)))).rds).mono ?_
   rintro e w12 ⟨rfl, b47⟩
   rw [sameG_self]
   clear f43 f44 f45 f46
   have z11 := b47.size
   have f48 : w12.cell? ⟨w7.heap.size, 0, none⟩ = some (.slice A27 rx0.length C27) := (K30.kp ((((Kp.below b34 (by omega)).trans (Kp.below b35e (by omega))).trans (Mk.kp m41 (by omega) (by omega))).trans (Kp.below b47 (by omega)))).cell 0
   have f49 : w12.cell? ⟨w7.heap.size, 1, none⟩ = some (.slice RA27 ry0.length RC27) := (K30.kp ((((Kp.below b34 (by omega)).trans (Kp.below b35e (by omega))).trans (Mk.kp m41 (by omega) (by omega))).trans (Kp.below b47 (by omega)))).cell 1
   go_wp2_with fail
   refine (markGraph_any w6.heap.size w7.heap.size A27 RA27 rx0.length ry0.length C27 RC27 (1) rx0 ry0 w12 rfl rfl (O27.kp (((((Kp.below b29 (by omega)).trans (Kp.below b34 (by omega))).trans (Kp.below b35e (by omega))).trans (Mk.kp m41 (by omega) (by omega))).trans (Kp.below b47 (by omega)))) (by omega) (by omega) (by omega) (by omega)).mono ?_
   rintro e w13 ⟨rfl, o51, m50⟩
   clear f48 f49
   have z12 := m50.size
   have kn3 : decide (1 + (rx0.length : Int) + ((2 * ry0.length : Nat) : Int) < 0) = false := by rw [decide_eq_false_iff_not]; omega
   have kn4 : 0 ≤ 1 + (rx0.length : Int) + ((2 * ry0.length : Nat) : Int) := by omega
   have kn5 : (1 + (rx0.length : Int) + ((2 * ry0.length : Nat) : Int) != 1 + (rx0.length : Int) + ((2 * ry0.length : Nat) : Int)) = false := by simp
   have f52 : w13.cell? ⟨w7.heap.size, 0, none⟩ = some (.slice A27 rx0.length C27) := (K30.kp (((((Kp.below b34 (by omega)).trans (Kp.below b35e (by omega))).trans (Mk.kp m41 (by omega) (by omega))).trans (Kp.below b47 (by omega))).trans (Mk.kp m50 (by omega) (by omega)))).cell 0
   have f53 : w13.cell? ⟨w7.heap.size, 1, none⟩ = some (.slice RA27 ry0.length RC27) := (K30.kp (((((Kp.below b34 (by omega)).trans (Kp.below b35e (by omega))).trans (Mk.kp m41 (by omega) (by omega))).trans (Kp.below b47 (by omega))).trans (Mk.kp m50 (by omega) (by omega)))).cell 1
   go_wp2_with fail
   refine (heldGraph_any A27 RA27 rx0.length ry0.length C27 RC27 1 w13 o51.rd o51.rds (by omega) (by omega)).mono ?_
   rintro e w14 ⟨rfl, b54⟩
   clear f52 f53
   have z13 := b54.size
   have f55 : w14.cell? ⟨w.heap.size, 0, none⟩ = some (.slice a0 xs0.length c0) := (kA0.kp ((((((((((((((Kp.below b3 (by omega)).trans (Kp.below b7 (by omega))).trans (Kp.below b10 (by omega))).trans (Kp.below b13 (by omega))).trans (Kp.below b19 (by omega))).trans (Kp.below b22 (by omega))).trans (Kp.below b26 (by omega))).trans (Kp.below b29 (by omega))).trans (Kp.below b34 (by omega))).trans (Kp.below b35e (by omega))).trans (Mk.kp m41 (by omega) (by omega))).trans (Kp.below b47 (by omega))).trans (Mk.kp m50 (by omega) (by omega))).trans (Kp.below b54 (by omega)))).cell 0
   have f56 : w14.cell? ⟨w.heap.size, 1, none⟩ = some (.slice ra0 xss0.length rc0) := (kA0.kp ((((((((((((((Kp.below b3 (by omega)).trans (Kp.below b7 (by omega))).trans (Kp.below b10 (by omega))).trans (Kp.below b13 (by omega))).trans (Kp.below b19 (by omega))).trans (Kp.below b22 (by omega))).trans (Kp.below b26 (by omega))).trans (Kp.below b29 (by omega))).trans (Kp.below b34 (by omega))).trans (Kp.below b35e (by omega))).trans (Mk.kp m41 (by omega) (by omega))).trans (Kp.below b47 (by omega))).trans (Mk.kp m50 (by omega) (by omega))).trans (Kp.below b54 (by omega)))).cell 1
   go_wp2_with fail
   refine (toGraph_any a0 ra0 c0 rc0 xs0 xss0 w14 (H0.kp ((((((((((((((Kp.below b3 (by omega)).trans (Kp.below b7 (by omega))).trans (Kp.below b10 (by omega))).trans (Kp.below b13 (by omega))).trans (Kp.below b19 (by omega))).trans (Kp.below b22 (by omega))).trans (Kp.below b26 (by omega))).trans (Kp.below b29 (by omega))).trans (Kp.below b34 (by omega))).trans (Kp.below b35e (by omega))).trans (Mk.kp m41 (by omega) (by omega))).trans (Kp.below b47 (by omega))).trans (Mk.kp m50 (by omega) (by omega))).trans (Kp.below b54 (by omega)))) (RR0.kp ((((((((((((((Kp.below b3 (by omega)).trans (Kp.below b7 (by omega))).trans (Kp.below b10 (by omega))).trans (Kp.below b13 (by omega))).trans (Kp.below b19 (by omega))).trans (Kp.below b22 (by omega))).trans (Kp.below b26 (by omega))).trans (Kp.below b29 (by omega))).trans (Kp.below b34 (by omega))).trans (Kp.below b35e (by omega))).trans (Mk.kp m41 (by omega) (by omega))).trans (Kp.below b47 (by omega))).trans (Mk.kp m50 (by omega) (by omega))).trans (Kp.below b54 (by omega))))).mono ?_
   rintro e w15 ⟨to57, so57, rfl, o57, b58⟩
   clear f55 f56
   have z14 := b58.size
   have o57 := o57.two
   obtain ⟨A59, C59, RA59, RC59, rfl, rfl, _, _⟩ := o57.form
   have O59 := o57.toH (by omega)
   clear o57
   go_wp2_with fail
   refine (unhide HIM A59 C59 RA59 RC59 w15 O59.rd O59.rds).mono ?_
   rintro e w16 ⟨to60, so60, rfl, o60, b61⟩
   have z15 := b61.size
   have o60 : OwnG2 w16 w15.heap.size to60 so60 rx0 ry0 := o60
   obtain ⟨A62, C62, RA62, RC62, rfl, rfl, _, _⟩ := o60.form
   have O62 := o60.toH (by omega)
   clear o60
   obtain ⟨w17, hP63⟩ : ∃ z, z = w16.alloc (.cells #[.slice A62 rx0.length C62, .slice RA62 ry0.length RC62] 30) := ⟨_, rfl⟩
   have b64 : Below w16.heap.size w16 w17 := by rw [hP63]; exact (Below.refl _ _).alloc (Nat.le_refl _) _
   have K65 : Blk w17 w16.heap.size 30 #[.slice A62 rx0.length C62, .slice RA62 ry0.length RC62] := by rw [hP63]; exact Blk.new _ _ _ rfl
   have zz16 : w16.heap.size + 1 ≤ w17.heap.size := K65.lt
   have z16 := b64.size
   have f66 : w17.cell? ⟨w3.heap.size, 0, none⟩ = some (.slice A11 rx0.length C11) := (K14.kp (((((((((((((Kp.below b19 (by omega)).trans (Kp.below b22 (by omega))).trans (Kp.below b26 (by omega))).trans (Kp.below b29 (by omega))).trans (Kp.below b34 (by omega))).trans (Kp.below b35e (by omega))).trans (Mk.kp m41 (by omega) (by omega))).trans (Kp.below b47 (by omega))).trans (Mk.kp m50 (by omega) (by omega))).trans (Kp.below b54 (by omega))).trans (Kp.below b58 (by omega))).trans (Kp.below b61 (by omega))).trans (Kp.below b64 (by omega)))).cell 0
   have f67 : w17.cell? ⟨w3.heap.size, 1, none⟩ = some (.slice RA11 ry0.length RC11) := (K14.kp (((((((((((((Kp.below b19 (by omega)).trans (Kp.below b22 (by omega))).trans (Kp.below b26 (by omega))).trans (Kp.below b29 (by omega))).trans (Kp.below b34 (by omega))).trans (Kp.below b35e (by omega))).trans (Mk.kp m41 (by omega) (by omega))).trans (Kp.below b47 (by omega))).trans (Mk.kp m50 (by omega) (by omega))).trans (Kp.below b54 (by omega))).trans (Kp.below b58 (by omega))).trans (Kp.below b61 (by omega))).trans (Kp.below b64 (by omega)))).cell 1
   rw [hP63] at f66 f67
   have HP68 := Lib.hid hP63
   clear hP63
   go_wp2_with fail
   rw [← HP68.out]
   refine (eqGraph_any A62 A11 RA62 RA11 C62 C11 RC62 RC11 rx0 rx0 ry0 ry0 w17 (O62.kp (Kp.below b64 (by omega))).rd (O11.kp ((((((((((((((Kp.below b13 (by omega)).trans (Kp.below b19 (by omega))).trans (Kp.below b22 (by omega))).trans (Kp.below b26 (by omega))).trans (Kp.below b29 (by omega))).trans (Kp.below b34 (by omega))).trans (Kp.below b35e (by omega))).trans (Mk.kp m41 (by omega) (by omega))).trans (Kp.below b47 (by omega))).trans (Mk.kp m50 (by omega) (by omega))).trans (Kp.below b54 (by omega))).trans (Kp.below b58 (by omega))).trans (Kp.below b61 (by omega))).trans (Kp.below b64 (by omega)))).rd (O62.kp (Kp.below b64 (by omega))).rds (O11.kp ((((((((((((((Kp.below b13 (by omega)).trans (Kp.below b19 (by omega))).trans (Kp.below b22 (by omega))).trans (Kp.below b26 (by omega))).trans (Kp.below b29 (by omega))).trans (Kp.below b34 (by omega))).trans (Kp.below b35e (by omega))).trans (Mk.kp m41 (by omega) (by omega))).trans (Kp.below b47 (by omega))).trans (Mk.kp m50 (by omega) (by omega))).trans (Kp.below b54 (by omega))).trans (Kp.below b58 (by omega))).trans (Kp.below b61 (by omega))).trans (Kp.below b64 (by omega)))).rds).mono ?_
   rintro e w18 ⟨rfl, b69⟩
   rw [sameG_self]
   clear f66 f67
   have z17 := b69.size
   have f70 : w18.cell? ⟨w7.heap.size, 0, none⟩ = some (.slice A27 rx0.length C27) := (K30.kp ((((((((((Kp.below b34 (by omega)).trans (Kp.below b35e (by omega))).trans (Mk.kp m41 (by omega) (by omega))).trans (Kp.below b47 (by omega))).trans (Mk.kp m50 (by omega) (by omega))).trans (Kp.below b54 (by omega))).trans (Kp.below b58 (by omega))).trans (Kp.below b61 (by omega))).trans (Kp.below b64 (by omega))).trans (Kp.below b69 (by omega)))).cell 0
   have f71 : w18.cell? ⟨w7.heap.size, 1, none⟩ = some (.slice RA27 ry0.length RC27) := (K30.kp ((((((((((Kp.below b34 (by omega)).trans (Kp.below b35e (by omega))).trans (Mk.kp m41 (by omega) (by omega))).trans (Kp.below b47 (by omega))).trans (Mk.kp m50 (by omega) (by omega))).trans (Kp.below b54 (by omega))).trans (Kp.below b58 (by omega))).trans (Kp.below b61 (by omega))).trans (Kp.below b64 (by omega))).trans (Kp.below b69 (by omega)))).cell 1
   go_wp2_with fail
   refine (heldGraph_any A27 RA27 rx0.length ry0.length C27 RC27 1 w18 (o51.kp (((((Kp.below b54 (by omega)).trans (Kp.below b58 (by omega))).trans (Kp.below b61 (by omega))).trans (Kp.below b64 (by omega))).trans (Kp.below b69 (by omega)))).rd (o51.kp (((((Kp.below b54 (by omega)).trans (Kp.below b58 (by omega))).trans (Kp.below b61 (by omega))).trans (Kp.below b64 (by omega))).trans (Kp.below b69 (by omega)))).rds (by omega) (by omega)).mono ?_
   rintro e w19 ⟨rfl, b72⟩
   clear f70 f71
   have z18 := b72.size
   go_wp2
   go_ret
   exact ⟨rfl, (((((((((((((((((((hb0.trans (b3.mono (by omega))).trans (b7.mono (by omega))).trans (b10.mono (by omega))).trans (b13.mono (by omega))).trans (b19.mono (by omega))).trans (b22.mono (by omega))).trans (b26.mono (by omega))).trans (b29.mono (by omega))).trans (b34.mono (by omega))).trans (b35e.mono (by omega))).trans (m41.1.mono (by omega))).trans (b47.mono (by omega))).trans (m50.1.mono (by omega))).trans (b54.mono (by omega))).trans (b58.mono (by omega))).trans (b61.mono (by omega))).trans (b64.mono (by omega))).trans (b69.mono (by omega))).trans (b72.mono (by omega)))⟩
 · rw [left_no g0]
   go_wp2
   go_ret
   exact ⟨rfl, (hb0.trans (b3.mono (by omega)))⟩
theorem law_FnExactComplementGraph (X0 : GRA) (w : World) (e0 : X0.ok w) :
    Calls Try.prog 4 #[X0.val] w fun e w' => e = .returned (.bool true) ∧ Below w.heap.size w w' :=
 lawComplementGraph X0.l.a X0.l.c X0.l.xs X0.r.a X0.r.c X0.r.es w e0.1.1 e0.1.2.1 e0.2.1 e0.2.2.1
namespace fnExactComplementGraph
open Go.ChangeShapes Go.WideShapes Go.ChangeAt
theorem lifted (os : Os) (started : os.Started) (H : Type) (enc : TypeId × Value → H) :
    ReturnsInHanded {} Try.checked os 4 .any (Rows.fnExactComplementGraphSpec.pre6 enc Try.prog Try.f4 Rows.fnExactComplementGraphRow.domain false) (Rows.fnExactComplementGraphSpec.post enc Try.prog Try.f4 false true false false) := by
 refine returnsInHanded_of_change (C := Try.checked) ownKnob_none started (by kernel_rfl) Try.func4
  (ChangeSpec.witness6 (enc := enc) (C := Try.checked) false ⟨#[], #[.agg #[.slice none 0 0, .slice none 0 0]], []⟩ 8 (by kernel_rfl) (by kernel_rfl) (by kernel_rfl) (by kernel_rfl)) ?_
 intro W base args ds gs before hval0 hW _ _
 have hval : ∀ (j : Nat) t v, Try.f4.params[j]? = some t → args[j]? = some v → Value.okWide Try.prog W .any base t v := hval0
 have hW' := hW
 obtain ⟨p, q, hA0, hV, rfl, hfz, hnd⟩ := hW
 have hA : DataW.TrodAll enc Try.prog W 0 (fun _ => true) true Try.f4.params.toList args.toList ds p := hA0
 rw [Try.params4] at hA hval
 obtain ⟨v0, vs0, d0, ds0, p0, q0, hargs, rfl, rfl, h0, r0⟩ := trodAll_cons hA
 obtain ⟨rfl, rfl, rfl⟩ := trodAll_nil r0
 obtain rfl : args = #[v0] := by cases args; simp_all
 obtain ⟨rfl, rfl⟩ := trodVars_none hV
 have k0 := h0
 have lt0 : ∀ x ∈ p0, x.block < W.heap.size := by obtain ⟨m, hm⟩ := k0; exact DataW.trod_lt m _ _ _ hm
 obtain ⟨X0, rfl, e0⟩ := open_gra (hval 0 25 v0 rfl rfl) h0
 clear hA0 hval0
 refine (law_FnExactComplementGraph X0  W e0).mono fun e W' ⟨he, bel⟩ => ?_
 subst he
 exact ⟨_, rfl, _, _, _, [], _, [], hW', trodAll_mk1 (shut_bool Try.underlying4 _), (trodAll_cons_mk (Below.trod laidOut_ok (by kernel_rfl) (of_decide_eq_true (by kernel_rfl)) k0 bel lt0) trodAll_mk0), rfl, bel.frame _, fun h => by cases h⟩
theorem over : Rows.fnExactComplementGraphRow.holds Try.pinned (OpenSpec.ofChange Rows.fnExactComplementGraphSpec) :=
 OpenClaim.holds_of_wide 4 Try.f4 rfl rfl rfl rfl rfl rfl rfl ⟨rfl, rfl, rfl, rfl, rfl⟩ rfl rfl rfl rfl rfl (by kernel_rfl) Try.func4 (by kernel_rfl)
  (of_decide_eq_true (by kernel_rfl)) (by unfold Func.isWrapper; first | (rw [if_pos (by decide +kernel)]; kernel_rfl) | (rw [if_neg (by decide +kernel)]; exact ⟨rfl, rfl⟩))
  (fun os started H enc _ => lifted os started H enc)
theorem proved : Rows.FnExactComplementGraphSaid := over
end fnExactComplementGraph
end Go.Proofs.Ytohghnoihbjmcaa
