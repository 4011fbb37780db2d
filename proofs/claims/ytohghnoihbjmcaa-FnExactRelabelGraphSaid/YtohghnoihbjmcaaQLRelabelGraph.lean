/-
  Proved: FnExactRelabelGraph returns true for every input and leaves its arguments as they were. No condition. Printed by gen_law3.py.
-/
import Derived.Test.YtohghnoihbjmcaaHE1
import Derived.Test.YtohghnoihbjmcaaHE3
import Derived.Test.YtohghnoihbjmcaaHE22
import Derived.Test.YtohghnoihbjmcaaHE24
set_option linter.unusedVariables false
set_option linter.unusedSimpArgs false
set_option maxRecDepth 100000
set_option maxHeartbeats 40000000
namespace Go.Proofs.Ytohghnoihbjmcaa
open Go.RowKit
attribute [local go_sem ↓] Go.wp_at_zero Go.wp_at_succ
theorem dec_self {α : Type} [DecidableEq α] (xs : α) : decide (xs = xs) = true := by simp
theorem lawRelabelGraph (a0 : Option Addr) (c0 : Nat) (xs0 : List Int) (ra0 : Option Addr) (rc0 : Nat) (xss0 : List (Int × Int)) (a1 : Option Addr) (c1 : Nat) (xs1 : List Int) (w : World) (l0 : xs0.length ≤ maxLen) (h0 : xs0.length ≤ 1048576 → Rd w a0 xs0) (m0 : xss0.length ≤ maxLen) (y0 : xss0.length ≤ 1048576 → RdE w ra0 xss0) (l1 : xs1.length ≤ maxLen) (h1 : xs1.length ≤ 1048576 → Rd w a1 xs1) :
    Calls Try.prog 9 #[.agg #[.slice a0 xs0.length c0, .slice ra0 xss0.length rc0], .slice a1 xs1.length c1] w fun e w' => e = .returned (.bool true) ∧ Below w.heap.size w w' := by
 obtain ⟨rx0, ry0, r1, hR⟩ : ∃ rx0 ry0 r1, (rlRes xs0 xss0 xs1) = (rx0, ry0, r1) := ⟨_, _, _, rfl⟩
 have hsp := fun a0' c0' ra0' rc0' a1' c1' W h0' r0' h1' => specRL_any a0' c0' xs0 ra0' rc0' xss0 a1' c1' xs1 W h0' r0' h1'  
 rw [hR] at hsp
 have HSP := hide hsp
 clear hsp
 have him := fun a0' c0' ra0' rc0' a1' c1' W h0' r0' h1' => implRL_any a0' c0' xs0 ra0' rc0' xss0 a1' c1' xs1 W h0' r0' h1'  
 rw [hR] at him
 have HIM := hide him
 clear him
 clear hR
 obtain ⟨w0, hw0⟩ : ∃ z, z = (w.alloc (.cells #[.slice a0 xs0.length c0, .slice ra0 xss0.length rc0] 25)) := ⟨_, rfl⟩
 have hb0 : Below w.heap.size w w0 := by rw [hw0]; exact ((Below.refl _ _).alloc (Nat.le_refl _) _)
 have kA0 : Blk w0 w.heap.size 25 #[.slice a0 xs0.length c0, .slice ra0 xss0.length rc0] := by rw [hw0]; exact (Blk.new _ _ _ rfl)
 have zb : w.heap.size + 1 ≤ w0.heap.size := by rw [hw0]; simp
 go_enter Try.func9, Try.ntmps9
 by_cases g1 : (xs1.length : Int) ≤ 1048576
 · skip
   have zz := szGraph_any a0 xs0.length c0 ra0 xss0.length rc0 (1048576) w0 l0 m0 (by omega) (by omega)
   have Z1 := hide zz
   clear zz
   have HP2 := Lib.hid hw0
   clear hw0
   go_wp2_with fail
   rw [← HP2.out]
   refine (unhide Z1).mono ?_
   rintro e w1 ⟨rfl, b3⟩
   have z0 := b3.size
   by_cases g0 : ((xs0.length + xss0.length : Nat) : Int) ≤ 1048576
   · rw [left_yes g0]
     have H0 := (h0 (by omega)).below hb0
     have RR0 := (y0 (by omega)).below hb0
     have H1 := (h1 (by omega)).below hb0
     clear l0 h0 m0 y0 l1 h1 
     have f4 : w1.cell? ⟨w.heap.size, 0, none⟩ = some (.slice a0 xs0.length c0) := (kA0.kp (Kp.below b3 (by omega))).cell 0
     have f5 : w1.cell? ⟨w.heap.size, 1, none⟩ = some (.slice ra0 xss0.length rc0) := (kA0.kp (Kp.below b3 (by omega))).cell 1
     go_wp2_with fail
     refine (toGraph_any a0 ra0 c0 rc0 xs0 xss0 w1 (H0.kp (Kp.below b3 (by omega))) (RR0.kp (Kp.below b3 (by omega)))).mono ?_
     rintro e w2 ⟨to6, so6, rfl, o6, b7⟩
     clear f4 f5
     have z1 := b7.size
     have o6 := o6.two
     obtain ⟨A8, C8, RA8, RC8, rfl, rfl, _, _⟩ := o6.form
     have O8 := o6.toH (by omega)
     clear o6
     go_wp2_with fail
     refine (toInt64S_any a1 c1 xs1 w2 (H1.kp ((Kp.below b3 (by omega)).trans (Kp.below b7 (by omega))))).mono ?_
     rintro e w3 ⟨to9, rfl, o9, b10⟩
     have z2 := b10.size
     obtain ⟨A11, C11, rfl, _, _⟩ := o9.form
     have O11 := o9.toH
     clear o9
     go_wp2_with fail
     refine (unhide HSP A8 C8 RA8 RC8 A11 C11 w3 (O8.kp (Kp.below b10 (by omega))).rd (O8.kp (Kp.below b10 (by omega))).rds O11.rd).mono ?_
     rintro e w4 ⟨to12, so12, rfl, o12, b13⟩
     have z3 := b13.size
     have o12 : OwnG2 w4 w3.heap.size to12 so12 rx0 ry0 := o12
     obtain ⟨A14, C14, RA14, RC14, rfl, rfl, _, _⟩ := o12.form
     have O14 := o12.toH (by omega)
     clear o12
     obtain ⟨w5, hP15⟩ : ∃ z, z = w4.alloc (.cells #[.slice A14 rx0.length C14, .slice RA14 ry0.length RC14] 30) := ⟨_, rfl⟩
     have b16 : Below w4.heap.size w4 w5 := by rw [hP15]; exact (Below.refl _ _).alloc (Nat.le_refl _) _
     have K17 : Blk w5 w4.heap.size 30 #[.slice A14 rx0.length C14, .slice RA14 ry0.length RC14] := by rw [hP15]; exact Blk.new _ _ _ rfl
     have zz4 : w4.heap.size + 1 ≤ w5.heap.size := K17.lt
     have z4 := b16.size
     have f18 : w5.cell? ⟨w.heap.size, 0, none⟩ = some (.slice a0 xs0.length c0) := (kA0.kp (((((Kp.below b3 (by omega)).trans (Kp.below b7 (by omega))).trans (Kp.below b10 (by omega))).trans (Kp.below b13 (by omega))).trans (Kp.below b16 (by omega)))).cell 0
     have f19 : w5.cell? ⟨w.heap.size, 1, none⟩ = some (.slice ra0 xss0.length rc0) := (kA0.kp (((((Kp.below b3 (by omega)).trans (Kp.below b7 (by omega))).trans (Kp.below b10 (by omega))).trans (Kp.below b13 (by omega))).trans (Kp.below b16 (by omega)))).cell 1
     rw [hP15] at f18 f19
     have HP20 := Lib.hid hP15
     clear hP15
     go_wp2_with fail
     rw [← HP20.out]
     refine (toGraph_any a0 ra0 c0 rc0 xs0 xss0 w5 (H0.kp (((((Kp.below b3 (by omega)).trans (Kp.below b7 (by omega))).trans (Kp.below b10 (by omega))).trans (Kp.below b13 (by omega))).trans (Kp.below b16 (by omega)))) (RR0.kp (((((Kp.below b3 (by omega)).trans (Kp.below b7 (by omega))).trans (Kp.below b10 (by omega))).trans (Kp.below b13 (by omega))).trans (Kp.below b16 (by omega))))).mono ?_
     rintro e w6 ⟨to21, so21, rfl, o21, b22⟩
     clear f18 f19
     have z5 := b22.size
     have o21 := o21.two
     obtain ⟨A23, C23, RA23, RC23, rfl, rfl, _, _⟩ := o21.form
     have O23 := o21.toH (by omega)
     clear o21
     obtain ⟨w7, hP24⟩ : ∃ z, z = w6.alloc (.cells #[.slice A23 xs0.length C23, .slice RA23 xss0.length RC23] 30) := ⟨_, rfl⟩
     have b25 : Below w6.heap.size w6 w7 := by rw [hP24]; exact (Below.refl _ _).alloc (Nat.le_refl _) _
     have K26 : Blk w7 w6.heap.size 30 #[.slice A23 xs0.length C23, .slice RA23 xss0.length RC23] := by rw [hP24]; exact Blk.new _ _ _ rfl
     have zz6 : w6.heap.size + 1 ≤ w7.heap.size := K26.lt
     have z6 := b25.size
     have HP27 := Lib.hid hP24
     clear hP24
     go_wp2_with fail
     rw [← HP27.out]
     refine (toInt64S_any a1 c1 xs1 w7 (H1.kp (((((((Kp.below b3 (by omega)).trans (Kp.below b7 (by omega))).trans (Kp.below b10 (by omega))).trans (Kp.below b13 (by omega))).trans (Kp.below b16 (by omega))).trans (Kp.below b22 (by omega))).trans (Kp.below b25 (by omega))))).mono ?_
     rintro e w8 ⟨to28, rfl, o28, b29⟩
     have z7 := b29.size
     obtain ⟨A30, C30, rfl, _, _⟩ := o28.form
     have O30 := o28.toH
     clear o28
     have f31 : w8.cell? ⟨w6.heap.size, 0, none⟩ = some (.slice A23 xs0.length C23) := (K26.kp (Kp.below b29 (by omega))).cell 0
     have f32 : w8.cell? ⟨w6.heap.size, 1, none⟩ = some (.slice RA23 xss0.length RC23) := (K26.kp (Kp.below b29 (by omega))).cell 1
     go_wp2_with fail
     refine (unhide HIM A23 C23 RA23 RC23 A30 C30 w8 (O23.kp ((Kp.below b25 (by omega)).trans (Kp.below b29 (by omega)))).rd (O23.kp ((Kp.below b25 (by omega)).trans (Kp.below b29 (by omega)))).rds O30.rd).mono ?_
     rintro e w9 ⟨to33, so33, rfl, o33, b34⟩
     clear f31 f32
     have z8 := b34.size
     have o33 : OwnG2 w9 w8.heap.size to33 so33 rx0 ry0 := o33
     obtain ⟨A35, C35, RA35, RC35, rfl, rfl, _, _⟩ := o33.form
     have O35 := o33.toH (by omega)
     clear o33
     obtain ⟨w10, hP36⟩ : ∃ z, z = w9.alloc (.cells #[.slice A35 rx0.length C35, .slice RA35 ry0.length RC35] 30) := ⟨_, rfl⟩
     have b37 : Below w9.heap.size w9 w10 := by rw [hP36]; exact (Below.refl _ _).alloc (Nat.le_refl _) _
     have K38 : Blk w10 w9.heap.size 30 #[.slice A35 rx0.length C35, .slice RA35 ry0.length RC35] := by rw [hP36]; exact Blk.new _ _ _ rfl
     have zz9 : w9.heap.size + 1 ≤ w10.heap.size := K38.lt
     have z9 := b37.size
     have f39 : w10.cell? ⟨w4.heap.size, 0, none⟩ = some (.slice A14 rx0.length C14) := (K17.kp (((((Kp.below b22 (by omega)).trans (Kp.below b25 (by omega))).trans (Kp.below b29 (by omega))).trans (Kp.below b34 (by omega))).trans (Kp.below b37 (by omega)))).cell 0
     have f40 : w10.cell? ⟨w4.heap.size, 1, none⟩ = some (.slice RA14 ry0.length RC14) := (K17.kp (((((Kp.below b22 (by omega)).trans (Kp.below b25 (by omega))).trans (Kp.below b29 (by omega))).trans (Kp.below b34 (by omega))).trans (Kp.below b37 (by omega)))).cell 1
     rw [hP36] at f39 f40
     have HP41 := Lib.hid hP36
     clear hP36
     go_wp2_with fail
     rw [← HP41.out]
     refine (eqGraph_any A35 A14 RA35 RA14 C35 C14 RC35 RC14 rx0 rx0 ry0 ry0 w10 (O35.kp (Kp.below b37 (by omega))).rd (O14.kp ((((((Kp.below b16 (by omega)).trans (Kp.below b22 (by omega))).trans (Kp.below b25 (by omega))).trans (Kp.below b29 (by omega))).trans (Kp.below b34 (by omega))).trans (Kp.below b37 (by omega)))).rd (O35.kp (Kp.below b37 (by omega))).rds (O14.kp ((((((Kp.below b16 (by omega)).trans (Kp.below b22 (by omega))).trans (Kp.below b25 (by omega))).trans (Kp.below b29 (by omega))).trans (Kp.below b34 (by omega))).trans (Kp.below b37 (by omega)))).rds).mono ?_
     rintro e w11 ⟨rfl, b42⟩
     rw [sameG_self]
     clear f39 f40
     have z10 := b42.size
     have Y43 := (O23.kp (((((Kp.below b25 (by omega)).trans (Kp.below b29 (by omega))).trans (Kp.below b34 (by omega))).trans (Kp.below b37 (by omega))).trans (Kp.below b42 (by omega)))).rd
     have YY43 := (O23.kp (((((Kp.below b25 (by omega)).trans (Kp.below b29 (by omega))).trans (Kp.below b34 (by omega))).trans (Kp.below b37 (by omega))).trans (Kp.below b42 (by omega)))).rds
     have X43h := (H0.kp (((((((((((Kp.below b3 (by omega)).trans (Kp.below b7 (by omega))).trans (Kp.below b10 (by omega))).trans (Kp.below b13 (by omega))).trans (Kp.below b16 (by omega))).trans (Kp.below b22 (by omega))).trans (Kp.below b25 (by omega))).trans (Kp.below b29 (by omega))).trans (Kp.below b34 (by omega))).trans (Kp.below b37 (by omega))).trans (Kp.below b42 (by omega))))
     have X43r := (RR0.kp (((((((((((Kp.below b3 (by omega)).trans (Kp.below b7 (by omega))).trans (Kp.below b10 (by omega))).trans (Kp.below b13 (by omega))).trans (Kp.below b16 (by omega))).trans (Kp.below b22 (by omega))).trans (Kp.below b25 (by omega))).trans (Kp.below b29 (by omega))).trans (Kp.below b34 (by omega))).trans (Kp.below b37 (by omega))).trans (Kp.below b42 (by omega))))
     have K44 := (K26.kp ((((Kp.below b29 (by omega)).trans (Kp.below b34 (by omega))).trans (Kp.below b37 (by omega))).trans (Kp.below b42 (by omega))))
     have K45 := (kA0.kp (((((((((((Kp.below b3 (by omega)).trans (Kp.below b7 (by omega))).trans (Kp.below b10 (by omega))).trans (Kp.below b13 (by omega))).trans (Kp.below b16 (by omega))).trans (Kp.below b22 (by omega))).trans (Kp.below b25 (by omega))).trans (Kp.below b29 (by omega))).trans (Kp.below b34 (by omega))).trans (Kp.below b37 (by omega))).trans (Kp.below b42 (by omega))))
     have BX46' : ∀ (W : World), Below w11.heap.size w11 W → (Below w11.heap.size w11 W ∧ W.cell? ⟨w6.heap.size, 0, none⟩ = some (.slice A23 xs0.length C23) ∧ W.cell? ⟨w6.heap.size, 1, none⟩ = some (.slice RA23 xss0.length RC23) ∧ W.cell? ⟨w.heap.size, 0, none⟩ = some (.slice a0 xs0.length c0) ∧ W.cell? ⟨w.heap.size, 1, none⟩ = some (.slice ra0 xss0.length rc0)) := fun _ h => ⟨h, (K44.below h K44.lt).cell 0, (K44.below h K44.lt).cell 1, (K45.below h K45.lt).cell 0, (K45.below h K45.lt).cell 1⟩
     have BX46 := hide BX46'
     clear BX46'
     go_upto_region 13 with fail
     go_region_held3 (fun W => Below w11.heap.size w11 W ∧ W.cell? ⟨w6.heap.size, 0, none⟩ = some (.slice A23 xs0.length C23) ∧ W.cell? ⟨w6.heap.size, 1, none⟩ = some (.slice RA23 xss0.length RC23) ∧ W.cell? ⟨w.heap.size, 0, none⟩ = some (.slice a0 xs0.length c0) ∧ W.cell? ⟨w.heap.size, 1, none⟩ = some (.slice ra0 xss0.length rc0))
      (first | exact (unhide BX46) _ (Below.refl _ _) | exact (unhide BX46) _ ((Below.refl _ _).drew) | exact (unhide BX46) _ (by assumption))
      (first
       | (go_at_call_of 13 (Value.slice a0 xs0.length c0); refine (toGraph_any a0 ra0 c0 rc0 xs0 xss0 _ ?_ ?_).mono ?_; exact X43h.below (And.left (by assumption)); exact X43r.below (And.left (by assumption)); rintro e W43 ⟨t43, s43, rfl, o43, bb43⟩; obtain ⟨A43, C43, RA43, RC43, rfl, rfl, rr43, rs43⟩ := o43.form; have hB43 := Below.chain (a := w11) (And.left (by assumption)) bb43)
       | (go_at_call 15; refine (eqGraph_any A23 A43 RA23 RA43 C23 C43 RC23 RC43 xs0 xs0 xss0 xss0 _ (Y43.below hB43) rr43 (YY43.below hB43) rs43).mono ?_; rintro e w12 ⟨rfl, bc43⟩; have b43e := Below.chain hB43 bc43; rw [sameG_self]))
     clear BX46
     have z11 := b43e.size
     go_wp2_with fail
     refine (toInt64S_any a1 c1 xs1 w12 (H1.kp ((((((((((((Kp.below b3 (by omega)).trans (Kp.below b7 (by omega))).trans (Kp.below b10 (by omega))).trans (Kp.below b13 (by omega))).trans (Kp.below b16 (by omega))).trans (Kp.below b22 (by omega))).trans (Kp.below b25 (by omega))).trans (Kp.below b29 (by omega))).trans (Kp.below b34 (by omega))).trans (Kp.below b37 (by omega))).trans (Kp.below b42 (by omega))).trans (Kp.below b43e (by omega))))).mono ?_
     rintro e w13 ⟨to47, rfl, o47, b48⟩
     have z12 := b48.size
     obtain ⟨A49, C49, rfl, _, _⟩ := o47.form
     have O49 := o47.toH
     clear o47
     go_wp2_with fail
     refine (eqInt64S_any A30 A49 C30 C49 xs1 xs1 w13 (O30.kp (((((Kp.below b34 (by omega)).trans (Kp.below b37 (by omega))).trans (Kp.below b42 (by omega))).trans (Kp.below b43e (by omega))).trans (Kp.below b48 (by omega)))).rd O49.rd).mono ?_
     rintro e w14 ⟨rfl, b50'⟩
     have b50 := b50'.below w13.heap.size
     clear b50'
     rw [dec_self]
     have z13 := b50.size
     have bdO23 : xs0.length ≤ 1073741824 := O23.len
     have beO23 : xss0.length ≤ 1073741824 := O23.len2
     have bdO30 : xs1.length ≤ 1073741824 := O30.1.1
     have bdO35 : rx0.length ≤ 1073741824 := O35.len
     have beO35 : ry0.length ≤ 1073741824 := O35.len2
     have f51 : w14.cell? ⟨w6.heap.size, 0, none⟩ = some (.slice A23 xs0.length C23) := (K26.kp (((((((Kp.below b29 (by omega)).trans (Kp.below b34 (by omega))).trans (Kp.below b37 (by omega))).trans (Kp.below b42 (by omega))).trans (Kp.below b43e (by omega))).trans (Kp.below b48 (by omega))).trans (Kp.below b50 (by omega)))).cell 0
     have f52 : w14.cell? ⟨w6.heap.size, 1, none⟩ = some (.slice RA23 xss0.length RC23) := (K26.kp (((((((Kp.below b29 (by omega)).trans (Kp.below b34 (by omega))).trans (Kp.below b37 (by omega))).trans (Kp.below b42 (by omega))).trans (Kp.below b43e (by omega))).trans (Kp.below b48 (by omega))).trans (Kp.below b50 (by omega)))).cell 1
     go_wp2_with fail
     refine (markGraph_any w5.heap.size w6.heap.size A23 RA23 xs0.length xss0.length C23 RC23 (1) xs0 xss0 w14 rfl rfl (O23.kp ((((((((Kp.below b25 (by omega)).trans (Kp.below b29 (by omega))).trans (Kp.below b34 (by omega))).trans (Kp.below b37 (by omega))).trans (Kp.below b42 (by omega))).trans (Kp.below b43e (by omega))).trans (Kp.below b48 (by omega))).trans (Kp.below b50 (by omega)))) (by omega) (by omega) (by omega) (by omega)).mono ?_
     rintro e w15 ⟨rfl, o54, m53⟩
     clear f51 f52
     have z14 := m53.size
     go_wp2_with fail
     refine (markH_any w7.heap.size w8.heap.size (.slice A30 xs1.length C30) (1 + (xs0.length : Int) + ((2 * xss0.length : Nat) : Int)) xs1 w15 (O30.kp (((((((Kp.below b34 (by omega)).trans (Kp.below b37 (by omega))).trans (Kp.below b42 (by omega))).trans (Kp.below b43e (by omega))).trans (Kp.below b48 (by omega))).trans (Kp.below b50 (by omega))).trans (Mk.kp m53 (by omega) (by omega)))) (by omega) (by omega) (by omega)).mono ?_
     rintro e w16 ⟨rfl, o56, _, m55⟩
     have z15 := m55.size
     have kn1 : decide (1 + (xs0.length : Int) + ((2 * xss0.length : Nat) : Int) + (xs1.length : Int) < 0) = false := by rw [decide_eq_false_iff_not]; omega
     have kn2 : 0 ≤ 1 + (xs0.length : Int) + ((2 * xss0.length : Nat) : Int) + (xs1.length : Int) := by omega
     have f57 : w16.cell? ⟨w9.heap.size, 0, none⟩ = some (.slice A35 rx0.length C35) := (K38.kp ((((((Kp.below b42 (by omega)).trans (Kp.below b43e (by omega))).trans (Kp.below b48 (by omega))).trans (Kp.below b50 (by omega))).trans (Mk.kp m53 (by omega) (by omega))).trans (Mk.kp m55 (by omega) (by omega)))).cell 0
     have f58 : w16.cell? ⟨w9.heap.size, 1, none⟩ = some (.slice RA35 ry0.length RC35) := (K38.kp ((((((Kp.below b42 (by omega)).trans (Kp.below b43e (by omega))).trans (Kp.below b48 (by omega))).trans (Kp.below b50 (by omega))).trans (Mk.kp m53 (by omega) (by omega))).trans (Mk.kp m55 (by omega) (by omega)))).cell 1
     have f59 : w16.cell? ⟨w4.heap.size, 0, none⟩ = some (.slice A14 rx0.length C14) := (K17.kp (((((((((((Kp.below b22 (by omega)).trans (Kp.below b25 (by omega))).trans (Kp.below b29 (by omega))).trans (Kp.below b34 (by omega))).trans (Kp.below b37 (by omega))).trans (Kp.below b42 (by omega))).trans (Kp.below b43e (by omega))).trans (Kp.below b48 (by omega))).trans (Kp.below b50 (by omega))).trans (Mk.kp m53 (by omega) (by omega))).trans (Mk.kp m55 (by omega) (by omega)))).cell 0
     have f60 : w16.cell? ⟨w4.heap.size, 1, none⟩ = some (.slice RA14 ry0.length RC14) := (K17.kp (((((((((((Kp.below b22 (by omega)).trans (Kp.below b25 (by omega))).trans (Kp.below b29 (by omega))).trans (Kp.below b34 (by omega))).trans (Kp.below b37 (by omega))).trans (Kp.below b42 (by omega))).trans (Kp.below b43e (by omega))).trans (Kp.below b48 (by omega))).trans (Kp.below b50 (by omega))).trans (Mk.kp m53 (by omega) (by omega))).trans (Mk.kp m55 (by omega) (by omega)))).cell 1
     go_wp2_with fail
     refine (eqGraph_any A35 A14 RA35 RA14 C35 C14 RC35 RC14 rx0 rx0 ry0 ry0 w16 (O35.kp (((((((Kp.below b37 (by omega)).trans (Kp.below b42 (by omega))).trans (Kp.below b43e (by omega))).trans (Kp.below b48 (by omega))).trans (Kp.below b50 (by omega))).trans (Mk.kp m53 (by omega) (by omega))).trans (Mk.kp m55 (by omega) (by omega)))).rd (O14.kp ((((((((((((Kp.below b16 (by omega)).trans (Kp.below b22 (by omega))).trans (Kp.below b25 (by omega))).trans (Kp.below b29 (by omega))).trans (Kp.below b34 (by omega))).trans (Kp.below b37 (by omega))).trans (Kp.below b42 (by omega))).trans (Kp.below b43e (by omega))).trans (Kp.below b48 (by omega))).trans (Kp.below b50 (by omega))).trans (Mk.kp m53 (by omega) (by omega))).trans (Mk.kp m55 (by omega) (by omega)))).rd (O35.kp (((((((Kp.below b37 (by omega)).trans (Kp.below b42 (by omega))).trans (Kp.below b43e (by omega))).trans (Kp.below b48 (by omega))).trans (Kp.below b50 (by omega))).trans (Mk.kp m53 (by omega) (by omega))).trans (Mk.kp m55 (by omega) (by omega)))).rds (O14.kp ((((((((((((Kp.below b16 (by omega)).trans (Kp.below b22 (by omega))).trans (Kp.below b25 (by omega))).trans (Kp.below b29 (by omega))).trans (Kp.below b34 (by omega))).trans (Kp.below b37 (by omega))).trans (Kp.below b42 (by omega))).trans (Kp.below b43e (by omega))).trans (Kp.below b48 (by omega))).trans (Kp.below b50 (by omega))).trans (Mk.kp m53 (by omega) (by omega))).trans (Mk.kp m55 (by omega) (by omega)))).rds).mono ?_
     rintro e w17 ⟨rfl, b61⟩
     rw [sameG_self]
     clear f57 f58 f59 f60
     have z16 := b61.size
     have f62 : w17.cell? ⟨w9.heap.size, 0, none⟩ = some (.slice A35 rx0.length C35) := (K38.kp (((((((Kp.below b42 (by omega)).trans (Kp.below b43e (by omega))).trans (Kp.below b48 (by omega))).trans (Kp.below b50 (by omega))).trans (Mk.kp m53 (by omega) (by omega))).trans (Mk.kp m55 (by omega) (by omega))).trans (Kp.below b61 (by omega)))).cell 0
     have f63 : w17.cell? ⟨w9.heap.size, 1, none⟩ = some (.slice RA35 ry0.length RC35) := (K38.kp (((((((Kp.below b42 (by omega)).trans (Kp.below b43e (by omega))).trans (Kp.below b48 (by omega))).trans (Kp.below b50 (by omega))).trans (Mk.kp m53 (by omega) (by omega))).trans (Mk.kp m55 (by omega) (by omega))).trans (Kp.below b61 (by omega)))).cell 1
     go_wp2_with fail
     refine (markGraph_any w8.heap.size w9.heap.size A35 RA35 rx0.length ry0.length C35 RC35 (1) rx0 ry0 w17 rfl rfl (O35.kp ((((((((Kp.below b37 (by omega)).trans (Kp.below b42 (by omega))).trans (Kp.below b43e (by omega))).trans (Kp.below b48 (by omega))).trans (Kp.below b50 (by omega))).trans (Mk.kp m53 (by omega) (by omega))).trans (Mk.kp m55 (by omega) (by omega))).trans (Kp.below b61 (by omega)))) (by omega) (by omega) (by omega) (by omega)).mono ?_
     rintro e w18 ⟨rfl, o65, m64⟩
     clear f62 f63
     have z17 := m64.size
     have kn3 : decide (1 + (rx0.length : Int) + ((2 * ry0.length : Nat) : Int) < 0) = false := by rw [decide_eq_false_iff_not]; omega
     have kn4 : 0 ≤ 1 + (rx0.length : Int) + ((2 * ry0.length : Nat) : Int) := by omega
     have kn5 : (1 + (rx0.length : Int) + ((2 * ry0.length : Nat) : Int) != 1 + (rx0.length : Int) + ((2 * ry0.length : Nat) : Int)) = false := by simp
     have f66 : w18.cell? ⟨w9.heap.size, 0, none⟩ = some (.slice A35 rx0.length C35) := (K38.kp ((((((((Kp.below b42 (by omega)).trans (Kp.below b43e (by omega))).trans (Kp.below b48 (by omega))).trans (Kp.below b50 (by omega))).trans (Mk.kp m53 (by omega) (by omega))).trans (Mk.kp m55 (by omega) (by omega))).trans (Kp.below b61 (by omega))).trans (Mk.kp m64 (by omega) (by omega)))).cell 0
     have f67 : w18.cell? ⟨w9.heap.size, 1, none⟩ = some (.slice RA35 ry0.length RC35) := (K38.kp ((((((((Kp.below b42 (by omega)).trans (Kp.below b43e (by omega))).trans (Kp.below b48 (by omega))).trans (Kp.below b50 (by omega))).trans (Mk.kp m53 (by omega) (by omega))).trans (Mk.kp m55 (by omega) (by omega))).trans (Kp.below b61 (by omega))).trans (Mk.kp m64 (by omega) (by omega)))).cell 1
     go_wp2_with fail
     refine (heldGraph_any A35 RA35 rx0.length ry0.length C35 RC35 1 w18 o65.rd o65.rds (by omega) (by omega)).mono ?_
     rintro e w19 ⟨rfl, b68⟩
     clear f66 f67
     have z18 := b68.size
     have f69 : w19.cell? ⟨w.heap.size, 0, none⟩ = some (.slice a0 xs0.length c0) := (kA0.kp (((((((((((((((((((Kp.below b3 (by omega)).trans (Kp.below b7 (by omega))).trans (Kp.below b10 (by omega))).trans (Kp.below b13 (by omega))).trans (Kp.below b16 (by omega))).trans (Kp.below b22 (by omega))).trans (Kp.below b25 (by omega))).trans (Kp.below b29 (by omega))).trans (Kp.below b34 (by omega))).trans (Kp.below b37 (by omega))).trans (Kp.below b42 (by omega))).trans (Kp.below b43e (by omega))).trans (Kp.below b48 (by omega))).trans (Kp.below b50 (by omega))).trans (Mk.kp m53 (by omega) (by omega))).trans (Mk.kp m55 (by omega) (by omega))).trans (Kp.below b61 (by omega))).trans (Mk.kp m64 (by omega) (by omega))).trans (Kp.below b68 (by omega)))).cell 0
     have f70 : w19.cell? ⟨w.heap.size, 1, none⟩ = some (.slice ra0 xss0.length rc0) := (kA0.kp (((((((((((((((((((Kp.below b3 (by omega)).trans (Kp.below b7 (by omega))).trans (Kp.below b10 (by omega))).trans (Kp.below b13 (by omega))).trans (Kp.below b16 (by omega))).trans (Kp.below b22 (by omega))).trans (Kp.below b25 (by omega))).trans (Kp.below b29 (by omega))).trans (Kp.below b34 (by omega))).trans (Kp.below b37 (by omega))).trans (Kp.below b42 (by omega))).trans (Kp.below b43e (by omega))).trans (Kp.below b48 (by omega))).trans (Kp.below b50 (by omega))).trans (Mk.kp m53 (by omega) (by omega))).trans (Mk.kp m55 (by omega) (by omega))).trans (Kp.below b61 (by omega))).trans (Mk.kp m64 (by omega) (by omega))).trans (Kp.below b68 (by omega)))).cell 1
     go_wp2_with fail
     refine (toGraph_any a0 ra0 c0 rc0 xs0 xss0 w19 (H0.kp (((((((((((((((((((Kp.below b3 (by omega)).trans (Kp.below b7 (by omega))).trans (Kp.below b10 (by omega))).trans (Kp.below b13 (by omega))).trans (Kp.below b16 (by omega))).trans (Kp.below b22 (by omega))).trans (Kp.below b25 (by omega))).trans (Kp.below b29 (by omega))).trans (Kp.below b34 (by omega))).trans (Kp.below b37 (by omega))).trans (Kp.below b42 (by omega))).trans (Kp.below b43e (by omega))).trans (Kp.below b48 (by omega))).trans (Kp.below b50 (by omega))).trans (Mk.kp m53 (by omega) (by omega))).trans (Mk.kp m55 (by omega) (by omega))).trans (Kp.below b61 (by omega))).trans (Mk.kp m64 (by omega) (by omega))).trans (Kp.below b68 (by omega)))) (RR0.kp (((((((((((((((((((Kp.below b3 (by omega)).trans (Kp.below b7 (by omega))).trans (Kp.below b10 (by omega))).trans (Kp.below b13 (by omega))).trans (Kp.below b16 (by omega))).trans (Kp.below b22 (by omega))).trans (Kp.below b25 (by omega))).trans (Kp.below b29 (by omega))).trans (Kp.below b34 (by omega))).trans (Kp.below b37 (by omega))).trans (Kp.below b42 (by omega))).trans (Kp.below b43e (by omega))).trans (Kp.below b48 (by omega))).trans (Kp.below b50 (by omega))).trans (Mk.kp m53 (by omega) (by omega))).trans (Mk.kp m55 (by omega) (by omega))).trans (Kp.below b61 (by omega))).trans (Mk.kp m64 (by omega) (by omega))).trans (Kp.below b68 (by omega))))).mono ?_
     rintro e w20 ⟨to71, so71, rfl, o71, b72⟩
     clear f69 f70
     have z19 := b72.size
     have o71 := o71.two
     obtain ⟨A73, C73, RA73, RC73, rfl, rfl, _, _⟩ := o71.form
     have O73 := o71.toH (by omega)
     clear o71
     go_wp2_with fail
     refine (toInt64S_any a1 c1 xs1 w20 (H1.kp ((((((((((((((((((((Kp.below b3 (by omega)).trans (Kp.below b7 (by omega))).trans (Kp.below b10 (by omega))).trans (Kp.below b13 (by omega))).trans (Kp.below b16 (by omega))).trans (Kp.below b22 (by omega))).trans (Kp.below b25 (by omega))).trans (Kp.below b29 (by omega))).trans (Kp.below b34 (by omega))).trans (Kp.below b37 (by omega))).trans (Kp.below b42 (by omega))).trans (Kp.below b43e (by omega))).trans (Kp.below b48 (by omega))).trans (Kp.below b50 (by omega))).trans (Mk.kp m53 (by omega) (by omega))).trans (Mk.kp m55 (by omega) (by omega))).trans (Kp.below b61 (by omega))).trans (Mk.kp m64 (by omega) (by omega))).trans (Kp.below b68 (by omega))).trans (Kp.below b72 (by omega))))).mono ?_
     rintro e w21 ⟨to74, rfl, o74, b75⟩
     have z20 := b75.size
     obtain ⟨A76, C76, rfl, _, _⟩ := o74.form
     have O76 := o74.toH
     clear o74
     go_wp2_with fail
     refine (unhide HIM A73 C73 RA73 RC73 A76 C76 w21 (O73.kp (Kp.below b75 (by omega))).rd (O73.kp (Kp.below b75 (by omega))).rds O76.rd).mono ?_
     rintro e w22 ⟨to77, so77, rfl, o77, b78⟩
     have z21 := b78.size
     have o77 : OwnG2 w22 w21.heap.size to77 so77 rx0 ry0 := o77
     obtain ⟨A79, C79, RA79, RC79, rfl, rfl, _, _⟩ := o77.form
     have O79 := o77.toH (by omega)
     clear o77
     obtain ⟨w23, hP80⟩ : ∃ z, z = w22.alloc (.cells #[.slice A79 rx0.length C79, .slice RA79 ry0.length RC79] 30) := ⟨_, rfl⟩
     have b81 : Below w22.heap.size w22 w23 := by rw [hP80]; exact (Below.refl _ _).alloc (Nat.le_refl _) _
     have K82 : Blk w23 w22.heap.size 30 #[.slice A79 rx0.length C79, .slice RA79 ry0.length RC79] := by rw [hP80]; exact Blk.new _ _ _ rfl
     have zz22 : w22.heap.size + 1 ≤ w23.heap.size := K82.lt
     have z22 := b81.size
     have f83 : w23.cell? ⟨w4.heap.size, 0, none⟩ = some (.slice A14 rx0.length C14) := (K17.kp ((((((((((((((((((Kp.below b22 (by omega)).trans (Kp.below b25 (by omega))).trans (Kp.below b29 (by omega))).trans (Kp.below b34 (by omega))).trans (Kp.below b37 (by omega))).trans (Kp.below b42 (by omega))).trans (Kp.below b43e (by omega))).trans (Kp.below b48 (by omega))).trans (Kp.below b50 (by omega))).trans (Mk.kp m53 (by omega) (by omega))).trans (Mk.kp m55 (by omega) (by omega))).trans (Kp.below b61 (by omega))).trans (Mk.kp m64 (by omega) (by omega))).trans (Kp.below b68 (by omega))).trans (Kp.below b72 (by omega))).trans (Kp.below b75 (by omega))).trans (Kp.below b78 (by omega))).trans (Kp.below b81 (by omega)))).cell 0
     have f84 : w23.cell? ⟨w4.heap.size, 1, none⟩ = some (.slice RA14 ry0.length RC14) := (K17.kp ((((((((((((((((((Kp.below b22 (by omega)).trans (Kp.below b25 (by omega))).trans (Kp.below b29 (by omega))).trans (Kp.below b34 (by omega))).trans (Kp.below b37 (by omega))).trans (Kp.below b42 (by omega))).trans (Kp.below b43e (by omega))).trans (Kp.below b48 (by omega))).trans (Kp.below b50 (by omega))).trans (Mk.kp m53 (by omega) (by omega))).trans (Mk.kp m55 (by omega) (by omega))).trans (Kp.below b61 (by omega))).trans (Mk.kp m64 (by omega) (by omega))).trans (Kp.below b68 (by omega))).trans (Kp.below b72 (by omega))).trans (Kp.below b75 (by omega))).trans (Kp.below b78 (by omega))).trans (Kp.below b81 (by omega)))).cell 1
     rw [hP80] at f83 f84
     have HP85 := Lib.hid hP80
     clear hP80
     go_wp2_with fail
     rw [← HP85.out]
     refine (eqGraph_any A79 A14 RA79 RA14 C79 C14 RC79 RC14 rx0 rx0 ry0 ry0 w23 (O79.kp (Kp.below b81 (by omega))).rd (O14.kp (((((((((((((((((((Kp.below b16 (by omega)).trans (Kp.below b22 (by omega))).trans (Kp.below b25 (by omega))).trans (Kp.below b29 (by omega))).trans (Kp.below b34 (by omega))).trans (Kp.below b37 (by omega))).trans (Kp.below b42 (by omega))).trans (Kp.below b43e (by omega))).trans (Kp.below b48 (by omega))).trans (Kp.below b50 (by omega))).trans (Mk.kp m53 (by omega) (by omega))).trans (Mk.kp m55 (by omega) (by omega))).trans (Kp.below b61 (by omega))).trans (Mk.kp m64 (by omega) (by omega))).trans (Kp.below b68 (by omega))).trans (Kp.below b72 (by omega))).trans (Kp.below b75 (by omega))).trans (Kp.below b78 (by omega))).trans (Kp.below b81 (by omega)))).rd (O79.kp (Kp.below b81 (by omega))).rds (O14.kp (((((((((((((((((((Kp.below b16 (by omega)).trans (Kp.below b22 (by omega))).trans (Kp.below b25 (by omega))).trans (Kp.below b29 (by omega))).trans (Kp.below b34 (by omega))).trans (Kp.below b37 (by omega))).trans (Kp.below b42 (by omega))).trans (Kp.below b43e (by omega))).trans (Kp.below b48 (by omega))).trans (Kp.below b50 (by omega))).trans (Mk.kp m53 (by omega) (by omega))).trans (Mk.kp m55 (by omega) (by omega))).trans (Kp.below b61 (by omega))).trans (Mk.kp m64 (by omega) (by omega))).trans (Kp.below b68 (by omega))).trans (Kp.below b72 (by omega))).trans (Kp.below b75 (by omega))).trans (Kp.below b78 (by omega))).trans (Kp.below b81 (by omega)))).rds).mono ?_
     rintro e w24 ⟨rfl, b86⟩
     rw [sameG_self]
     clear f83 f84
     have z23 := b86.size
     have f87 : w24.cell? ⟨w9.heap.size, 0, none⟩ = some (.slice A35 rx0.length C35) := (K38.kp ((((((((((((((Kp.below b42 (by omega)).trans (Kp.below b43e (by omega))).trans (Kp.below b48 (by omega))).trans (Kp.below b50 (by omega))).trans (Mk.kp m53 (by omega) (by omega))).trans (Mk.kp m55 (by omega) (by omega))).trans (Kp.below b61 (by omega))).trans (Mk.kp m64 (by omega) (by omega))).trans (Kp.below b68 (by omega))).trans (Kp.below b72 (by omega))).trans (Kp.below b75 (by omega))).trans (Kp.below b78 (by omega))).trans (Kp.below b81 (by omega))).trans (Kp.below b86 (by omega)))).cell 0
     have f88 : w24.cell? ⟨w9.heap.size, 1, none⟩ = some (.slice RA35 ry0.length RC35) := (K38.kp ((((((((((((((Kp.below b42 (by omega)).trans (Kp.below b43e (by omega))).trans (Kp.below b48 (by omega))).trans (Kp.below b50 (by omega))).trans (Mk.kp m53 (by omega) (by omega))).trans (Mk.kp m55 (by omega) (by omega))).trans (Kp.below b61 (by omega))).trans (Mk.kp m64 (by omega) (by omega))).trans (Kp.below b68 (by omega))).trans (Kp.below b72 (by omega))).trans (Kp.below b75 (by omega))).trans (Kp.below b78 (by omega))).trans (Kp.below b81 (by omega))).trans (Kp.below b86 (by omega)))).cell 1
     go_wp2_with fail
     refine (heldGraph_any A35 RA35 rx0.length ry0.length C35 RC35 1 w24 (o65.kp ((((((Kp.below b68 (by omega)).trans (Kp.below b72 (by omega))).trans (Kp.below b75 (by omega))).trans (Kp.below b78 (by omega))).trans (Kp.below b81 (by omega))).trans (Kp.below b86 (by omega)))).rd (o65.kp ((((((Kp.below b68 (by omega)).trans (Kp.below b72 (by omega))).trans (Kp.below b75 (by omega))).trans (Kp.below b78 (by omega))).trans (Kp.below b81 (by omega))).trans (Kp.below b86 (by omega)))).rds (by omega) (by omega)).mono ?_
     rintro e w25 ⟨rfl, b89⟩
     clear f87 f88
     have z24 := b89.size
     go_wp2
     go_ret
     exact ⟨rfl, (((((((((((((((((((((((((hb0.trans (b3.mono (by omega))).trans (b7.mono (by omega))).trans (b10.mono (by omega))).trans (b13.mono (by omega))).trans (b16.mono (by omega))).trans (b22.mono (by omega))).trans (b25.mono (by omega))).trans (b29.mono (by omega))).trans (b34.mono (by omega))).trans (b37.mono (by omega))).trans (b42.mono (by omega))).trans (b43e.mono (by omega))).trans (b48.mono (by omega))).trans (b50.mono (by omega))).trans (m53.1.mono (by omega))).trans (m55.1.mono (by omega))).trans (b61.mono (by omega))).trans (m64.1.mono (by omega))).trans (b68.mono (by omega))).trans (b72.mono (by omega))).trans (b75.mono (by omega))).trans (b78.mono (by omega))).trans (b81.mono (by omega))).trans (b86.mono (by omega))).trans (b89.mono (by omega)))⟩
   · rw [left_no g0]
     go_wp2
     go_ret
     exact ⟨rfl, (hb0.trans (b3.mono (by omega)))⟩
 · go_wp2
   go_ret
   exact ⟨rfl, by rw [← hw0]; exact hb0⟩
theorem law_FnExactRelabelGraph (X0 : GRA) (X1 : SL) (w : World) (e0 : X0.ok w) (e1 : X1.ok w) :
    Calls Try.prog 9 #[X0.val, X1.val] w fun e w' => e = .returned (.bool true) ∧ Below w.heap.size w w' :=
 lawRelabelGraph X0.l.a X0.l.c X0.l.xs X0.r.a X0.r.c X0.r.es X1.a X1.c X1.xs w e0.1.1 e0.1.2.1 e0.2.1 e0.2.2.1 e1.1 e1.2.1
namespace fnExactRelabelGraph
open Go.ChangeShapes Go.WideShapes Go.ChangeAt
theorem lifted (os : Os) (started : os.Started) (H : Type) (enc : TypeId × Value → H) :
    ReturnsInHanded {} Try.checked os 9 .any (Rows.fnExactRelabelGraphSpec.pre6 enc Try.prog Try.f9 Rows.fnExactRelabelGraphRow.domain false) (Rows.fnExactRelabelGraphSpec.post enc Try.prog Try.f9 false true false false) := by
 refine returnsInHanded_of_change (C := Try.checked) ownKnob_none started (by kernel_rfl) Try.func9
  (ChangeSpec.witness6 (enc := enc) (C := Try.checked) false ⟨#[], #[.agg #[.slice none 0 0, .slice none 0 0], .slice none 0 0], []⟩ 8 (by kernel_rfl) (by kernel_rfl) (by kernel_rfl) (by kernel_rfl)) ?_
 intro W base args ds gs before hval0 hW _ _
 have hval : ∀ (j : Nat) t v, Try.f9.params[j]? = some t → args[j]? = some v → Value.okWide Try.prog W .any base t v := hval0
 have hW' := hW
 obtain ⟨p, q, hA0, hV, rfl, hfz, hnd⟩ := hW
 have hA : DataW.TrodAll enc Try.prog W 0 (fun _ => true) true Try.f9.params.toList args.toList ds p := hA0
 rw [Try.params9] at hA hval
 obtain ⟨v0, vs0, d0, ds0, p0, q0, hargs, rfl, rfl, h0, r0⟩ := trodAll_cons hA
 obtain ⟨v1, vs1, d1, ds1, p1, q1, rfl, rfl, rfl, h1, r1⟩ := trodAll_cons r0
 obtain ⟨rfl, rfl, rfl⟩ := trodAll_nil r1
 obtain rfl : args = #[v0, v1] := by cases args; simp_all
 obtain ⟨rfl, rfl⟩ := trodVars_none hV
 have k0 := h0
 have lt0 : ∀ x ∈ p0, x.block < W.heap.size := by obtain ⟨m, hm⟩ := k0; exact DataW.trod_lt m _ _ _ hm
 obtain ⟨X0, rfl, e0⟩ := open_gra (hval 0 25 v0 rfl rfl) h0
 have k1 := h1
 have lt1 : ∀ x ∈ p1, x.block < W.heap.size := by obtain ⟨m, hm⟩ := k1; exact DataW.trod_lt m _ _ _ hm
 obtain ⟨X1, rfl, e1⟩ := open_sl (hval 1 22 v1 rfl rfl) h1
 clear hA0 hval0
 refine (law_FnExactRelabelGraph X0  X1  W e0 e1).mono fun e W' ⟨he, bel⟩ => ?_
 subst he
 exact ⟨_, rfl, _, _, _, [], _, [], hW', trodAll_mk1 (shut_bool Try.underlying4 _), (trodAll_cons_mk (Below.trod laidOut_ok (by kernel_rfl) (of_decide_eq_true (by kernel_rfl)) k0 bel lt0) (trodAll_cons_mk (Below.trod laidOut_ok (by kernel_rfl) (of_decide_eq_true (by kernel_rfl)) k1 bel lt1) trodAll_mk0)), rfl, bel.frame _, fun h => by cases h⟩
theorem over : Rows.fnExactRelabelGraphRow.holds Try.pinned (OpenSpec.ofChange Rows.fnExactRelabelGraphSpec) :=
 OpenClaim.holds_of_wide 9 Try.f9 rfl rfl rfl rfl rfl rfl rfl ⟨rfl, rfl, rfl, rfl, rfl⟩ rfl rfl rfl rfl rfl (by kernel_rfl) Try.func9 (by kernel_rfl)
  (of_decide_eq_true (by kernel_rfl)) (by unfold Func.isWrapper; first | (rw [if_pos (by decide +kernel)]; kernel_rfl) | (rw [if_neg (by decide +kernel)]; exact ⟨rfl, rfl⟩))
  (fun os started H enc _ => lifted os started H enc)
theorem proved : Rows.FnExactRelabelGraphSaid := over
end fnExactRelabelGraph
end Go.Proofs.Ytohghnoihbjmcaa
