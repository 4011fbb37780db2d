/-
  Proved: FnExactMakeGraph returns true for every input and leaves its arguments as they were. No condition. Printed by gen_law3.py.
-/
import Derived.Test.YtohghnoihbjmcaaHD1
import Derived.Test.YtohghnoihbjmcaaHD3
import Derived.Test.YtohghnoihbjmcaaHD19
import Derived.Test.YtohghnoihbjmcaaHD21
set_option linter.unusedVariables false
set_option linter.unusedSimpArgs false
set_option maxRecDepth 100000
set_option maxHeartbeats 40000000
namespace Go.Proofs.Ytohghnoihbjmcaa
open Go.RowKit
attribute [local go_sem ↓] Go.wp_at_zero Go.wp_at_succ
theorem dec_self {α : Type} [DecidableEq α] (xs : α) : decide (xs = xs) = true := by simp
theorem lawMakeGraph (a0 : Option Addr) (c0 : Nat) (xs0 : List Int) (ra1 : Option Addr) (rc1 : Nat) (xss1 : List (Int × Int)) (w0 : World) (l0 : xs0.length ≤ maxLen) (h0 : xs0.length ≤ 1048576 → Rd w0 a0 xs0) (m1 : xss1.length ≤ maxLen) (y1 : xss1.length ≤ 1048576 → RdE w0 ra1 xss1) :
    Calls Try.prog 7 #[.slice a0 xs0.length c0, .slice ra1 xss1.length rc1] w0 fun e w' => e = .returned (.bool true) ∧ Below w0.heap.size w0 w' := by
 obtain ⟨rx0, ry0, r1, hR⟩ : ∃ rx0 ry0 r1, (mgRes xs0 xss1) = (rx0, ry0, r1) := ⟨_, _, _, rfl⟩
 have hsp := fun a0' c0' ra1' rc1' W h0' r1' => specMG_any a0' c0' xs0 ra1' rc1' xss1 W h0' r1'  
 rw [hR] at hsp
 have HSP := hide hsp
 clear hsp
 have him := fun a0' c0' ra1' rc1' W h0' r1' => implMG_any a0' c0' xs0 ra1' rc1' xss1 W h0' r1'  
 rw [hR] at him
 have HIM := hide him
 clear him
 clear hR
 have hb0 : Below w0.heap.size w0 w0 := Below.refl _ _
 go_enter Try.func7, Try.ntmps7
 by_cases g0 : (xs0.length : Int) ≤ 1048576
 · skip
   have zz := szEdgeS_any ra1 xss1.length rc1 (1048576) w0 m1 (by omega) (by omega)
   have Z1 := hide zz
   clear zz
   go_wp2_with fail
   refine (unhide Z1).mono ?_
   rintro e w1 ⟨rfl, b2'⟩
   have b2 : Below w0.heap.size w0 w1 := by rw [b2']; exact Below.refl _ _
   clear b2'
   have z0 := b2.size
   by_cases g1 : ((xss1.length : Nat) : Int) ≤ 1048576
   · rw [left_yes g1]
     have H0 := (h0 (by omega)).below hb0
     have RR1 := (y1 (by omega)).below hb0
     clear l0 h0  m1 y1
     go_wp2_with fail
     refine (toInt64S_any a0 c0 xs0 w1 (H0.kp (Kp.below b2 (by omega)))).mono ?_
     rintro e w2 ⟨to3, rfl, o3, b4⟩
     have z1 := b4.size
     obtain ⟨A5, C5, rfl, _, _⟩ := o3.form
     have O5 := o3.toH
     clear o3
     go_wp2_with fail
     refine (toEdgeS_any ra1 rc1 xss1 w2 (RR1.kp ((Kp.below b2 (by omega)).trans (Kp.below b4 (by omega))))).mono ?_
     rintro e w3 ⟨to6, rfl, o6, b7⟩
     have z2 := b7.size
     obtain ⟨RA8, RC8, rfl, _, _⟩ := o6.form
     have O8 := o6.toH
     clear o6
     go_wp2_with fail
     refine (unhide HSP A5 C5 RA8 RC8 w3 (O5.kp (Kp.below b7 (by omega))).rd O8.rd).mono ?_
     rintro e w4 ⟨to9, so9, rfl, o9, b10⟩
     have z3 := b10.size
     have o9 : OwnG2 w4 w3.heap.size to9 so9 rx0 ry0 := o9
     obtain ⟨A11, C11, RA11, RC11, rfl, rfl, _, _⟩ := o9.form
     have O11 := o9.toH (by omega)
     clear o9
     obtain ⟨w5, hP12⟩ : ∃ z, z = w4.alloc (.cells #[.slice A11 rx0.length C11, .slice RA11 ry0.length RC11] 30) := ⟨_, rfl⟩
     have b13 : Below w4.heap.size w4 w5 := by rw [hP12]; exact (Below.refl _ _).alloc (Nat.le_refl _) _
     have K14 : Blk w5 w4.heap.size 30 #[.slice A11 rx0.length C11, .slice RA11 ry0.length RC11] := by rw [hP12]; exact Blk.new _ _ _ rfl
     have zz4 : w4.heap.size + 1 ≤ w5.heap.size := K14.lt
     have z4 := b13.size
     have HP15 := Lib.hid hP12
     clear hP12
     go_wp2_with fail
     rw [← HP15.out]
     refine (toInt64S_any a0 c0 xs0 w5 (H0.kp (((((Kp.below b2 (by omega)).trans (Kp.below b4 (by omega))).trans (Kp.below b7 (by omega))).trans (Kp.below b10 (by omega))).trans (Kp.below b13 (by omega))))).mono ?_
     rintro e w6 ⟨to16, rfl, o16, b17⟩
     have z5 := b17.size
     obtain ⟨A18, C18, rfl, _, _⟩ := o16.form
     have O18 := o16.toH
     clear o16
     go_wp2_with fail
     refine (toEdgeS_any ra1 rc1 xss1 w6 (RR1.kp ((((((Kp.below b2 (by omega)).trans (Kp.below b4 (by omega))).trans (Kp.below b7 (by omega))).trans (Kp.below b10 (by omega))).trans (Kp.below b13 (by omega))).trans (Kp.below b17 (by omega))))).mono ?_
     rintro e w7 ⟨to19, rfl, o19, b20⟩
     have z6 := b20.size
     obtain ⟨RA21, RC21, rfl, _, _⟩ := o19.form
     have O21 := o19.toH
     clear o19
     go_wp2_with fail
     refine (unhide HIM A18 C18 RA21 RC21 w7 (O18.kp (Kp.below b20 (by omega))).rd O21.rd).mono ?_
     rintro e w8 ⟨to22, so22, rfl, o22, b23⟩
     have z7 := b23.size
     have o22 : OwnG2 w8 w7.heap.size to22 so22 rx0 ry0 := o22
     obtain ⟨A24, C24, RA24, RC24, rfl, rfl, _, _⟩ := o22.form
     have O24 := o22.toH (by omega)
     clear o22
     obtain ⟨w9, hP25⟩ : ∃ z, z = w8.alloc (.cells #[.slice A24 rx0.length C24, .slice RA24 ry0.length RC24] 30) := ⟨_, rfl⟩
     have b26 : Below w8.heap.size w8 w9 := by rw [hP25]; exact (Below.refl _ _).alloc (Nat.le_refl _) _
     have K27 : Blk w9 w8.heap.size 30 #[.slice A24 rx0.length C24, .slice RA24 ry0.length RC24] := by rw [hP25]; exact Blk.new _ _ _ rfl
     have zz8 : w8.heap.size + 1 ≤ w9.heap.size := K27.lt
     have z8 := b26.size
     have f28 : w9.cell? ⟨w4.heap.size, 0, none⟩ = some (.slice A11 rx0.length C11) := (K14.kp ((((Kp.below b17 (by omega)).trans (Kp.below b20 (by omega))).trans (Kp.below b23 (by omega))).trans (Kp.below b26 (by omega)))).cell 0
     have f29 : w9.cell? ⟨w4.heap.size, 1, none⟩ = some (.slice RA11 ry0.length RC11) := (K14.kp ((((Kp.below b17 (by omega)).trans (Kp.below b20 (by omega))).trans (Kp.below b23 (by omega))).trans (Kp.below b26 (by omega)))).cell 1
     rw [hP25] at f28 f29
     have HP30 := Lib.hid hP25
     clear hP25
     go_wp2_with fail
     rw [← HP30.out]
     refine (eqGraph_any A24 A11 RA24 RA11 C24 C11 RC24 RC11 rx0 rx0 ry0 ry0 w9 (O24.kp (Kp.below b26 (by omega))).rd (O11.kp (((((Kp.below b13 (by omega)).trans (Kp.below b17 (by omega))).trans (Kp.below b20 (by omega))).trans (Kp.below b23 (by omega))).trans (Kp.below b26 (by omega)))).rd (O24.kp (Kp.below b26 (by omega))).rds (O11.kp (((((Kp.below b13 (by omega)).trans (Kp.below b17 (by omega))).trans (Kp.below b20 (by omega))).trans (Kp.below b23 (by omega))).trans (Kp.below b26 (by omega)))).rds).mono ?_
     rintro e w10 ⟨rfl, b31⟩
     rw [sameG_self]
     clear f28 f29
     have z9 := b31.size
     go_wp2_with fail
     refine (toInt64S_any a0 c0 xs0 w10 (H0.kp ((((((((((Kp.below b2 (by omega)).trans (Kp.below b4 (by omega))).trans (Kp.below b7 (by omega))).trans (Kp.below b10 (by omega))).trans (Kp.below b13 (by omega))).trans (Kp.below b17 (by omega))).trans (Kp.below b20 (by omega))).trans (Kp.below b23 (by omega))).trans (Kp.below b26 (by omega))).trans (Kp.below b31 (by omega))))).mono ?_
     rintro e w11 ⟨to32, rfl, o32, b33⟩
     have z10 := b33.size
     obtain ⟨A34, C34, rfl, _, _⟩ := o32.form
     have O34 := o32.toH
     clear o32
     go_wp2_with fail
     refine (eqInt64S_any A18 A34 C18 C34 xs0 xs0 w11 (O18.kp (((((Kp.below b20 (by omega)).trans (Kp.below b23 (by omega))).trans (Kp.below b26 (by omega))).trans (Kp.below b31 (by omega))).trans (Kp.below b33 (by omega)))).rd O34.rd).mono ?_
     rintro e w12 ⟨rfl, b35'⟩
     have b35 := b35'.below w11.heap.size
     clear b35'
     rw [dec_self]
     have z11 := b35.size
     go_wp2_with fail
     refine (toEdgeS_any ra1 rc1 xss1 w12 (RR1.kp ((((((((((((Kp.below b2 (by omega)).trans (Kp.below b4 (by omega))).trans (Kp.below b7 (by omega))).trans (Kp.below b10 (by omega))).trans (Kp.below b13 (by omega))).trans (Kp.below b17 (by omega))).trans (Kp.below b20 (by omega))).trans (Kp.below b23 (by omega))).trans (Kp.below b26 (by omega))).trans (Kp.below b31 (by omega))).trans (Kp.below b33 (by omega))).trans (Kp.below b35 (by omega))))).mono ?_
     rintro e w13 ⟨to36, rfl, o36, b37⟩
     have z12 := b37.size
     obtain ⟨RA38, RC38, rfl, _, _⟩ := o36.form
     have O38 := o36.toH
     clear o36
     go_wp2_with fail
     refine (eqEdgeS_any RA21 RA38 RC21 RC38 xss1 xss1 w13 (O21.kp ((((((Kp.below b23 (by omega)).trans (Kp.below b26 (by omega))).trans (Kp.below b31 (by omega))).trans (Kp.below b33 (by omega))).trans (Kp.below b35 (by omega))).trans (Kp.below b37 (by omega)))).rd O38.rd).mono ?_
     rintro e w14 ⟨rfl, b39⟩
     rw [dec_self]
     have z13 := b39.size
     have bdO18 : xs0.length ≤ 1073741824 := O18.1.1
     have bdO21 : xss1.length ≤ 1073741824 := O21.1.1
     have bdO24 : rx0.length ≤ 1073741824 := O24.len
     have beO24 : ry0.length ≤ 1073741824 := O24.len2
     go_wp2_with fail
     refine (markH_any w5.heap.size w6.heap.size (.slice A18 xs0.length C18) (1) xs0 w14 (O18.kp ((((((((Kp.below b20 (by omega)).trans (Kp.below b23 (by omega))).trans (Kp.below b26 (by omega))).trans (Kp.below b31 (by omega))).trans (Kp.below b33 (by omega))).trans (Kp.below b35 (by omega))).trans (Kp.below b37 (by omega))).trans (Kp.below b39 (by omega)))) (by omega) (by omega) (by omega)).mono ?_
     rintro e w15 ⟨rfl, o41, _, m40⟩
     have z14 := m40.size
     go_wp2_with fail
     refine (markEdgeS_any w6.heap.size w7.heap.size (.slice RA21 xss1.length RC21) (1 + (xs0.length : Int)) xss1 w15 (O21.kp ((((((((Kp.below b23 (by omega)).trans (Kp.below b26 (by omega))).trans (Kp.below b31 (by omega))).trans (Kp.below b33 (by omega))).trans (Kp.below b35 (by omega))).trans (Kp.below b37 (by omega))).trans (Kp.below b39 (by omega))).trans (Mk.kp m40 (by omega) (by omega)))) (by omega) (by omega) (by omega)).mono ?_
     rintro e w16 ⟨rfl, o43, _, m42⟩
     have z15 := m42.size
     have kn1 : decide (1 + (xs0.length : Int) + ((2 * xss1.length : Nat) : Int) < 0) = false := by rw [decide_eq_false_iff_not]; omega
     have kn2 : 0 ≤ 1 + (xs0.length : Int) + ((2 * xss1.length : Nat) : Int) := by omega
     have f44 : w16.cell? ⟨w8.heap.size, 0, none⟩ = some (.slice A24 rx0.length C24) := (K27.kp (((((((Kp.below b31 (by omega)).trans (Kp.below b33 (by omega))).trans (Kp.below b35 (by omega))).trans (Kp.below b37 (by omega))).trans (Kp.below b39 (by omega))).trans (Mk.kp m40 (by omega) (by omega))).trans (Mk.kp m42 (by omega) (by omega)))).cell 0
     have f45 : w16.cell? ⟨w8.heap.size, 1, none⟩ = some (.slice RA24 ry0.length RC24) := (K27.kp (((((((Kp.below b31 (by omega)).trans (Kp.below b33 (by omega))).trans (Kp.below b35 (by omega))).trans (Kp.below b37 (by omega))).trans (Kp.below b39 (by omega))).trans (Mk.kp m40 (by omega) (by omega))).trans (Mk.kp m42 (by omega) (by omega)))).cell 1
     have f46 : w16.cell? ⟨w4.heap.size, 0, none⟩ = some (.slice A11 rx0.length C11) := (K14.kp (((((((((((Kp.below b17 (by omega)).trans (Kp.below b20 (by omega))).trans (Kp.below b23 (by omega))).trans (Kp.below b26 (by omega))).trans (Kp.below b31 (by omega))).trans (Kp.below b33 (by omega))).trans (Kp.below b35 (by omega))).trans (Kp.below b37 (by omega))).trans (Kp.below b39 (by omega))).trans (Mk.kp m40 (by omega) (by omega))).trans (Mk.kp m42 (by omega) (by omega)))).cell 0
     have f47 : w16.cell? ⟨w4.heap.size, 1, none⟩ = some (.slice RA11 ry0.length RC11) := (K14.kp (((((((((((Kp.below b17 (by omega)).trans (Kp.below b20 (by omega))).trans (Kp.below b23 (by omega))).trans (Kp.below b26 (by omega))).trans (Kp.below b31 (by omega))).trans (Kp.below b33 (by omega))).trans (Kp.below b35 (by omega))).trans (Kp.below b37 (by omega))).trans (Kp.below b39 (by omega))).trans (Mk.kp m40 (by omega) (by omega))).trans (Mk.kp m42 (by omega) (by omega)))).cell 1
     go_wp2_with fail
     refine (eqGraph_any A24 A11 RA24 RA11 C24 C11 RC24 RC11 rx0 rx0 ry0 ry0 w16 (O24.kp ((((((((Kp.below b26 (by omega)).trans (Kp.below b31 (by omega))).trans (Kp.below b33 (by omega))).trans (Kp.below b35 (by omega))).trans (Kp.below b37 (by omega))).trans (Kp.below b39 (by omega))).trans (Mk.kp m40 (by omega) (by omega))).trans (Mk.kp m42 (by omega) (by omega)))).rd (O11.kp ((((((((((((Kp.below b13 (by omega)).trans (Kp.below b17 (by omega))).trans (Kp.below b20 (by omega))).trans (Kp.below b23 (by omega))).trans (Kp.below b26 (by omega))).trans (Kp.below b31 (by omega))).trans (Kp.below b33 (by omega))).trans (Kp.below b35 (by omega))).trans (Kp.below b37 (by omega))).trans (Kp.below b39 (by omega))).trans (Mk.kp m40 (by omega) (by omega))).trans (Mk.kp m42 (by omega) (by omega)))).rd (O24.kp ((((((((Kp.below b26 (by omega)).trans (Kp.below b31 (by omega))).trans (Kp.below b33 (by omega))).trans (Kp.below b35 (by omega))).trans (Kp.below b37 (by omega))).trans (Kp.below b39 (by omega))).trans (Mk.kp m40 (by omega) (by omega))).trans (Mk.kp m42 (by omega) (by omega)))).rds (O11.kp ((((((((((((Kp.below b13 (by omega)).trans (Kp.below b17 (by omega))).trans (Kp.below b20 (by omega))).trans (Kp.below b23 (by omega))).trans (Kp.below b26 (by omega))).trans (Kp.below b31 (by omega))).trans (Kp.below b33 (by omega))).trans (Kp.below b35 (by omega))).trans (Kp.below b37 (by omega))).trans (Kp.below b39 (by omega))).trans (Mk.kp m40 (by omega) (by omega))).trans (Mk.kp m42 (by omega) (by omega)))).rds).mono ?_
     rintro e w17 ⟨rfl, b48⟩
     rw [sameG_self]
     clear f44 f45 f46 f47
     have z16 := b48.size
     have f49 : w17.cell? ⟨w8.heap.size, 0, none⟩ = some (.slice A24 rx0.length C24) := (K27.kp ((((((((Kp.below b31 (by omega)).trans (Kp.below b33 (by omega))).trans (Kp.below b35 (by omega))).trans (Kp.below b37 (by omega))).trans (Kp.below b39 (by omega))).trans (Mk.kp m40 (by omega) (by omega))).trans (Mk.kp m42 (by omega) (by omega))).trans (Kp.below b48 (by omega)))).cell 0
     have f50 : w17.cell? ⟨w8.heap.size, 1, none⟩ = some (.slice RA24 ry0.length RC24) := (K27.kp ((((((((Kp.below b31 (by omega)).trans (Kp.below b33 (by omega))).trans (Kp.below b35 (by omega))).trans (Kp.below b37 (by omega))).trans (Kp.below b39 (by omega))).trans (Mk.kp m40 (by omega) (by omega))).trans (Mk.kp m42 (by omega) (by omega))).trans (Kp.below b48 (by omega)))).cell 1
     go_wp2_with fail
     refine (markGraph_any w7.heap.size w8.heap.size A24 RA24 rx0.length ry0.length C24 RC24 (1) rx0 ry0 w17 rfl rfl (O24.kp (((((((((Kp.below b26 (by omega)).trans (Kp.below b31 (by omega))).trans (Kp.below b33 (by omega))).trans (Kp.below b35 (by omega))).trans (Kp.below b37 (by omega))).trans (Kp.below b39 (by omega))).trans (Mk.kp m40 (by omega) (by omega))).trans (Mk.kp m42 (by omega) (by omega))).trans (Kp.below b48 (by omega)))) (by omega) (by omega) (by omega) (by omega)).mono ?_
     rintro e w18 ⟨rfl, o52, m51⟩
     clear f49 f50
     have z17 := m51.size
     have kn3 : decide (1 + (rx0.length : Int) + ((2 * ry0.length : Nat) : Int) < 0) = false := by rw [decide_eq_false_iff_not]; omega
     have kn4 : 0 ≤ 1 + (rx0.length : Int) + ((2 * ry0.length : Nat) : Int) := by omega
     have kn5 : (1 + (rx0.length : Int) + ((2 * ry0.length : Nat) : Int) != 1 + (rx0.length : Int) + ((2 * ry0.length : Nat) : Int)) = false := by simp
     have f53 : w18.cell? ⟨w8.heap.size, 0, none⟩ = some (.slice A24 rx0.length C24) := (K27.kp (((((((((Kp.below b31 (by omega)).trans (Kp.below b33 (by omega))).trans (Kp.below b35 (by omega))).trans (Kp.below b37 (by omega))).trans (Kp.below b39 (by omega))).trans (Mk.kp m40 (by omega) (by omega))).trans (Mk.kp m42 (by omega) (by omega))).trans (Kp.below b48 (by omega))).trans (Mk.kp m51 (by omega) (by omega)))).cell 0
     have f54 : w18.cell? ⟨w8.heap.size, 1, none⟩ = some (.slice RA24 ry0.length RC24) := (K27.kp (((((((((Kp.below b31 (by omega)).trans (Kp.below b33 (by omega))).trans (Kp.below b35 (by omega))).trans (Kp.below b37 (by omega))).trans (Kp.below b39 (by omega))).trans (Mk.kp m40 (by omega) (by omega))).trans (Mk.kp m42 (by omega) (by omega))).trans (Kp.below b48 (by omega))).trans (Mk.kp m51 (by omega) (by omega)))).cell 1
     go_wp2_with fail
     refine (heldGraph_any A24 RA24 rx0.length ry0.length C24 RC24 1 w18 o52.rd o52.rds (by omega) (by omega)).mono ?_
     rintro e w19 ⟨rfl, b55⟩
     clear f53 f54
     have z18 := b55.size
     go_wp2_with fail
     refine (toInt64S_any a0 c0 xs0 w19 (H0.kp (((((((((((((((((((Kp.below b2 (by omega)).trans (Kp.below b4 (by omega))).trans (Kp.below b7 (by omega))).trans (Kp.below b10 (by omega))).trans (Kp.below b13 (by omega))).trans (Kp.below b17 (by omega))).trans (Kp.below b20 (by omega))).trans (Kp.below b23 (by omega))).trans (Kp.below b26 (by omega))).trans (Kp.below b31 (by omega))).trans (Kp.below b33 (by omega))).trans (Kp.below b35 (by omega))).trans (Kp.below b37 (by omega))).trans (Kp.below b39 (by omega))).trans (Mk.kp m40 (by omega) (by omega))).trans (Mk.kp m42 (by omega) (by omega))).trans (Kp.below b48 (by omega))).trans (Mk.kp m51 (by omega) (by omega))).trans (Kp.below b55 (by omega))))).mono ?_
     rintro e w20 ⟨to56, rfl, o56, b57⟩
     have z19 := b57.size
     obtain ⟨A58, C58, rfl, _, _⟩ := o56.form
     have O58 := o56.toH
     clear o56
     go_wp2_with fail
     refine (toEdgeS_any ra1 rc1 xss1 w20 (RR1.kp ((((((((((((((((((((Kp.below b2 (by omega)).trans (Kp.below b4 (by omega))).trans (Kp.below b7 (by omega))).trans (Kp.below b10 (by omega))).trans (Kp.below b13 (by omega))).trans (Kp.below b17 (by omega))).trans (Kp.below b20 (by omega))).trans (Kp.below b23 (by omega))).trans (Kp.below b26 (by omega))).trans (Kp.below b31 (by omega))).trans (Kp.below b33 (by omega))).trans (Kp.below b35 (by omega))).trans (Kp.below b37 (by omega))).trans (Kp.below b39 (by omega))).trans (Mk.kp m40 (by omega) (by omega))).trans (Mk.kp m42 (by omega) (by omega))).trans (Kp.below b48 (by omega))).trans (Mk.kp m51 (by omega) (by omega))).trans (Kp.below b55 (by omega))).trans (Kp.below b57 (by omega))))).mono ?_
     rintro e w21 ⟨to59, rfl, o59, b60⟩
     have z20 := b60.size
     obtain ⟨RA61, RC61, rfl, _, _⟩ := o59.form
     have O61 := o59.toH
     clear o59
     go_wp2_with fail
     refine (unhide HIM A58 C58 RA61 RC61 w21 (O58.kp (Kp.below b60 (by omega))).rd O61.rd).mono ?_
     rintro e w22 ⟨to62, so62, rfl, o62, b63⟩
     have z21 := b63.size
     have o62 : OwnG2 w22 w21.heap.size to62 so62 rx0 ry0 := o62
     obtain ⟨A64, C64, RA64, RC64, rfl, rfl, _, _⟩ := o62.form
     have O64 := o62.toH (by omega)
     clear o62
     obtain ⟨w23, hP65⟩ : ∃ z, z = w22.alloc (.cells #[.slice A64 rx0.length C64, .slice RA64 ry0.length RC64] 30) := ⟨_, rfl⟩
     have b66 : Below w22.heap.size w22 w23 := by rw [hP65]; exact (Below.refl _ _).alloc (Nat.le_refl _) _
     have K67 : Blk w23 w22.heap.size 30 #[.slice A64 rx0.length C64, .slice RA64 ry0.length RC64] := by rw [hP65]; exact Blk.new _ _ _ rfl
     have zz22 : w22.heap.size + 1 ≤ w23.heap.size := K67.lt
     have z22 := b66.size
     have f68 : w23.cell? ⟨w4.heap.size, 0, none⟩ = some (.slice A11 rx0.length C11) := (K14.kp ((((((((((((((((((Kp.below b17 (by omega)).trans (Kp.below b20 (by omega))).trans (Kp.below b23 (by omega))).trans (Kp.below b26 (by omega))).trans (Kp.below b31 (by omega))).trans (Kp.below b33 (by omega))).trans (Kp.below b35 (by omega))).trans (Kp.below b37 (by omega))).trans (Kp.below b39 (by omega))).trans (Mk.kp m40 (by omega) (by omega))).trans (Mk.kp m42 (by omega) (by omega))).trans (Kp.below b48 (by omega))).trans (Mk.kp m51 (by omega) (by omega))).trans (Kp.below b55 (by omega))).trans (Kp.below b57 (by omega))).trans (Kp.below b60 (by omega))).trans (Kp.below b63 (by omega))).trans (Kp.below b66 (by omega)))).cell 0
     have f69 : w23.cell? ⟨w4.heap.size, 1, none⟩ = some (.slice RA11 ry0.length RC11) := (K14.kp ((((((((((((((((((Kp.below b17 (by omega)).trans (Kp.below b20 (by omega))).trans (Kp.below b23 (by omega))).trans (Kp.below b26 (by omega))).trans (Kp.below b31 (by omega))).trans (Kp.below b33 (by omega))).trans (Kp.below b35 (by omega))).trans (Kp.below b37 (by omega))).trans (Kp.below b39 (by omega))).trans (Mk.kp m40 (by omega) (by omega))).trans (Mk.kp m42 (by omega) (by omega))).trans (Kp.below b48 (by omega))).trans (Mk.kp m51 (by omega) (by omega))).trans (Kp.below b55 (by omega))).trans (Kp.below b57 (by omega))).trans (Kp.below b60 (by omega))).trans (Kp.below b63 (by omega))).trans (Kp.below b66 (by omega)))).cell 1
     rw [hP65] at f68 f69
     have HP70 := Lib.hid hP65
     clear hP65
     go_wp2_with fail
     rw [← HP70.out]
     refine (eqGraph_any A64 A11 RA64 RA11 C64 C11 RC64 RC11 rx0 rx0 ry0 ry0 w23 (O64.kp (Kp.below b66 (by omega))).rd (O11.kp (((((((((((((((((((Kp.below b13 (by omega)).trans (Kp.below b17 (by omega))).trans (Kp.below b20 (by omega))).trans (Kp.below b23 (by omega))).trans (Kp.below b26 (by omega))).trans (Kp.below b31 (by omega))).trans (Kp.below b33 (by omega))).trans (Kp.below b35 (by omega))).trans (Kp.below b37 (by omega))).trans (Kp.below b39 (by omega))).trans (Mk.kp m40 (by omega) (by omega))).trans (Mk.kp m42 (by omega) (by omega))).trans (Kp.below b48 (by omega))).trans (Mk.kp m51 (by omega) (by omega))).trans (Kp.below b55 (by omega))).trans (Kp.below b57 (by omega))).trans (Kp.below b60 (by omega))).trans (Kp.below b63 (by omega))).trans (Kp.below b66 (by omega)))).rd (O64.kp (Kp.below b66 (by omega))).rds (O11.kp (((((((((((((((((((Kp.below b13 (by omega)).trans (Kp.below b17 (by omega))).trans (Kp.below b20 (by omega))).trans (Kp.below b23 (by omega))).trans (Kp.below b26 (by omega))).trans (Kp.below b31 (by omega))).trans (Kp.below b33 (by omega))).trans (Kp.below b35 (by omega))).trans (Kp.below b37 (by omega))).trans (Kp.below b39 (by omega))).trans (Mk.kp m40 (by omega) (by omega))).trans (Mk.kp m42 (by omega) (by omega))).trans (Kp.below b48 (by omega))).trans (Mk.kp m51 (by omega) (by omega))).trans (Kp.below b55 (by omega))).trans (Kp.below b57 (by omega))).trans (Kp.below b60 (by omega))).trans (Kp.below b63 (by omega))).trans (Kp.below b66 (by omega)))).rds).mono ?_
     rintro e w24 ⟨rfl, b71⟩
     rw [sameG_self]
     clear f68 f69
     have z23 := b71.size
     have f72 : w24.cell? ⟨w8.heap.size, 0, none⟩ = some (.slice A24 rx0.length C24) := (K27.kp (((((((((((((((Kp.below b31 (by omega)).trans (Kp.below b33 (by omega))).trans (Kp.below b35 (by omega))).trans (Kp.below b37 (by omega))).trans (Kp.below b39 (by omega))).trans (Mk.kp m40 (by omega) (by omega))).trans (Mk.kp m42 (by omega) (by omega))).trans (Kp.below b48 (by omega))).trans (Mk.kp m51 (by omega) (by omega))).trans (Kp.below b55 (by omega))).trans (Kp.below b57 (by omega))).trans (Kp.below b60 (by omega))).trans (Kp.below b63 (by omega))).trans (Kp.below b66 (by omega))).trans (Kp.below b71 (by omega)))).cell 0
     have f73 : w24.cell? ⟨w8.heap.size, 1, none⟩ = some (.slice RA24 ry0.length RC24) := (K27.kp (((((((((((((((Kp.below b31 (by omega)).trans (Kp.below b33 (by omega))).trans (Kp.below b35 (by omega))).trans (Kp.below b37 (by omega))).trans (Kp.below b39 (by omega))).trans (Mk.kp m40 (by omega) (by omega))).trans (Mk.kp m42 (by omega) (by omega))).trans (Kp.below b48 (by omega))).trans (Mk.kp m51 (by omega) (by omega))).trans (Kp.below b55 (by omega))).trans (Kp.below b57 (by omega))).trans (Kp.below b60 (by omega))).trans (Kp.below b63 (by omega))).trans (Kp.below b66 (by omega))).trans (Kp.below b71 (by omega)))).cell 1
     go_wp2_with fail
     refine (heldGraph_any A24 RA24 rx0.length ry0.length C24 RC24 1 w24 (o52.kp ((((((Kp.below b55 (by omega)).trans (Kp.below b57 (by omega))).trans (Kp.below b60 (by omega))).trans (Kp.below b63 (by omega))).trans (Kp.below b66 (by omega))).trans (Kp.below b71 (by omega)))).rd (o52.kp ((((((Kp.below b55 (by omega)).trans (Kp.below b57 (by omega))).trans (Kp.below b60 (by omega))).trans (Kp.below b63 (by omega))).trans (Kp.below b66 (by omega))).trans (Kp.below b71 (by omega)))).rds (by omega) (by omega)).mono ?_
     rintro e w25 ⟨rfl, b74⟩
     clear f72 f73
     have z24 := b74.size
     go_wp2
     go_ret
     exact ⟨rfl, (((((((((((((((((((((((((hb0.trans (b2.mono (by omega))).trans (b4.mono (by omega))).trans (b7.mono (by omega))).trans (b10.mono (by omega))).trans (b13.mono (by omega))).trans (b17.mono (by omega))).trans (b20.mono (by omega))).trans (b23.mono (by omega))).trans (b26.mono (by omega))).trans (b31.mono (by omega))).trans (b33.mono (by omega))).trans (b35.mono (by omega))).trans (b37.mono (by omega))).trans (b39.mono (by omega))).trans (m40.1.mono (by omega))).trans (m42.1.mono (by omega))).trans (b48.mono (by omega))).trans (m51.1.mono (by omega))).trans (b55.mono (by omega))).trans (b57.mono (by omega))).trans (b60.mono (by omega))).trans (b63.mono (by omega))).trans (b66.mono (by omega))).trans (b71.mono (by omega))).trans (b74.mono (by omega)))⟩
   · rw [left_no g1]
     go_wp2
     go_ret
     exact ⟨rfl, (hb0.trans (b2.mono (by omega)))⟩
 · go_wp2
   go_ret
   exact ⟨rfl, hb0⟩
theorem law_FnExactMakeGraph (X0 : SL) (X1 : SLE) (w : World) (e0 : X0.ok w) (e1 : X1.ok w) :
    Calls Try.prog 7 #[X0.val, X1.val] w fun e w' => e = .returned (.bool true) ∧ Below w.heap.size w w' :=
 lawMakeGraph X0.a X0.c X0.xs X1.a X1.c X1.es w e0.1 e0.2.1 e1.1 e1.2.1
namespace fnExactMakeGraph
open Go.ChangeShapes Go.WideShapes Go.ChangeAt
theorem lifted (os : Os) (started : os.Started) (H : Type) (enc : TypeId × Value → H) :
    ReturnsInHanded {} Try.checked os 7 .any (Rows.fnExactMakeGraphSpec.pre6 enc Try.prog Try.f7 Rows.fnExactMakeGraphRow.domain false) (Rows.fnExactMakeGraphSpec.post enc Try.prog Try.f7 false true false false) := by
 refine returnsInHanded_of_change (C := Try.checked) ownKnob_none started (by kernel_rfl) Try.func7
  (ChangeSpec.witness6 (enc := enc) (C := Try.checked) false ⟨#[], #[.slice none 0 0, .slice none 0 0], []⟩ 8 (by kernel_rfl) (by kernel_rfl) (by kernel_rfl) (by kernel_rfl)) ?_
 intro W base args ds gs before hval0 hW _ _
 have hval : ∀ (j : Nat) t v, Try.f7.params[j]? = some t → args[j]? = some v → Value.okWide Try.prog W .any base t v := hval0
 have hW' := hW
 obtain ⟨p, q, hA0, hV, rfl, hfz, hnd⟩ := hW
 have hA : DataW.TrodAll enc Try.prog W 0 (fun _ => true) true Try.f7.params.toList args.toList ds p := hA0
 rw [Try.params7] at hA hval
 obtain ⟨v0, vs0, d0, ds0, p0, q0, hargs, rfl, rfl, h0, r0⟩ := trodAll_cons hA
 obtain ⟨v1, vs1, d1, ds1, p1, q1, rfl, rfl, rfl, h1, r1⟩ := trodAll_cons r0
 obtain ⟨rfl, rfl, rfl⟩ := trodAll_nil r1
 obtain rfl : args = #[v0, v1] := by cases args; simp_all
 obtain ⟨rfl, rfl⟩ := trodVars_none hV
 have k0 := h0
 have lt0 : ∀ x ∈ p0, x.block < W.heap.size := by obtain ⟨m, hm⟩ := k0; exact DataW.trod_lt m _ _ _ hm
 obtain ⟨X0, rfl, e0⟩ := open_sl (hval 0 22 v0 rfl rfl) h0
 have k1 := h1
 have lt1 : ∀ x ∈ p1, x.block < W.heap.size := by obtain ⟨m, hm⟩ := k1; exact DataW.trod_lt m _ _ _ hm
 obtain ⟨X1, rfl, e1⟩ := open_eds (hval 1 23 v1 rfl rfl) h1
 clear hA0 hval0
 refine (law_FnExactMakeGraph X0  X1  W e0 e1).mono fun e W' ⟨he, bel⟩ => ?_
 subst he
 exact ⟨_, rfl, _, _, _, [], _, [], hW', trodAll_mk1 (shut_bool Try.underlying4 _), (trodAll_cons_mk (Below.trod laidOut_ok (by kernel_rfl) (of_decide_eq_true (by kernel_rfl)) k0 bel lt0) (trodAll_cons_mk (Below.trod laidOut_ok (by kernel_rfl) (of_decide_eq_true (by kernel_rfl)) k1 bel lt1) trodAll_mk0)), rfl, bel.frame _, fun h => by cases h⟩
theorem over : Rows.fnExactMakeGraphRow.holds Try.pinned (OpenSpec.ofChange Rows.fnExactMakeGraphSpec) :=
 OpenClaim.holds_of_wide 7 Try.f7 rfl rfl rfl rfl rfl rfl rfl ⟨rfl, rfl, rfl, rfl, rfl⟩ rfl rfl rfl rfl rfl (by kernel_rfl) Try.func7 (by kernel_rfl)
  (of_decide_eq_true (by kernel_rfl)) (by unfold Func.isWrapper; first | (rw [if_pos (by decide +kernel)]; kernel_rfl) | (rw [if_neg (by decide +kernel)]; exact ⟨rfl, rfl⟩))
  (fun os started H enc _ => lifted os started H enc)
theorem proved : Rows.FnExactMakeGraphSaid := over
end fnExactMakeGraph
end Go.Proofs.Ytohghnoihbjmcaa
