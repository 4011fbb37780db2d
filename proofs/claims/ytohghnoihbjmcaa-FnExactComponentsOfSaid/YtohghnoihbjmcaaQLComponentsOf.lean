/-
  Proved: FnExactComponentsOf returns true for every input and leaves its arguments as they were. No condition. Printed by gen_law3.py.
-/
import Derived.Test.YtohghnoihbjmcaaHF1
import Derived.Test.YtohghnoihbjmcaaHF3
import Derived.Test.YtohghnoihbjmcaaHF16
import Derived.Test.YtohghnoihbjmcaaHF18
set_option linter.unusedVariables false
set_option linter.unusedSimpArgs false
set_option maxRecDepth 100000
set_option maxHeartbeats 40000000
namespace Go.Proofs.Ytohghnoihbjmcaa
open Go.RowKit
attribute [local go_sem ↓] Go.wp_at_zero Go.wp_at_succ
theorem dec_self {α : Type} [DecidableEq α] (xs : α) : decide (xs = xs) = true := by simp
theorem lawComponentsOf (a0 : Option Addr) (c0 : Nat) (xs0 : List Int) (ra0 : Option Addr) (rc0 : Nat) (xss0 : List (Int × Int)) (w : World) (l0 : xs0.length ≤ maxLen) (h0 : xs0.length ≤ 1048576 → Rd w a0 xs0) (m0 : xss0.length ≤ maxLen) (y0 : xss0.length ≤ 1048576 → RdE w ra0 xss0) :
    Calls Try.prog 8 #[.agg #[.slice a0 xs0.length c0, .slice ra0 xss0.length rc0]] w fun e w' => e = .returned (.bool true) ∧ Below w.heap.size w w' := by
 obtain ⟨r0, hR⟩ : ∃ r0, (cpRes xs0 xss0) = r0 := ⟨_, rfl⟩
 have hsp := fun a0' c0' ra0' rc0' W h0' r0' => specCP_any a0' c0' xs0 ra0' rc0' xss0 W h0' r0'  
 rw [hR] at hsp
 have HSP := hide hsp
 clear hsp
 have him := fun a0' c0' ra0' rc0' W h0' r0' => implCP_any a0' c0' xs0 ra0' rc0' xss0 W h0' r0'  
 rw [hR] at him
 have HIM := hide him
 clear him
 clear hR
 obtain ⟨w0, hw0⟩ : ∃ z, z = (w.alloc (.cells #[.slice a0 xs0.length c0, .slice ra0 xss0.length rc0] 25)) := ⟨_, rfl⟩
 have hb0 : Below w.heap.size w w0 := by rw [hw0]; exact ((Below.refl _ _).alloc (Nat.le_refl _) _)
 have kA0 : Blk w0 w.heap.size 25 #[.slice a0 xs0.length c0, .slice ra0 xss0.length rc0] := by rw [hw0]; exact (Blk.new _ _ _ rfl)
 have zb : w.heap.size + 1 ≤ w0.heap.size := by rw [hw0]; simp
 go_enter Try.func8, Try.ntmps8
 have zz := szGraph_any a0 xs0.length c0 ra0 xss0.length rc0 (1048576) w0 l0 m0 (by omega) (by omega)
 have Z1 := hide zz
 clear zz
 have HP2 := Lib.hid hw0
 clear hw0
 go_wp2_with fail
 rw [← HP2.out]
 refine (unhide Z1).mono ?_
 rintro e w1 ⟨rfl, b3⟩
 have z0 := b3.size
 by_cases g0 : ((xs0.length + xss0.length : Nat) : Int) ≤ 1048576
 · rw [left_yes g0]
   have H0 := (h0 (by omega)).below hb0
   have RR0 := (y0 (by omega)).below hb0
   clear l0 h0 m0 y0
   have f4 : w1.cell? ⟨w.heap.size, 0, none⟩ = some (.slice a0 xs0.length c0) := (kA0.kp (Kp.below b3 (by omega))).cell 0
   have f5 : w1.cell? ⟨w.heap.size, 1, none⟩ = some (.slice ra0 xss0.length rc0) := (kA0.kp (Kp.below b3 (by omega))).cell 1
   go_wp2_with fail
   refine (toGraph_any a0 ra0 c0 rc0 xs0 xss0 w1 (H0.kp (Kp.below b3 (by omega))) (RR0.kp (Kp.below b3 (by omega)))).mono ?_
   rintro e w2 ⟨to6, so6, rfl, o6, b7⟩
   clear f4 f5
   have z1 := b7.size
   have o6 := o6.two
   obtain ⟨A8, C8, RA8, RC8, rfl, rfl, _, _⟩ := o6.form
   have O8 := o6.toH (by omega)
   clear o6
   go_wp2_with fail
   refine (unhide HSP A8 C8 RA8 RC8 w2 O8.rd O8.rds).mono ?_
   rintro e w3 ⟨to9, rfl, o9, b10⟩
   have z2 := b10.size
   have o9 : OwnS w3 w2.heap.size to9 r0 := o9
   obtain ⟨RA11, RC11, rfl, _⟩ := o9.form
   have O11 := o9.toH
   clear o9
   have f12 : w3.cell? ⟨w.heap.size, 0, none⟩ = some (.slice a0 xs0.length c0) := (kA0.kp (((Kp.below b3 (by omega)).trans (Kp.below b7 (by omega))).trans (Kp.below b10 (by omega)))).cell 0
   have f13 : w3.cell? ⟨w.heap.size, 1, none⟩ = some (.slice ra0 xss0.length rc0) := (kA0.kp (((Kp.below b3 (by omega)).trans (Kp.below b7 (by omega))).trans (Kp.below b10 (by omega)))).cell 1
   go_wp2_with fail
   refine (toGraph_any a0 ra0 c0 rc0 xs0 xss0 w3 (H0.kp (((Kp.below b3 (by omega)).trans (Kp.below b7 (by omega))).trans (Kp.below b10 (by omega)))) (RR0.kp (((Kp.below b3 (by omega)).trans (Kp.below b7 (by omega))).trans (Kp.below b10 (by omega))))).mono ?_
   rintro e w4 ⟨to14, so14, rfl, o14, b15⟩
   clear f12 f13
   have z3 := b15.size
   have o14 := o14.two
   obtain ⟨A16, C16, RA16, RC16, rfl, rfl, _, _⟩ := o14.form
   have O16 := o14.toH (by omega)
   clear o14
   obtain ⟨w5, hP17⟩ : ∃ z, z = w4.alloc (.cells #[.slice A16 xs0.length C16, .slice RA16 xss0.length RC16] 30) := ⟨_, rfl⟩
   have b18 : Below w4.heap.size w4 w5 := by rw [hP17]; exact (Below.refl _ _).alloc (Nat.le_refl _) _
   have K19 : Blk w5 w4.heap.size 30 #[.slice A16 xs0.length C16, .slice RA16 xss0.length RC16] := by rw [hP17]; exact Blk.new _ _ _ rfl
   have zz4 : w4.heap.size + 1 ≤ w5.heap.size := K19.lt
   have z4 := b18.size
   have HP20 := Lib.hid hP17
   clear hP17
   go_wp2_with fail
   rw [← HP20.out]
   refine (unhide HIM A16 C16 RA16 RC16 w5 (O16.kp (Kp.below b18 (by omega))).rd (O16.kp (Kp.below b18 (by omega))).rds).mono ?_
   rintro e w6 ⟨to21, rfl, o21, b22⟩
   have z5 := b22.size
   have o21 : OwnS w6 w5.heap.size to21 r0 := o21
   obtain ⟨RA23, RC23, rfl, _⟩ := o21.form
   have O23 := o21.toH
   clear o21
   go_wp2_with fail
   refine (eqInt64SS_any RA23 RA11 RC23 RC11 r0 r0 w6 O23.rd (O11.kp (((Kp.below b15 (by omega)).trans (Kp.below b18 (by omega))).trans (Kp.below b22 (by omega)))).rd).mono ?_
   rintro e w7 ⟨rfl, b24'⟩
   have b24 := b24'.below w6.heap.size
   clear b24'
   rw [dec_self]
   have z6 := b24.size
   have Y25 := (O16.kp (((Kp.below b18 (by omega)).trans (Kp.below b22 (by omega))).trans (Kp.below b24 (by omega)))).rd
   have YY25 := (O16.kp (((Kp.below b18 (by omega)).trans (Kp.below b22 (by omega))).trans (Kp.below b24 (by omega)))).rds
   have X25h := (H0.kp (((((((Kp.below b3 (by omega)).trans (Kp.below b7 (by omega))).trans (Kp.below b10 (by omega))).trans (Kp.below b15 (by omega))).trans (Kp.below b18 (by omega))).trans (Kp.below b22 (by omega))).trans (Kp.below b24 (by omega))))
   have X25r := (RR0.kp (((((((Kp.below b3 (by omega)).trans (Kp.below b7 (by omega))).trans (Kp.below b10 (by omega))).trans (Kp.below b15 (by omega))).trans (Kp.below b18 (by omega))).trans (Kp.below b22 (by omega))).trans (Kp.below b24 (by omega))))
   have K26 := (K19.kp ((Kp.below b22 (by omega)).trans (Kp.below b24 (by omega))))
   have K27 := (kA0.kp (((((((Kp.below b3 (by omega)).trans (Kp.below b7 (by omega))).trans (Kp.below b10 (by omega))).trans (Kp.below b15 (by omega))).trans (Kp.below b18 (by omega))).trans (Kp.below b22 (by omega))).trans (Kp.below b24 (by omega))))
   have BX28' : ∀ (W : World), Below w7.heap.size w7 W → (Below w7.heap.size w7 W ∧ W.cell? ⟨w4.heap.size, 0, none⟩ = some (.slice A16 xs0.length C16) ∧ W.cell? ⟨w4.heap.size, 1, none⟩ = some (.slice RA16 xss0.length RC16) ∧ W.cell? ⟨w.heap.size, 0, none⟩ = some (.slice a0 xs0.length c0) ∧ W.cell? ⟨w.heap.size, 1, none⟩ = some (.slice ra0 xss0.length rc0)) := fun _ h => ⟨h, (K26.below h K26.lt).cell 0, (K26.below h K26.lt).cell 1, (K27.below h K27.lt).cell 0, (K27.below h K27.lt).cell 1⟩
   have BX28 := hide BX28'
   clear BX28'
   go_upto_region 10 with fail
   go_region_held3 (fun W => Below w7.heap.size w7 W ∧ W.cell? ⟨w4.heap.size, 0, none⟩ = some (.slice A16 xs0.length C16) ∧ W.cell? ⟨w4.heap.size, 1, none⟩ = some (.slice RA16 xss0.length RC16) ∧ W.cell? ⟨w.heap.size, 0, none⟩ = some (.slice a0 xs0.length c0) ∧ W.cell? ⟨w.heap.size, 1, none⟩ = some (.slice ra0 xss0.length rc0))
    (first | exact (unhide BX28) _ (Below.refl _ _) | exact (unhide BX28) _ ((Below.refl _ _).drew) | exact (unhide BX28) _ (by assumption))
    (first
     | (go_at_call_of 13 (Value.slice a0 xs0.length c0); refine (toGraph_any a0 ra0 c0 rc0 xs0 xss0 _ ?_ ?_).mono ?_; exact X25h.below (And.left (by assumption)); exact X25r.below (And.left (by assumption)); rintro e W25 ⟨t25, s25, rfl, o25, bb25⟩; obtain ⟨A25, C25, RA25, RC25, rfl, rfl, rr25, rs25⟩ := o25.form; have hB25 := Below.chain (a := w7) (And.left (by assumption)) bb25)
     | (go_at_call 15; refine (eqGraph_any A16 A25 RA16 RA25 C16 C25 RC16 RC25 xs0 xs0 xss0 xss0 _ (Y25.below hB25) rr25 (YY25.below hB25) rs25).mono ?_; rintro e w8 ⟨rfl, bc25⟩; have b25e := Below.chain hB25 bc25; rw [sameG_self]))
   clear BX28
   have z7 := b25e.size
   have bdO16 : xs0.length ≤ 1073741824 := O16.len
   have beO16 : xss0.length ≤ 1073741824 := O16.len2
   have bdO23 : (r0.map List.length).sum ≤ 1152921504606846976 := O23.sum
   have f29 : w8.cell? ⟨w4.heap.size, 0, none⟩ = some (.slice A16 xs0.length C16) := (K19.kp (((Kp.below b22 (by omega)).trans (Kp.below b24 (by omega))).trans (Kp.below b25e (by omega)))).cell 0
   have f30 : w8.cell? ⟨w4.heap.size, 1, none⟩ = some (.slice RA16 xss0.length RC16) := (K19.kp (((Kp.below b22 (by omega)).trans (Kp.below b24 (by omega))).trans (Kp.below b25e (by omega)))).cell 1
   go_wp2_with fail
   refine (markGraph_any w3.heap.size w4.heap.size A16 RA16 xs0.length xss0.length C16 RC16 (1) xs0 xss0 w8 rfl rfl (O16.kp ((((Kp.below b18 (by omega)).trans (Kp.below b22 (by omega))).trans (Kp.below b24 (by omega))).trans (Kp.below b25e (by omega)))) (by omega) (by omega) (by omega) (by omega)).mono ?_
   rintro e w9 ⟨rfl, o32, m31⟩
   clear f29 f30
   have z8 := m31.size
   have kn1 : decide (1 + (xs0.length : Int) + ((2 * xss0.length : Nat) : Int) < 0) = false := by rw [decide_eq_false_iff_not]; omega
   have kn2 : 0 ≤ 1 + (xs0.length : Int) + ((2 * xss0.length : Nat) : Int) := by omega
   go_wp2_with fail
   refine (eqInt64SS_any RA23 RA11 RC23 RC11 r0 r0 w9 (O23.kp (((Kp.below b24 (by omega)).trans (Kp.below b25e (by omega))).trans (Mk.kp m31 (by omega) (by omega)))).rd (O11.kp ((((((Kp.below b15 (by omega)).trans (Kp.below b18 (by omega))).trans (Kp.below b22 (by omega))).trans (Kp.below b24 (by omega))).trans (Kp.below b25e (by omega))).trans (Mk.kp m31 (by omega) (by omega)))).rd).mono ?_
   rintro e w10 ⟨rfl, b33'⟩
   have b33 := b33'.below w9.heap.size
   clear b33'
   rw [dec_self]
   have z9 := b33.size
   go_wp2_with fail
   refine (markSS_any w5.heap.size w6.heap.size RA23 r0.length RC23 (1) r0 w10 rfl (O23.kp ((((Kp.below b24 (by omega)).trans (Kp.below b25e (by omega))).trans (Mk.kp m31 (by omega) (by omega))).trans (Kp.below b33 (by omega)))) (by omega) (by omega) (by omega)).mono ?_
   rintro e w11 ⟨rfl, o35, m34⟩
   have z10 := m34.size
   have kn3 : decide (1 + (((r0.map List.length).sum : Nat) : Int) < 0) = false := by rw [decide_eq_false_iff_not]; omega
   have kn4 : 0 ≤ 1 + (((r0.map List.length).sum : Nat) : Int) := by omega
   have kn5 : (1 + (((r0.map List.length).sum : Nat) : Int) != 1 + (((r0.map List.length).sum : Nat) : Int)) = false := by simp
   go_wp2_with fail
   refine (heldSS_any RA23 r0.length RC23 1 (r0.map List.length) w11 (by simp) o35.rd (by omega) (by omega)).mono ?_
   rintro e w12 ⟨rfl, b36'⟩
   have b36 : Below w11.heap.size w11 w12 := by rw [← b36']; exact Below.refl _ _
   clear b36'
   have z11 := b36.size
   have f37 : w12.cell? ⟨w.heap.size, 0, none⟩ = some (.slice a0 xs0.length c0) := (kA0.kp ((((((((((((Kp.below b3 (by omega)).trans (Kp.below b7 (by omega))).trans (Kp.below b10 (by omega))).trans (Kp.below b15 (by omega))).trans (Kp.below b18 (by omega))).trans (Kp.below b22 (by omega))).trans (Kp.below b24 (by omega))).trans (Kp.below b25e (by omega))).trans (Mk.kp m31 (by omega) (by omega))).trans (Kp.below b33 (by omega))).trans (Mk.kp m34 (by omega) (by omega))).trans (Kp.below b36 (by omega)))).cell 0
   have f38 : w12.cell? ⟨w.heap.size, 1, none⟩ = some (.slice ra0 xss0.length rc0) := (kA0.kp ((((((((((((Kp.below b3 (by omega)).trans (Kp.below b7 (by omega))).trans (Kp.below b10 (by omega))).trans (Kp.below b15 (by omega))).trans (Kp.below b18 (by omega))).trans (Kp.below b22 (by omega))).trans (Kp.below b24 (by omega))).trans (Kp.below b25e (by omega))).trans (Mk.kp m31 (by omega) (by omega))).trans (Kp.below b33 (by omega))).trans (Mk.kp m34 (by omega) (by omega))).trans (Kp.below b36 (by omega)))).cell 1
   go_wp2_with fail
   refine (toGraph_any a0 ra0 c0 rc0 xs0 xss0 w12 (H0.kp ((((((((((((Kp.below b3 (by omega)).trans (Kp.below b7 (by omega))).trans (Kp.below b10 (by omega))).trans (Kp.below b15 (by omega))).trans (Kp.below b18 (by omega))).trans (Kp.below b22 (by omega))).trans (Kp.below b24 (by omega))).trans (Kp.below b25e (by omega))).trans (Mk.kp m31 (by omega) (by omega))).trans (Kp.below b33 (by omega))).trans (Mk.kp m34 (by omega) (by omega))).trans (Kp.below b36 (by omega)))) (RR0.kp ((((((((((((Kp.below b3 (by omega)).trans (Kp.below b7 (by omega))).trans (Kp.below b10 (by omega))).trans (Kp.below b15 (by omega))).trans (Kp.below b18 (by omega))).trans (Kp.below b22 (by omega))).trans (Kp.below b24 (by omega))).trans (Kp.below b25e (by omega))).trans (Mk.kp m31 (by omega) (by omega))).trans (Kp.below b33 (by omega))).trans (Mk.kp m34 (by omega) (by omega))).trans (Kp.below b36 (by omega))))).mono ?_
   rintro e w13 ⟨to39, so39, rfl, o39, b40⟩
   clear f37 f38
   have z12 := b40.size
   have o39 := o39.two
   obtain ⟨A41, C41, RA41, RC41, rfl, rfl, _, _⟩ := o39.form
   have O41 := o39.toH (by omega)
   clear o39
   go_wp2_with fail
   refine (unhide HIM A41 C41 RA41 RC41 w13 O41.rd O41.rds).mono ?_
   rintro e w14 ⟨to42, rfl, o42, b43⟩
   have z13 := b43.size
   have o42 : OwnS w14 w13.heap.size to42 r0 := o42
   obtain ⟨RA44, RC44, rfl, _⟩ := o42.form
   have O44 := o42.toH
   clear o42
   go_wp2_with fail
   refine (eqInt64SS_any RA44 RA11 RC44 RC11 r0 r0 w14 O44.rd (O11.kp (((((((((((Kp.below b15 (by omega)).trans (Kp.below b18 (by omega))).trans (Kp.below b22 (by omega))).trans (Kp.below b24 (by omega))).trans (Kp.below b25e (by omega))).trans (Mk.kp m31 (by omega) (by omega))).trans (Kp.below b33 (by omega))).trans (Mk.kp m34 (by omega) (by omega))).trans (Kp.below b36 (by omega))).trans (Kp.below b40 (by omega))).trans (Kp.below b43 (by omega)))).rd).mono ?_
   rintro e w15 ⟨rfl, b45'⟩
   have b45 := b45'.below w14.heap.size
   clear b45'
   rw [dec_self]
   have z14 := b45.size
   go_wp2_with fail
   refine (heldSS_any RA23 r0.length RC23 1 (r0.map List.length) w15 (by simp) (o35.kp ((((Kp.below b36 (by omega)).trans (Kp.below b40 (by omega))).trans (Kp.below b43 (by omega))).trans (Kp.below b45 (by omega)))).rd (by omega) (by omega)).mono ?_
   rintro e w16 ⟨rfl, b46'⟩
   have b46 : Below w15.heap.size w15 w16 := by rw [← b46']; exact Below.refl _ _
   clear b46'
   have z15 := b46.size
   go_wp2
   go_ret
   exact ⟨rfl, ((((((((((((((((hb0.trans (b3.mono (by omega))).trans (b7.mono (by omega))).trans (b10.mono (by omega))).trans (b15.mono (by omega))).trans (b18.mono (by omega))).trans (b22.mono (by omega))).trans (b24.mono (by omega))).trans (b25e.mono (by omega))).trans (m31.1.mono (by omega))).trans (b33.mono (by omega))).trans (m34.1.mono (by omega))).trans (b36.mono (by omega))).trans (b40.mono (by omega))).trans (b43.mono (by omega))).trans (b45.mono (by omega))).trans (b46.mono (by omega)))⟩
 · rw [left_no g0]
   go_wp2
   go_ret
   exact ⟨rfl, (hb0.trans (b3.mono (by omega)))⟩
theorem law_FnExactComponentsOf (X0 : GRA) (w : World) (e0 : X0.ok w) :
    Calls Try.prog 8 #[X0.val] w fun e w' => e = .returned (.bool true) ∧ Below w.heap.size w w' :=
 lawComponentsOf X0.l.a X0.l.c X0.l.xs X0.r.a X0.r.c X0.r.es w e0.1.1 e0.1.2.1 e0.2.1 e0.2.2.1
namespace fnExactComponentsOf
open Go.ChangeShapes Go.WideShapes Go.ChangeAt
theorem lifted (os : Os) (started : os.Started) (H : Type) (enc : TypeId × Value → H) :
    ReturnsInHanded {} Try.checked os 8 .any (Rows.fnExactComponentsOfSpec.pre6 enc Try.prog Try.f8 Rows.fnExactComponentsOfRow.domain false) (Rows.fnExactComponentsOfSpec.post enc Try.prog Try.f8 false true false false) := by
 refine returnsInHanded_of_change (C := Try.checked) ownKnob_none started (by kernel_rfl) Try.func8
  (ChangeSpec.witness6 (enc := enc) (C := Try.checked) false ⟨#[], #[.agg #[.slice none 0 0, .slice none 0 0]], []⟩ 8 (by kernel_rfl) (by kernel_rfl) (by kernel_rfl) (by kernel_rfl)) ?_
 intro W base args ds gs before hval0 hW _ _
 have hval : ∀ (j : Nat) t v, Try.f8.params[j]? = some t → args[j]? = some v → Value.okWide Try.prog W .any base t v := hval0
 have hW' := hW
 obtain ⟨p, q, hA0, hV, rfl, hfz, hnd⟩ := hW
 have hA : DataW.TrodAll enc Try.prog W 0 (fun _ => true) true Try.f8.params.toList args.toList ds p := hA0
 rw [Try.params8] at hA hval
 obtain ⟨v0, vs0, d0, ds0, p0, q0, hargs, rfl, rfl, h0, r0⟩ := trodAll_cons hA
 obtain ⟨rfl, rfl, rfl⟩ := trodAll_nil r0
 obtain rfl : args = #[v0] := by cases args; simp_all
 obtain ⟨rfl, rfl⟩ := trodVars_none hV
 have k0 := h0
 have lt0 : ∀ x ∈ p0, x.block < W.heap.size := by obtain ⟨m, hm⟩ := k0; exact DataW.trod_lt m _ _ _ hm
 obtain ⟨X0, rfl, e0⟩ := open_gra (hval 0 25 v0 rfl rfl) h0
 clear hA0 hval0
 refine (law_FnExactComponentsOf X0  W e0).mono fun e W' ⟨he, bel⟩ => ?_
 subst he
 exact ⟨_, rfl, _, _, _, [], _, [], hW', trodAll_mk1 (shut_bool Try.underlying4 _), (trodAll_cons_mk (Below.trod laidOut_ok (by kernel_rfl) (of_decide_eq_true (by kernel_rfl)) k0 bel lt0) trodAll_mk0), rfl, bel.frame _, fun h => by cases h⟩
theorem over : Rows.fnExactComponentsOfRow.holds Try.pinned (OpenSpec.ofChange Rows.fnExactComponentsOfSpec) :=
 OpenClaim.holds_of_wide 8 Try.f8 rfl rfl rfl rfl rfl rfl rfl ⟨rfl, rfl, rfl, rfl, rfl⟩ rfl rfl rfl rfl rfl (by kernel_rfl) Try.func8 (by kernel_rfl)
  (of_decide_eq_true (by kernel_rfl)) (by unfold Func.isWrapper; first | (rw [if_pos (by decide +kernel)]; kernel_rfl) | (rw [if_neg (by decide +kernel)]; exact ⟨rfl, rfl⟩))
  (fun os started H enc _ => lifted os started H enc)
theorem proved : Rows.FnExactComponentsOfSaid := over
end fnExactComponentsOf
end Go.Proofs.Ytohghnoihbjmcaa
