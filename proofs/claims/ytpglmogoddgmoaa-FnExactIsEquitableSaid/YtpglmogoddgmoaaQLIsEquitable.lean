/-
  Proved: FnExactIsEquitable returns true for every input and leaves its arguments as they were. No condition. Printed by gen_law3.py.
-/
import Derived.Test.YtpglmogoddgmoaaJA1
import Derived.Test.YtpglmogoddgmoaaJA3
import Derived.Test.YtpglmogoddgmoaaJA16
import Derived.Test.YtpglmogoddgmoaaJA23
import Derived.Test.YtpglmogoddgmoaaJA25
set_option linter.unusedVariables false
set_option linter.unusedSimpArgs false
set_option maxRecDepth 100000
set_option maxHeartbeats 40000000
namespace Go.Proofs.Ytpglmogoddgmoaa
open Go.RowKit
attribute [local go_sem ↓] Go.wp_at_zero Go.wp_at_succ
theorem dec_self {α : Type} [DecidableEq α] (xs : α) : decide (xs = xs) = true := by simp
theorem lawIsEquitable (a0 : Option Addr) (c0 : Nat) (xs0 : List Int) (ra0 : Option Addr) (rc0 : Nat) (xss0 : List (Int × Int)) (a1 : Option Addr) (c1 : Nat) (xs1 : List Int) (w : World) (l0 : xs0.length ≤ maxLen) (h0 : xs0.length ≤ 1048576 → Rd w a0 xs0) (m0 : xss0.length ≤ maxLen) (y0 : xss0.length ≤ 1048576 → RdE w ra0 xss0) (l1 : xs1.length ≤ maxLen) (h1 : xs1.length ≤ 1048576 → Rd w a1 xs1) :
    Calls Try.prog 7 #[.agg #[.slice a0 xs0.length c0, .slice ra0 xss0.length rc0], .slice a1 xs1.length c1] w fun e w' => e = .returned (.bool true) ∧ Below w.heap.size w w' := by
 obtain ⟨r0, hR⟩ : ∃ r0, (eqRes xs0 xss0 xs1) = r0 := ⟨_, rfl⟩
 have hsp := fun a0' c0' ra0' rc0' a1' c1' W h0' r0' h1' => specEQ_any a0' c0' xs0 ra0' rc0' xss0 a1' c1' xs1 W h0' r0' h1'  
 rw [hR] at hsp
 have HSP := hide hsp
 clear hsp
 have him := fun a0' c0' ra0' rc0' a1' c1' W h0' r0' h1' => implEQ_any a0' c0' xs0 ra0' rc0' xss0 a1' c1' xs1 W h0' r0' h1'  
 rw [hR] at him
 have HIM := hide him
 clear him
 clear hR
 obtain ⟨w0, hw0⟩ : ∃ z, z = (w.alloc (.cells #[.slice a0 xs0.length c0, .slice ra0 xss0.length rc0] 69)) := ⟨_, rfl⟩
 have hb0 : Below w.heap.size w w0 := by rw [hw0]; exact ((Below.refl _ _).alloc (Nat.le_refl _) _)
 have kA0 : Blk w0 w.heap.size 69 #[.slice a0 xs0.length c0, .slice ra0 xss0.length rc0] := by rw [hw0]; exact (Blk.new _ _ _ rfl)
 have zb : w.heap.size + 1 ≤ w0.heap.size := by rw [hw0]; simp
 go_enter Try.func7, Try.ntmps7
 by_cases g1 : (xs1.length : Int) ≤ 1048576
 · skip
   have zz := szGraph_any a0 xs0.length c0 ra0 xss0.length rc0 (1048576) w0 l0 m0 (by omega) (by omega)
   have Z1 := hide zz
   clear zz
   have HP2 := Lib.hid hw0
   clear hw0
   go_wp2_with fail
   rw [← HP2.out]
   refine (unhide Z1).mono ?_
   rintro e w1 ⟨rfl, b3⟩
   have z0 := b3.size
   by_cases g0 : ((xs0.length + xss0.length : Nat) : Int) ≤ 1048576
   · rw [left_yes g0]
     have H0 := (h0 (by omega)).below hb0
     have RR0 := (y0 (by omega)).below hb0
     have H1 := (h1 (by omega)).below hb0
     clear l0 h0 m0 y0 l1 h1 
     have f4 : w1.cell? ⟨w.heap.size, 0, none⟩ = some (.slice a0 xs0.length c0) := (kA0.kp (Kp.below b3 (by omega))).cell 0
     have f5 : w1.cell? ⟨w.heap.size, 1, none⟩ = some (.slice ra0 xss0.length rc0) := (kA0.kp (Kp.below b3 (by omega))).cell 1
     go_wp2_with fail
     refine (toGraph_any a0 ra0 c0 rc0 xs0 xss0 w1 (H0.kp (Kp.below b3 (by omega))) (RR0.kp (Kp.below b3 (by omega)))).mono ?_
     rintro e w2 ⟨to6, so6, rfl, o6, b7⟩
     clear f4 f5
     have z1 := b7.size
     have o6 := o6.two
     obtain ⟨A8, C8, RA8, RC8, rfl, rfl, _, _⟩ := o6.form
     have O8 := o6.toH (by omega)
     clear o6
     go_wp2_with fail
     refine (toInt64S_any a1 c1 xs1 w2 (H1.kp ((Kp.below b3 (by omega)).trans (Kp.below b7 (by omega))))).mono ?_
     rintro e w3 ⟨to9, rfl, o9, b10⟩
     have z2 := b10.size
     obtain ⟨A11, C11, rfl, _, _⟩ := o9.form
     have O11 := o9.toH
     clear o9
     go_wp2_with fail
     refine (unhide HSP A8 C8 RA8 RC8 A11 C11 w3 (O8.kp (Kp.below b10 (by omega))).rd (O8.kp (Kp.below b10 (by omega))).rds O11.rd).mono ?_
     rintro e w4 ⟨rfl, b13⟩
     have z3 := b13.size
     have f14 : w4.cell? ⟨w.heap.size, 0, none⟩ = some (.slice a0 xs0.length c0) := (kA0.kp ((((Kp.below b3 (by omega)).trans (Kp.below b7 (by omega))).trans (Kp.below b10 (by omega))).trans (Kp.below b13 (by omega)))).cell 0
     have f15 : w4.cell? ⟨w.heap.size, 1, none⟩ = some (.slice ra0 xss0.length rc0) := (kA0.kp ((((Kp.below b3 (by omega)).trans (Kp.below b7 (by omega))).trans (Kp.below b10 (by omega))).trans (Kp.below b13 (by omega)))).cell 1
     go_wp2_with fail
     refine (toGraph_any a0 ra0 c0 rc0 xs0 xss0 w4 (H0.kp ((((Kp.below b3 (by omega)).trans (Kp.below b7 (by omega))).trans (Kp.below b10 (by omega))).trans (Kp.below b13 (by omega)))) (RR0.kp ((((Kp.below b3 (by omega)).trans (Kp.below b7 (by omega))).trans (Kp.below b10 (by omega))).trans (Kp.below b13 (by omega))))).mono ?_
     rintro e w5 ⟨to16, so16, rfl, o16, b17⟩
     clear f14 f15
     have z4 := b17.size
     have o16 := o16.two
     obtain ⟨A18, C18, RA18, RC18, rfl, rfl, _, _⟩ := o16.form
     have O18 := o16.toH (by omega)
     clear o16
     obtain ⟨w6, hP19⟩ : ∃ z, z = w5.alloc (.cells #[.slice A18 xs0.length C18, .slice RA18 xss0.length RC18] 74) := ⟨_, rfl⟩
     have b20 : Below w5.heap.size w5 w6 := by rw [hP19]; exact (Below.refl _ _).alloc (Nat.le_refl _) _
     have K21 : Blk w6 w5.heap.size 74 #[.slice A18 xs0.length C18, .slice RA18 xss0.length RC18] := by rw [hP19]; exact Blk.new _ _ _ rfl
     have zz5 : w5.heap.size + 1 ≤ w6.heap.size := K21.lt
     have z5 := b20.size
     have HP22 := Lib.hid hP19
     clear hP19
     go_wp2_with fail
     rw [← HP22.out]
     refine (toInt64S_any a1 c1 xs1 w6 (H1.kp ((((((Kp.below b3 (by omega)).trans (Kp.below b7 (by omega))).trans (Kp.below b10 (by omega))).trans (Kp.below b13 (by omega))).trans (Kp.below b17 (by omega))).trans (Kp.below b20 (by omega))))).mono ?_
     rintro e w7 ⟨to23, rfl, o23, b24⟩
     have z6 := b24.size
     obtain ⟨A25, C25, rfl, _, _⟩ := o23.form
     have O25 := o23.toH
     clear o23
     have f26 : w7.cell? ⟨w5.heap.size, 0, none⟩ = some (.slice A18 xs0.length C18) := (K21.kp (Kp.below b24 (by omega))).cell 0
     have f27 : w7.cell? ⟨w5.heap.size, 1, none⟩ = some (.slice RA18 xss0.length RC18) := (K21.kp (Kp.below b24 (by omega))).cell 1
     go_wp2_with fail
     refine (unhide HIM A18 C18 RA18 RC18 A25 C25 w7 (O18.kp ((Kp.below b20 (by omega)).trans (Kp.below b24 (by omega)))).rd (O18.kp ((Kp.below b20 (by omega)).trans (Kp.below b24 (by omega)))).rds O25.rd).mono ?_
     rintro e w8 ⟨rfl, b29⟩
     clear f26 f27
     have z7 := b29.size
     have bner0 : (r0 != r0) = false := by simp
     have Y30 := (O18.kp (((Kp.below b20 (by omega)).trans (Kp.below b24 (by omega))).trans (Kp.below b29 (by omega)))).rd
     have YY30 := (O18.kp (((Kp.below b20 (by omega)).trans (Kp.below b24 (by omega))).trans (Kp.below b29 (by omega)))).rds
     have X30h := (H0.kp ((((((((Kp.below b3 (by omega)).trans (Kp.below b7 (by omega))).trans (Kp.below b10 (by omega))).trans (Kp.below b13 (by omega))).trans (Kp.below b17 (by omega))).trans (Kp.below b20 (by omega))).trans (Kp.below b24 (by omega))).trans (Kp.below b29 (by omega))))
     have X30r := (RR0.kp ((((((((Kp.below b3 (by omega)).trans (Kp.below b7 (by omega))).trans (Kp.below b10 (by omega))).trans (Kp.below b13 (by omega))).trans (Kp.below b17 (by omega))).trans (Kp.below b20 (by omega))).trans (Kp.below b24 (by omega))).trans (Kp.below b29 (by omega))))
     have K31 := (K21.kp ((Kp.below b24 (by omega)).trans (Kp.below b29 (by omega))))
     have K32 := (kA0.kp ((((((((Kp.below b3 (by omega)).trans (Kp.below b7 (by omega))).trans (Kp.below b10 (by omega))).trans (Kp.below b13 (by omega))).trans (Kp.below b17 (by omega))).trans (Kp.below b20 (by omega))).trans (Kp.below b24 (by omega))).trans (Kp.below b29 (by omega))))
     have BX33' : ∀ (W : World), Below w8.heap.size w8 W → (Below w8.heap.size w8 W ∧ W.cell? ⟨w5.heap.size, 0, none⟩ = some (.slice A18 xs0.length C18) ∧ W.cell? ⟨w5.heap.size, 1, none⟩ = some (.slice RA18 xss0.length RC18) ∧ W.cell? ⟨w.heap.size, 0, none⟩ = some (.slice a0 xs0.length c0) ∧ W.cell? ⟨w.heap.size, 1, none⟩ = some (.slice ra0 xss0.length rc0)) := fun _ h => ⟨h, (K31.below h K31.lt).cell 0, (K31.below h K31.lt).cell 1, (K32.below h K32.lt).cell 0, (K32.below h K32.lt).cell 1⟩
     have BX33 := hide BX33'
     clear BX33'
     go_upto_region 13 with fail
     go_region_held3 (fun W => Below w8.heap.size w8 W ∧ W.cell? ⟨w5.heap.size, 0, none⟩ = some (.slice A18 xs0.length C18) ∧ W.cell? ⟨w5.heap.size, 1, none⟩ = some (.slice RA18 xss0.length RC18) ∧ W.cell? ⟨w.heap.size, 0, none⟩ = some (.slice a0 xs0.length c0) ∧ W.cell? ⟨w.heap.size, 1, none⟩ = some (.slice ra0 xss0.length rc0))
      (first | exact (unhide BX33) _ (Below.refl _ _) | exact (unhide BX33) _ ((Below.refl _ _).drew) | exact (unhide BX33) _ (by assumption))
      (first
       | (go_at_call_of 47 (Value.slice a0 xs0.length c0); refine (toGraph_any a0 ra0 c0 rc0 xs0 xss0 _ ?_ ?_).mono ?_; exact X30h.below (And.left (by assumption)); exact X30r.below (And.left (by assumption)); rintro e W30 ⟨t30, s30, rfl, o30, bb30⟩; obtain ⟨A30, C30, RA30, RC30, rfl, rfl, rr30, rs30⟩ := o30.form; have hB30 := Below.chain (a := w8) (And.left (by assumption)) bb30)
       | (go_at_call 50; refine (eqGraph_any A18 A30 RA18 RA30 C18 C30 RC18 RC30 xs0 xs0 xss0 xss0 _ (Y30.below hB30) rr30 (YY30.below hB30) rs30).mono ?_; rintro e w9 ⟨rfl, bc30⟩; have b30e := Below.chain hB30 bc30; rw [sameG_self]))
     clear BX33
     have z8 := b30e.size
     go_wp2_with fail
     refine (toInt64S_any a1 c1 xs1 w9 (H1.kp (((((((((Kp.below b3 (by omega)).trans (Kp.below b7 (by omega))).trans (Kp.below b10 (by omega))).trans (Kp.below b13 (by omega))).trans (Kp.below b17 (by omega))).trans (Kp.below b20 (by omega))).trans (Kp.below b24 (by omega))).trans (Kp.below b29 (by omega))).trans (Kp.below b30e (by omega))))).mono ?_
     rintro e w10 ⟨to34, rfl, o34, b35⟩
     have z9 := b35.size
     obtain ⟨A36, C36, rfl, _, _⟩ := o34.form
     have O36 := o34.toH
     clear o34
     go_wp2_with fail
     refine (eqInt64S_any A25 A36 C25 C36 xs1 xs1 w10 (O25.kp (((Kp.below b29 (by omega)).trans (Kp.below b30e (by omega))).trans (Kp.below b35 (by omega)))).rd O36.rd).mono ?_
     rintro e w11 ⟨rfl, b37'⟩
     have b37 := b37'.below w10.heap.size
     clear b37'
     rw [dec_self]
     have z10 := b37.size
     go_wp2
     go_ret
     exact ⟨rfl, (((((((((((hb0.trans (b3.mono (by omega))).trans (b7.mono (by omega))).trans (b10.mono (by omega))).trans (b13.mono (by omega))).trans (b17.mono (by omega))).trans (b20.mono (by omega))).trans (b24.mono (by omega))).trans (b29.mono (by omega))).trans (b30e.mono (by omega))).trans (b35.mono (by omega))).trans (b37.mono (by omega)))⟩
   · rw [left_no g0]
     go_wp2
     go_ret
     exact ⟨rfl, (hb0.trans (b3.mono (by omega)))⟩
 · go_wp2
   go_ret
   exact ⟨rfl, by rw [← hw0]; exact hb0⟩
theorem law_FnExactIsEquitable (X0 : GRA) (X1 : SL) (w : World) (e0 : X0.ok w) (e1 : X1.ok w) :
    Calls Try.prog 7 #[X0.val, X1.val] w fun e w' => e = .returned (.bool true) ∧ Below w.heap.size w w' :=
 lawIsEquitable X0.l.a X0.l.c X0.l.xs X0.r.a X0.r.c X0.r.es X1.a X1.c X1.xs w e0.1.1 e0.1.2.1 e0.2.1 e0.2.2.1 e1.1 e1.2.1
namespace fnExactIsEquitable
open Go.ChangeShapes Go.WideShapes Go.ChangeAt
theorem lifted (os : Os) (started : os.Started) (H : Type) (enc : TypeId × Value → H) :
    ReturnsInHanded {} Try.checked os 7 .any (Rows.fnExactIsEquitableSpec.pre6 enc Try.prog Try.f7 Rows.fnExactIsEquitableRow.domain false) (Rows.fnExactIsEquitableSpec.post enc Try.prog Try.f7 false true false false) := by
 refine returnsInHanded_of_change (C := Try.checked) ownKnob_none started (by kernel_rfl) Try.func7
  (ChangeSpec.witness6 (enc := enc) (C := Try.checked) false ⟨#[], #[.agg #[.slice none 0 0, .slice none 0 0], .slice none 0 0], []⟩ 8 (by kernel_rfl) (by kernel_rfl) (by kernel_rfl) (by kernel_rfl)) ?_
 intro W base args ds gs before hval0 hW _ _
 have hval : ∀ (j : Nat) t v, Try.f7.params[j]? = some t → args[j]? = some v → Value.okWide Try.prog W .any base t v := hval0
 have hW' := hW
 obtain ⟨p, q, hA0, hV, rfl, hfz, hnd⟩ := hW
 have hA : DataW.TrodAll enc Try.prog W 0 (fun _ => true) true Try.f7.params.toList args.toList ds p := hA0
 rw [Try.params7] at hA hval
 obtain ⟨v0, vs0, d0, ds0, p0, q0, hargs, rfl, rfl, h0, r0⟩ := trodAll_cons hA
 obtain ⟨v1, vs1, d1, ds1, p1, q1, rfl, rfl, rfl, h1, r1⟩ := trodAll_cons r0
 obtain ⟨rfl, rfl, rfl⟩ := trodAll_nil r1
 obtain rfl : args = #[v0, v1] := by cases args; simp_all
 obtain ⟨rfl, rfl⟩ := trodVars_none hV
 have k0 := h0
 have lt0 : ∀ x ∈ p0, x.block < W.heap.size := by obtain ⟨m, hm⟩ := k0; exact DataW.trod_lt m _ _ _ hm
 obtain ⟨X0, rfl, e0⟩ := open_gra (hval 0 69 v0 rfl rfl) h0
 have k1 := h1
 have lt1 : ∀ x ∈ p1, x.block < W.heap.size := by obtain ⟨m, hm⟩ := k1; exact DataW.trod_lt m _ _ _ hm
 obtain ⟨X1, rfl, e1⟩ := open_sl (hval 1 24 v1 rfl rfl) h1
 clear hA0 hval0
 refine (law_FnExactIsEquitable X0  X1  W e0 e1).mono fun e W' ⟨he, bel⟩ => ?_
 subst he
 exact ⟨_, rfl, _, _, _, [], _, [], hW', trodAll_mk1 (shut_bool Try.underlying4 _), (trodAll_cons_mk (Below.trod laidOut_ok (by kernel_rfl) (of_decide_eq_true (by kernel_rfl)) k0 bel lt0) (trodAll_cons_mk (Below.trod laidOut_ok (by kernel_rfl) (of_decide_eq_true (by kernel_rfl)) k1 bel lt1) trodAll_mk0)), rfl, bel.frame _, fun h => by cases h⟩
theorem over : Rows.fnExactIsEquitableRow.holds Try.pinned (OpenSpec.ofChange Rows.fnExactIsEquitableSpec) :=
 OpenClaim.holds_of_wide 7 Try.f7 rfl rfl rfl rfl rfl rfl rfl ⟨rfl, rfl, rfl, rfl, rfl⟩ rfl rfl rfl rfl rfl (by kernel_rfl) Try.func7 (by kernel_rfl)
  (of_decide_eq_true (by kernel_rfl)) (by unfold Func.isWrapper; first | (rw [if_pos (by decide +kernel)]; kernel_rfl) | (rw [if_neg (by decide +kernel)]; exact ⟨rfl, rfl⟩))
  (fun os started H enc _ => lifted os started H enc)
theorem proved : Rows.FnExactIsEquitableSaid := over
end fnExactIsEquitable
end Go.Proofs.Ytpglmogoddgmoaa
