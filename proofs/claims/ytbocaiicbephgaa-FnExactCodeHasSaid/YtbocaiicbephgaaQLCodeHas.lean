/-
  Proved: FnExactCodeHas returns true for every input and leaves its arguments as they were. No condition. Printed by gen_law2.py.
-/
import Derived.BigQuiet
import Derived.BigRegion
import Derived.ChangeOld
import Derived.Deep.DeepCutAuto
import Derived.Deep.DeepMust
import Derived.Deep.DrawnRows
import Derived.Deep.Draws
import Derived.Deep.Matrix
import Derived.Deep.OwnRows
import Derived.Deep.QuietTactic
import Derived.Deep.RegionHeld3
import Derived.Deep.Slices
import Derived.Deep.Strs
import Derived.IntWalk
import Derived.Laws.Rows
import Derived.Lib.Hide
import Derived.Lib.SmallJoins
import Derived.Maps.AppendAt
import Derived.OpenShut
import Derived.OwnWalk
import Derived.ProofKit
import Derived.ShutString
import Derived.StillTailTactics
import Derived.Test.YtbocaiicbephgaaProg
import Derived.Test.YtbocaiicbephgaaRows
import Derived.WalkKit
import Derived.WalkLawsBesides
import Derived.WalkSpells
import Derived.Test.YtbocaiicbephgaaZ6
import Derived.Test.YtbocaiicbephgaaZ16
import Derived.Test.YtbocaiicbephgaaZ44
set_option linter.unusedVariables false
set_option linter.unusedSimpArgs false
namespace Go.Proofs.Ytbocaiicbephgaa
open Go.RowKit
attribute [local go_sem ↓] Go.wp_at_zero Go.wp_at_succ

theorem dec_self {α : Type} [DecidableEq α] (xs : α) : decide (xs = xs) = true := by simp
set_option maxRecDepth 100000 in
set_option maxHeartbeats 4000000 in
theorem lawCodeHas (p0 : Int) (d0 : Int) (a0 : Option Addr) (c0 : Nat) (xs0 : List Int) (ra0 : Option Addr) (rc0 : Nat) (xss0 : List (List Int)) (a1 : Option Addr) (c1 : Nat) (xs1 : List Int) (w : World) (l0 : xs0.length ≤ maxLen) (h0 : xs0.length ≤ 1048576 → Rd w a0 xs0) (m0 : Lens w ra0 (xss0.map List.length)) (y0 : total (xss0.map List.length) ≤ 1048576 → RdS w ra0 xss0) (ed0 : I64 d0) (l1 : xs1.length ≤ maxLen) (h1 : xs1.length ≤ 1048576 → Rd w a1 xs1) :
    Calls Try.prog 4 #[.agg #[.int .i64 p0, .int .i64 d0, .slice a0 xs0.length c0, .slice ra0 xss0.length rc0], .slice a1 xs1.length c1] w fun e w' => e = .returned (.bool true) ∧ Below w.heap.size w w' := by
  obtain ⟨r0, hR⟩ : ∃ r0, (hasRes p0 d0 xs0 xss0 xs1) = r0 := ⟨_, rfl⟩
  have hsp := fun a0' c0' ra0' rc0' a1' c1' W h0' r0' h1' => specCH_any p0 d0 a0' c0' xs0 ra0' rc0' xss0 a1' c1' xs1 W h0' r0' h1'  
  rw [hR] at hsp
  have HSP := hide hsp
  clear hsp
  have him := fun a0' c0' ra0' rc0' a1' c1' W h0' r0' h1' => implCH_any p0 d0 a0' c0' xs0 ra0' rc0' xss0 a1' c1' xs1 W h0' r0' h1'  ed0
  rw [hR] at him
  have HIM := hide him
  clear him
  clear hR
  obtain ⟨w0, hw0⟩ : ∃ z, z = (w.alloc (.cells #[.int .i64 p0, .int .i64 d0, .slice a0 xs0.length c0, .slice ra0 xss0.length rc0] 27)) := ⟨_, rfl⟩
  have hb0 : Below w.heap.size w w0 := by rw [hw0]; exact ((Below.refl _ _).alloc (Nat.le_refl _) _)
  have kA0 : Blk w0 w.heap.size 27 #[.int .i64 p0, .int .i64 d0, .slice a0 xs0.length c0, .slice ra0 xss0.length rc0] := by rw [hw0]; exact (Blk.new _ _ _ rfl)
  have zb : w.heap.size + 1 ≤ w0.heap.size := by rw [hw0]; simp
  go_enter Try.func4, Try.ntmps4
  by_cases g1 : (xs1.length : Int) ≤ 1048576
  · skip
    have e0 : (xss0.map List.length).length = xss0.length := by simp
    have zz := szCode_any p0 d0 a0 xs0.length c0 ra0 rc0 (xss0.map List.length) (1048576) w0 l0 (by omega) (by omega) (m0.below hb0)
    rw [e0] at zz
    have Z1 := hide zz
    clear zz e0
    have HP2 := Lib.hid hw0
    clear hw0
    go_wp2_with fail
    rw [← HP2.out]
    refine (unhide Z1).mono ?_
    rintro e w1 ⟨rfl, b3⟩
    have z0 := b3.size
    by_cases g0 : ((xs0.length + total (xss0.map List.length) : Nat) : Int) ≤ 1048576
    · rw [left_yes g0]
      have H0 := (h0 (by omega)).below hb0
      have RR0 := (y0 (by omega)).below hb0
      have H1 := (h1 (by omega)).below hb0
      clear l0 h0 m0 y0 l1 h1 
      have f4 : w1.cell? ⟨w.heap.size, 0, none⟩ = some (.int .i64 p0) := (kA0.kp (Kp.below b3 (by omega))).cell 0
      have f5 : w1.cell? ⟨w.heap.size, 1, none⟩ = some (.int .i64 d0) := (kA0.kp (Kp.below b3 (by omega))).cell 1
      have f6 : w1.cell? ⟨w.heap.size, 2, none⟩ = some (.slice a0 xs0.length c0) := (kA0.kp (Kp.below b3 (by omega))).cell 2
      have f7 : w1.cell? ⟨w.heap.size, 3, none⟩ = some (.slice ra0 xss0.length rc0) := (kA0.kp (Kp.below b3 (by omega))).cell 3
      go_wp2_with fail
      refine (toCode_any p0 d0 a0 ra0 c0 rc0 xs0 xss0 w1 (H0.kp (Kp.below b3 (by omega))) (RR0.kp (Kp.below b3 (by omega)))).mono ?_
      rintro e w2 ⟨to8, so8, rfl, o8, b9⟩
      clear f4 f5 f6 f7
      have z1 := b9.size
      obtain ⟨A10, C10, RA10, RC10, rfl, rfl, _, _⟩ := o8.form
      have O10 := o8.toH (by omega)
      clear o8
      go_wp2_with fail
      refine (toInt64S_any a1 c1 xs1 w2 (H1.kp ((Kp.below b3 (by omega)).trans (Kp.below b9 (by omega))))).mono ?_
      rintro e w3 ⟨to11, rfl, o11, b12⟩
      have z2 := b12.size
      obtain ⟨A13, C13, rfl, _, _⟩ := o11.form
      have O13 := o11.toH
      clear o11
      go_wp2_with fail
      refine (unhide HSP A10 C10 RA10 RC10 A13 C13 w3 (O10.kp (Kp.below b12 (by omega))).rd (O10.kp (Kp.below b12 (by omega))).rds O13.rd).mono ?_
      rintro e w4 ⟨rfl, b15⟩
      have z3 := b15.size
      have f16 : w4.cell? ⟨w.heap.size, 0, none⟩ = some (.int .i64 p0) := (kA0.kp ((((Kp.below b3 (by omega)).trans (Kp.below b9 (by omega))).trans (Kp.below b12 (by omega))).trans (Kp.below b15 (by omega)))).cell 0
      have f17 : w4.cell? ⟨w.heap.size, 1, none⟩ = some (.int .i64 d0) := (kA0.kp ((((Kp.below b3 (by omega)).trans (Kp.below b9 (by omega))).trans (Kp.below b12 (by omega))).trans (Kp.below b15 (by omega)))).cell 1
      have f18 : w4.cell? ⟨w.heap.size, 2, none⟩ = some (.slice a0 xs0.length c0) := (kA0.kp ((((Kp.below b3 (by omega)).trans (Kp.below b9 (by omega))).trans (Kp.below b12 (by omega))).trans (Kp.below b15 (by omega)))).cell 2
      have f19 : w4.cell? ⟨w.heap.size, 3, none⟩ = some (.slice ra0 xss0.length rc0) := (kA0.kp ((((Kp.below b3 (by omega)).trans (Kp.below b9 (by omega))).trans (Kp.below b12 (by omega))).trans (Kp.below b15 (by omega)))).cell 3
      go_wp2_with fail
      refine (toCode_any p0 d0 a0 ra0 c0 rc0 xs0 xss0 w4 (H0.kp ((((Kp.below b3 (by omega)).trans (Kp.below b9 (by omega))).trans (Kp.below b12 (by omega))).trans (Kp.below b15 (by omega)))) (RR0.kp ((((Kp.below b3 (by omega)).trans (Kp.below b9 (by omega))).trans (Kp.below b12 (by omega))).trans (Kp.below b15 (by omega))))).mono ?_
      rintro e w5 ⟨to20, so20, rfl, o20, b21⟩
      clear f16 f17 f18 f19
      have z4 := b21.size
      obtain ⟨A22, C22, RA22, RC22, rfl, rfl, _, _⟩ := o20.form
      have O22 := o20.toH (by omega)
      clear o20
      obtain ⟨w6, hP23⟩ : ∃ z, z = w5.alloc (.cells #[.int .i64 p0, .int .i64 d0, .slice A22 xs0.length C22, .slice RA22 xss0.length RC22] 33) := ⟨_, rfl⟩
      have b24 : Below w5.heap.size w5 w6 := by rw [hP23]; exact (Below.refl _ _).alloc (Nat.le_refl _) _
      have K25 : Blk w6 w5.heap.size 33 #[.int .i64 p0, .int .i64 d0, .slice A22 xs0.length C22, .slice RA22 xss0.length RC22] := by rw [hP23]; exact Blk.new _ _ _ rfl
      have zz5 : w5.heap.size + 1 ≤ w6.heap.size := K25.lt
      have z5 := b24.size
      have HP26 := Lib.hid hP23
      clear hP23
      go_wp2_with fail
      rw [← HP26.out]
      refine (toInt64S_any a1 c1 xs1 w6 (H1.kp ((((((Kp.below b3 (by omega)).trans (Kp.below b9 (by omega))).trans (Kp.below b12 (by omega))).trans (Kp.below b15 (by omega))).trans (Kp.below b21 (by omega))).trans (Kp.below b24 (by omega))))).mono ?_
      rintro e w7 ⟨to27, rfl, o27, b28⟩
      have z6 := b28.size
      obtain ⟨A29, C29, rfl, _, _⟩ := o27.form
      have O29 := o27.toH
      clear o27
      have f30 : w7.cell? ⟨w5.heap.size, 0, none⟩ = some (.int .i64 p0) := (K25.kp (Kp.below b28 (by omega))).cell 0
      have f31 : w7.cell? ⟨w5.heap.size, 1, none⟩ = some (.int .i64 d0) := (K25.kp (Kp.below b28 (by omega))).cell 1
      have f32 : w7.cell? ⟨w5.heap.size, 2, none⟩ = some (.slice A22 xs0.length C22) := (K25.kp (Kp.below b28 (by omega))).cell 2
      have f33 : w7.cell? ⟨w5.heap.size, 3, none⟩ = some (.slice RA22 xss0.length RC22) := (K25.kp (Kp.below b28 (by omega))).cell 3
      go_wp2_with fail
      refine (unhide HIM A22 C22 RA22 RC22 A29 C29 w7 (O22.kp ((Kp.below b24 (by omega)).trans (Kp.below b28 (by omega)))).rd (O22.kp ((Kp.below b24 (by omega)).trans (Kp.below b28 (by omega)))).rds O29.rd).mono ?_
      rintro e w8 ⟨rfl, b35⟩
      clear f30 f31 f32 f33
      have z7 := b35.size
      have bner0 : (r0 != r0) = false := by simp
      have Y36 := (O22.kp (((Kp.below b24 (by omega)).trans (Kp.below b28 (by omega))).trans (Kp.below b35 (by omega)))).rd
      have YY36 := (O22.kp (((Kp.below b24 (by omega)).trans (Kp.below b28 (by omega))).trans (Kp.below b35 (by omega)))).rds
      have X36h := (H0.kp ((((((((Kp.below b3 (by omega)).trans (Kp.below b9 (by omega))).trans (Kp.below b12 (by omega))).trans (Kp.below b15 (by omega))).trans (Kp.below b21 (by omega))).trans (Kp.below b24 (by omega))).trans (Kp.below b28 (by omega))).trans (Kp.below b35 (by omega))))
      have X36r := (RR0.kp ((((((((Kp.below b3 (by omega)).trans (Kp.below b9 (by omega))).trans (Kp.below b12 (by omega))).trans (Kp.below b15 (by omega))).trans (Kp.below b21 (by omega))).trans (Kp.below b24 (by omega))).trans (Kp.below b28 (by omega))).trans (Kp.below b35 (by omega))))
      have K37 := (K25.kp ((Kp.below b28 (by omega)).trans (Kp.below b35 (by omega))))
      have K38 := (kA0.kp ((((((((Kp.below b3 (by omega)).trans (Kp.below b9 (by omega))).trans (Kp.below b12 (by omega))).trans (Kp.below b15 (by omega))).trans (Kp.below b21 (by omega))).trans (Kp.below b24 (by omega))).trans (Kp.below b28 (by omega))).trans (Kp.below b35 (by omega))))
      have BX39' : ∀ (W : World), Below w8.heap.size w8 W → (Below w8.heap.size w8 W ∧ W.cell? ⟨w5.heap.size, 0, none⟩ = some (.int .i64 p0) ∧ W.cell? ⟨w5.heap.size, 1, none⟩ = some (.int .i64 d0) ∧ W.cell? ⟨w5.heap.size, 2, none⟩ = some (.slice A22 xs0.length C22) ∧ W.cell? ⟨w5.heap.size, 3, none⟩ = some (.slice RA22 xss0.length RC22) ∧ W.cell? ⟨w.heap.size, 0, none⟩ = some (.int .i64 p0) ∧ W.cell? ⟨w.heap.size, 1, none⟩ = some (.int .i64 d0) ∧ W.cell? ⟨w.heap.size, 2, none⟩ = some (.slice a0 xs0.length c0) ∧ W.cell? ⟨w.heap.size, 3, none⟩ = some (.slice ra0 xss0.length rc0)) := fun _ h => ⟨h, (K37.below h K37.lt).cell 0, (K37.below h K37.lt).cell 1, (K37.below h K37.lt).cell 2, (K37.below h K37.lt).cell 3, (K38.below h K38.lt).cell 0, (K38.below h K38.lt).cell 1, (K38.below h K38.lt).cell 2, (K38.below h K38.lt).cell 3⟩
      have BX39 := hide BX39'
      clear BX39'
      go_upto_region 13 with fail
      go_region_held3 (fun W => Below w8.heap.size w8 W ∧ W.cell? ⟨w5.heap.size, 0, none⟩ = some (.int .i64 p0) ∧ W.cell? ⟨w5.heap.size, 1, none⟩ = some (.int .i64 d0) ∧ W.cell? ⟨w5.heap.size, 2, none⟩ = some (.slice A22 xs0.length C22) ∧ W.cell? ⟨w5.heap.size, 3, none⟩ = some (.slice RA22 xss0.length RC22) ∧ W.cell? ⟨w.heap.size, 0, none⟩ = some (.int .i64 p0) ∧ W.cell? ⟨w.heap.size, 1, none⟩ = some (.int .i64 d0) ∧ W.cell? ⟨w.heap.size, 2, none⟩ = some (.slice a0 xs0.length c0) ∧ W.cell? ⟨w.heap.size, 3, none⟩ = some (.slice ra0 xss0.length rc0))
        (first | exact (unhide BX39) _ (Below.refl _ _) | exact (unhide BX39) _ ((Below.refl _ _).drew) | exact (unhide BX39) _ (by assumption))
        (first
          | (go_at_call_of 17 (Value.slice a0 xs0.length c0); refine (toCode_any p0 d0 a0 ra0 c0 rc0 xs0 xss0 _ ?_ ?_).mono ?_; exact X36h.below (And.left (by assumption)); exact X36r.below (And.left (by assumption)); rintro e W36 ⟨t36, s36, rfl, o36, bb36⟩; obtain ⟨A36, C36, RA36, RC36, rfl, rfl, rr36, rs36⟩ := o36.form; have hB36 := Below.chain (a := w8) (And.left (by assumption)) bb36)
          | (go_at_call 21; refine (eqCode_any p0 d0 p0 d0 A22 A36 RA22 RA36 C22 C36 RC22 RC36 xs0 xs0 xss0 xss0 _ (Y36.below hB36) rr36 (YY36.below hB36) rs36).mono ?_; rintro e w9 ⟨rfl, bc36⟩; have b36e := Below.chain hB36 bc36; rw [sameC_self]))
      clear BX39
      have z8 := b36e.size
      go_wp2_with fail
      refine (toInt64S_any a1 c1 xs1 w9 (H1.kp (((((((((Kp.below b3 (by omega)).trans (Kp.below b9 (by omega))).trans (Kp.below b12 (by omega))).trans (Kp.below b15 (by omega))).trans (Kp.below b21 (by omega))).trans (Kp.below b24 (by omega))).trans (Kp.below b28 (by omega))).trans (Kp.below b35 (by omega))).trans (Kp.below b36e (by omega))))).mono ?_
      rintro e w10 ⟨to40, rfl, o40, b41⟩
      have z9 := b41.size
      obtain ⟨A42, C42, rfl, _, _⟩ := o40.form
      have O42 := o40.toH
      clear o40
      go_wp2_with fail
      refine (eqInt64S_any A29 A42 C29 C42 xs1 xs1 w10 (O29.kp (((Kp.below b35 (by omega)).trans (Kp.below b36e (by omega))).trans (Kp.below b41 (by omega)))).rd O42.rd).mono ?_
      rintro e w11 ⟨rfl, b43'⟩
      have b43 := b43'.below w10.heap.size
      clear b43'
      rw [dec_self]
      have z10 := b43.size
      go_wp2
      go_ret
      exact ⟨rfl, (((((((((((hb0.trans (b3.mono (by omega))).trans (b9.mono (by omega))).trans (b12.mono (by omega))).trans (b15.mono (by omega))).trans (b21.mono (by omega))).trans (b24.mono (by omega))).trans (b28.mono (by omega))).trans (b35.mono (by omega))).trans (b36e.mono (by omega))).trans (b41.mono (by omega))).trans (b43.mono (by omega)))⟩
    · rw [left_no g0]
      go_wp2
      go_ret
      exact ⟨rfl, (hb0.trans (b3.mono (by omega)))⟩
  · go_wp2
    go_ret
    exact ⟨rfl, by rw [← hw0]; exact hb0⟩

theorem law_FnExactCodeHas (X0 : COD) (X1 : SL) (w : World) (e0 : X0.ok w) (e1 : X1.ok w) :
    Calls Try.prog 4 #[X0.val, X1.val] w fun e w' => e = .returned (.bool true) ∧ Below w.heap.size w w' :=
  lawCodeHas X0.p X0.d X0.l.a X0.l.c X0.l.xs X0.r.a X0.r.c X0.r.xss X1.a X1.c X1.xs w e0.2.2.1.1 e0.2.2.1.2.1 e0.2.2.2.1 e0.2.2.2.2.1 e0.2.1 e1.1 e1.2.1

namespace fnExactCodeHas
open Go.ChangeShapes Go.WideShapes Go.ChangeAt

set_option maxRecDepth 100000 in
set_option maxHeartbeats 800000 in
theorem lifted (os : Os) (started : os.Started) (H : Type) (enc : TypeId × Value → H) :
    ReturnsInHanded {} Try.checked os 4 .any (Rows.fnExactCodeHasSpec.pre6 enc Try.prog Try.f4 Rows.fnExactCodeHasRow.domain false) (Rows.fnExactCodeHasSpec.post enc Try.prog Try.f4 false true false false) := by
  refine returnsInHanded_of_change (C := Try.checked) ownKnob_none started (by kernel_rfl) Try.func4
    (ChangeSpec.witness6 (enc := enc) (C := Try.checked) false ⟨#[], #[.agg #[.int .i64 0, .int .i64 0, .slice none 0 0, .slice none 0 0], .slice none 0 0], []⟩ 8 (by kernel_rfl) (by kernel_rfl) (by kernel_rfl) (by kernel_rfl)) ?_
  intro W base args ds gs before hval0 hW _ _
  have hval : ∀ (j : Nat) t v, Try.f4.params[j]? = some t → args[j]? = some v → Value.okWide Try.prog W .any base t v := hval0
  have hW' := hW
  obtain ⟨p, q, hA0, hV, rfl, hfz, hnd⟩ := hW
  have hA : DataW.TrodAll enc Try.prog W 0 (fun _ => true) true Try.f4.params.toList args.toList ds p := hA0
  rw [Try.params4] at hA hval
  obtain ⟨v0, vs0, d0, ds0, p0, q0, hargs, rfl, rfl, h0, r0⟩ := trodAll_cons hA
  obtain ⟨v1, vs1, d1, ds1, p1, q1, rfl, rfl, rfl, h1, r1⟩ := trodAll_cons r0
  obtain ⟨rfl, rfl, rfl⟩ := trodAll_nil r1
  obtain rfl : args = #[v0, v1] := by cases args; simp_all
  obtain ⟨rfl, rfl⟩ := trodVars_none hV
  have k0 := h0
  have lt0 : ∀ x ∈ p0, x.block < W.heap.size := by obtain ⟨m, hm⟩ := k0; exact DataW.trod_lt m _ _ _ hm
  obtain ⟨X0, rfl, e0⟩ := open_cod (hval 0 27 v0 rfl rfl) h0
  have k1 := h1
  have lt1 : ∀ x ∈ p1, x.block < W.heap.size := by obtain ⟨m, hm⟩ := k1; exact DataW.trod_lt m _ _ _ hm
  obtain ⟨X1, rfl, e1⟩ := open_sl (hval 1 22 v1 rfl rfl) h1
  clear hA0 hval0
  refine (law_FnExactCodeHas X0  X1  W e0 e1).mono fun e W' ⟨he, bel⟩ => ?_
  subst he
  exact ⟨_, rfl, _, _, _, [], _, [], hW', trodAll_mk1 (shut_bool Try.underlying4 _), (trodAll_cons_mk (Below.trod laidOut_ok (by kernel_rfl) (of_decide_eq_true (by kernel_rfl)) k0 bel lt0) (trodAll_cons_mk (Below.trod laidOut_ok (by kernel_rfl) (of_decide_eq_true (by kernel_rfl)) k1 bel lt1) trodAll_mk0)), rfl, bel.frame _, fun h => by cases h⟩

theorem over : Rows.fnExactCodeHasRow.holds Try.pinned (OpenSpec.ofChange Rows.fnExactCodeHasSpec) :=
  OpenClaim.holds_of_wide 4 Try.f4 rfl rfl rfl rfl rfl rfl rfl ⟨rfl, rfl, rfl, rfl, rfl⟩ rfl rfl rfl rfl rfl (by kernel_rfl) Try.func4 (by kernel_rfl)
    (of_decide_eq_true (by kernel_rfl)) (by unfold Func.isWrapper; first | (rw [if_pos (by decide +kernel)]; kernel_rfl) | (rw [if_neg (by decide +kernel)]; exact ⟨rfl, rfl⟩))
    (fun os started H enc _ => lifted os started H enc)

theorem proved : Rows.FnExactCodeHasSaid := over
#print axioms proved
end fnExactCodeHas
end Go.Proofs.Ytbocaiicbephgaa

