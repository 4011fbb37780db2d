/-
  Proved: FnExactCorrectHamming returns true for every input and leaves its arguments as they were. No condition. Printed by gen_law2.py.
-/
import Derived.BigQuiet
import Derived.BigRegion
import Derived.ChangeOld
import Derived.Deep.DeepCutAuto
import Derived.Deep.DeepMust
import Derived.Deep.DrawnRows
import Derived.Deep.Draws
import Derived.Deep.Matrix
import Derived.Deep.OwnRows
import Derived.Deep.QuietTactic
import Derived.Deep.RegionHeld3
import Derived.Deep.Slices
import Derived.Deep.Strs
import Derived.IntWalk
import Derived.Laws.Rows
import Derived.Lib.Hide
import Derived.Lib.SmallJoins
import Derived.Maps.AppendAt
import Derived.OpenShut
import Derived.OwnWalk
import Derived.ProofKit
import Derived.ShutString
import Derived.StillTailTactics
import Derived.Test.YtgmgpcaahanmiaaProg
import Derived.Test.YtgmgpcaahanmiaaRows
import Derived.WalkKit
import Derived.WalkLawsBesides
import Derived.WalkSpells
import Derived.Test.YtgmgpcaahanmiaaZ6
import Derived.Test.YtgmgpcaahanmiaaZ16
import Derived.Test.YtgmgpcaahanmiaaZ69
set_option linter.unusedVariables false
set_option linter.unusedSimpArgs false
namespace Go.Proofs.Ytgmgpcaahanmiaa
open Go.RowKit
attribute [local go_sem ↓] Go.wp_at_zero Go.wp_at_succ

theorem dec_self {α : Type} [DecidableEq α] (xs : α) : decide (xs = xs) = true := by simp
set_option maxRecDepth 100000 in
set_option maxHeartbeats 4000000 in
theorem lawCorrectHamming (n0 : Int) (n1 : Int) (a2 : Option Addr) (c2 : Nat) (xs2 : List Int) (w0 : World) (l2 : xs2.length ≤ maxLen) (h2 : xs2.length ≤ 1048576 → Rd w0 a2 xs2) :
    Calls Try.prog 3 #[.int .i64 n0, .int .i64 n1, .slice a2 xs2.length c2] w0 fun e w' => e = .returned (.bool true) ∧ Below w0.heap.size w0 w' := by
  obtain ⟨r0, r1, hR⟩ : ∃ r0 r1, (corRes n0 n1 xs2) = (r0, r1) := ⟨_, _, rfl⟩
  have hsp := fun a2' c2' W h2' => specCO_any n0 n1 a2' c2' xs2 W h2'  
  rw [hR] at hsp
  have HSP := hide hsp
  clear hsp
  have him := fun a2' c2' W h2' => implCO_any n0 n1 a2' c2' xs2 W h2'  
  rw [hR] at him
  have HIM := hide him
  clear him
  clear hR
  have hb0 : Below w0.heap.size w0 w0 := Below.refl _ _
  go_enter Try.func3, Try.ntmps3
  by_cases g2 : (xs2.length : Int) ≤ 1048576
  · skip
    have H2 := (h2 (by omega)).below hb0
    clear   l2 h2 
    go_wp2_with fail
    refine (toInt64S_any a2 c2 xs2 w0 H2).mono ?_
    rintro e w1 ⟨to1, rfl, o1, b2⟩
    have z0 := b2.size
    obtain ⟨A3, C3, rfl, _, _⟩ := o1.form
    have O3 := o1.toH
    clear o1
    go_wp2_with fail
    refine (unhide HSP A3 C3 w1 O3.rd).mono ?_
    rintro e w2 ⟨to4, rfl, o4, b5⟩
    have z1 := b5.size
    have o4 : Own w2 w1.heap.size to4 r0 := o4
    obtain ⟨A6, C6, rfl, _, _⟩ := o4.form
    have O6 := o4.toH
    clear o4
    go_wp2_with fail
    refine (toInt64S_any a2 c2 xs2 w2 (H2.kp ((Kp.below b2 (by omega)).trans (Kp.below b5 (by omega))))).mono ?_
    rintro e w3 ⟨to7, rfl, o7, b8⟩
    have z2 := b8.size
    obtain ⟨A9, C9, rfl, _, _⟩ := o7.form
    have O9 := o7.toH
    clear o7
    go_wp2_with fail
    refine (unhide HIM A9 C9 w3 O9.rd).mono ?_
    rintro e w4 ⟨to10, rfl, o10, b11⟩
    have z3 := b11.size
    have o10 : Own w4 w3.heap.size to10 r0 := o10
    obtain ⟨A12, C12, rfl, _, _⟩ := o10.form
    have O12 := o10.toH
    clear o10
    go_wp2_with fail
    refine (eqInt64S_any A12 A6 C12 C6 r0 r0 w4 O12.rd (O6.kp ((Kp.below b8 (by omega)).trans (Kp.below b11 (by omega)))).rd).mono ?_
    rintro e w5 ⟨rfl, b13'⟩
    have b13 := b13'.below w4.heap.size
    clear b13'
    rw [dec_self]
    have z4 := b13.size
    go_wp2_with fail
    refine (toInt64S_any a2 c2 xs2 w5 (H2.kp (((((Kp.below b2 (by omega)).trans (Kp.below b5 (by omega))).trans (Kp.below b8 (by omega))).trans (Kp.below b11 (by omega))).trans (Kp.below b13 (by omega))))).mono ?_
    rintro e w6 ⟨to14, rfl, o14, b15⟩
    have z5 := b15.size
    obtain ⟨A16, C16, rfl, _, _⟩ := o14.form
    have O16 := o14.toH
    clear o14
    go_wp2_with fail
    refine (eqInt64S_any A9 A16 C9 C16 xs2 xs2 w6 (O9.kp (((Kp.below b11 (by omega)).trans (Kp.below b13 (by omega))).trans (Kp.below b15 (by omega)))).rd O16.rd).mono ?_
    rintro e w7 ⟨rfl, b17'⟩
    have b17 := b17'.below w6.heap.size
    clear b17'
    rw [dec_self]
    have z6 := b17.size
    have bdO9 : xs2.length ≤ 1073741824 := O9.1.1
    have bdO12 : r0.length ≤ 1073741824 := O12.1.1
    go_wp2_with fail
    refine (markH_any w2.heap.size w3.heap.size (.slice A9 xs2.length C9) (1) xs2 w7 (O9.kp ((((Kp.below b11 (by omega)).trans (Kp.below b13 (by omega))).trans (Kp.below b15 (by omega))).trans (Kp.below b17 (by omega)))) (by omega) (by omega) (by omega)).mono ?_
    rintro e w8 ⟨rfl, o19, _, m18⟩
    have z7 := m18.size
    have kn1 : decide (1 + (xs2.length : Int) < 0) = false := by rw [decide_eq_false_iff_not]; omega
    have kn2 : 0 ≤ 1 + (xs2.length : Int) := by omega
    go_wp2_with fail
    refine (eqInt64S_any A12 A6 C12 C6 r0 r0 w8 (O12.kp ((((Kp.below b13 (by omega)).trans (Kp.below b15 (by omega))).trans (Kp.below b17 (by omega))).trans (Mk.kp m18 (by omega) (by omega)))).rd (O6.kp ((((((Kp.below b8 (by omega)).trans (Kp.below b11 (by omega))).trans (Kp.below b13 (by omega))).trans (Kp.below b15 (by omega))).trans (Kp.below b17 (by omega))).trans (Mk.kp m18 (by omega) (by omega)))).rd).mono ?_
    rintro e w9 ⟨rfl, b20'⟩
    have b20 := b20'.below w8.heap.size
    clear b20'
    rw [dec_self]
    have z8 := b20.size
    go_wp2_with fail
    refine (markH_any w3.heap.size w4.heap.size (.slice A12 r0.length C12) (1) r0 w9 (O12.kp (((((Kp.below b13 (by omega)).trans (Kp.below b15 (by omega))).trans (Kp.below b17 (by omega))).trans (Mk.kp m18 (by omega) (by omega))).trans (Kp.below b20 (by omega)))) (by omega) (by omega) (by omega)).mono ?_
    rintro e w10 ⟨rfl, o22, _, m21⟩
    have z9 := m21.size
    have kn3 : decide (1 + (r0.length : Int) < 0) = false := by rw [decide_eq_false_iff_not]; omega
    have kn4 : 0 ≤ 1 + (r0.length : Int) := by omega
    have kn5 : (1 + (r0.length : Int) != 1 + (r0.length : Int)) = false := by simp
    go_wp2_with fail
    refine (heldInt64S_marked A12 C12 r0.length 1 w10 o22.rd (by omega) (by omega)).mono ?_
    rintro e w11 ⟨rfl, b23'⟩
    have b23 : Below w10.heap.size w10 w11 := by rw [← b23']; exact Below.refl _ _
    clear b23'
    have z10 := b23.size
    go_wp2_with fail
    refine (toInt64S_any a2 c2 xs2 w11 (H2.kp (((((((((((Kp.below b2 (by omega)).trans (Kp.below b5 (by omega))).trans (Kp.below b8 (by omega))).trans (Kp.below b11 (by omega))).trans (Kp.below b13 (by omega))).trans (Kp.below b15 (by omega))).trans (Kp.below b17 (by omega))).trans (Mk.kp m18 (by omega) (by omega))).trans (Kp.below b20 (by omega))).trans (Mk.kp m21 (by omega) (by omega))).trans (Kp.below b23 (by omega))))).mono ?_
    rintro e w12 ⟨to24, rfl, o24, b25⟩
    have z11 := b25.size
    obtain ⟨A26, C26, rfl, _, _⟩ := o24.form
    have O26 := o24.toH
    clear o24
    go_wp2_with fail
    refine (unhide HIM A26 C26 w12 O26.rd).mono ?_
    rintro e w13 ⟨to27, rfl, o27, b28⟩
    have z12 := b28.size
    have o27 : Own w13 w12.heap.size to27 r0 := o27
    obtain ⟨A29, C29, rfl, _, _⟩ := o27.form
    have O29 := o27.toH
    clear o27
    go_wp2_with fail
    refine (eqInt64S_any A29 A6 C29 C6 r0 r0 w13 O29.rd (O6.kp (((((((((((Kp.below b8 (by omega)).trans (Kp.below b11 (by omega))).trans (Kp.below b13 (by omega))).trans (Kp.below b15 (by omega))).trans (Kp.below b17 (by omega))).trans (Mk.kp m18 (by omega) (by omega))).trans (Kp.below b20 (by omega))).trans (Mk.kp m21 (by omega) (by omega))).trans (Kp.below b23 (by omega))).trans (Kp.below b25 (by omega))).trans (Kp.below b28 (by omega)))).rd).mono ?_
    rintro e w14 ⟨rfl, b30'⟩
    have b30 := b30'.below w13.heap.size
    clear b30'
    rw [dec_self]
    have z13 := b30.size
    go_wp2_with fail
    refine (heldInt64S_marked A12 C12 r0.length 1 w14 (o22.kp ((((Kp.below b23 (by omega)).trans (Kp.below b25 (by omega))).trans (Kp.below b28 (by omega))).trans (Kp.below b30 (by omega)))).rd (by omega) (by omega)).mono ?_
    rintro e w15 ⟨rfl, b31'⟩
    have b31 : Below w14.heap.size w14 w15 := by rw [← b31']; exact Below.refl _ _
    clear b31'
    have z14 := b31.size
    go_wp2
    go_ret
    exact ⟨rfl, (((((((((((((((hb0.trans (b2.mono (by omega))).trans (b5.mono (by omega))).trans (b8.mono (by omega))).trans (b11.mono (by omega))).trans (b13.mono (by omega))).trans (b15.mono (by omega))).trans (b17.mono (by omega))).trans (m18.1.mono (by omega))).trans (b20.mono (by omega))).trans (m21.1.mono (by omega))).trans (b23.mono (by omega))).trans (b25.mono (by omega))).trans (b28.mono (by omega))).trans (b30.mono (by omega))).trans (b31.mono (by omega)))⟩
  · go_wp2
    go_ret
    exact ⟨rfl, hb0⟩

theorem law_FnExactCorrectHamming (n0 : Int) (n1 : Int) (X2 : SL) (w : World) (_ : I64 n0) (_ : I64 n1) (e2 : X2.ok w) :
    Calls Try.prog 3 #[.int .i64 n0, .int .i64 n1, X2.val] w fun e w' => e = .returned (.bool true) ∧ Below w.heap.size w w' :=
  lawCorrectHamming n0 n1 X2.a X2.c X2.xs w e2.1 e2.2.1

namespace fnExactCorrectHamming
open Go.ChangeShapes Go.WideShapes Go.ChangeAt

set_option maxRecDepth 100000 in
set_option maxHeartbeats 800000 in
theorem lifted (os : Os) (started : os.Started) (H : Type) (enc : TypeId × Value → H) :
    ReturnsInHanded {} Try.checked os 3 .any (Rows.fnExactCorrectHammingSpec.pre6 enc Try.prog Try.f3 Rows.fnExactCorrectHammingRow.domain false) (Rows.fnExactCorrectHammingSpec.post enc Try.prog Try.f3 false true false false) := by
  refine returnsInHanded_of_change (C := Try.checked) ownKnob_none started (by kernel_rfl) Try.func3
    (ChangeSpec.witness6 (enc := enc) (C := Try.checked) false ⟨#[], #[.int .i64 0, .int .i64 0, .slice none 0 0], []⟩ 8 (by kernel_rfl) (by kernel_rfl) (by kernel_rfl) (by kernel_rfl)) ?_
  intro W base args ds gs before hval0 hW _ _
  have hval : ∀ (j : Nat) t v, Try.f3.params[j]? = some t → args[j]? = some v → Value.okWide Try.prog W .any base t v := hval0
  have hW' := hW
  obtain ⟨p, q, hA0, hV, rfl, hfz, hnd⟩ := hW
  have hA : DataW.TrodAll enc Try.prog W 0 (fun _ => true) true Try.f3.params.toList args.toList ds p := hA0
  rw [Try.params3] at hA hval
  obtain ⟨v0, vs0, d0, ds0, p0, q0, hargs, rfl, rfl, h0, r0⟩ := trodAll_cons hA
  obtain ⟨v1, vs1, d1, ds1, p1, q1, rfl, rfl, rfl, h1, r1⟩ := trodAll_cons r0
  obtain ⟨v2, vs2, d2, ds2, p2, q2, rfl, rfl, rfl, h2, r2⟩ := trodAll_cons r1
  obtain ⟨rfl, rfl, rfl⟩ := trodAll_nil r2
  obtain rfl : args = #[v0, v1, v2] := by cases args; simp_all
  obtain ⟨rfl, rfl⟩ := trodVars_none hV
  have k0 := h0
  have lt0 : ∀ x ∈ p0, x.block < W.heap.size := by obtain ⟨m, hm⟩ := k0; exact DataW.trod_lt m _ _ _ hm
  obtain ⟨a0, rfl, e0⟩ := open_i64 (hval 0 2 v0 rfl rfl) h0
  have k1 := h1
  have lt1 : ∀ x ∈ p1, x.block < W.heap.size := by obtain ⟨m, hm⟩ := k1; exact DataW.trod_lt m _ _ _ hm
  obtain ⟨a1, rfl, e1⟩ := open_i64 (hval 1 2 v1 rfl rfl) h1
  have k2 := h2
  have lt2 : ∀ x ∈ p2, x.block < W.heap.size := by obtain ⟨m, hm⟩ := k2; exact DataW.trod_lt m _ _ _ hm
  obtain ⟨X2, rfl, e2⟩ := open_sl (hval 2 22 v2 rfl rfl) h2
  clear hA0 hval0
  refine (law_FnExactCorrectHamming a0 a1 X2  W e0 e1 e2).mono fun e W' ⟨he, bel⟩ => ?_
  subst he
  exact ⟨_, rfl, _, _, _, [], _, [], hW', trodAll_mk1 (shut_bool Try.underlying4 _), (trodAll_cons_mk (Below.trod laidOut_ok (by kernel_rfl) (of_decide_eq_true (by kernel_rfl)) k0 bel lt0) (trodAll_cons_mk (Below.trod laidOut_ok (by kernel_rfl) (of_decide_eq_true (by kernel_rfl)) k1 bel lt1) (trodAll_cons_mk (Below.trod laidOut_ok (by kernel_rfl) (of_decide_eq_true (by kernel_rfl)) k2 bel lt2) trodAll_mk0))), rfl, bel.frame _, fun h => by cases h⟩

theorem over : Rows.fnExactCorrectHammingRow.holds Try.pinned (OpenSpec.ofChange Rows.fnExactCorrectHammingSpec) :=
  OpenClaim.holds_of_wide 3 Try.f3 rfl rfl rfl rfl rfl rfl rfl ⟨rfl, rfl, rfl, rfl, rfl⟩ rfl rfl rfl rfl rfl (by kernel_rfl) Try.func3 (by kernel_rfl)
    (of_decide_eq_true (by kernel_rfl)) (by unfold Func.isWrapper; first | (rw [if_pos (by decide +kernel)]; kernel_rfl) | (rw [if_neg (by decide +kernel)]; exact ⟨rfl, rfl⟩))
    (fun os started H enc _ => lifted os started H enc)

theorem proved : Rows.FnExactCorrectHammingSaid := over
#print axioms proved
end fnExactCorrectHamming
end Go.Proofs.Ytgmgpcaahanmiaa

