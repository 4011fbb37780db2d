/-
  Proved: FnExactIsSelfOrthogonal returns true for every input and leaves its arguments as they were. No condition. Printed by gen_law2.py.
-/
import Derived.BigQuiet
import Derived.BigRegion
import Derived.ChangeOld
import Derived.Deep.DeepCutAuto
import Derived.Deep.DeepMust
import Derived.Deep.DrawnRows
import Derived.Deep.Draws
import Derived.Deep.Matrix
import Derived.Deep.OwnRows
import Derived.Deep.QuietTactic
import Derived.Deep.RegionHeld3
import Derived.Deep.Slices
import Derived.Deep.Strs
import Derived.IntWalk
import Derived.Laws.Rows
import Derived.Lib.Hide
import Derived.Lib.SmallJoins
import Derived.Maps.AppendAt
import Derived.OpenShut
import Derived.OwnWalk
import Derived.ProofKit
import Derived.ShutString
import Derived.StillTailTactics
import Derived.Test.YtbocaiicbephgaaProg
import Derived.Test.YtbocaiicbephgaaRows
import Derived.WalkKit
import Derived.WalkLawsBesides
import Derived.WalkSpells
import Derived.Test.YtbocaiicbephgaaZ6
import Derived.Test.YtbocaiicbephgaaZ16
import Derived.Test.YtbocaiicbephgaaZ47
set_option linter.unusedVariables false
set_option linter.unusedSimpArgs false
namespace Go.Proofs.Ytbocaiicbephgaa
open Go.RowKit
attribute [local go_sem ↓] Go.wp_at_zero Go.wp_at_succ

theorem dec_self {α : Type} [DecidableEq α] (xs : α) : decide (xs = xs) = true := by simp
set_option maxRecDepth 100000 in
set_option maxHeartbeats 4000000 in
theorem lawIsSelfOrthogonal (p0 : Int) (d0 : Int) (a0 : Option Addr) (c0 : Nat) (xs0 : List Int) (ra0 : Option Addr) (rc0 : Nat) (xss0 : List (List Int)) (w : World) (l0 : xs0.length ≤ maxLen) (h0 : xs0.length ≤ 1048576 → Rd w a0 xs0) (m0 : Lens w ra0 (xss0.map List.length)) (y0 : total (xss0.map List.length) ≤ 1048576 → RdS w ra0 xss0) (ed0 : I64 d0) :
    Calls Try.prog 14 #[.agg #[.int .i64 p0, .int .i64 d0, .slice a0 xs0.length c0, .slice ra0 xss0.length rc0]] w fun e w' => e = .returned (.bool true) ∧ Below w.heap.size w w' := by
  obtain ⟨r0, hR⟩ : ∃ r0, (soRes p0 d0 xs0 xss0) = r0 := ⟨_, rfl⟩
  have hsp := fun a0' c0' ra0' rc0' W h0' r0' => specSO_any p0 d0 a0' c0' xs0 ra0' rc0' xss0 W h0' r0'  
  rw [hR] at hsp
  have HSP := hide hsp
  clear hsp
  have him := fun a0' c0' ra0' rc0' W h0' r0' => implSO_any p0 d0 a0' c0' xs0 ra0' rc0' xss0 W h0' r0'  ed0
  rw [hR] at him
  have HIM := hide him
  clear him
  clear hR
  obtain ⟨w0, hw0⟩ : ∃ z, z = (w.alloc (.cells #[.int .i64 p0, .int .i64 d0, .slice a0 xs0.length c0, .slice ra0 xss0.length rc0] 27)) := ⟨_, rfl⟩
  have hb0 : Below w.heap.size w w0 := by rw [hw0]; exact ((Below.refl _ _).alloc (Nat.le_refl _) _)
  have kA0 : Blk w0 w.heap.size 27 #[.int .i64 p0, .int .i64 d0, .slice a0 xs0.length c0, .slice ra0 xss0.length rc0] := by rw [hw0]; exact (Blk.new _ _ _ rfl)
  have zb : w.heap.size + 1 ≤ w0.heap.size := by rw [hw0]; simp
  go_enter Try.func14, Try.ntmps14
  have e0 : (xss0.map List.length).length = xss0.length := by simp
  have zz := szCode_any p0 d0 a0 xs0.length c0 ra0 rc0 (xss0.map List.length) (1048576) w0 l0 (by omega) (by omega) (m0.below hb0)
  rw [e0] at zz
  have Z1 := hide zz
  clear zz e0
  have HP2 := Lib.hid hw0
  clear hw0
  go_wp2_with fail
  rw [← HP2.out]
  refine (unhide Z1).mono ?_
  rintro e w1 ⟨rfl, b3⟩
  have z0 := b3.size
  by_cases g0 : ((xs0.length + total (xss0.map List.length) : Nat) : Int) ≤ 1048576
  · rw [left_yes g0]
    have H0 := (h0 (by omega)).below hb0
    have RR0 := (y0 (by omega)).below hb0
    clear l0 h0 m0 y0
    have f4 : w1.cell? ⟨w.heap.size, 0, none⟩ = some (.int .i64 p0) := (kA0.kp (Kp.below b3 (by omega))).cell 0
    have f5 : w1.cell? ⟨w.heap.size, 1, none⟩ = some (.int .i64 d0) := (kA0.kp (Kp.below b3 (by omega))).cell 1
    have f6 : w1.cell? ⟨w.heap.size, 2, none⟩ = some (.slice a0 xs0.length c0) := (kA0.kp (Kp.below b3 (by omega))).cell 2
    have f7 : w1.cell? ⟨w.heap.size, 3, none⟩ = some (.slice ra0 xss0.length rc0) := (kA0.kp (Kp.below b3 (by omega))).cell 3
    go_wp2_with fail
    refine (toCode_any p0 d0 a0 ra0 c0 rc0 xs0 xss0 w1 (H0.kp (Kp.below b3 (by omega))) (RR0.kp (Kp.below b3 (by omega)))).mono ?_
    rintro e w2 ⟨to8, so8, rfl, o8, b9⟩
    clear f4 f5 f6 f7
    have z1 := b9.size
    obtain ⟨A10, C10, RA10, RC10, rfl, rfl, _, _⟩ := o8.form
    have O10 := o8.toH (by omega)
    clear o8
    go_wp2_with fail
    refine (unhide HSP A10 C10 RA10 RC10 w2 O10.rd O10.rds).mono ?_
    rintro e w3 ⟨rfl, b12⟩
    have z2 := b12.size
    have f13 : w3.cell? ⟨w.heap.size, 0, none⟩ = some (.int .i64 p0) := (kA0.kp (((Kp.below b3 (by omega)).trans (Kp.below b9 (by omega))).trans (Kp.below b12 (by omega)))).cell 0
    have f14 : w3.cell? ⟨w.heap.size, 1, none⟩ = some (.int .i64 d0) := (kA0.kp (((Kp.below b3 (by omega)).trans (Kp.below b9 (by omega))).trans (Kp.below b12 (by omega)))).cell 1
    have f15 : w3.cell? ⟨w.heap.size, 2, none⟩ = some (.slice a0 xs0.length c0) := (kA0.kp (((Kp.below b3 (by omega)).trans (Kp.below b9 (by omega))).trans (Kp.below b12 (by omega)))).cell 2
    have f16 : w3.cell? ⟨w.heap.size, 3, none⟩ = some (.slice ra0 xss0.length rc0) := (kA0.kp (((Kp.below b3 (by omega)).trans (Kp.below b9 (by omega))).trans (Kp.below b12 (by omega)))).cell 3
    go_wp2_with fail
    refine (toCode_any p0 d0 a0 ra0 c0 rc0 xs0 xss0 w3 (H0.kp (((Kp.below b3 (by omega)).trans (Kp.below b9 (by omega))).trans (Kp.below b12 (by omega)))) (RR0.kp (((Kp.below b3 (by omega)).trans (Kp.below b9 (by omega))).trans (Kp.below b12 (by omega))))).mono ?_
    rintro e w4 ⟨to17, so17, rfl, o17, b18⟩
    clear f13 f14 f15 f16
    have z3 := b18.size
    obtain ⟨A19, C19, RA19, RC19, rfl, rfl, _, _⟩ := o17.form
    have O19 := o17.toH (by omega)
    clear o17
    obtain ⟨w5, hP20⟩ : ∃ z, z = w4.alloc (.cells #[.int .i64 p0, .int .i64 d0, .slice A19 xs0.length C19, .slice RA19 xss0.length RC19] 33) := ⟨_, rfl⟩
    have b21 : Below w4.heap.size w4 w5 := by rw [hP20]; exact (Below.refl _ _).alloc (Nat.le_refl _) _
    have K22 : Blk w5 w4.heap.size 33 #[.int .i64 p0, .int .i64 d0, .slice A19 xs0.length C19, .slice RA19 xss0.length RC19] := by rw [hP20]; exact Blk.new _ _ _ rfl
    have zz4 : w4.heap.size + 1 ≤ w5.heap.size := K22.lt
    have z4 := b21.size
    have HP23 := Lib.hid hP20
    clear hP20
    go_wp2_with fail
    rw [← HP23.out]
    refine (unhide HIM A19 C19 RA19 RC19 w5 (O19.kp (Kp.below b21 (by omega))).rd (O19.kp (Kp.below b21 (by omega))).rds).mono ?_
    rintro e w6 ⟨rfl, b25⟩
    have z5 := b25.size
    have bner0 : (r0 != r0) = false := by simp
    have Y26 := (O19.kp ((Kp.below b21 (by omega)).trans (Kp.below b25 (by omega)))).rd
    have YY26 := (O19.kp ((Kp.below b21 (by omega)).trans (Kp.below b25 (by omega)))).rds
    have X26h := (H0.kp ((((((Kp.below b3 (by omega)).trans (Kp.below b9 (by omega))).trans (Kp.below b12 (by omega))).trans (Kp.below b18 (by omega))).trans (Kp.below b21 (by omega))).trans (Kp.below b25 (by omega))))
    have X26r := (RR0.kp ((((((Kp.below b3 (by omega)).trans (Kp.below b9 (by omega))).trans (Kp.below b12 (by omega))).trans (Kp.below b18 (by omega))).trans (Kp.below b21 (by omega))).trans (Kp.below b25 (by omega))))
    have K27 := (K22.kp (Kp.below b25 (by omega)))
    have K28 := (kA0.kp ((((((Kp.below b3 (by omega)).trans (Kp.below b9 (by omega))).trans (Kp.below b12 (by omega))).trans (Kp.below b18 (by omega))).trans (Kp.below b21 (by omega))).trans (Kp.below b25 (by omega))))
    have BX29' : ∀ (W : World), Below w6.heap.size w6 W → (Below w6.heap.size w6 W ∧ W.cell? ⟨w4.heap.size, 0, none⟩ = some (.int .i64 p0) ∧ W.cell? ⟨w4.heap.size, 1, none⟩ = some (.int .i64 d0) ∧ W.cell? ⟨w4.heap.size, 2, none⟩ = some (.slice A19 xs0.length C19) ∧ W.cell? ⟨w4.heap.size, 3, none⟩ = some (.slice RA19 xss0.length RC19) ∧ W.cell? ⟨w.heap.size, 0, none⟩ = some (.int .i64 p0) ∧ W.cell? ⟨w.heap.size, 1, none⟩ = some (.int .i64 d0) ∧ W.cell? ⟨w.heap.size, 2, none⟩ = some (.slice a0 xs0.length c0) ∧ W.cell? ⟨w.heap.size, 3, none⟩ = some (.slice ra0 xss0.length rc0)) := fun _ h => ⟨h, (K27.below h K27.lt).cell 0, (K27.below h K27.lt).cell 1, (K27.below h K27.lt).cell 2, (K27.below h K27.lt).cell 3, (K28.below h K28.lt).cell 0, (K28.below h K28.lt).cell 1, (K28.below h K28.lt).cell 2, (K28.below h K28.lt).cell 3⟩
    have BX29 := hide BX29'
    clear BX29'
    go_upto_region 10 with fail
    go_region_held3 (fun W => Below w6.heap.size w6 W ∧ W.cell? ⟨w4.heap.size, 0, none⟩ = some (.int .i64 p0) ∧ W.cell? ⟨w4.heap.size, 1, none⟩ = some (.int .i64 d0) ∧ W.cell? ⟨w4.heap.size, 2, none⟩ = some (.slice A19 xs0.length C19) ∧ W.cell? ⟨w4.heap.size, 3, none⟩ = some (.slice RA19 xss0.length RC19) ∧ W.cell? ⟨w.heap.size, 0, none⟩ = some (.int .i64 p0) ∧ W.cell? ⟨w.heap.size, 1, none⟩ = some (.int .i64 d0) ∧ W.cell? ⟨w.heap.size, 2, none⟩ = some (.slice a0 xs0.length c0) ∧ W.cell? ⟨w.heap.size, 3, none⟩ = some (.slice ra0 xss0.length rc0))
      (first | exact (unhide BX29) _ (Below.refl _ _) | exact (unhide BX29) _ ((Below.refl _ _).drew) | exact (unhide BX29) _ (by assumption))
      (first
        | (go_at_call_of 17 (Value.slice a0 xs0.length c0); refine (toCode_any p0 d0 a0 ra0 c0 rc0 xs0 xss0 _ ?_ ?_).mono ?_; exact X26h.below (And.left (by assumption)); exact X26r.below (And.left (by assumption)); rintro e W26 ⟨t26, s26, rfl, o26, bb26⟩; obtain ⟨A26, C26, RA26, RC26, rfl, rfl, rr26, rs26⟩ := o26.form; have hB26 := Below.chain (a := w6) (And.left (by assumption)) bb26)
        | (go_at_call 21; refine (eqCode_any p0 d0 p0 d0 A19 A26 RA19 RA26 C19 C26 RC19 RC26 xs0 xs0 xss0 xss0 _ (Y26.below hB26) rr26 (YY26.below hB26) rs26).mono ?_; rintro e w7 ⟨rfl, bc26⟩; have b26e := Below.chain hB26 bc26; rw [sameC_self]))
    clear BX29
    have z6 := b26e.size
    go_wp2
    go_ret
    exact ⟨rfl, (((((((hb0.trans (b3.mono (by omega))).trans (b9.mono (by omega))).trans (b12.mono (by omega))).trans (b18.mono (by omega))).trans (b21.mono (by omega))).trans (b25.mono (by omega))).trans (b26e.mono (by omega)))⟩
  · rw [left_no g0]
    go_wp2
    go_ret
    exact ⟨rfl, (hb0.trans (b3.mono (by omega)))⟩

theorem law_FnExactIsSelfOrthogonal (X0 : COD) (w : World) (e0 : X0.ok w) :
    Calls Try.prog 14 #[X0.val] w fun e w' => e = .returned (.bool true) ∧ Below w.heap.size w w' :=
  lawIsSelfOrthogonal X0.p X0.d X0.l.a X0.l.c X0.l.xs X0.r.a X0.r.c X0.r.xss w e0.2.2.1.1 e0.2.2.1.2.1 e0.2.2.2.1 e0.2.2.2.2.1 e0.2.1

namespace fnExactIsSelfOrthogonal
open Go.ChangeShapes Go.WideShapes Go.ChangeAt

set_option maxRecDepth 100000 in
set_option maxHeartbeats 800000 in
theorem lifted (os : Os) (started : os.Started) (H : Type) (enc : TypeId × Value → H) :
    ReturnsInHanded {} Try.checked os 14 .any (Rows.fnExactIsSelfOrthogonalSpec.pre6 enc Try.prog Try.f14 Rows.fnExactIsSelfOrthogonalRow.domain false) (Rows.fnExactIsSelfOrthogonalSpec.post enc Try.prog Try.f14 false true false false) := by
  refine returnsInHanded_of_change (C := Try.checked) ownKnob_none started (by kernel_rfl) Try.func14
    (ChangeSpec.witness6 (enc := enc) (C := Try.checked) false ⟨#[], #[.agg #[.int .i64 0, .int .i64 0, .slice none 0 0, .slice none 0 0]], []⟩ 8 (by kernel_rfl) (by kernel_rfl) (by kernel_rfl) (by kernel_rfl)) ?_
  intro W base args ds gs before hval0 hW _ _
  have hval : ∀ (j : Nat) t v, Try.f14.params[j]? = some t → args[j]? = some v → Value.okWide Try.prog W .any base t v := hval0
  have hW' := hW
  obtain ⟨p, q, hA0, hV, rfl, hfz, hnd⟩ := hW
  have hA : DataW.TrodAll enc Try.prog W 0 (fun _ => true) true Try.f14.params.toList args.toList ds p := hA0
  rw [Try.params14] at hA hval
  obtain ⟨v0, vs0, d0, ds0, p0, q0, hargs, rfl, rfl, h0, r0⟩ := trodAll_cons hA
  obtain ⟨rfl, rfl, rfl⟩ := trodAll_nil r0
  obtain rfl : args = #[v0] := by cases args; simp_all
  obtain ⟨rfl, rfl⟩ := trodVars_none hV
  have k0 := h0
  have lt0 : ∀ x ∈ p0, x.block < W.heap.size := by obtain ⟨m, hm⟩ := k0; exact DataW.trod_lt m _ _ _ hm
  obtain ⟨X0, rfl, e0⟩ := open_cod (hval 0 27 v0 rfl rfl) h0
  clear hA0 hval0
  refine (law_FnExactIsSelfOrthogonal X0  W e0).mono fun e W' ⟨he, bel⟩ => ?_
  subst he
  exact ⟨_, rfl, _, _, _, [], _, [], hW', trodAll_mk1 (shut_bool Try.underlying4 _), (trodAll_cons_mk (Below.trod laidOut_ok (by kernel_rfl) (of_decide_eq_true (by kernel_rfl)) k0 bel lt0) trodAll_mk0), rfl, bel.frame _, fun h => by cases h⟩

theorem over : Rows.fnExactIsSelfOrthogonalRow.holds Try.pinned (OpenSpec.ofChange Rows.fnExactIsSelfOrthogonalSpec) :=
  OpenClaim.holds_of_wide 14 Try.f14 rfl rfl rfl rfl rfl rfl rfl ⟨rfl, rfl, rfl, rfl, rfl⟩ rfl rfl rfl rfl rfl (by kernel_rfl) Try.func14 (by kernel_rfl)
    (of_decide_eq_true (by kernel_rfl)) (by unfold Func.isWrapper; first | (rw [if_pos (by decide +kernel)]; kernel_rfl) | (rw [if_neg (by decide +kernel)]; exact ⟨rfl, rfl⟩))
    (fun os started H enc _ => lifted os started H enc)

theorem proved : Rows.FnExactIsSelfOrthogonalSaid := over
#print axioms proved
end fnExactIsSelfOrthogonal
end Go.Proofs.Ytbocaiicbephgaa

