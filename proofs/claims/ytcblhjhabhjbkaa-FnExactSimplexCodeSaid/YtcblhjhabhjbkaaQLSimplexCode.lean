/-
  Proved: FnExactSimplexCode returns true for every input and leaves its arguments as they were. No condition. Printed by gen_law2.py.
-/
import Derived.BigQuiet
import Derived.BigRegion
import Derived.ChangeOld
import Derived.Deep.DeepCutAuto
import Derived.Deep.DeepMust
import Derived.Deep.DrawnRows
import Derived.Deep.Draws
import Derived.Deep.Matrix
import Derived.Deep.OwnRows
import Derived.Deep.QuietTactic
import Derived.Deep.RegionHeld3
import Derived.Deep.Slices
import Derived.Deep.Strs
import Derived.IntWalk
import Derived.Laws.Rows
import Derived.Lib.Hide
import Derived.Lib.SmallJoins
import Derived.Maps.AppendAt
import Derived.OpenShut
import Derived.OwnWalk
import Derived.ProofKit
import Derived.ShutString
import Derived.StillTailTactics
import Derived.Test.YtcblhjhabhjbkaaProg
import Derived.Test.YtcblhjhabhjbkaaRows
import Derived.WalkKit
import Derived.WalkLawsBesides
import Derived.WalkSpells
import Derived.Test.YtcblhjhabhjbkaaZ6
import Derived.Test.YtcblhjhabhjbkaaZ16
import Derived.Test.YtcblhjhabhjbkaaZ61
import Derived.Test.YtcblhjhabhjbkaaZ62
set_option linter.unusedVariables false
set_option linter.unusedSimpArgs false
namespace Go.Proofs.Ytcblhjhabhjbkaa
open Go.RowKit
attribute [local go_sem ↓] Go.wp_at_zero Go.wp_at_succ

theorem dec_self {α : Type} [DecidableEq α] (xs : α) : decide (xs = xs) = true := by simp
set_option maxRecDepth 100000 in
set_option maxHeartbeats 4000000 in
theorem lawSimplexCode (n0 : Int) (n1 : Int) (w0 : World)  :
    Calls Try.prog 9 #[.int .i64 n0, .int .i64 n1] w0 fun e w' => e = .returned (.bool true) ∧ Below w0.heap.size w0 w' := by
  obtain ⟨rp0, rd0, rx0, ry0, r1, hR⟩ : ∃ rp0 rd0 rx0 ry0 r1, (simRes n0 n1) = (rp0, rd0, rx0, ry0, r1) := ⟨_, _, _, _, _, rfl⟩
  have hsp := fun  W  => specSC_any n0 n1 W   
  rw [hR] at hsp
  have HSP := hide hsp
  clear hsp
  have him := fun  W  => implSC_any n0 n1 W   
  rw [hR] at him
  have HIM := hide him
  clear him
  clear hR
  have hb0 : Below w0.heap.size w0 w0 := Below.refl _ _
  go_enter Try.func9, Try.ntmps9
  go_wp2_with fail
  refine (unhide HSP  w0 ).mono ?_
  rintro e w1 ⟨to1, so1, rfl, o1, o1q, b2⟩
  have z0 := b2.size
  have o1 : Own w1 w0.heap.size to1 rx0 := o1
  have o1q : OwnS w1 w0.heap.size so1 ry0 := o1q
  obtain ⟨A3, C3, rfl, Ho1, _⟩ := o1.form
  obtain ⟨RA3, RC3, rfl, RRo1⟩ := o1q.form
  clear o1 o1q
  obtain ⟨w2, hP4⟩ : ∃ z, z = w1.alloc (.cells #[.int .i64 rp0, .int .i64 rd0, .slice A3 rx0.length C3, .slice RA3 ry0.length RC3] 31) := ⟨_, rfl⟩
  have b5 : Below w1.heap.size w1 w2 := by rw [hP4]; exact (Below.refl _ _).alloc (Nat.le_refl _) _
  have K6 : Blk w2 w1.heap.size 31 #[.int .i64 rp0, .int .i64 rd0, .slice A3 rx0.length C3, .slice RA3 ry0.length RC3] := by rw [hP4]; exact Blk.new _ _ _ rfl
  have zz1 : w1.heap.size + 1 ≤ w2.heap.size := K6.lt
  have z1 := b5.size
  have HP7 := Lib.hid hP4
  clear hP4
  go_wp2_with fail
  rw [← HP7.out]
  refine (unhide HIM  w2 ).mono ?_
  rintro e w3 ⟨to8, so8, rfl, o8, b9⟩
  have z2 := b9.size
  have o8 : OwnC w3 w2.heap.size to8 so8 rx0 ry0 := o8
  obtain ⟨A10, C10, RA10, RC10, rfl, rfl, _, _⟩ := o8.form
  have O10 := o8.toH (by omega)
  clear o8
  obtain ⟨w4, hP11⟩ : ∃ z, z = w3.alloc (.cells #[.int .i64 rp0, .int .i64 rd0, .slice A10 rx0.length C10, .slice RA10 ry0.length RC10] 31) := ⟨_, rfl⟩
  have b12 : Below w3.heap.size w3 w4 := by rw [hP11]; exact (Below.refl _ _).alloc (Nat.le_refl _) _
  have K13 : Blk w4 w3.heap.size 31 #[.int .i64 rp0, .int .i64 rd0, .slice A10 rx0.length C10, .slice RA10 ry0.length RC10] := by rw [hP11]; exact Blk.new _ _ _ rfl
  have zz3 : w3.heap.size + 1 ≤ w4.heap.size := K13.lt
  have z3 := b12.size
  have f14 : w4.cell? ⟨w1.heap.size, 0, none⟩ = some (.int .i64 rp0) := (K6.kp ((Kp.below b9 (by omega)).trans (Kp.below b12 (by omega)))).cell 0
  have f15 : w4.cell? ⟨w1.heap.size, 1, none⟩ = some (.int .i64 rd0) := (K6.kp ((Kp.below b9 (by omega)).trans (Kp.below b12 (by omega)))).cell 1
  have f16 : w4.cell? ⟨w1.heap.size, 2, none⟩ = some (.slice A3 rx0.length C3) := (K6.kp ((Kp.below b9 (by omega)).trans (Kp.below b12 (by omega)))).cell 2
  have f17 : w4.cell? ⟨w1.heap.size, 3, none⟩ = some (.slice RA3 ry0.length RC3) := (K6.kp ((Kp.below b9 (by omega)).trans (Kp.below b12 (by omega)))).cell 3
  rw [hP11] at f14 f15 f16 f17
  have HP18 := Lib.hid hP11
  clear hP11
  go_wp2_with fail
  rw [← HP18.out]
  refine (eqCode_any rp0 rd0 rp0 rd0 A10 A3 RA10 RA3 C10 C3 RC10 RC3 rx0 rx0 ry0 ry0 w4 (O10.kp (Kp.below b12 (by omega))).rd (Ho1.kp (((Kp.below b5 (by omega)).trans (Kp.below b9 (by omega))).trans (Kp.below b12 (by omega)))) (O10.kp (Kp.below b12 (by omega))).rds (RRo1.kp (((Kp.below b5 (by omega)).trans (Kp.below b9 (by omega))).trans (Kp.below b12 (by omega))))).mono ?_
  rintro e w5 ⟨rfl, b19⟩
  rw [sameC_self]
  clear f14 f15 f16 f17
  have z4 := b19.size
  have bdO10 : rx0.length ≤ 1073741824 := O10.len
  have beO10 : (ry0.map List.length).sum ≤ 1152921504606846976 := O10.sum
  have f20 : w5.cell? ⟨w3.heap.size, 0, none⟩ = some (.int .i64 rp0) := (K13.kp (Kp.below b19 (by omega))).cell 0
  have f21 : w5.cell? ⟨w3.heap.size, 1, none⟩ = some (.int .i64 rd0) := (K13.kp (Kp.below b19 (by omega))).cell 1
  have f22 : w5.cell? ⟨w3.heap.size, 2, none⟩ = some (.slice A10 rx0.length C10) := (K13.kp (Kp.below b19 (by omega))).cell 2
  have f23 : w5.cell? ⟨w3.heap.size, 3, none⟩ = some (.slice RA10 ry0.length RC10) := (K13.kp (Kp.below b19 (by omega))).cell 3
  go_wp2_with fail
  refine (markCode_any w2.heap.size w3.heap.size rp0 rd0 A10 RA10 rx0.length ry0.length C10 RC10 (1) rx0 ry0 w5 rfl rfl (O10.kp ((Kp.below b12 (by omega)).trans (Kp.below b19 (by omega)))) (by omega) (by omega) (by omega) (by omega)).mono ?_
  rintro e w6 ⟨rfl, o25, m24⟩
  clear f20 f21 f22 f23
  have z5 := m24.size
  have kn3 : decide (1 + (rx0.length : Int) + (((ry0.map List.length).sum : Nat) : Int) < 0) = false := by rw [decide_eq_false_iff_not]; omega
  have kn4 : 0 ≤ 1 + (rx0.length : Int) + (((ry0.map List.length).sum : Nat) : Int) := by omega
  have kn5 : (1 + (rx0.length : Int) + (((ry0.map List.length).sum : Nat) : Int) != 1 + (rx0.length : Int) + (((ry0.map List.length).sum : Nat) : Int)) = false := by simp
  have f26 : w6.cell? ⟨w3.heap.size, 0, none⟩ = some (.int .i64 rp0) := (K13.kp ((Kp.below b19 (by omega)).trans (Mk.kp m24 (by omega) (by omega)))).cell 0
  have f27 : w6.cell? ⟨w3.heap.size, 1, none⟩ = some (.int .i64 rd0) := (K13.kp ((Kp.below b19 (by omega)).trans (Mk.kp m24 (by omega) (by omega)))).cell 1
  have f28 : w6.cell? ⟨w3.heap.size, 2, none⟩ = some (.slice A10 rx0.length C10) := (K13.kp ((Kp.below b19 (by omega)).trans (Mk.kp m24 (by omega) (by omega)))).cell 2
  have f29 : w6.cell? ⟨w3.heap.size, 3, none⟩ = some (.slice RA10 ry0.length RC10) := (K13.kp ((Kp.below b19 (by omega)).trans (Mk.kp m24 (by omega) (by omega)))).cell 3
  go_wp2_with fail
  refine (heldCode_any rp0 rd0 A10 RA10 rx0.length ry0.length C10 RC10 1 (ry0.map List.length) w6 (by simp) o25.rd o25.rds (by omega) (by omega)).mono ?_
  rintro e w7 ⟨rfl, b30⟩
  clear f26 f27 f28 f29
  have z6 := b30.size
  go_wp2_with fail
  refine (unhide HIM  w7 ).mono ?_
  rintro e w8 ⟨to31, so31, rfl, o31, b32⟩
  have z7 := b32.size
  have o31 : OwnC w8 w7.heap.size to31 so31 rx0 ry0 := o31
  obtain ⟨A33, C33, RA33, RC33, rfl, rfl, _, _⟩ := o31.form
  have O33 := o31.toH (by omega)
  clear o31
  obtain ⟨w9, hP34⟩ : ∃ z, z = w8.alloc (.cells #[.int .i64 rp0, .int .i64 rd0, .slice A33 rx0.length C33, .slice RA33 ry0.length RC33] 31) := ⟨_, rfl⟩
  have b35 : Below w8.heap.size w8 w9 := by rw [hP34]; exact (Below.refl _ _).alloc (Nat.le_refl _) _
  have K36 : Blk w9 w8.heap.size 31 #[.int .i64 rp0, .int .i64 rd0, .slice A33 rx0.length C33, .slice RA33 ry0.length RC33] := by rw [hP34]; exact Blk.new _ _ _ rfl
  have zz8 : w8.heap.size + 1 ≤ w9.heap.size := K36.lt
  have z8 := b35.size
  have f37 : w9.cell? ⟨w1.heap.size, 0, none⟩ = some (.int .i64 rp0) := (K6.kp (((((((Kp.below b9 (by omega)).trans (Kp.below b12 (by omega))).trans (Kp.below b19 (by omega))).trans (Mk.kp m24 (by omega) (by omega))).trans (Kp.below b30 (by omega))).trans (Kp.below b32 (by omega))).trans (Kp.below b35 (by omega)))).cell 0
  have f38 : w9.cell? ⟨w1.heap.size, 1, none⟩ = some (.int .i64 rd0) := (K6.kp (((((((Kp.below b9 (by omega)).trans (Kp.below b12 (by omega))).trans (Kp.below b19 (by omega))).trans (Mk.kp m24 (by omega) (by omega))).trans (Kp.below b30 (by omega))).trans (Kp.below b32 (by omega))).trans (Kp.below b35 (by omega)))).cell 1
  have f39 : w9.cell? ⟨w1.heap.size, 2, none⟩ = some (.slice A3 rx0.length C3) := (K6.kp (((((((Kp.below b9 (by omega)).trans (Kp.below b12 (by omega))).trans (Kp.below b19 (by omega))).trans (Mk.kp m24 (by omega) (by omega))).trans (Kp.below b30 (by omega))).trans (Kp.below b32 (by omega))).trans (Kp.below b35 (by omega)))).cell 2
  have f40 : w9.cell? ⟨w1.heap.size, 3, none⟩ = some (.slice RA3 ry0.length RC3) := (K6.kp (((((((Kp.below b9 (by omega)).trans (Kp.below b12 (by omega))).trans (Kp.below b19 (by omega))).trans (Mk.kp m24 (by omega) (by omega))).trans (Kp.below b30 (by omega))).trans (Kp.below b32 (by omega))).trans (Kp.below b35 (by omega)))).cell 3
  rw [hP34] at f37 f38 f39 f40
  have HP41 := Lib.hid hP34
  clear hP34
  go_wp2_with fail
  rw [← HP41.out]
  refine (eqCode_any rp0 rd0 rp0 rd0 A33 A3 RA33 RA3 C33 C3 RC33 RC3 rx0 rx0 ry0 ry0 w9 (O33.kp (Kp.below b35 (by omega))).rd (Ho1.kp ((((((((Kp.below b5 (by omega)).trans (Kp.below b9 (by omega))).trans (Kp.below b12 (by omega))).trans (Kp.below b19 (by omega))).trans (Mk.kp m24 (by omega) (by omega))).trans (Kp.below b30 (by omega))).trans (Kp.below b32 (by omega))).trans (Kp.below b35 (by omega)))) (O33.kp (Kp.below b35 (by omega))).rds (RRo1.kp ((((((((Kp.below b5 (by omega)).trans (Kp.below b9 (by omega))).trans (Kp.below b12 (by omega))).trans (Kp.below b19 (by omega))).trans (Mk.kp m24 (by omega) (by omega))).trans (Kp.below b30 (by omega))).trans (Kp.below b32 (by omega))).trans (Kp.below b35 (by omega))))).mono ?_
  rintro e w10 ⟨rfl, b42⟩
  rw [sameC_self]
  clear f37 f38 f39 f40
  have z9 := b42.size
  have f43 : w10.cell? ⟨w3.heap.size, 0, none⟩ = some (.int .i64 rp0) := (K13.kp ((((((Kp.below b19 (by omega)).trans (Mk.kp m24 (by omega) (by omega))).trans (Kp.below b30 (by omega))).trans (Kp.below b32 (by omega))).trans (Kp.below b35 (by omega))).trans (Kp.below b42 (by omega)))).cell 0
  have f44 : w10.cell? ⟨w3.heap.size, 1, none⟩ = some (.int .i64 rd0) := (K13.kp ((((((Kp.below b19 (by omega)).trans (Mk.kp m24 (by omega) (by omega))).trans (Kp.below b30 (by omega))).trans (Kp.below b32 (by omega))).trans (Kp.below b35 (by omega))).trans (Kp.below b42 (by omega)))).cell 1
  have f45 : w10.cell? ⟨w3.heap.size, 2, none⟩ = some (.slice A10 rx0.length C10) := (K13.kp ((((((Kp.below b19 (by omega)).trans (Mk.kp m24 (by omega) (by omega))).trans (Kp.below b30 (by omega))).trans (Kp.below b32 (by omega))).trans (Kp.below b35 (by omega))).trans (Kp.below b42 (by omega)))).cell 2
  have f46 : w10.cell? ⟨w3.heap.size, 3, none⟩ = some (.slice RA10 ry0.length RC10) := (K13.kp ((((((Kp.below b19 (by omega)).trans (Mk.kp m24 (by omega) (by omega))).trans (Kp.below b30 (by omega))).trans (Kp.below b32 (by omega))).trans (Kp.below b35 (by omega))).trans (Kp.below b42 (by omega)))).cell 3
  go_wp2_with fail
  refine (heldCode_any rp0 rd0 A10 RA10 rx0.length ry0.length C10 RC10 1 (ry0.map List.length) w10 (by simp) (o25.kp ((((Kp.below b30 (by omega)).trans (Kp.below b32 (by omega))).trans (Kp.below b35 (by omega))).trans (Kp.below b42 (by omega)))).rd (o25.kp ((((Kp.below b30 (by omega)).trans (Kp.below b32 (by omega))).trans (Kp.below b35 (by omega))).trans (Kp.below b42 (by omega)))).rds (by omega) (by omega)).mono ?_
  rintro e w11 ⟨rfl, b47⟩
  clear f43 f44 f45 f46
  have z10 := b47.size
  go_wp2
  go_ret
  exact ⟨rfl, (((((((((((hb0.trans (b2.mono (by omega))).trans (b5.mono (by omega))).trans (b9.mono (by omega))).trans (b12.mono (by omega))).trans (b19.mono (by omega))).trans (m24.1.mono (by omega))).trans (b30.mono (by omega))).trans (b32.mono (by omega))).trans (b35.mono (by omega))).trans (b42.mono (by omega))).trans (b47.mono (by omega)))⟩

theorem law_FnExactSimplexCode (n0 : Int) (n1 : Int) (w : World) (_ : I64 n0) (_ : I64 n1) :
    Calls Try.prog 9 #[.int .i64 n0, .int .i64 n1] w fun e w' => e = .returned (.bool true) ∧ Below w.heap.size w w' :=
  lawSimplexCode n0 n1 w 

namespace fnExactSimplexCode
open Go.ChangeShapes Go.WideShapes Go.ChangeAt

set_option maxRecDepth 100000 in
set_option maxHeartbeats 800000 in
theorem lifted (os : Os) (started : os.Started) (H : Type) (enc : TypeId × Value → H) :
    ReturnsInHanded {} Try.checked os 9 .any (Rows.fnExactSimplexCodeSpec.pre6 enc Try.prog Try.f9 Rows.fnExactSimplexCodeRow.domain false) (Rows.fnExactSimplexCodeSpec.post enc Try.prog Try.f9 false true false false) := by
  refine returnsInHanded_of_change (C := Try.checked) ownKnob_none started (by kernel_rfl) Try.func9
    (ChangeSpec.witness6 (enc := enc) (C := Try.checked) false ⟨#[], #[.int .i64 0, .int .i64 0], []⟩ 8 (by kernel_rfl) (by kernel_rfl) (by kernel_rfl) (by kernel_rfl)) ?_
  intro W base args ds gs before hval0 hW _ _
  have hval : ∀ (j : Nat) t v, Try.f9.params[j]? = some t → args[j]? = some v → Value.okWide Try.prog W .any base t v := hval0
  have hW' := hW
  obtain ⟨p, q, hA0, hV, rfl, hfz, hnd⟩ := hW
  have hA : DataW.TrodAll enc Try.prog W 0 (fun _ => true) true Try.f9.params.toList args.toList ds p := hA0
  rw [Try.params9] at hA hval
  obtain ⟨v0, vs0, d0, ds0, p0, q0, hargs, rfl, rfl, h0, r0⟩ := trodAll_cons hA
  obtain ⟨v1, vs1, d1, ds1, p1, q1, rfl, rfl, rfl, h1, r1⟩ := trodAll_cons r0
  obtain ⟨rfl, rfl, rfl⟩ := trodAll_nil r1
  obtain rfl : args = #[v0, v1] := by cases args; simp_all
  obtain ⟨rfl, rfl⟩ := trodVars_none hV
  have k0 := h0
  have lt0 : ∀ x ∈ p0, x.block < W.heap.size := by obtain ⟨m, hm⟩ := k0; exact DataW.trod_lt m _ _ _ hm
  obtain ⟨a0, rfl, e0⟩ := open_i64 (hval 0 2 v0 rfl rfl) h0
  have k1 := h1
  have lt1 : ∀ x ∈ p1, x.block < W.heap.size := by obtain ⟨m, hm⟩ := k1; exact DataW.trod_lt m _ _ _ hm
  obtain ⟨a1, rfl, e1⟩ := open_i64 (hval 1 2 v1 rfl rfl) h1
  clear hA0 hval0
  refine (law_FnExactSimplexCode a0 a1 W e0 e1).mono fun e W' ⟨he, bel⟩ => ?_
  subst he
  exact ⟨_, rfl, _, _, _, [], _, [], hW', trodAll_mk1 (shut_bool Try.underlying4 _), (trodAll_cons_mk (Below.trod laidOut_ok (by kernel_rfl) (of_decide_eq_true (by kernel_rfl)) k0 bel lt0) (trodAll_cons_mk (Below.trod laidOut_ok (by kernel_rfl) (of_decide_eq_true (by kernel_rfl)) k1 bel lt1) trodAll_mk0)), rfl, bel.frame _, fun h => by cases h⟩

theorem over : Rows.fnExactSimplexCodeRow.holds Try.pinned (OpenSpec.ofChange Rows.fnExactSimplexCodeSpec) :=
  OpenClaim.holds_of_wide 9 Try.f9 rfl rfl rfl rfl rfl rfl rfl ⟨rfl, rfl, rfl, rfl, rfl⟩ rfl rfl rfl rfl rfl (by kernel_rfl) Try.func9 (by kernel_rfl)
    (of_decide_eq_true (by kernel_rfl)) (by unfold Func.isWrapper; first | (rw [if_pos (by decide +kernel)]; kernel_rfl) | (rw [if_neg (by decide +kernel)]; exact ⟨rfl, rfl⟩))
    (fun os started H enc _ => lifted os started H enc)

theorem proved : Rows.FnExactSimplexCodeSaid := over
#print axioms proved
end fnExactSimplexCode
end Go.Proofs.Ytcblhjhabhjbkaa

