/-
  Proved: FnExactSupportOf returns true for every input and leaves its argument as it was. No condition.
-/
import Derived.Test.YtcdfabnhaephhaaRows
import Derived.Test.YtcdfabnhaephhaaA
import Derived.Test.YtcdfabnhaephhaaS1
import Derived.Test.YtcdfabnhaephhaaOpen
namespace Go.Proofs.Ytcdfabnhaephhaa
open Go.RowKit

theorem dec_refl (xs : List Int) : decide (xs = xs) = true := by simp

set_option maxHeartbeats 1600000 in
theorem lawSupportOf (a : Option Addr) (n c : Nat) (xs : List Int) (w : World) (hn : n = xs.length) (hnm : n ≤ maxLen) (hx : n ≤ 1048576 → Rd w a xs) :
    Calls Try.prog 3 #[.slice a n c] w fun e w' => e = .returned (.bool true) ∧ Below w.heap.size w w' := by
  unfold maxLen at hnm
  by_cases h : n ≤ 1048576
  · have r0 := hx h
    subst hn
    clear hx hnm
    have i0 := r0.in_ xs.length c
    generalize hR : suppRes xs = R
    have HR := Lib.hid hR
    clear hR
    obtain ⟨ys, code⟩ := R
    go_enter Try.func3, Try.ntmps3
    go_wp2_with fail
    -- spec.SupportOf(toInt64S(aWord))
    refine (toInt64S_any _ _ _ _ r0).mono ?_
    rintro e w1 ⟨v1, rfl, o1, b1⟩
    obtain ⟨a1, c1, rfl, r1, i1⟩ := o1.form
    have r0 := r0.below b1
    go_wp2_with fail
    refine (specSupportOf_any _ _ _ _ r1).mono ?_
    rintro e w2 ⟨v2, rfl, o2, b2⟩
    rw [HR.out] at o2 ⊢
    obtain ⟨a2, c2, rfl, r2, i2⟩ := o2.form
    have r0 := r0.below b2
    clear o1 o2 r1 i1
    go_wp2_with fail
    -- x0 := toInt64S(aWord); g0, g1 := impl.SupportOf(x0)
    refine (toInt64S_any _ _ _ _ r0).mono ?_
    rintro e w3 ⟨v3, rfl, o3, b3⟩
    obtain ⟨a3, c3, rfl, r3, i3⟩ := o3.form
    have r0 := r0.below b3
    have r2 := r2.below b3
    go_wp2_with fail
    refine (implSupportOf_any _ _ _ _ r3).mono ?_
    rintro e w4 ⟨v4, rfl, o4, b4⟩
    rw [HR.out] at o4 ⊢
    obtain ⟨a4, c4, rfl, r4, i4⟩ := o4.form
    have r0 := r0.below b4
    have r2 := r2.below b4
    have r3 := r3.below b4
    have o3 := o3.below b4 (Nat.le_refl _)
    go_wp2_with fail
    -- eqInt64S(g0, w0)
    refine (eqInt64S_any _ _ _ _ _ _ _ r4 r2).mono ?_
    rintro e w5 ⟨rfl, q5⟩
    rw [dec_refl]
    have b5 := q5.below w4.heap.size
    have r0 := r0.below b5
    have r2 := r2.below b5
    have r3 := r3.below b5
    have o3 := o3.below b5 (Nat.le_refl _)
    have o4 := o4.below b5 (Nat.le_refl _)
    go_wp2_with fail
    -- eqInt64S(x0, toInt64S(aWord))
    refine (toInt64S_any _ _ _ _ r0).mono ?_
    rintro e w6 ⟨v6, rfl, o6, b6⟩
    obtain ⟨a6, c6, rfl, r6, i6⟩ := o6.form
    have r0 := r0.below b6
    have r2 := r2.below b6
    have r3 := r3.below b6
    have o3 := o3.below b6 (Nat.le_refl _)
    have o4 := o4.below b6 (Nat.le_refl _)
    go_wp2_with fail
    refine (eqInt64S_any _ _ _ _ _ _ _ r3 r6).mono ?_
    rintro e w7 ⟨rfl, q7⟩
    rw [dec_refl]
    have b7 := q7.below w6.heap.size
    have r0 := r0.below b7
    have r2 := r2.below b7
    have o3 := o3.below b7 (Nat.le_refl _)
    have o4 := o4.below b7 (Nat.le_refl _)
    clear o6 r6 i6 r3
    go_wp2_with fail
    -- k = markInt64S(x0, k)
    refine (markInt64S_any _ _ _ _ _ o3 (by omega) (by omega)).mono ?_
    rintro e w8 ⟨rfl, o3', g8⟩
    have s1 := b1.size
    have s2 := b2.size
    have s3 := b3.size
    have s4 := b4.size
    have s5 := b5.size
    have s6 := b6.size
    have s7 := b7.size
    have r0 := r0.apart g8 i0 i3 (by omega)
    have r2 := r2.apart g8 (fun _ => i2) i3 (by omega)
    have o4 := o4.apart g8 i4 i3 (by omega)
    have b8 : Below w.heap.size w7 w8 := Below.wrote g8 i3 (by omega) (by omega)
    clear o3 o3'
    have r4 := o4.rd
    go_wp2_with fail
    refine (eqInt64S_any _ _ _ _ _ _ _ r4 r2).mono ?_
    rintro e w9 ⟨rfl, q9⟩
    rw [dec_refl]
    have b9 := q9.below w8.heap.size
    have r0 := r0.below b9
    have r2 := r2.below b9
    have o4 := o4.below b9 (Nat.le_refl _)
    go_wp2_with fail
    -- m = markInt64S(g0, m); q = heldInt64S(g0, q)
    refine (markInt64S_any _ _ _ _ _ o4 (by omega) (by omega)).mono ?_
    rintro e w10 ⟨rfl, o4', g10⟩
    have r0 := r0.apart g10 i0 i4 (by omega)
    have r2 := r2.apart g10 (fun _ => i2) i4 (by omega)
    have b10 : Below w.heap.size w9 w10 := Below.wrote g10 i4 (by have := b9.size; have := g8.size; omega) (by omega)
    have r4 := o4'.rd
    have o4 := o4'
    go_wp2_with fail
    refine (heldInt64S_marked _ _ _ _ _ r4 (by omega) (by omega)).mono ?_
    rintro e w11 ⟨rfl, rfl⟩
    go_wp2_with fail
    -- h0, h1 := impl.SupportOf(toInt64S(aWord))
    refine (toInt64S_any _ _ _ _ r0).mono ?_
    rintro e w12 ⟨v12, rfl, o12, b12⟩
    obtain ⟨a12, c12, rfl, r12, i12⟩ := o12.form
    have r2 := r2.below b12
    have r4 := r4.below b12
    go_wp2_with fail
    refine (implSupportOf_any _ _ _ _ r12).mono ?_
    rintro e w13 ⟨v13, rfl, o13, b13⟩
    rw [HR.out] at o13 ⊢
    obtain ⟨a13, c13, rfl, r13, i13⟩ := o13.form
    have r2 := r2.below b13
    have r4 := r4.below b13
    go_wp2_with fail
    refine (eqInt64S_any _ _ _ _ _ _ _ r13 r2).mono ?_
    rintro e w14 ⟨rfl, q14⟩
    rw [dec_refl]
    have b14 := q14.below w13.heap.size
    have r4 := r4.below b14
    go_wp2_with fail
    refine (heldInt64S_marked _ _ _ _ _ r4 (by omega) (by omega)).mono ?_
    rintro e w15 ⟨rfl, rfl⟩
    go_wp2
    go_ret
    have s8 := g8.size
    have s9 := b9.size
    have s10 := g10.size
    have s12 := b12.size
    have s13 := b13.size
    exact ⟨rfl, (((((((((((b1.trans (b2.mono (by omega))).trans (b3.mono (by omega))).trans (b4.mono (by omega))).trans (b5.mono (by omega))).trans (b6.mono (by omega))).trans (b7.mono (by omega))).trans b8).trans (b9.mono (by omega))).trans b10).trans (b12.mono (by omega))).trans (b13.mono (by omega))).trans (b14.mono (by omega))⟩
  · go_enter Try.func3, Try.ntmps3
    go_wp2
    go_ret
    exact ⟨rfl, Below.refl _ _⟩

namespace fnExactSupportOf
open Go.ChangeShapes Go.WideShapes Go.ChangeAt

set_option maxRecDepth 100000 in
theorem lifted (os : Os) (started : os.Started) (H : Type) (enc : TypeId × Value → H) :
    ReturnsInHanded {} Try.checked os 3 .any (Rows.fnExactSupportOfSpec.pre6 enc Try.prog Try.f3 Rows.fnExactSupportOfRow.domain false) (Rows.fnExactSupportOfSpec.post enc Try.prog Try.f3 false true false false) := by
  refine returnsInHanded_of_change (C := Try.checked) ownKnob_none started (by kernel_rfl) Try.func3
    (ChangeSpec.witness6 (enc := enc) (C := Try.checked) false ⟨#[], #[.slice none 0 0], []⟩ 8 (by kernel_rfl) (by kernel_rfl) (by kernel_rfl) (by kernel_rfl)) ?_
  intro W base args ds gs before hval0 hW hcnd _
  have hval : ∀ (j : Nat) t v, Try.f3.params[j]? = some t → args[j]? = some v → Value.okWide Try.prog W .any base t v := hval0
  have hW' := hW
  obtain ⟨p, q, hA0, hV, rfl, hfz, hnd⟩ := hW
  have hA : DataW.TrodAll enc Try.prog W 0 (fun _ => true) true Try.f3.params.toList args.toList ds p := hA0
  rw [Try.params3] at hA hval
  obtain ⟨v0, vs0, d0, ds0, p0, q0, hargs, rfl, rfl, h0, r0⟩ := trodAll_cons hA
  obtain ⟨rfl, rfl, rfl⟩ := trodAll_nil r0
  obtain rfl : args = #[v0] := by cases args; simp_all
  obtain ⟨rfl, rfl⟩ := trodVars_none hV
  obtain ⟨a0, len0, cap0, rfl⟩ := okWide_slice Try.underlying22 (hval 0 22 v0 rfl rfl)
  have k0 := h0
  have lt0 : ∀ x ∈ p0, x.block < W.heap.size := by obtain ⟨m, hm⟩ := k0; exact DataW.trod_lt m _ _ _ hm
  obtain ⟨z0, e0, m0, w0, u0⟩ := open_list h0
  clear hA0 hval0
  refine (lawSupportOf a0 len0 cap0 z0 W e0 m0 w0).mono fun e W' ⟨he, bel⟩ => ?_
  subst he
  exact ⟨_, rfl, _, _, _, [], _, [], hW', trodAll_mk1 (shut_bool Try.underlying4 _), (trodAll_cons_mk (Below.trod laidOut_ok (by kernel_rfl) (of_decide_eq_true (by kernel_rfl)) k0 bel lt0) trodAll_mk0), rfl, bel.frame _, fun h => by cases h⟩

theorem over : Rows.fnExactSupportOfRow.holds Try.pinned (OpenSpec.ofChange Rows.fnExactSupportOfSpec) :=
  OpenClaim.holds_of_wide 3 Try.f3 rfl rfl rfl rfl rfl rfl rfl ⟨rfl, rfl, rfl, rfl, rfl⟩ rfl rfl rfl rfl rfl (by kernel_rfl) Try.func3 (by kernel_rfl)
    (of_decide_eq_true (by kernel_rfl)) (by unfold Func.isWrapper; first | (rw [if_pos (by decide +kernel)]; kernel_rfl) | (rw [if_neg (by decide +kernel)]; exact ⟨rfl, rfl⟩))
    (fun os started H enc _ => lifted os started H enc)

theorem proved : Rows.FnExactSupportOfSaid := over
#print axioms proved
end fnExactSupportOf
end Go.Proofs.Ytcdfabnhaephhaa
