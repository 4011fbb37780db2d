/-
  Proved: FnExactSameGraph returns true for every input and leaves its arguments as they were. No condition. Printed by gen_law.py.
-/
import Derived.Test.YtcdfabnhaephhaaGraph
import Derived.Test.YtcdfabnhaephhaaOpen3
import Derived.Deep.RegionHeld3
import Derived.Deep.DeepCutAuto
import Derived.Deep.DrawnRows
namespace Go.Proofs.Ytcdfabnhaephhaa
open Go.RowKit
attribute [local go_sem ↓] Go.wp_at_zero Go.wp_at_succ

set_option maxHeartbeats 1600000 in
theorem lawSameGraph (a0 ra0 : Option Addr) (c0 rc0 : Nat) (xs0 : List Int) (es0 : List (Int × Int)) (a1 ra1 : Option Addr) (c1 rc1 : Nat) (xs1 : List Int) (es1 : List (Int × Int)) (w : World) (l0 : xs0.length ≤ maxLen) (h0 : xs0.length ≤ 1048576 → Rd w a0 xs0) (m0 : es0.length ≤ maxLen) (r0 : es0.length ≤ 1048576 → RdE w ra0 es0) (l1 : xs1.length ≤ maxLen) (h1 : xs1.length ≤ 1048576 → Rd w a1 xs1) (m1 : es1.length ≤ maxLen) (r1 : es1.length ≤ 1048576 → RdE w ra1 es1) :
    Calls Try.prog 4 #[.agg #[.slice a0 xs0.length c0, .slice ra0 es0.length rc0], .agg #[.slice a1 xs1.length c1, .slice ra1 es1.length rc1]] w fun e w' => e = .returned (.bool true) ∧ Below w.heap.size w w' := by
  obtain ⟨w0, hw0⟩ : ∃ w0, w0 = ((w.alloc (.cells #[.slice a0 xs0.length c0, .slice ra0 es0.length rc0] 31)).alloc (.cells #[.slice a1 xs1.length c1, .slice ra1 es1.length rc1] 31)) := ⟨_, rfl⟩
  have hb0 : Below w.heap.size w w0 := by rw [hw0]; exact (((Below.refl _ _).alloc (Nat.le_refl _) _).alloc (by simp) _)
  have k0_0 : Blk w0 (w.heap.size) 31 #[.slice a0 xs0.length c0, .slice ra0 es0.length rc0] := by rw [hw0]; exact (Blk.new _ _ _ rfl).alloc _
  have k1_0 : Blk w0 (w.heap.size + 1) 31 #[.slice a1 xs1.length c1, .slice ra1 es1.length rc1] := by rw [hw0]; exact Blk.new _ _ _ (by simp)
  have s0 : w0.heap.size = w.heap.size + 1 + 1 := by rw [hw0]; simp
  have HW := Lib.hid hw0
  clear hw0
  go_enter Try.func4, Try.ntmps4
  have z0 := szGraph_any a0 xs0.length c0 ra0 es0.length rc0 (1048576) w0 l0 m0 (by omega) (by omega)
  have Z0 := hide z0
  clear z0
  go_wp2_with fail
  rw [← HW.out]
  refine (unhide Z0).mono ?_
  rintro e w1 ⟨rfl, b1⟩
  have hb1 := hb0.trans (b1.mono (by omega))
  have q1 : w0.heap.size ≤ w1.heap.size := by have := b1.size; omega
  have k0_1 := k0_0.below b1 (by omega)
  have k1_1 := k1_0.below b1 (by omega)
  clear k0_0 k1_0
  by_cases g0 : ((xs0.length + es0.length : Nat) : Int) ≤ 1048576
  · rw [left_yes g0]
    have z1 := szGraph_any a1 xs1.length c1 ra1 es1.length rc1 (1048576 - ((xs0.length + es0.length : Nat) : Int)) w1 l1 m1 (by omega) (by omega)
    have Z1 := hide z1
    clear z1
    have f0 : w1.cell? ⟨w.heap.size + 1, 0, none⟩ = some (.slice a1 xs1.length c1) := k1_1.cell 0
    have f1 : w1.cell? ⟨w.heap.size + 1, 1, none⟩ = some (.slice ra1 es1.length rc1) := k1_1.cell 1
    go_wp2_with fail
    refine (unhide Z1).mono ?_
    rintro e w2 ⟨rfl, b2⟩
    have hb2 := hb1.trans (b2.mono (by have := b1.size; omega))
    have q2 : w0.heap.size ≤ w2.heap.size := by have := b1.size; have := b2.size; omega
    have k0_2 := k0_1.below b2 (by omega)
    have k1_2 := k1_1.below b2 (by omega)
    clear f0 f1
    clear k0_1 k1_1
    by_cases g1 : ((xs1.length + es1.length : Nat) : Int) ≤ 1048576 - ((xs0.length + es0.length : Nat) : Int)
    · rw [left_yes g1]
      have H0 := (h0 (by omega)).below hb2
      have R0 := (r0 (by omega)).below hb2
      have H1 := (h1 (by omega)).below hb2
      have R1 := (r1 (by omega)).below hb2
      clear h0 m0 r0 h1 m1 r1 hb0 hb1 HW b1 b2 Z0 Z1
      have boxes : ∀ (W : World), Below w2.heap.size w2 W → (Below w2.heap.size w2 W ∧ W.cell? ⟨w.heap.size, 0, none⟩ = some (.slice a0 xs0.length c0) ∧ W.cell? ⟨w.heap.size, 1, none⟩ = some (.slice ra0 es0.length rc0) ∧ W.cell? ⟨w.heap.size + 1, 0, none⟩ = some (.slice a1 xs1.length c1) ∧ W.cell? ⟨w.heap.size + 1, 1, none⟩ = some (.slice ra1 es1.length rc1)) := fun _ h =>
        ⟨h, (k0_2.below h k0_2.lt).cell 0, (k0_2.below h k0_2.lt).cell 1, (k1_2.below h k1_2.lt).cell 0, (k1_2.below h k1_2.lt).cell 1⟩
      have BX := hide boxes
      clear boxes
      go_upto_region 8 with fail
      go_cut [6] (fun v wx => v = .bool (sameG xs0 es0 xs1 es1) ∧ Below w2.heap.size w2 wx)
      case first =>
        go_region_held3 (fun W => Below w2.heap.size w2 W ∧ W.cell? ⟨w.heap.size, 0, none⟩ = some (.slice a0 xs0.length c0) ∧ W.cell? ⟨w.heap.size, 1, none⟩ = some (.slice ra0 es0.length rc0) ∧ W.cell? ⟨w.heap.size + 1, 0, none⟩ = some (.slice a1 xs1.length c1) ∧ W.cell? ⟨w.heap.size + 1, 1, none⟩ = some (.slice ra1 es1.length rc1))
          (first | exact (unhide BX) _ (Below.refl _ _) | exact (unhide BX) _ ((Below.refl _ _).drew) | exact (unhide BX) _ (by assumption))
          (first
            | (go_at_call_of 17 (Value.slice a0 xs0.length c0); refine (toGraph_any a0 ra0 c0 rc0 xs0 es0 _ ?_ ?_).mono ?_; exact H0.below (And.left (by assumption)); exact R0.below (And.left (by assumption)); rintro e W0 ⟨v0, u0, rfl, oc0, bb0⟩; obtain ⟨A0, C0, RA0, RC0, rfl, rfl, rd0, rds0⟩ := oc0.form; have hB0 := Below.chain (a := w2) (And.left (by assumption)) bb0)
            | (go_at_call_of 17 (Value.slice a1 xs1.length c1); refine (toGraph_any a1 ra1 c1 rc1 xs1 es1 _ ?_ ?_).mono ?_; exact H1.below (And.left (by assumption)); exact R1.below (And.left (by assumption)); rintro e W1 ⟨v1, u1, rfl, oc1, bb1⟩; obtain ⟨A1, C1, RA1, RC1, rfl, rfl, rd1, rds1⟩ := oc1.form; have hB1 := Below.chain (a := w2) (And.left (by assumption)) bb1)
            | (go_at_call 16; refine (specSameGraph_any A0 A1 RA0 RA1 C0 C1 RC0 RC1 xs0 xs1 es0 es1 _ (rd0.below bb1) rd1 (rds0.below bb1) rds1).mono ?_; rintro e W9 ⟨rfl, bb9⟩; have hB9 := Below.chain hB1 bb9))
        go_wp2
        go_meet
        exact ⟨rfl, hB9⟩
      case rest =>
      obtain ⟨rfl, hbc⟩ := hcut
      obtain ⟨v0, hv0⟩ : ∃ z, z = wOf hbc := ⟨_, rfl⟩
      unfold wOf at hv0
      subst hv0
      have z0 := hbc.size
      have f0 : v0.cell? ⟨w.heap.size, 0, none⟩ = some (.slice a0 xs0.length c0) := (k0_2.below hbc k0_2.lt).cell 0
      have f1 : v0.cell? ⟨w.heap.size, 1, none⟩ = some (.slice ra0 es0.length rc0) := (k0_2.below hbc k0_2.lt).cell 1
      go_wp2_with fail
      refine (toGraph_any a0 ra0 c0 rc0 xs0 es0 v0 (H0.below hbc) (R0.below hbc)).mono ?_
      rintro e y0 ⟨t0, t1, rfl, oc, bb⟩
      obtain ⟨A0, C0, RA0, RC0, rfl, rfl, rd, rds⟩ := oc.form
      clear f0 f1
      have zz := bb.size
      have hy0 := Below.chain hbc bb
      obtain ⟨x0, hx0⟩ : ∃ x0, x0 = y0.alloc (.cells #[.slice A0 xs0.length C0, .slice RA0 es0.length RC0] 36) := ⟨_, rfl⟩
      have cx0 : Below w2.heap.size w2 x0 := by rw [hx0]; exact hy0.alloc (by omega) _
      have nx0 : Blk x0 y0.heap.size 36 #[.slice A0 xs0.length C0, .slice RA0 es0.length RC0] := by rw [hx0]; exact Blk.new _ _ _ rfl
      have dx0 : Below y0.heap.size y0 x0 := by rw [hx0]; exact (Below.refl _ _).alloc (Nat.le_refl _) _
      have tx0 : x0.heap.size = y0.heap.size + 1 := by rw [hx0]; simp
      have rd0 := rd.below dx0
      have rs0 := rds.below dx0
      clear oc rd rds hy0 bb dx0
      have f0 : x0.cell? ⟨w.heap.size + 1, 0, none⟩ = some (.slice a1 xs1.length c1) := (k1_2.below cx0 k1_2.lt).cell 0
      have f1 : x0.cell? ⟨w.heap.size + 1, 1, none⟩ = some (.slice ra1 es1.length rc1) := (k1_2.below cx0 k1_2.lt).cell 1
      rw [hx0] at f0 f1
      have HP1 := Lib.hid hx0
      clear hx0
      go_wp2_with fail
      rw [← HP1.out]
      refine (toGraph_any a1 ra1 c1 rc1 xs1 es1 x0 (H1.below cx0) (R1.below cx0)).mono ?_
      rintro e y1 ⟨t0, t1, rfl, oc, bb⟩
      obtain ⟨A1, C1, RA1, RC1, rfl, rfl, rd, rds⟩ := oc.form
      clear f0 f1
      have zz := bb.size
      have hy1 := Below.chain cx0 bb
      obtain ⟨x1, hx1⟩ : ∃ x1, x1 = y1.alloc (.cells #[.slice A1 xs1.length C1, .slice RA1 es1.length RC1] 36) := ⟨_, rfl⟩
      have cx1 : Below w2.heap.size w2 x1 := by rw [hx1]; exact hy1.alloc (by omega) _
      have nx1 : Blk x1 y1.heap.size 36 #[.slice A1 xs1.length C1, .slice RA1 es1.length RC1] := by rw [hx1]; exact Blk.new _ _ _ rfl
      have dx1 : Below y1.heap.size y1 x1 := by rw [hx1]; exact (Below.refl _ _).alloc (Nat.le_refl _) _
      have tx1 : x1.heap.size = y1.heap.size + 1 := by rw [hx1]; simp
      have rd1 := rd.below dx1
      have rs1 := rds.below dx1
      have step10 : Below x0.heap.size x0 x1 := Below.chain bb dx1
      have nx0 := nx0.below step10 (by have := nx0.lt; omega)
      have rd0 := rd0.below step10
      have rs0 := rs0.below step10
      clear step10
      clear oc rd rds hy1 bb dx1
      have f0 : x1.cell? ⟨y0.heap.size, 0, none⟩ = some (.slice A0 xs0.length C0) := nx0.cell 0
      have f1 : x1.cell? ⟨y0.heap.size, 1, none⟩ = some (.slice RA0 es0.length RC0) := nx0.cell 1
      have f2 : x1.cell? ⟨y1.heap.size, 0, none⟩ = some (.slice A1 xs1.length C1) := nx1.cell 0
      have f3 : x1.cell? ⟨y1.heap.size, 1, none⟩ = some (.slice RA1 es1.length RC1) := nx1.cell 1
      rw [hx1] at f0 f1 f2 f3
      have HP2 := Lib.hid hx1
      clear hx1
      go_wp2_with fail
      rw [← HP2.out]
      refine (implSameGraph_any A0 A1 RA0 RA1 C0 C1 RC0 RC1 xs0 xs1 es0 es1 x1 rd0 rd1 rs0 rs1).mono ?_
      rintro e u0 ⟨rfl, b⟩
      have hu := Below.chain cx1 b
      have su := hu.size
      have nx0 := nx0.below b nx0.lt
      have rd0 := rd0.below b
      have rs0 := rs0.below b
      have k0_2 := k0_2.below hu k0_2.lt
      have H0 := H0.below hu
      have R0 := R0.below hu
      have nx1 := nx1.below b nx1.lt
      have rd1 := rd1.below b
      have rs1 := rs1.below b
      have k1_2 := k1_2.below hu k1_2.lt
      have H1 := H1.below hu
      have R1 := R1.below hu
      have fin0 := hb2.trans (hu.mono (by omega))
      clear f0 f1 f2 f3 b hu hbc cx0 cx1 HP1 HP2 BX
      have bne0 : ((sameG xs0 es0 xs1 es1) != (sameG xs0 es0 xs1 es1)) = false := by simp
      have boxes : ∀ (W : World), Below u0.heap.size u0 W → (Below u0.heap.size u0 W ∧ W.cell? ⟨y0.heap.size, 0, none⟩ = some (.slice A0 xs0.length C0) ∧ W.cell? ⟨y0.heap.size, 1, none⟩ = some (.slice RA0 es0.length RC0) ∧ W.cell? ⟨w.heap.size, 0, none⟩ = some (.slice a0 xs0.length c0) ∧ W.cell? ⟨w.heap.size, 1, none⟩ = some (.slice ra0 es0.length rc0)) := fun _ h =>
        ⟨h, (nx0.below h nx0.lt).cell 0, (nx0.below h nx0.lt).cell 1, (k0_2.below h k0_2.lt).cell 0, (k0_2.below h k0_2.lt).cell 1⟩
      have BE0 := hide boxes
      clear boxes
      go_upto_region 14 with fail
      go_cut [39] (fun v wx => v = .bool false ∧ Below u0.heap.size u0 wx)
      case first =>
        go_region_held3 (fun W => Below u0.heap.size u0 W ∧ W.cell? ⟨y0.heap.size, 0, none⟩ = some (.slice A0 xs0.length C0) ∧ W.cell? ⟨y0.heap.size, 1, none⟩ = some (.slice RA0 es0.length RC0) ∧ W.cell? ⟨w.heap.size, 0, none⟩ = some (.slice a0 xs0.length c0) ∧ W.cell? ⟨w.heap.size, 1, none⟩ = some (.slice ra0 es0.length rc0))
          (first | exact (unhide BE0) _ (Below.refl _ _) | exact (unhide BE0) _ ((Below.refl _ _).drew) | exact (unhide BE0) _ (by assumption))
          (first
            | (go_at_call_of 17 (Value.slice a0 xs0.length c0); refine (toGraph_any a0 ra0 c0 rc0 xs0 es0 _ ?_ ?_).mono ?_; exact H0.below (And.left (by assumption)); exact R0.below (And.left (by assumption)); rintro e W1 ⟨tv, tu, rfl, oc1, bb1⟩; obtain ⟨aa, cc, ra, rc, rfl, rfl, tr, ts⟩ := oc1.form; have hB1 := Below.chain (a := u0) (And.left (by assumption)) bb1)
            | (go_at_call 19; refine (eqGraph_any A0 aa RA0 ra C0 cc RC0 rc xs0 xs0 es0 es0 _ (rd0.below hB1) tr (rs0.below hB1) ts).mono ?_; rintro e W3 ⟨rfl, bb3⟩; have hB3 := Below.chain hB1 bb3; rw [sameG_self]))
        go_wp2
        go_meet
        exact ⟨rfl, hB3⟩
      case rest =>
      obtain ⟨rfl, ht1⟩ := hcut
      obtain ⟨u1, hu1⟩ : ∃ z, z = wOf ht1 := ⟨_, rfl⟩
      unfold wOf at hu1
      subst hu1
      have sv1 := ht1.size
      have nx1 := nx1.below ht1 nx1.lt
      have rd1 := rd1.below ht1
      have rs1 := rs1.below ht1
      have k1_2 := k1_2.below ht1 k1_2.lt
      have H1 := H1.below ht1
      have R1 := R1.below ht1
      have fin1 := fin0.trans (ht1.mono (by omega))
      clear BE0
      have boxes : ∀ (W : World), Below u1.heap.size u1 W → (Below u1.heap.size u1 W ∧ W.cell? ⟨y1.heap.size, 0, none⟩ = some (.slice A1 xs1.length C1) ∧ W.cell? ⟨y1.heap.size, 1, none⟩ = some (.slice RA1 es1.length RC1) ∧ W.cell? ⟨w.heap.size + 1, 0, none⟩ = some (.slice a1 xs1.length c1) ∧ W.cell? ⟨w.heap.size + 1, 1, none⟩ = some (.slice ra1 es1.length rc1)) := fun _ h =>
        ⟨h, (nx1.below h nx1.lt).cell 0, (nx1.below h nx1.lt).cell 1, (k1_2.below h k1_2.lt).cell 0, (k1_2.below h k1_2.lt).cell 1⟩
      have BE1 := hide boxes
      clear boxes
      go_upto_region 16 with fail
      go_cut [44] (fun v wx => v = .bool false ∧ Below u1.heap.size u1 wx)
      case first =>
        go_region_held3 (fun W => Below u1.heap.size u1 W ∧ W.cell? ⟨y1.heap.size, 0, none⟩ = some (.slice A1 xs1.length C1) ∧ W.cell? ⟨y1.heap.size, 1, none⟩ = some (.slice RA1 es1.length RC1) ∧ W.cell? ⟨w.heap.size + 1, 0, none⟩ = some (.slice a1 xs1.length c1) ∧ W.cell? ⟨w.heap.size + 1, 1, none⟩ = some (.slice ra1 es1.length rc1))
          (first | exact (unhide BE1) _ (Below.refl _ _) | exact (unhide BE1) _ ((Below.refl _ _).drew) | exact (unhide BE1) _ (by assumption))
          (first
            | (go_at_call_of 17 (Value.slice a1 xs1.length c1); refine (toGraph_any a1 ra1 c1 rc1 xs1 es1 _ ?_ ?_).mono ?_; exact H1.below (And.left (by assumption)); exact R1.below (And.left (by assumption)); rintro e W1 ⟨tv, tu, rfl, oc1, bb1⟩; obtain ⟨aa, cc, ra, rc, rfl, rfl, tr, ts⟩ := oc1.form; have hB1 := Below.chain (a := u1) (And.left (by assumption)) bb1)
            | (go_at_call 19; refine (eqGraph_any A1 aa RA1 ra C1 cc RC1 rc xs1 xs1 es1 es1 _ (rd1.below hB1) tr (rs1.below hB1) ts).mono ?_; rintro e W3 ⟨rfl, bb3⟩; have hB3 := Below.chain hB1 bb3; rw [sameG_self]))
        go_wp2
        go_meet
        exact ⟨rfl, hB3⟩
      case rest =>
      obtain ⟨rfl, ht2⟩ := hcut
      obtain ⟨u2, hu2⟩ : ∃ z, z = wOf ht2 := ⟨_, rfl⟩
      unfold wOf at hu2
      subst hu2
      go_wp2
      go_ret
      exact ⟨rfl, fin1.trans (ht2.mono (by omega))⟩
    · rw [left_no g1]
      go_wp2
      go_ret
      exact ⟨rfl, hb2⟩
  · rw [left_no g0]
    go_wp2
    go_ret
    exact ⟨rfl, hb1⟩

theorem law_FnExactSameGraph (X0 : GRA) (X1 : GRA) (w : World) (e0 : X0.ok w) (e1 : X1.ok w) :
    Calls Try.prog 4 #[X0.val, X1.val] w fun e w' => e = .returned (.bool true) ∧ Below w.heap.size w w' :=
  lawSameGraph X0.l.a X0.r.a X0.l.c X0.r.c X0.l.xs X0.r.es X1.l.a X1.r.a X1.l.c X1.r.c X1.l.xs X1.r.es w e0.1.1 e0.1.2.1 e0.2.1 e0.2.2.1 e1.1.1 e1.1.2.1 e1.2.1 e1.2.2.1

namespace fnExactSameGraph
open Go.ChangeShapes Go.WideShapes Go.ChangeAt

set_option maxRecDepth 100000 in
set_option maxHeartbeats 800000 in
theorem lifted (os : Os) (started : os.Started) (H : Type) (enc : TypeId × Value → H) :
    ReturnsInHanded {} Try.checked os 4 .any (Rows.fnExactSameGraphSpec.pre6 enc Try.prog Try.f4 Rows.fnExactSameGraphRow.domain false) (Rows.fnExactSameGraphSpec.post enc Try.prog Try.f4 false true false false) := by
  refine returnsInHanded_of_change (C := Try.checked) ownKnob_none started (by kernel_rfl) Try.func4
    (ChangeSpec.witness6 (enc := enc) (C := Try.checked) false ⟨#[], #[.agg #[.slice none 0 0, .slice none 0 0], .agg #[.slice none 0 0, .slice none 0 0]], []⟩ 8 (by kernel_rfl) (by kernel_rfl) (by kernel_rfl) (by kernel_rfl)) ?_
  intro W base args ds gs before hval0 hW _ _
  have hval : ∀ (j : Nat) t v, Try.f4.params[j]? = some t → args[j]? = some v → Value.okWide Try.prog W .any base t v := hval0
  have hW' := hW
  obtain ⟨p, q, hA0, hV, rfl, hfz, hnd⟩ := hW
  have hA : DataW.TrodAll enc Try.prog W 0 (fun _ => true) true Try.f4.params.toList args.toList ds p := hA0
  rw [Try.params4] at hA hval
  obtain ⟨v0, vs0, d0, ds0, p0, q0, hargs, rfl, rfl, h0, r0⟩ := trodAll_cons hA
  obtain ⟨v1, vs1, d1, ds1, p1, q1, rfl, rfl, rfl, h1, r1⟩ := trodAll_cons r0
  obtain ⟨rfl, rfl, rfl⟩ := trodAll_nil r1
  obtain rfl : args = #[v0, v1] := by cases args; simp_all
  obtain ⟨rfl, rfl⟩ := trodVars_none hV
  have k0 := h0
  have lt0 : ∀ x ∈ p0, x.block < W.heap.size := by obtain ⟨m, hm⟩ := k0; exact DataW.trod_lt m _ _ _ hm
  obtain ⟨X0, rfl, e0⟩ := open_gra (hval 0 31 v0 rfl rfl) h0
  have k1 := h1
  have lt1 : ∀ x ∈ p1, x.block < W.heap.size := by obtain ⟨m, hm⟩ := k1; exact DataW.trod_lt m _ _ _ hm
  obtain ⟨X1, rfl, e1⟩ := open_gra (hval 1 31 v1 rfl rfl) h1
  clear hA0 hval0
  refine (law_FnExactSameGraph X0  X1  W e0 e1).mono fun e W' ⟨he, bel⟩ => ?_
  subst he
  exact ⟨_, rfl, _, _, _, [], _, [], hW', trodAll_mk1 (shut_bool Try.underlying4 _), (trodAll_cons_mk (Below.trod laidOut_ok (by kernel_rfl) (of_decide_eq_true (by kernel_rfl)) k0 bel lt0) (trodAll_cons_mk (Below.trod laidOut_ok (by kernel_rfl) (of_decide_eq_true (by kernel_rfl)) k1 bel lt1) trodAll_mk0)), rfl, bel.frame _, fun h => by cases h⟩

theorem over : Rows.fnExactSameGraphRow.holds Try.pinned (OpenSpec.ofChange Rows.fnExactSameGraphSpec) :=
  OpenClaim.holds_of_wide 4 Try.f4 rfl rfl rfl rfl rfl rfl rfl ⟨rfl, rfl, rfl, rfl, rfl⟩ rfl rfl rfl rfl rfl (by kernel_rfl) Try.func4 (by kernel_rfl)
    (of_decide_eq_true (by kernel_rfl)) (by unfold Func.isWrapper; first | (rw [if_pos (by decide +kernel)]; kernel_rfl) | (rw [if_neg (by decide +kernel)]; exact ⟨rfl, rfl⟩))
    (fun os started H enc _ => lifted os started H enc)

theorem proved : Rows.FnExactSameGraphSaid := over
#print axioms proved
end fnExactSameGraph
end Go.Proofs.Ytcdfabnhaephhaa
