/-
  Proved: FnExactNearestWord returns true for every input and leaves its arguments as they were. No condition. Printed by gen_law2.py.
-/
import Derived.BigQuiet
import Derived.BigRegion
import Derived.ChangeOld
import Derived.Deep.DeepCutAuto
import Derived.Deep.DeepMust
import Derived.Deep.DrawnRows
import Derived.Deep.Draws
import Derived.Deep.Matrix
import Derived.Deep.OwnRows
import Derived.Deep.QuietTactic
import Derived.Deep.RegionHeld3
import Derived.Deep.Slices
import Derived.Deep.Strs
import Derived.IntWalk
import Derived.Laws.Rows
import Derived.Lib.Hide
import Derived.Lib.SmallJoins
import Derived.Maps.AppendAt
import Derived.OpenShut
import Derived.OwnWalk
import Derived.ProofKit
import Derived.ShutString
import Derived.StillTailTactics
import Derived.Test.YtbocaiicbephgaaProg
import Derived.Test.YtbocaiicbephgaaRows
import Derived.WalkKit
import Derived.WalkLawsBesides
import Derived.WalkSpells
import Derived.Test.YtbocaiicbephgaaZ6
import Derived.Test.YtbocaiicbephgaaZ16
import Derived.Test.YtbocaiicbephgaaZ41
set_option linter.unusedVariables false
set_option linter.unusedSimpArgs false
namespace Go.Proofs.Ytbocaiicbephgaa
open Go.RowKit
attribute [local go_sem ↓] Go.wp_at_zero Go.wp_at_succ

theorem dec_self {α : Type} [DecidableEq α] (xs : α) : decide (xs = xs) = true := by simp
set_option maxRecDepth 100000 in
set_option maxHeartbeats 4000000 in
theorem lawNearestWord (p0 : Int) (d0 : Int) (a0 : Option Addr) (c0 : Nat) (xs0 : List Int) (ra0 : Option Addr) (rc0 : Nat) (xss0 : List (List Int)) (a1 : Option Addr) (c1 : Nat) (xs1 : List Int) (w : World) (l0 : xs0.length ≤ maxLen) (h0 : xs0.length ≤ 1048576 → Rd w a0 xs0) (m0 : Lens w ra0 (xss0.map List.length)) (y0 : total (xss0.map List.length) ≤ 1048576 → RdS w ra0 xss0) (ed0 : I64 d0) (l1 : xs1.length ≤ maxLen) (h1 : xs1.length ≤ 1048576 → Rd w a1 xs1) :
    Calls Try.prog 8 #[.agg #[.int .i64 p0, .int .i64 d0, .slice a0 xs0.length c0, .slice ra0 xss0.length rc0], .slice a1 xs1.length c1] w fun e w' => e = .returned (.bool true) ∧ Below w.heap.size w w' := by
  obtain ⟨r0, r1, r2, hR⟩ : ∃ r0 r1 r2, (nearRes p0 d0 xs0 xss0 xs1) = (r0, r1, r2) := ⟨_, _, _, rfl⟩
  have hsp := fun a0' c0' ra0' rc0' a1' c1' W h0' r0' h1' => specNW_any p0 d0 a0' c0' xs0 ra0' rc0' xss0 a1' c1' xs1 W h0' r0' h1'  
  rw [hR] at hsp
  have HSP := hide hsp
  clear hsp
  have him := fun a0' c0' ra0' rc0' a1' c1' W h0' r0' h1' => implNW_any p0 d0 a0' c0' xs0 ra0' rc0' xss0 a1' c1' xs1 W h0' r0' h1'  ed0
  rw [hR] at him
  have HIM := hide him
  clear him
  clear hR
  obtain ⟨w0, hw0⟩ : ∃ z, z = (w.alloc (.cells #[.int .i64 p0, .int .i64 d0, .slice a0 xs0.length c0, .slice ra0 xss0.length rc0] 27)) := ⟨_, rfl⟩
  have hb0 : Below w.heap.size w w0 := by rw [hw0]; exact ((Below.refl _ _).alloc (Nat.le_refl _) _)
  have kA0 : Blk w0 w.heap.size 27 #[.int .i64 p0, .int .i64 d0, .slice a0 xs0.length c0, .slice ra0 xss0.length rc0] := by rw [hw0]; exact (Blk.new _ _ _ rfl)
  have zb : w.heap.size + 1 ≤ w0.heap.size := by rw [hw0]; simp
  go_enter Try.func8, Try.ntmps8
  by_cases g1 : (xs1.length : Int) ≤ 1048576
  · skip
    have e0 : (xss0.map List.length).length = xss0.length := by simp
    have zz := szCode_any p0 d0 a0 xs0.length c0 ra0 rc0 (xss0.map List.length) (1048576) w0 l0 (by omega) (by omega) (m0.below hb0)
    rw [e0] at zz
    have Z1 := hide zz
    clear zz e0
    have HP2 := Lib.hid hw0
    clear hw0
    go_wp2_with fail
    rw [← HP2.out]
    refine (unhide Z1).mono ?_
    rintro e w1 ⟨rfl, b3⟩
    have z0 := b3.size
    by_cases g0 : ((xs0.length + total (xss0.map List.length) : Nat) : Int) ≤ 1048576
    · rw [left_yes g0]
      have H0 := (h0 (by omega)).below hb0
      have RR0 := (y0 (by omega)).below hb0
      have H1 := (h1 (by omega)).below hb0
      clear l0 h0 m0 y0 l1 h1 
      have f4 : w1.cell? ⟨w.heap.size, 0, none⟩ = some (.int .i64 p0) := (kA0.kp (Kp.below b3 (by omega))).cell 0
      have f5 : w1.cell? ⟨w.heap.size, 1, none⟩ = some (.int .i64 d0) := (kA0.kp (Kp.below b3 (by omega))).cell 1
      have f6 : w1.cell? ⟨w.heap.size, 2, none⟩ = some (.slice a0 xs0.length c0) := (kA0.kp (Kp.below b3 (by omega))).cell 2
      have f7 : w1.cell? ⟨w.heap.size, 3, none⟩ = some (.slice ra0 xss0.length rc0) := (kA0.kp (Kp.below b3 (by omega))).cell 3
      go_wp2_with fail
      refine (toCode_any p0 d0 a0 ra0 c0 rc0 xs0 xss0 w1 (H0.kp (Kp.below b3 (by omega))) (RR0.kp (Kp.below b3 (by omega)))).mono ?_
      rintro e w2 ⟨to8, so8, rfl, o8, b9⟩
      clear f4 f5 f6 f7
      have z1 := b9.size
      obtain ⟨A10, C10, RA10, RC10, rfl, rfl, _, _⟩ := o8.form
      have O10 := o8.toH (by omega)
      clear o8
      go_wp2_with fail
      refine (toInt64S_any a1 c1 xs1 w2 (H1.kp ((Kp.below b3 (by omega)).trans (Kp.below b9 (by omega))))).mono ?_
      rintro e w3 ⟨to11, rfl, o11, b12⟩
      have z2 := b12.size
      obtain ⟨A13, C13, rfl, _, _⟩ := o11.form
      have O13 := o11.toH
      clear o11
      go_wp2_with fail
      refine (unhide HSP A10 C10 RA10 RC10 A13 C13 w3 (O10.kp (Kp.below b12 (by omega))).rd (O10.kp (Kp.below b12 (by omega))).rds O13.rd).mono ?_
      rintro e w4 ⟨to14, rfl, o14, b15⟩
      have z3 := b15.size
      have o14 : Own w4 w3.heap.size to14 r0 := o14
      obtain ⟨A16, C16, rfl, _, _⟩ := o14.form
      have O16 := o14.toH
      clear o14
      have f17 : w4.cell? ⟨w.heap.size, 0, none⟩ = some (.int .i64 p0) := (kA0.kp ((((Kp.below b3 (by omega)).trans (Kp.below b9 (by omega))).trans (Kp.below b12 (by omega))).trans (Kp.below b15 (by omega)))).cell 0
      have f18 : w4.cell? ⟨w.heap.size, 1, none⟩ = some (.int .i64 d0) := (kA0.kp ((((Kp.below b3 (by omega)).trans (Kp.below b9 (by omega))).trans (Kp.below b12 (by omega))).trans (Kp.below b15 (by omega)))).cell 1
      have f19 : w4.cell? ⟨w.heap.size, 2, none⟩ = some (.slice a0 xs0.length c0) := (kA0.kp ((((Kp.below b3 (by omega)).trans (Kp.below b9 (by omega))).trans (Kp.below b12 (by omega))).trans (Kp.below b15 (by omega)))).cell 2
      have f20 : w4.cell? ⟨w.heap.size, 3, none⟩ = some (.slice ra0 xss0.length rc0) := (kA0.kp ((((Kp.below b3 (by omega)).trans (Kp.below b9 (by omega))).trans (Kp.below b12 (by omega))).trans (Kp.below b15 (by omega)))).cell 3
      go_wp2_with fail
      refine (toCode_any p0 d0 a0 ra0 c0 rc0 xs0 xss0 w4 (H0.kp ((((Kp.below b3 (by omega)).trans (Kp.below b9 (by omega))).trans (Kp.below b12 (by omega))).trans (Kp.below b15 (by omega)))) (RR0.kp ((((Kp.below b3 (by omega)).trans (Kp.below b9 (by omega))).trans (Kp.below b12 (by omega))).trans (Kp.below b15 (by omega))))).mono ?_
      rintro e w5 ⟨to21, so21, rfl, o21, b22⟩
      clear f17 f18 f19 f20
      have z4 := b22.size
      obtain ⟨A23, C23, RA23, RC23, rfl, rfl, _, _⟩ := o21.form
      have O23 := o21.toH (by omega)
      clear o21
      obtain ⟨w6, hP24⟩ : ∃ z, z = w5.alloc (.cells #[.int .i64 p0, .int .i64 d0, .slice A23 xs0.length C23, .slice RA23 xss0.length RC23] 33) := ⟨_, rfl⟩
      have b25 : Below w5.heap.size w5 w6 := by rw [hP24]; exact (Below.refl _ _).alloc (Nat.le_refl _) _
      have K26 : Blk w6 w5.heap.size 33 #[.int .i64 p0, .int .i64 d0, .slice A23 xs0.length C23, .slice RA23 xss0.length RC23] := by rw [hP24]; exact Blk.new _ _ _ rfl
      have zz5 : w5.heap.size + 1 ≤ w6.heap.size := K26.lt
      have z5 := b25.size
      have HP27 := Lib.hid hP24
      clear hP24
      go_wp2_with fail
      rw [← HP27.out]
      refine (toInt64S_any a1 c1 xs1 w6 (H1.kp ((((((Kp.below b3 (by omega)).trans (Kp.below b9 (by omega))).trans (Kp.below b12 (by omega))).trans (Kp.below b15 (by omega))).trans (Kp.below b22 (by omega))).trans (Kp.below b25 (by omega))))).mono ?_
      rintro e w7 ⟨to28, rfl, o28, b29⟩
      have z6 := b29.size
      obtain ⟨A30, C30, rfl, _, _⟩ := o28.form
      have O30 := o28.toH
      clear o28
      have f31 : w7.cell? ⟨w5.heap.size, 0, none⟩ = some (.int .i64 p0) := (K26.kp (Kp.below b29 (by omega))).cell 0
      have f32 : w7.cell? ⟨w5.heap.size, 1, none⟩ = some (.int .i64 d0) := (K26.kp (Kp.below b29 (by omega))).cell 1
      have f33 : w7.cell? ⟨w5.heap.size, 2, none⟩ = some (.slice A23 xs0.length C23) := (K26.kp (Kp.below b29 (by omega))).cell 2
      have f34 : w7.cell? ⟨w5.heap.size, 3, none⟩ = some (.slice RA23 xss0.length RC23) := (K26.kp (Kp.below b29 (by omega))).cell 3
      go_wp2_with fail
      refine (unhide HIM A23 C23 RA23 RC23 A30 C30 w7 (O23.kp ((Kp.below b25 (by omega)).trans (Kp.below b29 (by omega)))).rd (O23.kp ((Kp.below b25 (by omega)).trans (Kp.below b29 (by omega)))).rds O30.rd).mono ?_
      rintro e w8 ⟨to35, rfl, o35, b36⟩
      clear f31 f32 f33 f34
      have z7 := b36.size
      have o35 : Own w8 w7.heap.size to35 r0 := o35
      obtain ⟨A37, C37, rfl, _, _⟩ := o35.form
      have O37 := o35.toH
      clear o35
      go_wp2_with fail
      refine (eqInt64S_any A37 A16 C37 C16 r0 r0 w8 O37.rd (O16.kp ((((Kp.below b22 (by omega)).trans (Kp.below b25 (by omega))).trans (Kp.below b29 (by omega))).trans (Kp.below b36 (by omega)))).rd).mono ?_
      rintro e w9 ⟨rfl, b38'⟩
      have b38 := b38'.below w8.heap.size
      clear b38'
      rw [dec_self]
      have z8 := b38.size
      have Y39 := (O23.kp ((((Kp.below b25 (by omega)).trans (Kp.below b29 (by omega))).trans (Kp.below b36 (by omega))).trans (Kp.below b38 (by omega)))).rd
      have YY39 := (O23.kp ((((Kp.below b25 (by omega)).trans (Kp.below b29 (by omega))).trans (Kp.below b36 (by omega))).trans (Kp.below b38 (by omega)))).rds
      have X39h := (H0.kp (((((((((Kp.below b3 (by omega)).trans (Kp.below b9 (by omega))).trans (Kp.below b12 (by omega))).trans (Kp.below b15 (by omega))).trans (Kp.below b22 (by omega))).trans (Kp.below b25 (by omega))).trans (Kp.below b29 (by omega))).trans (Kp.below b36 (by omega))).trans (Kp.below b38 (by omega))))
      have X39r := (RR0.kp (((((((((Kp.below b3 (by omega)).trans (Kp.below b9 (by omega))).trans (Kp.below b12 (by omega))).trans (Kp.below b15 (by omega))).trans (Kp.below b22 (by omega))).trans (Kp.below b25 (by omega))).trans (Kp.below b29 (by omega))).trans (Kp.below b36 (by omega))).trans (Kp.below b38 (by omega))))
      have K40 := (K26.kp (((Kp.below b29 (by omega)).trans (Kp.below b36 (by omega))).trans (Kp.below b38 (by omega))))
      have K41 := (kA0.kp (((((((((Kp.below b3 (by omega)).trans (Kp.below b9 (by omega))).trans (Kp.below b12 (by omega))).trans (Kp.below b15 (by omega))).trans (Kp.below b22 (by omega))).trans (Kp.below b25 (by omega))).trans (Kp.below b29 (by omega))).trans (Kp.below b36 (by omega))).trans (Kp.below b38 (by omega))))
      have BX42' : ∀ (W : World), Below w9.heap.size w9 W → (Below w9.heap.size w9 W ∧ W.cell? ⟨w5.heap.size, 0, none⟩ = some (.int .i64 p0) ∧ W.cell? ⟨w5.heap.size, 1, none⟩ = some (.int .i64 d0) ∧ W.cell? ⟨w5.heap.size, 2, none⟩ = some (.slice A23 xs0.length C23) ∧ W.cell? ⟨w5.heap.size, 3, none⟩ = some (.slice RA23 xss0.length RC23) ∧ W.cell? ⟨w.heap.size, 0, none⟩ = some (.int .i64 p0) ∧ W.cell? ⟨w.heap.size, 1, none⟩ = some (.int .i64 d0) ∧ W.cell? ⟨w.heap.size, 2, none⟩ = some (.slice a0 xs0.length c0) ∧ W.cell? ⟨w.heap.size, 3, none⟩ = some (.slice ra0 xss0.length rc0)) := fun _ h => ⟨h, (K40.below h K40.lt).cell 0, (K40.below h K40.lt).cell 1, (K40.below h K40.lt).cell 2, (K40.below h K40.lt).cell 3, (K41.below h K41.lt).cell 0, (K41.below h K41.lt).cell 1, (K41.below h K41.lt).cell 2, (K41.below h K41.lt).cell 3⟩
      have BX42 := hide BX42'
      clear BX42'
      go_upto_region 13 with fail
      go_region_held3 (fun W => Below w9.heap.size w9 W ∧ W.cell? ⟨w5.heap.size, 0, none⟩ = some (.int .i64 p0) ∧ W.cell? ⟨w5.heap.size, 1, none⟩ = some (.int .i64 d0) ∧ W.cell? ⟨w5.heap.size, 2, none⟩ = some (.slice A23 xs0.length C23) ∧ W.cell? ⟨w5.heap.size, 3, none⟩ = some (.slice RA23 xss0.length RC23) ∧ W.cell? ⟨w.heap.size, 0, none⟩ = some (.int .i64 p0) ∧ W.cell? ⟨w.heap.size, 1, none⟩ = some (.int .i64 d0) ∧ W.cell? ⟨w.heap.size, 2, none⟩ = some (.slice a0 xs0.length c0) ∧ W.cell? ⟨w.heap.size, 3, none⟩ = some (.slice ra0 xss0.length rc0))
        (first | exact (unhide BX42) _ (Below.refl _ _) | exact (unhide BX42) _ ((Below.refl _ _).drew) | exact (unhide BX42) _ (by assumption))
        (first
          | (go_at_call_of 17 (Value.slice a0 xs0.length c0); refine (toCode_any p0 d0 a0 ra0 c0 rc0 xs0 xss0 _ ?_ ?_).mono ?_; exact X39h.below (And.left (by assumption)); exact X39r.below (And.left (by assumption)); rintro e W39 ⟨t39, s39, rfl, o39, bb39⟩; obtain ⟨A39, C39, RA39, RC39, rfl, rfl, rr39, rs39⟩ := o39.form; have hB39 := Below.chain (a := w9) (And.left (by assumption)) bb39)
          | (go_at_call 21; refine (eqCode_any p0 d0 p0 d0 A23 A39 RA23 RA39 C23 C39 RC23 RC39 xs0 xs0 xss0 xss0 _ (Y39.below hB39) rr39 (YY39.below hB39) rs39).mono ?_; rintro e w10 ⟨rfl, bc39⟩; have b39e := Below.chain hB39 bc39; rw [sameC_self]))
      clear BX42
      have z9 := b39e.size
      go_wp2_with fail
      refine (toInt64S_any a1 c1 xs1 w10 (H1.kp ((((((((((Kp.below b3 (by omega)).trans (Kp.below b9 (by omega))).trans (Kp.below b12 (by omega))).trans (Kp.below b15 (by omega))).trans (Kp.below b22 (by omega))).trans (Kp.below b25 (by omega))).trans (Kp.below b29 (by omega))).trans (Kp.below b36 (by omega))).trans (Kp.below b38 (by omega))).trans (Kp.below b39e (by omega))))).mono ?_
      rintro e w11 ⟨to43, rfl, o43, b44⟩
      have z10 := b44.size
      obtain ⟨A45, C45, rfl, _, _⟩ := o43.form
      have O45 := o43.toH
      clear o43
      go_wp2_with fail
      refine (eqInt64S_any A30 A45 C30 C45 xs1 xs1 w11 (O30.kp ((((Kp.below b36 (by omega)).trans (Kp.below b38 (by omega))).trans (Kp.below b39e (by omega))).trans (Kp.below b44 (by omega)))).rd O45.rd).mono ?_
      rintro e w12 ⟨rfl, b46'⟩
      have b46 := b46'.below w11.heap.size
      clear b46'
      rw [dec_self]
      have z11 := b46.size
      have bdO23 : xs0.length ≤ 1073741824 := O23.len
      have beO23 : (xss0.map List.length).sum ≤ 1152921504606846976 := O23.sum
      have bdO30 : xs1.length ≤ 1073741824 := O30.1.1
      have bdO37 : r0.length ≤ 1073741824 := O37.1.1
      have f47 : w12.cell? ⟨w5.heap.size, 0, none⟩ = some (.int .i64 p0) := (K26.kp ((((((Kp.below b29 (by omega)).trans (Kp.below b36 (by omega))).trans (Kp.below b38 (by omega))).trans (Kp.below b39e (by omega))).trans (Kp.below b44 (by omega))).trans (Kp.below b46 (by omega)))).cell 0
      have f48 : w12.cell? ⟨w5.heap.size, 1, none⟩ = some (.int .i64 d0) := (K26.kp ((((((Kp.below b29 (by omega)).trans (Kp.below b36 (by omega))).trans (Kp.below b38 (by omega))).trans (Kp.below b39e (by omega))).trans (Kp.below b44 (by omega))).trans (Kp.below b46 (by omega)))).cell 1
      have f49 : w12.cell? ⟨w5.heap.size, 2, none⟩ = some (.slice A23 xs0.length C23) := (K26.kp ((((((Kp.below b29 (by omega)).trans (Kp.below b36 (by omega))).trans (Kp.below b38 (by omega))).trans (Kp.below b39e (by omega))).trans (Kp.below b44 (by omega))).trans (Kp.below b46 (by omega)))).cell 2
      have f50 : w12.cell? ⟨w5.heap.size, 3, none⟩ = some (.slice RA23 xss0.length RC23) := (K26.kp ((((((Kp.below b29 (by omega)).trans (Kp.below b36 (by omega))).trans (Kp.below b38 (by omega))).trans (Kp.below b39e (by omega))).trans (Kp.below b44 (by omega))).trans (Kp.below b46 (by omega)))).cell 3
      go_wp2_with fail
      refine (markCode_any w4.heap.size w5.heap.size p0 d0 A23 RA23 xs0.length xss0.length C23 RC23 (1) xs0 xss0 w12 rfl rfl (O23.kp (((((((Kp.below b25 (by omega)).trans (Kp.below b29 (by omega))).trans (Kp.below b36 (by omega))).trans (Kp.below b38 (by omega))).trans (Kp.below b39e (by omega))).trans (Kp.below b44 (by omega))).trans (Kp.below b46 (by omega)))) (by omega) (by omega) (by omega) (by omega)).mono ?_
      rintro e w13 ⟨rfl, o52, m51⟩
      clear f47 f48 f49 f50
      have z12 := m51.size
      go_wp2_with fail
      refine (markH_any w6.heap.size w7.heap.size (.slice A30 xs1.length C30) (1 + (xs0.length : Int) + (((xss0.map List.length).sum : Nat) : Int)) xs1 w13 (O30.kp ((((((Kp.below b36 (by omega)).trans (Kp.below b38 (by omega))).trans (Kp.below b39e (by omega))).trans (Kp.below b44 (by omega))).trans (Kp.below b46 (by omega))).trans (Mk.kp m51 (by omega) (by omega)))) (by omega) (by omega) (by omega)).mono ?_
      rintro e w14 ⟨rfl, o54, _, m53⟩
      have z13 := m53.size
      have kn1 : decide (1 + (xs0.length : Int) + (((xss0.map List.length).sum : Nat) : Int) + (xs1.length : Int) < 0) = false := by rw [decide_eq_false_iff_not]; omega
      have kn2 : 0 ≤ 1 + (xs0.length : Int) + (((xss0.map List.length).sum : Nat) : Int) + (xs1.length : Int) := by omega
      go_wp2_with fail
      refine (eqInt64S_any A37 A16 C37 C16 r0 r0 w14 (O37.kp ((((((Kp.below b38 (by omega)).trans (Kp.below b39e (by omega))).trans (Kp.below b44 (by omega))).trans (Kp.below b46 (by omega))).trans (Mk.kp m51 (by omega) (by omega))).trans (Mk.kp m53 (by omega) (by omega)))).rd (O16.kp ((((((((((Kp.below b22 (by omega)).trans (Kp.below b25 (by omega))).trans (Kp.below b29 (by omega))).trans (Kp.below b36 (by omega))).trans (Kp.below b38 (by omega))).trans (Kp.below b39e (by omega))).trans (Kp.below b44 (by omega))).trans (Kp.below b46 (by omega))).trans (Mk.kp m51 (by omega) (by omega))).trans (Mk.kp m53 (by omega) (by omega)))).rd).mono ?_
      rintro e w15 ⟨rfl, b55'⟩
      have b55 := b55'.below w14.heap.size
      clear b55'
      rw [dec_self]
      have z14 := b55.size
      go_wp2_with fail
      refine (markH_any w7.heap.size w8.heap.size (.slice A37 r0.length C37) (1) r0 w15 (O37.kp (((((((Kp.below b38 (by omega)).trans (Kp.below b39e (by omega))).trans (Kp.below b44 (by omega))).trans (Kp.below b46 (by omega))).trans (Mk.kp m51 (by omega) (by omega))).trans (Mk.kp m53 (by omega) (by omega))).trans (Kp.below b55 (by omega)))) (by omega) (by omega) (by omega)).mono ?_
      rintro e w16 ⟨rfl, o57, _, m56⟩
      have z15 := m56.size
      have kn3 : decide (1 + (r0.length : Int) < 0) = false := by rw [decide_eq_false_iff_not]; omega
      have kn4 : 0 ≤ 1 + (r0.length : Int) := by omega
      have kn5 : (1 + (r0.length : Int) != 1 + (r0.length : Int)) = false := by simp
      go_wp2_with fail
      refine (heldInt64S_marked A37 C37 r0.length 1 w16 o57.rd (by omega) (by omega)).mono ?_
      rintro e w17 ⟨rfl, b58'⟩
      have b58 : Below w16.heap.size w16 w17 := by rw [← b58']; exact Below.refl _ _
      clear b58'
      have z16 := b58.size
      have f59 : w17.cell? ⟨w.heap.size, 0, none⟩ = some (.int .i64 p0) := (kA0.kp (((((((((((((((((Kp.below b3 (by omega)).trans (Kp.below b9 (by omega))).trans (Kp.below b12 (by omega))).trans (Kp.below b15 (by omega))).trans (Kp.below b22 (by omega))).trans (Kp.below b25 (by omega))).trans (Kp.below b29 (by omega))).trans (Kp.below b36 (by omega))).trans (Kp.below b38 (by omega))).trans (Kp.below b39e (by omega))).trans (Kp.below b44 (by omega))).trans (Kp.below b46 (by omega))).trans (Mk.kp m51 (by omega) (by omega))).trans (Mk.kp m53 (by omega) (by omega))).trans (Kp.below b55 (by omega))).trans (Mk.kp m56 (by omega) (by omega))).trans (Kp.below b58 (by omega)))).cell 0
      have f60 : w17.cell? ⟨w.heap.size, 1, none⟩ = some (.int .i64 d0) := (kA0.kp (((((((((((((((((Kp.below b3 (by omega)).trans (Kp.below b9 (by omega))).trans (Kp.below b12 (by omega))).trans (Kp.below b15 (by omega))).trans (Kp.below b22 (by omega))).trans (Kp.below b25 (by omega))).trans (Kp.below b29 (by omega))).trans (Kp.below b36 (by omega))).trans (Kp.below b38 (by omega))).trans (Kp.below b39e (by omega))).trans (Kp.below b44 (by omega))).trans (Kp.below b46 (by omega))).trans (Mk.kp m51 (by omega) (by omega))).trans (Mk.kp m53 (by omega) (by omega))).trans (Kp.below b55 (by omega))).trans (Mk.kp m56 (by omega) (by omega))).trans (Kp.below b58 (by omega)))).cell 1
      have f61 : w17.cell? ⟨w.heap.size, 2, none⟩ = some (.slice a0 xs0.length c0) := (kA0.kp (((((((((((((((((Kp.below b3 (by omega)).trans (Kp.below b9 (by omega))).trans (Kp.below b12 (by omega))).trans (Kp.below b15 (by omega))).trans (Kp.below b22 (by omega))).trans (Kp.below b25 (by omega))).trans (Kp.below b29 (by omega))).trans (Kp.below b36 (by omega))).trans (Kp.below b38 (by omega))).trans (Kp.below b39e (by omega))).trans (Kp.below b44 (by omega))).trans (Kp.below b46 (by omega))).trans (Mk.kp m51 (by omega) (by omega))).trans (Mk.kp m53 (by omega) (by omega))).trans (Kp.below b55 (by omega))).trans (Mk.kp m56 (by omega) (by omega))).trans (Kp.below b58 (by omega)))).cell 2
      have f62 : w17.cell? ⟨w.heap.size, 3, none⟩ = some (.slice ra0 xss0.length rc0) := (kA0.kp (((((((((((((((((Kp.below b3 (by omega)).trans (Kp.below b9 (by omega))).trans (Kp.below b12 (by omega))).trans (Kp.below b15 (by omega))).trans (Kp.below b22 (by omega))).trans (Kp.below b25 (by omega))).trans (Kp.below b29 (by omega))).trans (Kp.below b36 (by omega))).trans (Kp.below b38 (by omega))).trans (Kp.below b39e (by omega))).trans (Kp.below b44 (by omega))).trans (Kp.below b46 (by omega))).trans (Mk.kp m51 (by omega) (by omega))).trans (Mk.kp m53 (by omega) (by omega))).trans (Kp.below b55 (by omega))).trans (Mk.kp m56 (by omega) (by omega))).trans (Kp.below b58 (by omega)))).cell 3
      go_wp2_with fail
      refine (toCode_any p0 d0 a0 ra0 c0 rc0 xs0 xss0 w17 (H0.kp (((((((((((((((((Kp.below b3 (by omega)).trans (Kp.below b9 (by omega))).trans (Kp.below b12 (by omega))).trans (Kp.below b15 (by omega))).trans (Kp.below b22 (by omega))).trans (Kp.below b25 (by omega))).trans (Kp.below b29 (by omega))).trans (Kp.below b36 (by omega))).trans (Kp.below b38 (by omega))).trans (Kp.below b39e (by omega))).trans (Kp.below b44 (by omega))).trans (Kp.below b46 (by omega))).trans (Mk.kp m51 (by omega) (by omega))).trans (Mk.kp m53 (by omega) (by omega))).trans (Kp.below b55 (by omega))).trans (Mk.kp m56 (by omega) (by omega))).trans (Kp.below b58 (by omega)))) (RR0.kp (((((((((((((((((Kp.below b3 (by omega)).trans (Kp.below b9 (by omega))).trans (Kp.below b12 (by omega))).trans (Kp.below b15 (by omega))).trans (Kp.below b22 (by omega))).trans (Kp.below b25 (by omega))).trans (Kp.below b29 (by omega))).trans (Kp.below b36 (by omega))).trans (Kp.below b38 (by omega))).trans (Kp.below b39e (by omega))).trans (Kp.below b44 (by omega))).trans (Kp.below b46 (by omega))).trans (Mk.kp m51 (by omega) (by omega))).trans (Mk.kp m53 (by omega) (by omega))).trans (Kp.below b55 (by omega))).trans (Mk.kp m56 (by omega) (by omega))).trans (Kp.below b58 (by omega))))).mono ?_
      rintro e w18 ⟨to63, so63, rfl, o63, b64⟩
      clear f59 f60 f61 f62
      have z17 := b64.size
      obtain ⟨A65, C65, RA65, RC65, rfl, rfl, _, _⟩ := o63.form
      have O65 := o63.toH (by omega)
      clear o63
      go_wp2_with fail
      refine (toInt64S_any a1 c1 xs1 w18 (H1.kp ((((((((((((((((((Kp.below b3 (by omega)).trans (Kp.below b9 (by omega))).trans (Kp.below b12 (by omega))).trans (Kp.below b15 (by omega))).trans (Kp.below b22 (by omega))).trans (Kp.below b25 (by omega))).trans (Kp.below b29 (by omega))).trans (Kp.below b36 (by omega))).trans (Kp.below b38 (by omega))).trans (Kp.below b39e (by omega))).trans (Kp.below b44 (by omega))).trans (Kp.below b46 (by omega))).trans (Mk.kp m51 (by omega) (by omega))).trans (Mk.kp m53 (by omega) (by omega))).trans (Kp.below b55 (by omega))).trans (Mk.kp m56 (by omega) (by omega))).trans (Kp.below b58 (by omega))).trans (Kp.below b64 (by omega))))).mono ?_
      rintro e w19 ⟨to66, rfl, o66, b67⟩
      have z18 := b67.size
      obtain ⟨A68, C68, rfl, _, _⟩ := o66.form
      have O68 := o66.toH
      clear o66
      go_wp2_with fail
      refine (unhide HIM A65 C65 RA65 RC65 A68 C68 w19 (O65.kp (Kp.below b67 (by omega))).rd (O65.kp (Kp.below b67 (by omega))).rds O68.rd).mono ?_
      rintro e w20 ⟨to69, rfl, o69, b70⟩
      have z19 := b70.size
      have o69 : Own w20 w19.heap.size to69 r0 := o69
      obtain ⟨A71, C71, rfl, _, _⟩ := o69.form
      have O71 := o69.toH
      clear o69
      go_wp2_with fail
      refine (eqInt64S_any A71 A16 C71 C16 r0 r0 w20 O71.rd (O16.kp ((((((((((((((((Kp.below b22 (by omega)).trans (Kp.below b25 (by omega))).trans (Kp.below b29 (by omega))).trans (Kp.below b36 (by omega))).trans (Kp.below b38 (by omega))).trans (Kp.below b39e (by omega))).trans (Kp.below b44 (by omega))).trans (Kp.below b46 (by omega))).trans (Mk.kp m51 (by omega) (by omega))).trans (Mk.kp m53 (by omega) (by omega))).trans (Kp.below b55 (by omega))).trans (Mk.kp m56 (by omega) (by omega))).trans (Kp.below b58 (by omega))).trans (Kp.below b64 (by omega))).trans (Kp.below b67 (by omega))).trans (Kp.below b70 (by omega)))).rd).mono ?_
      rintro e w21 ⟨rfl, b72'⟩
      have b72 := b72'.below w20.heap.size
      clear b72'
      rw [dec_self]
      have z20 := b72.size
      go_wp2_with fail
      refine (heldInt64S_marked A37 C37 r0.length 1 w21 (o57.kp (((((Kp.below b58 (by omega)).trans (Kp.below b64 (by omega))).trans (Kp.below b67 (by omega))).trans (Kp.below b70 (by omega))).trans (Kp.below b72 (by omega)))).rd (by omega) (by omega)).mono ?_
      rintro e w22 ⟨rfl, b73'⟩
      have b73 : Below w21.heap.size w21 w22 := by rw [← b73']; exact Below.refl _ _
      clear b73'
      have z21 := b73.size
      go_wp2
      go_ret
      exact ⟨rfl, ((((((((((((((((((((((hb0.trans (b3.mono (by omega))).trans (b9.mono (by omega))).trans (b12.mono (by omega))).trans (b15.mono (by omega))).trans (b22.mono (by omega))).trans (b25.mono (by omega))).trans (b29.mono (by omega))).trans (b36.mono (by omega))).trans (b38.mono (by omega))).trans (b39e.mono (by omega))).trans (b44.mono (by omega))).trans (b46.mono (by omega))).trans (m51.1.mono (by omega))).trans (m53.1.mono (by omega))).trans (b55.mono (by omega))).trans (m56.1.mono (by omega))).trans (b58.mono (by omega))).trans (b64.mono (by omega))).trans (b67.mono (by omega))).trans (b70.mono (by omega))).trans (b72.mono (by omega))).trans (b73.mono (by omega)))⟩
    · rw [left_no g0]
      go_wp2
      go_ret
      exact ⟨rfl, (hb0.trans (b3.mono (by omega)))⟩
  · go_wp2
    go_ret
    exact ⟨rfl, by rw [← hw0]; exact hb0⟩

theorem law_FnExactNearestWord (X0 : COD) (X1 : SL) (w : World) (e0 : X0.ok w) (e1 : X1.ok w) :
    Calls Try.prog 8 #[X0.val, X1.val] w fun e w' => e = .returned (.bool true) ∧ Below w.heap.size w w' :=
  lawNearestWord X0.p X0.d X0.l.a X0.l.c X0.l.xs X0.r.a X0.r.c X0.r.xss X1.a X1.c X1.xs w e0.2.2.1.1 e0.2.2.1.2.1 e0.2.2.2.1 e0.2.2.2.2.1 e0.2.1 e1.1 e1.2.1

namespace fnExactNearestWord
open Go.ChangeShapes Go.WideShapes Go.ChangeAt

set_option maxRecDepth 100000 in
set_option maxHeartbeats 800000 in
theorem lifted (os : Os) (started : os.Started) (H : Type) (enc : TypeId × Value → H) :
    ReturnsInHanded {} Try.checked os 8 .any (Rows.fnExactNearestWordSpec.pre6 enc Try.prog Try.f8 Rows.fnExactNearestWordRow.domain false) (Rows.fnExactNearestWordSpec.post enc Try.prog Try.f8 false true false false) := by
  refine returnsInHanded_of_change (C := Try.checked) ownKnob_none started (by kernel_rfl) Try.func8
    (ChangeSpec.witness6 (enc := enc) (C := Try.checked) false ⟨#[], #[.agg #[.int .i64 0, .int .i64 0, .slice none 0 0, .slice none 0 0], .slice none 0 0], []⟩ 8 (by kernel_rfl) (by kernel_rfl) (by kernel_rfl) (by kernel_rfl)) ?_
  intro W base args ds gs before hval0 hW _ _
  have hval : ∀ (j : Nat) t v, Try.f8.params[j]? = some t → args[j]? = some v → Value.okWide Try.prog W .any base t v := hval0
  have hW' := hW
  obtain ⟨p, q, hA0, hV, rfl, hfz, hnd⟩ := hW
  have hA : DataW.TrodAll enc Try.prog W 0 (fun _ => true) true Try.f8.params.toList args.toList ds p := hA0
  rw [Try.params8] at hA hval
  obtain ⟨v0, vs0, d0, ds0, p0, q0, hargs, rfl, rfl, h0, r0⟩ := trodAll_cons hA
  obtain ⟨v1, vs1, d1, ds1, p1, q1, rfl, rfl, rfl, h1, r1⟩ := trodAll_cons r0
  obtain ⟨rfl, rfl, rfl⟩ := trodAll_nil r1
  obtain rfl : args = #[v0, v1] := by cases args; simp_all
  obtain ⟨rfl, rfl⟩ := trodVars_none hV
  have k0 := h0
  have lt0 : ∀ x ∈ p0, x.block < W.heap.size := by obtain ⟨m, hm⟩ := k0; exact DataW.trod_lt m _ _ _ hm
  obtain ⟨X0, rfl, e0⟩ := open_cod (hval 0 27 v0 rfl rfl) h0
  have k1 := h1
  have lt1 : ∀ x ∈ p1, x.block < W.heap.size := by obtain ⟨m, hm⟩ := k1; exact DataW.trod_lt m _ _ _ hm
  obtain ⟨X1, rfl, e1⟩ := open_sl (hval 1 22 v1 rfl rfl) h1
  clear hA0 hval0
  refine (law_FnExactNearestWord X0  X1  W e0 e1).mono fun e W' ⟨he, bel⟩ => ?_
  subst he
  exact ⟨_, rfl, _, _, _, [], _, [], hW', trodAll_mk1 (shut_bool Try.underlying4 _), (trodAll_cons_mk (Below.trod laidOut_ok (by kernel_rfl) (of_decide_eq_true (by kernel_rfl)) k0 bel lt0) (trodAll_cons_mk (Below.trod laidOut_ok (by kernel_rfl) (of_decide_eq_true (by kernel_rfl)) k1 bel lt1) trodAll_mk0)), rfl, bel.frame _, fun h => by cases h⟩

theorem over : Rows.fnExactNearestWordRow.holds Try.pinned (OpenSpec.ofChange Rows.fnExactNearestWordSpec) :=
  OpenClaim.holds_of_wide 8 Try.f8 rfl rfl rfl rfl rfl rfl rfl ⟨rfl, rfl, rfl, rfl, rfl⟩ rfl rfl rfl rfl rfl (by kernel_rfl) Try.func8 (by kernel_rfl)
    (of_decide_eq_true (by kernel_rfl)) (by unfold Func.isWrapper; first | (rw [if_pos (by decide +kernel)]; kernel_rfl) | (rw [if_neg (by decide +kernel)]; exact ⟨rfl, rfl⟩))
    (fun os started H enc _ => lifted os started H enc)

theorem proved : Rows.FnExactNearestWordSaid := over
#print axioms proved
end fnExactNearestWord
end Go.Proofs.Ytbocaiicbephgaa

