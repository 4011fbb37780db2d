/-
  Proved: FnExactShortenCode returns true for every input and leaves its arguments as they were. No condition. Printed by gen_law2.py.
-/
import Derived.BigQuiet
import Derived.BigRegion
import Derived.ChangeOld
import Derived.Deep.DeepCutAuto
import Derived.Deep.DeepMust
import Derived.Deep.DrawnRows
import Derived.Deep.Draws
import Derived.Deep.Matrix
import Derived.Deep.OwnRows
import Derived.Deep.QuietTactic
import Derived.Deep.RegionHeld3
import Derived.Deep.Slices
import Derived.Deep.Strs
import Derived.IntWalk
import Derived.Laws.Rows
import Derived.Lib.AppendZeros
import Derived.Lib.Hide
import Derived.Lib.OwnBridge
import Derived.Lib.SmallJoins
import Derived.Maps.AppendAt
import Derived.OpenShut
import Derived.OwnWalk
import Derived.ProofKit
import Derived.Shelf.SlicesE.Delete
import Derived.ShutString
import Derived.StillTailTactics
import Derived.Test.YtcblhjhabhjbkaaProg
import Derived.Test.YtcblhjhabhjbkaaRows
import Derived.WalkKit
import Derived.WalkLawsBesides
import Derived.WalkSpells
import Derived.Test.YtcblhjhabhjbkaaZ6
import Derived.Test.YtcblhjhabhjbkaaZ16
import Derived.Test.YtcblhjhabhjbkaaZ52
import Derived.Test.YtcblhjhabhjbkaaZ57
set_option linter.unusedVariables false
set_option linter.unusedSimpArgs false
namespace Go.Proofs.Ytcblhjhabhjbkaa
open Go.RowKit
attribute [local go_sem ↓] Go.wp_at_zero Go.wp_at_succ

theorem dec_self {α : Type} [DecidableEq α] (xs : α) : decide (xs = xs) = true := by simp
set_option maxRecDepth 100000 in
set_option maxHeartbeats 4000000 in
theorem lawShortenCode (p0 : Int) (d0 : Int) (a0 : Option Addr) (c0 : Nat) (xs0 : List Int) (ra0 : Option Addr) (rc0 : Nat) (xss0 : List (List Int)) (n1 : Int) (w : World) (l0 : xs0.length ≤ maxLen) (h0 : xs0.length ≤ 1048576 → Rd w a0 xs0) (m0 : Lens w ra0 (xss0.map List.length)) (y0 : total (xss0.map List.length) ≤ 1048576 → RdS w ra0 xss0) (ed0 : I64 d0) :
    Calls Try.prog 7 #[.agg #[.int .i64 p0, .int .i64 d0, .slice a0 xs0.length c0, .slice ra0 xss0.length rc0], .int .i64 n1] w fun e w' => e = .returned (.bool true) ∧ Below w.heap.size w w' := by
  obtain ⟨rp0, rd0, rx0, ry0, r1, hR⟩ : ∃ rp0 rd0 rx0 ry0 r1, (shoRes p0 d0 xs0 xss0 n1) = (rp0, rd0, rx0, ry0, r1) := ⟨_, _, _, _, _, rfl⟩
  have hsp := fun a0' c0' ra0' rc0' W h0' r0' q0' => specSH_any p0 d0 a0' c0' xs0 ra0' rc0' xss0 n1 W h0' r0' q0'  
  rw [hR] at hsp
  have HSP := hide hsp
  clear hsp
  have him := fun a0' c0' ra0' rc0' W h0' r0' q0' => implSH_any p0 d0 a0' c0' xs0 ra0' rc0' xss0 n1 W h0' r0' q0'  ed0
  rw [hR] at him
  have HIM := hide him
  clear him
  clear hR
  obtain ⟨w0, hw0⟩ : ∃ z, z = (w.alloc (.cells #[.int .i64 p0, .int .i64 d0, .slice a0 xs0.length c0, .slice ra0 xss0.length rc0] 27)) := ⟨_, rfl⟩
  have hb0 : Below w.heap.size w w0 := by rw [hw0]; exact ((Below.refl _ _).alloc (Nat.le_refl _) _)
  have kA0 : Blk w0 w.heap.size 27 #[.int .i64 p0, .int .i64 d0, .slice a0 xs0.length c0, .slice ra0 xss0.length rc0] := by rw [hw0]; exact (Blk.new _ _ _ rfl)
  have zb : w.heap.size + 1 ≤ w0.heap.size := by rw [hw0]; simp
  go_enter Try.func7, Try.ntmps7
  have e0 : (xss0.map List.length).length = xss0.length := by simp
  have zz := szCode_any p0 d0 a0 xs0.length c0 ra0 rc0 (xss0.map List.length) (1048576) w0 l0 (by omega) (by omega) (m0.below hb0)
  rw [e0] at zz
  have Z1 := hide zz
  clear zz e0
  have HP2 := Lib.hid hw0
  clear hw0
  go_wp2_with fail
  rw [← HP2.out]
  refine (unhide Z1).mono ?_
  rintro e w1 ⟨rfl, b3⟩
  have z0 := b3.size
  by_cases g0 : ((xs0.length + total (xss0.map List.length) : Nat) : Int) ≤ 1048576
  · rw [left_yes g0]
    have H0 := (h0 (by omega)).below hb0
    have RR0 := (y0 (by omega)).below hb0
    clear l0 h0 m0 y0 
    have f4 : w1.cell? ⟨w.heap.size, 0, none⟩ = some (.int .i64 p0) := (kA0.kp (Kp.below b3 (by omega))).cell 0
    have f5 : w1.cell? ⟨w.heap.size, 1, none⟩ = some (.int .i64 d0) := (kA0.kp (Kp.below b3 (by omega))).cell 1
    have f6 : w1.cell? ⟨w.heap.size, 2, none⟩ = some (.slice a0 xs0.length c0) := (kA0.kp (Kp.below b3 (by omega))).cell 2
    have f7 : w1.cell? ⟨w.heap.size, 3, none⟩ = some (.slice ra0 xss0.length rc0) := (kA0.kp (Kp.below b3 (by omega))).cell 3
    go_wp2_with fail
    refine (toCode_any p0 d0 a0 ra0 c0 rc0 xs0 xss0 w1 (H0.kp (Kp.below b3 (by omega))) (RR0.kp (Kp.below b3 (by omega)))).mono ?_
    rintro e w2 ⟨to8, so8, rfl, o8, b9⟩
    clear f4 f5 f6 f7
    have z1 := b9.size
    obtain ⟨A10, C10, RA10, RC10, rfl, rfl, _, _⟩ := o8.form
    have O10 := o8.toH (by omega)
    clear o8
    go_wp2_with fail
    refine (unhide HSP A10 C10 RA10 RC10 w2 O10.rd O10.rds O10.caps).mono ?_
    rintro e w3 ⟨to11, so11, rfl, o11, o11q, b12⟩
    have z2 := b12.size
    have o11 : Own w3 w2.heap.size to11 rx0 := o11
    have o11q : OwnS w3 w2.heap.size so11 ry0 := o11q
    obtain ⟨A13, C13, rfl, Ho11, _⟩ := o11.form
    obtain ⟨RA13, RC13, rfl, RRo11⟩ := o11q.form
    clear o11 o11q
    obtain ⟨w4, hP14⟩ : ∃ z, z = w3.alloc (.cells #[.int .i64 rp0, .int .i64 rd0, .slice A13 rx0.length C13, .slice RA13 ry0.length RC13] 31) := ⟨_, rfl⟩
    have b15 : Below w3.heap.size w3 w4 := by rw [hP14]; exact (Below.refl _ _).alloc (Nat.le_refl _) _
    have K16 : Blk w4 w3.heap.size 31 #[.int .i64 rp0, .int .i64 rd0, .slice A13 rx0.length C13, .slice RA13 ry0.length RC13] := by rw [hP14]; exact Blk.new _ _ _ rfl
    have zz3 : w3.heap.size + 1 ≤ w4.heap.size := K16.lt
    have z3 := b15.size
    have f17 : w4.cell? ⟨w.heap.size, 0, none⟩ = some (.int .i64 p0) := (kA0.kp ((((Kp.below b3 (by omega)).trans (Kp.below b9 (by omega))).trans (Kp.below b12 (by omega))).trans (Kp.below b15 (by omega)))).cell 0
    have f18 : w4.cell? ⟨w.heap.size, 1, none⟩ = some (.int .i64 d0) := (kA0.kp ((((Kp.below b3 (by omega)).trans (Kp.below b9 (by omega))).trans (Kp.below b12 (by omega))).trans (Kp.below b15 (by omega)))).cell 1
    have f19 : w4.cell? ⟨w.heap.size, 2, none⟩ = some (.slice a0 xs0.length c0) := (kA0.kp ((((Kp.below b3 (by omega)).trans (Kp.below b9 (by omega))).trans (Kp.below b12 (by omega))).trans (Kp.below b15 (by omega)))).cell 2
    have f20 : w4.cell? ⟨w.heap.size, 3, none⟩ = some (.slice ra0 xss0.length rc0) := (kA0.kp ((((Kp.below b3 (by omega)).trans (Kp.below b9 (by omega))).trans (Kp.below b12 (by omega))).trans (Kp.below b15 (by omega)))).cell 3
    rw [hP14] at f17 f18 f19 f20
    have HP21 := Lib.hid hP14
    clear hP14
    go_wp2_with fail
    rw [← HP21.out]
    refine (toCode_any p0 d0 a0 ra0 c0 rc0 xs0 xss0 w4 (H0.kp ((((Kp.below b3 (by omega)).trans (Kp.below b9 (by omega))).trans (Kp.below b12 (by omega))).trans (Kp.below b15 (by omega)))) (RR0.kp ((((Kp.below b3 (by omega)).trans (Kp.below b9 (by omega))).trans (Kp.below b12 (by omega))).trans (Kp.below b15 (by omega))))).mono ?_
    rintro e w5 ⟨to22, so22, rfl, o22, b23⟩
    clear f17 f18 f19 f20
    have z4 := b23.size
    obtain ⟨A24, C24, RA24, RC24, rfl, rfl, _, _⟩ := o22.form
    have O24 := o22.toH (by omega)
    clear o22
    obtain ⟨w6, hP25⟩ : ∃ z, z = w5.alloc (.cells #[.int .i64 p0, .int .i64 d0, .slice A24 xs0.length C24, .slice RA24 xss0.length RC24] 31) := ⟨_, rfl⟩
    have b26 : Below w5.heap.size w5 w6 := by rw [hP25]; exact (Below.refl _ _).alloc (Nat.le_refl _) _
    have K27 : Blk w6 w5.heap.size 31 #[.int .i64 p0, .int .i64 d0, .slice A24 xs0.length C24, .slice RA24 xss0.length RC24] := by rw [hP25]; exact Blk.new _ _ _ rfl
    have zz5 : w5.heap.size + 1 ≤ w6.heap.size := K27.lt
    have z5 := b26.size
    have HP28 := Lib.hid hP25
    clear hP25
    go_wp2_with fail
    rw [← HP28.out]
    refine (unhide HIM A24 C24 RA24 RC24 w6 (O24.kp (Kp.below b26 (by omega))).rd (O24.kp (Kp.below b26 (by omega))).rds (O24.kp (Kp.below b26 (by omega))).caps).mono ?_
    rintro e w7 ⟨to29, so29, rfl, o29, b30⟩
    have z6 := b30.size
    have o29 : OwnC w7 w6.heap.size to29 so29 rx0 ry0 := o29
    obtain ⟨A31, C31, RA31, RC31, rfl, rfl, _, _⟩ := o29.form
    have O31 := o29.toH (by omega)
    clear o29
    obtain ⟨w8, hP32⟩ : ∃ z, z = w7.alloc (.cells #[.int .i64 rp0, .int .i64 rd0, .slice A31 rx0.length C31, .slice RA31 ry0.length RC31] 31) := ⟨_, rfl⟩
    have b33 : Below w7.heap.size w7 w8 := by rw [hP32]; exact (Below.refl _ _).alloc (Nat.le_refl _) _
    have K34 : Blk w8 w7.heap.size 31 #[.int .i64 rp0, .int .i64 rd0, .slice A31 rx0.length C31, .slice RA31 ry0.length RC31] := by rw [hP32]; exact Blk.new _ _ _ rfl
    have zz7 : w7.heap.size + 1 ≤ w8.heap.size := K34.lt
    have z7 := b33.size
    have f35 : w8.cell? ⟨w3.heap.size, 0, none⟩ = some (.int .i64 rp0) := (K16.kp ((((Kp.below b23 (by omega)).trans (Kp.below b26 (by omega))).trans (Kp.below b30 (by omega))).trans (Kp.below b33 (by omega)))).cell 0
    have f36 : w8.cell? ⟨w3.heap.size, 1, none⟩ = some (.int .i64 rd0) := (K16.kp ((((Kp.below b23 (by omega)).trans (Kp.below b26 (by omega))).trans (Kp.below b30 (by omega))).trans (Kp.below b33 (by omega)))).cell 1
    have f37 : w8.cell? ⟨w3.heap.size, 2, none⟩ = some (.slice A13 rx0.length C13) := (K16.kp ((((Kp.below b23 (by omega)).trans (Kp.below b26 (by omega))).trans (Kp.below b30 (by omega))).trans (Kp.below b33 (by omega)))).cell 2
    have f38 : w8.cell? ⟨w3.heap.size, 3, none⟩ = some (.slice RA13 ry0.length RC13) := (K16.kp ((((Kp.below b23 (by omega)).trans (Kp.below b26 (by omega))).trans (Kp.below b30 (by omega))).trans (Kp.below b33 (by omega)))).cell 3
    rw [hP32] at f35 f36 f37 f38
    have HP39 := Lib.hid hP32
    clear hP32
    go_wp2_with fail
    rw [← HP39.out]
    refine (eqCode_any rp0 rd0 rp0 rd0 A31 A13 RA31 RA13 C31 C13 RC31 RC13 rx0 rx0 ry0 ry0 w8 (O31.kp (Kp.below b33 (by omega))).rd (Ho11.kp (((((Kp.below b15 (by omega)).trans (Kp.below b23 (by omega))).trans (Kp.below b26 (by omega))).trans (Kp.below b30 (by omega))).trans (Kp.below b33 (by omega)))) (O31.kp (Kp.below b33 (by omega))).rds (RRo11.kp (((((Kp.below b15 (by omega)).trans (Kp.below b23 (by omega))).trans (Kp.below b26 (by omega))).trans (Kp.below b30 (by omega))).trans (Kp.below b33 (by omega))))).mono ?_
    rintro e w9 ⟨rfl, b40⟩
    rw [sameC_self]
    clear f35 f36 f37 f38
    have z8 := b40.size
    have Y41 := (O24.kp ((((Kp.below b26 (by omega)).trans (Kp.below b30 (by omega))).trans (Kp.below b33 (by omega))).trans (Kp.below b40 (by omega)))).rd
    have YY41 := (O24.kp ((((Kp.below b26 (by omega)).trans (Kp.below b30 (by omega))).trans (Kp.below b33 (by omega))).trans (Kp.below b40 (by omega)))).rds
    have X41h := (H0.kp (((((((((Kp.below b3 (by omega)).trans (Kp.below b9 (by omega))).trans (Kp.below b12 (by omega))).trans (Kp.below b15 (by omega))).trans (Kp.below b23 (by omega))).trans (Kp.below b26 (by omega))).trans (Kp.below b30 (by omega))).trans (Kp.below b33 (by omega))).trans (Kp.below b40 (by omega))))
    have X41r := (RR0.kp (((((((((Kp.below b3 (by omega)).trans (Kp.below b9 (by omega))).trans (Kp.below b12 (by omega))).trans (Kp.below b15 (by omega))).trans (Kp.below b23 (by omega))).trans (Kp.below b26 (by omega))).trans (Kp.below b30 (by omega))).trans (Kp.below b33 (by omega))).trans (Kp.below b40 (by omega))))
    have K42 := (K27.kp (((Kp.below b30 (by omega)).trans (Kp.below b33 (by omega))).trans (Kp.below b40 (by omega))))
    have K43 := (kA0.kp (((((((((Kp.below b3 (by omega)).trans (Kp.below b9 (by omega))).trans (Kp.below b12 (by omega))).trans (Kp.below b15 (by omega))).trans (Kp.below b23 (by omega))).trans (Kp.below b26 (by omega))).trans (Kp.below b30 (by omega))).trans (Kp.below b33 (by omega))).trans (Kp.below b40 (by omega))))
    have BX44' : ∀ (W : World), Below w9.heap.size w9 W → (Below w9.heap.size w9 W ∧ W.cell? ⟨w5.heap.size, 0, none⟩ = some (.int .i64 p0) ∧ W.cell? ⟨w5.heap.size, 1, none⟩ = some (.int .i64 d0) ∧ W.cell? ⟨w5.heap.size, 2, none⟩ = some (.slice A24 xs0.length C24) ∧ W.cell? ⟨w5.heap.size, 3, none⟩ = some (.slice RA24 xss0.length RC24) ∧ W.cell? ⟨w.heap.size, 0, none⟩ = some (.int .i64 p0) ∧ W.cell? ⟨w.heap.size, 1, none⟩ = some (.int .i64 d0) ∧ W.cell? ⟨w.heap.size, 2, none⟩ = some (.slice a0 xs0.length c0) ∧ W.cell? ⟨w.heap.size, 3, none⟩ = some (.slice ra0 xss0.length rc0)) := fun _ h => ⟨h, (K42.below h K42.lt).cell 0, (K42.below h K42.lt).cell 1, (K42.below h K42.lt).cell 2, (K42.below h K42.lt).cell 3, (K43.below h K43.lt).cell 0, (K43.below h K43.lt).cell 1, (K43.below h K43.lt).cell 2, (K43.below h K43.lt).cell 3⟩
    have BX44 := hide BX44'
    clear BX44'
    go_upto_region 10 with fail
    go_region_held3 (fun W => Below w9.heap.size w9 W ∧ W.cell? ⟨w5.heap.size, 0, none⟩ = some (.int .i64 p0) ∧ W.cell? ⟨w5.heap.size, 1, none⟩ = some (.int .i64 d0) ∧ W.cell? ⟨w5.heap.size, 2, none⟩ = some (.slice A24 xs0.length C24) ∧ W.cell? ⟨w5.heap.size, 3, none⟩ = some (.slice RA24 xss0.length RC24) ∧ W.cell? ⟨w.heap.size, 0, none⟩ = some (.int .i64 p0) ∧ W.cell? ⟨w.heap.size, 1, none⟩ = some (.int .i64 d0) ∧ W.cell? ⟨w.heap.size, 2, none⟩ = some (.slice a0 xs0.length c0) ∧ W.cell? ⟨w.heap.size, 3, none⟩ = some (.slice ra0 xss0.length rc0))
      (first | exact (unhide BX44) _ (Below.refl _ _) | exact (unhide BX44) _ ((Below.refl _ _).drew) | exact (unhide BX44) _ (by assumption))
      (first
        | (go_at_call_of 13 (Value.slice a0 xs0.length c0); refine (toCode_any p0 d0 a0 ra0 c0 rc0 xs0 xss0 _ ?_ ?_).mono ?_; exact X41h.below (And.left (by assumption)); exact X41r.below (And.left (by assumption)); rintro e W41 ⟨t41, s41, rfl, o41, bb41⟩; obtain ⟨A41, C41, RA41, RC41, rfl, rfl, rr41, rs41⟩ := o41.form; have hB41 := Below.chain (a := w9) (And.left (by assumption)) bb41)
        | (go_at_call 15; refine (eqCode_any p0 d0 p0 d0 A24 A41 RA24 RA41 C24 C41 RC24 RC41 xs0 xs0 xss0 xss0 _ (Y41.below hB41) rr41 (YY41.below hB41) rs41).mono ?_; rintro e w10 ⟨rfl, bc41⟩; have b41e := Below.chain hB41 bc41; rw [sameC_self]))
    clear BX44
    have z9 := b41e.size
    have bdO24 : xs0.length ≤ 1073741824 := O24.len
    have beO24 : (xss0.map List.length).sum ≤ 1152921504606846976 := O24.sum
    have bdO31 : rx0.length ≤ 1073741824 := O31.len
    have beO31 : (ry0.map List.length).sum ≤ 1152921504606846976 := O31.sum
    have f45 : w10.cell? ⟨w5.heap.size, 0, none⟩ = some (.int .i64 p0) := (K27.kp ((((Kp.below b30 (by omega)).trans (Kp.below b33 (by omega))).trans (Kp.below b40 (by omega))).trans (Kp.below b41e (by omega)))).cell 0
    have f46 : w10.cell? ⟨w5.heap.size, 1, none⟩ = some (.int .i64 d0) := (K27.kp ((((Kp.below b30 (by omega)).trans (Kp.below b33 (by omega))).trans (Kp.below b40 (by omega))).trans (Kp.below b41e (by omega)))).cell 1
    have f47 : w10.cell? ⟨w5.heap.size, 2, none⟩ = some (.slice A24 xs0.length C24) := (K27.kp ((((Kp.below b30 (by omega)).trans (Kp.below b33 (by omega))).trans (Kp.below b40 (by omega))).trans (Kp.below b41e (by omega)))).cell 2
    have f48 : w10.cell? ⟨w5.heap.size, 3, none⟩ = some (.slice RA24 xss0.length RC24) := (K27.kp ((((Kp.below b30 (by omega)).trans (Kp.below b33 (by omega))).trans (Kp.below b40 (by omega))).trans (Kp.below b41e (by omega)))).cell 3
    go_wp2_with fail
    refine (markCode_any w4.heap.size w5.heap.size p0 d0 A24 RA24 xs0.length xss0.length C24 RC24 (1) xs0 xss0 w10 rfl rfl (O24.kp (((((Kp.below b26 (by omega)).trans (Kp.below b30 (by omega))).trans (Kp.below b33 (by omega))).trans (Kp.below b40 (by omega))).trans (Kp.below b41e (by omega)))) (by omega) (by omega) (by omega) (by omega)).mono ?_
    rintro e w11 ⟨rfl, o50, m49⟩
    clear f45 f46 f47 f48
    have z10 := m49.size
    have kn1 : decide (1 + (xs0.length : Int) + (((xss0.map List.length).sum : Nat) : Int) < 0) = false := by rw [decide_eq_false_iff_not]; omega
    have kn2 : 0 ≤ 1 + (xs0.length : Int) + (((xss0.map List.length).sum : Nat) : Int) := by omega
    have f51 : w11.cell? ⟨w7.heap.size, 0, none⟩ = some (.int .i64 rp0) := (K34.kp (((Kp.below b40 (by omega)).trans (Kp.below b41e (by omega))).trans (Mk.kp m49 (by omega) (by omega)))).cell 0
    have f52 : w11.cell? ⟨w7.heap.size, 1, none⟩ = some (.int .i64 rd0) := (K34.kp (((Kp.below b40 (by omega)).trans (Kp.below b41e (by omega))).trans (Mk.kp m49 (by omega) (by omega)))).cell 1
    have f53 : w11.cell? ⟨w7.heap.size, 2, none⟩ = some (.slice A31 rx0.length C31) := (K34.kp (((Kp.below b40 (by omega)).trans (Kp.below b41e (by omega))).trans (Mk.kp m49 (by omega) (by omega)))).cell 2
    have f54 : w11.cell? ⟨w7.heap.size, 3, none⟩ = some (.slice RA31 ry0.length RC31) := (K34.kp (((Kp.below b40 (by omega)).trans (Kp.below b41e (by omega))).trans (Mk.kp m49 (by omega) (by omega)))).cell 3
    have f55 : w11.cell? ⟨w3.heap.size, 0, none⟩ = some (.int .i64 rp0) := (K16.kp (((((((Kp.below b23 (by omega)).trans (Kp.below b26 (by omega))).trans (Kp.below b30 (by omega))).trans (Kp.below b33 (by omega))).trans (Kp.below b40 (by omega))).trans (Kp.below b41e (by omega))).trans (Mk.kp m49 (by omega) (by omega)))).cell 0
    have f56 : w11.cell? ⟨w3.heap.size, 1, none⟩ = some (.int .i64 rd0) := (K16.kp (((((((Kp.below b23 (by omega)).trans (Kp.below b26 (by omega))).trans (Kp.below b30 (by omega))).trans (Kp.below b33 (by omega))).trans (Kp.below b40 (by omega))).trans (Kp.below b41e (by omega))).trans (Mk.kp m49 (by omega) (by omega)))).cell 1
    have f57 : w11.cell? ⟨w3.heap.size, 2, none⟩ = some (.slice A13 rx0.length C13) := (K16.kp (((((((Kp.below b23 (by omega)).trans (Kp.below b26 (by omega))).trans (Kp.below b30 (by omega))).trans (Kp.below b33 (by omega))).trans (Kp.below b40 (by omega))).trans (Kp.below b41e (by omega))).trans (Mk.kp m49 (by omega) (by omega)))).cell 2
    have f58 : w11.cell? ⟨w3.heap.size, 3, none⟩ = some (.slice RA13 ry0.length RC13) := (K16.kp (((((((Kp.below b23 (by omega)).trans (Kp.below b26 (by omega))).trans (Kp.below b30 (by omega))).trans (Kp.below b33 (by omega))).trans (Kp.below b40 (by omega))).trans (Kp.below b41e (by omega))).trans (Mk.kp m49 (by omega) (by omega)))).cell 3
    go_wp2_with fail
    refine (eqCode_any rp0 rd0 rp0 rd0 A31 A13 RA31 RA13 C31 C13 RC31 RC13 rx0 rx0 ry0 ry0 w11 (O31.kp ((((Kp.below b33 (by omega)).trans (Kp.below b40 (by omega))).trans (Kp.below b41e (by omega))).trans (Mk.kp m49 (by omega) (by omega)))).rd (Ho11.kp ((((((((Kp.below b15 (by omega)).trans (Kp.below b23 (by omega))).trans (Kp.below b26 (by omega))).trans (Kp.below b30 (by omega))).trans (Kp.below b33 (by omega))).trans (Kp.below b40 (by omega))).trans (Kp.below b41e (by omega))).trans (Mk.kp m49 (by omega) (by omega)))) (O31.kp ((((Kp.below b33 (by omega)).trans (Kp.below b40 (by omega))).trans (Kp.below b41e (by omega))).trans (Mk.kp m49 (by omega) (by omega)))).rds (RRo11.kp ((((((((Kp.below b15 (by omega)).trans (Kp.below b23 (by omega))).trans (Kp.below b26 (by omega))).trans (Kp.below b30 (by omega))).trans (Kp.below b33 (by omega))).trans (Kp.below b40 (by omega))).trans (Kp.below b41e (by omega))).trans (Mk.kp m49 (by omega) (by omega))))).mono ?_
    rintro e w12 ⟨rfl, b59⟩
    rw [sameC_self]
    clear f51 f52 f53 f54 f55 f56 f57 f58
    have z11 := b59.size
    have f60 : w12.cell? ⟨w7.heap.size, 0, none⟩ = some (.int .i64 rp0) := (K34.kp ((((Kp.below b40 (by omega)).trans (Kp.below b41e (by omega))).trans (Mk.kp m49 (by omega) (by omega))).trans (Kp.below b59 (by omega)))).cell 0
    have f61 : w12.cell? ⟨w7.heap.size, 1, none⟩ = some (.int .i64 rd0) := (K34.kp ((((Kp.below b40 (by omega)).trans (Kp.below b41e (by omega))).trans (Mk.kp m49 (by omega) (by omega))).trans (Kp.below b59 (by omega)))).cell 1
    have f62 : w12.cell? ⟨w7.heap.size, 2, none⟩ = some (.slice A31 rx0.length C31) := (K34.kp ((((Kp.below b40 (by omega)).trans (Kp.below b41e (by omega))).trans (Mk.kp m49 (by omega) (by omega))).trans (Kp.below b59 (by omega)))).cell 2
    have f63 : w12.cell? ⟨w7.heap.size, 3, none⟩ = some (.slice RA31 ry0.length RC31) := (K34.kp ((((Kp.below b40 (by omega)).trans (Kp.below b41e (by omega))).trans (Mk.kp m49 (by omega) (by omega))).trans (Kp.below b59 (by omega)))).cell 3
    go_wp2_with fail
    refine (markCode_any w6.heap.size w7.heap.size rp0 rd0 A31 RA31 rx0.length ry0.length C31 RC31 (1) rx0 ry0 w12 rfl rfl (O31.kp (((((Kp.below b33 (by omega)).trans (Kp.below b40 (by omega))).trans (Kp.below b41e (by omega))).trans (Mk.kp m49 (by omega) (by omega))).trans (Kp.below b59 (by omega)))) (by omega) (by omega) (by omega) (by omega)).mono ?_
    rintro e w13 ⟨rfl, o65, m64⟩
    clear f60 f61 f62 f63
    have z12 := m64.size
    have kn3 : decide (1 + (rx0.length : Int) + (((ry0.map List.length).sum : Nat) : Int) < 0) = false := by rw [decide_eq_false_iff_not]; omega
    have kn4 : 0 ≤ 1 + (rx0.length : Int) + (((ry0.map List.length).sum : Nat) : Int) := by omega
    have kn5 : (1 + (rx0.length : Int) + (((ry0.map List.length).sum : Nat) : Int) != 1 + (rx0.length : Int) + (((ry0.map List.length).sum : Nat) : Int)) = false := by simp
    have f66 : w13.cell? ⟨w7.heap.size, 0, none⟩ = some (.int .i64 rp0) := (K34.kp (((((Kp.below b40 (by omega)).trans (Kp.below b41e (by omega))).trans (Mk.kp m49 (by omega) (by omega))).trans (Kp.below b59 (by omega))).trans (Mk.kp m64 (by omega) (by omega)))).cell 0
    have f67 : w13.cell? ⟨w7.heap.size, 1, none⟩ = some (.int .i64 rd0) := (K34.kp (((((Kp.below b40 (by omega)).trans (Kp.below b41e (by omega))).trans (Mk.kp m49 (by omega) (by omega))).trans (Kp.below b59 (by omega))).trans (Mk.kp m64 (by omega) (by omega)))).cell 1
    have f68 : w13.cell? ⟨w7.heap.size, 2, none⟩ = some (.slice A31 rx0.length C31) := (K34.kp (((((Kp.below b40 (by omega)).trans (Kp.below b41e (by omega))).trans (Mk.kp m49 (by omega) (by omega))).trans (Kp.below b59 (by omega))).trans (Mk.kp m64 (by omega) (by omega)))).cell 2
    have f69 : w13.cell? ⟨w7.heap.size, 3, none⟩ = some (.slice RA31 ry0.length RC31) := (K34.kp (((((Kp.below b40 (by omega)).trans (Kp.below b41e (by omega))).trans (Mk.kp m49 (by omega) (by omega))).trans (Kp.below b59 (by omega))).trans (Mk.kp m64 (by omega) (by omega)))).cell 3
    go_wp2_with fail
    refine (heldCode_any rp0 rd0 A31 RA31 rx0.length ry0.length C31 RC31 1 (ry0.map List.length) w13 (by simp) o65.rd o65.rds (by omega) (by omega)).mono ?_
    rintro e w14 ⟨rfl, b70⟩
    clear f66 f67 f68 f69
    have z13 := b70.size
    have f71 : w14.cell? ⟨w.heap.size, 0, none⟩ = some (.int .i64 p0) := (kA0.kp ((((((((((((((Kp.below b3 (by omega)).trans (Kp.below b9 (by omega))).trans (Kp.below b12 (by omega))).trans (Kp.below b15 (by omega))).trans (Kp.below b23 (by omega))).trans (Kp.below b26 (by omega))).trans (Kp.below b30 (by omega))).trans (Kp.below b33 (by omega))).trans (Kp.below b40 (by omega))).trans (Kp.below b41e (by omega))).trans (Mk.kp m49 (by omega) (by omega))).trans (Kp.below b59 (by omega))).trans (Mk.kp m64 (by omega) (by omega))).trans (Kp.below b70 (by omega)))).cell 0
    have f72 : w14.cell? ⟨w.heap.size, 1, none⟩ = some (.int .i64 d0) := (kA0.kp ((((((((((((((Kp.below b3 (by omega)).trans (Kp.below b9 (by omega))).trans (Kp.below b12 (by omega))).trans (Kp.below b15 (by omega))).trans (Kp.below b23 (by omega))).trans (Kp.below b26 (by omega))).trans (Kp.below b30 (by omega))).trans (Kp.below b33 (by omega))).trans (Kp.below b40 (by omega))).trans (Kp.below b41e (by omega))).trans (Mk.kp m49 (by omega) (by omega))).trans (Kp.below b59 (by omega))).trans (Mk.kp m64 (by omega) (by omega))).trans (Kp.below b70 (by omega)))).cell 1
    have f73 : w14.cell? ⟨w.heap.size, 2, none⟩ = some (.slice a0 xs0.length c0) := (kA0.kp ((((((((((((((Kp.below b3 (by omega)).trans (Kp.below b9 (by omega))).trans (Kp.below b12 (by omega))).trans (Kp.below b15 (by omega))).trans (Kp.below b23 (by omega))).trans (Kp.below b26 (by omega))).trans (Kp.below b30 (by omega))).trans (Kp.below b33 (by omega))).trans (Kp.below b40 (by omega))).trans (Kp.below b41e (by omega))).trans (Mk.kp m49 (by omega) (by omega))).trans (Kp.below b59 (by omega))).trans (Mk.kp m64 (by omega) (by omega))).trans (Kp.below b70 (by omega)))).cell 2
    have f74 : w14.cell? ⟨w.heap.size, 3, none⟩ = some (.slice ra0 xss0.length rc0) := (kA0.kp ((((((((((((((Kp.below b3 (by omega)).trans (Kp.below b9 (by omega))).trans (Kp.below b12 (by omega))).trans (Kp.below b15 (by omega))).trans (Kp.below b23 (by omega))).trans (Kp.below b26 (by omega))).trans (Kp.below b30 (by omega))).trans (Kp.below b33 (by omega))).trans (Kp.below b40 (by omega))).trans (Kp.below b41e (by omega))).trans (Mk.kp m49 (by omega) (by omega))).trans (Kp.below b59 (by omega))).trans (Mk.kp m64 (by omega) (by omega))).trans (Kp.below b70 (by omega)))).cell 3
    go_wp2_with fail
    refine (toCode_any p0 d0 a0 ra0 c0 rc0 xs0 xss0 w14 (H0.kp ((((((((((((((Kp.below b3 (by omega)).trans (Kp.below b9 (by omega))).trans (Kp.below b12 (by omega))).trans (Kp.below b15 (by omega))).trans (Kp.below b23 (by omega))).trans (Kp.below b26 (by omega))).trans (Kp.below b30 (by omega))).trans (Kp.below b33 (by omega))).trans (Kp.below b40 (by omega))).trans (Kp.below b41e (by omega))).trans (Mk.kp m49 (by omega) (by omega))).trans (Kp.below b59 (by omega))).trans (Mk.kp m64 (by omega) (by omega))).trans (Kp.below b70 (by omega)))) (RR0.kp ((((((((((((((Kp.below b3 (by omega)).trans (Kp.below b9 (by omega))).trans (Kp.below b12 (by omega))).trans (Kp.below b15 (by omega))).trans (Kp.below b23 (by omega))).trans (Kp.below b26 (by omega))).trans (Kp.below b30 (by omega))).trans (Kp.below b33 (by omega))).trans (Kp.below b40 (by omega))).trans (Kp.below b41e (by omega))).trans (Mk.kp m49 (by omega) (by omega))).trans (Kp.below b59 (by omega))).trans (Mk.kp m64 (by omega) (by omega))).trans (Kp.below b70 (by omega))))).mono ?_
    rintro e w15 ⟨to75, so75, rfl, o75, b76⟩
    clear f71 f72 f73 f74
    have z14 := b76.size
    obtain ⟨A77, C77, RA77, RC77, rfl, rfl, _, _⟩ := o75.form
    have O77 := o75.toH (by omega)
    clear o75
    go_wp2_with fail
    refine (unhide HIM A77 C77 RA77 RC77 w15 O77.rd O77.rds O77.caps).mono ?_
    rintro e w16 ⟨to78, so78, rfl, o78, b79⟩
    have z15 := b79.size
    have o78 : OwnC w16 w15.heap.size to78 so78 rx0 ry0 := o78
    obtain ⟨A80, C80, RA80, RC80, rfl, rfl, _, _⟩ := o78.form
    have O80 := o78.toH (by omega)
    clear o78
    obtain ⟨w17, hP81⟩ : ∃ z, z = w16.alloc (.cells #[.int .i64 rp0, .int .i64 rd0, .slice A80 rx0.length C80, .slice RA80 ry0.length RC80] 31) := ⟨_, rfl⟩
    have b82 : Below w16.heap.size w16 w17 := by rw [hP81]; exact (Below.refl _ _).alloc (Nat.le_refl _) _
    have K83 : Blk w17 w16.heap.size 31 #[.int .i64 rp0, .int .i64 rd0, .slice A80 rx0.length C80, .slice RA80 ry0.length RC80] := by rw [hP81]; exact Blk.new _ _ _ rfl
    have zz16 : w16.heap.size + 1 ≤ w17.heap.size := K83.lt
    have z16 := b82.size
    have f84 : w17.cell? ⟨w3.heap.size, 0, none⟩ = some (.int .i64 rp0) := (K16.kp (((((((((((((Kp.below b23 (by omega)).trans (Kp.below b26 (by omega))).trans (Kp.below b30 (by omega))).trans (Kp.below b33 (by omega))).trans (Kp.below b40 (by omega))).trans (Kp.below b41e (by omega))).trans (Mk.kp m49 (by omega) (by omega))).trans (Kp.below b59 (by omega))).trans (Mk.kp m64 (by omega) (by omega))).trans (Kp.below b70 (by omega))).trans (Kp.below b76 (by omega))).trans (Kp.below b79 (by omega))).trans (Kp.below b82 (by omega)))).cell 0
    have f85 : w17.cell? ⟨w3.heap.size, 1, none⟩ = some (.int .i64 rd0) := (K16.kp (((((((((((((Kp.below b23 (by omega)).trans (Kp.below b26 (by omega))).trans (Kp.below b30 (by omega))).trans (Kp.below b33 (by omega))).trans (Kp.below b40 (by omega))).trans (Kp.below b41e (by omega))).trans (Mk.kp m49 (by omega) (by omega))).trans (Kp.below b59 (by omega))).trans (Mk.kp m64 (by omega) (by omega))).trans (Kp.below b70 (by omega))).trans (Kp.below b76 (by omega))).trans (Kp.below b79 (by omega))).trans (Kp.below b82 (by omega)))).cell 1
    have f86 : w17.cell? ⟨w3.heap.size, 2, none⟩ = some (.slice A13 rx0.length C13) := (K16.kp (((((((((((((Kp.below b23 (by omega)).trans (Kp.below b26 (by omega))).trans (Kp.below b30 (by omega))).trans (Kp.below b33 (by omega))).trans (Kp.below b40 (by omega))).trans (Kp.below b41e (by omega))).trans (Mk.kp m49 (by omega) (by omega))).trans (Kp.below b59 (by omega))).trans (Mk.kp m64 (by omega) (by omega))).trans (Kp.below b70 (by omega))).trans (Kp.below b76 (by omega))).trans (Kp.below b79 (by omega))).trans (Kp.below b82 (by omega)))).cell 2
    have f87 : w17.cell? ⟨w3.heap.size, 3, none⟩ = some (.slice RA13 ry0.length RC13) := (K16.kp (((((((((((((Kp.below b23 (by omega)).trans (Kp.below b26 (by omega))).trans (Kp.below b30 (by omega))).trans (Kp.below b33 (by omega))).trans (Kp.below b40 (by omega))).trans (Kp.below b41e (by omega))).trans (Mk.kp m49 (by omega) (by omega))).trans (Kp.below b59 (by omega))).trans (Mk.kp m64 (by omega) (by omega))).trans (Kp.below b70 (by omega))).trans (Kp.below b76 (by omega))).trans (Kp.below b79 (by omega))).trans (Kp.below b82 (by omega)))).cell 3
    rw [hP81] at f84 f85 f86 f87
    have HP88 := Lib.hid hP81
    clear hP81
    go_wp2_with fail
    rw [← HP88.out]
    refine (eqCode_any rp0 rd0 rp0 rd0 A80 A13 RA80 RA13 C80 C13 RC80 RC13 rx0 rx0 ry0 ry0 w17 (O80.kp (Kp.below b82 (by omega))).rd (Ho11.kp ((((((((((((((Kp.below b15 (by omega)).trans (Kp.below b23 (by omega))).trans (Kp.below b26 (by omega))).trans (Kp.below b30 (by omega))).trans (Kp.below b33 (by omega))).trans (Kp.below b40 (by omega))).trans (Kp.below b41e (by omega))).trans (Mk.kp m49 (by omega) (by omega))).trans (Kp.below b59 (by omega))).trans (Mk.kp m64 (by omega) (by omega))).trans (Kp.below b70 (by omega))).trans (Kp.below b76 (by omega))).trans (Kp.below b79 (by omega))).trans (Kp.below b82 (by omega)))) (O80.kp (Kp.below b82 (by omega))).rds (RRo11.kp ((((((((((((((Kp.below b15 (by omega)).trans (Kp.below b23 (by omega))).trans (Kp.below b26 (by omega))).trans (Kp.below b30 (by omega))).trans (Kp.below b33 (by omega))).trans (Kp.below b40 (by omega))).trans (Kp.below b41e (by omega))).trans (Mk.kp m49 (by omega) (by omega))).trans (Kp.below b59 (by omega))).trans (Mk.kp m64 (by omega) (by omega))).trans (Kp.below b70 (by omega))).trans (Kp.below b76 (by omega))).trans (Kp.below b79 (by omega))).trans (Kp.below b82 (by omega))))).mono ?_
    rintro e w18 ⟨rfl, b89⟩
    rw [sameC_self]
    clear f84 f85 f86 f87
    have z17 := b89.size
    have f90 : w18.cell? ⟨w7.heap.size, 0, none⟩ = some (.int .i64 rp0) := (K34.kp ((((((((((Kp.below b40 (by omega)).trans (Kp.below b41e (by omega))).trans (Mk.kp m49 (by omega) (by omega))).trans (Kp.below b59 (by omega))).trans (Mk.kp m64 (by omega) (by omega))).trans (Kp.below b70 (by omega))).trans (Kp.below b76 (by omega))).trans (Kp.below b79 (by omega))).trans (Kp.below b82 (by omega))).trans (Kp.below b89 (by omega)))).cell 0
    have f91 : w18.cell? ⟨w7.heap.size, 1, none⟩ = some (.int .i64 rd0) := (K34.kp ((((((((((Kp.below b40 (by omega)).trans (Kp.below b41e (by omega))).trans (Mk.kp m49 (by omega) (by omega))).trans (Kp.below b59 (by omega))).trans (Mk.kp m64 (by omega) (by omega))).trans (Kp.below b70 (by omega))).trans (Kp.below b76 (by omega))).trans (Kp.below b79 (by omega))).trans (Kp.below b82 (by omega))).trans (Kp.below b89 (by omega)))).cell 1
    have f92 : w18.cell? ⟨w7.heap.size, 2, none⟩ = some (.slice A31 rx0.length C31) := (K34.kp ((((((((((Kp.below b40 (by omega)).trans (Kp.below b41e (by omega))).trans (Mk.kp m49 (by omega) (by omega))).trans (Kp.below b59 (by omega))).trans (Mk.kp m64 (by omega) (by omega))).trans (Kp.below b70 (by omega))).trans (Kp.below b76 (by omega))).trans (Kp.below b79 (by omega))).trans (Kp.below b82 (by omega))).trans (Kp.below b89 (by omega)))).cell 2
    have f93 : w18.cell? ⟨w7.heap.size, 3, none⟩ = some (.slice RA31 ry0.length RC31) := (K34.kp ((((((((((Kp.below b40 (by omega)).trans (Kp.below b41e (by omega))).trans (Mk.kp m49 (by omega) (by omega))).trans (Kp.below b59 (by omega))).trans (Mk.kp m64 (by omega) (by omega))).trans (Kp.below b70 (by omega))).trans (Kp.below b76 (by omega))).trans (Kp.below b79 (by omega))).trans (Kp.below b82 (by omega))).trans (Kp.below b89 (by omega)))).cell 3
    go_wp2_with fail
    refine (heldCode_any rp0 rd0 A31 RA31 rx0.length ry0.length C31 RC31 1 (ry0.map List.length) w18 (by simp) (o65.kp (((((Kp.below b70 (by omega)).trans (Kp.below b76 (by omega))).trans (Kp.below b79 (by omega))).trans (Kp.below b82 (by omega))).trans (Kp.below b89 (by omega)))).rd (o65.kp (((((Kp.below b70 (by omega)).trans (Kp.below b76 (by omega))).trans (Kp.below b79 (by omega))).trans (Kp.below b82 (by omega))).trans (Kp.below b89 (by omega)))).rds (by omega) (by omega)).mono ?_
    rintro e w19 ⟨rfl, b94⟩
    clear f90 f91 f92 f93
    have z18 := b94.size
    go_wp2
    go_ret
    exact ⟨rfl, (((((((((((((((((((hb0.trans (b3.mono (by omega))).trans (b9.mono (by omega))).trans (b12.mono (by omega))).trans (b15.mono (by omega))).trans (b23.mono (by omega))).trans (b26.mono (by omega))).trans (b30.mono (by omega))).trans (b33.mono (by omega))).trans (b40.mono (by omega))).trans (b41e.mono (by omega))).trans (m49.1.mono (by omega))).trans (b59.mono (by omega))).trans (m64.1.mono (by omega))).trans (b70.mono (by omega))).trans (b76.mono (by omega))).trans (b79.mono (by omega))).trans (b82.mono (by omega))).trans (b89.mono (by omega))).trans (b94.mono (by omega)))⟩
  · rw [left_no g0]
    go_wp2
    go_ret
    exact ⟨rfl, (hb0.trans (b3.mono (by omega)))⟩

theorem law_FnExactShortenCode (X0 : COD) (n1 : Int) (w : World) (e0 : X0.ok w) (_ : I64 n1) :
    Calls Try.prog 7 #[X0.val, .int .i64 n1] w fun e w' => e = .returned (.bool true) ∧ Below w.heap.size w w' :=
  lawShortenCode X0.p X0.d X0.l.a X0.l.c X0.l.xs X0.r.a X0.r.c X0.r.xss n1 w e0.2.2.1.1 e0.2.2.1.2.1 e0.2.2.2.1 e0.2.2.2.2.1 e0.2.1

namespace fnExactShortenCode
open Go.ChangeShapes Go.WideShapes Go.ChangeAt

set_option maxRecDepth 100000 in
set_option maxHeartbeats 800000 in
theorem lifted (os : Os) (started : os.Started) (H : Type) (enc : TypeId × Value → H) :
    ReturnsInHanded {} Try.checked os 7 .any (Rows.fnExactShortenCodeSpec.pre6 enc Try.prog Try.f7 Rows.fnExactShortenCodeRow.domain false) (Rows.fnExactShortenCodeSpec.post enc Try.prog Try.f7 false true false false) := by
  refine returnsInHanded_of_change (C := Try.checked) ownKnob_none started (by kernel_rfl) Try.func7
    (ChangeSpec.witness6 (enc := enc) (C := Try.checked) false ⟨#[], #[.agg #[.int .i64 0, .int .i64 0, .slice none 0 0, .slice none 0 0], .int .i64 0], []⟩ 8 (by kernel_rfl) (by kernel_rfl) (by kernel_rfl) (by kernel_rfl)) ?_
  intro W base args ds gs before hval0 hW _ _
  have hval : ∀ (j : Nat) t v, Try.f7.params[j]? = some t → args[j]? = some v → Value.okWide Try.prog W .any base t v := hval0
  have hW' := hW
  obtain ⟨p, q, hA0, hV, rfl, hfz, hnd⟩ := hW
  have hA : DataW.TrodAll enc Try.prog W 0 (fun _ => true) true Try.f7.params.toList args.toList ds p := hA0
  rw [Try.params7] at hA hval
  obtain ⟨v0, vs0, d0, ds0, p0, q0, hargs, rfl, rfl, h0, r0⟩ := trodAll_cons hA
  obtain ⟨v1, vs1, d1, ds1, p1, q1, rfl, rfl, rfl, h1, r1⟩ := trodAll_cons r0
  obtain ⟨rfl, rfl, rfl⟩ := trodAll_nil r1
  obtain rfl : args = #[v0, v1] := by cases args; simp_all
  obtain ⟨rfl, rfl⟩ := trodVars_none hV
  have k0 := h0
  have lt0 : ∀ x ∈ p0, x.block < W.heap.size := by obtain ⟨m, hm⟩ := k0; exact DataW.trod_lt m _ _ _ hm
  obtain ⟨X0, rfl, e0⟩ := open_cod (hval 0 27 v0 rfl rfl) h0
  have k1 := h1
  have lt1 : ∀ x ∈ p1, x.block < W.heap.size := by obtain ⟨m, hm⟩ := k1; exact DataW.trod_lt m _ _ _ hm
  obtain ⟨a1, rfl, e1⟩ := open_i64 (hval 1 2 v1 rfl rfl) h1
  clear hA0 hval0
  refine (law_FnExactShortenCode X0  a1 W e0 e1).mono fun e W' ⟨he, bel⟩ => ?_
  subst he
  exact ⟨_, rfl, _, _, _, [], _, [], hW', trodAll_mk1 (shut_bool Try.underlying4 _), (trodAll_cons_mk (Below.trod laidOut_ok (by kernel_rfl) (of_decide_eq_true (by kernel_rfl)) k0 bel lt0) (trodAll_cons_mk (Below.trod laidOut_ok (by kernel_rfl) (of_decide_eq_true (by kernel_rfl)) k1 bel lt1) trodAll_mk0)), rfl, bel.frame _, fun h => by cases h⟩

theorem over : Rows.fnExactShortenCodeRow.holds Try.pinned (OpenSpec.ofChange Rows.fnExactShortenCodeSpec) :=
  OpenClaim.holds_of_wide 7 Try.f7 rfl rfl rfl rfl rfl rfl rfl ⟨rfl, rfl, rfl, rfl, rfl⟩ rfl rfl rfl rfl rfl (by kernel_rfl) Try.func7 (by kernel_rfl)
    (of_decide_eq_true (by kernel_rfl)) (by unfold Func.isWrapper; first | (rw [if_pos (by decide +kernel)]; kernel_rfl) | (rw [if_neg (by decide +kernel)]; exact ⟨rfl, rfl⟩))
    (fun os started H enc _ => lifted os started H enc)

theorem proved : Rows.FnExactShortenCodeSaid := over
#print axioms proved
end fnExactShortenCode
end Go.Proofs.Ytcblhjhabhjbkaa

