/-
  Proved: FnExactMakeCode returns true for every input and leaves its arguments as they were. No condition. Printed by gen_law2.py.
-/
import Derived.BigQuiet
import Derived.BigRegion
import Derived.ChangeOld
import Derived.Deep.DeepCutAuto
import Derived.Deep.DeepMust
import Derived.Deep.DrawnRows
import Derived.Deep.Draws
import Derived.Deep.Matrix
import Derived.Deep.OwnRows
import Derived.Deep.QuietTactic
import Derived.Deep.RegionHeld3
import Derived.Deep.Slices
import Derived.Deep.Strs
import Derived.IntWalk
import Derived.Laws.Rows
import Derived.Lib.Hide
import Derived.Lib.SmallJoins
import Derived.Maps.AppendAt
import Derived.OpenShut
import Derived.OwnWalk
import Derived.ProofKit
import Derived.ShutString
import Derived.StillTailTactics
import Derived.Test.YtkbppgpegljcoaaProg
import Derived.Test.YtkbppgpegljcoaaRows
import Derived.WalkKit
import Derived.WalkLawsBesides
import Derived.WalkSpells
import Derived.Test.YtkbppgpegljcoaaZ6
import Derived.Test.YtkbppgpegljcoaaZ16
import Derived.Test.YtkbppgpegljcoaaZ22
set_option linter.unusedVariables false
set_option linter.unusedSimpArgs false
namespace Go.Proofs.Ytkbppgpegljcoaa
open Go.RowKit
attribute [local go_sem ↓] Go.wp_at_zero Go.wp_at_succ

theorem dec_self {α : Type} [DecidableEq α] (xs : α) : decide (xs = xs) = true := by simp
set_option maxRecDepth 100000 in
set_option maxHeartbeats 4000000 in
theorem lawMakeCode (p0 : Int) (d0 : Int) (a0 : Option Addr) (c0 : Nat) (xs0 : List Int) (ra1 : Option Addr) (rc1 : Nat) (xss1 : List (List Int)) (w : World) (l0 : xs0.length ≤ maxLen) (h0 : xs0.length ≤ 1048576 → Rd w a0 xs0) (ed0 : I64 d0) (m1 : Lens w ra1 (xss1.map List.length)) (y1 : total (xss1.map List.length) ≤ 1048576 → RdS w ra1 xss1) :
    Calls Try.prog 9 #[.agg #[.int .i64 p0, .int .i64 d0, .slice a0 xs0.length c0], .slice ra1 xss1.length rc1] w fun e w' => e = .returned (.bool true) ∧ Below w.heap.size w w' := by
  obtain ⟨rp0, rd0, rx0, ry0, r1, hR⟩ : ∃ rp0 rd0 rx0 ry0 r1, (mkRes p0 d0 xs0 xss1) = (rp0, rd0, rx0, ry0, r1) := ⟨_, _, _, _, _, rfl⟩
  have hsp := fun a0' c0' ra1' rc1' W h0' r1' => specMC_any p0 d0 a0' c0' xs0 ra1' rc1' xss1 W h0' r1'  
  rw [hR] at hsp
  have HSP := hide hsp
  clear hsp
  have him := fun a0' c0' ra1' rc1' W h0' r1' => implMC_any p0 d0 a0' c0' xs0 ra1' rc1' xss1 W h0' r1'  ed0
  rw [hR] at him
  have HIM := hide him
  clear him
  clear hR
  obtain ⟨w0, hw0⟩ : ∃ z, z = (w.alloc (.cells #[.int .i64 p0, .int .i64 d0, .slice a0 xs0.length c0] 35)) := ⟨_, rfl⟩
  have hb0 : Below w.heap.size w w0 := by rw [hw0]; exact ((Below.refl _ _).alloc (Nat.le_refl _) _)
  have kA0 : Blk w0 w.heap.size 35 #[.int .i64 p0, .int .i64 d0, .slice a0 xs0.length c0] := by rw [hw0]; exact (Blk.new _ _ _ rfl)
  have zb : w.heap.size + 1 ≤ w0.heap.size := by rw [hw0]; simp
  go_enter Try.func9, Try.ntmps9
  have zz := szField_any p0 d0 a0 xs0.length c0 (1048576) w0 l0 (by omega) (by omega)
  have Z1 := hide zz
  clear zz
  have HP2 := Lib.hid hw0
  clear hw0
  go_wp2_with fail
  rw [← HP2.out]
  refine (unhide Z1).mono ?_
  rintro e w1 ⟨rfl, b3⟩
  have z0 := b3.size
  by_cases g0 : ((xs0.length : Nat) : Int) ≤ 1048576
  · rw [left_yes g0]
    have e1 : (xss1.map List.length).length = xss1.length := by simp
    have zz := szInt64SS_any ra1 rc1 (xss1.map List.length) (1048576 - ((xs0.length : Nat) : Int)) w1 (m1.below (hb0.trans (b3.mono (by omega)))) (by omega) (by omega)
    rw [e1] at zz
    have Z4 := hide zz
    clear zz e1
    go_wp2_with fail
    refine (unhide Z4).mono ?_
    rintro e w2 ⟨rfl, b5'⟩
    have b5 : Below w1.heap.size w1 w2 := by rw [← b5']; exact Below.refl _ _
    clear b5'
    have z1 := b5.size
    by_cases g1 : ((total (xss1.map List.length) : Nat) : Int) ≤ 1048576 - ((xs0.length : Nat) : Int)
    · rw [left_yes g1]
      have H0 := (h0 (by omega)).below hb0
      have RR1 := (y1 (by omega)).below hb0
      clear l0 h0  m1 y1
      have f6 : w2.cell? ⟨w.heap.size, 0, none⟩ = some (.int .i64 p0) := (kA0.kp ((Kp.below b3 (by omega)).trans (Kp.below b5 (by omega)))).cell 0
      have f7 : w2.cell? ⟨w.heap.size, 1, none⟩ = some (.int .i64 d0) := (kA0.kp ((Kp.below b3 (by omega)).trans (Kp.below b5 (by omega)))).cell 1
      have f8 : w2.cell? ⟨w.heap.size, 2, none⟩ = some (.slice a0 xs0.length c0) := (kA0.kp ((Kp.below b3 (by omega)).trans (Kp.below b5 (by omega)))).cell 2
      go_wp2_with fail
      refine (toField_any p0 d0 a0 c0 xs0 w2 (H0.kp ((Kp.below b3 (by omega)).trans (Kp.below b5 (by omega))))).mono ?_
      rintro e w3 ⟨to9, rfl, o9, b10⟩
      clear f6 f7 f8
      have z2 := b10.size
      obtain ⟨A11, C11, rfl, _, _⟩ := o9.form
      have O11 := o9.toH
      clear o9
      go_wp2_with fail
      refine (toInt64SS_any ra1 rc1 xss1 w3 (RR1.kp (((Kp.below b3 (by omega)).trans (Kp.below b5 (by omega))).trans (Kp.below b10 (by omega))))).mono ?_
      rintro e w4 ⟨to12, rfl, o12, b13⟩
      have z3 := b13.size
      obtain ⟨RA14, RC14, rfl, _⟩ := o12.form
      have O14 := o12.toH
      clear o12
      go_wp2_with fail
      refine (unhide HSP A11 C11 RA14 RC14 w4 (O11.kp (Kp.below b13 (by omega))).rd O14.rd).mono ?_
      rintro e w5 ⟨to15, so15, rfl, o15, o15q, b16⟩
      have z4 := b16.size
      have o15 : Own w5 w4.heap.size to15 rx0 := o15
      have o15q : OwnS w5 w4.heap.size so15 ry0 := o15q
      obtain ⟨A17, C17, rfl, Ho15, _⟩ := o15.form
      obtain ⟨RA17, RC17, rfl, RRo15⟩ := o15q.form
      clear o15 o15q
      obtain ⟨w6, hP18⟩ : ∃ z, z = w5.alloc (.cells #[.int .i64 rp0, .int .i64 rd0, .slice A17 rx0.length C17, .slice RA17 ry0.length RC17] 43) := ⟨_, rfl⟩
      have b19 : Below w5.heap.size w5 w6 := by rw [hP18]; exact (Below.refl _ _).alloc (Nat.le_refl _) _
      have K20 : Blk w6 w5.heap.size 43 #[.int .i64 rp0, .int .i64 rd0, .slice A17 rx0.length C17, .slice RA17 ry0.length RC17] := by rw [hP18]; exact Blk.new _ _ _ rfl
      have zz5 : w5.heap.size + 1 ≤ w6.heap.size := K20.lt
      have z5 := b19.size
      have f21 : w6.cell? ⟨w.heap.size, 0, none⟩ = some (.int .i64 p0) := (kA0.kp ((((((Kp.below b3 (by omega)).trans (Kp.below b5 (by omega))).trans (Kp.below b10 (by omega))).trans (Kp.below b13 (by omega))).trans (Kp.below b16 (by omega))).trans (Kp.below b19 (by omega)))).cell 0
      have f22 : w6.cell? ⟨w.heap.size, 1, none⟩ = some (.int .i64 d0) := (kA0.kp ((((((Kp.below b3 (by omega)).trans (Kp.below b5 (by omega))).trans (Kp.below b10 (by omega))).trans (Kp.below b13 (by omega))).trans (Kp.below b16 (by omega))).trans (Kp.below b19 (by omega)))).cell 1
      have f23 : w6.cell? ⟨w.heap.size, 2, none⟩ = some (.slice a0 xs0.length c0) := (kA0.kp ((((((Kp.below b3 (by omega)).trans (Kp.below b5 (by omega))).trans (Kp.below b10 (by omega))).trans (Kp.below b13 (by omega))).trans (Kp.below b16 (by omega))).trans (Kp.below b19 (by omega)))).cell 2
      rw [hP18] at f21 f22 f23
      have HP24 := Lib.hid hP18
      clear hP18
      go_wp2_with fail
      rw [← HP24.out]
      refine (toField_any p0 d0 a0 c0 xs0 w6 (H0.kp ((((((Kp.below b3 (by omega)).trans (Kp.below b5 (by omega))).trans (Kp.below b10 (by omega))).trans (Kp.below b13 (by omega))).trans (Kp.below b16 (by omega))).trans (Kp.below b19 (by omega))))).mono ?_
      rintro e w7 ⟨to25, rfl, o25, b26⟩
      clear f21 f22 f23
      have z6 := b26.size
      obtain ⟨A27, C27, rfl, _, _⟩ := o25.form
      have O27 := o25.toH
      clear o25
      obtain ⟨w8, hP28⟩ : ∃ z, z = w7.alloc (.cells #[.int .i64 p0, .int .i64 d0, .slice A27 xs0.length C27] 41) := ⟨_, rfl⟩
      have b29 : Below w7.heap.size w7 w8 := by rw [hP28]; exact (Below.refl _ _).alloc (Nat.le_refl _) _
      have K30 : Blk w8 w7.heap.size 41 #[.int .i64 p0, .int .i64 d0, .slice A27 xs0.length C27] := by rw [hP28]; exact Blk.new _ _ _ rfl
      have zz7 : w7.heap.size + 1 ≤ w8.heap.size := K30.lt
      have z7 := b29.size
      have HP31 := Lib.hid hP28
      clear hP28
      go_wp2_with fail
      rw [← HP31.out]
      refine (toInt64SS_any ra1 rc1 xss1 w8 (RR1.kp ((((((((Kp.below b3 (by omega)).trans (Kp.below b5 (by omega))).trans (Kp.below b10 (by omega))).trans (Kp.below b13 (by omega))).trans (Kp.below b16 (by omega))).trans (Kp.below b19 (by omega))).trans (Kp.below b26 (by omega))).trans (Kp.below b29 (by omega))))).mono ?_
      rintro e w9 ⟨to32, rfl, o32, b33⟩
      have z8 := b33.size
      obtain ⟨RA34, RC34, rfl, _⟩ := o32.form
      have O34 := o32.toH
      clear o32
      have f35 : w9.cell? ⟨w7.heap.size, 0, none⟩ = some (.int .i64 p0) := (K30.kp (Kp.below b33 (by omega))).cell 0
      have f36 : w9.cell? ⟨w7.heap.size, 1, none⟩ = some (.int .i64 d0) := (K30.kp (Kp.below b33 (by omega))).cell 1
      have f37 : w9.cell? ⟨w7.heap.size, 2, none⟩ = some (.slice A27 xs0.length C27) := (K30.kp (Kp.below b33 (by omega))).cell 2
      go_wp2_with fail
      refine (unhide HIM A27 C27 RA34 RC34 w9 (O27.kp ((Kp.below b29 (by omega)).trans (Kp.below b33 (by omega)))).rd O34.rd).mono ?_
      rintro e w10 ⟨to38, so38, rfl, o38, b39⟩
      clear f35 f36 f37
      have z9 := b39.size
      have o38 : OwnC w10 w9.heap.size to38 so38 rx0 ry0 := o38
      obtain ⟨A40, C40, RA40, RC40, rfl, rfl, _, _⟩ := o38.form
      have O40 := o38.toH (by omega)
      clear o38
      obtain ⟨w11, hP41⟩ : ∃ z, z = w10.alloc (.cells #[.int .i64 rp0, .int .i64 rd0, .slice A40 rx0.length C40, .slice RA40 ry0.length RC40] 43) := ⟨_, rfl⟩
      have b42 : Below w10.heap.size w10 w11 := by rw [hP41]; exact (Below.refl _ _).alloc (Nat.le_refl _) _
      have K43 : Blk w11 w10.heap.size 43 #[.int .i64 rp0, .int .i64 rd0, .slice A40 rx0.length C40, .slice RA40 ry0.length RC40] := by rw [hP41]; exact Blk.new _ _ _ rfl
      have zz10 : w10.heap.size + 1 ≤ w11.heap.size := K43.lt
      have z10 := b42.size
      have f44 : w11.cell? ⟨w5.heap.size, 0, none⟩ = some (.int .i64 rp0) := (K20.kp (((((Kp.below b26 (by omega)).trans (Kp.below b29 (by omega))).trans (Kp.below b33 (by omega))).trans (Kp.below b39 (by omega))).trans (Kp.below b42 (by omega)))).cell 0
      have f45 : w11.cell? ⟨w5.heap.size, 1, none⟩ = some (.int .i64 rd0) := (K20.kp (((((Kp.below b26 (by omega)).trans (Kp.below b29 (by omega))).trans (Kp.below b33 (by omega))).trans (Kp.below b39 (by omega))).trans (Kp.below b42 (by omega)))).cell 1
      have f46 : w11.cell? ⟨w5.heap.size, 2, none⟩ = some (.slice A17 rx0.length C17) := (K20.kp (((((Kp.below b26 (by omega)).trans (Kp.below b29 (by omega))).trans (Kp.below b33 (by omega))).trans (Kp.below b39 (by omega))).trans (Kp.below b42 (by omega)))).cell 2
      have f47 : w11.cell? ⟨w5.heap.size, 3, none⟩ = some (.slice RA17 ry0.length RC17) := (K20.kp (((((Kp.below b26 (by omega)).trans (Kp.below b29 (by omega))).trans (Kp.below b33 (by omega))).trans (Kp.below b39 (by omega))).trans (Kp.below b42 (by omega)))).cell 3
      rw [hP41] at f44 f45 f46 f47
      have HP48 := Lib.hid hP41
      clear hP41
      go_wp2_with fail
      rw [← HP48.out]
      refine (eqCode_any rp0 rd0 rp0 rd0 A40 A17 RA40 RA17 C40 C17 RC40 RC17 rx0 rx0 ry0 ry0 w11 (O40.kp (Kp.below b42 (by omega))).rd (Ho15.kp ((((((Kp.below b19 (by omega)).trans (Kp.below b26 (by omega))).trans (Kp.below b29 (by omega))).trans (Kp.below b33 (by omega))).trans (Kp.below b39 (by omega))).trans (Kp.below b42 (by omega)))) (O40.kp (Kp.below b42 (by omega))).rds (RRo15.kp ((((((Kp.below b19 (by omega)).trans (Kp.below b26 (by omega))).trans (Kp.below b29 (by omega))).trans (Kp.below b33 (by omega))).trans (Kp.below b39 (by omega))).trans (Kp.below b42 (by omega))))).mono ?_
      rintro e w12 ⟨rfl, b49⟩
      rw [sameC_self]
      clear f44 f45 f46 f47
      have z11 := b49.size
      have Y50 := (O27.kp (((((Kp.below b29 (by omega)).trans (Kp.below b33 (by omega))).trans (Kp.below b39 (by omega))).trans (Kp.below b42 (by omega))).trans (Kp.below b49 (by omega)))).rd
      have X50h := (H0.kp ((((((((((((Kp.below b3 (by omega)).trans (Kp.below b5 (by omega))).trans (Kp.below b10 (by omega))).trans (Kp.below b13 (by omega))).trans (Kp.below b16 (by omega))).trans (Kp.below b19 (by omega))).trans (Kp.below b26 (by omega))).trans (Kp.below b29 (by omega))).trans (Kp.below b33 (by omega))).trans (Kp.below b39 (by omega))).trans (Kp.below b42 (by omega))).trans (Kp.below b49 (by omega))))
      have K51 := (K30.kp ((((Kp.below b33 (by omega)).trans (Kp.below b39 (by omega))).trans (Kp.below b42 (by omega))).trans (Kp.below b49 (by omega))))
      have K52 := (kA0.kp ((((((((((((Kp.below b3 (by omega)).trans (Kp.below b5 (by omega))).trans (Kp.below b10 (by omega))).trans (Kp.below b13 (by omega))).trans (Kp.below b16 (by omega))).trans (Kp.below b19 (by omega))).trans (Kp.below b26 (by omega))).trans (Kp.below b29 (by omega))).trans (Kp.below b33 (by omega))).trans (Kp.below b39 (by omega))).trans (Kp.below b42 (by omega))).trans (Kp.below b49 (by omega))))
      have BX53' : ∀ (W : World), Below w12.heap.size w12 W → (Below w12.heap.size w12 W ∧ W.cell? ⟨w7.heap.size, 0, none⟩ = some (.int .i64 p0) ∧ W.cell? ⟨w7.heap.size, 1, none⟩ = some (.int .i64 d0) ∧ W.cell? ⟨w7.heap.size, 2, none⟩ = some (.slice A27 xs0.length C27) ∧ W.cell? ⟨w.heap.size, 0, none⟩ = some (.int .i64 p0) ∧ W.cell? ⟨w.heap.size, 1, none⟩ = some (.int .i64 d0) ∧ W.cell? ⟨w.heap.size, 2, none⟩ = some (.slice a0 xs0.length c0)) := fun _ h => ⟨h, (K51.below h K51.lt).cell 0, (K51.below h K51.lt).cell 1, (K51.below h K51.lt).cell 2, (K52.below h K52.lt).cell 0, (K52.below h K52.lt).cell 1, (K52.below h K52.lt).cell 2⟩
      have BX53 := hide BX53'
      clear BX53'
      go_upto_region 14 with fail
      go_region_held3 (fun W => Below w12.heap.size w12 W ∧ W.cell? ⟨w7.heap.size, 0, none⟩ = some (.int .i64 p0) ∧ W.cell? ⟨w7.heap.size, 1, none⟩ = some (.int .i64 d0) ∧ W.cell? ⟨w7.heap.size, 2, none⟩ = some (.slice A27 xs0.length C27) ∧ W.cell? ⟨w.heap.size, 0, none⟩ = some (.int .i64 p0) ∧ W.cell? ⟨w.heap.size, 1, none⟩ = some (.int .i64 d0) ∧ W.cell? ⟨w.heap.size, 2, none⟩ = some (.slice a0 xs0.length c0))
        (first | exact (unhide BX53) _ (Below.refl _ _) | exact (unhide BX53) _ ((Below.refl _ _).drew) | exact (unhide BX53) _ (by assumption))
        (first
          | (go_at_call_of 37 (Value.slice a0 xs0.length c0); refine (toField_any p0 d0 a0 c0 xs0 _ ?_).mono ?_; exact X50h.below (And.left (by assumption)); rintro e W50 ⟨t50, rfl, o50, bb50⟩; obtain ⟨A50, C50, rfl, rr50, _⟩ := o50.form; have hB50 := Below.chain (a := w12) (And.left (by assumption)) bb50)
          | (go_at_call 40; refine (eqField_any p0 d0 p0 d0 A27 A50 C27 C50 xs0 xs0 _ (Y50.below hB50) rr50).mono ?_; rintro e w13 ⟨rfl, bc50⟩; have b50e := Below.chain hB50 bc50; rw [sameF_self]))
      clear BX53
      have z12 := b50e.size
      go_wp2_with fail
      refine (toInt64SS_any ra1 rc1 xss1 w13 (RR1.kp (((((((((((((Kp.below b3 (by omega)).trans (Kp.below b5 (by omega))).trans (Kp.below b10 (by omega))).trans (Kp.below b13 (by omega))).trans (Kp.below b16 (by omega))).trans (Kp.below b19 (by omega))).trans (Kp.below b26 (by omega))).trans (Kp.below b29 (by omega))).trans (Kp.below b33 (by omega))).trans (Kp.below b39 (by omega))).trans (Kp.below b42 (by omega))).trans (Kp.below b49 (by omega))).trans (Kp.below b50e (by omega))))).mono ?_
      rintro e w14 ⟨to54, rfl, o54, b55⟩
      have z13 := b55.size
      obtain ⟨RA56, RC56, rfl, _⟩ := o54.form
      have O56 := o54.toH
      clear o54
      go_wp2_with fail
      refine (eqInt64SS_any RA34 RA56 RC34 RC56 xss1 xss1 w14 (O34.kp (((((Kp.below b39 (by omega)).trans (Kp.below b42 (by omega))).trans (Kp.below b49 (by omega))).trans (Kp.below b50e (by omega))).trans (Kp.below b55 (by omega)))).rd O56.rd).mono ?_
      rintro e w15 ⟨rfl, b57'⟩
      have b57 := b57'.below w14.heap.size
      clear b57'
      rw [dec_self]
      have z14 := b57.size
      have bdO27 : xs0.length ≤ 1073741824 := O27.1.1
      have bdO34 : (xss1.map List.length).sum ≤ 1152921504606846976 := O34.sum
      have bdO40 : rx0.length ≤ 1073741824 := O40.len
      have beO40 : (ry0.map List.length).sum ≤ 1152921504606846976 := O40.sum
      have f58 : w15.cell? ⟨w7.heap.size, 0, none⟩ = some (.int .i64 p0) := (K30.kp (((((((Kp.below b33 (by omega)).trans (Kp.below b39 (by omega))).trans (Kp.below b42 (by omega))).trans (Kp.below b49 (by omega))).trans (Kp.below b50e (by omega))).trans (Kp.below b55 (by omega))).trans (Kp.below b57 (by omega)))).cell 0
      have f59 : w15.cell? ⟨w7.heap.size, 1, none⟩ = some (.int .i64 d0) := (K30.kp (((((((Kp.below b33 (by omega)).trans (Kp.below b39 (by omega))).trans (Kp.below b42 (by omega))).trans (Kp.below b49 (by omega))).trans (Kp.below b50e (by omega))).trans (Kp.below b55 (by omega))).trans (Kp.below b57 (by omega)))).cell 1
      have f60 : w15.cell? ⟨w7.heap.size, 2, none⟩ = some (.slice A27 xs0.length C27) := (K30.kp (((((((Kp.below b33 (by omega)).trans (Kp.below b39 (by omega))).trans (Kp.below b42 (by omega))).trans (Kp.below b49 (by omega))).trans (Kp.below b50e (by omega))).trans (Kp.below b55 (by omega))).trans (Kp.below b57 (by omega)))).cell 2
      go_wp2_with fail
      refine (markField_any w6.heap.size w7.heap.size p0 d0 A27 xs0.length C27 (1) xs0 w15 rfl (O27.kp ((((((((Kp.below b29 (by omega)).trans (Kp.below b33 (by omega))).trans (Kp.below b39 (by omega))).trans (Kp.below b42 (by omega))).trans (Kp.below b49 (by omega))).trans (Kp.below b50e (by omega))).trans (Kp.below b55 (by omega))).trans (Kp.below b57 (by omega)))) (by omega) (by omega) (by omega) (by omega)).mono ?_
      rintro e w16 ⟨rfl, o62, m61⟩
      clear f58 f59 f60
      have z15 := m61.size
      go_wp2_with fail
      refine (markSS_any w8.heap.size w9.heap.size RA34 xss1.length RC34 (1 + (xs0.length : Int)) xss1 w16 rfl (O34.kp (((((((Kp.below b39 (by omega)).trans (Kp.below b42 (by omega))).trans (Kp.below b49 (by omega))).trans (Kp.below b50e (by omega))).trans (Kp.below b55 (by omega))).trans (Kp.below b57 (by omega))).trans (Mk.kp m61 (by omega) (by omega)))) (by omega) (by omega) (by omega)).mono ?_
      rintro e w17 ⟨rfl, o64, m63⟩
      have z16 := m63.size
      have kn1 : decide (1 + (xs0.length : Int) + (((xss1.map List.length).sum : Nat) : Int) < 0) = false := by rw [decide_eq_false_iff_not]; omega
      have kn2 : 0 ≤ 1 + (xs0.length : Int) + (((xss1.map List.length).sum : Nat) : Int) := by omega
      have f65 : w17.cell? ⟨w10.heap.size, 0, none⟩ = some (.int .i64 rp0) := (K43.kp ((((((Kp.below b49 (by omega)).trans (Kp.below b50e (by omega))).trans (Kp.below b55 (by omega))).trans (Kp.below b57 (by omega))).trans (Mk.kp m61 (by omega) (by omega))).trans (Mk.kp m63 (by omega) (by omega)))).cell 0
      have f66 : w17.cell? ⟨w10.heap.size, 1, none⟩ = some (.int .i64 rd0) := (K43.kp ((((((Kp.below b49 (by omega)).trans (Kp.below b50e (by omega))).trans (Kp.below b55 (by omega))).trans (Kp.below b57 (by omega))).trans (Mk.kp m61 (by omega) (by omega))).trans (Mk.kp m63 (by omega) (by omega)))).cell 1
      have f67 : w17.cell? ⟨w10.heap.size, 2, none⟩ = some (.slice A40 rx0.length C40) := (K43.kp ((((((Kp.below b49 (by omega)).trans (Kp.below b50e (by omega))).trans (Kp.below b55 (by omega))).trans (Kp.below b57 (by omega))).trans (Mk.kp m61 (by omega) (by omega))).trans (Mk.kp m63 (by omega) (by omega)))).cell 2
      have f68 : w17.cell? ⟨w10.heap.size, 3, none⟩ = some (.slice RA40 ry0.length RC40) := (K43.kp ((((((Kp.below b49 (by omega)).trans (Kp.below b50e (by omega))).trans (Kp.below b55 (by omega))).trans (Kp.below b57 (by omega))).trans (Mk.kp m61 (by omega) (by omega))).trans (Mk.kp m63 (by omega) (by omega)))).cell 3
      have f69 : w17.cell? ⟨w5.heap.size, 0, none⟩ = some (.int .i64 rp0) := (K20.kp (((((((((((Kp.below b26 (by omega)).trans (Kp.below b29 (by omega))).trans (Kp.below b33 (by omega))).trans (Kp.below b39 (by omega))).trans (Kp.below b42 (by omega))).trans (Kp.below b49 (by omega))).trans (Kp.below b50e (by omega))).trans (Kp.below b55 (by omega))).trans (Kp.below b57 (by omega))).trans (Mk.kp m61 (by omega) (by omega))).trans (Mk.kp m63 (by omega) (by omega)))).cell 0
      have f70 : w17.cell? ⟨w5.heap.size, 1, none⟩ = some (.int .i64 rd0) := (K20.kp (((((((((((Kp.below b26 (by omega)).trans (Kp.below b29 (by omega))).trans (Kp.below b33 (by omega))).trans (Kp.below b39 (by omega))).trans (Kp.below b42 (by omega))).trans (Kp.below b49 (by omega))).trans (Kp.below b50e (by omega))).trans (Kp.below b55 (by omega))).trans (Kp.below b57 (by omega))).trans (Mk.kp m61 (by omega) (by omega))).trans (Mk.kp m63 (by omega) (by omega)))).cell 1
      have f71 : w17.cell? ⟨w5.heap.size, 2, none⟩ = some (.slice A17 rx0.length C17) := (K20.kp (((((((((((Kp.below b26 (by omega)).trans (Kp.below b29 (by omega))).trans (Kp.below b33 (by omega))).trans (Kp.below b39 (by omega))).trans (Kp.below b42 (by omega))).trans (Kp.below b49 (by omega))).trans (Kp.below b50e (by omega))).trans (Kp.below b55 (by omega))).trans (Kp.below b57 (by omega))).trans (Mk.kp m61 (by omega) (by omega))).trans (Mk.kp m63 (by omega) (by omega)))).cell 2
      have f72 : w17.cell? ⟨w5.heap.size, 3, none⟩ = some (.slice RA17 ry0.length RC17) := (K20.kp (((((((((((Kp.below b26 (by omega)).trans (Kp.below b29 (by omega))).trans (Kp.below b33 (by omega))).trans (Kp.below b39 (by omega))).trans (Kp.below b42 (by omega))).trans (Kp.below b49 (by omega))).trans (Kp.below b50e (by omega))).trans (Kp.below b55 (by omega))).trans (Kp.below b57 (by omega))).trans (Mk.kp m61 (by omega) (by omega))).trans (Mk.kp m63 (by omega) (by omega)))).cell 3
      go_wp2_with fail
      refine (eqCode_any rp0 rd0 rp0 rd0 A40 A17 RA40 RA17 C40 C17 RC40 RC17 rx0 rx0 ry0 ry0 w17 (O40.kp (((((((Kp.below b42 (by omega)).trans (Kp.below b49 (by omega))).trans (Kp.below b50e (by omega))).trans (Kp.below b55 (by omega))).trans (Kp.below b57 (by omega))).trans (Mk.kp m61 (by omega) (by omega))).trans (Mk.kp m63 (by omega) (by omega)))).rd (Ho15.kp ((((((((((((Kp.below b19 (by omega)).trans (Kp.below b26 (by omega))).trans (Kp.below b29 (by omega))).trans (Kp.below b33 (by omega))).trans (Kp.below b39 (by omega))).trans (Kp.below b42 (by omega))).trans (Kp.below b49 (by omega))).trans (Kp.below b50e (by omega))).trans (Kp.below b55 (by omega))).trans (Kp.below b57 (by omega))).trans (Mk.kp m61 (by omega) (by omega))).trans (Mk.kp m63 (by omega) (by omega)))) (O40.kp (((((((Kp.below b42 (by omega)).trans (Kp.below b49 (by omega))).trans (Kp.below b50e (by omega))).trans (Kp.below b55 (by omega))).trans (Kp.below b57 (by omega))).trans (Mk.kp m61 (by omega) (by omega))).trans (Mk.kp m63 (by omega) (by omega)))).rds (RRo15.kp ((((((((((((Kp.below b19 (by omega)).trans (Kp.below b26 (by omega))).trans (Kp.below b29 (by omega))).trans (Kp.below b33 (by omega))).trans (Kp.below b39 (by omega))).trans (Kp.below b42 (by omega))).trans (Kp.below b49 (by omega))).trans (Kp.below b50e (by omega))).trans (Kp.below b55 (by omega))).trans (Kp.below b57 (by omega))).trans (Mk.kp m61 (by omega) (by omega))).trans (Mk.kp m63 (by omega) (by omega))))).mono ?_
      rintro e w18 ⟨rfl, b73⟩
      rw [sameC_self]
      clear f65 f66 f67 f68 f69 f70 f71 f72
      have z17 := b73.size
      have f74 : w18.cell? ⟨w10.heap.size, 0, none⟩ = some (.int .i64 rp0) := (K43.kp (((((((Kp.below b49 (by omega)).trans (Kp.below b50e (by omega))).trans (Kp.below b55 (by omega))).trans (Kp.below b57 (by omega))).trans (Mk.kp m61 (by omega) (by omega))).trans (Mk.kp m63 (by omega) (by omega))).trans (Kp.below b73 (by omega)))).cell 0
      have f75 : w18.cell? ⟨w10.heap.size, 1, none⟩ = some (.int .i64 rd0) := (K43.kp (((((((Kp.below b49 (by omega)).trans (Kp.below b50e (by omega))).trans (Kp.below b55 (by omega))).trans (Kp.below b57 (by omega))).trans (Mk.kp m61 (by omega) (by omega))).trans (Mk.kp m63 (by omega) (by omega))).trans (Kp.below b73 (by omega)))).cell 1
      have f76 : w18.cell? ⟨w10.heap.size, 2, none⟩ = some (.slice A40 rx0.length C40) := (K43.kp (((((((Kp.below b49 (by omega)).trans (Kp.below b50e (by omega))).trans (Kp.below b55 (by omega))).trans (Kp.below b57 (by omega))).trans (Mk.kp m61 (by omega) (by omega))).trans (Mk.kp m63 (by omega) (by omega))).trans (Kp.below b73 (by omega)))).cell 2
      have f77 : w18.cell? ⟨w10.heap.size, 3, none⟩ = some (.slice RA40 ry0.length RC40) := (K43.kp (((((((Kp.below b49 (by omega)).trans (Kp.below b50e (by omega))).trans (Kp.below b55 (by omega))).trans (Kp.below b57 (by omega))).trans (Mk.kp m61 (by omega) (by omega))).trans (Mk.kp m63 (by omega) (by omega))).trans (Kp.below b73 (by omega)))).cell 3
      go_wp2_with fail
      refine (markCode_any w9.heap.size w10.heap.size rp0 rd0 A40 RA40 rx0.length ry0.length C40 RC40 (1) rx0 ry0 w18 rfl rfl (O40.kp ((((((((Kp.below b42 (by omega)).trans (Kp.below b49 (by omega))).trans (Kp.below b50e (by omega))).trans (Kp.below b55 (by omega))).trans (Kp.below b57 (by omega))).trans (Mk.kp m61 (by omega) (by omega))).trans (Mk.kp m63 (by omega) (by omega))).trans (Kp.below b73 (by omega)))) (by omega) (by omega) (by omega) (by omega)).mono ?_
      rintro e w19 ⟨rfl, o79, m78⟩
      clear f74 f75 f76 f77
      have z18 := m78.size
      have kn3 : decide (1 + (rx0.length : Int) + (((ry0.map List.length).sum : Nat) : Int) < 0) = false := by rw [decide_eq_false_iff_not]; omega
      have kn4 : 0 ≤ 1 + (rx0.length : Int) + (((ry0.map List.length).sum : Nat) : Int) := by omega
      have kn5 : (1 + (rx0.length : Int) + (((ry0.map List.length).sum : Nat) : Int) != 1 + (rx0.length : Int) + (((ry0.map List.length).sum : Nat) : Int)) = false := by simp
      have f80 : w19.cell? ⟨w10.heap.size, 0, none⟩ = some (.int .i64 rp0) := (K43.kp ((((((((Kp.below b49 (by omega)).trans (Kp.below b50e (by omega))).trans (Kp.below b55 (by omega))).trans (Kp.below b57 (by omega))).trans (Mk.kp m61 (by omega) (by omega))).trans (Mk.kp m63 (by omega) (by omega))).trans (Kp.below b73 (by omega))).trans (Mk.kp m78 (by omega) (by omega)))).cell 0
      have f81 : w19.cell? ⟨w10.heap.size, 1, none⟩ = some (.int .i64 rd0) := (K43.kp ((((((((Kp.below b49 (by omega)).trans (Kp.below b50e (by omega))).trans (Kp.below b55 (by omega))).trans (Kp.below b57 (by omega))).trans (Mk.kp m61 (by omega) (by omega))).trans (Mk.kp m63 (by omega) (by omega))).trans (Kp.below b73 (by omega))).trans (Mk.kp m78 (by omega) (by omega)))).cell 1
      have f82 : w19.cell? ⟨w10.heap.size, 2, none⟩ = some (.slice A40 rx0.length C40) := (K43.kp ((((((((Kp.below b49 (by omega)).trans (Kp.below b50e (by omega))).trans (Kp.below b55 (by omega))).trans (Kp.below b57 (by omega))).trans (Mk.kp m61 (by omega) (by omega))).trans (Mk.kp m63 (by omega) (by omega))).trans (Kp.below b73 (by omega))).trans (Mk.kp m78 (by omega) (by omega)))).cell 2
      have f83 : w19.cell? ⟨w10.heap.size, 3, none⟩ = some (.slice RA40 ry0.length RC40) := (K43.kp ((((((((Kp.below b49 (by omega)).trans (Kp.below b50e (by omega))).trans (Kp.below b55 (by omega))).trans (Kp.below b57 (by omega))).trans (Mk.kp m61 (by omega) (by omega))).trans (Mk.kp m63 (by omega) (by omega))).trans (Kp.below b73 (by omega))).trans (Mk.kp m78 (by omega) (by omega)))).cell 3
      go_wp2_with fail
      refine (heldCode_any rp0 rd0 A40 RA40 rx0.length ry0.length C40 RC40 1 (ry0.map List.length) w19 (by simp) o79.rd o79.rds (by omega) (by omega)).mono ?_
      rintro e w20 ⟨rfl, b84⟩
      clear f80 f81 f82 f83
      have z19 := b84.size
      have f85 : w20.cell? ⟨w.heap.size, 0, none⟩ = some (.int .i64 p0) := (kA0.kp ((((((((((((((((((((Kp.below b3 (by omega)).trans (Kp.below b5 (by omega))).trans (Kp.below b10 (by omega))).trans (Kp.below b13 (by omega))).trans (Kp.below b16 (by omega))).trans (Kp.below b19 (by omega))).trans (Kp.below b26 (by omega))).trans (Kp.below b29 (by omega))).trans (Kp.below b33 (by omega))).trans (Kp.below b39 (by omega))).trans (Kp.below b42 (by omega))).trans (Kp.below b49 (by omega))).trans (Kp.below b50e (by omega))).trans (Kp.below b55 (by omega))).trans (Kp.below b57 (by omega))).trans (Mk.kp m61 (by omega) (by omega))).trans (Mk.kp m63 (by omega) (by omega))).trans (Kp.below b73 (by omega))).trans (Mk.kp m78 (by omega) (by omega))).trans (Kp.below b84 (by omega)))).cell 0
      have f86 : w20.cell? ⟨w.heap.size, 1, none⟩ = some (.int .i64 d0) := (kA0.kp ((((((((((((((((((((Kp.below b3 (by omega)).trans (Kp.below b5 (by omega))).trans (Kp.below b10 (by omega))).trans (Kp.below b13 (by omega))).trans (Kp.below b16 (by omega))).trans (Kp.below b19 (by omega))).trans (Kp.below b26 (by omega))).trans (Kp.below b29 (by omega))).trans (Kp.below b33 (by omega))).trans (Kp.below b39 (by omega))).trans (Kp.below b42 (by omega))).trans (Kp.below b49 (by omega))).trans (Kp.below b50e (by omega))).trans (Kp.below b55 (by omega))).trans (Kp.below b57 (by omega))).trans (Mk.kp m61 (by omega) (by omega))).trans (Mk.kp m63 (by omega) (by omega))).trans (Kp.below b73 (by omega))).trans (Mk.kp m78 (by omega) (by omega))).trans (Kp.below b84 (by omega)))).cell 1
      have f87 : w20.cell? ⟨w.heap.size, 2, none⟩ = some (.slice a0 xs0.length c0) := (kA0.kp ((((((((((((((((((((Kp.below b3 (by omega)).trans (Kp.below b5 (by omega))).trans (Kp.below b10 (by omega))).trans (Kp.below b13 (by omega))).trans (Kp.below b16 (by omega))).trans (Kp.below b19 (by omega))).trans (Kp.below b26 (by omega))).trans (Kp.below b29 (by omega))).trans (Kp.below b33 (by omega))).trans (Kp.below b39 (by omega))).trans (Kp.below b42 (by omega))).trans (Kp.below b49 (by omega))).trans (Kp.below b50e (by omega))).trans (Kp.below b55 (by omega))).trans (Kp.below b57 (by omega))).trans (Mk.kp m61 (by omega) (by omega))).trans (Mk.kp m63 (by omega) (by omega))).trans (Kp.below b73 (by omega))).trans (Mk.kp m78 (by omega) (by omega))).trans (Kp.below b84 (by omega)))).cell 2
      go_wp2_with fail
      refine (toField_any p0 d0 a0 c0 xs0 w20 (H0.kp ((((((((((((((((((((Kp.below b3 (by omega)).trans (Kp.below b5 (by omega))).trans (Kp.below b10 (by omega))).trans (Kp.below b13 (by omega))).trans (Kp.below b16 (by omega))).trans (Kp.below b19 (by omega))).trans (Kp.below b26 (by omega))).trans (Kp.below b29 (by omega))).trans (Kp.below b33 (by omega))).trans (Kp.below b39 (by omega))).trans (Kp.below b42 (by omega))).trans (Kp.below b49 (by omega))).trans (Kp.below b50e (by omega))).trans (Kp.below b55 (by omega))).trans (Kp.below b57 (by omega))).trans (Mk.kp m61 (by omega) (by omega))).trans (Mk.kp m63 (by omega) (by omega))).trans (Kp.below b73 (by omega))).trans (Mk.kp m78 (by omega) (by omega))).trans (Kp.below b84 (by omega))))).mono ?_
      rintro e w21 ⟨to88, rfl, o88, b89⟩
      clear f85 f86 f87
      have z20 := b89.size
      obtain ⟨A90, C90, rfl, _, _⟩ := o88.form
      have O90 := o88.toH
      clear o88
      go_wp2_with fail
      refine (toInt64SS_any ra1 rc1 xss1 w21 (RR1.kp (((((((((((((((((((((Kp.below b3 (by omega)).trans (Kp.below b5 (by omega))).trans (Kp.below b10 (by omega))).trans (Kp.below b13 (by omega))).trans (Kp.below b16 (by omega))).trans (Kp.below b19 (by omega))).trans (Kp.below b26 (by omega))).trans (Kp.below b29 (by omega))).trans (Kp.below b33 (by omega))).trans (Kp.below b39 (by omega))).trans (Kp.below b42 (by omega))).trans (Kp.below b49 (by omega))).trans (Kp.below b50e (by omega))).trans (Kp.below b55 (by omega))).trans (Kp.below b57 (by omega))).trans (Mk.kp m61 (by omega) (by omega))).trans (Mk.kp m63 (by omega) (by omega))).trans (Kp.below b73 (by omega))).trans (Mk.kp m78 (by omega) (by omega))).trans (Kp.below b84 (by omega))).trans (Kp.below b89 (by omega))))).mono ?_
      rintro e w22 ⟨to91, rfl, o91, b92⟩
      have z21 := b92.size
      obtain ⟨RA93, RC93, rfl, _⟩ := o91.form
      have O93 := o91.toH
      clear o91
      go_wp2_with fail
      refine (unhide HIM A90 C90 RA93 RC93 w22 (O90.kp (Kp.below b92 (by omega))).rd O93.rd).mono ?_
      rintro e w23 ⟨to94, so94, rfl, o94, b95⟩
      have z22 := b95.size
      have o94 : OwnC w23 w22.heap.size to94 so94 rx0 ry0 := o94
      obtain ⟨A96, C96, RA96, RC96, rfl, rfl, _, _⟩ := o94.form
      have O96 := o94.toH (by omega)
      clear o94
      obtain ⟨w24, hP97⟩ : ∃ z, z = w23.alloc (.cells #[.int .i64 rp0, .int .i64 rd0, .slice A96 rx0.length C96, .slice RA96 ry0.length RC96] 43) := ⟨_, rfl⟩
      have b98 : Below w23.heap.size w23 w24 := by rw [hP97]; exact (Below.refl _ _).alloc (Nat.le_refl _) _
      have K99 : Blk w24 w23.heap.size 43 #[.int .i64 rp0, .int .i64 rd0, .slice A96 rx0.length C96, .slice RA96 ry0.length RC96] := by rw [hP97]; exact Blk.new _ _ _ rfl
      have zz23 : w23.heap.size + 1 ≤ w24.heap.size := K99.lt
      have z23 := b98.size
      have f100 : w24.cell? ⟨w5.heap.size, 0, none⟩ = some (.int .i64 rp0) := (K20.kp ((((((((((((((((((Kp.below b26 (by omega)).trans (Kp.below b29 (by omega))).trans (Kp.below b33 (by omega))).trans (Kp.below b39 (by omega))).trans (Kp.below b42 (by omega))).trans (Kp.below b49 (by omega))).trans (Kp.below b50e (by omega))).trans (Kp.below b55 (by omega))).trans (Kp.below b57 (by omega))).trans (Mk.kp m61 (by omega) (by omega))).trans (Mk.kp m63 (by omega) (by omega))).trans (Kp.below b73 (by omega))).trans (Mk.kp m78 (by omega) (by omega))).trans (Kp.below b84 (by omega))).trans (Kp.below b89 (by omega))).trans (Kp.below b92 (by omega))).trans (Kp.below b95 (by omega))).trans (Kp.below b98 (by omega)))).cell 0
      have f101 : w24.cell? ⟨w5.heap.size, 1, none⟩ = some (.int .i64 rd0) := (K20.kp ((((((((((((((((((Kp.below b26 (by omega)).trans (Kp.below b29 (by omega))).trans (Kp.below b33 (by omega))).trans (Kp.below b39 (by omega))).trans (Kp.below b42 (by omega))).trans (Kp.below b49 (by omega))).trans (Kp.below b50e (by omega))).trans (Kp.below b55 (by omega))).trans (Kp.below b57 (by omega))).trans (Mk.kp m61 (by omega) (by omega))).trans (Mk.kp m63 (by omega) (by omega))).trans (Kp.below b73 (by omega))).trans (Mk.kp m78 (by omega) (by omega))).trans (Kp.below b84 (by omega))).trans (Kp.below b89 (by omega))).trans (Kp.below b92 (by omega))).trans (Kp.below b95 (by omega))).trans (Kp.below b98 (by omega)))).cell 1
      have f102 : w24.cell? ⟨w5.heap.size, 2, none⟩ = some (.slice A17 rx0.length C17) := (K20.kp ((((((((((((((((((Kp.below b26 (by omega)).trans (Kp.below b29 (by omega))).trans (Kp.below b33 (by omega))).trans (Kp.below b39 (by omega))).trans (Kp.below b42 (by omega))).trans (Kp.below b49 (by omega))).trans (Kp.below b50e (by omega))).trans (Kp.below b55 (by omega))).trans (Kp.below b57 (by omega))).trans (Mk.kp m61 (by omega) (by omega))).trans (Mk.kp m63 (by omega) (by omega))).trans (Kp.below b73 (by omega))).trans (Mk.kp m78 (by omega) (by omega))).trans (Kp.below b84 (by omega))).trans (Kp.below b89 (by omega))).trans (Kp.below b92 (by omega))).trans (Kp.below b95 (by omega))).trans (Kp.below b98 (by omega)))).cell 2
      have f103 : w24.cell? ⟨w5.heap.size, 3, none⟩ = some (.slice RA17 ry0.length RC17) := (K20.kp ((((((((((((((((((Kp.below b26 (by omega)).trans (Kp.below b29 (by omega))).trans (Kp.below b33 (by omega))).trans (Kp.below b39 (by omega))).trans (Kp.below b42 (by omega))).trans (Kp.below b49 (by omega))).trans (Kp.below b50e (by omega))).trans (Kp.below b55 (by omega))).trans (Kp.below b57 (by omega))).trans (Mk.kp m61 (by omega) (by omega))).trans (Mk.kp m63 (by omega) (by omega))).trans (Kp.below b73 (by omega))).trans (Mk.kp m78 (by omega) (by omega))).trans (Kp.below b84 (by omega))).trans (Kp.below b89 (by omega))).trans (Kp.below b92 (by omega))).trans (Kp.below b95 (by omega))).trans (Kp.below b98 (by omega)))).cell 3
      rw [hP97] at f100 f101 f102 f103
      have HP104 := Lib.hid hP97
      clear hP97
      go_wp2_with fail
      rw [← HP104.out]
      refine (eqCode_any rp0 rd0 rp0 rd0 A96 A17 RA96 RA17 C96 C17 RC96 RC17 rx0 rx0 ry0 ry0 w24 (O96.kp (Kp.below b98 (by omega))).rd (Ho15.kp (((((((((((((((((((Kp.below b19 (by omega)).trans (Kp.below b26 (by omega))).trans (Kp.below b29 (by omega))).trans (Kp.below b33 (by omega))).trans (Kp.below b39 (by omega))).trans (Kp.below b42 (by omega))).trans (Kp.below b49 (by omega))).trans (Kp.below b50e (by omega))).trans (Kp.below b55 (by omega))).trans (Kp.below b57 (by omega))).trans (Mk.kp m61 (by omega) (by omega))).trans (Mk.kp m63 (by omega) (by omega))).trans (Kp.below b73 (by omega))).trans (Mk.kp m78 (by omega) (by omega))).trans (Kp.below b84 (by omega))).trans (Kp.below b89 (by omega))).trans (Kp.below b92 (by omega))).trans (Kp.below b95 (by omega))).trans (Kp.below b98 (by omega)))) (O96.kp (Kp.below b98 (by omega))).rds (RRo15.kp (((((((((((((((((((Kp.below b19 (by omega)).trans (Kp.below b26 (by omega))).trans (Kp.below b29 (by omega))).trans (Kp.below b33 (by omega))).trans (Kp.below b39 (by omega))).trans (Kp.below b42 (by omega))).trans (Kp.below b49 (by omega))).trans (Kp.below b50e (by omega))).trans (Kp.below b55 (by omega))).trans (Kp.below b57 (by omega))).trans (Mk.kp m61 (by omega) (by omega))).trans (Mk.kp m63 (by omega) (by omega))).trans (Kp.below b73 (by omega))).trans (Mk.kp m78 (by omega) (by omega))).trans (Kp.below b84 (by omega))).trans (Kp.below b89 (by omega))).trans (Kp.below b92 (by omega))).trans (Kp.below b95 (by omega))).trans (Kp.below b98 (by omega))))).mono ?_
      rintro e w25 ⟨rfl, b105⟩
      rw [sameC_self]
      clear f100 f101 f102 f103
      have z24 := b105.size
      have f106 : w25.cell? ⟨w10.heap.size, 0, none⟩ = some (.int .i64 rp0) := (K43.kp ((((((((((((((Kp.below b49 (by omega)).trans (Kp.below b50e (by omega))).trans (Kp.below b55 (by omega))).trans (Kp.below b57 (by omega))).trans (Mk.kp m61 (by omega) (by omega))).trans (Mk.kp m63 (by omega) (by omega))).trans (Kp.below b73 (by omega))).trans (Mk.kp m78 (by omega) (by omega))).trans (Kp.below b84 (by omega))).trans (Kp.below b89 (by omega))).trans (Kp.below b92 (by omega))).trans (Kp.below b95 (by omega))).trans (Kp.below b98 (by omega))).trans (Kp.below b105 (by omega)))).cell 0
      have f107 : w25.cell? ⟨w10.heap.size, 1, none⟩ = some (.int .i64 rd0) := (K43.kp ((((((((((((((Kp.below b49 (by omega)).trans (Kp.below b50e (by omega))).trans (Kp.below b55 (by omega))).trans (Kp.below b57 (by omega))).trans (Mk.kp m61 (by omega) (by omega))).trans (Mk.kp m63 (by omega) (by omega))).trans (Kp.below b73 (by omega))).trans (Mk.kp m78 (by omega) (by omega))).trans (Kp.below b84 (by omega))).trans (Kp.below b89 (by omega))).trans (Kp.below b92 (by omega))).trans (Kp.below b95 (by omega))).trans (Kp.below b98 (by omega))).trans (Kp.below b105 (by omega)))).cell 1
      have f108 : w25.cell? ⟨w10.heap.size, 2, none⟩ = some (.slice A40 rx0.length C40) := (K43.kp ((((((((((((((Kp.below b49 (by omega)).trans (Kp.below b50e (by omega))).trans (Kp.below b55 (by omega))).trans (Kp.below b57 (by omega))).trans (Mk.kp m61 (by omega) (by omega))).trans (Mk.kp m63 (by omega) (by omega))).trans (Kp.below b73 (by omega))).trans (Mk.kp m78 (by omega) (by omega))).trans (Kp.below b84 (by omega))).trans (Kp.below b89 (by omega))).trans (Kp.below b92 (by omega))).trans (Kp.below b95 (by omega))).trans (Kp.below b98 (by omega))).trans (Kp.below b105 (by omega)))).cell 2
      have f109 : w25.cell? ⟨w10.heap.size, 3, none⟩ = some (.slice RA40 ry0.length RC40) := (K43.kp ((((((((((((((Kp.below b49 (by omega)).trans (Kp.below b50e (by omega))).trans (Kp.below b55 (by omega))).trans (Kp.below b57 (by omega))).trans (Mk.kp m61 (by omega) (by omega))).trans (Mk.kp m63 (by omega) (by omega))).trans (Kp.below b73 (by omega))).trans (Mk.kp m78 (by omega) (by omega))).trans (Kp.below b84 (by omega))).trans (Kp.below b89 (by omega))).trans (Kp.below b92 (by omega))).trans (Kp.below b95 (by omega))).trans (Kp.below b98 (by omega))).trans (Kp.below b105 (by omega)))).cell 3
      go_wp2_with fail
      refine (heldCode_any rp0 rd0 A40 RA40 rx0.length ry0.length C40 RC40 1 (ry0.map List.length) w25 (by simp) (o79.kp ((((((Kp.below b84 (by omega)).trans (Kp.below b89 (by omega))).trans (Kp.below b92 (by omega))).trans (Kp.below b95 (by omega))).trans (Kp.below b98 (by omega))).trans (Kp.below b105 (by omega)))).rd (o79.kp ((((((Kp.below b84 (by omega)).trans (Kp.below b89 (by omega))).trans (Kp.below b92 (by omega))).trans (Kp.below b95 (by omega))).trans (Kp.below b98 (by omega))).trans (Kp.below b105 (by omega)))).rds (by omega) (by omega)).mono ?_
      rintro e w26 ⟨rfl, b110⟩
      clear f106 f107 f108 f109
      have z25 := b110.size
      go_wp2
      go_ret
      exact ⟨rfl, ((((((((((((((((((((((((((hb0.trans (b3.mono (by omega))).trans (b5.mono (by omega))).trans (b10.mono (by omega))).trans (b13.mono (by omega))).trans (b16.mono (by omega))).trans (b19.mono (by omega))).trans (b26.mono (by omega))).trans (b29.mono (by omega))).trans (b33.mono (by omega))).trans (b39.mono (by omega))).trans (b42.mono (by omega))).trans (b49.mono (by omega))).trans (b50e.mono (by omega))).trans (b55.mono (by omega))).trans (b57.mono (by omega))).trans (m61.1.mono (by omega))).trans (m63.1.mono (by omega))).trans (b73.mono (by omega))).trans (m78.1.mono (by omega))).trans (b84.mono (by omega))).trans (b89.mono (by omega))).trans (b92.mono (by omega))).trans (b95.mono (by omega))).trans (b98.mono (by omega))).trans (b105.mono (by omega))).trans (b110.mono (by omega)))⟩
    · rw [left_no g1]
      go_wp2
      go_ret
      exact ⟨rfl, ((hb0.trans (b3.mono (by omega))).trans (b5.mono (by omega)))⟩
  · rw [left_no g0]
    go_wp2
    go_ret
    exact ⟨rfl, (hb0.trans (b3.mono (by omega)))⟩

theorem law_FnExactMakeCode (X0 : FLD) (X1 : SLS) (w : World) (e0 : X0.ok w) (e1 : X1.ok w) :
    Calls Try.prog 9 #[X0.val, X1.val] w fun e w' => e = .returned (.bool true) ∧ Below w.heap.size w w' :=
  lawMakeCode X0.p X0.d X0.l.a X0.l.c X0.l.xs X1.a X1.c X1.xss w e0.2.2.1 e0.2.2.2.1 e0.2.1 e1.1 e1.2.1

namespace fnExactMakeCode
open Go.ChangeShapes Go.WideShapes Go.ChangeAt

set_option maxRecDepth 100000 in
set_option maxHeartbeats 800000 in
theorem lifted (os : Os) (started : os.Started) (H : Type) (enc : TypeId × Value → H) :
    ReturnsInHanded {} Try.checked os 9 .any (Rows.fnExactMakeCodeSpec.pre6 enc Try.prog Try.f9 Rows.fnExactMakeCodeRow.domain false) (Rows.fnExactMakeCodeSpec.post enc Try.prog Try.f9 false true false false) := by
  refine returnsInHanded_of_change (C := Try.checked) ownKnob_none started (by kernel_rfl) Try.func9
    (ChangeSpec.witness6 (enc := enc) (C := Try.checked) false ⟨#[], #[.agg #[.int .i64 0, .int .i64 0, .slice none 0 0], .slice none 0 0], []⟩ 8 (by kernel_rfl) (by kernel_rfl) (by kernel_rfl) (by kernel_rfl)) ?_
  intro W base args ds gs before hval0 hW _ _
  have hval : ∀ (j : Nat) t v, Try.f9.params[j]? = some t → args[j]? = some v → Value.okWide Try.prog W .any base t v := hval0
  have hW' := hW
  obtain ⟨p, q, hA0, hV, rfl, hfz, hnd⟩ := hW
  have hA : DataW.TrodAll enc Try.prog W 0 (fun _ => true) true Try.f9.params.toList args.toList ds p := hA0
  rw [Try.params9] at hA hval
  obtain ⟨v0, vs0, d0, ds0, p0, q0, hargs, rfl, rfl, h0, r0⟩ := trodAll_cons hA
  obtain ⟨v1, vs1, d1, ds1, p1, q1, rfl, rfl, rfl, h1, r1⟩ := trodAll_cons r0
  obtain ⟨rfl, rfl, rfl⟩ := trodAll_nil r1
  obtain rfl : args = #[v0, v1] := by cases args; simp_all
  obtain ⟨rfl, rfl⟩ := trodVars_none hV
  have k0 := h0
  have lt0 : ∀ x ∈ p0, x.block < W.heap.size := by obtain ⟨m, hm⟩ := k0; exact DataW.trod_lt m _ _ _ hm
  obtain ⟨X0, rfl, e0⟩ := open_fld (hval 0 35 v0 rfl rfl) h0
  have k1 := h1
  have lt1 : ∀ x ∈ p1, x.block < W.heap.size := by obtain ⟨m, hm⟩ := k1; exact DataW.trod_lt m _ _ _ hm
  obtain ⟨X1, rfl, e1⟩ := open_sls (hval 1 36 v1 rfl rfl) h1
  clear hA0 hval0
  refine (law_FnExactMakeCode X0  X1  W e0 e1).mono fun e W' ⟨he, bel⟩ => ?_
  subst he
  exact ⟨_, rfl, _, _, _, [], _, [], hW', trodAll_mk1 (shut_bool Try.underlying4 _), (trodAll_cons_mk (Below.trod laidOut_ok (by kernel_rfl) (of_decide_eq_true (by kernel_rfl)) k0 bel lt0) (trodAll_cons_mk (Below.trod laidOut_ok (by kernel_rfl) (of_decide_eq_true (by kernel_rfl)) k1 bel lt1) trodAll_mk0)), rfl, bel.frame _, fun h => by cases h⟩

theorem over : Rows.fnExactMakeCodeRow.holds Try.pinned (OpenSpec.ofChange Rows.fnExactMakeCodeSpec) :=
  OpenClaim.holds_of_wide 9 Try.f9 rfl rfl rfl rfl rfl rfl rfl ⟨rfl, rfl, rfl, rfl, rfl⟩ rfl rfl rfl rfl rfl (by kernel_rfl) Try.func9 (by kernel_rfl)
    (of_decide_eq_true (by kernel_rfl)) (by unfold Func.isWrapper; first | (rw [if_pos (by decide +kernel)]; kernel_rfl) | (rw [if_neg (by decide +kernel)]; exact ⟨rfl, rfl⟩))
    (fun os started H enc _ => lifted os started H enc)

theorem proved : Rows.FnExactMakeCodeSaid := over
#print axioms proved
end fnExactMakeCode
end Go.Proofs.Ytkbppgpegljcoaa

