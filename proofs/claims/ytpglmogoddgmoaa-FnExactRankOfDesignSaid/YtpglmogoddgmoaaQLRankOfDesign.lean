/-
  Proved: FnExactRankOfDesign returns true for every input and leaves its arguments as they were. No condition. Printed by gen_law3.py.
-/
import Derived.Test.YtpglmogoddgmoaaJB3
import Derived.Test.YtpglmogoddgmoaaJB24
import Derived.Test.YtpglmogoddgmoaaJB25
set_option linter.unusedVariables false
set_option linter.unusedSimpArgs false
set_option maxRecDepth 100000
set_option maxHeartbeats 40000000
namespace Go.Proofs.Ytpglmogoddgmoaa
open Go.RowKit
attribute [local go_sem ↓] Go.wp_at_zero Go.wp_at_succ
theorem dec_self {α : Type} [DecidableEq α] (xs : α) : decide (xs = xs) = true := by simp
theorem lawRankOfDesign (p0 : Int) (d0 : Int) (a0 : Option Addr) (c0 : Nat) (xs0 : List Int) (p1 : Int) (ra1 : Option Addr) (rc1 : Nat) (xss1 : List (List Int)) (w : World) (l0 : xs0.length ≤ maxLen) (h0 : xs0.length ≤ 1048576 → Rd w a0 xs0) (ed0 : I64 d0) (m1 : Lens w ra1 (xss1.map List.length)) (y1 : total (xss1.map List.length) ≤ 1048576 → RdS w ra1 xss1) :
    Calls Try.prog 4 #[.agg #[.int .i64 p0, .int .i64 d0, .slice a0 xs0.length c0], .agg #[.int .i64 p1, .slice ra1 xss1.length rc1]] w fun e w' => e = .returned (.bool true) ∧ Below w.heap.size w w' := by
 obtain ⟨r0, r1, hR⟩ : ∃ r0 r1, (rdRes p0 d0 xs0 p1 xss1) = (r0, r1) := ⟨_, _, rfl⟩
 have hsp := fun a0' c0' ra1' rc1' W h0' r1' => specRDe_any p0 d0 a0' c0' xs0 p1 ra1' rc1' xss1 W h0' r1'  
 rw [hR] at hsp
 have HSP := hide hsp
 clear hsp
 have him := fun a0' c0' ra1' rc1' W h0' r1' => implRDe_any p0 d0 a0' c0' xs0 p1 ra1' rc1' xss1 W h0' r1'  ed0
 rw [hR] at him
 have HIM := hide him
 clear him
 clear hR
 obtain ⟨w0, hw0⟩ : ∃ z, z = ((w.alloc (.cells #[.int .i64 p0, .int .i64 d0, .slice a0 xs0.length c0] 41)).alloc (.cells #[.int .i64 p1, .slice ra1 xss1.length rc1] 43)) := ⟨_, rfl⟩
 have hb0 : Below w.heap.size w w0 := by rw [hw0]; exact (((Below.refl _ _).alloc (Nat.le_refl _) _).alloc (by simp) _)
 have kA0 : Blk w0 w.heap.size 41 #[.int .i64 p0, .int .i64 d0, .slice a0 xs0.length c0] := by rw [hw0]; exact ((Blk.new _ _ _ rfl).alloc _)
 have kA1 : Blk w0 (w.heap.size + 1) 43 #[.int .i64 p1, .slice ra1 xss1.length rc1] := by rw [hw0]; exact (Blk.new _ _ _ (by simp))
 have zb : w.heap.size + 2 ≤ w0.heap.size := by rw [hw0]; simp
 go_enter Try.func4, Try.ntmps4
 have zz := szField_any p0 d0 a0 xs0.length c0 (1048576) w0 l0 (by omega) (by omega)
 have Z1 := hide zz
 clear zz
 have HP2 := Lib.hid hw0
 clear hw0
 go_wp2_with fail
 rw [← HP2.out]
 refine (unhide Z1).mono ?_
 rintro e w1 ⟨rfl, b3⟩
 have z0 := b3.size
 by_cases g0 : ((xs0.length : Nat) : Int) ≤ 1048576
 · rw [left_yes g0]
   have e1 : (xss1.map List.length).length = xss1.length := by simp
   have zz := szDesign_any p1 ra1 rc1 (xss1.map List.length) (1048576 - ((xs0.length : Nat) : Int)) w1 (m1.below (hb0.trans (b3.mono (by omega)))) (by omega) (by omega)
   rw [e1] at zz
   have Z4 := hide zz
   clear zz e1
   have f5 : w1.cell? ⟨(w.heap.size + 1), 0, none⟩ = some (.int .i64 p1) := (kA1.kp (Kp.below b3 (by omega))).cell 0
   have f6 : w1.cell? ⟨(w.heap.size + 1), 1, none⟩ = some (.slice ra1 xss1.length rc1) := (kA1.kp (Kp.below b3 (by omega))).cell 1
   go_wp2_with fail
   refine (unhide Z4).mono ?_
   rintro e w2 ⟨rfl, b7⟩
   clear f5 f6
   have z1 := b7.size
   by_cases g1 : ((total (xss1.map List.length) : Nat) : Int) ≤ 1048576 - ((xs0.length : Nat) : Int)
   · rw [left_yes g1]
     have H0 := (h0 (by omega)).below hb0
     have RR1 := (y1 (by omega)).below hb0
     clear l0 h0  m1 y1
     have K8 := (kA0.kp ((Kp.below b3 (by omega)).trans (Kp.below b7 (by omega))))
     have K9 := (kA1.kp ((Kp.below b3 (by omega)).trans (Kp.below b7 (by omega))))
     have BX10' : ∀ (W : World), Below w2.heap.size w2 W → (Below w2.heap.size w2 W ∧ W.cell? ⟨w.heap.size, 0, none⟩ = some (.int .i64 p0) ∧ W.cell? ⟨w.heap.size, 1, none⟩ = some (.int .i64 d0) ∧ W.cell? ⟨w.heap.size, 2, none⟩ = some (.slice a0 xs0.length c0) ∧ W.cell? ⟨(w.heap.size + 1), 0, none⟩ = some (.int .i64 p1) ∧ W.cell? ⟨(w.heap.size + 1), 1, none⟩ = some (.slice ra1 xss1.length rc1)) := fun _ h => ⟨h, (K8.below h K8.lt).cell 0, (K8.below h K8.lt).cell 1, (K8.below h K8.lt).cell 2, (K9.below h K9.lt).cell 0, (K9.below h K9.lt).cell 1⟩
     have BX10 := hide BX10'
     clear BX10'
     go_upto_region 8 with fail
     refine wp_region_noPanic ?_
     refine wp_region_ord (S := (fun W => Below w2.heap.size w2 W ∧ W.cell? ⟨w.heap.size, 0, none⟩ = some (.int .i64 p0) ∧ W.cell? ⟨w.heap.size, 1, none⟩ = some (.int .i64 d0) ∧ W.cell? ⟨w.heap.size, 2, none⟩ = some (.slice a0 xs0.length c0) ∧ W.cell? ⟨(w.heap.size + 1), 0, none⟩ = some (.int .i64 p1) ∧ W.cell? ⟨(w.heap.size + 1), 1, none⟩ = some (.slice ra1 xss1.length rc1))) [(true, 0), (true, 2), (false, 1), (false, 3), (false, 4), (true, 5), (true, 6), (true, 7), (true, 8), (true, 9)] (by kernel_rfl) (by kernel_rfl) (by kernel_rfl) rfl (fun _ _ _ _ _ h => h) ?_ (fun hHeld => ?_)
     · exact (unhide BX10) _ (Below.refl _ _).drew
     refine SeqO.take (by rfl) (v := ?hv1) (by rfl) ?hy1 ?hr1
     case hy1 =>
      intro w hSw
      try dsimp only at hSw
      go_simp
      try (with_reducible rfl)
     try simp only [Act.put, List.setIfInBounds_toArray, List.set_cons_zero, List.set_cons_succ]
     refine SeqO.take (by rfl) (v := ?hv2) (by rfl) ?hy2 ?hr2
     case hy2 =>
      intro w hSw
      try dsimp only at hSw
      go_simp
      try (with_reducible rfl)
     try simp only [Act.put, List.setIfInBounds_toArray, List.set_cons_zero, List.set_cons_succ]
     refine SeqO.call (by rfl) (fun K hK => ?_)
     go_simp
     refine (toField_any p0 d0 a0 c0 xs0 _ ((H0.kp ((Kp.below b3 (by omega)).trans (Kp.below b7 (by omega)))).below (And.left hHeld))).mono ?_
     rintro e w3 ⟨to11, rfl, o11, b12⟩
     have o11 := o11.mono (And.left hHeld).size
     have b12 := Below.chain (a := w2) (And.left hHeld) b12
     clear hHeld
     have z2 := b12.size
     obtain ⟨A13, C13, rfl, _, _⟩ := o11.form
     have O13 := o11.toH
     clear o11
     refine hK.out _ _ ?_ (fun hHeld => ?_)
     · exact (unhide BX10) _ b12
     clear hK K
     try simp only [Act.put, List.setIfInBounds_toArray, List.set_cons_zero, List.set_cons_succ]
     refine SeqO.call (by rfl) (fun K hK => ?_)
     go_simp
     refine (toDesign_any p1 ra1 rc1 xss1 w3 (RR1.kp (((Kp.below b3 (by omega)).trans (Kp.below b7 (by omega))).trans (Kp.below b12 (by omega))))).mono ?_
     rintro e w4 ⟨to14, rfl, o14, b15⟩
     clear hHeld
     have z3 := b15.size
     obtain ⟨RA16, RC16, rfl, _⟩ := o14.form
     have O16 := o14.toH
     clear o14
     refine hK.out _ _ ?_ (fun hHeld => ?_)
     · exact (unhide BX10) _ (b12.trans (b15.mono (by omega)))
     clear hK K
     try simp only [Act.put, List.setIfInBounds_toArray, List.set_cons_zero, List.set_cons_succ]
     refine SeqO.call (by rfl) (fun K hK => ?_)
     go_simp
     refine (unhide HSP A13 C13 RA16 RC16 w4 (O13.kp (Kp.below b15 (by omega))).rd O16.rd).mono ?_
     rintro e w5 ⟨rfl, b18⟩
     have z4 := b18.size
     refine hK.out _ _ ?_ (fun hHeld => ?_)
     · exact (unhide BX10) _ ((b12.trans (b15.mono (by omega))).trans (b18.mono (by omega)))
     clear hK K
     try simp only [Act.put, List.setIfInBounds_toArray, List.set_cons_zero, List.set_cons_succ]
     refine SeqO.take (by rfl) (v := ?hv3) (by rfl) ?hy3 ?hr3
     case hy3 =>
      intro w hSw
      try dsimp only at hSw
      go_simp
      try (with_reducible rfl)
     try simp only [Act.put, List.setIfInBounds_toArray, List.set_cons_zero, List.set_cons_succ]
     refine SeqO.take (by rfl) (v := ?hv4) (by rfl) ?hy4 ?hr4
     case hy4 =>
      intro w hSw
      try dsimp only at hSw
      go_simp
      try (with_reducible rfl)
     try simp only [Act.put, List.setIfInBounds_toArray, List.set_cons_zero, List.set_cons_succ]
     refine SeqO.take (by rfl) (v := ?hv5) (by rfl) ?hy5 ?hr5
     case hy5 =>
      intro w hSw
      try dsimp only at hSw
      go_simp
      try (with_reducible rfl)
     try simp only [Act.put, List.setIfInBounds_toArray, List.set_cons_zero, List.set_cons_succ]
     refine SeqO.take (by rfl) (v := ?hv6) (by rfl) ?hy6 ?hr6
     case hy6 =>
      intro w hSw
      try dsimp only at hSw
      go_simp
      try (with_reducible rfl)
     try simp only [Act.put, List.setIfInBounds_toArray, List.set_cons_zero, List.set_cons_succ]
     refine SeqO.take (by rfl) (v := ?hv7) (by rfl) ?hy7 ?hr7
     case hy7 =>
      intro w hSw
      try dsimp only at hSw
      go_simp
      try (with_reducible rfl)
     try simp only [Act.put, List.setIfInBounds_toArray, List.set_cons_zero, List.set_cons_succ]
     refine SeqO.done (NoPanic.normal ?_)
     have f19 : w5.cell? ⟨w.heap.size, 0, none⟩ = some (.int .i64 p0) := (kA0.kp (((((Kp.below b3 (by omega)).trans (Kp.below b7 (by omega))).trans (Kp.below b12 (by omega))).trans (Kp.below b15 (by omega))).trans (Kp.below b18 (by omega)))).cell 0
     have f20 : w5.cell? ⟨w.heap.size, 1, none⟩ = some (.int .i64 d0) := (kA0.kp (((((Kp.below b3 (by omega)).trans (Kp.below b7 (by omega))).trans (Kp.below b12 (by omega))).trans (Kp.below b15 (by omega))).trans (Kp.below b18 (by omega)))).cell 1
     have f21 : w5.cell? ⟨w.heap.size, 2, none⟩ = some (.slice a0 xs0.length c0) := (kA0.kp (((((Kp.below b3 (by omega)).trans (Kp.below b7 (by omega))).trans (Kp.below b12 (by omega))).trans (Kp.below b15 (by omega))).trans (Kp.below b18 (by omega)))).cell 2
     go_wp2_with fail
     refine (toField_any p0 d0 a0 c0 xs0 w5 (H0.kp (((((Kp.below b3 (by omega)).trans (Kp.below b7 (by omega))).trans (Kp.below b12 (by omega))).trans (Kp.below b15 (by omega))).trans (Kp.below b18 (by omega))))).mono ?_
     rintro e w6 ⟨to22, rfl, o22, b23⟩
     clear f19 f20 f21
     have z5 := b23.size
     obtain ⟨A24, C24, rfl, _, _⟩ := o22.form
     have O24 := o22.toH
     clear o22
     obtain ⟨w7, hP25⟩ : ∃ z, z = w6.alloc (.cells #[.int .i64 p0, .int .i64 d0, .slice A24 xs0.length C24] 26) := ⟨_, rfl⟩
     have b26 : Below w6.heap.size w6 w7 := by rw [hP25]; exact (Below.refl _ _).alloc (Nat.le_refl _) _
     have K27 : Blk w7 w6.heap.size 26 #[.int .i64 p0, .int .i64 d0, .slice A24 xs0.length C24] := by rw [hP25]; exact Blk.new _ _ _ rfl
     have zz6 : w6.heap.size + 1 ≤ w7.heap.size := K27.lt
     have z6 := b26.size
     have f28 : w7.cell? ⟨(w.heap.size + 1), 0, none⟩ = some (.int .i64 p1) := (kA1.kp (((((((Kp.below b3 (by omega)).trans (Kp.below b7 (by omega))).trans (Kp.below b12 (by omega))).trans (Kp.below b15 (by omega))).trans (Kp.below b18 (by omega))).trans (Kp.below b23 (by omega))).trans (Kp.below b26 (by omega)))).cell 0
     have f29 : w7.cell? ⟨(w.heap.size + 1), 1, none⟩ = some (.slice ra1 xss1.length rc1) := (kA1.kp (((((((Kp.below b3 (by omega)).trans (Kp.below b7 (by omega))).trans (Kp.below b12 (by omega))).trans (Kp.below b15 (by omega))).trans (Kp.below b18 (by omega))).trans (Kp.below b23 (by omega))).trans (Kp.below b26 (by omega)))).cell 1
     rw [hP25] at f28 f29
     have HP30 := Lib.hid hP25
     clear hP25
     go_wp2_with fail
     rw [← HP30.out]
     refine (toDesign_any p1 ra1 rc1 xss1 w7 (RR1.kp (((((((Kp.below b3 (by omega)).trans (Kp.below b7 (by omega))).trans (Kp.below b12 (by omega))).trans (Kp.below b15 (by omega))).trans (Kp.below b18 (by omega))).trans (Kp.below b23 (by omega))).trans (Kp.below b26 (by omega))))).mono ?_
     rintro e w8 ⟨to31, rfl, o31, b32⟩
     clear f28 f29
     have z7 := b32.size
     obtain ⟨RA33, RC33, rfl, _⟩ := o31.form
     have O33 := o31.toH
     clear o31
     obtain ⟨w9, hP34⟩ : ∃ z, z = w8.alloc (.cells #[.int .i64 p1, .slice RA33 xss1.length RC33] 48) := ⟨_, rfl⟩
     have b35 : Below w8.heap.size w8 w9 := by rw [hP34]; exact (Below.refl _ _).alloc (Nat.le_refl _) _
     have K36 : Blk w9 w8.heap.size 48 #[.int .i64 p1, .slice RA33 xss1.length RC33] := by rw [hP34]; exact Blk.new _ _ _ rfl
     have zz8 : w8.heap.size + 1 ≤ w9.heap.size := K36.lt
     have z8 := b35.size
     have f37 : w9.cell? ⟨w6.heap.size, 0, none⟩ = some (.int .i64 p0) := (K27.kp ((Kp.below b32 (by omega)).trans (Kp.below b35 (by omega)))).cell 0
     have f38 : w9.cell? ⟨w6.heap.size, 1, none⟩ = some (.int .i64 d0) := (K27.kp ((Kp.below b32 (by omega)).trans (Kp.below b35 (by omega)))).cell 1
     have f39 : w9.cell? ⟨w6.heap.size, 2, none⟩ = some (.slice A24 xs0.length C24) := (K27.kp ((Kp.below b32 (by omega)).trans (Kp.below b35 (by omega)))).cell 2
     rw [hP34] at f37 f38 f39
     have HP40 := Lib.hid hP34
     clear hP34
     go_wp2_with fail
     rw [← HP40.out]
     refine (unhide HIM A24 C24 RA33 RC33 w9 (O24.kp (((Kp.below b26 (by omega)).trans (Kp.below b32 (by omega))).trans (Kp.below b35 (by omega)))).rd (O33.kp (Kp.below b35 (by omega))).rd).mono ?_
     rintro e w10 ⟨rfl, b42⟩
     clear f37 f38 f39
     have z9 := b42.size
     have Y43 := (O24.kp ((((Kp.below b26 (by omega)).trans (Kp.below b32 (by omega))).trans (Kp.below b35 (by omega))).trans (Kp.below b42 (by omega)))).rd
     have X43h := (H0.kp ((((((((((Kp.below b3 (by omega)).trans (Kp.below b7 (by omega))).trans (Kp.below b12 (by omega))).trans (Kp.below b15 (by omega))).trans (Kp.below b18 (by omega))).trans (Kp.below b23 (by omega))).trans (Kp.below b26 (by omega))).trans (Kp.below b32 (by omega))).trans (Kp.below b35 (by omega))).trans (Kp.below b42 (by omega))))
     have K44 := (K27.kp (((Kp.below b32 (by omega)).trans (Kp.below b35 (by omega))).trans (Kp.below b42 (by omega))))
     have K45 := (kA0.kp ((((((((((Kp.below b3 (by omega)).trans (Kp.below b7 (by omega))).trans (Kp.below b12 (by omega))).trans (Kp.below b15 (by omega))).trans (Kp.below b18 (by omega))).trans (Kp.below b23 (by omega))).trans (Kp.below b26 (by omega))).trans (Kp.below b32 (by omega))).trans (Kp.below b35 (by omega))).trans (Kp.below b42 (by omega))))
     have BX46' : ∀ (W : World), Below w10.heap.size w10 W → (Below w10.heap.size w10 W ∧ W.cell? ⟨w6.heap.size, 0, none⟩ = some (.int .i64 p0) ∧ W.cell? ⟨w6.heap.size, 1, none⟩ = some (.int .i64 d0) ∧ W.cell? ⟨w6.heap.size, 2, none⟩ = some (.slice A24 xs0.length C24) ∧ W.cell? ⟨w.heap.size, 0, none⟩ = some (.int .i64 p0) ∧ W.cell? ⟨w.heap.size, 1, none⟩ = some (.int .i64 d0) ∧ W.cell? ⟨w.heap.size, 2, none⟩ = some (.slice a0 xs0.length c0)) := fun _ h => ⟨h, (K44.below h K44.lt).cell 0, (K44.below h K44.lt).cell 1, (K44.below h K44.lt).cell 2, (K45.below h K45.lt).cell 0, (K45.below h K45.lt).cell 1, (K45.below h K45.lt).cell 2⟩
     have BX46 := hide BX46'
     clear BX46'
     go_upto_region 14 with fail
     go_region_held3 (fun W => Below w10.heap.size w10 W ∧ W.cell? ⟨w6.heap.size, 0, none⟩ = some (.int .i64 p0) ∧ W.cell? ⟨w6.heap.size, 1, none⟩ = some (.int .i64 d0) ∧ W.cell? ⟨w6.heap.size, 2, none⟩ = some (.slice A24 xs0.length C24) ∧ W.cell? ⟨w.heap.size, 0, none⟩ = some (.int .i64 p0) ∧ W.cell? ⟨w.heap.size, 1, none⟩ = some (.int .i64 d0) ∧ W.cell? ⟨w.heap.size, 2, none⟩ = some (.slice a0 xs0.length c0))
      (first | exact (unhide BX46) _ (Below.refl _ _) | exact (unhide BX46) _ ((Below.refl _ _).drew) | exact (unhide BX46) _ (by assumption))
      (first
       | (go_at_call_of 25 (Value.slice a0 xs0.length c0); refine (toField_any p0 d0 a0 c0 xs0 _ ?_).mono ?_; exact X43h.below (And.left (by assumption)); rintro e W43 ⟨t43, rfl, o43, bb43⟩; obtain ⟨A43, C43, rfl, rr43, _⟩ := o43.form; have hB43 := Below.chain (a := w10) (And.left (by assumption)) bb43)
       | (go_at_call 28; refine (eqField_any p0 d0 p0 d0 A24 A43 C24 C43 xs0 xs0 _ (Y43.below hB43) rr43).mono ?_; rintro e w11 ⟨rfl, bc43⟩; have b43e := Below.chain hB43 bc43; rw [sameF_self]))
     clear BX46
     have z10 := b43e.size
     have Y47 := (O33.kp (((Kp.below b35 (by omega)).trans (Kp.below b42 (by omega))).trans (Kp.below b43e (by omega)))).rd
     have X47r := (RR1.kp (((((((((((Kp.below b3 (by omega)).trans (Kp.below b7 (by omega))).trans (Kp.below b12 (by omega))).trans (Kp.below b15 (by omega))).trans (Kp.below b18 (by omega))).trans (Kp.below b23 (by omega))).trans (Kp.below b26 (by omega))).trans (Kp.below b32 (by omega))).trans (Kp.below b35 (by omega))).trans (Kp.below b42 (by omega))).trans (Kp.below b43e (by omega))))
     have K48 := (K36.kp ((Kp.below b42 (by omega)).trans (Kp.below b43e (by omega))))
     have K49 := (kA1.kp (((((((((((Kp.below b3 (by omega)).trans (Kp.below b7 (by omega))).trans (Kp.below b12 (by omega))).trans (Kp.below b15 (by omega))).trans (Kp.below b18 (by omega))).trans (Kp.below b23 (by omega))).trans (Kp.below b26 (by omega))).trans (Kp.below b32 (by omega))).trans (Kp.below b35 (by omega))).trans (Kp.below b42 (by omega))).trans (Kp.below b43e (by omega))))
     have BX50' : ∀ (W : World), Below w11.heap.size w11 W → (Below w11.heap.size w11 W ∧ W.cell? ⟨w8.heap.size, 0, none⟩ = some (.int .i64 p1) ∧ W.cell? ⟨w8.heap.size, 1, none⟩ = some (.slice RA33 xss1.length RC33) ∧ W.cell? ⟨(w.heap.size + 1), 0, none⟩ = some (.int .i64 p1) ∧ W.cell? ⟨(w.heap.size + 1), 1, none⟩ = some (.slice ra1 xss1.length rc1)) := fun _ h => ⟨h, (K48.below h K48.lt).cell 0, (K48.below h K48.lt).cell 1, (K49.below h K49.lt).cell 0, (K49.below h K49.lt).cell 1⟩
     have BX50 := hide BX50'
     clear BX50'
     go_upto_region 16 with fail
     go_region_held3 (fun W => Below w11.heap.size w11 W ∧ W.cell? ⟨w8.heap.size, 0, none⟩ = some (.int .i64 p1) ∧ W.cell? ⟨w8.heap.size, 1, none⟩ = some (.slice RA33 xss1.length RC33) ∧ W.cell? ⟨(w.heap.size + 1), 0, none⟩ = some (.int .i64 p1) ∧ W.cell? ⟨(w.heap.size + 1), 1, none⟩ = some (.slice ra1 xss1.length rc1))
      (first | exact (unhide BX50) _ (Below.refl _ _) | exact (unhide BX50) _ ((Below.refl _ _).drew) | exact (unhide BX50) _ (by assumption))
      (first
       | (go_at_call_of 26 (Value.slice ra1 xss1.length rc1); refine (toDesign_any p1 ra1 rc1 xss1 _ ?_).mono ?_; exact X47r.below (And.left (by assumption)); rintro e W47 ⟨t47, rfl, o47, bb47⟩; obtain ⟨RA47, RC47, rfl, rs47⟩ := o47.form; have hB47 := Below.chain (a := w11) (And.left (by assumption)) bb47)
       | (go_at_call 29; refine (eqDesign_any p1 p1 RA33 RA47 RC33 RC47 xss1 xss1 _ (Y47.below hB47) rs47).mono ?_; rintro e w12 ⟨rfl, bc47⟩; have b47e := Below.chain hB47 bc47; rw [sameD_self]))
     clear BX50
     have z11 := b47e.size
     go_wp2
     go_ret
     exact ⟨rfl, ((((((((((((hb0.trans (b3.mono (by omega))).trans (b7.mono (by omega))).trans (b12.mono (by omega))).trans (b15.mono (by omega))).trans (b18.mono (by omega))).trans (b23.mono (by omega))).trans (b26.mono (by omega))).trans (b32.mono (by omega))).trans (b35.mono (by omega))).trans (b42.mono (by omega))).trans (b43e.mono (by omega))).trans (b47e.mono (by omega)))⟩
   · rw [left_no g1]
     go_wp2
     go_ret
     exact ⟨rfl, ((hb0.trans (b3.mono (by omega))).trans (b7.mono (by omega)))⟩
 · rw [left_no g0]
   go_wp2
   go_ret
   exact ⟨rfl, (hb0.trans (b3.mono (by omega)))⟩
theorem law_FnExactRankOfDesign (X0 : FLD) (X1 : DES) (w : World) (e0 : X0.ok w) (e1 : X1.ok w) :
    Calls Try.prog 4 #[X0.val, X1.val] w fun e w' => e = .returned (.bool true) ∧ Below w.heap.size w w' :=
 lawRankOfDesign X0.p X0.d X0.l.a X0.l.c X0.l.xs X1.p X1.r.a X1.r.c X1.r.xss w e0.2.2.1 e0.2.2.2.1 e0.2.1 e1.2.1 e1.2.2.1
namespace fnExactRankOfDesign
open Go.ChangeShapes Go.WideShapes Go.ChangeAt
theorem lifted (os : Os) (started : os.Started) (H : Type) (enc : TypeId × Value → H) :
    ReturnsInHanded {} Try.checked os 4 .any (Rows.fnExactRankOfDesignSpec.pre6 enc Try.prog Try.f4 Rows.fnExactRankOfDesignRow.domain false) (Rows.fnExactRankOfDesignSpec.post enc Try.prog Try.f4 false true false false) := by
 refine returnsInHanded_of_change (C := Try.checked) ownKnob_none started (by kernel_rfl) Try.func4
  (ChangeSpec.witness6 (enc := enc) (C := Try.checked) false ⟨#[], #[.agg #[.int .i64 0, .int .i64 0, .slice none 0 0], .agg #[.int .i64 0, .slice none 0 0]], []⟩ 8 (by kernel_rfl) (by kernel_rfl) (by kernel_rfl) (by kernel_rfl)) ?_
 intro W base args ds gs before hval0 hW _ _
 have hval : ∀ (j : Nat) t v, Try.f4.params[j]? = some t → args[j]? = some v → Value.okWide Try.prog W .any base t v := hval0
 have hW' := hW
 obtain ⟨p, q, hA0, hV, rfl, hfz, hnd⟩ := hW
 have hA : DataW.TrodAll enc Try.prog W 0 (fun _ => true) true Try.f4.params.toList args.toList ds p := hA0
 rw [Try.params4] at hA hval
 obtain ⟨v0, vs0, d0, ds0, p0, q0, hargs, rfl, rfl, h0, r0⟩ := trodAll_cons hA
 obtain ⟨v1, vs1, d1, ds1, p1, q1, rfl, rfl, rfl, h1, r1⟩ := trodAll_cons r0
 obtain ⟨rfl, rfl, rfl⟩ := trodAll_nil r1
 obtain rfl : args = #[v0, v1] := by cases args; simp_all
 obtain ⟨rfl, rfl⟩ := trodVars_none hV
 have k0 := h0
 have lt0 : ∀ x ∈ p0, x.block < W.heap.size := by obtain ⟨m, hm⟩ := k0; exact DataW.trod_lt m _ _ _ hm
 obtain ⟨X0, rfl, e0⟩ := open_fld (hval 0 41 v0 rfl rfl) h0
 have k1 := h1
 have lt1 : ∀ x ∈ p1, x.block < W.heap.size := by obtain ⟨m, hm⟩ := k1; exact DataW.trod_lt m _ _ _ hm
 obtain ⟨X1, rfl, e1⟩ := open_des (hval 1 43 v1 rfl rfl) h1
 clear hA0 hval0
 refine (law_FnExactRankOfDesign X0  X1  W e0 e1).mono fun e W' ⟨he, bel⟩ => ?_
 subst he
 exact ⟨_, rfl, _, _, _, [], _, [], hW', trodAll_mk1 (shut_bool Try.underlying4 _), (trodAll_cons_mk (Below.trod laidOut_ok (by kernel_rfl) (of_decide_eq_true (by kernel_rfl)) k0 bel lt0) (trodAll_cons_mk (Below.trod laidOut_ok (by kernel_rfl) (of_decide_eq_true (by kernel_rfl)) k1 bel lt1) trodAll_mk0)), rfl, bel.frame _, fun h => by cases h⟩
theorem over : Rows.fnExactRankOfDesignRow.holds Try.pinned (OpenSpec.ofChange Rows.fnExactRankOfDesignSpec) :=
 OpenClaim.holds_of_wide 4 Try.f4 rfl rfl rfl rfl rfl rfl rfl ⟨rfl, rfl, rfl, rfl, rfl⟩ rfl rfl rfl rfl rfl (by kernel_rfl) Try.func4 (by kernel_rfl)
  (of_decide_eq_true (by kernel_rfl)) (by unfold Func.isWrapper; first | (rw [if_pos (by decide +kernel)]; kernel_rfl) | (rw [if_neg (by decide +kernel)]; exact ⟨rfl, rfl⟩))
  (fun os started H enc _ => lifted os started H enc)
theorem proved : Rows.FnExactRankOfDesignSaid := over
end fnExactRankOfDesign
end Go.Proofs.Ytpglmogoddgmoaa
