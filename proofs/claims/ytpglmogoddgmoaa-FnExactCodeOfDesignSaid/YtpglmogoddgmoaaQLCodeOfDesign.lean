/-
  Proved: FnExactCodeOfDesign returns true for every input and leaves its arguments as they were. No condition. Printed by gen_law3.py.
-/
import Derived.Test.YtpglmogoddgmoaaJC3
import Derived.Test.YtpglmogoddgmoaaJC24
import Derived.Test.YtpglmogoddgmoaaJC25
import Derived.Test.YtpglmogoddgmoaaJC26
set_option linter.unusedVariables false
set_option linter.unusedSimpArgs false
set_option maxRecDepth 100000
set_option maxHeartbeats 40000000
namespace Go.Proofs.Ytpglmogoddgmoaa
open Go.RowKit
attribute [local go_sem ↓] Go.wp_at_zero Go.wp_at_succ
theorem dec_self {α : Type} [DecidableEq α] (xs : α) : decide (xs = xs) = true := by simp
theorem lawCodeOfDesign (p0 : Int) (d0 : Int) (a0 : Option Addr) (c0 : Nat) (xs0 : List Int) (p1 : Int) (ra1 : Option Addr) (rc1 : Nat) (xss1 : List (List Int)) (w : World) (l0 : xs0.length ≤ maxLen) (h0 : xs0.length ≤ 1048576 → Rd w a0 xs0) (ed0 : I64 d0) (m1 : Lens w ra1 (xss1.map List.length)) (y1 : total (xss1.map List.length) ≤ 1048576 → RdS w ra1 xss1) :
    Calls Try.prog 6 #[.agg #[.int .i64 p0, .int .i64 d0, .slice a0 xs0.length c0], .agg #[.int .i64 p1, .slice ra1 xss1.length rc1]] w fun e w' => e = .returned (.bool true) ∧ Below w.heap.size w w' := by
 obtain ⟨rp0, rd0, rx0, ry0, r1, hR⟩ : ∃ rp0 rd0 rx0 ry0 r1, (cdRes p0 d0 xs0 p1 xss1) = (rp0, rd0, rx0, ry0, r1) := ⟨_, _, _, _, _, rfl⟩
 have hsp := fun a0' c0' ra1' rc1' W h0' r1' => specCDe_any p0 d0 a0' c0' xs0 p1 ra1' rc1' xss1 W h0' r1'  
 rw [hR] at hsp
 have HSP := hide hsp
 clear hsp
 have him := fun a0' c0' ra1' rc1' W h0' r1' => implCDe_any p0 d0 a0' c0' xs0 p1 ra1' rc1' xss1 W h0' r1'  ed0
 rw [hR] at him
 have HIM := hide him
 clear him
 clear hR
 obtain ⟨w0, hw0⟩ : ∃ z, z = ((w.alloc (.cells #[.int .i64 p0, .int .i64 d0, .slice a0 xs0.length c0] 41)).alloc (.cells #[.int .i64 p1, .slice ra1 xss1.length rc1] 43)) := ⟨_, rfl⟩
 have hb0 : Below w.heap.size w w0 := by rw [hw0]; exact (((Below.refl _ _).alloc (Nat.le_refl _) _).alloc (by simp) _)
 have kA0 : Blk w0 w.heap.size 41 #[.int .i64 p0, .int .i64 d0, .slice a0 xs0.length c0] := by rw [hw0]; exact ((Blk.new _ _ _ rfl).alloc _)
 have kA1 : Blk w0 (w.heap.size + 1) 43 #[.int .i64 p1, .slice ra1 xss1.length rc1] := by rw [hw0]; exact (Blk.new _ _ _ (by simp))
 have zb : w.heap.size + 2 ≤ w0.heap.size := by rw [hw0]; simp
 go_enter Try.func6, Try.ntmps6
 have zz := szField_any p0 d0 a0 xs0.length c0 (1048576) w0 l0 (by omega) (by omega)
 have Z1 := hide zz
 clear zz
 have HP2 := Lib.hid hw0
 clear hw0
 go_wp2_with fail
 rw [← HP2.out]
 refine (unhide Z1).mono ?_
 rintro e w1 ⟨rfl, b3⟩
 have z0 := b3.size
 by_cases g0 : ((xs0.length : Nat) : Int) ≤ 1048576
 · rw [left_yes g0]
   have e1 : (xss1.map List.length).length = xss1.length := by simp
   have zz := szDesign_any p1 ra1 rc1 (xss1.map List.length) (1048576 - ((xs0.length : Nat) : Int)) w1 (m1.below (hb0.trans (b3.mono (by omega)))) (by omega) (by omega)
   rw [e1] at zz
   have Z4 := hide zz
   clear zz e1
   have f5 : w1.cell? ⟨(w.heap.size + 1), 0, none⟩ = some (.int .i64 p1) := (kA1.kp (Kp.below b3 (by omega))).cell 0
   have f6 : w1.cell? ⟨(w.heap.size + 1), 1, none⟩ = some (.slice ra1 xss1.length rc1) := (kA1.kp (Kp.below b3 (by omega))).cell 1
   go_wp2_with fail
   refine (unhide Z4).mono ?_
   rintro e w2 ⟨rfl, b7⟩
   clear f5 f6
   have z1 := b7.size
   by_cases g1 : ((total (xss1.map List.length) : Nat) : Int) ≤ 1048576 - ((xs0.length : Nat) : Int)
   · rw [left_yes g1]
     have H0 := (h0 (by omega)).below hb0
     have RR1 := (y1 (by omega)).below hb0
     clear l0 h0  m1 y1
     have K8 := (kA0.kp ((Kp.below b3 (by omega)).trans (Kp.below b7 (by omega))))
     have K9 := (kA1.kp ((Kp.below b3 (by omega)).trans (Kp.below b7 (by omega))))
     have BX10' : ∀ (W : World), Below w2.heap.size w2 W → (Below w2.heap.size w2 W ∧ W.cell? ⟨w.heap.size, 0, none⟩ = some (.int .i64 p0) ∧ W.cell? ⟨w.heap.size, 1, none⟩ = some (.int .i64 d0) ∧ W.cell? ⟨w.heap.size, 2, none⟩ = some (.slice a0 xs0.length c0) ∧ W.cell? ⟨(w.heap.size + 1), 0, none⟩ = some (.int .i64 p1) ∧ W.cell? ⟨(w.heap.size + 1), 1, none⟩ = some (.slice ra1 xss1.length rc1)) := fun _ h => ⟨h, (K8.below h K8.lt).cell 0, (K8.below h K8.lt).cell 1, (K8.below h K8.lt).cell 2, (K9.below h K9.lt).cell 0, (K9.below h K9.lt).cell 1⟩
     have BX10 := hide BX10'
     clear BX10'
     go_upto_region 8 with fail
     go_cut [6, 7] from 27 to 34 (fun vP vI wx => ∃ bE A C RA RC, vP = .pointer (some ⟨bE, 0, none⟩) ∧ vI = .int .i64 r1 ∧ Blk wx bE 55 #[.int .i64 rp0, .int .i64 rd0, .slice A rx0.length C, .slice RA ry0.length RC] ∧ Rd wx A rx0 ∧ RdS wx RA ry0 ∧ Below w2.heap.size w2 wx)
     case first =>
      refine wp_region_noPanic ?_
      refine wp_region_tree (S := (fun W => Below w2.heap.size w2 W ∧ W.cell? ⟨w.heap.size, 0, none⟩ = some (.int .i64 p0) ∧ W.cell? ⟨w.heap.size, 1, none⟩ = some (.int .i64 d0) ∧ W.cell? ⟨w.heap.size, 2, none⟩ = some (.slice a0 xs0.length c0) ∧ W.cell? ⟨(w.heap.size + 1), 0, none⟩ = some (.int .i64 p1) ∧ W.cell? ⟨(w.heap.size + 1), 1, none⟩ = some (.slice ra1 xss1.length rc1))) 10 (.take 0 (.take 2 (.two 1 8 (.two 3 8 (.two 4 8 (.take 5 (.take 6 (.take 7 (.call 8 (.call 9 (.last 10 .done)))))) (.call 4 (.take 5 (.take 6 (.take 7 (.call 9 (.last 10 .done))))))) (.call 3 (.call 4 (.take 5 (.take 6 (.take 7 (.call 9 (.last 10 .done)))))))) (.call 1 (.call 3 (.call 4 (.take 5 (.take 6 (.take 7 (.call 9 (.last 10 .done))))))))))) (by kernel_rfl) (by kernel_rfl) (by kernel_rfl) (by decide) (fun _ _ _ _ _ h => h) ?_ (fun hHeld => ?_)
      · exact (unhide BX10) _ (Below.refl _ _).drew
      refine SeqT.take (by rfl) (v := ?hv1) (by rfl) ?hy1 ?hr1
      case hy1 =>
       intro w hSw
       try dsimp only at hSw
       go_simp
       try (with_reducible rfl)
      try simp only [Act.put, List.setIfInBounds_toArray, List.set_cons_zero, List.set_cons_succ]
      refine SeqT.take (by rfl) (v := ?hv2) (by rfl) ?hy2 ?hr2
      case hy2 =>
       intro w hSw
       try dsimp only at hSw
       go_simp
       try (with_reducible rfl)
      try simp only [Act.put, List.setIfInBounds_toArray, List.set_cons_zero, List.set_cons_succ]
      refine SeqT.two ?_ ?_
      · skip
        refine SeqT.call (by rfl) (fun K hK => ?_)
        go_simp
        refine (toField_any p0 d0 a0 c0 xs0 _ ((H0.kp ((Kp.below b3 (by omega)).trans (Kp.below b7 (by omega)))).below (And.left hHeld))).mono ?_
        rintro e w3 ⟨to11, rfl, o11, b12⟩
        have o11 := o11.mono (And.left hHeld).size
        have b12 := Below.chain (a := w2) (And.left hHeld) b12
        clear hHeld
        have z2 := b12.size
        obtain ⟨A13, C13, rfl, _, _⟩ := o11.form
        have O13 := o11.toH
        clear o11
        refine hK.out _ _ ?_ (fun hHeld => ?_)
        · exact (unhide BX10) _ b12
        clear hK K
        try simp only [Act.put, List.setIfInBounds_toArray, List.set_cons_zero, List.set_cons_succ]
        refine SeqT.two ?_ ?_
        · skip
          refine SeqT.call (by rfl) (fun K hK => ?_)
          go_simp
          refine (toDesign_any p1 ra1 rc1 xss1 w3 (RR1.kp (((Kp.below b3 (by omega)).trans (Kp.below b7 (by omega))).trans (Kp.below b12 (by omega))))).mono ?_
          rintro e w4 ⟨to14, rfl, o14, b15⟩
          clear hHeld
          have z3 := b15.size
          obtain ⟨RA16, RC16, rfl, _⟩ := o14.form
          have O16 := o14.toH
          clear o14
          refine hK.out _ _ ?_ (fun hHeld => ?_)
          · exact (unhide BX10) _ (b12.trans (b15.mono (by omega)))
          clear hK K
          try simp only [Act.put, List.setIfInBounds_toArray, List.set_cons_zero, List.set_cons_succ]
          refine SeqT.two ?_ ?_
          · skip
            refine SeqT.call (by rfl) (fun K hK => ?_)
            go_simp
            refine (unhide HSP A13 C13 RA16 RC16 w4 (O13.kp (Kp.below b15 (by omega))).rd O16.rd).mono ?_
            rintro e w5 ⟨to17, so17, rfl, o17, o17q, b18⟩
            clear hHeld
            have z4 := b18.size
            have o17 : Own w5 w4.heap.size to17 rx0 := o17
            have o17q : OwnS w5 w4.heap.size so17 ry0 := o17q
            obtain ⟨A19, C19, rfl, _, _⟩ := o17.form
            obtain ⟨RA19, RC19, rfl, _⟩ := o17q.form
            have o17 := o17.toH
            have o17q := o17q.toH
            refine hK.out _ _ ?_ (fun hHeld => ?_)
            · exact (unhide BX10) _ ((b12.trans (b15.mono (by omega))).trans (b18.mono (by omega)))
            clear hK K
            try simp only [Act.put, List.setIfInBounds_toArray, List.set_cons_zero, List.set_cons_succ]
            refine SeqT.take (by rfl) (v := ?hv3) (by rfl) ?hy3 ?hr3
            case hy3 =>
             intro w hSw
             try dsimp only at hSw
             go_simp
             try (with_reducible rfl)
            try simp only [Act.put, List.setIfInBounds_toArray, List.set_cons_zero, List.set_cons_succ]
            refine SeqT.take (by rfl) (v := ?hv4) (by rfl) ?hy4 ?hr4
            case hy4 =>
             intro w hSw
             try dsimp only at hSw
             go_simp
             try (with_reducible rfl)
            try simp only [Act.put, List.setIfInBounds_toArray, List.set_cons_zero, List.set_cons_succ]
            refine SeqT.take (by rfl) (v := ?hv5) (by rfl) ?hy5 ?hr5
            case hy5 =>
             intro w hSw
             try dsimp only at hSw
             go_simp
             try (with_reducible rfl)
            try simp only [Act.put, List.setIfInBounds_toArray, List.set_cons_zero, List.set_cons_succ]
            refine SeqT.call (by rfl) (fun K hK => ?_)
            go_simp
            obtain ⟨w6, hE20⟩ : ∃ z, z = (w5.alloc (.cells #[.int .i64 0, .int .i64 0, .slice none 0 0, .slice none 0 0] 55)) := ⟨_, rfl⟩
            have b21 : Below w5.heap.size w5 w6 := by rw [hE20]; exact (Below.refl _ _).alloc (Nat.le_refl _) _
            have KE22 : Blk w6 w5.heap.size 55 #[.int .i64 0, .int .i64 0, .slice none 0 0, .slice none 0 0] := by rw [hE20]; exact Blk.new _ _ _ rfl
            rw [← hE20]
            clear hE20 hHeld
            have zzKE22 : w5.heap.size + 1 ≤ w6.heap.size := KE22.lt
            have z5 := b21.size
            refine hK.out _ _ ?_ (fun hHeld => ?_)
            · exact (unhide BX10) _ (((b12.trans (b15.mono (by omega))).trans (b18.mono (by omega))).trans (b21.mono (by omega)))
            clear hK K
            try simp only [Act.put, List.setIfInBounds_toArray, List.set_cons_zero, List.set_cons_succ]
            have k4 := KE22
            have f0 := k4.cell 0
            have gf0 := k4.frozen 0
            have f1 := k4.cell 1
            have gf1 := k4.frozen 1
            have f2 := k4.cell 2
            have gf2 := k4.frozen 2
            have f3 := k4.cell 3
            have gf3 := k4.frozen 3
            refine SeqT.call (by rfl) (fun K hK => ?_)
            go_simp
            refine hK.out _ _ ?_ (fun hHeld => ?_)
            · exact (unhide BX10) _ (Below.set4 (((b12.trans (b15.mono (by omega))).trans (b18.mono (by omega))).trans (b21.mono (by omega))) (by omega) _ _ _ _)
            clear hK K
            try simp only [Act.put, List.setIfInBounds_toArray, List.set_cons_zero, List.set_cons_succ]
            refine SeqT.last (by rfl) (fun K hK => ?_)
            go_simp
            refine hK.out _ _ ?_
            clear hK K
            try simp only [Act.put, List.setIfInBounds_toArray, List.set_cons_zero, List.set_cons_succ]
            refine SeqT.done (NoPanic.normal ?_)
            go_wp2
            go_meet
            refine ⟨_, _, _, _, _, rfl, rfl, k4.b4.store _ _ _ _, ?_, ?_, Below.set4 (((b12.trans (b15.mono (by omega))).trans (b18.mono (by omega))).trans (b21.mono (by omega))) (by omega) _ _ _ _⟩
            · exact ((o17.kp (Kp.below b21 (by omega))).kp (kp_set4 (by first | (left; omega) | (right; omega)) _ _ _ _)).rd
            · exact ((o17q.kp (Kp.below b21 (by omega))).kp (kp_set4 (by first | (left; omega) | (right; omega)) _ _ _ _)).rd
          · skip
            refine SeqT.call (by rfl) (fun K hK => ?_)
            go_simp
            obtain ⟨w5, hE23⟩ : ∃ z, z = (w4.alloc (.cells #[.int .i64 0, .int .i64 0, .slice none 0 0, .slice none 0 0] 55)) := ⟨_, rfl⟩
            have b24 : Below w4.heap.size w4 w5 := by rw [hE23]; exact (Below.refl _ _).alloc (Nat.le_refl _) _
            have KE25 : Blk w5 w4.heap.size 55 #[.int .i64 0, .int .i64 0, .slice none 0 0, .slice none 0 0] := by rw [hE23]; exact Blk.new _ _ _ rfl
            rw [← hE23]
            clear hE23 hHeld
            have zzKE25 : w4.heap.size + 1 ≤ w5.heap.size := KE25.lt
            have z4 := b24.size
            refine hK.out _ _ ?_ (fun hHeld => ?_)
            · exact (unhide BX10) _ ((b12.trans (b15.mono (by omega))).trans (b24.mono (by omega)))
            clear hK K
            try simp only [Act.put, List.setIfInBounds_toArray, List.set_cons_zero, List.set_cons_succ]
            refine SeqT.call (by rfl) (fun K hK => ?_)
            go_simp
            refine (unhide HSP A13 C13 RA16 RC16 w5 (O13.kp ((Kp.below b15 (by omega)).trans (Kp.below b24 (by omega)))).rd (O16.kp (Kp.below b24 (by omega))).rd).mono ?_
            rintro e w6 ⟨to26, so26, rfl, o26, o26q, b27⟩
            clear hHeld
            have z5 := b27.size
            have o26 : Own w6 w5.heap.size to26 rx0 := o26
            have o26q : OwnS w6 w5.heap.size so26 ry0 := o26q
            obtain ⟨A28, C28, rfl, _, _⟩ := o26.form
            obtain ⟨RA28, RC28, rfl, _⟩ := o26q.form
            have o26 := o26.toH
            have o26q := o26q.toH
            refine hK.out _ _ ?_ (fun hHeld => ?_)
            · exact (unhide BX10) _ (((b12.trans (b15.mono (by omega))).trans (b24.mono (by omega))).trans (b27.mono (by omega)))
            clear hK K
            try simp only [Act.put, List.setIfInBounds_toArray, List.set_cons_zero, List.set_cons_succ]
            refine SeqT.take (by rfl) (v := ?hv6) (by rfl) ?hy6 ?hr6
            case hy6 =>
             intro w hSw
             try dsimp only at hSw
             go_simp
             try (with_reducible rfl)
            try simp only [Act.put, List.setIfInBounds_toArray, List.set_cons_zero, List.set_cons_succ]
            refine SeqT.take (by rfl) (v := ?hv7) (by rfl) ?hy7 ?hr7
            case hy7 =>
             intro w hSw
             try dsimp only at hSw
             go_simp
             try (with_reducible rfl)
            try simp only [Act.put, List.setIfInBounds_toArray, List.set_cons_zero, List.set_cons_succ]
            refine SeqT.take (by rfl) (v := ?hv8) (by rfl) ?hy8 ?hr8
            case hy8 =>
             intro w hSw
             try dsimp only at hSw
             go_simp
             try (with_reducible rfl)
            try simp only [Act.put, List.setIfInBounds_toArray, List.set_cons_zero, List.set_cons_succ]
            have k4 := (KE25.kp (Kp.below b27 (by omega)))
            have f0 := k4.cell 0
            have gf0 := k4.frozen 0
            have f1 := k4.cell 1
            have gf1 := k4.frozen 1
            have f2 := k4.cell 2
            have gf2 := k4.frozen 2
            have f3 := k4.cell 3
            have gf3 := k4.frozen 3
            refine SeqT.call (by rfl) (fun K hK => ?_)
            go_simp
            refine hK.out _ _ ?_ (fun hHeld => ?_)
            · exact (unhide BX10) _ (Below.set4 (((b12.trans (b15.mono (by omega))).trans (b24.mono (by omega))).trans (b27.mono (by omega))) (by omega) _ _ _ _)
            clear hK K
            try simp only [Act.put, List.setIfInBounds_toArray, List.set_cons_zero, List.set_cons_succ]
            refine SeqT.last (by rfl) (fun K hK => ?_)
            go_simp
            refine hK.out _ _ ?_
            clear hK K
            try simp only [Act.put, List.setIfInBounds_toArray, List.set_cons_zero, List.set_cons_succ]
            refine SeqT.done (NoPanic.normal ?_)
            go_wp2
            go_meet
            refine ⟨_, _, _, _, _, rfl, rfl, k4.b4.store _ _ _ _, ?_, ?_, Below.set4 (((b12.trans (b15.mono (by omega))).trans (b24.mono (by omega))).trans (b27.mono (by omega))) (by omega) _ _ _ _⟩
            · exact (o26.kp (kp_set4 (by first | (left; omega) | (right; omega)) _ _ _ _)).rd
            · exact (o26q.kp (kp_set4 (by first | (left; omega) | (right; omega)) _ _ _ _)).rd
        · skip
          refine SeqT.call (by rfl) (fun K hK => ?_)
          go_simp
          obtain ⟨w4, hE29⟩ : ∃ z, z = (w3.alloc (.cells #[.int .i64 0, .int .i64 0, .slice none 0 0, .slice none 0 0] 55)) := ⟨_, rfl⟩
          have b30 : Below w3.heap.size w3 w4 := by rw [hE29]; exact (Below.refl _ _).alloc (Nat.le_refl _) _
          have KE31 : Blk w4 w3.heap.size 55 #[.int .i64 0, .int .i64 0, .slice none 0 0, .slice none 0 0] := by rw [hE29]; exact Blk.new _ _ _ rfl
          rw [← hE29]
          clear hE29 hHeld
          have zzKE31 : w3.heap.size + 1 ≤ w4.heap.size := KE31.lt
          have z3 := b30.size
          refine hK.out _ _ ?_ (fun hHeld => ?_)
          · exact (unhide BX10) _ (b12.trans (b30.mono (by omega)))
          clear hK K
          try simp only [Act.put, List.setIfInBounds_toArray, List.set_cons_zero, List.set_cons_succ]
          refine SeqT.call (by rfl) (fun K hK => ?_)
          go_simp
          refine (toDesign_any p1 ra1 rc1 xss1 w4 (RR1.kp ((((Kp.below b3 (by omega)).trans (Kp.below b7 (by omega))).trans (Kp.below b12 (by omega))).trans (Kp.below b30 (by omega))))).mono ?_
          rintro e w5 ⟨to32, rfl, o32, b33⟩
          clear hHeld
          have z4 := b33.size
          obtain ⟨RA34, RC34, rfl, _⟩ := o32.form
          have O34 := o32.toH
          clear o32
          refine hK.out _ _ ?_ (fun hHeld => ?_)
          · exact (unhide BX10) _ ((b12.trans (b30.mono (by omega))).trans (b33.mono (by omega)))
          clear hK K
          try simp only [Act.put, List.setIfInBounds_toArray, List.set_cons_zero, List.set_cons_succ]
          refine SeqT.call (by rfl) (fun K hK => ?_)
          go_simp
          refine (unhide HSP A13 C13 RA34 RC34 w5 (O13.kp ((Kp.below b30 (by omega)).trans (Kp.below b33 (by omega)))).rd O34.rd).mono ?_
          rintro e w6 ⟨to35, so35, rfl, o35, o35q, b36⟩
          clear hHeld
          have z5 := b36.size
          have o35 : Own w6 w5.heap.size to35 rx0 := o35
          have o35q : OwnS w6 w5.heap.size so35 ry0 := o35q
          obtain ⟨A37, C37, rfl, _, _⟩ := o35.form
          obtain ⟨RA37, RC37, rfl, _⟩ := o35q.form
          have o35 := o35.toH
          have o35q := o35q.toH
          refine hK.out _ _ ?_ (fun hHeld => ?_)
          · exact (unhide BX10) _ (((b12.trans (b30.mono (by omega))).trans (b33.mono (by omega))).trans (b36.mono (by omega)))
          clear hK K
          try simp only [Act.put, List.setIfInBounds_toArray, List.set_cons_zero, List.set_cons_succ]
          refine SeqT.take (by rfl) (v := ?hv9) (by rfl) ?hy9 ?hr9
          case hy9 =>
           intro w hSw
           try dsimp only at hSw
           go_simp
           try (with_reducible rfl)
          try simp only [Act.put, List.setIfInBounds_toArray, List.set_cons_zero, List.set_cons_succ]
          refine SeqT.take (by rfl) (v := ?hv10) (by rfl) ?hy10 ?hr10
          case hy10 =>
           intro w hSw
           try dsimp only at hSw
           go_simp
           try (with_reducible rfl)
          try simp only [Act.put, List.setIfInBounds_toArray, List.set_cons_zero, List.set_cons_succ]
          refine SeqT.take (by rfl) (v := ?hv11) (by rfl) ?hy11 ?hr11
          case hy11 =>
           intro w hSw
           try dsimp only at hSw
           go_simp
           try (with_reducible rfl)
          try simp only [Act.put, List.setIfInBounds_toArray, List.set_cons_zero, List.set_cons_succ]
          have k4 := (KE31.kp ((Kp.below b33 (by omega)).trans (Kp.below b36 (by omega))))
          have f0 := k4.cell 0
          have gf0 := k4.frozen 0
          have f1 := k4.cell 1
          have gf1 := k4.frozen 1
          have f2 := k4.cell 2
          have gf2 := k4.frozen 2
          have f3 := k4.cell 3
          have gf3 := k4.frozen 3
          refine SeqT.call (by rfl) (fun K hK => ?_)
          go_simp
          refine hK.out _ _ ?_ (fun hHeld => ?_)
          · exact (unhide BX10) _ (Below.set4 (((b12.trans (b30.mono (by omega))).trans (b33.mono (by omega))).trans (b36.mono (by omega))) (by omega) _ _ _ _)
          clear hK K
          try simp only [Act.put, List.setIfInBounds_toArray, List.set_cons_zero, List.set_cons_succ]
          refine SeqT.last (by rfl) (fun K hK => ?_)
          go_simp
          refine hK.out _ _ ?_
          clear hK K
          try simp only [Act.put, List.setIfInBounds_toArray, List.set_cons_zero, List.set_cons_succ]
          refine SeqT.done (NoPanic.normal ?_)
          go_wp2
          go_meet
          refine ⟨_, _, _, _, _, rfl, rfl, k4.b4.store _ _ _ _, ?_, ?_, Below.set4 (((b12.trans (b30.mono (by omega))).trans (b33.mono (by omega))).trans (b36.mono (by omega))) (by omega) _ _ _ _⟩
          · exact (o35.kp (kp_set4 (by first | (left; omega) | (right; omega)) _ _ _ _)).rd
          · exact (o35q.kp (kp_set4 (by first | (left; omega) | (right; omega)) _ _ _ _)).rd
      · skip
        refine SeqT.call (by rfl) (fun K hK => ?_)
        go_simp
        obtain ⟨w3, hE38⟩ : ∃ z, z = (w2.alloc (.cells #[.int .i64 0, .int .i64 0, .slice none 0 0, .slice none 0 0] 55)).drew := ⟨_, rfl⟩
        have b39 : Below w2.heap.size w2 w3 := by rw [hE38]; exact ((Below.refl _ _).alloc (Nat.le_refl _) _).drew
        have KE40 : Blk w3 w2.heap.size 55 #[.int .i64 0, .int .i64 0, .slice none 0 0, .slice none 0 0] := by rw [hE38]; exact Blk.new w2 _ _ rfl
        rw [← hE38]
        clear hE38 hHeld
        have zzKE40 : w2.heap.size + 1 ≤ w3.heap.size := KE40.lt
        have z2 := b39.size
        refine hK.out _ _ ?_ (fun hHeld => ?_)
        · exact (unhide BX10) _ b39
        clear hK K
        try simp only [Act.put, List.setIfInBounds_toArray, List.set_cons_zero, List.set_cons_succ]
        refine SeqT.call (by rfl) (fun K hK => ?_)
        go_simp
        refine (toField_any p0 d0 a0 c0 xs0 w3 (H0.kp (((Kp.below b3 (by omega)).trans (Kp.below b7 (by omega))).trans (Kp.below b39 (by omega))))).mono ?_
        rintro e w4 ⟨to41, rfl, o41, b42⟩
        clear hHeld
        have z3 := b42.size
        obtain ⟨A43, C43, rfl, _, _⟩ := o41.form
        have O43 := o41.toH
        clear o41
        refine hK.out _ _ ?_ (fun hHeld => ?_)
        · exact (unhide BX10) _ (b39.trans (b42.mono (by omega)))
        clear hK K
        try simp only [Act.put, List.setIfInBounds_toArray, List.set_cons_zero, List.set_cons_succ]
        refine SeqT.call (by rfl) (fun K hK => ?_)
        go_simp
        refine (toDesign_any p1 ra1 rc1 xss1 w4 (RR1.kp ((((Kp.below b3 (by omega)).trans (Kp.below b7 (by omega))).trans (Kp.below b39 (by omega))).trans (Kp.below b42 (by omega))))).mono ?_
        rintro e w5 ⟨to44, rfl, o44, b45⟩
        clear hHeld
        have z4 := b45.size
        obtain ⟨RA46, RC46, rfl, _⟩ := o44.form
        have O46 := o44.toH
        clear o44
        refine hK.out _ _ ?_ (fun hHeld => ?_)
        · exact (unhide BX10) _ ((b39.trans (b42.mono (by omega))).trans (b45.mono (by omega)))
        clear hK K
        try simp only [Act.put, List.setIfInBounds_toArray, List.set_cons_zero, List.set_cons_succ]
        refine SeqT.call (by rfl) (fun K hK => ?_)
        go_simp
        refine (unhide HSP A43 C43 RA46 RC46 w5 (O43.kp (Kp.below b45 (by omega))).rd O46.rd).mono ?_
        rintro e w6 ⟨to47, so47, rfl, o47, o47q, b48⟩
        clear hHeld
        have z5 := b48.size
        have o47 : Own w6 w5.heap.size to47 rx0 := o47
        have o47q : OwnS w6 w5.heap.size so47 ry0 := o47q
        obtain ⟨A49, C49, rfl, _, _⟩ := o47.form
        obtain ⟨RA49, RC49, rfl, _⟩ := o47q.form
        have o47 := o47.toH
        have o47q := o47q.toH
        refine hK.out _ _ ?_ (fun hHeld => ?_)
        · exact (unhide BX10) _ (((b39.trans (b42.mono (by omega))).trans (b45.mono (by omega))).trans (b48.mono (by omega)))
        clear hK K
        try simp only [Act.put, List.setIfInBounds_toArray, List.set_cons_zero, List.set_cons_succ]
        refine SeqT.take (by rfl) (v := ?hv12) (by rfl) ?hy12 ?hr12
        case hy12 =>
         intro w hSw
         try dsimp only at hSw
         go_simp
         try (with_reducible rfl)
        try simp only [Act.put, List.setIfInBounds_toArray, List.set_cons_zero, List.set_cons_succ]
        refine SeqT.take (by rfl) (v := ?hv13) (by rfl) ?hy13 ?hr13
        case hy13 =>
         intro w hSw
         try dsimp only at hSw
         go_simp
         try (with_reducible rfl)
        try simp only [Act.put, List.setIfInBounds_toArray, List.set_cons_zero, List.set_cons_succ]
        refine SeqT.take (by rfl) (v := ?hv14) (by rfl) ?hy14 ?hr14
        case hy14 =>
         intro w hSw
         try dsimp only at hSw
         go_simp
         try (with_reducible rfl)
        try simp only [Act.put, List.setIfInBounds_toArray, List.set_cons_zero, List.set_cons_succ]
        have k4 := (KE40.kp (((Kp.below b42 (by omega)).trans (Kp.below b45 (by omega))).trans (Kp.below b48 (by omega))))
        have f0 := k4.cell 0
        have gf0 := k4.frozen 0
        have f1 := k4.cell 1
        have gf1 := k4.frozen 1
        have f2 := k4.cell 2
        have gf2 := k4.frozen 2
        have f3 := k4.cell 3
        have gf3 := k4.frozen 3
        refine SeqT.call (by rfl) (fun K hK => ?_)
        go_simp
        refine hK.out _ _ ?_ (fun hHeld => ?_)
        · exact (unhide BX10) _ (Below.set4 (((b39.trans (b42.mono (by omega))).trans (b45.mono (by omega))).trans (b48.mono (by omega))) (by omega) _ _ _ _)
        clear hK K
        try simp only [Act.put, List.setIfInBounds_toArray, List.set_cons_zero, List.set_cons_succ]
        refine SeqT.last (by rfl) (fun K hK => ?_)
        go_simp
        refine hK.out _ _ ?_
        clear hK K
        try simp only [Act.put, List.setIfInBounds_toArray, List.set_cons_zero, List.set_cons_succ]
        refine SeqT.done (NoPanic.normal ?_)
        go_wp2
        go_meet
        refine ⟨_, _, _, _, _, rfl, rfl, k4.b4.store _ _ _ _, ?_, ?_, Below.set4 (((b39.trans (b42.mono (by omega))).trans (b45.mono (by omega))).trans (b48.mono (by omega))) (by omega) _ _ _ _⟩
        · exact (o47.kp (kp_set4 (by first | (left; omega) | (right; omega)) _ _ _ _)).rd
        · exact (o47q.kp (kp_set4 (by first | (left; omega) | (right; omega)) _ _ _ _)).rd
     case rest =>
      obtain ⟨BE50, A50, C50, RA50, RC50, rfl, rfl, KB50, H50, RR50, bR50⟩ := hcut
      rename World => w3
      have zz50 : BE50 + 1 ≤ w3.heap.size := KB50.lt
      have z2 := bR50.size
      have f51 : w3.cell? ⟨w.heap.size, 0, none⟩ = some (.int .i64 p0) := (kA0.kp (((Kp.below b3 (by omega)).trans (Kp.below b7 (by omega))).trans (Kp.below bR50 (by omega)))).cell 0
      have f52 : w3.cell? ⟨w.heap.size, 1, none⟩ = some (.int .i64 d0) := (kA0.kp (((Kp.below b3 (by omega)).trans (Kp.below b7 (by omega))).trans (Kp.below bR50 (by omega)))).cell 1
      have f53 : w3.cell? ⟨w.heap.size, 2, none⟩ = some (.slice a0 xs0.length c0) := (kA0.kp (((Kp.below b3 (by omega)).trans (Kp.below b7 (by omega))).trans (Kp.below bR50 (by omega)))).cell 2
      go_wp2_with fail
      refine (toField_any p0 d0 a0 c0 xs0 w3 (H0.kp (((Kp.below b3 (by omega)).trans (Kp.below b7 (by omega))).trans (Kp.below bR50 (by omega))))).mono ?_
      rintro e w4 ⟨to54, rfl, o54, b55⟩
      clear f51 f52 f53
      have z3 := b55.size
      obtain ⟨A56, C56, rfl, _, _⟩ := o54.form
      have O56 := o54.toH
      clear o54
      obtain ⟨w5, hP57⟩ : ∃ z, z = w4.alloc (.cells #[.int .i64 p0, .int .i64 d0, .slice A56 xs0.length C56] 26) := ⟨_, rfl⟩
      have b58 : Below w4.heap.size w4 w5 := by rw [hP57]; exact (Below.refl _ _).alloc (Nat.le_refl _) _
      have K59 : Blk w5 w4.heap.size 26 #[.int .i64 p0, .int .i64 d0, .slice A56 xs0.length C56] := by rw [hP57]; exact Blk.new _ _ _ rfl
      have zz4 : w4.heap.size + 1 ≤ w5.heap.size := K59.lt
      have z4 := b58.size
      have f60 : w5.cell? ⟨(w.heap.size + 1), 0, none⟩ = some (.int .i64 p1) := (kA1.kp (((((Kp.below b3 (by omega)).trans (Kp.below b7 (by omega))).trans (Kp.below bR50 (by omega))).trans (Kp.below b55 (by omega))).trans (Kp.below b58 (by omega)))).cell 0
      have f61 : w5.cell? ⟨(w.heap.size + 1), 1, none⟩ = some (.slice ra1 xss1.length rc1) := (kA1.kp (((((Kp.below b3 (by omega)).trans (Kp.below b7 (by omega))).trans (Kp.below bR50 (by omega))).trans (Kp.below b55 (by omega))).trans (Kp.below b58 (by omega)))).cell 1
      rw [hP57] at f60 f61
      have HP62 := Lib.hid hP57
      clear hP57
      go_wp2_with fail
      rw [← HP62.out]
      refine (toDesign_any p1 ra1 rc1 xss1 w5 (RR1.kp (((((Kp.below b3 (by omega)).trans (Kp.below b7 (by omega))).trans (Kp.below bR50 (by omega))).trans (Kp.below b55 (by omega))).trans (Kp.below b58 (by omega))))).mono ?_
      rintro e w6 ⟨to63, rfl, o63, b64⟩
      clear f60 f61
      have z5 := b64.size
      obtain ⟨RA65, RC65, rfl, _⟩ := o63.form
      have O65 := o63.toH
      clear o63
      obtain ⟨w7, hP66⟩ : ∃ z, z = w6.alloc (.cells #[.int .i64 p1, .slice RA65 xss1.length RC65] 48) := ⟨_, rfl⟩
      have b67 : Below w6.heap.size w6 w7 := by rw [hP66]; exact (Below.refl _ _).alloc (Nat.le_refl _) _
      have K68 : Blk w7 w6.heap.size 48 #[.int .i64 p1, .slice RA65 xss1.length RC65] := by rw [hP66]; exact Blk.new _ _ _ rfl
      have zz6 : w6.heap.size + 1 ≤ w7.heap.size := K68.lt
      have z6 := b67.size
      have f69 : w7.cell? ⟨w4.heap.size, 0, none⟩ = some (.int .i64 p0) := (K59.kp ((Kp.below b64 (by omega)).trans (Kp.below b67 (by omega)))).cell 0
      have f70 : w7.cell? ⟨w4.heap.size, 1, none⟩ = some (.int .i64 d0) := (K59.kp ((Kp.below b64 (by omega)).trans (Kp.below b67 (by omega)))).cell 1
      have f71 : w7.cell? ⟨w4.heap.size, 2, none⟩ = some (.slice A56 xs0.length C56) := (K59.kp ((Kp.below b64 (by omega)).trans (Kp.below b67 (by omega)))).cell 2
      rw [hP66] at f69 f70 f71
      have HP72 := Lib.hid hP66
      clear hP66
      go_wp2_with fail
      rw [← HP72.out]
      refine (unhide HIM A56 C56 RA65 RC65 w7 (O56.kp (((Kp.below b58 (by omega)).trans (Kp.below b64 (by omega))).trans (Kp.below b67 (by omega)))).rd (O65.kp (Kp.below b67 (by omega))).rd).mono ?_
      rintro e w8 ⟨to73, so73, rfl, o73, b74⟩
      clear f69 f70 f71
      have z7 := b74.size
      have o73 : OwnC w8 w7.heap.size to73 so73 rx0 ry0 := o73
      obtain ⟨A75, C75, RA75, RC75, rfl, rfl, _, _⟩ := o73.form
      have O75 := o73.toH (by omega)
      clear o73
      obtain ⟨w9, hP76⟩ : ∃ z, z = w8.alloc (.cells #[.int .i64 rp0, .int .i64 rd0, .slice A75 rx0.length C75, .slice RA75 ry0.length RC75] 55) := ⟨_, rfl⟩
      have b77 : Below w8.heap.size w8 w9 := by rw [hP76]; exact (Below.refl _ _).alloc (Nat.le_refl _) _
      have K78 : Blk w9 w8.heap.size 55 #[.int .i64 rp0, .int .i64 rd0, .slice A75 rx0.length C75, .slice RA75 ry0.length RC75] := by rw [hP76]; exact Blk.new _ _ _ rfl
      have zz8 : w8.heap.size + 1 ≤ w9.heap.size := K78.lt
      have z8 := b77.size
      have f79 : w9.cell? ⟨BE50, 0, none⟩ = some (.int .i64 rp0) := (KB50.kp ((((((Kp.below b55 (by omega)).trans (Kp.below b58 (by omega))).trans (Kp.below b64 (by omega))).trans (Kp.below b67 (by omega))).trans (Kp.below b74 (by omega))).trans (Kp.below b77 (by omega)))).cell 0
      have f80 : w9.cell? ⟨BE50, 1, none⟩ = some (.int .i64 rd0) := (KB50.kp ((((((Kp.below b55 (by omega)).trans (Kp.below b58 (by omega))).trans (Kp.below b64 (by omega))).trans (Kp.below b67 (by omega))).trans (Kp.below b74 (by omega))).trans (Kp.below b77 (by omega)))).cell 1
      have f81 : w9.cell? ⟨BE50, 2, none⟩ = some (.slice A50 rx0.length C50) := (KB50.kp ((((((Kp.below b55 (by omega)).trans (Kp.below b58 (by omega))).trans (Kp.below b64 (by omega))).trans (Kp.below b67 (by omega))).trans (Kp.below b74 (by omega))).trans (Kp.below b77 (by omega)))).cell 2
      have f82 : w9.cell? ⟨BE50, 3, none⟩ = some (.slice RA50 ry0.length RC50) := (KB50.kp ((((((Kp.below b55 (by omega)).trans (Kp.below b58 (by omega))).trans (Kp.below b64 (by omega))).trans (Kp.below b67 (by omega))).trans (Kp.below b74 (by omega))).trans (Kp.below b77 (by omega)))).cell 3
      rw [hP76] at f79 f80 f81 f82
      have HP83 := Lib.hid hP76
      clear hP76
      go_wp2_with fail
      rw [← HP83.out]
      refine (eqCode_any rp0 rd0 rp0 rd0 A75 A50 RA75 RA50 C75 C50 RC75 RC50 rx0 rx0 ry0 ry0 w9 (O75.kp (Kp.below b77 (by omega))).rd (H50.kp ((((((Kp.below b55 (by omega)).trans (Kp.below b58 (by omega))).trans (Kp.below b64 (by omega))).trans (Kp.below b67 (by omega))).trans (Kp.below b74 (by omega))).trans (Kp.below b77 (by omega)))) (O75.kp (Kp.below b77 (by omega))).rds (RR50.kp ((((((Kp.below b55 (by omega)).trans (Kp.below b58 (by omega))).trans (Kp.below b64 (by omega))).trans (Kp.below b67 (by omega))).trans (Kp.below b74 (by omega))).trans (Kp.below b77 (by omega))))).mono ?_
      rintro e w10 ⟨rfl, b84⟩
      rw [sameC_self]
      clear f79 f80 f81 f82
      have z9 := b84.size
      have Y85 := (O56.kp ((((((Kp.below b58 (by omega)).trans (Kp.below b64 (by omega))).trans (Kp.below b67 (by omega))).trans (Kp.below b74 (by omega))).trans (Kp.below b77 (by omega))).trans (Kp.below b84 (by omega)))).rd
      have X85h := (H0.kp ((((((((((Kp.below b3 (by omega)).trans (Kp.below b7 (by omega))).trans (Kp.below bR50 (by omega))).trans (Kp.below b55 (by omega))).trans (Kp.below b58 (by omega))).trans (Kp.below b64 (by omega))).trans (Kp.below b67 (by omega))).trans (Kp.below b74 (by omega))).trans (Kp.below b77 (by omega))).trans (Kp.below b84 (by omega))))
      have K86 := (K59.kp (((((Kp.below b64 (by omega)).trans (Kp.below b67 (by omega))).trans (Kp.below b74 (by omega))).trans (Kp.below b77 (by omega))).trans (Kp.below b84 (by omega))))
      have K87 := (kA0.kp ((((((((((Kp.below b3 (by omega)).trans (Kp.below b7 (by omega))).trans (Kp.below bR50 (by omega))).trans (Kp.below b55 (by omega))).trans (Kp.below b58 (by omega))).trans (Kp.below b64 (by omega))).trans (Kp.below b67 (by omega))).trans (Kp.below b74 (by omega))).trans (Kp.below b77 (by omega))).trans (Kp.below b84 (by omega))))
      have BX88' : ∀ (W : World), Below w10.heap.size w10 W → (Below w10.heap.size w10 W ∧ W.cell? ⟨w4.heap.size, 0, none⟩ = some (.int .i64 p0) ∧ W.cell? ⟨w4.heap.size, 1, none⟩ = some (.int .i64 d0) ∧ W.cell? ⟨w4.heap.size, 2, none⟩ = some (.slice A56 xs0.length C56) ∧ W.cell? ⟨w.heap.size, 0, none⟩ = some (.int .i64 p0) ∧ W.cell? ⟨w.heap.size, 1, none⟩ = some (.int .i64 d0) ∧ W.cell? ⟨w.heap.size, 2, none⟩ = some (.slice a0 xs0.length c0)) := fun _ h => ⟨h, (K86.below h K86.lt).cell 0, (K86.below h K86.lt).cell 1, (K86.below h K86.lt).cell 2, (K87.below h K87.lt).cell 0, (K87.below h K87.lt).cell 1, (K87.below h K87.lt).cell 2⟩
      have BX88 := hide BX88'
      clear BX88'
      go_upto_region 14 with fail
      go_region_held3 (fun W => Below w10.heap.size w10 W ∧ W.cell? ⟨w4.heap.size, 0, none⟩ = some (.int .i64 p0) ∧ W.cell? ⟨w4.heap.size, 1, none⟩ = some (.int .i64 d0) ∧ W.cell? ⟨w4.heap.size, 2, none⟩ = some (.slice A56 xs0.length C56) ∧ W.cell? ⟨w.heap.size, 0, none⟩ = some (.int .i64 p0) ∧ W.cell? ⟨w.heap.size, 1, none⟩ = some (.int .i64 d0) ∧ W.cell? ⟨w.heap.size, 2, none⟩ = some (.slice a0 xs0.length c0))
       (first | exact (unhide BX88) _ (Below.refl _ _) | exact (unhide BX88) _ ((Below.refl _ _).drew) | exact (unhide BX88) _ (by assumption))
       (first
        | (go_at_call_of 25 (Value.slice a0 xs0.length c0); refine (toField_any p0 d0 a0 c0 xs0 _ ?_).mono ?_; exact X85h.below (And.left (by assumption)); rintro e W85 ⟨t85, rfl, o85, bb85⟩; obtain ⟨A85, C85, rfl, rr85, _⟩ := o85.form; have hB85 := Below.chain (a := w10) (And.left (by assumption)) bb85)
        | (go_at_call 28; refine (eqField_any p0 d0 p0 d0 A56 A85 C56 C85 xs0 xs0 _ (Y85.below hB85) rr85).mono ?_; rintro e w11 ⟨rfl, bc85⟩; have b85e := Below.chain hB85 bc85; rw [sameF_self]))
      clear BX88
      have z10 := b85e.size
      have Y89 := (O65.kp (((((Kp.below b67 (by omega)).trans (Kp.below b74 (by omega))).trans (Kp.below b77 (by omega))).trans (Kp.below b84 (by omega))).trans (Kp.below b85e (by omega)))).rd
      have X89r := (RR1.kp (((((((((((Kp.below b3 (by omega)).trans (Kp.below b7 (by omega))).trans (Kp.below bR50 (by omega))).trans (Kp.below b55 (by omega))).trans (Kp.below b58 (by omega))).trans (Kp.below b64 (by omega))).trans (Kp.below b67 (by omega))).trans (Kp.below b74 (by omega))).trans (Kp.below b77 (by omega))).trans (Kp.below b84 (by omega))).trans (Kp.below b85e (by omega))))
      have K90 := (K68.kp ((((Kp.below b74 (by omega)).trans (Kp.below b77 (by omega))).trans (Kp.below b84 (by omega))).trans (Kp.below b85e (by omega))))
      have K91 := (kA1.kp (((((((((((Kp.below b3 (by omega)).trans (Kp.below b7 (by omega))).trans (Kp.below bR50 (by omega))).trans (Kp.below b55 (by omega))).trans (Kp.below b58 (by omega))).trans (Kp.below b64 (by omega))).trans (Kp.below b67 (by omega))).trans (Kp.below b74 (by omega))).trans (Kp.below b77 (by omega))).trans (Kp.below b84 (by omega))).trans (Kp.below b85e (by omega))))
      have BX92' : ∀ (W : World), Below w11.heap.size w11 W → (Below w11.heap.size w11 W ∧ W.cell? ⟨w6.heap.size, 0, none⟩ = some (.int .i64 p1) ∧ W.cell? ⟨w6.heap.size, 1, none⟩ = some (.slice RA65 xss1.length RC65) ∧ W.cell? ⟨(w.heap.size + 1), 0, none⟩ = some (.int .i64 p1) ∧ W.cell? ⟨(w.heap.size + 1), 1, none⟩ = some (.slice ra1 xss1.length rc1)) := fun _ h => ⟨h, (K90.below h K90.lt).cell 0, (K90.below h K90.lt).cell 1, (K91.below h K91.lt).cell 0, (K91.below h K91.lt).cell 1⟩
      have BX92 := hide BX92'
      clear BX92'
      go_upto_region 16 with fail
      go_region_held3 (fun W => Below w11.heap.size w11 W ∧ W.cell? ⟨w6.heap.size, 0, none⟩ = some (.int .i64 p1) ∧ W.cell? ⟨w6.heap.size, 1, none⟩ = some (.slice RA65 xss1.length RC65) ∧ W.cell? ⟨(w.heap.size + 1), 0, none⟩ = some (.int .i64 p1) ∧ W.cell? ⟨(w.heap.size + 1), 1, none⟩ = some (.slice ra1 xss1.length rc1))
       (first | exact (unhide BX92) _ (Below.refl _ _) | exact (unhide BX92) _ ((Below.refl _ _).drew) | exact (unhide BX92) _ (by assumption))
       (first
        | (go_at_call_of 26 (Value.slice ra1 xss1.length rc1); refine (toDesign_any p1 ra1 rc1 xss1 _ ?_).mono ?_; exact X89r.below (And.left (by assumption)); rintro e W89 ⟨t89, rfl, o89, bb89⟩; obtain ⟨RA89, RC89, rfl, rs89⟩ := o89.form; have hB89 := Below.chain (a := w11) (And.left (by assumption)) bb89)
        | (go_at_call 29; refine (eqDesign_any p1 p1 RA65 RA89 RC65 RC89 xss1 xss1 _ (Y89.below hB89) rs89).mono ?_; rintro e w12 ⟨rfl, bc89⟩; have b89e := Below.chain hB89 bc89; rw [sameD_self]))
      clear BX92
      have z11 := b89e.size
      have bdO56 : xs0.length ≤ 1073741824 := O56.1.1
      have bdO65 : (xss1.map List.length).sum ≤ 1152921504606846976 := O65.sum
      have bdO75 : rx0.length ≤ 1073741824 := O75.len
      have beO75 : (ry0.map List.length).sum ≤ 1152921504606846976 := O75.sum
      have f93 : w12.cell? ⟨w4.heap.size, 0, none⟩ = some (.int .i64 p0) := (K59.kp (((((((Kp.below b64 (by omega)).trans (Kp.below b67 (by omega))).trans (Kp.below b74 (by omega))).trans (Kp.below b77 (by omega))).trans (Kp.below b84 (by omega))).trans (Kp.below b85e (by omega))).trans (Kp.below b89e (by omega)))).cell 0
      have f94 : w12.cell? ⟨w4.heap.size, 1, none⟩ = some (.int .i64 d0) := (K59.kp (((((((Kp.below b64 (by omega)).trans (Kp.below b67 (by omega))).trans (Kp.below b74 (by omega))).trans (Kp.below b77 (by omega))).trans (Kp.below b84 (by omega))).trans (Kp.below b85e (by omega))).trans (Kp.below b89e (by omega)))).cell 1
      have f95 : w12.cell? ⟨w4.heap.size, 2, none⟩ = some (.slice A56 xs0.length C56) := (K59.kp (((((((Kp.below b64 (by omega)).trans (Kp.below b67 (by omega))).trans (Kp.below b74 (by omega))).trans (Kp.below b77 (by omega))).trans (Kp.below b84 (by omega))).trans (Kp.below b85e (by omega))).trans (Kp.below b89e (by omega)))).cell 2
      go_wp2_with fail
      refine (markField_any w3.heap.size w4.heap.size p0 d0 A56 xs0.length C56 (1) xs0 w12 rfl (O56.kp ((((((((Kp.below b58 (by omega)).trans (Kp.below b64 (by omega))).trans (Kp.below b67 (by omega))).trans (Kp.below b74 (by omega))).trans (Kp.below b77 (by omega))).trans (Kp.below b84 (by omega))).trans (Kp.below b85e (by omega))).trans (Kp.below b89e (by omega)))) (by omega) (by omega) (by omega) (by omega)).mono ?_
      rintro e w13 ⟨rfl, o97, m96⟩
      clear f93 f94 f95
      have z12 := m96.size
      have f98 : w13.cell? ⟨w6.heap.size, 0, none⟩ = some (.int .i64 p1) := (K68.kp ((((((Kp.below b74 (by omega)).trans (Kp.below b77 (by omega))).trans (Kp.below b84 (by omega))).trans (Kp.below b85e (by omega))).trans (Kp.below b89e (by omega))).trans (Mk.kp m96 (by omega) (by omega)))).cell 0
      have f99 : w13.cell? ⟨w6.heap.size, 1, none⟩ = some (.slice RA65 xss1.length RC65) := (K68.kp ((((((Kp.below b74 (by omega)).trans (Kp.below b77 (by omega))).trans (Kp.below b84 (by omega))).trans (Kp.below b85e (by omega))).trans (Kp.below b89e (by omega))).trans (Mk.kp m96 (by omega) (by omega)))).cell 1
      go_wp2_with fail
      refine (markDesign_any w5.heap.size w6.heap.size p1 RA65 xss1.length RC65 (1 + (xs0.length : Int)) xss1 w13 rfl (O65.kp (((((((Kp.below b67 (by omega)).trans (Kp.below b74 (by omega))).trans (Kp.below b77 (by omega))).trans (Kp.below b84 (by omega))).trans (Kp.below b85e (by omega))).trans (Kp.below b89e (by omega))).trans (Mk.kp m96 (by omega) (by omega)))) (by omega) (by omega) (by omega) (by omega)).mono ?_
      rintro e w14 ⟨rfl, o101, m100⟩
      clear f98 f99
      have z13 := m100.size
      have kn1 : decide (1 + (xs0.length : Int) + (((xss1.map List.length).sum : Nat) : Int) < 0) = false := by rw [decide_eq_false_iff_not]; omega
      have kn2 : 0 ≤ 1 + (xs0.length : Int) + (((xss1.map List.length).sum : Nat) : Int) := by omega
      have f102 : w14.cell? ⟨w8.heap.size, 0, none⟩ = some (.int .i64 rp0) := (K78.kp (((((Kp.below b84 (by omega)).trans (Kp.below b85e (by omega))).trans (Kp.below b89e (by omega))).trans (Mk.kp m96 (by omega) (by omega))).trans (Mk.kp m100 (by omega) (by omega)))).cell 0
      have f103 : w14.cell? ⟨w8.heap.size, 1, none⟩ = some (.int .i64 rd0) := (K78.kp (((((Kp.below b84 (by omega)).trans (Kp.below b85e (by omega))).trans (Kp.below b89e (by omega))).trans (Mk.kp m96 (by omega) (by omega))).trans (Mk.kp m100 (by omega) (by omega)))).cell 1
      have f104 : w14.cell? ⟨w8.heap.size, 2, none⟩ = some (.slice A75 rx0.length C75) := (K78.kp (((((Kp.below b84 (by omega)).trans (Kp.below b85e (by omega))).trans (Kp.below b89e (by omega))).trans (Mk.kp m96 (by omega) (by omega))).trans (Mk.kp m100 (by omega) (by omega)))).cell 2
      have f105 : w14.cell? ⟨w8.heap.size, 3, none⟩ = some (.slice RA75 ry0.length RC75) := (K78.kp (((((Kp.below b84 (by omega)).trans (Kp.below b85e (by omega))).trans (Kp.below b89e (by omega))).trans (Mk.kp m96 (by omega) (by omega))).trans (Mk.kp m100 (by omega) (by omega)))).cell 3
      have f106 : w14.cell? ⟨BE50, 0, none⟩ = some (.int .i64 rp0) := (KB50.kp (((((((((((Kp.below b55 (by omega)).trans (Kp.below b58 (by omega))).trans (Kp.below b64 (by omega))).trans (Kp.below b67 (by omega))).trans (Kp.below b74 (by omega))).trans (Kp.below b77 (by omega))).trans (Kp.below b84 (by omega))).trans (Kp.below b85e (by omega))).trans (Kp.below b89e (by omega))).trans (Mk.kp m96 (by omega) (by omega))).trans (Mk.kp m100 (by omega) (by omega)))).cell 0
      have f107 : w14.cell? ⟨BE50, 1, none⟩ = some (.int .i64 rd0) := (KB50.kp (((((((((((Kp.below b55 (by omega)).trans (Kp.below b58 (by omega))).trans (Kp.below b64 (by omega))).trans (Kp.below b67 (by omega))).trans (Kp.below b74 (by omega))).trans (Kp.below b77 (by omega))).trans (Kp.below b84 (by omega))).trans (Kp.below b85e (by omega))).trans (Kp.below b89e (by omega))).trans (Mk.kp m96 (by omega) (by omega))).trans (Mk.kp m100 (by omega) (by omega)))).cell 1
      have f108 : w14.cell? ⟨BE50, 2, none⟩ = some (.slice A50 rx0.length C50) := (KB50.kp (((((((((((Kp.below b55 (by omega)).trans (Kp.below b58 (by omega))).trans (Kp.below b64 (by omega))).trans (Kp.below b67 (by omega))).trans (Kp.below b74 (by omega))).trans (Kp.below b77 (by omega))).trans (Kp.below b84 (by omega))).trans (Kp.below b85e (by omega))).trans (Kp.below b89e (by omega))).trans (Mk.kp m96 (by omega) (by omega))).trans (Mk.kp m100 (by omega) (by omega)))).cell 2
      have f109 : w14.cell? ⟨BE50, 3, none⟩ = some (.slice RA50 ry0.length RC50) := (KB50.kp (((((((((((Kp.below b55 (by omega)).trans (Kp.below b58 (by omega))).trans (Kp.below b64 (by omega))).trans (Kp.below b67 (by omega))).trans (Kp.below b74 (by omega))).trans (Kp.below b77 (by omega))).trans (Kp.below b84 (by omega))).trans (Kp.below b85e (by omega))).trans (Kp.below b89e (by omega))).trans (Mk.kp m96 (by omega) (by omega))).trans (Mk.kp m100 (by omega) (by omega)))).cell 3
      go_wp2_with fail
      refine (eqCode_any rp0 rd0 rp0 rd0 A75 A50 RA75 RA50 C75 C50 RC75 RC50 rx0 rx0 ry0 ry0 w14 (O75.kp ((((((Kp.below b77 (by omega)).trans (Kp.below b84 (by omega))).trans (Kp.below b85e (by omega))).trans (Kp.below b89e (by omega))).trans (Mk.kp m96 (by omega) (by omega))).trans (Mk.kp m100 (by omega) (by omega)))).rd (H50.kp (((((((((((Kp.below b55 (by omega)).trans (Kp.below b58 (by omega))).trans (Kp.below b64 (by omega))).trans (Kp.below b67 (by omega))).trans (Kp.below b74 (by omega))).trans (Kp.below b77 (by omega))).trans (Kp.below b84 (by omega))).trans (Kp.below b85e (by omega))).trans (Kp.below b89e (by omega))).trans (Mk.kp m96 (by omega) (by omega))).trans (Mk.kp m100 (by omega) (by omega)))) (O75.kp ((((((Kp.below b77 (by omega)).trans (Kp.below b84 (by omega))).trans (Kp.below b85e (by omega))).trans (Kp.below b89e (by omega))).trans (Mk.kp m96 (by omega) (by omega))).trans (Mk.kp m100 (by omega) (by omega)))).rds (RR50.kp (((((((((((Kp.below b55 (by omega)).trans (Kp.below b58 (by omega))).trans (Kp.below b64 (by omega))).trans (Kp.below b67 (by omega))).trans (Kp.below b74 (by omega))).trans (Kp.below b77 (by omega))).trans (Kp.below b84 (by omega))).trans (Kp.below b85e (by omega))).trans (Kp.below b89e (by omega))).trans (Mk.kp m96 (by omega) (by omega))).trans (Mk.kp m100 (by omega) (by omega))))).mono ?_
      rintro e w15 ⟨rfl, b110⟩
      rw [sameC_self]
      clear f102 f103 f104 f105 f106 f107 f108 f109
      have z14 := b110.size
      have f111 : w15.cell? ⟨w8.heap.size, 0, none⟩ = some (.int .i64 rp0) := (K78.kp ((((((Kp.below b84 (by omega)).trans (Kp.below b85e (by omega))).trans (Kp.below b89e (by omega))).trans (Mk.kp m96 (by omega) (by omega))).trans (Mk.kp m100 (by omega) (by omega))).trans (Kp.below b110 (by omega)))).cell 0
      have f112 : w15.cell? ⟨w8.heap.size, 1, none⟩ = some (.int .i64 rd0) := (K78.kp ((((((Kp.below b84 (by omega)).trans (Kp.below b85e (by omega))).trans (Kp.below b89e (by omega))).trans (Mk.kp m96 (by omega) (by omega))).trans (Mk.kp m100 (by omega) (by omega))).trans (Kp.below b110 (by omega)))).cell 1
      have f113 : w15.cell? ⟨w8.heap.size, 2, none⟩ = some (.slice A75 rx0.length C75) := (K78.kp ((((((Kp.below b84 (by omega)).trans (Kp.below b85e (by omega))).trans (Kp.below b89e (by omega))).trans (Mk.kp m96 (by omega) (by omega))).trans (Mk.kp m100 (by omega) (by omega))).trans (Kp.below b110 (by omega)))).cell 2
      have f114 : w15.cell? ⟨w8.heap.size, 3, none⟩ = some (.slice RA75 ry0.length RC75) := (K78.kp ((((((Kp.below b84 (by omega)).trans (Kp.below b85e (by omega))).trans (Kp.below b89e (by omega))).trans (Mk.kp m96 (by omega) (by omega))).trans (Mk.kp m100 (by omega) (by omega))).trans (Kp.below b110 (by omega)))).cell 3
      go_wp2_with fail
      refine (markCode_any w7.heap.size w8.heap.size rp0 rd0 A75 RA75 rx0.length ry0.length C75 RC75 (1) rx0 ry0 w15 rfl rfl (O75.kp (((((((Kp.below b77 (by omega)).trans (Kp.below b84 (by omega))).trans (Kp.below b85e (by omega))).trans (Kp.below b89e (by omega))).trans (Mk.kp m96 (by omega) (by omega))).trans (Mk.kp m100 (by omega) (by omega))).trans (Kp.below b110 (by omega)))) (by omega) (by omega) (by omega) (by omega)).mono ?_
      rintro e w16 ⟨rfl, o116, m115⟩
      clear f111 f112 f113 f114
      have z15 := m115.size
      have kn3 : decide (1 + (rx0.length : Int) + (((ry0.map List.length).sum : Nat) : Int) < 0) = false := by rw [decide_eq_false_iff_not]; omega
      have kn4 : 0 ≤ 1 + (rx0.length : Int) + (((ry0.map List.length).sum : Nat) : Int) := by omega
      have kn5 : (1 + (rx0.length : Int) + (((ry0.map List.length).sum : Nat) : Int) != 1 + (rx0.length : Int) + (((ry0.map List.length).sum : Nat) : Int)) = false := by simp
      have f117 : w16.cell? ⟨w8.heap.size, 0, none⟩ = some (.int .i64 rp0) := (K78.kp (((((((Kp.below b84 (by omega)).trans (Kp.below b85e (by omega))).trans (Kp.below b89e (by omega))).trans (Mk.kp m96 (by omega) (by omega))).trans (Mk.kp m100 (by omega) (by omega))).trans (Kp.below b110 (by omega))).trans (Mk.kp m115 (by omega) (by omega)))).cell 0
      have f118 : w16.cell? ⟨w8.heap.size, 1, none⟩ = some (.int .i64 rd0) := (K78.kp (((((((Kp.below b84 (by omega)).trans (Kp.below b85e (by omega))).trans (Kp.below b89e (by omega))).trans (Mk.kp m96 (by omega) (by omega))).trans (Mk.kp m100 (by omega) (by omega))).trans (Kp.below b110 (by omega))).trans (Mk.kp m115 (by omega) (by omega)))).cell 1
      have f119 : w16.cell? ⟨w8.heap.size, 2, none⟩ = some (.slice A75 rx0.length C75) := (K78.kp (((((((Kp.below b84 (by omega)).trans (Kp.below b85e (by omega))).trans (Kp.below b89e (by omega))).trans (Mk.kp m96 (by omega) (by omega))).trans (Mk.kp m100 (by omega) (by omega))).trans (Kp.below b110 (by omega))).trans (Mk.kp m115 (by omega) (by omega)))).cell 2
      have f120 : w16.cell? ⟨w8.heap.size, 3, none⟩ = some (.slice RA75 ry0.length RC75) := (K78.kp (((((((Kp.below b84 (by omega)).trans (Kp.below b85e (by omega))).trans (Kp.below b89e (by omega))).trans (Mk.kp m96 (by omega) (by omega))).trans (Mk.kp m100 (by omega) (by omega))).trans (Kp.below b110 (by omega))).trans (Mk.kp m115 (by omega) (by omega)))).cell 3
      go_wp2_with fail
      refine (heldCode_any rp0 rd0 A75 RA75 rx0.length ry0.length C75 RC75 1 (ry0.map List.length) w16 (by simp) o116.rd o116.rds (by omega) (by omega)).mono ?_
      rintro e w17 ⟨rfl, b121⟩
      clear f117 f118 f119 f120
      have z16 := b121.size
      have K122 := (kA0.kp (((((((((((((((((Kp.below b3 (by omega)).trans (Kp.below b7 (by omega))).trans (Kp.below bR50 (by omega))).trans (Kp.below b55 (by omega))).trans (Kp.below b58 (by omega))).trans (Kp.below b64 (by omega))).trans (Kp.below b67 (by omega))).trans (Kp.below b74 (by omega))).trans (Kp.below b77 (by omega))).trans (Kp.below b84 (by omega))).trans (Kp.below b85e (by omega))).trans (Kp.below b89e (by omega))).trans (Mk.kp m96 (by omega) (by omega))).trans (Mk.kp m100 (by omega) (by omega))).trans (Kp.below b110 (by omega))).trans (Mk.kp m115 (by omega) (by omega))).trans (Kp.below b121 (by omega))))
      have K123 := (kA1.kp (((((((((((((((((Kp.below b3 (by omega)).trans (Kp.below b7 (by omega))).trans (Kp.below bR50 (by omega))).trans (Kp.below b55 (by omega))).trans (Kp.below b58 (by omega))).trans (Kp.below b64 (by omega))).trans (Kp.below b67 (by omega))).trans (Kp.below b74 (by omega))).trans (Kp.below b77 (by omega))).trans (Kp.below b84 (by omega))).trans (Kp.below b85e (by omega))).trans (Kp.below b89e (by omega))).trans (Mk.kp m96 (by omega) (by omega))).trans (Mk.kp m100 (by omega) (by omega))).trans (Kp.below b110 (by omega))).trans (Mk.kp m115 (by omega) (by omega))).trans (Kp.below b121 (by omega))))
      have BX124' : ∀ (W : World), Below w17.heap.size w17 W → (Below w17.heap.size w17 W ∧ W.cell? ⟨w.heap.size, 0, none⟩ = some (.int .i64 p0) ∧ W.cell? ⟨w.heap.size, 1, none⟩ = some (.int .i64 d0) ∧ W.cell? ⟨w.heap.size, 2, none⟩ = some (.slice a0 xs0.length c0) ∧ W.cell? ⟨(w.heap.size + 1), 0, none⟩ = some (.int .i64 p1) ∧ W.cell? ⟨(w.heap.size + 1), 1, none⟩ = some (.slice ra1 xss1.length rc1)) := fun _ h => ⟨h, (K122.below h K122.lt).cell 0, (K122.below h K122.lt).cell 1, (K122.below h K122.lt).cell 2, (K123.below h K123.lt).cell 0, (K123.below h K123.lt).cell 1⟩
      have BX124 := hide BX124'
      clear BX124'
      go_upto_region 31 with fail
      go_cut [15, 16] from 94 to 101 (fun vP vI wx => ∃ bE A C RA RC, vP = .pointer (some ⟨bE, 0, none⟩) ∧ vI = .int .i64 r1 ∧ Blk wx bE 55 #[.int .i64 rp0, .int .i64 rd0, .slice A rx0.length C, .slice RA ry0.length RC] ∧ Rd wx A rx0 ∧ RdS wx RA ry0 ∧ Below w17.heap.size w17 wx)
      case first =>
       refine wp_region_noPanic ?_
       refine wp_region_tree (S := (fun W => Below w17.heap.size w17 W ∧ W.cell? ⟨w.heap.size, 0, none⟩ = some (.int .i64 p0) ∧ W.cell? ⟨w.heap.size, 1, none⟩ = some (.int .i64 d0) ∧ W.cell? ⟨w.heap.size, 2, none⟩ = some (.slice a0 xs0.length c0) ∧ W.cell? ⟨(w.heap.size + 1), 0, none⟩ = some (.int .i64 p1) ∧ W.cell? ⟨(w.heap.size + 1), 1, none⟩ = some (.slice ra1 xss1.length rc1))) 10 (.take 0 (.take 2 (.two 1 8 (.two 3 8 (.two 4 8 (.take 5 (.take 6 (.take 7 (.call 8 (.call 9 (.last 10 .done)))))) (.call 4 (.take 5 (.take 6 (.take 7 (.call 9 (.last 10 .done))))))) (.call 3 (.call 4 (.take 5 (.take 6 (.take 7 (.call 9 (.last 10 .done)))))))) (.call 1 (.call 3 (.call 4 (.take 5 (.take 6 (.take 7 (.call 9 (.last 10 .done))))))))))) (by kernel_rfl) (by kernel_rfl) (by kernel_rfl) (by decide) (fun _ _ _ _ _ h => h) ?_ (fun hHeld => ?_)
       · exact (unhide BX124) _ (Below.refl _ _).drew
       refine SeqT.take (by rfl) (v := ?hv15) (by rfl) ?hy15 ?hr15
       case hy15 =>
        intro w hSw
        try dsimp only at hSw
        go_simp
        try (with_reducible rfl)
       try simp only [Act.put, List.setIfInBounds_toArray, List.set_cons_zero, List.set_cons_succ]
       refine SeqT.take (by rfl) (v := ?hv16) (by rfl) ?hy16 ?hr16
       case hy16 =>
        intro w hSw
        try dsimp only at hSw
        go_simp
        try (with_reducible rfl)
       try simp only [Act.put, List.setIfInBounds_toArray, List.set_cons_zero, List.set_cons_succ]
       refine SeqT.two ?_ ?_
       · skip
         refine SeqT.call (by rfl) (fun K hK => ?_)
         go_simp
         refine (toField_any p0 d0 a0 c0 xs0 _ ((H0.kp (((((((((((((((((Kp.below b3 (by omega)).trans (Kp.below b7 (by omega))).trans (Kp.below bR50 (by omega))).trans (Kp.below b55 (by omega))).trans (Kp.below b58 (by omega))).trans (Kp.below b64 (by omega))).trans (Kp.below b67 (by omega))).trans (Kp.below b74 (by omega))).trans (Kp.below b77 (by omega))).trans (Kp.below b84 (by omega))).trans (Kp.below b85e (by omega))).trans (Kp.below b89e (by omega))).trans (Mk.kp m96 (by omega) (by omega))).trans (Mk.kp m100 (by omega) (by omega))).trans (Kp.below b110 (by omega))).trans (Mk.kp m115 (by omega) (by omega))).trans (Kp.below b121 (by omega)))).below (And.left hHeld))).mono ?_
         rintro e w18 ⟨to125, rfl, o125, b126⟩
         have o125 := o125.mono (And.left hHeld).size
         have b126 := Below.chain (a := w17) (And.left hHeld) b126
         clear hHeld
         have z17 := b126.size
         obtain ⟨A127, C127, rfl, _, _⟩ := o125.form
         have O127 := o125.toH
         clear o125
         refine hK.out _ _ ?_ (fun hHeld => ?_)
         · exact (unhide BX124) _ b126
         clear hK K
         try simp only [Act.put, List.setIfInBounds_toArray, List.set_cons_zero, List.set_cons_succ]
         refine SeqT.two ?_ ?_
         · skip
           refine SeqT.call (by rfl) (fun K hK => ?_)
           go_simp
           refine (toDesign_any p1 ra1 rc1 xss1 w18 (RR1.kp ((((((((((((((((((Kp.below b3 (by omega)).trans (Kp.below b7 (by omega))).trans (Kp.below bR50 (by omega))).trans (Kp.below b55 (by omega))).trans (Kp.below b58 (by omega))).trans (Kp.below b64 (by omega))).trans (Kp.below b67 (by omega))).trans (Kp.below b74 (by omega))).trans (Kp.below b77 (by omega))).trans (Kp.below b84 (by omega))).trans (Kp.below b85e (by omega))).trans (Kp.below b89e (by omega))).trans (Mk.kp m96 (by omega) (by omega))).trans (Mk.kp m100 (by omega) (by omega))).trans (Kp.below b110 (by omega))).trans (Mk.kp m115 (by omega) (by omega))).trans (Kp.below b121 (by omega))).trans (Kp.below b126 (by omega))))).mono ?_
           rintro e w19 ⟨to128, rfl, o128, b129⟩
           clear hHeld
           have z18 := b129.size
           obtain ⟨RA130, RC130, rfl, _⟩ := o128.form
           have O130 := o128.toH
           clear o128
           refine hK.out _ _ ?_ (fun hHeld => ?_)
           · exact (unhide BX124) _ (b126.trans (b129.mono (by omega)))
           clear hK K
           try simp only [Act.put, List.setIfInBounds_toArray, List.set_cons_zero, List.set_cons_succ]
           refine SeqT.two ?_ ?_
           · skip
             refine SeqT.call (by rfl) (fun K hK => ?_)
             go_simp
             refine (unhide HIM A127 C127 RA130 RC130 w19 (O127.kp (Kp.below b129 (by omega))).rd O130.rd).mono ?_
             rintro e w20 ⟨to131, so131, rfl, o131, b132⟩
             clear hHeld
             have z19 := b132.size
             have o131 : OwnC w20 w19.heap.size to131 so131 rx0 ry0 := o131
             obtain ⟨A133, C133, RA133, RC133, rfl, rfl, _, _⟩ := o131.form
             have o131 := o131.toH (by omega)
             refine hK.out _ _ ?_ (fun hHeld => ?_)
             · exact (unhide BX124) _ ((b126.trans (b129.mono (by omega))).trans (b132.mono (by omega)))
             clear hK K
             try simp only [Act.put, List.setIfInBounds_toArray, List.set_cons_zero, List.set_cons_succ]
             refine SeqT.take (by rfl) (v := ?hv17) (by rfl) ?hy17 ?hr17
             case hy17 =>
              intro w hSw
              try dsimp only at hSw
              go_simp
              try (with_reducible rfl)
             try simp only [Act.put, List.setIfInBounds_toArray, List.set_cons_zero, List.set_cons_succ]
             refine SeqT.take (by rfl) (v := ?hv18) (by rfl) ?hy18 ?hr18
             case hy18 =>
              intro w hSw
              try dsimp only at hSw
              go_simp
              try (with_reducible rfl)
             try simp only [Act.put, List.setIfInBounds_toArray, List.set_cons_zero, List.set_cons_succ]
             refine SeqT.take (by rfl) (v := ?hv19) (by rfl) ?hy19 ?hr19
             case hy19 =>
              intro w hSw
              try dsimp only at hSw
              go_simp
              try (with_reducible rfl)
             try simp only [Act.put, List.setIfInBounds_toArray, List.set_cons_zero, List.set_cons_succ]
             refine SeqT.call (by rfl) (fun K hK => ?_)
             go_simp
             obtain ⟨w21, hE134⟩ : ∃ z, z = (w20.alloc (.cells #[.int .i64 0, .int .i64 0, .slice none 0 0, .slice none 0 0] 55)) := ⟨_, rfl⟩
             have b135 : Below w20.heap.size w20 w21 := by rw [hE134]; exact (Below.refl _ _).alloc (Nat.le_refl _) _
             have KE136 : Blk w21 w20.heap.size 55 #[.int .i64 0, .int .i64 0, .slice none 0 0, .slice none 0 0] := by rw [hE134]; exact Blk.new _ _ _ rfl
             rw [← hE134]
             clear hE134 hHeld
             have zzKE136 : w20.heap.size + 1 ≤ w21.heap.size := KE136.lt
             have z20 := b135.size
             refine hK.out _ _ ?_ (fun hHeld => ?_)
             · exact (unhide BX124) _ (((b126.trans (b129.mono (by omega))).trans (b132.mono (by omega))).trans (b135.mono (by omega)))
             clear hK K
             try simp only [Act.put, List.setIfInBounds_toArray, List.set_cons_zero, List.set_cons_succ]
             have k4 := KE136
             have f0 := k4.cell 0
             have gf0 := k4.frozen 0
             have f1 := k4.cell 1
             have gf1 := k4.frozen 1
             have f2 := k4.cell 2
             have gf2 := k4.frozen 2
             have f3 := k4.cell 3
             have gf3 := k4.frozen 3
             refine SeqT.call (by rfl) (fun K hK => ?_)
             go_simp
             refine hK.out _ _ ?_ (fun hHeld => ?_)
             · exact (unhide BX124) _ (Below.set4 (((b126.trans (b129.mono (by omega))).trans (b132.mono (by omega))).trans (b135.mono (by omega))) (by omega) _ _ _ _)
             clear hK K
             try simp only [Act.put, List.setIfInBounds_toArray, List.set_cons_zero, List.set_cons_succ]
             refine SeqT.last (by rfl) (fun K hK => ?_)
             go_simp
             refine hK.out _ _ ?_
             clear hK K
             try simp only [Act.put, List.setIfInBounds_toArray, List.set_cons_zero, List.set_cons_succ]
             refine SeqT.done (NoPanic.normal ?_)
             go_wp2
             go_meet
             refine ⟨_, _, _, _, _, rfl, rfl, k4.b4.store _ _ _ _, ?_, ?_, Below.set4 (((b126.trans (b129.mono (by omega))).trans (b132.mono (by omega))).trans (b135.mono (by omega))) (by omega) _ _ _ _⟩
             · exact ((o131.kp (Kp.below b135 (by omega))).kp (kp_set4 (by first | (left; omega) | (right; omega)) _ _ _ _)).rd
             · exact ((o131.kp (Kp.below b135 (by omega))).kp (kp_set4 (by first | (left; omega) | (right; omega)) _ _ _ _)).rds
           · skip
             refine SeqT.call (by rfl) (fun K hK => ?_)
             go_simp
             obtain ⟨w20, hE137⟩ : ∃ z, z = (w19.alloc (.cells #[.int .i64 0, .int .i64 0, .slice none 0 0, .slice none 0 0] 55)) := ⟨_, rfl⟩
             have b138 : Below w19.heap.size w19 w20 := by rw [hE137]; exact (Below.refl _ _).alloc (Nat.le_refl _) _
             have KE139 : Blk w20 w19.heap.size 55 #[.int .i64 0, .int .i64 0, .slice none 0 0, .slice none 0 0] := by rw [hE137]; exact Blk.new _ _ _ rfl
             rw [← hE137]
             clear hE137 hHeld
             have zzKE139 : w19.heap.size + 1 ≤ w20.heap.size := KE139.lt
             have z19 := b138.size
             refine hK.out _ _ ?_ (fun hHeld => ?_)
             · exact (unhide BX124) _ ((b126.trans (b129.mono (by omega))).trans (b138.mono (by omega)))
             clear hK K
             try simp only [Act.put, List.setIfInBounds_toArray, List.set_cons_zero, List.set_cons_succ]
             refine SeqT.call (by rfl) (fun K hK => ?_)
             go_simp
             refine (unhide HIM A127 C127 RA130 RC130 w20 (O127.kp ((Kp.below b129 (by omega)).trans (Kp.below b138 (by omega)))).rd (O130.kp (Kp.below b138 (by omega))).rd).mono ?_
             rintro e w21 ⟨to140, so140, rfl, o140, b141⟩
             clear hHeld
             have z20 := b141.size
             have o140 : OwnC w21 w20.heap.size to140 so140 rx0 ry0 := o140
             obtain ⟨A142, C142, RA142, RC142, rfl, rfl, _, _⟩ := o140.form
             have o140 := o140.toH (by omega)
             refine hK.out _ _ ?_ (fun hHeld => ?_)
             · exact (unhide BX124) _ (((b126.trans (b129.mono (by omega))).trans (b138.mono (by omega))).trans (b141.mono (by omega)))
             clear hK K
             try simp only [Act.put, List.setIfInBounds_toArray, List.set_cons_zero, List.set_cons_succ]
             refine SeqT.take (by rfl) (v := ?hv20) (by rfl) ?hy20 ?hr20
             case hy20 =>
              intro w hSw
              try dsimp only at hSw
              go_simp
              try (with_reducible rfl)
             try simp only [Act.put, List.setIfInBounds_toArray, List.set_cons_zero, List.set_cons_succ]
             refine SeqT.take (by rfl) (v := ?hv21) (by rfl) ?hy21 ?hr21
             case hy21 =>
              intro w hSw
              try dsimp only at hSw
              go_simp
              try (with_reducible rfl)
             try simp only [Act.put, List.setIfInBounds_toArray, List.set_cons_zero, List.set_cons_succ]
             refine SeqT.take (by rfl) (v := ?hv22) (by rfl) ?hy22 ?hr22
             case hy22 =>
              intro w hSw
              try dsimp only at hSw
              go_simp
              try (with_reducible rfl)
             try simp only [Act.put, List.setIfInBounds_toArray, List.set_cons_zero, List.set_cons_succ]
             have k4 := (KE139.kp (Kp.below b141 (by omega)))
             have f0 := k4.cell 0
             have gf0 := k4.frozen 0
             have f1 := k4.cell 1
             have gf1 := k4.frozen 1
             have f2 := k4.cell 2
             have gf2 := k4.frozen 2
             have f3 := k4.cell 3
             have gf3 := k4.frozen 3
             refine SeqT.call (by rfl) (fun K hK => ?_)
             go_simp
             refine hK.out _ _ ?_ (fun hHeld => ?_)
             · exact (unhide BX124) _ (Below.set4 (((b126.trans (b129.mono (by omega))).trans (b138.mono (by omega))).trans (b141.mono (by omega))) (by omega) _ _ _ _)
             clear hK K
             try simp only [Act.put, List.setIfInBounds_toArray, List.set_cons_zero, List.set_cons_succ]
             refine SeqT.last (by rfl) (fun K hK => ?_)
             go_simp
             refine hK.out _ _ ?_
             clear hK K
             try simp only [Act.put, List.setIfInBounds_toArray, List.set_cons_zero, List.set_cons_succ]
             refine SeqT.done (NoPanic.normal ?_)
             go_wp2
             go_meet
             refine ⟨_, _, _, _, _, rfl, rfl, k4.b4.store _ _ _ _, ?_, ?_, Below.set4 (((b126.trans (b129.mono (by omega))).trans (b138.mono (by omega))).trans (b141.mono (by omega))) (by omega) _ _ _ _⟩
             · exact (o140.kp (kp_set4 (by first | (left; omega) | (right; omega)) _ _ _ _)).rd
             · exact (o140.kp (kp_set4 (by first | (left; omega) | (right; omega)) _ _ _ _)).rds
         · skip
           refine SeqT.call (by rfl) (fun K hK => ?_)
           go_simp
           obtain ⟨w19, hE143⟩ : ∃ z, z = (w18.alloc (.cells #[.int .i64 0, .int .i64 0, .slice none 0 0, .slice none 0 0] 55)) := ⟨_, rfl⟩
           have b144 : Below w18.heap.size w18 w19 := by rw [hE143]; exact (Below.refl _ _).alloc (Nat.le_refl _) _
           have KE145 : Blk w19 w18.heap.size 55 #[.int .i64 0, .int .i64 0, .slice none 0 0, .slice none 0 0] := by rw [hE143]; exact Blk.new _ _ _ rfl
           rw [← hE143]
           clear hE143 hHeld
           have zzKE145 : w18.heap.size + 1 ≤ w19.heap.size := KE145.lt
           have z18 := b144.size
           refine hK.out _ _ ?_ (fun hHeld => ?_)
           · exact (unhide BX124) _ (b126.trans (b144.mono (by omega)))
           clear hK K
           try simp only [Act.put, List.setIfInBounds_toArray, List.set_cons_zero, List.set_cons_succ]
           refine SeqT.call (by rfl) (fun K hK => ?_)
           go_simp
           refine (toDesign_any p1 ra1 rc1 xss1 w19 (RR1.kp (((((((((((((((((((Kp.below b3 (by omega)).trans (Kp.below b7 (by omega))).trans (Kp.below bR50 (by omega))).trans (Kp.below b55 (by omega))).trans (Kp.below b58 (by omega))).trans (Kp.below b64 (by omega))).trans (Kp.below b67 (by omega))).trans (Kp.below b74 (by omega))).trans (Kp.below b77 (by omega))).trans (Kp.below b84 (by omega))).trans (Kp.below b85e (by omega))).trans (Kp.below b89e (by omega))).trans (Mk.kp m96 (by omega) (by omega))).trans (Mk.kp m100 (by omega) (by omega))).trans (Kp.below b110 (by omega))).trans (Mk.kp m115 (by omega) (by omega))).trans (Kp.below b121 (by omega))).trans (Kp.below b126 (by omega))).trans (Kp.below b144 (by omega))))).mono ?_
           rintro e w20 ⟨to146, rfl, o146, b147⟩
           clear hHeld
           have z19 := b147.size
           obtain ⟨RA148, RC148, rfl, _⟩ := o146.form
           have O148 := o146.toH
           clear o146
           refine hK.out _ _ ?_ (fun hHeld => ?_)
           · exact (unhide BX124) _ ((b126.trans (b144.mono (by omega))).trans (b147.mono (by omega)))
           clear hK K
           try simp only [Act.put, List.setIfInBounds_toArray, List.set_cons_zero, List.set_cons_succ]
           refine SeqT.call (by rfl) (fun K hK => ?_)
           go_simp
           refine (unhide HIM A127 C127 RA148 RC148 w20 (O127.kp ((Kp.below b144 (by omega)).trans (Kp.below b147 (by omega)))).rd O148.rd).mono ?_
           rintro e w21 ⟨to149, so149, rfl, o149, b150⟩
           clear hHeld
           have z20 := b150.size
           have o149 : OwnC w21 w20.heap.size to149 so149 rx0 ry0 := o149
           obtain ⟨A151, C151, RA151, RC151, rfl, rfl, _, _⟩ := o149.form
           have o149 := o149.toH (by omega)
           refine hK.out _ _ ?_ (fun hHeld => ?_)
           · exact (unhide BX124) _ (((b126.trans (b144.mono (by omega))).trans (b147.mono (by omega))).trans (b150.mono (by omega)))
           clear hK K
           try simp only [Act.put, List.setIfInBounds_toArray, List.set_cons_zero, List.set_cons_succ]
           refine SeqT.take (by rfl) (v := ?hv23) (by rfl) ?hy23 ?hr23
           case hy23 =>
            intro w hSw
            try dsimp only at hSw
            go_simp
            try (with_reducible rfl)
           try simp only [Act.put, List.setIfInBounds_toArray, List.set_cons_zero, List.set_cons_succ]
           refine SeqT.take (by rfl) (v := ?hv24) (by rfl) ?hy24 ?hr24
           case hy24 =>
            intro w hSw
            try dsimp only at hSw
            go_simp
            try (with_reducible rfl)
           try simp only [Act.put, List.setIfInBounds_toArray, List.set_cons_zero, List.set_cons_succ]
           refine SeqT.take (by rfl) (v := ?hv25) (by rfl) ?hy25 ?hr25
           case hy25 =>
            intro w hSw
            try dsimp only at hSw
            go_simp
            try (with_reducible rfl)
           try simp only [Act.put, List.setIfInBounds_toArray, List.set_cons_zero, List.set_cons_succ]
           have k4 := (KE145.kp ((Kp.below b147 (by omega)).trans (Kp.below b150 (by omega))))
           have f0 := k4.cell 0
           have gf0 := k4.frozen 0
           have f1 := k4.cell 1
           have gf1 := k4.frozen 1
           have f2 := k4.cell 2
           have gf2 := k4.frozen 2
           have f3 := k4.cell 3
           have gf3 := k4.frozen 3
           refine SeqT.call (by rfl) (fun K hK => ?_)
           go_simp
           refine hK.out _ _ ?_ (fun hHeld => ?_)
           · exact (unhide BX124) _ (Below.set4 (((b126.trans (b144.mono (by omega))).trans (b147.mono (by omega))).trans (b150.mono (by omega))) (by omega) _ _ _ _)
           clear hK K
           try simp only [Act.put, List.setIfInBounds_toArray, List.set_cons_zero, List.set_cons_succ]
           refine SeqT.last (by rfl) (fun K hK => ?_)
           go_simp
           refine hK.out _ _ ?_
           clear hK K
           try simp only [Act.put, List.setIfInBounds_toArray, List.set_cons_zero, List.set_cons_succ]
           refine SeqT.done (NoPanic.normal ?_)
           go_wp2
           go_meet
           refine ⟨_, _, _, _, _, rfl, rfl, k4.b4.store _ _ _ _, ?_, ?_, Below.set4 (((b126.trans (b144.mono (by omega))).trans (b147.mono (by omega))).trans (b150.mono (by omega))) (by omega) _ _ _ _⟩
           · exact (o149.kp (kp_set4 (by first | (left; omega) | (right; omega)) _ _ _ _)).rd
           · exact (o149.kp (kp_set4 (by first | (left; omega) | (right; omega)) _ _ _ _)).rds
       · skip
         refine SeqT.call (by rfl) (fun K hK => ?_)
         go_simp
         obtain ⟨w18, hE152⟩ : ∃ z, z = (w17.alloc (.cells #[.int .i64 0, .int .i64 0, .slice none 0 0, .slice none 0 0] 55)).drew := ⟨_, rfl⟩
         have b153 : Below w17.heap.size w17 w18 := by rw [hE152]; exact ((Below.refl _ _).alloc (Nat.le_refl _) _).drew
         have KE154 : Blk w18 w17.heap.size 55 #[.int .i64 0, .int .i64 0, .slice none 0 0, .slice none 0 0] := by rw [hE152]; exact Blk.new w17 _ _ rfl
         rw [← hE152]
         clear hE152 hHeld
         have zzKE154 : w17.heap.size + 1 ≤ w18.heap.size := KE154.lt
         have z17 := b153.size
         refine hK.out _ _ ?_ (fun hHeld => ?_)
         · exact (unhide BX124) _ b153
         clear hK K
         try simp only [Act.put, List.setIfInBounds_toArray, List.set_cons_zero, List.set_cons_succ]
         refine SeqT.call (by rfl) (fun K hK => ?_)
         go_simp
         refine (toField_any p0 d0 a0 c0 xs0 w18 (H0.kp ((((((((((((((((((Kp.below b3 (by omega)).trans (Kp.below b7 (by omega))).trans (Kp.below bR50 (by omega))).trans (Kp.below b55 (by omega))).trans (Kp.below b58 (by omega))).trans (Kp.below b64 (by omega))).trans (Kp.below b67 (by omega))).trans (Kp.below b74 (by omega))).trans (Kp.below b77 (by omega))).trans (Kp.below b84 (by omega))).trans (Kp.below b85e (by omega))).trans (Kp.below b89e (by omega))).trans (Mk.kp m96 (by omega) (by omega))).trans (Mk.kp m100 (by omega) (by omega))).trans (Kp.below b110 (by omega))).trans (Mk.kp m115 (by omega) (by omega))).trans (Kp.below b121 (by omega))).trans (Kp.below b153 (by omega))))).mono ?_
         rintro e w19 ⟨to155, rfl, o155, b156⟩
         clear hHeld
         have z18 := b156.size
         obtain ⟨A157, C157, rfl, _, _⟩ := o155.form
         have O157 := o155.toH
         clear o155
         refine hK.out _ _ ?_ (fun hHeld => ?_)
         · exact (unhide BX124) _ (b153.trans (b156.mono (by omega)))
         clear hK K
         try simp only [Act.put, List.setIfInBounds_toArray, List.set_cons_zero, List.set_cons_succ]
         refine SeqT.call (by rfl) (fun K hK => ?_)
         go_simp
         refine (toDesign_any p1 ra1 rc1 xss1 w19 (RR1.kp (((((((((((((((((((Kp.below b3 (by omega)).trans (Kp.below b7 (by omega))).trans (Kp.below bR50 (by omega))).trans (Kp.below b55 (by omega))).trans (Kp.below b58 (by omega))).trans (Kp.below b64 (by omega))).trans (Kp.below b67 (by omega))).trans (Kp.below b74 (by omega))).trans (Kp.below b77 (by omega))).trans (Kp.below b84 (by omega))).trans (Kp.below b85e (by omega))).trans (Kp.below b89e (by omega))).trans (Mk.kp m96 (by omega) (by omega))).trans (Mk.kp m100 (by omega) (by omega))).trans (Kp.below b110 (by omega))).trans (Mk.kp m115 (by omega) (by omega))).trans (Kp.below b121 (by omega))).trans (Kp.below b153 (by omega))).trans (Kp.below b156 (by omega))))).mono ?_
         rintro e w20 ⟨to158, rfl, o158, b159⟩
         clear hHeld
         have z19 := b159.size
         obtain ⟨RA160, RC160, rfl, _⟩ := o158.form
         have O160 := o158.toH
         clear o158
         refine hK.out _ _ ?_ (fun hHeld => ?_)
         · exact (unhide BX124) _ ((b153.trans (b156.mono (by omega))).trans (b159.mono (by omega)))
         clear hK K
         try simp only [Act.put, List.setIfInBounds_toArray, List.set_cons_zero, List.set_cons_succ]
         refine SeqT.call (by rfl) (fun K hK => ?_)
         go_simp
         refine (unhide HIM A157 C157 RA160 RC160 w20 (O157.kp (Kp.below b159 (by omega))).rd O160.rd).mono ?_
         rintro e w21 ⟨to161, so161, rfl, o161, b162⟩
         clear hHeld
         have z20 := b162.size
         have o161 : OwnC w21 w20.heap.size to161 so161 rx0 ry0 := o161
         obtain ⟨A163, C163, RA163, RC163, rfl, rfl, _, _⟩ := o161.form
         have o161 := o161.toH (by omega)
         refine hK.out _ _ ?_ (fun hHeld => ?_)
         · exact (unhide BX124) _ (((b153.trans (b156.mono (by omega))).trans (b159.mono (by omega))).trans (b162.mono (by omega)))
         clear hK K
         try simp only [Act.put, List.setIfInBounds_toArray, List.set_cons_zero, List.set_cons_succ]
         refine SeqT.take (by rfl) (v := ?hv26) (by rfl) ?hy26 ?hr26
         case hy26 =>
          intro w hSw
          try dsimp only at hSw
          go_simp
          try (with_reducible rfl)
         try simp only [Act.put, List.setIfInBounds_toArray, List.set_cons_zero, List.set_cons_succ]
         refine SeqT.take (by rfl) (v := ?hv27) (by rfl) ?hy27 ?hr27
         case hy27 =>
          intro w hSw
          try dsimp only at hSw
          go_simp
          try (with_reducible rfl)
         try simp only [Act.put, List.setIfInBounds_toArray, List.set_cons_zero, List.set_cons_succ]
         refine SeqT.take (by rfl) (v := ?hv28) (by rfl) ?hy28 ?hr28
         case hy28 =>
          intro w hSw
          try dsimp only at hSw
          go_simp
          try (with_reducible rfl)
         try simp only [Act.put, List.setIfInBounds_toArray, List.set_cons_zero, List.set_cons_succ]
         have k4 := (KE154.kp (((Kp.below b156 (by omega)).trans (Kp.below b159 (by omega))).trans (Kp.below b162 (by omega))))
         have f0 := k4.cell 0
         have gf0 := k4.frozen 0
         have f1 := k4.cell 1
         have gf1 := k4.frozen 1
         have f2 := k4.cell 2
         have gf2 := k4.frozen 2
         have f3 := k4.cell 3
         have gf3 := k4.frozen 3
         refine SeqT.call (by rfl) (fun K hK => ?_)
         go_simp
         refine hK.out _ _ ?_ (fun hHeld => ?_)
         · exact (unhide BX124) _ (Below.set4 (((b153.trans (b156.mono (by omega))).trans (b159.mono (by omega))).trans (b162.mono (by omega))) (by omega) _ _ _ _)
         clear hK K
         try simp only [Act.put, List.setIfInBounds_toArray, List.set_cons_zero, List.set_cons_succ]
         refine SeqT.last (by rfl) (fun K hK => ?_)
         go_simp
         refine hK.out _ _ ?_
         clear hK K
         try simp only [Act.put, List.setIfInBounds_toArray, List.set_cons_zero, List.set_cons_succ]
         refine SeqT.done (NoPanic.normal ?_)
         go_wp2
         go_meet
         refine ⟨_, _, _, _, _, rfl, rfl, k4.b4.store _ _ _ _, ?_, ?_, Below.set4 (((b153.trans (b156.mono (by omega))).trans (b159.mono (by omega))).trans (b162.mono (by omega))) (by omega) _ _ _ _⟩
         · exact (o161.kp (kp_set4 (by first | (left; omega) | (right; omega)) _ _ _ _)).rd
         · exact (o161.kp (kp_set4 (by first | (left; omega) | (right; omega)) _ _ _ _)).rds
      case rest =>
       obtain ⟨BE164, A164, C164, RA164, RC164, rfl, rfl, KB164, H164, RR164, bR164⟩ := hcut
       rename World => w18
       have zz164 : BE164 + 1 ≤ w18.heap.size := KB164.lt
       have z17 := bR164.size
       have f165 : w18.cell? ⟨BE164, 0, none⟩ = some (.int .i64 rp0) := KB164.cell 0
       have f166 : w18.cell? ⟨BE164, 1, none⟩ = some (.int .i64 rd0) := KB164.cell 1
       have f167 : w18.cell? ⟨BE164, 2, none⟩ = some (.slice A164 rx0.length C164) := KB164.cell 2
       have f168 : w18.cell? ⟨BE164, 3, none⟩ = some (.slice RA164 ry0.length RC164) := KB164.cell 3
       have f169 : w18.cell? ⟨BE50, 0, none⟩ = some (.int .i64 rp0) := (KB50.kp (((((((((((((((Kp.below b55 (by omega)).trans (Kp.below b58 (by omega))).trans (Kp.below b64 (by omega))).trans (Kp.below b67 (by omega))).trans (Kp.below b74 (by omega))).trans (Kp.below b77 (by omega))).trans (Kp.below b84 (by omega))).trans (Kp.below b85e (by omega))).trans (Kp.below b89e (by omega))).trans (Mk.kp m96 (by omega) (by omega))).trans (Mk.kp m100 (by omega) (by omega))).trans (Kp.below b110 (by omega))).trans (Mk.kp m115 (by omega) (by omega))).trans (Kp.below b121 (by omega))).trans (Kp.below bR164 (by omega)))).cell 0
       have f170 : w18.cell? ⟨BE50, 1, none⟩ = some (.int .i64 rd0) := (KB50.kp (((((((((((((((Kp.below b55 (by omega)).trans (Kp.below b58 (by omega))).trans (Kp.below b64 (by omega))).trans (Kp.below b67 (by omega))).trans (Kp.below b74 (by omega))).trans (Kp.below b77 (by omega))).trans (Kp.below b84 (by omega))).trans (Kp.below b85e (by omega))).trans (Kp.below b89e (by omega))).trans (Mk.kp m96 (by omega) (by omega))).trans (Mk.kp m100 (by omega) (by omega))).trans (Kp.below b110 (by omega))).trans (Mk.kp m115 (by omega) (by omega))).trans (Kp.below b121 (by omega))).trans (Kp.below bR164 (by omega)))).cell 1
       have f171 : w18.cell? ⟨BE50, 2, none⟩ = some (.slice A50 rx0.length C50) := (KB50.kp (((((((((((((((Kp.below b55 (by omega)).trans (Kp.below b58 (by omega))).trans (Kp.below b64 (by omega))).trans (Kp.below b67 (by omega))).trans (Kp.below b74 (by omega))).trans (Kp.below b77 (by omega))).trans (Kp.below b84 (by omega))).trans (Kp.below b85e (by omega))).trans (Kp.below b89e (by omega))).trans (Mk.kp m96 (by omega) (by omega))).trans (Mk.kp m100 (by omega) (by omega))).trans (Kp.below b110 (by omega))).trans (Mk.kp m115 (by omega) (by omega))).trans (Kp.below b121 (by omega))).trans (Kp.below bR164 (by omega)))).cell 2
       have f172 : w18.cell? ⟨BE50, 3, none⟩ = some (.slice RA50 ry0.length RC50) := (KB50.kp (((((((((((((((Kp.below b55 (by omega)).trans (Kp.below b58 (by omega))).trans (Kp.below b64 (by omega))).trans (Kp.below b67 (by omega))).trans (Kp.below b74 (by omega))).trans (Kp.below b77 (by omega))).trans (Kp.below b84 (by omega))).trans (Kp.below b85e (by omega))).trans (Kp.below b89e (by omega))).trans (Mk.kp m96 (by omega) (by omega))).trans (Mk.kp m100 (by omega) (by omega))).trans (Kp.below b110 (by omega))).trans (Mk.kp m115 (by omega) (by omega))).trans (Kp.below b121 (by omega))).trans (Kp.below bR164 (by omega)))).cell 3
       go_wp2_with fail
       refine (eqCode_any rp0 rd0 rp0 rd0 A164 A50 RA164 RA50 C164 C50 RC164 RC50 rx0 rx0 ry0 ry0 w18 H164 (H50.kp (((((((((((((((Kp.below b55 (by omega)).trans (Kp.below b58 (by omega))).trans (Kp.below b64 (by omega))).trans (Kp.below b67 (by omega))).trans (Kp.below b74 (by omega))).trans (Kp.below b77 (by omega))).trans (Kp.below b84 (by omega))).trans (Kp.below b85e (by omega))).trans (Kp.below b89e (by omega))).trans (Mk.kp m96 (by omega) (by omega))).trans (Mk.kp m100 (by omega) (by omega))).trans (Kp.below b110 (by omega))).trans (Mk.kp m115 (by omega) (by omega))).trans (Kp.below b121 (by omega))).trans (Kp.below bR164 (by omega)))) RR164 (RR50.kp (((((((((((((((Kp.below b55 (by omega)).trans (Kp.below b58 (by omega))).trans (Kp.below b64 (by omega))).trans (Kp.below b67 (by omega))).trans (Kp.below b74 (by omega))).trans (Kp.below b77 (by omega))).trans (Kp.below b84 (by omega))).trans (Kp.below b85e (by omega))).trans (Kp.below b89e (by omega))).trans (Mk.kp m96 (by omega) (by omega))).trans (Mk.kp m100 (by omega) (by omega))).trans (Kp.below b110 (by omega))).trans (Mk.kp m115 (by omega) (by omega))).trans (Kp.below b121 (by omega))).trans (Kp.below bR164 (by omega))))).mono ?_
       rintro e w19 ⟨rfl, b173⟩
       rw [sameC_self]
       clear f165 f166 f167 f168 f169 f170 f171 f172
       have z18 := b173.size
       have f174 : w19.cell? ⟨w8.heap.size, 0, none⟩ = some (.int .i64 rp0) := (K78.kp ((((((((((Kp.below b84 (by omega)).trans (Kp.below b85e (by omega))).trans (Kp.below b89e (by omega))).trans (Mk.kp m96 (by omega) (by omega))).trans (Mk.kp m100 (by omega) (by omega))).trans (Kp.below b110 (by omega))).trans (Mk.kp m115 (by omega) (by omega))).trans (Kp.below b121 (by omega))).trans (Kp.below bR164 (by omega))).trans (Kp.below b173 (by omega)))).cell 0
       have f175 : w19.cell? ⟨w8.heap.size, 1, none⟩ = some (.int .i64 rd0) := (K78.kp ((((((((((Kp.below b84 (by omega)).trans (Kp.below b85e (by omega))).trans (Kp.below b89e (by omega))).trans (Mk.kp m96 (by omega) (by omega))).trans (Mk.kp m100 (by omega) (by omega))).trans (Kp.below b110 (by omega))).trans (Mk.kp m115 (by omega) (by omega))).trans (Kp.below b121 (by omega))).trans (Kp.below bR164 (by omega))).trans (Kp.below b173 (by omega)))).cell 1
       have f176 : w19.cell? ⟨w8.heap.size, 2, none⟩ = some (.slice A75 rx0.length C75) := (K78.kp ((((((((((Kp.below b84 (by omega)).trans (Kp.below b85e (by omega))).trans (Kp.below b89e (by omega))).trans (Mk.kp m96 (by omega) (by omega))).trans (Mk.kp m100 (by omega) (by omega))).trans (Kp.below b110 (by omega))).trans (Mk.kp m115 (by omega) (by omega))).trans (Kp.below b121 (by omega))).trans (Kp.below bR164 (by omega))).trans (Kp.below b173 (by omega)))).cell 2
       have f177 : w19.cell? ⟨w8.heap.size, 3, none⟩ = some (.slice RA75 ry0.length RC75) := (K78.kp ((((((((((Kp.below b84 (by omega)).trans (Kp.below b85e (by omega))).trans (Kp.below b89e (by omega))).trans (Mk.kp m96 (by omega) (by omega))).trans (Mk.kp m100 (by omega) (by omega))).trans (Kp.below b110 (by omega))).trans (Mk.kp m115 (by omega) (by omega))).trans (Kp.below b121 (by omega))).trans (Kp.below bR164 (by omega))).trans (Kp.below b173 (by omega)))).cell 3
       go_wp2_with fail
       refine (heldCode_any rp0 rd0 A75 RA75 rx0.length ry0.length C75 RC75 1 (ry0.map List.length) w19 (by simp) (o116.kp (((Kp.below b121 (by omega)).trans (Kp.below bR164 (by omega))).trans (Kp.below b173 (by omega)))).rd (o116.kp (((Kp.below b121 (by omega)).trans (Kp.below bR164 (by omega))).trans (Kp.below b173 (by omega)))).rds (by omega) (by omega)).mono ?_
       rintro e w20 ⟨rfl, b178⟩
       clear f174 f175 f176 f177
       have z19 := b178.size
       go_wp2
       go_ret
       exact ⟨rfl, ((((((((((((((((((((hb0.trans (b3.mono (by omega))).trans (b7.mono (by omega))).trans (bR50.mono (by omega))).trans (b55.mono (by omega))).trans (b58.mono (by omega))).trans (b64.mono (by omega))).trans (b67.mono (by omega))).trans (b74.mono (by omega))).trans (b77.mono (by omega))).trans (b84.mono (by omega))).trans (b85e.mono (by omega))).trans (b89e.mono (by omega))).trans (m96.1.mono (by omega))).trans (m100.1.mono (by omega))).trans (b110.mono (by omega))).trans (m115.1.mono (by omega))).trans (b121.mono (by omega))).trans (bR164.mono (by omega))).trans (b173.mono (by omega))).trans (b178.mono (by omega)))⟩
   · rw [left_no g1]
     go_wp2
     go_ret
     exact ⟨rfl, ((hb0.trans (b3.mono (by omega))).trans (b7.mono (by omega)))⟩
 · rw [left_no g0]
   go_wp2
   go_ret
   exact ⟨rfl, (hb0.trans (b3.mono (by omega)))⟩
theorem law_FnExactCodeOfDesign (X0 : FLD) (X1 : DES) (w : World) (e0 : X0.ok w) (e1 : X1.ok w) :
    Calls Try.prog 6 #[X0.val, X1.val] w fun e w' => e = .returned (.bool true) ∧ Below w.heap.size w w' :=
 lawCodeOfDesign X0.p X0.d X0.l.a X0.l.c X0.l.xs X1.p X1.r.a X1.r.c X1.r.xss w e0.2.2.1 e0.2.2.2.1 e0.2.1 e1.2.1 e1.2.2.1
namespace fnExactCodeOfDesign
open Go.ChangeShapes Go.WideShapes Go.ChangeAt
theorem lifted (os : Os) (started : os.Started) (H : Type) (enc : TypeId × Value → H) :
    ReturnsInHanded {} Try.checked os 6 .any (Rows.fnExactCodeOfDesignSpec.pre6 enc Try.prog Try.f6 Rows.fnExactCodeOfDesignRow.domain false) (Rows.fnExactCodeOfDesignSpec.post enc Try.prog Try.f6 false true false false) := by
 refine returnsInHanded_of_change (C := Try.checked) ownKnob_none started (by kernel_rfl) Try.func6
  (ChangeSpec.witness6 (enc := enc) (C := Try.checked) false ⟨#[], #[.agg #[.int .i64 0, .int .i64 0, .slice none 0 0], .agg #[.int .i64 0, .slice none 0 0]], []⟩ 8 (by kernel_rfl) (by kernel_rfl) (by kernel_rfl) (by kernel_rfl)) ?_
 intro W base args ds gs before hval0 hW _ _
 have hval : ∀ (j : Nat) t v, Try.f6.params[j]? = some t → args[j]? = some v → Value.okWide Try.prog W .any base t v := hval0
 have hW' := hW
 obtain ⟨p, q, hA0, hV, rfl, hfz, hnd⟩ := hW
 have hA : DataW.TrodAll enc Try.prog W 0 (fun _ => true) true Try.f6.params.toList args.toList ds p := hA0
 rw [Try.params6] at hA hval
 obtain ⟨v0, vs0, d0, ds0, p0, q0, hargs, rfl, rfl, h0, r0⟩ := trodAll_cons hA
 obtain ⟨v1, vs1, d1, ds1, p1, q1, rfl, rfl, rfl, h1, r1⟩ := trodAll_cons r0
 obtain ⟨rfl, rfl, rfl⟩ := trodAll_nil r1
 obtain rfl : args = #[v0, v1] := by cases args; simp_all
 obtain ⟨rfl, rfl⟩ := trodVars_none hV
 have k0 := h0
 have lt0 : ∀ x ∈ p0, x.block < W.heap.size := by obtain ⟨m, hm⟩ := k0; exact DataW.trod_lt m _ _ _ hm
 obtain ⟨X0, rfl, e0⟩ := open_fld (hval 0 41 v0 rfl rfl) h0
 have k1 := h1
 have lt1 : ∀ x ∈ p1, x.block < W.heap.size := by obtain ⟨m, hm⟩ := k1; exact DataW.trod_lt m _ _ _ hm
 obtain ⟨X1, rfl, e1⟩ := open_des (hval 1 43 v1 rfl rfl) h1
 clear hA0 hval0
 refine (law_FnExactCodeOfDesign X0  X1  W e0 e1).mono fun e W' ⟨he, bel⟩ => ?_
 subst he
 exact ⟨_, rfl, _, _, _, [], _, [], hW', trodAll_mk1 (shut_bool Try.underlying4 _), (trodAll_cons_mk (Below.trod laidOut_ok (by kernel_rfl) (of_decide_eq_true (by kernel_rfl)) k0 bel lt0) (trodAll_cons_mk (Below.trod laidOut_ok (by kernel_rfl) (of_decide_eq_true (by kernel_rfl)) k1 bel lt1) trodAll_mk0)), rfl, bel.frame _, fun h => by cases h⟩
theorem over : Rows.fnExactCodeOfDesignRow.holds Try.pinned (OpenSpec.ofChange Rows.fnExactCodeOfDesignSpec) :=
 OpenClaim.holds_of_wide 6 Try.f6 rfl rfl rfl rfl rfl rfl rfl ⟨rfl, rfl, rfl, rfl, rfl⟩ rfl rfl rfl rfl rfl (by kernel_rfl) Try.func6 (by kernel_rfl)
  (of_decide_eq_true (by kernel_rfl)) (by unfold Func.isWrapper; first | (rw [if_pos (by decide +kernel)]; kernel_rfl) | (rw [if_neg (by decide +kernel)]; exact ⟨rfl, rfl⟩))
  (fun os started H enc _ => lifted os started H enc)
theorem proved : Rows.FnExactCodeOfDesignSaid := over
end fnExactCodeOfDesign
end Go.Proofs.Ytpglmogoddgmoaa
