/-
  Texts joined.
-/
import Derived.Test.YthalfobjeakfoaaIA6
import Derived.Test.YthalfobjeakfoaaIA9
import Derived.Test.YthalfobjeakfoaaIA11
set_option linter.unusedVariables false
set_option linter.unusedSimpArgs false
set_option maxRecDepth 100000
set_option maxHeartbeats 40000000
namespace Go.Proofs.Ythalfobjeakfoaa
open Go.RowKit
attribute [local go_sem ↓] Go.wp_at_zero Go.wp_at_succ
theorem OwnC.nil (w : World) (B : Nat) : OwnC w B (.slice none 0 0) (.slice none 0 0) [] [] := ⟨B, Nat.le_refl _, Own.nil _ _, fun k hk => by simp [Value.ownBlock] at hk, OwnS.nil _ _⟩
theorem codeOf_any (F : FD) (ap : Option Addr) (cp : Nat) (ra : Option Addr) (rc : Nat) (xss : List (List Int)) (n : Nat) (w : World) (hR : Rd w ap F.poly) (hG : F.Good) (hx : RdS w ra xss) (h0 : 0 < xss.length) (hM : F.Mat n xss) :
    Calls Try.prog 90 #[.agg #[.int .i64 F.p, .int .i64 F.k, .slice ap F.poly.length cp], .slice ra xss.length rc] w (ResC w (mkC F (form F xss n))) := by
 have ok := hG.ok
 have hxl := hx.len
 obtain ⟨n2, n64⟩ := ok.n_bd
 obtain ⟨W0, hW0⟩ : ∃ W0, W0 = (w.alloc (.cells #[.int .i64 F.p, .int .i64 F.k, .slice ap F.poly.length cp] 26)).alloc (.cells #[.int .i64 0, .int .i64 0, .slice none 0 0, .slice none 0 0] 29) := ⟨_, rfl⟩
 have b0 : Below w.heap.size w W0 := by rw [hW0]; exact ((Below.refl _ _).alloc (Nat.le_refl _) _).alloc (by simp) _
 have kF : Blk W0 w.heap.size 26 #[.int .i64 F.p, .int .i64 F.k, .slice ap F.poly.length cp] := by rw [hW0]; exact (Blk.new _ _ _ rfl).alloc _
 have k0 : Blk W0 (w.heap.size + 1) 29 #[.int .i64 0, .int .i64 0, .slice none 0 0, .slice none 0 0] := by rw [hW0]; exact Blk.new _ _ _ (by simp)
 have s0 : w.heap.size + 1 < W0.heap.size := k0.lt
 have hT := tablesOf_any F ap cp W0 (hR.below b0) ok
 have hRd := fun tv W h1 h2 => reduce_any F tv ra rc xss n W h1 hG h2 h0 hM
 have hfl := form_len F xss n
 obtain ⟨rows, hrows⟩ : ∃ rows, rows = form F xss n := ⟨_, rfl⟩
 have hpl := red_piv F xss n
 rw [← hrows] at hRd hfl ⊢
 have hrb : rows.length ≤ 1073741824 := by omega
 have HT := hide hT
 have HRD := hide hRd
 have hx0 := hx.below b0
 have hR0 := hR.below b0
 have HW := Lib.hid hW0
 have hFS := fun W => fieldSize_any F ap cp W ok
 have hPU := fun W => powerUpTo_any F.n rows.length 4096 W (by omega) (by omega) (by omega) (by omega) (by omega)
 rw [Int.toNat_natCast] at hPU
 have HFS := hide hFS
 have HPU := hide hPU
 clear hT hRd hW0 hrows hfl hpl hFS hPU
 go_enter Try.func90, Try.ntmps90
 go_wp2_with fail
 rw [← HW.out]
 refine (unhide HT).mono ?_
 rintro e w1 ⟨tv, rfl, T1, b1⟩
 have hb1 := b0.trans (b1.mono (by omega))
 have kF1 := kF.below b1 kF.lt
 have k1 := k0.below b1 k0.lt
 have hx1 := hx0.below b1
 have hR1 := hR0.below b1
 have z1 := b1.size
 go_wp2_with fail
 refine (unhide HRD _ _ T1 hx1).mono ?_
 rintro e w2 ⟨v, u, d, rfl, o2, _, b2⟩
 obtain ⟨ra2, rc2, rfl, r2⟩ := o2.form
 have hb2 := hb1.trans (b2.mono (by omega))
 have kF2 := kF1.below b2 kF1.lt
 have k2 := k1.below b2 k1.lt
 have hR2 := hR1.below b2
 have z2 := b2.size
 clear T1 hx1 hx0 hx HT HRD
 by_cases hz : rows.length = 0
 · have HM := Lib.hid (show mkC F rows = (0, 0, [], [], 6) by rw [mkC, if_pos hz])
   have hzb : ((rows.length : Int) == 0) = true := by rw [beq_iff_eq]; omega
   clear hz
   have f0 := k2.cell 0
   have f1 := k2.cell 1
   have f2 := k2.cell 2
   have f3 := k2.cell 3
   have g0 := k2.frozen 0
   have g1 := k2.frozen 1
   have g2 := k2.frozen 2
   have g3 := k2.frozen 3
   go_wp2_with fail
   refine bodyPost_ret (results_cell_tmp_row rfl _ _ (w.heap.size + 1) 29 #[.int .i64 0, .int .i64 0, .slice none 0 0, .slice none 0 0] _ rfl (k2.b4.store _ _ _ _) Try.underlying29 rfl (by kernel_rfl)) rfl ?_
   show ResC w (mkC F rows) _ _
   rw [HM.out]
   exact ⟨_, _, rfl, OwnC.nil _ _, Below.set4 hb2 (by omega) _ _ _ _⟩
 · have hz' := hide hz
   have hzb : ((rows.length : Int) == 0) = false := by rw [beq_eq_false_iff_ne]; omega
   clear hz
   by_cases h8 : 8 < rows.length
   · have HM := Lib.hid (show mkC F rows = (0, 0, [], [], 5) by rw [mkC, if_neg (unhide hz'), if_pos (.inl h8)])
     have f0 := k2.cell 0
     have f1 := k2.cell 1
     have f2 := k2.cell 2
     have f3 := k2.cell 3
     have g0 := k2.frozen 0
     have g1 := k2.frozen 1
     have g2 := k2.frozen 2
     have g3 := k2.frozen 3
     go_wp2_with fail
     refine bodyPost_ret (results_cell_tmp_row rfl _ _ (w.heap.size + 1) 29 #[.int .i64 0, .int .i64 0, .slice none 0 0, .slice none 0 0] _ rfl (k2.b4.store _ _ _ _) Try.underlying29 rfl (by kernel_rfl)) rfl ?_
     show ResC w (mkC F rows) _ _
     rw [HM.out]
     exact ⟨_, _, rfl, OwnC.nil _ _, Below.set4 hb2 (by omega) _ _ _ _⟩
   · have h8' : ¬ (8 : Int) < (rows.length : Int) := by omega
     have e0 := kF2.cell 0
     have e1 := kF2.cell 1
     have e2 := kF2.cell 2
     have q0 := kF2.frozen 0
     have q1 := kF2.frozen 1
     have q2 := kF2.frozen 2
     go_wp2_with fail
     refine (unhide HFS _).mono ?_
     rintro e w3 ⟨rfl, b3⟩
     have hb3 := hb2.trans (b3.mono (by omega))
     have kF3 := kF2.below b3 kF2.lt
     have k3 := k2.below b3 k2.lt
     have hR3 := hR2.below b3
     have r3 := r2.below b3
     have z3 := b3.size
     clear e0 e1 e2 q0 q1 q2
     go_wp2_with fail
     refine (sizeS_any _ _ _ _).mono ?_
     rintro e w4 ⟨rfl, rfl⟩
     go_wp2_with fail
     refine (unhide HPU _).mono ?_
     rintro e w4 ⟨rfl, rfl⟩
     by_cases hc : 4096 < capTo F.n 4096 rows.length
     · have HM := Lib.hid (show mkC F rows = (0, 0, [], [], 5) by rw [mkC, if_neg (unhide hz'), if_pos (.inr hc)])
       have f0 := k3.cell 0
       have f1 := k3.cell 1
       have f2 := k3.cell 2
       have f3 := k3.cell 3
       have g0 := k3.frozen 0
       have g1 := k3.frozen 1
       have g2 := k3.frozen 2
       have g3 := k3.frozen 3
       go_wp2_with fail
       refine bodyPost_ret (results_cell_tmp_row rfl _ _ (w.heap.size + 1) 29 #[.int .i64 0, .int .i64 0, .slice none 0 0, .slice none 0 0] _ rfl (k3.b4.store _ _ _ _) Try.underlying29 rfl (by kernel_rfl)) rfl ?_
       show ResC w (mkC F rows) _ _
       rw [HM.out]
       exact ⟨_, _, rfl, OwnC.nil _ _, Below.set4 hb3 (by omega) _ _ _ _⟩
     · have HM := Lib.hid (show mkC F rows = (F.p, (F.k : Int), F.poly, rows, 0) by rw [mkC, if_neg (unhide hz'), if_neg (by omega)])
       have hc' : ¬ (4096 : Int) < capTo F.n 4096 rows.length := hc
       have e0 := kF3.cell 0
       have e1 := kF3.cell 1
       have e2 := kF3.cell 2
       have q0 := kF3.frozen 0
       have q1 := kF3.frozen 1
       have q2 := kF3.frozen 2
       go_wp2_with fail
       refine (clone_any ap cp F.poly w3 hR3).mono ?_
       rintro e w4 ⟨v4, rfl, o4, b4⟩
       obtain ⟨a4, c4, rfl, r4, _⟩ := o4.form
       clear e0 e1 e2 q0 q1 q2
       have hb4 := hb3.trans (b4.mono (by omega))
       have kF4 := kF3.below b4 kF3.lt
       have k4 := k3.below b4 k3.lt
       have z4 := b4.size
       have e0 := kF4.cell 0
       have e1 := kF4.cell 1
       have e2 := kF4.cell 2
       have q0 := kF4.frozen 0
       have q1 := kF4.frozen 1
       have q2 := kF4.frozen 2
       go_upto_region 7 with fail
       obtain ⟨W5, hW5⟩ : ∃ W5, W5 = w4.setCell ⟨w.heap.size, 2, none⟩ (.slice a4 F.poly.length c4) := ⟨_, rfl⟩
       have s1 : w.heap.size < w1.heap.size := by omega
       have s3 : w.heap.size < w3.heap.size := by omega
       have kF5 : Blk W5 w.heap.size 26 #[.int .i64 F.p, .int .i64 F.k, .slice a4 F.poly.length c4] := by rw [hW5]; exact kF4.set_ 2 _
       have k5 : Blk W5 (w.heap.size + 1) 29 #[.int .i64 0, .int .i64 0, .slice none 0 0, .slice none 0 0] := by rw [hW5]; exact k4.far (by show w.heap.size + 1 ≠ w.heap.size; omega) _
       have hb5 : Below w.heap.size w W5 := by rw [hW5]; exact hb4.setCell (Nat.le_refl _) _
       have r5 : RdS W5 ra2 rows := by rw [hW5]; exact (((o2.below b3 (Nat.le_refl _)).below b4 (Nat.le_refl _)).storeBelow s1 _).rd
       have o5 : Own W5 w3.heap.size (.slice a4 F.poly.length c4) F.poly := by rw [hW5]; exact o4.storeBelow s3 _
       have s5 : w4.heap.size = W5.heap.size := by rw [hW5]; simp
       rw [← hW5]
       clear hW5 e0 e1 e2 q0 q1 q2 kF4 k4 kF3 k3 kF2 k2 kF1 k1
       have boxes : ∀ W, W5.grownBy W (some (w.heap.size + 1)) → B4 W (w.heap.size + 1) 29 → (W5.grownBy W (some (w.heap.size + 1)) ∧ W.cell? ⟨w.heap.size, 0, none⟩ = some (.int .i64 F.p) ∧ W.cell? ⟨w.heap.size, 1, none⟩ = some (.int .i64 F.k) ∧ W.cell? ⟨w.heap.size, 2, none⟩ = some (.slice a4 F.poly.length c4) ∧ B4 W (w.heap.size + 1) 29) := fun W hg hk =>
        ⟨hg, (kF5.grown hg (by simp)).cell 0, (kF5.grown hg (by simp)).cell 1, (kF5.grown hg (by simp)).cell 2, hk⟩
       have BX := hide boxes
       have K5 := k5.b4
       have hcp := fun W h => copyLists_any ra2 rc2 rows W h
       have HCP := hide hcp
       have R5 := hide r5
       clear boxes hcp r5
       go_region_held3 (fun W => W5.grownBy W (some (w.heap.size + 1)) ∧ W.cell? ⟨w.heap.size, 0, none⟩ = some (.int .i64 F.p) ∧ W.cell? ⟨w.heap.size, 1, none⟩ = some (.int .i64 F.k) ∧ W.cell? ⟨w.heap.size, 2, none⟩ = some (.slice a4 F.poly.length c4) ∧ B4 W (w.heap.size + 1) 29)
        (first | exact (unhide BX) _ (grown_refl _ _) K5 | exact (unhide BX) _ (grown_drew1 _ _) K5.drew | exact (unhide BX) _ (by assumption) (by assumption) | exact (unhide BX) _ (grown_set4 hG1 _ _ _ _) (K6.store _ _ _ _).b4)
        (first
         | (go_at_call 69; refine (unhide HCP _ ?_).mono ?_; exact (unhide R5).drewN 1; rintro e W6 ⟨v6, rfl, o6, b6⟩; obtain ⟨a6, c6, rfl, _⟩ := o6.form; have hG1 := grown_trans_row (grown_drew1 W5 (some (w.heap.size + 1))) (grown_below b6 _); have K6 := B4.below (And.right (And.right (And.right (And.right (by assumption))))) b6; obtain ⟨x1, y1, z1, u1, KK⟩ := id K6; have f0 := KK.cell 0; have f1 := KK.cell 1; have f2 := KK.cell 2; have f3 := KK.cell 3; have g0 := KK.frozen 0; have g1 := KK.frozen 1; have g2 := KK.frozen 2; have g3 := KK.frozen 3))
       go_wp2
       have s6 : W5.heap.size ≤ W6.heap.size := b6.size
       have hb6 : Below w.heap.size w W6 := hb5.drew.trans (b6.mono (by show w.heap.size ≤ W5.heap.size; omega))
       have p3 : w.heap.size + 1 < w3.heap.size := by omega
       have p5 : w.heap.size + 1 < W5.drew.heap.size := by show w.heap.size + 1 < W5.heap.size; omega
       refine bodyPost_ret (results_cell_tmp_row rfl _ _ (w.heap.size + 1) 29 #[.int .i64 F.p, .int .i64 F.k, .slice a4 F.poly.length c4, .slice a6 rows.length c6] _ rfl (K6.store _ _ _ _) Try.underlying29 rfl (by kernel_rfl)) rfl ?_
       show ResC w (mkC F rows) _ _
       rw [HM.out]
       refine ⟨_, _, rfl, ⟨W5.heap.size, by omega, ?_, ?_, ?_⟩, Below.set4 hb6 (by omega) _ _ _ _⟩
       · exact (((((o5.drewN 1).below b6 (Nat.le_refl _)).storeBelow p3 _).storeBelow p3 _).storeBelow p3 _ |>.storeBelow p3 _).mono (by omega)
       · intro j hj
         have := o5.lt j hj
         omega
       · exact (((o6.storeBelow p5 _).storeBelow p5 _).storeBelow p5 _).storeBelow p5 _
end Go.Proofs.Ythalfobjeakfoaa
