/-
  Proved: FnRefine returns true for every input and leaves its arguments as they were. No condition. Printed by gen_lrf.py.
-/
import Derived.Test.YtgfcbmflnldicaaGreatRF6
import Derived.Test.YtgfcbmflnldicaaGreatRF7
import Derived.Test.YtgfcbmflnldicaaGreatRF23
import Derived.Test.YtgfcbmflnldicaaGreatRF24
import Derived.Test.YtgfcbmflnldicaaGreatRF25
import Derived.Test.YtgfcbmflnldicaaGreatRF31
import Derived.Test.YtgfcbmflnldicaaGreatRF37
set_option linter.unusedVariables false
set_option linter.unusedSimpArgs false
set_option maxRecDepth 100000
set_option maxHeartbeats 40000000
namespace Go.Proofs.YtgfcbmflnldicaaGreat
open Go.RowKit
attribute [local go_sem ↓] Go.wp_at_zero Go.wp_at_succ
theorem walkFnRefine (a b : Option Addr) (c d : Nat) (bx bm : List Int) (w0 : World) (hxl : bx.length ≤ maxLen) (hyl : bm.length ≤ maxLen) (hx : bx.length ≤ 1048576 → RdB w0 a bx) (hy : bm.length ≤ 1048576 → RdB w0 b bm) :
    Calls Tryz.prog 3 #[.slice a bx.length c, .slice b bm.length d] w0 fun e w' => e = .returned (.bool true) ∧ Below w0.heap.size w0 w' := by
 have HL1 := hide (b10Long_any a c bx.length w0 hxl)
 have HL2 := hide (b10Long_any b d bm.length w0 hyl)
 clear hxl hyl
 cases h1 : decide (1048576 < bx.length) with
 | true =>
  rw [h1] at HL1
  clear h1 hx hy HL2
  go_enter Tryz.func3, Tryz.ntmps3
  go_wp2_with fail
  refine (unhide HL1).mono ?_
  rintro e w1 ⟨rfl, rfl⟩
  go_wp2
  go_ret
  exact ⟨rfl, Below.refl _ _⟩
 | false =>
  rw [h1] at HL1
  cases h2 : decide (1048576 < bm.length) with
  | true =>
   rw [h2] at HL2
   clear h1 h2 hx hy
   go_enter Tryz.func3, Tryz.ntmps3
   go_wp2_with fail
   refine (unhide HL1).mono ?_
   rintro e w1 ⟨rfl, rfl⟩
   go_wp2_with fail
   refine (unhide HL2).mono ?_
   rintro e w1 ⟨rfl, rfl⟩
   go_wp2
   go_ret
   exact ⟨rfl, Below.refl _ _⟩
  | false =>
   rw [h2] at HL2
   rw [decide_eq_false_iff_not] at h1 h2
   have HX := hide (hx (by omega))
   have HY := hide (hy (by omega))
   clear hx hy h1 h2
   go_enter Tryz.func3, Tryz.ntmps3
   go_wp2_with fail
   refine (unhide HL1).mono ?_
   rintro e w1 ⟨rfl, rfl⟩
   clear HL1
   go_wp2_with fail
   refine (unhide HL2).mono ?_
   rintro e w1 ⟨rfl, rfl⟩
   clear HL2
   go_wp2_with fail
   refine (drawRC_any a c bx w0 (unhide HX)).mono ?_
   rintro e w1 ⟨⟨a1, c1, xs, ra, rc, es, pa, pc, cs, rfl, rx, re, rp, hx70, he, hc71⟩, b1⟩
   obtain ⟨W, hW⟩ : ∃ z, z = w1.alloc (.cells #[.slice a1 xs.length c1, .slice ra es.length rc] 27) := ⟨_, rfl⟩
   have bW : Below w1.heap.size w1 W := by rw [hW]; exact (Below.refl _ _).alloc (Nat.le_refl _) _
   have kG : Blk W w1.heap.size 27 #[.slice a1 xs.length c1, .slice ra es.length rc] := by rw [hW]; exact Blk.new _ _ _ rfl
   have hWx := Lib.hid hW
   have hb0 := Below.chain b1 bW
   have hgG := kG.lt
   have BX := hide (show ∀ V, Below W.heap.size W V → V.cell? ⟨w1.heap.size, 0, none⟩ = some (.slice a1 xs.length c1) ∧ V.cell? ⟨w1.heap.size, 1, none⟩ = some (.slice ra es.length rc) from fun V h => ⟨(kG.below h hgG).cell 0, (kG.below h hgG).cell 1⟩)
   have RX := hide (rx.below bW)
   have RE := hide (re.below bW)
   have RP := hide (rp.below bW)
   have YB := hide ((unhide HY).below hb0)
   have HRC := hide (implRC_any a1 c1 xs ra rc es pa pc cs W (unhide RX) (unhide RE) (unhide RP))
   have HVG := hide (fun V (h : Below W.heap.size W V) => specVG_any a1 c1 xs ra rc es V ((unhide RX).below h) ((unhide RE).below h))
   clear hW bW kG rx re rp b1 HX HY
   go_upto_region 4 with fail
   rw [← hWx.out]
   have b00 := Below.refl W.heap.size W
   obtain ⟨e0, e1⟩ := (unhide BX) W b00
   cases hk : okG xs es with
   | false =>
    have HRES := Lib.hid (show rcRes xs es cs = ([], 1) by rw [rcRes, hk]; rfl)
    rw [hk] at HVG
    clear hk
    go_wp2_with fail
    refine (unhide HRC).mono ?_
    rintro e w2 ⟨v2, rfl, o2, b2⟩
    rw [HRES.out] at o2 ⊢
    have d2 := b00.trans b2
    clear e0 e1
    obtain ⟨e0, e1⟩ := (unhide BX) w2 d2
    clear o2
    go_wp2_with fail
    refine (unhide HVG _ d2).mono ?_
    rintro e w3 ⟨rfl, b3⟩
    have hbh := Below.chain hb0 (d2.trans (b3.mono d2.size))
    go_wp2
    go_ret
    exact ⟨rfl, hbh⟩
   | true =>
    cases hcc : (decide (cs.length = xs.length) && colorsOk cs) with
    | false =>
     have HRES := Lib.hid (show rcRes xs es cs = ([], 2) by rw [rcRes, hk, hcc]; rfl)
     rw [hk] at HVG
     clear hk hcc
     go_wp2_with fail
     refine (unhide HRC).mono ?_
     rintro e w2 ⟨v2, rfl, o2, b2⟩
     rw [HRES.out] at o2 ⊢
     have d2 := b00.trans b2
     clear e0 e1
     obtain ⟨e0, e1⟩ := (unhide BX) w2 d2
     clear o2
     go_wp2_with fail
     refine (unhide HVG _ d2).mono ?_
     rintro e w3 ⟨rfl, b3⟩
     have hbh := Below.chain hb0 (d2.trans (b3.mono d2.size))
     go_wp2
     go_ret
     exact ⟨rfl, hbh⟩
    | true =>
     have hcc2 := hcc
     rw [Bool.and_eq_true, decide_eq_true_eq] at hcc2
     obtain ⟨hl, hco⟩ := hcc2
     have hn64 := (okG_iff.1 hk).n64
     obtain ⟨x, hxx⟩ : ∃ x, x = refF (nearA xs.length (adjE es) xs.length) cs.length cs := ⟨_, rfl⟩
     have HRES := Lib.hid (show rcRes xs es cs = (x, 0) by rw [rcRes, hk, hcc, hxx]; rfl)
     have hlaw : ∀ p, permOk p xs.length = true → x.length = xs.length ∧ eqRes xs es x = true ∧ (∀ u v, u < xs.length → v < xs.length → nth x u = nth x v → nth cs u = nth cs v) ∧ (∀ u v, u < xs.length → v < xs.length → nth cs u < nth cs v → nth x u < nth x v) ∧ rlRes xs es p = (setTo xs p xs.length, esM xs.length p es, 0) ∧ rcRes (setTo xs p xs.length) (esM xs.length p es) (setTo cs p xs.length) = (setTo x p xs.length, 0) := by
      intro p hp
      rw [hxx]
      exact ref_law hk hl hco hp
     obtain ⟨hxl, hxe, hfine, hord, _, _⟩ := hlaw (rngI xs.length) (permOk_rng xs.length)
     have HLW := hide (fun p (hp : permOk p xs.length = true) => (hlaw p hp).2.2.2.2)
     have HFN := hide hfine
     have HOR := hide hord
     have HXL := Lib.hid hxl
     have HCL := Lib.hid hl
     rw [hl]
     rw [hl] at HRC
     have HEQ := hide (fun (A : Option Addr) (C : Nat) V (h : Below W.heap.size W V) (hr : Rd V A x) => implEQ_any a1 c1 xs ra rc es A C x V ((unhide RX).below h) ((unhide RE).below h) hr)
     rw [hxe, hxl] at HEQ
     clear hk hcc hl hco hxx hlaw hxl hxe hfine hord HVG
     go_wp2_with fail
     refine (unhide HRC).mono ?_
     rintro e w2 ⟨v2, rfl, o2, b2⟩
     rw [HRES.out] at o2 ⊢
     obtain ⟨a2, c2, rfl, r2, _⟩ := o2.form
     have d2 := b00.trans b2
     rw [HXL.out]
     have R2 := hide r2
     clear e0 e1 o2 r2 HRC
     obtain ⟨e0, e1⟩ := (unhide BX) w2 d2
     have hq1 : ((xs.length : Int) != (xs.length : Int)) = false := by simp
     go_wp2_with fail
     refine (unhide HEQ _ _ _ d2 (unhide R2)).mono ?_
     rintro e w3 ⟨rfl, b3⟩
     have d3 := d2.trans (b3.mono d2.size)
     have R3 := hide ((unhide R2).below b3)
     have P3 := hide ((unhide RP).below d3)
     clear e0 e1 hq1 HEQ R2
     go_wp2_with fail
     go_loopw [10, 11] (fun iv jv wr => ∃ i : Nat, iv = .int .i64 i ∧ i ≤ xs.length ∧ Below w3.heap.size w3 wr) (fun iv _ _ => xs.length - (intOf iv).toNat)
     case atStart => exact ⟨0, rfl, Nat.zero_le _, Below.refl _ _⟩
     case round =>
      obtain ⟨i, rfl, hi, hb⟩ := hrel
      rename World => wo
      by_cases hil : i < xs.length
      · obtain ⟨g2, o2, rfl, hg2, hc2⟩ := (unhide R3).at_ (by rw [HXL.out]; omega)
        obtain ⟨gp, op, rfl, hgp, hcp⟩ := (unhide P3).at_ (by rw [HCL.out]; omega)
        have HC2 := hide (show ∀ k V, k < xs.length → Below w3.heap.size w3 V → V.cell? ⟨g2, o2 + k, none⟩ = some (.int .i64 (nth x k)) from fun k V hk h => (h.cell (p := ⟨g2, o2 + k, none⟩) hg2).trans (hc2 k (by rw [HXL.out]; exact hk)))
        have HCP := hide (show ∀ k V, k < xs.length → Below w3.heap.size w3 V → V.cell? ⟨gp, op + k, none⟩ = some (.int .i64 (nth cs k)) from fun k V hk h => (h.cell (p := ⟨gp, op + k, none⟩) hgp).trans (hcp k (by rw [HCL.out]; exact hk)))
        clear hc2 hcp
        go_wp2_with fail
        go_loopw [11] (fun jv wr => ∃ j : Nat, jv = .int .i64 j ∧ j ≤ i ∧ Below w3.heap.size w3 wr) (fun jv _ => i - (intOf jv).toNat)
        case atStart => exact ⟨0, rfl, Nat.zero_le _, hb⟩
        case round =>
         obtain ⟨j, rfl, hj, hb⟩ := hrel
         rename World => wy
         by_cases hjl : j < i
         · have hjx : j < xs.length := by omega
           have k1 := (unhide HC2) i wy.drew hil (below_drewN hb 1)
           have k2 := (unhide HC2) j wy.drew hjx (below_drewN hb 1)
           have k3 := (unhide HCP) i wy.drew hil (below_drewN hb 1)
           have k4 := (unhide HCP) j wy.drew hjx (below_drewN hb 1)
           have f1 := (unhide HFN) i j hil hjx
           have f2 := (unhide HOR) i j hil hjx
           obtain ⟨X1, hX1⟩ : ∃ z, z = nth x i := ⟨_, rfl⟩
           obtain ⟨X2, hX2⟩ : ∃ z, z = nth x j := ⟨_, rfl⟩
           obtain ⟨C1, hC1⟩ : ∃ z, z = nth cs i := ⟨_, rfl⟩
           obtain ⟨C2, hC2⟩ : ∃ z, z = nth cs j := ⟨_, rfl⟩
           rw [← hX1] at k1 f1 f2
           rw [← hX2] at k2 f1 f2
           rw [← hC1] at k3 f1 f2
           rw [← hC2] at k4 f1 f2
           clear hX1 hX2 hC1 hC2
           have hin : (i : Int) < (xs.length : Int) := by omega
           by_cases hE : X1 = X2
           · have hCC := f1 hE
             have q1 : (X1 == X2) = true := by rw [hE]; simp
             have q2 : (C1 != C2) = false := by rw [hCC]; simp
             have q3 : decide (C1 < C2) = false := by rw [hCC]; simp
             have q4 : ¬ C1 < C2 := by rw [hCC]; omega
             clear f1 f2 hE hCC
             go_upto_region 16 with fail
             refine wp_region_noPanic ?_
             refine wp_region_ord (S := (fun W => W.cell? ⟨g2, o2 + i, none⟩ = some (.int .i64 X1) ∧ W.cell? ⟨g2, o2 + j, none⟩ = some (.int .i64 X2) ∧ W.cell? ⟨gp, op + i, none⟩ = some (.int .i64 C1) ∧ W.cell? ⟨gp, op + j, none⟩ = some (.int .i64 C2))) [(true, 0), (true, 1), (true, 2), (true, 3), (true, 4), (true, 5), (true, 6), (true, 7), (true, 8), (true, 9), (true, 10), (true, 11), (true, 12), (true, 13), (true, 14), (true, 15), (true, 16), (true, 17), (true, 18), (true, 19), (true, 20), (true, 21), (true, 22), (true, 23), (true, 24), (true, 25), (true, 26), (true, 27), (true, 28), (true, 29), (true, 30), (true, 31), (true, 32), (true, 33), (true, 34), (true, 35), (true, 36), (true, 37), (true, 38), (true, 39), (true, 40), (true, 41)] (by kernel_rfl) (by kernel_rfl) (by kernel_rfl) rfl (fun _ _ _ _ _ h => h) ?_ (fun hHeld => ?_)
             · exact ⟨k1, k2, k3, k4⟩
             refine SeqO.take (by rfl) (v := ?hv1) (by rfl) ?hy1 ?hr1
             case hy1 =>
              intro w hSw
              try dsimp only at hSw
              go_simp
              try (with_reducible rfl)
             try simp only [Act.put, List.setIfInBounds_toArray, List.set_cons_zero, List.set_cons_succ]
             refine SeqO.take (by rfl) (v := ?hv2) (by rfl) ?hy2 ?hr2
             case hy2 =>
              intro w hSw
              try dsimp only at hSw
              go_simp
              try (with_reducible rfl)
             try simp only [Act.put, List.setIfInBounds_toArray, List.set_cons_zero, List.set_cons_succ]
             refine SeqO.take (by rfl) (v := ?hv3) (by rfl) ?hy3 ?hr3
             case hy3 =>
              intro w hSw
              try dsimp only at hSw
              go_simp
              try (with_reducible rfl)
             try simp only [Act.put, List.setIfInBounds_toArray, List.set_cons_zero, List.set_cons_succ]
             refine SeqO.take (by rfl) (v := ?hv4) (by rfl) ?hy4 ?hr4
             case hy4 =>
              intro w hSw
              try dsimp only at hSw
              go_simp
              try (with_reducible rfl)
             try simp only [Act.put, List.setIfInBounds_toArray, List.set_cons_zero, List.set_cons_succ]
             refine SeqO.take (by rfl) (v := ?hv5) (by rfl) ?hy5 ?hr5
             case hy5 =>
              intro w hSw
              try dsimp only at hSw
              go_simp
              try (with_reducible rfl)
             try simp only [Act.put, List.setIfInBounds_toArray, List.set_cons_zero, List.set_cons_succ]
             refine SeqO.take (by rfl) (v := ?hv6) (by rfl) ?hy6 ?hr6
             case hy6 =>
              intro w hSw
              try dsimp only at hSw
              go_simp
              try (with_reducible rfl)
             try simp only [Act.put, List.setIfInBounds_toArray, List.set_cons_zero, List.set_cons_succ]
             refine SeqO.take (by rfl) (v := ?hv7) (by rfl) ?hy7 ?hr7
             case hy7 =>
              intro w hSw
              try dsimp only at hSw
              go_simp
              try (with_reducible rfl)
             try simp only [Act.put, List.setIfInBounds_toArray, List.set_cons_zero, List.set_cons_succ]
             refine SeqO.take (by rfl) (v := ?hv8) (by rfl) ?hy8 ?hr8
             case hy8 =>
              intro w hSw
              try dsimp only at hSw
              go_simp
              try (with_reducible rfl)
             try simp only [Act.put, List.setIfInBounds_toArray, List.set_cons_zero, List.set_cons_succ]
             refine SeqO.take (by rfl) (v := ?hv9) (by rfl) ?hy9 ?hr9
             case hy9 =>
              intro w hSw
              try dsimp only at hSw
              go_simp
              try (with_reducible rfl)
             try simp only [Act.put, List.setIfInBounds_toArray, List.set_cons_zero, List.set_cons_succ]
             refine SeqO.take (by rfl) (v := ?hv10) (by rfl) ?hy10 ?hr10
             case hy10 =>
              intro w hSw
              try dsimp only at hSw
              go_simp
              try (with_reducible rfl)
             try simp only [Act.put, List.setIfInBounds_toArray, List.set_cons_zero, List.set_cons_succ]
             refine SeqO.take (by rfl) (v := ?hv11) (by rfl) ?hy11 ?hr11
             case hy11 =>
              intro w hSw
              try dsimp only at hSw
              go_simp
              try (with_reducible rfl)
             try simp only [Act.put, List.setIfInBounds_toArray, List.set_cons_zero, List.set_cons_succ]
             refine SeqO.take (by rfl) (v := ?hv12) (by rfl) ?hy12 ?hr12
             case hy12 =>
              intro w hSw
              try dsimp only at hSw
              go_simp
              try (with_reducible rfl)
             try simp only [Act.put, List.setIfInBounds_toArray, List.set_cons_zero, List.set_cons_succ]
             refine SeqO.take (by rfl) (v := ?hv13) (by rfl) ?hy13 ?hr13
             case hy13 =>
              intro w hSw
              try dsimp only at hSw
              go_simp
              try (with_reducible rfl)
             try simp only [Act.put, List.setIfInBounds_toArray, List.set_cons_zero, List.set_cons_succ]
             refine SeqO.take (by rfl) (v := ?hv14) (by rfl) ?hy14 ?hr14
             case hy14 =>
              intro w hSw
              try dsimp only at hSw
              go_simp
              try (with_reducible rfl)
             try simp only [Act.put, List.setIfInBounds_toArray, List.set_cons_zero, List.set_cons_succ]
             refine SeqO.take (by rfl) (v := ?hv15) (by rfl) ?hy15 ?hr15
             case hy15 =>
              intro w hSw
              try dsimp only at hSw
              go_simp
              try (with_reducible rfl)
             try simp only [Act.put, List.setIfInBounds_toArray, List.set_cons_zero, List.set_cons_succ]
             refine SeqO.take (by rfl) (v := ?hv16) (by rfl) ?hy16 ?hr16
             case hy16 =>
              intro w hSw
              try dsimp only at hSw
              go_simp
              try (with_reducible rfl)
             try simp only [Act.put, List.setIfInBounds_toArray, List.set_cons_zero, List.set_cons_succ]
             refine SeqO.take (by rfl) (v := ?hv17) (by rfl) ?hy17 ?hr17
             case hy17 =>
              intro w hSw
              try dsimp only at hSw
              go_simp
              try (with_reducible rfl)
             try simp only [Act.put, List.setIfInBounds_toArray, List.set_cons_zero, List.set_cons_succ]
             refine SeqO.take (by rfl) (v := ?hv18) (by rfl) ?hy18 ?hr18
             case hy18 =>
              intro w hSw
              try dsimp only at hSw
              go_simp
              try (with_reducible rfl)
             try simp only [Act.put, List.setIfInBounds_toArray, List.set_cons_zero, List.set_cons_succ]
             refine SeqO.take (by rfl) (v := ?hv19) (by rfl) ?hy19 ?hr19
             case hy19 =>
              intro w hSw
              try dsimp only at hSw
              go_simp
              try (with_reducible rfl)
             try simp only [Act.put, List.setIfInBounds_toArray, List.set_cons_zero, List.set_cons_succ]
             refine SeqO.take (by rfl) (v := ?hv20) (by rfl) ?hy20 ?hr20
             case hy20 =>
              intro w hSw
              try dsimp only at hSw
              go_simp
              try (with_reducible rfl)
             try simp only [Act.put, List.setIfInBounds_toArray, List.set_cons_zero, List.set_cons_succ]
             refine SeqO.take (by rfl) (v := ?hv21) (by rfl) ?hy21 ?hr21
             case hy21 =>
              intro w hSw
              try dsimp only at hSw
              go_simp
              try (with_reducible rfl)
             try simp only [Act.put, List.setIfInBounds_toArray, List.set_cons_zero, List.set_cons_succ]
             refine SeqO.take (by rfl) (v := ?hv22) (by rfl) ?hy22 ?hr22
             case hy22 =>
              intro w hSw
              try dsimp only at hSw
              go_simp
              try (with_reducible rfl)
             try simp only [Act.put, List.setIfInBounds_toArray, List.set_cons_zero, List.set_cons_succ]
             refine SeqO.take (by rfl) (v := ?hv23) (by rfl) ?hy23 ?hr23
             case hy23 =>
              intro w hSw
              try dsimp only at hSw
              go_simp
              try (with_reducible rfl)
             try simp only [Act.put, List.setIfInBounds_toArray, List.set_cons_zero, List.set_cons_succ]
             refine SeqO.take (by rfl) (v := ?hv24) (by rfl) ?hy24 ?hr24
             case hy24 =>
              intro w hSw
              try dsimp only at hSw
              go_simp
              try (with_reducible rfl)
             try simp only [Act.put, List.setIfInBounds_toArray, List.set_cons_zero, List.set_cons_succ]
             refine SeqO.take (by rfl) (v := ?hv25) (by rfl) ?hy25 ?hr25
             case hy25 =>
              intro w hSw
              try dsimp only at hSw
              go_simp
              try (with_reducible rfl)
             try simp only [Act.put, List.setIfInBounds_toArray, List.set_cons_zero, List.set_cons_succ]
             refine SeqO.take (by rfl) (v := ?hv26) (by rfl) ?hy26 ?hr26
             case hy26 =>
              intro w hSw
              try dsimp only at hSw
              go_simp
              try (with_reducible rfl)
             try simp only [Act.put, List.setIfInBounds_toArray, List.set_cons_zero, List.set_cons_succ]
             refine SeqO.take (by rfl) (v := ?hv27) (by rfl) ?hy27 ?hr27
             case hy27 =>
              intro w hSw
              try dsimp only at hSw
              go_simp
              try (with_reducible rfl)
             try simp only [Act.put, List.setIfInBounds_toArray, List.set_cons_zero, List.set_cons_succ]
             refine SeqO.take (by rfl) (v := ?hv28) (by rfl) ?hy28 ?hr28
             case hy28 =>
              intro w hSw
              try dsimp only at hSw
              go_simp
              try (with_reducible rfl)
             try simp only [Act.put, List.setIfInBounds_toArray, List.set_cons_zero, List.set_cons_succ]
             refine SeqO.take (by rfl) (v := ?hv29) (by rfl) ?hy29 ?hr29
             case hy29 =>
              intro w hSw
              try dsimp only at hSw
              go_simp
              try (with_reducible rfl)
             try simp only [Act.put, List.setIfInBounds_toArray, List.set_cons_zero, List.set_cons_succ]
             refine SeqO.take (by rfl) (v := ?hv30) (by rfl) ?hy30 ?hr30
             case hy30 =>
              intro w hSw
              try dsimp only at hSw
              go_simp
              try (with_reducible rfl)
             try simp only [Act.put, List.setIfInBounds_toArray, List.set_cons_zero, List.set_cons_succ]
             refine SeqO.take (by rfl) (v := ?hv31) (by rfl) ?hy31 ?hr31
             case hy31 =>
              intro w hSw
              try dsimp only at hSw
              go_simp
              try (with_reducible rfl)
             try simp only [Act.put, List.setIfInBounds_toArray, List.set_cons_zero, List.set_cons_succ]
             refine SeqO.skip (by rfl) (by rfl) ?_
             try simp only [Act.put, List.setIfInBounds_toArray, List.set_cons_zero, List.set_cons_succ]
             refine SeqO.skip (by rfl) (by rfl) ?_
             try simp only [Act.put, List.setIfInBounds_toArray, List.set_cons_zero, List.set_cons_succ]
             refine SeqO.skip (by rfl) (by rfl) ?_
             try simp only [Act.put, List.setIfInBounds_toArray, List.set_cons_zero, List.set_cons_succ]
             refine SeqO.skip (by rfl) (by rfl) ?_
             try simp only [Act.put, List.setIfInBounds_toArray, List.set_cons_zero, List.set_cons_succ]
             refine SeqO.skip (by rfl) (by rfl) ?_
             try simp only [Act.put, List.setIfInBounds_toArray, List.set_cons_zero, List.set_cons_succ]
             refine SeqO.skip (by rfl) (by rfl) ?_
             try simp only [Act.put, List.setIfInBounds_toArray, List.set_cons_zero, List.set_cons_succ]
             refine SeqO.skip (by rfl) (by rfl) ?_
             try simp only [Act.put, List.setIfInBounds_toArray, List.set_cons_zero, List.set_cons_succ]
             refine SeqO.skip (by rfl) (by rfl) ?_
             try simp only [Act.put, List.setIfInBounds_toArray, List.set_cons_zero, List.set_cons_succ]
             refine SeqO.skip (by rfl) (by rfl) ?_
             try simp only [Act.put, List.setIfInBounds_toArray, List.set_cons_zero, List.set_cons_succ]
             refine SeqO.take (by rfl) (v := ?hv32) (by rfl) ?hy32 ?hr32
             case hy32 =>
              intro w hSw
              try dsimp only at hSw
              go_simp
              try (with_reducible rfl)
             try simp only [Act.put, List.setIfInBounds_toArray, List.set_cons_zero, List.set_cons_succ]
             refine SeqO.take (by rfl) (v := ?hv33) (by rfl) ?hy33 ?hr33
             case hy33 =>
              intro w hSw
              try dsimp only at hSw
              go_simp
              try (with_reducible rfl)
             try simp only [Act.put, List.setIfInBounds_toArray, List.set_cons_zero, List.set_cons_succ]
             refine SeqO.done (NoPanic.normal ?_)
             go_wp2
             go_roundw
             case rel => exact ⟨j + 1, by go_num, by omega, below_drewN hb 1⟩
             case measure => simp only [intOf]; omega
           · have q1 : (X1 == X2) = false := by rw [beq_eq_false_iff_ne]; exact hE
             by_cases hL : C1 < C2
             · have hXX := f2 hL
               have q3 : decide (C1 < C2) = true := decide_eq_true hL
               have q5 : ¬ X2 ≤ X1 := by omega
               have q6 : decide (X2 ≤ X1) = false := decide_eq_false q5
               clear f1 f2 hE hXX
               go_upto_region 16 with fail
               refine wp_region_noPanic ?_
               refine wp_region_ord (S := (fun W => W.cell? ⟨g2, o2 + i, none⟩ = some (.int .i64 X1) ∧ W.cell? ⟨g2, o2 + j, none⟩ = some (.int .i64 X2) ∧ W.cell? ⟨gp, op + i, none⟩ = some (.int .i64 C1) ∧ W.cell? ⟨gp, op + j, none⟩ = some (.int .i64 C2))) [(true, 0), (true, 1), (true, 2), (true, 3), (true, 4), (true, 5), (true, 6), (true, 7), (true, 8), (true, 9), (true, 10), (true, 11), (true, 12), (true, 13), (true, 14), (true, 15), (true, 16), (true, 17), (true, 18), (true, 19), (true, 20), (true, 21), (true, 22), (true, 23), (true, 24), (true, 25), (true, 26), (true, 27), (true, 28), (true, 29), (true, 30), (true, 31), (true, 32), (true, 33), (true, 34), (true, 35), (true, 36), (true, 37), (true, 38), (true, 39), (true, 40), (true, 41)] (by kernel_rfl) (by kernel_rfl) (by kernel_rfl) rfl (fun _ _ _ _ _ h => h) ?_ (fun hHeld => ?_)
               · exact ⟨k1, k2, k3, k4⟩
               refine SeqO.take (by rfl) (v := ?hv34) (by rfl) ?hy34 ?hr34
               case hy34 =>
                intro w hSw
                try dsimp only at hSw
                go_simp
                try (with_reducible rfl)
               try simp only [Act.put, List.setIfInBounds_toArray, List.set_cons_zero, List.set_cons_succ]
               refine SeqO.take (by rfl) (v := ?hv35) (by rfl) ?hy35 ?hr35
               case hy35 =>
                intro w hSw
                try dsimp only at hSw
                go_simp
                try (with_reducible rfl)
               try simp only [Act.put, List.setIfInBounds_toArray, List.set_cons_zero, List.set_cons_succ]
               refine SeqO.take (by rfl) (v := ?hv36) (by rfl) ?hy36 ?hr36
               case hy36 =>
                intro w hSw
                try dsimp only at hSw
                go_simp
                try (with_reducible rfl)
               try simp only [Act.put, List.setIfInBounds_toArray, List.set_cons_zero, List.set_cons_succ]
               refine SeqO.take (by rfl) (v := ?hv37) (by rfl) ?hy37 ?hr37
               case hy37 =>
                intro w hSw
                try dsimp only at hSw
                go_simp
                try (with_reducible rfl)
               try simp only [Act.put, List.setIfInBounds_toArray, List.set_cons_zero, List.set_cons_succ]
               refine SeqO.take (by rfl) (v := ?hv38) (by rfl) ?hy38 ?hr38
               case hy38 =>
                intro w hSw
                try dsimp only at hSw
                go_simp
                try (with_reducible rfl)
               try simp only [Act.put, List.setIfInBounds_toArray, List.set_cons_zero, List.set_cons_succ]
               refine SeqO.take (by rfl) (v := ?hv39) (by rfl) ?hy39 ?hr39
               case hy39 =>
                intro w hSw
                try dsimp only at hSw
                go_simp
                try (with_reducible rfl)
               try simp only [Act.put, List.setIfInBounds_toArray, List.set_cons_zero, List.set_cons_succ]
               refine SeqO.take (by rfl) (v := ?hv40) (by rfl) ?hy40 ?hr40
               case hy40 =>
                intro w hSw
                try dsimp only at hSw
                go_simp
                try (with_reducible rfl)
               try simp only [Act.put, List.setIfInBounds_toArray, List.set_cons_zero, List.set_cons_succ]
               refine SeqO.take (by rfl) (v := ?hv41) (by rfl) ?hy41 ?hr41
               case hy41 =>
                intro w hSw
                try dsimp only at hSw
                go_simp
                try (with_reducible rfl)
               try simp only [Act.put, List.setIfInBounds_toArray, List.set_cons_zero, List.set_cons_succ]
               refine SeqO.take (by rfl) (v := ?hv42) (by rfl) ?hy42 ?hr42
               case hy42 =>
                intro w hSw
                try dsimp only at hSw
                go_simp
                try (with_reducible rfl)
               try simp only [Act.put, List.setIfInBounds_toArray, List.set_cons_zero, List.set_cons_succ]
               refine SeqO.take (by rfl) (v := ?hv43) (by rfl) ?hy43 ?hr43
               case hy43 =>
                intro w hSw
                try dsimp only at hSw
                go_simp
                try (with_reducible rfl)
               try simp only [Act.put, List.setIfInBounds_toArray, List.set_cons_zero, List.set_cons_succ]
               refine SeqO.skip (by rfl) (by rfl) ?_
               try simp only [Act.put, List.setIfInBounds_toArray, List.set_cons_zero, List.set_cons_succ]
               refine SeqO.skip (by rfl) (by rfl) ?_
               try simp only [Act.put, List.setIfInBounds_toArray, List.set_cons_zero, List.set_cons_succ]
               refine SeqO.skip (by rfl) (by rfl) ?_
               try simp only [Act.put, List.setIfInBounds_toArray, List.set_cons_zero, List.set_cons_succ]
               refine SeqO.skip (by rfl) (by rfl) ?_
               try simp only [Act.put, List.setIfInBounds_toArray, List.set_cons_zero, List.set_cons_succ]
               refine SeqO.skip (by rfl) (by rfl) ?_
               try simp only [Act.put, List.setIfInBounds_toArray, List.set_cons_zero, List.set_cons_succ]
               refine SeqO.skip (by rfl) (by rfl) ?_
               try simp only [Act.put, List.setIfInBounds_toArray, List.set_cons_zero, List.set_cons_succ]
               refine SeqO.skip (by rfl) (by rfl) ?_
               try simp only [Act.put, List.setIfInBounds_toArray, List.set_cons_zero, List.set_cons_succ]
               refine SeqO.skip (by rfl) (by rfl) ?_
               try simp only [Act.put, List.setIfInBounds_toArray, List.set_cons_zero, List.set_cons_succ]
               refine SeqO.skip (by rfl) (by rfl) ?_
               try simp only [Act.put, List.setIfInBounds_toArray, List.set_cons_zero, List.set_cons_succ]
               refine SeqO.take (by rfl) (v := ?hv44) (by rfl) ?hy44 ?hr44
               case hy44 =>
                intro w hSw
                try dsimp only at hSw
                go_simp
                try (with_reducible rfl)
               try simp only [Act.put, List.setIfInBounds_toArray, List.set_cons_zero, List.set_cons_succ]
               refine SeqO.take (by rfl) (v := ?hv45) (by rfl) ?hy45 ?hr45
               case hy45 =>
                intro w hSw
                try dsimp only at hSw
                go_simp
                try (with_reducible rfl)
               try simp only [Act.put, List.setIfInBounds_toArray, List.set_cons_zero, List.set_cons_succ]
               refine SeqO.take (by rfl) (v := ?hv46) (by rfl) ?hy46 ?hr46
               case hy46 =>
                intro w hSw
                try dsimp only at hSw
                go_simp
                try (with_reducible rfl)
               try simp only [Act.put, List.setIfInBounds_toArray, List.set_cons_zero, List.set_cons_succ]
               refine SeqO.take (by rfl) (v := ?hv47) (by rfl) ?hy47 ?hr47
               case hy47 =>
                intro w hSw
                try dsimp only at hSw
                go_simp
                try (with_reducible rfl)
               try simp only [Act.put, List.setIfInBounds_toArray, List.set_cons_zero, List.set_cons_succ]
               refine SeqO.take (by rfl) (v := ?hv48) (by rfl) ?hy48 ?hr48
               case hy48 =>
                intro w hSw
                try dsimp only at hSw
                go_simp
                try (with_reducible rfl)
               try simp only [Act.put, List.setIfInBounds_toArray, List.set_cons_zero, List.set_cons_succ]
               refine SeqO.take (by rfl) (v := ?hv49) (by rfl) ?hy49 ?hr49
               case hy49 =>
                intro w hSw
                try dsimp only at hSw
                go_simp
                try (with_reducible rfl)
               try simp only [Act.put, List.setIfInBounds_toArray, List.set_cons_zero, List.set_cons_succ]
               refine SeqO.take (by rfl) (v := ?hv50) (by rfl) ?hy50 ?hr50
               case hy50 =>
                intro w hSw
                try dsimp only at hSw
                go_simp
                try (with_reducible rfl)
               try simp only [Act.put, List.setIfInBounds_toArray, List.set_cons_zero, List.set_cons_succ]
               refine SeqO.take (by rfl) (v := ?hv51) (by rfl) ?hy51 ?hr51
               case hy51 =>
                intro w hSw
                try dsimp only at hSw
                go_simp
                try (with_reducible rfl)
               try simp only [Act.put, List.setIfInBounds_toArray, List.set_cons_zero, List.set_cons_succ]
               refine SeqO.take (by rfl) (v := ?hv52) (by rfl) ?hy52 ?hr52
               case hy52 =>
                intro w hSw
                try dsimp only at hSw
                go_simp
                try (with_reducible rfl)
               try simp only [Act.put, List.setIfInBounds_toArray, List.set_cons_zero, List.set_cons_succ]
               refine SeqO.take (by rfl) (v := ?hv53) (by rfl) ?hy53 ?hr53
               case hy53 =>
                intro w hSw
                try dsimp only at hSw
                go_simp
                try (with_reducible rfl)
               try simp only [Act.put, List.setIfInBounds_toArray, List.set_cons_zero, List.set_cons_succ]
               refine SeqO.take (by rfl) (v := ?hv54) (by rfl) ?hy54 ?hr54
               case hy54 =>
                intro w hSw
                try dsimp only at hSw
                go_simp
                try (with_reducible rfl)
               try simp only [Act.put, List.setIfInBounds_toArray, List.set_cons_zero, List.set_cons_succ]
               refine SeqO.take (by rfl) (v := ?hv55) (by rfl) ?hy55 ?hr55
               case hy55 =>
                intro w hSw
                try dsimp only at hSw
                go_simp
                try (with_reducible rfl)
               try simp only [Act.put, List.setIfInBounds_toArray, List.set_cons_zero, List.set_cons_succ]
               refine SeqO.take (by rfl) (v := ?hv56) (by rfl) ?hy56 ?hr56
               case hy56 =>
                intro w hSw
                try dsimp only at hSw
                go_simp
                try (with_reducible rfl)
               try simp only [Act.put, List.setIfInBounds_toArray, List.set_cons_zero, List.set_cons_succ]
               refine SeqO.take (by rfl) (v := ?hv57) (by rfl) ?hy57 ?hr57
               case hy57 =>
                intro w hSw
                try dsimp only at hSw
                go_simp
                try (with_reducible rfl)
               try simp only [Act.put, List.setIfInBounds_toArray, List.set_cons_zero, List.set_cons_succ]
               refine SeqO.take (by rfl) (v := ?hv58) (by rfl) ?hy58 ?hr58
               case hy58 =>
                intro w hSw
                try dsimp only at hSw
                go_simp
                try (with_reducible rfl)
               try simp only [Act.put, List.setIfInBounds_toArray, List.set_cons_zero, List.set_cons_succ]
               refine SeqO.take (by rfl) (v := ?hv59) (by rfl) ?hy59 ?hr59
               case hy59 =>
                intro w hSw
                try dsimp only at hSw
                go_simp
                try (with_reducible rfl)
               try simp only [Act.put, List.setIfInBounds_toArray, List.set_cons_zero, List.set_cons_succ]
               refine SeqO.take (by rfl) (v := ?hv60) (by rfl) ?hy60 ?hr60
               case hy60 =>
                intro w hSw
                try dsimp only at hSw
                go_simp
                try (with_reducible rfl)
               try simp only [Act.put, List.setIfInBounds_toArray, List.set_cons_zero, List.set_cons_succ]
               refine SeqO.take (by rfl) (v := ?hv61) (by rfl) ?hy61 ?hr61
               case hy61 =>
                intro w hSw
                try dsimp only at hSw
                go_simp
                try (with_reducible rfl)
               try simp only [Act.put, List.setIfInBounds_toArray, List.set_cons_zero, List.set_cons_succ]
               refine SeqO.take (by rfl) (v := ?hv62) (by rfl) ?hy62 ?hr62
               case hy62 =>
                intro w hSw
                try dsimp only at hSw
                go_simp
                try (with_reducible rfl)
               try simp only [Act.put, List.setIfInBounds_toArray, List.set_cons_zero, List.set_cons_succ]
               refine SeqO.take (by rfl) (v := ?hv63) (by rfl) ?hy63 ?hr63
               case hy63 =>
                intro w hSw
                try dsimp only at hSw
                go_simp
                try (with_reducible rfl)
               try simp only [Act.put, List.setIfInBounds_toArray, List.set_cons_zero, List.set_cons_succ]
               refine SeqO.take (by rfl) (v := ?hv64) (by rfl) ?hy64 ?hr64
               case hy64 =>
                intro w hSw
                try dsimp only at hSw
                go_simp
                try (with_reducible rfl)
               try simp only [Act.put, List.setIfInBounds_toArray, List.set_cons_zero, List.set_cons_succ]
               refine SeqO.take (by rfl) (v := ?hv65) (by rfl) ?hy65 ?hr65
               case hy65 =>
                intro w hSw
                try dsimp only at hSw
                go_simp
                try (with_reducible rfl)
               try simp only [Act.put, List.setIfInBounds_toArray, List.set_cons_zero, List.set_cons_succ]
               refine SeqO.take (by rfl) (v := ?hv66) (by rfl) ?hy66 ?hr66
               case hy66 =>
                intro w hSw
                try dsimp only at hSw
                go_simp
                try (with_reducible rfl)
               try simp only [Act.put, List.setIfInBounds_toArray, List.set_cons_zero, List.set_cons_succ]
               refine SeqO.done (NoPanic.normal ?_)
               go_wp2
               go_roundw
               case rel => exact ⟨j + 1, by go_num, by omega, below_drewN hb 1⟩
               case measure => simp only [intOf]; omega
             · have q3 : decide (C1 < C2) = false := decide_eq_false hL
               clear f1 f2 hE
               go_upto_region 16 with fail
               refine wp_region_noPanic ?_
               refine wp_region_ord (S := (fun W => W.cell? ⟨g2, o2 + i, none⟩ = some (.int .i64 X1) ∧ W.cell? ⟨g2, o2 + j, none⟩ = some (.int .i64 X2) ∧ W.cell? ⟨gp, op + i, none⟩ = some (.int .i64 C1) ∧ W.cell? ⟨gp, op + j, none⟩ = some (.int .i64 C2))) [(true, 0), (true, 1), (true, 2), (true, 3), (true, 4), (true, 5), (true, 6), (true, 7), (true, 8), (true, 9), (true, 10), (true, 11), (true, 12), (true, 13), (true, 14), (true, 15), (true, 16), (true, 17), (true, 18), (true, 19), (true, 20), (true, 21), (true, 22), (true, 23), (true, 24), (true, 25), (true, 26), (true, 27), (true, 28), (true, 29), (true, 30), (true, 31), (true, 32), (true, 33), (true, 34), (true, 35), (true, 36), (true, 37), (true, 38), (true, 39), (true, 40), (true, 41)] (by kernel_rfl) (by kernel_rfl) (by kernel_rfl) rfl (fun _ _ _ _ _ h => h) ?_ (fun hHeld => ?_)
               · exact ⟨k1, k2, k3, k4⟩
               refine SeqO.take (by rfl) (v := ?hv67) (by rfl) ?hy67 ?hr67
               case hy67 =>
                intro w hSw
                try dsimp only at hSw
                go_simp
                try (with_reducible rfl)
               try simp only [Act.put, List.setIfInBounds_toArray, List.set_cons_zero, List.set_cons_succ]
               refine SeqO.take (by rfl) (v := ?hv68) (by rfl) ?hy68 ?hr68
               case hy68 =>
                intro w hSw
                try dsimp only at hSw
                go_simp
                try (with_reducible rfl)
               try simp only [Act.put, List.setIfInBounds_toArray, List.set_cons_zero, List.set_cons_succ]
               refine SeqO.take (by rfl) (v := ?hv69) (by rfl) ?hy69 ?hr69
               case hy69 =>
                intro w hSw
                try dsimp only at hSw
                go_simp
                try (with_reducible rfl)
               try simp only [Act.put, List.setIfInBounds_toArray, List.set_cons_zero, List.set_cons_succ]
               refine SeqO.take (by rfl) (v := ?hv70) (by rfl) ?hy70 ?hr70
               case hy70 =>
                intro w hSw
                try dsimp only at hSw
                go_simp
                try (with_reducible rfl)
               try simp only [Act.put, List.setIfInBounds_toArray, List.set_cons_zero, List.set_cons_succ]
               refine SeqO.take (by rfl) (v := ?hv71) (by rfl) ?hy71 ?hr71
               case hy71 =>
                intro w hSw
                try dsimp only at hSw
                go_simp
                try (with_reducible rfl)
               try simp only [Act.put, List.setIfInBounds_toArray, List.set_cons_zero, List.set_cons_succ]
               refine SeqO.take (by rfl) (v := ?hv72) (by rfl) ?hy72 ?hr72
               case hy72 =>
                intro w hSw
                try dsimp only at hSw
                go_simp
                try (with_reducible rfl)
               try simp only [Act.put, List.setIfInBounds_toArray, List.set_cons_zero, List.set_cons_succ]
               refine SeqO.take (by rfl) (v := ?hv73) (by rfl) ?hy73 ?hr73
               case hy73 =>
                intro w hSw
                try dsimp only at hSw
                go_simp
                try (with_reducible rfl)
               try simp only [Act.put, List.setIfInBounds_toArray, List.set_cons_zero, List.set_cons_succ]
               refine SeqO.take (by rfl) (v := ?hv74) (by rfl) ?hy74 ?hr74
               case hy74 =>
                intro w hSw
                try dsimp only at hSw
                go_simp
                try (with_reducible rfl)
               try simp only [Act.put, List.setIfInBounds_toArray, List.set_cons_zero, List.set_cons_succ]
               refine SeqO.take (by rfl) (v := ?hv75) (by rfl) ?hy75 ?hr75
               case hy75 =>
                intro w hSw
                try dsimp only at hSw
                go_simp
                try (with_reducible rfl)
               try simp only [Act.put, List.setIfInBounds_toArray, List.set_cons_zero, List.set_cons_succ]
               refine SeqO.take (by rfl) (v := ?hv76) (by rfl) ?hy76 ?hr76
               case hy76 =>
                intro w hSw
                try dsimp only at hSw
                go_simp
                try (with_reducible rfl)
               try simp only [Act.put, List.setIfInBounds_toArray, List.set_cons_zero, List.set_cons_succ]
               refine SeqO.skip (by rfl) (by rfl) ?_
               try simp only [Act.put, List.setIfInBounds_toArray, List.set_cons_zero, List.set_cons_succ]
               refine SeqO.skip (by rfl) (by rfl) ?_
               try simp only [Act.put, List.setIfInBounds_toArray, List.set_cons_zero, List.set_cons_succ]
               refine SeqO.skip (by rfl) (by rfl) ?_
               try simp only [Act.put, List.setIfInBounds_toArray, List.set_cons_zero, List.set_cons_succ]
               refine SeqO.skip (by rfl) (by rfl) ?_
               try simp only [Act.put, List.setIfInBounds_toArray, List.set_cons_zero, List.set_cons_succ]
               refine SeqO.skip (by rfl) (by rfl) ?_
               try simp only [Act.put, List.setIfInBounds_toArray, List.set_cons_zero, List.set_cons_succ]
               refine SeqO.skip (by rfl) (by rfl) ?_
               try simp only [Act.put, List.setIfInBounds_toArray, List.set_cons_zero, List.set_cons_succ]
               refine SeqO.skip (by rfl) (by rfl) ?_
               try simp only [Act.put, List.setIfInBounds_toArray, List.set_cons_zero, List.set_cons_succ]
               refine SeqO.skip (by rfl) (by rfl) ?_
               try simp only [Act.put, List.setIfInBounds_toArray, List.set_cons_zero, List.set_cons_succ]
               refine SeqO.skip (by rfl) (by rfl) ?_
               try simp only [Act.put, List.setIfInBounds_toArray, List.set_cons_zero, List.set_cons_succ]
               refine SeqO.take (by rfl) (v := ?hv77) (by rfl) ?hy77 ?hr77
               case hy77 =>
                intro w hSw
                try dsimp only at hSw
                go_simp
                try (with_reducible rfl)
               try simp only [Act.put, List.setIfInBounds_toArray, List.set_cons_zero, List.set_cons_succ]
               refine SeqO.take (by rfl) (v := ?hv78) (by rfl) ?hy78 ?hr78
               case hy78 =>
                intro w hSw
                try dsimp only at hSw
                go_simp
                try (with_reducible rfl)
               try simp only [Act.put, List.setIfInBounds_toArray, List.set_cons_zero, List.set_cons_succ]
               refine SeqO.take (by rfl) (v := ?hv79) (by rfl) ?hy79 ?hr79
               case hy79 =>
                intro w hSw
                try dsimp only at hSw
                go_simp
                try (with_reducible rfl)
               try simp only [Act.put, List.setIfInBounds_toArray, List.set_cons_zero, List.set_cons_succ]
               refine SeqO.take (by rfl) (v := ?hv80) (by rfl) ?hy80 ?hr80
               case hy80 =>
                intro w hSw
                try dsimp only at hSw
                go_simp
                try (with_reducible rfl)
               try simp only [Act.put, List.setIfInBounds_toArray, List.set_cons_zero, List.set_cons_succ]
               refine SeqO.take (by rfl) (v := ?hv81) (by rfl) ?hy81 ?hr81
               case hy81 =>
                intro w hSw
                try dsimp only at hSw
                go_simp
                try (with_reducible rfl)
               try simp only [Act.put, List.setIfInBounds_toArray, List.set_cons_zero, List.set_cons_succ]
               refine SeqO.take (by rfl) (v := ?hv82) (by rfl) ?hy82 ?hr82
               case hy82 =>
                intro w hSw
                try dsimp only at hSw
                go_simp
                try (with_reducible rfl)
               try simp only [Act.put, List.setIfInBounds_toArray, List.set_cons_zero, List.set_cons_succ]
               refine SeqO.take (by rfl) (v := ?hv83) (by rfl) ?hy83 ?hr83
               case hy83 =>
                intro w hSw
                try dsimp only at hSw
                go_simp
                try (with_reducible rfl)
               try simp only [Act.put, List.setIfInBounds_toArray, List.set_cons_zero, List.set_cons_succ]
               refine SeqO.take (by rfl) (v := ?hv84) (by rfl) ?hy84 ?hr84
               case hy84 =>
                intro w hSw
                try dsimp only at hSw
                go_simp
                try (with_reducible rfl)
               try simp only [Act.put, List.setIfInBounds_toArray, List.set_cons_zero, List.set_cons_succ]
               refine SeqO.take (by rfl) (v := ?hv85) (by rfl) ?hy85 ?hr85
               case hy85 =>
                intro w hSw
                try dsimp only at hSw
                go_simp
                try (with_reducible rfl)
               try simp only [Act.put, List.setIfInBounds_toArray, List.set_cons_zero, List.set_cons_succ]
               refine SeqO.take (by rfl) (v := ?hv86) (by rfl) ?hy86 ?hr86
               case hy86 =>
                intro w hSw
                try dsimp only at hSw
                go_simp
                try (with_reducible rfl)
               try simp only [Act.put, List.setIfInBounds_toArray, List.set_cons_zero, List.set_cons_succ]
               refine SeqO.take (by rfl) (v := ?hv87) (by rfl) ?hy87 ?hr87
               case hy87 =>
                intro w hSw
                try dsimp only at hSw
                go_simp
                try (with_reducible rfl)
               try simp only [Act.put, List.setIfInBounds_toArray, List.set_cons_zero, List.set_cons_succ]
               refine SeqO.take (by rfl) (v := ?hv88) (by rfl) ?hy88 ?hr88
               case hy88 =>
                intro w hSw
                try dsimp only at hSw
                go_simp
                try (with_reducible rfl)
               try simp only [Act.put, List.setIfInBounds_toArray, List.set_cons_zero, List.set_cons_succ]
               refine SeqO.skip (by rfl) (by rfl) ?_
               try simp only [Act.put, List.setIfInBounds_toArray, List.set_cons_zero, List.set_cons_succ]
               refine SeqO.skip (by rfl) (by rfl) ?_
               try simp only [Act.put, List.setIfInBounds_toArray, List.set_cons_zero, List.set_cons_succ]
               refine SeqO.skip (by rfl) (by rfl) ?_
               try simp only [Act.put, List.setIfInBounds_toArray, List.set_cons_zero, List.set_cons_succ]
               refine SeqO.skip (by rfl) (by rfl) ?_
               try simp only [Act.put, List.setIfInBounds_toArray, List.set_cons_zero, List.set_cons_succ]
               refine SeqO.skip (by rfl) (by rfl) ?_
               try simp only [Act.put, List.setIfInBounds_toArray, List.set_cons_zero, List.set_cons_succ]
               refine SeqO.skip (by rfl) (by rfl) ?_
               try simp only [Act.put, List.setIfInBounds_toArray, List.set_cons_zero, List.set_cons_succ]
               refine SeqO.skip (by rfl) (by rfl) ?_
               try simp only [Act.put, List.setIfInBounds_toArray, List.set_cons_zero, List.set_cons_succ]
               refine SeqO.skip (by rfl) (by rfl) ?_
               try simp only [Act.put, List.setIfInBounds_toArray, List.set_cons_zero, List.set_cons_succ]
               refine SeqO.skip (by rfl) (by rfl) ?_
               try simp only [Act.put, List.setIfInBounds_toArray, List.set_cons_zero, List.set_cons_succ]
               refine SeqO.take (by rfl) (v := ?hv89) (by rfl) ?hy89 ?hr89
               case hy89 =>
                intro w hSw
                try dsimp only at hSw
                go_simp
                try (with_reducible rfl)
               try simp only [Act.put, List.setIfInBounds_toArray, List.set_cons_zero, List.set_cons_succ]
               refine SeqO.take (by rfl) (v := ?hv90) (by rfl) ?hy90 ?hr90
               case hy90 =>
                intro w hSw
                try dsimp only at hSw
                go_simp
                try (with_reducible rfl)
               try simp only [Act.put, List.setIfInBounds_toArray, List.set_cons_zero, List.set_cons_succ]
               refine SeqO.done (NoPanic.normal ?_)
               go_wp2
               go_roundw
               case rel => exact ⟨j + 1, by go_num, by omega, below_drewN hb 1⟩
               case measure => simp only [intOf]; omega
         · go_wp2
           go_roundw
           case rel => exact ⟨i + 1, by go_num, by omega, hb⟩
           case measure => simp only [intOf]; omega
      · have dz := d3.trans (hb.mono d3.size)
        have HPM := hide (b10Perm_any b d bm xs.length wo ((unhide YB).below dz) (by omega))
        have R5 := hide ((unhide R3).below hb)
        have P5 := hide ((unhide P3).below hb)
        go_wp2_with fail
        refine (unhide HPM).mono ?_
        rintro e w4 ⟨vp, p, rfl, hp, op, b4⟩
        obtain ⟨ap, cp, rfl, rp, _⟩ := op.form
        have hpl := permOk_len hp
        have d4 := dz.trans (b4.mono dz.size)
        have HRL := hide (implRL_any a1 c1 xs ra rc es ap cp p w4 ((unhide RX).below d4) ((unhide RE).below d4) rp)
        obtain ⟨hrl, hrc⟩ := (unhide HLW) p hp
        have R6 := hide ((unhide R5).below b4)
        have P6 := hide ((unhide P5).below b4)
        have Q6 := hide rp
        obtain ⟨z, hz⟩ : ∃ z, z = setTo xs p xs.length := ⟨_, rfl⟩
        obtain ⟨f, hf⟩ : ∃ f, f = esM xs.length p es := ⟨_, rfl⟩
        have hzl : z.length = xs.length := by rw [hz]; exact setTo_len _ _ _
        rw [← hz, ← hf] at hrl hrc
        rw [hrl] at HRL
        rw [hpl]
        rw [hpl] at HRL
        have HPL := Lib.hid hpl
        have HPK := Lib.hid hp
        have HRCM := Lib.hid hrc
        have HZL := Lib.hid hzl
        obtain ⟨e0, e1⟩ := (unhide BX) w4 d4
        clear op rp hrl hrc hzl hz hf hp hpl HPM R5 P5
        go_wp2_with fail
        refine (unhide HRL).mono ?_
        rintro e w5 ⟨v5, u5, rfl, o5, b5⟩
        obtain ⟨a5, c5, ra5, rc5, rfl, rfl, r5, re5⟩ := o5.form
        rw [show (z, f, (0 : Int)).1 = z from rfl, show (z, f, (0 : Int)).2.1 = f from rfl, HZL.out]
        obtain ⟨WB, hWB⟩ : ∃ y, y = w5.alloc (.cells #[.slice a5 xs.length c5, .slice ra5 f.length rc5] 27) := ⟨_, rfl⟩
        have bB : Below w5.heap.size w5 WB := by rw [hWB]; exact (Below.refl _ _).alloc (Nat.le_refl _) _
        have kB : Blk WB w5.heap.size 27 #[.slice a5 xs.length c5, .slice ra5 f.length rc5] := by rw [hWB]; exact Blk.new _ _ _ rfl
        have d5 := d4.trans (b5.mono d4.size)
        have hgB := kB.lt
        have BY := hide (show ∀ V, Below WB.heap.size WB V → V.cell? ⟨w5.heap.size, 0, none⟩ = some (.slice a5 xs.length c5) ∧ V.cell? ⟨w5.heap.size, 1, none⟩ = some (.slice ra5 f.length rc5) from fun V h => ⟨(kB.below h hgB).cell 0, (kB.below h hgB).cell 1⟩)
        have dB := (d5.trans (bB.mono d5.size)).trans ((show Below WB.heap.size WB WB.drew from Below.drewn 1).mono (by have := d5.size; have := bB.size; omega))
        have hbd : Below WB.heap.size WB WB.drew := Below.drewn 1
        have hb5 : Below w4.heap.size w4 WB.drew := (b5.trans (bB.mono b5.size)).trans (hbd.mono (by have := b5.size; have := bB.size; omega))
        have hwB := Lib.hid hWB
        have R7 := hide ((unhide R6).below hb5)
        have P7 := hide ((unhide P6).below hb5)
        have Q7 := hide ((unhide Q6).below hb5)
        have Z7 := hide ((r5.below bB).below hbd)
        have E7 := hide ((re5.below bB).below hbd)
        have HSP := hide (b10Spread_any pa pc cs ap cp p WB.drew (unhide P7) (unhide Q7) (by rw [HCL.out]; omega) (by rw [HPL.out, HCL.out]) (by rw [HCL.out]; exact HPK.out))
        rw [HCL.out, HPL.out] at HSP
        clear hWB kB o5 r5 re5 bB R6 P6 Q6 e0 e1
        go_upto_region 20 with fail
        rw [← hwB.out]
        refine wp_region_noPanic ?_
        refine wp_region_ord (S := (fun W => W.cell? ⟨w5.heap.size, 0, none⟩ = some (.slice a5 xs.length c5) ∧ W.cell? ⟨w5.heap.size, 1, none⟩ = some (.slice ra5 f.length rc5))) [(true, 0), (true, 1), (true, 2), (false, 3), (false, 4), (true, 5), (true, 6), (true, 7), (true, 8), (true, 9)] (by kernel_rfl) (by kernel_rfl) (by kernel_rfl) rfl (fun _ _ _ _ _ h => h) ?_ (fun hHeld => ?_)
        · exact (unhide BY) _ hbd
        refine SeqO.take (by rfl) (v := ?hv91) (by rfl) ?hy91 ?hr91
        case hy91 =>
         intro w hSw
         try dsimp only at hSw
         go_simp
         try (with_reducible rfl)
        try simp only [Act.put, List.setIfInBounds_toArray, List.set_cons_zero, List.set_cons_succ]
        refine SeqO.take (by rfl) (v := ?hv92) (by rfl) ?hy92 ?hr92
        case hy92 =>
         intro w hSw
         try dsimp only at hSw
         go_simp
         try (with_reducible rfl)
        try simp only [Act.put, List.setIfInBounds_toArray, List.set_cons_zero, List.set_cons_succ]
        refine SeqO.take (by rfl) (v := ?hv93) (by rfl) ?hy93 ?hr93
        case hy93 =>
         intro w hSw
         try dsimp only at hSw
         go_simp
         try (with_reducible rfl)
        try simp only [Act.put, List.setIfInBounds_toArray, List.set_cons_zero, List.set_cons_succ]
        refine SeqO.call (by rfl) (fun K hK => ?_)
        go_simp
        refine (unhide HSP).mono ?_
        rintro e w6 ⟨v6, rfl, o6, b6⟩
        obtain ⟨a6, c6, rfl, r6, _⟩ := o6.form
        have d6 := hbd.trans (b6.mono (Nat.le_refl _))
        have hsl : (setTo cs p xs.length).length = xs.length := (setTo_len _ _ _).trans HCL.out
        have HR6 := implRC_any a5 c5 z ra5 rc5 f a6 c6 (setTo cs p xs.length) w6 ((unhide Z7).below b6) ((unhide E7).below b6) r6
        rw [HRCM.out, HZL.out, hsl] at HR6
        rw [hsl]
        have HRC6 := hide HR6
        clear o6 r6 HR6
        refine hK.out _ _ ?_ (fun hHeld => ?_)
        · exact (unhide BY) _ d6
        clear hK K
        try simp only [Act.put, List.setIfInBounds_toArray, List.set_cons_zero, List.set_cons_succ]
        refine SeqO.call (by rfl) (fun K hK => ?_)
        go_simp
        refine (unhide HRC6).mono ?_
        rintro e w7 ⟨v7, rfl, o7, b7⟩
        have d7 := d6.trans (b7.mono d6.size)
        refine hK.out _ _ ?_ (fun hHeld => ?_)
        · exact (unhide BY) _ d7
        clear hK K
        try simp only [Act.put, List.setIfInBounds_toArray, List.set_cons_zero, List.set_cons_succ]
        refine SeqO.take (by rfl) (v := ?hv94) (by rfl) ?hy94 ?hr94
        case hy94 =>
         intro w hSw
         try dsimp only at hSw
         go_simp
         try (with_reducible rfl)
        try simp only [Act.put, List.setIfInBounds_toArray, List.set_cons_zero, List.set_cons_succ]
        refine SeqO.take (by rfl) (v := ?hv95) (by rfl) ?hy95 ?hr95
        case hy95 =>
         intro w hSw
         try dsimp only at hSw
         go_simp
         try (with_reducible rfl)
        try simp only [Act.put, List.setIfInBounds_toArray, List.set_cons_zero, List.set_cons_succ]
        refine SeqO.take (by rfl) (v := ?hv96) (by rfl) ?hy96 ?hr96
        case hy96 =>
         intro w hSw
         try dsimp only at hSw
         go_simp
         try (with_reducible rfl)
        try simp only [Act.put, List.setIfInBounds_toArray, List.set_cons_zero, List.set_cons_succ]
        refine SeqO.take (by rfl) (v := ?hv97) (by rfl) ?hy97 ?hr97
        case hy97 =>
         intro w hSw
         try dsimp only at hSw
         go_simp
         try (with_reducible rfl)
        try simp only [Act.put, List.setIfInBounds_toArray, List.set_cons_zero, List.set_cons_succ]
        refine SeqO.take (by rfl) (v := ?hv98) (by rfl) ?hy98 ?hr98
        case hy98 =>
         intro w hSw
         try dsimp only at hSw
         go_simp
         try (with_reducible rfl)
        try simp only [Act.put, List.setIfInBounds_toArray, List.set_cons_zero, List.set_cons_succ]
        refine SeqO.done (NoPanic.normal ?_)
        obtain ⟨a7, c7, rfl, r7, _⟩ := o7.form
        have hs7 : (setTo x p xs.length).length = xs.length := (setTo_len _ _ _).trans HXL.out
        have b67 := b6.trans (b7.mono b6.size)
        have HSX := hide (b10Spread_any a2 c2 x ap cp p w7 ((unhide R7).below b67) ((unhide Q7).below b67) (by rw [HXL.out]; omega) (by rw [HPL.out, HXL.out]) (by rw [HXL.out]; exact HPK.out))
        rw [HXL.out, HPL.out] at HSX
        have R8 := hide r7
        rw [show (setTo x p xs.length, (0 : Int)).1 = setTo x p xs.length from rfl, hs7]
        clear o7 r7
        go_wp2_with fail
        refine (unhide HSX).mono ?_
        rintro e w8 ⟨v8, rfl, o8, b8⟩
        obtain ⟨a8, c8, rfl, r8, _⟩ := o8.form
        have HNN := b10Nums_any a7 a8 c7 c8 (setTo x p xs.length) (setTo x p xs.length) w8 ((unhide R8).below b8) r8
        rw [hs7, decide_eq_true rfl] at HNN
        rw [hs7]
        have HNM := hide HNN
        have d8 := b67.trans (b8.mono b67.size)
        clear o8 r8 HNN
        go_wp2_with fail
        refine (unhide HNM).mono ?_
        rintro e w9 ⟨rfl, q9⟩
        have hbh := Below.chain hb0 ((dB.trans (d8.mono dB.size)).trans (q9.below _))
        go_wp2
        go_ret
        exact ⟨rfl, hbh⟩
theorem law_FnRefine (X Y : SB) (w : World) (hX : X.ok w) (hY : Y.ok w) :
    Calls Tryz.prog 3 #[X.val, Y.val] w fun e w' => e = .returned (.bool true) ∧ Below w.heap.size w w' :=
 walkFnRefine X.a Y.a X.c Y.c X.xs Y.xs w hX.1 hY.1 hX.2 hY.2
namespace fnRefine
open Go.ChangeShapes Go.WideShapes Go.ChangeAt
theorem lifted (os : Os) (started : os.Started) (H : Type) (enc : TypeId × Value → H) :
    ReturnsInHanded {} Tryz.checked os 3 .any (Rows.fnRefineSpec.pre6 enc Tryz.prog Tryz.f3 Rows.fnRefineRow.domain false) (Rows.fnRefineSpec.post enc Tryz.prog Tryz.f3 false true false false) := by
 refine returnsInHanded_of_change (C := Tryz.checked) ownKnob_none started (by kernel_rfl) Tryz.func3
  (ChangeSpec.witness6 (enc := enc) (C := Tryz.checked) false ⟨#[], #[.slice none 0 0, .slice none 0 0], []⟩ 8 (by kernel_rfl) (by kernel_rfl) (by kernel_rfl) (by kernel_rfl)) ?_
 intro W base args ds gs before hval0 hW _ _
 have hval : ∀ (j : Nat) t v, Tryz.f3.params[j]? = some t → args[j]? = some v → Value.okWide Tryz.prog W .any base t v := hval0
 have hW' := hW
 obtain ⟨p, q, hA0, hV, rfl, hfz, hnd⟩ := hW
 have hA : DataW.TrodAll enc Tryz.prog W 0 (fun _ => true) true Tryz.f3.params.toList args.toList ds p := hA0
 rw [Tryz.params3] at hA hval
 obtain ⟨v0, vs0, d0, ds0, p0, q0, hargs, rfl, rfl, h0, r0⟩ := trodAll_cons hA
 obtain ⟨v1, vs1, d1, ds1, p1, q1, rfl, rfl, rfl, h1, r1⟩ := trodAll_cons r0
 obtain ⟨rfl, rfl, rfl⟩ := trodAll_nil r1
 obtain rfl : args = #[v0, v1] := by cases args; simp_all
 obtain ⟨rfl, rfl⟩ := trodVars_none hV
 have k0 := h0
 have lt0 : ∀ x ∈ p0, x.block < W.heap.size := by obtain ⟨m, hm⟩ := k0; exact DataW.trod_lt m _ _ _ hm
 obtain ⟨X0, rfl, e0⟩ := open_sb (hval 0 22 v0 rfl rfl) h0
 have k1 := h1
 have lt1 : ∀ x ∈ p1, x.block < W.heap.size := by obtain ⟨m, hm⟩ := k1; exact DataW.trod_lt m _ _ _ hm
 obtain ⟨X1, rfl, e1⟩ := open_sb (hval 1 22 v1 rfl rfl) h1
 clear hA0 hval0
 refine (law_FnRefine X0  X1  W e0 e1).mono fun e W' ⟨he, bel⟩ => ?_
 subst he
 exact ⟨_, rfl, _, _, _, [], _, [], hW', trodAll_mk1 (shut_bool Tryz.underlying4 _), (trodAll_cons_mk (Below.trod laidOut_ok (by kernel_rfl) (of_decide_eq_true (by kernel_rfl)) k0 bel lt0) (trodAll_cons_mk (Below.trod laidOut_ok (by kernel_rfl) (of_decide_eq_true (by kernel_rfl)) k1 bel lt1) trodAll_mk0)), rfl, bel.frame _, fun h => by cases h⟩
theorem over : Rows.fnRefineRow.holds Tryz.pinned (OpenSpec.ofChange Rows.fnRefineSpec) :=
 OpenClaim.holds_of_wide 3 Tryz.f3 rfl rfl rfl rfl rfl rfl rfl ⟨rfl, rfl, rfl, rfl, rfl⟩ rfl rfl rfl rfl rfl (by kernel_rfl) Tryz.func3 (by kernel_rfl)
  (of_decide_eq_true (by kernel_rfl)) (by unfold Func.isWrapper; first | (rw [if_pos (by decide +kernel)]; kernel_rfl) | (rw [if_neg (by decide +kernel)]; exact ⟨rfl, rfl⟩))
  (fun os started H enc _ => lifted os started H enc)
theorem proved : Rows.FnRefineSaid := over
end fnRefine
end Go.Proofs.YtgfcbmflnldicaaGreat
