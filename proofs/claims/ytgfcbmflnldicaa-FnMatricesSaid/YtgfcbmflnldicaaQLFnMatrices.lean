/-
  Proved: FnMatrices returns true for every input and leaves its arguments as they were. No condition. Printed by gen_lmx.py.
-/
import Derived.Test.YtgfcbmflnldicaaMX7
import Derived.Test.YtgfcbmflnldicaaMX14
import Derived.Test.YtgfcbmflnldicaaMX16
import Derived.Test.YtgfcbmflnldicaaMX20
set_option linter.unusedVariables false
set_option linter.unusedSimpArgs false
set_option maxRecDepth 100000
set_option maxHeartbeats 40000000
namespace Go.Proofs.Ytgfcbmflnldicaa
open Go.RowKit
attribute [local go_sem ↓] Go.wp_at_zero Go.wp_at_succ
theorem RdS.one {w : World} {g : Nat} {a1 : Option Addr} {c1 : Nat} {x1 : List Int} (h1 : w.cell? ⟨g, 0, none⟩ = some (.slice a1 x1.length c1)) (r1 : Rd w a1 x1) : RdS w (some ⟨g, 0, none⟩) [x1] := by
 refine ⟨by simp, fun _ => ⟨g, 0, rfl, fun i hi => ?_⟩⟩
 rcases i with _ | i
 · exact ⟨a1, c1, h1, r1⟩
 · simp at hi
theorem walkFnMatrices (a b : Option Addr) (c d : Nat) (xs ys : List Int) (w0 : World) (hxl : xs.length ≤ maxLen) (hyl : ys.length ≤ maxLen) (hx : xs.length ≤ 1048576 → RdB w0 a xs) (hy : ys.length ≤ 1048576 → RdB w0 b ys) :
    Calls Try.prog 3 #[.slice a xs.length c, .slice b ys.length d] w0 fun e w' => e = .returned (.bool true) ∧ Below w0.heap.size w0 w' := by
 have HL := hide (v8Long_any a b c d xs.length ys.length w0 hxl hyl)
 clear hxl hyl
 cases hl : (decide (1048576 < xs.length) || decide (1048576 < ys.length)) with
 | true =>
  rw [hl] at HL
  clear hl hx hy
  go_enter Try.func3, Try.ntmps3
  go_wp2_with fail
  refine (unhide HL).mono ?_
  rintro e w1 ⟨rfl, rfl⟩
  go_wp2
  go_ret
  exact ⟨rfl, Below.refl _ _⟩
 | false =>
  rw [hl] at HL
  rw [Bool.or_eq_false_iff, decide_eq_false_iff_not, decide_eq_false_iff_not] at hl
  have HX := hide (hx (by omega))
  have HY := hide (hy (by omega))
  clear hx hy hl
  go_enter Try.func3, Try.ntmps3
  go_wp2_with fail
  refine (unhide HL).mono ?_
  rintro e w1 ⟨rfl, rfl⟩
  clear HL
  go_wp2_with fail
  refine (V8Matrix_any a c xs w0 (unhide HX)).mono ?_
  rintro e w1 ⟨F, n, m, v1, u1, rfl, hC, o1, q1, b1⟩
  have hG := hC.good
  have ok := hG.ok
  obtain ⟨n2, n64⟩ := ok.n_bd
  have hm1 := hC.m1
  have hm32 := hC.m32
  have hn1 := hC.n1
  have hn32 := hC.n32
  have hm0 : 0 < m.length := by omega
  obtain ⟨a1, c1, rfl, r1, _⟩ := o1.form
  obtain ⟨ra, rc, rfl, rs1⟩ := q1.form
  obtain ⟨W, hW⟩ : ∃ z, z = w1.alloc (.cells #[.int .i64 F.p, .int .i64 F.k, .slice a1 F.poly.length c1] 26) := ⟨_, rfl⟩
  have bW : Below w1.heap.size w1 W := by rw [hW]; exact (Below.refl _ _).alloc (Nat.le_refl _) _
  have kF : Blk W w1.heap.size 26 #[.int .i64 F.p, .int .i64 F.k, .slice a1 F.poly.length c1] := by rw [hW]; exact Blk.new _ _ _ rfl
  have hWx := Lib.hid hW
  have hb0 := Below.chain b1 bW
  have z0 := hb0.size
  have hgF := kF.lt
  have BX := hide (show ∀ V, Below W.heap.size W V → V.cell? ⟨w1.heap.size, 0, none⟩ = some (.int .i64 F.p) ∧ V.cell? ⟨w1.heap.size, 1, none⟩ = some (.int .i64 F.k) ∧ V.cell? ⟨w1.heap.size, 2, none⟩ = some (.slice a1 F.poly.length c1) from fun V h => ⟨(kF.below h hgF).cell 0, (kF.below h hgF).cell 1, (kF.below h hgF).cell 2⟩)
  have R := hide (r1.below bW)
  have RS := hide (rs1.below bW)
  have HC := hide hC
  have YB := hide ((unhide HY).below hb0)
  have hfl : (form F m n).length ≤ m.length := hC.form_len
  have hrk : (form F (cols m n) m.length).length = (form F m n).length := rank_cols hG hC.mat
  have hpl : (red F m n).2.length = (form F m n).length := (red_bd hG hC.mat).1
  obtain ⟨hnS, hnl⟩ := nul_spec hG hC.mat
  have HNS := hide hnS
  have HRK := Lib.hid hrk
  have h00 : (nthL m 0).length = n := hC.hn
  obtain ⟨gb, obb, rfl, hgb, hcb⟩ := (rs1.below bW).at_ hm0
  obtain ⟨ai, ci, hc0, _⟩ := hcb 0 hm0
  rw [h00, Nat.add_zero] at hc0
  have HC0 := hide (show ∀ V, Below W.heap.size W V → V.cell? ⟨gb, obb, none⟩ = some (.slice ai n ci) from fun V h => (h.cell (p := ⟨gb, obb, none⟩) hgb).trans hc0)
  have HFM := hide (show 0 < (form F m n).length → MG F n (form F m n) ∧ form F (form F m n) n = form F m n from fun h => hC.form h)
  have HSF := hide (show ∀ i, i < m.length → Sp F (form F m n) (nth (nthL m i)) from fun i hi => by
   obtain ⟨pv, _, hE, sE⟩ := form_ech hG hC.mat
   exact (sE _).2 (Sp.row ok hC.mat hi))
  have HMR := hide (show ∀ i, i < m.length → (nthL m i).length = n ∧ ∀ x ∈ nthL m i, 0 ≤ x ∧ x < F.n from fun i hi => Mat_nth hC.mat hi)
  have hnM := nul_Mat ok m n
  obtain ⟨R0, hR0⟩ : ∃ R0, R0 = form F m n := ⟨_, rfl⟩
  obtain ⟨P0, hP0⟩ : ∃ P0, P0 = (red F m n).2 := ⟨_, rfl⟩
  obtain ⟨N0, hN0⟩ : ∃ N0, N0 = nul F m n := ⟨_, rfl⟩
  obtain ⟨M1, hM1⟩ : ∃ M1, M1 = cols m n := ⟨_, rfl⟩
  have HRR := hide (fun V (h : Below W.heap.size W V) => rowReduce_ok F a1 c1 (some ⟨gb, obb, none⟩) rc m n V ((unhide R).below h) ((unhide RS).below h) (unhide HC))
  have HRA := hide (fun V (h : Below W.heap.size W V) => rankOf_ok F a1 c1 (some ⟨gb, obb, none⟩) rc m n V ((unhide R).below h) ((unhide RS).below h) (unhide HC))
  have HNU := hide (fun V (h : Below W.heap.size W V) => nullSp_ok F a1 c1 (some ⟨gb, obb, none⟩) rc m n V ((unhide R).below h) ((unhide RS).below h) (unhide HC))
  have HPI := hide (fun V (h : Below W.heap.size W V) => pivotsOf_ok F a1 c1 (some ⟨gb, obb, none⟩) rc m n V ((unhide R).below h) ((unhide RS).below h) (unhide HC))
  have HTU := hide (fun V (h : Below W.heap.size W V) => turn_ok F a1 c1 (some ⟨gb, obb, none⟩) rc m n V ((unhide R).below h) ((unhide RS).below h) (unhide HC))
  have HRT := hide (fun (A : Option Addr) (C : Nat) V (h : Below W.heap.size W V) (hr : RdS V A (cols m n)) => rankOf_ok F a1 c1 A C (cols m n) m.length V ((unhide R).below h) hr (unhide HC).cols)
  rw [hrk] at HRT
  have hM1l := cols_len m n
  rw [← hR0] at HRR HRA HRT HFM HSF hfl hpl hnl
  rw [← hP0] at HPI hpl
  rw [← hN0] at HNU HNS hnl hnM
  rw [← hM1] at HTU HRT hM1l
  rw [hM1l] at HRT
  have HM1L := Lib.hid hM1l
  have HR0 := Lib.hid hR0
  have HN0 := Lib.hid hN0
  have HNM := hide hnM
  have HM1 := Lib.hid hM1
  clear hM1l hW hC hG hrk hnS h00 hcb hc0 hnM hR0 hP0 hN0 hM1 r1 rs1 o1 q1 kF HRK
  go_upto_region 4 with fail
  rw [← hWx.out]
  have b00 := Below.refl W.heap.size W
  obtain ⟨e0, e1, e2⟩ := (unhide BX) W b00
  have hs0 := (unhide HC0) W b00
  go_wp2_with fail
  refine (unhide HRR _ b00).mono ?_
  rintro e w2 ⟨⟨v2, rfl, o2⟩, b2⟩
  obtain ⟨A2, C2, rfl, r2⟩ := o2.form
  have d2 := b00.trans b2
  have S2 := hide r2
  clear o2 r2
  clear e0 e1 e2
  obtain ⟨e0, e1, e2⟩ := (unhide BX) w2 d2
  go_wp2_with fail
  refine (unhide HRA _ d2).mono ?_
  rintro e w3 ⟨rfl, b3⟩
  have d3 := d2.trans (b3.mono d2.size)
  have S3 := hide ((unhide S2).below b3)
  clear e0 e1 e2
  obtain ⟨e0, e1, e2⟩ := (unhide BX) w3 d3
  go_wp2_with fail
  refine (unhide HNU _ d3).mono ?_
  rintro e w4 ⟨⟨v4, rfl, o4⟩, b4⟩
  obtain ⟨A4, C4, rfl, r4⟩ := o4.form
  have d4 := d3.trans (b4.mono d3.size)
  have S4 := hide ((unhide S3).below b4)
  have N4 := hide r4
  clear o4 r4
  clear e0 e1 e2
  obtain ⟨e0, e1, e2⟩ := (unhide BX) w4 d4
  go_wp2_with fail
  refine (unhide HPI _ d4).mono ?_
  rintro e w5 ⟨⟨v5, rfl, o5⟩, b5⟩
  obtain ⟨A5, C5, rfl, _, _⟩ := o5.form
  have d5 := d4.trans (b5.mono d4.size)
  have S5 := hide ((unhide S4).below b5)
  have N5 := hide ((unhide N4).below b5)
  clear o5
  clear e0 e1 e2
  obtain ⟨e0, e1, e2⟩ := (unhide BX) w5 d5
  go_wp2_with fail
  refine (unhide HTU _ d5).mono ?_
  rintro e w6 ⟨⟨v6, rfl, o6⟩, b6⟩
  obtain ⟨A6, C6, rfl, r6⟩ := o6.form
  rw [HM1L.out]
  have d6 := d5.trans (b6.mono d5.size)
  have S6 := hide ((unhide S5).below b6)
  have N6 := hide ((unhide N5).below b6)
  have T6 := hide r6
  clear o6 r6
  clear e0 e1 e2
  obtain ⟨e0, e1, e2⟩ := (unhide BX) w6 d6
  go_wp2_with fail
  refine (unhide HRT _ _ _ d6 (unhide T6)).mono ?_
  rintro e w7 ⟨rfl, b7⟩
  have d7 := d6.trans (b7.mono d6.size)
  have S7 := hide ((unhide S6).below b7)
  have N7 := hide ((unhide N6).below b7)
  clear hs0
  have hs0 := (unhide HC0) w7 d7
  clear e0 e1 e2
  obtain ⟨e0, e1, e2⟩ := (unhide BX) w7 d7
  have hq1 : ((R0.length : Int) != (R0.length : Int)) = false := by simp
  have hq2 : ((P0.length : Int) != (R0.length : Int)) = false := by rw [hpl]; simp
  have hq3 : (IntKind.i64.wrap ((R0.length : Int) + (N0.length : Int)) != (n : Int)) = false := by rw [IntWalk.i64_in _ (by omega), bne_eq_false_iff_eq]; omega
  have hq4 : (((R0.length : Int) + (N0.length : Int)) != (n : Int)) = false := by rw [bne_eq_false_iff_eq]; omega
  have hq5 : (wrap64 ((R0.length : Int) + (N0.length : Int)) != (n : Int)) = false := by rw [IntWalk.wrap64_in _ (by omega)]; exact hq4
  have HPL := Lib.hid hpl
  have HNL := Lib.hid hnl
  clear hpl hnl
  by_cases h0 : 0 < R0.length
  · have g1 : (0 : Int) < (R0.length : Int) := by omega
    have g2 : decide ((0 : Int) < (R0.length : Int)) = true := by simpa using g1
    have hFM := (unhide HFM) h0
    have HG0 := hide hFM
    have hrr := rowReduce_ok F a1 c1 A2 C2 R0 n w7 ((unhide R).below d7) (unhide S7) hFM.1
    rw [hFM.2] at hrr
    have HR2 := hide hrr
    clear hFM hrr
    go_wp2_with fail
    refine (unhide HR2).mono ?_
    rintro e w8 ⟨⟨v8, rfl, o8⟩, b8⟩
    obtain ⟨A8, C8, rfl, r8⟩ := o8.form
    have d8 := d7.trans (b8.mono d7.size)
    have S8 := hide ((unhide S7).below b8)
    have N8 := hide ((unhide N7).below b8)
    have HL8 := hide (v8Lists_ok A8 A2 C8 C2 R0 R0 w8 r8 (unhide S8) rfl)
    clear o8 r8 e0 e1 e2
    go_wp2_with fail
    refine (unhide HL8).mono ?_
    rintro e w9 ⟨rfl, b9⟩
    have d9 := d8.trans (b9.mono d8.size)
    have S9 := hide ((unhide S8).below b9)
    have N9 := hide ((unhide N8).below b9)
    clear hs0
    go_wp2_with fail
    go_loopw [22] (fun iv wr => ∃ i : Nat, iv = .int .i64 i ∧ i ≤ m.length ∧ Below w9.heap.size w9 wr) (fun iv _ => m.length - (intOf iv).toNat)
    case atStart => exact ⟨0, rfl, Nat.zero_le _, Below.refl _ _⟩
    case round =>
     obtain ⟨i, rfl, hi, hb⟩ := hrel
     have dr := d9.trans (hb.mono d9.size)
     by_cases hil : i < m.length
     · skip
       obtain ⟨_, _, ee, _, hcb⟩ := (unhide RS).at_ hm0
       injection ee with ee
       injection ee with ee ee2
       subst ee
       subst ee2
       obtain ⟨ak, ck, h1, rk⟩ := hcb i hil
       obtain ⟨hkl, hke⟩ := (unhide HMR) i hil
       have hsp := fun V (h : Below wr.heap.size wr V) => spanHas_ok F a1 c1 A2 C2 R0 ak ck (nthL m i) n V ((unhide R).below (dr.trans (h.mono dr.size))) ((unhide S9).below (hb.trans (h.mono hb.size))) (unhide HG0).1 (rk.below (dr.trans (h.mono dr.size))) hkl hke (unhide HG0).2 ((unhide HSF) i hil)
       rw [hkl] at hsp h1
       have HSP := hide hsp
       have hwr : Below wr.heap.size wr wr.drew := Below.drewn 1
       have BR := hide (show ∀ V, Below wr.heap.size wr V → (Below wr.heap.size wr V ∧ V.cell? ⟨w1.heap.size, 0, none⟩ = some (.int .i64 F.p) ∧ V.cell? ⟨w1.heap.size, 1, none⟩ = some (.int .i64 F.k) ∧ V.cell? ⟨w1.heap.size, 2, none⟩ = some (.slice a1 F.poly.length c1) ∧ V.cell? ⟨gb, obb + i, none⟩ = some (.slice ak n ck)) from fun V h => ⟨h, ((unhide BX) V (dr.trans (h.mono dr.size))).1, ((unhide BX) V (dr.trans (h.mono dr.size))).2.1, ((unhide BX) V (dr.trans (h.mono dr.size))).2.2, ((dr.trans (h.mono dr.size)).cell (p := ⟨gb, obb + i, none⟩) hgb).trans h1⟩)
       clear hcb rk hkl hke hsp h1
       go_upto_region 20 with fail
       refine wp_region_noPanic ?_
       refine wp_region_ord (S := (fun W => Below wr.heap.size wr W ∧ W.cell? ⟨w1.heap.size, 0, none⟩ = some (.int .i64 F.p) ∧ W.cell? ⟨w1.heap.size, 1, none⟩ = some (.int .i64 F.k) ∧ W.cell? ⟨w1.heap.size, 2, none⟩ = some (.slice a1 F.poly.length c1) ∧ W.cell? ⟨gb, obb + i, none⟩ = some (.slice ak n ck))) [(true, 0), (true, 1), (true, 2), (true, 3), (true, 4), (true, 5), (true, 6), (true, 7), (true, 8), (false, 9), (true, 10), (true, 11)] (by kernel_rfl) (by kernel_rfl) (by kernel_rfl) rfl (fun _ _ _ _ _ h => h) ?_ (fun hHeld => ?_)
       · exact (unhide BR) _ hwr
       refine SeqO.take (by rfl) (v := ?hv1) (by rfl) ?hy1 ?hr1
       case hy1 =>
        intro w hSw
        try dsimp only at hSw
        go_simp
        try (with_reducible rfl)
       try simp only [Act.put, List.setIfInBounds_toArray, List.set_cons_zero, List.set_cons_succ]
       refine SeqO.take (by rfl) (v := ?hv2) (by rfl) ?hy2 ?hr2
       case hy2 =>
        intro w hSw
        try dsimp only at hSw
        go_simp
        try (with_reducible rfl)
       try simp only [Act.put, List.setIfInBounds_toArray, List.set_cons_zero, List.set_cons_succ]
       refine SeqO.take (by rfl) (v := ?hv3) (by rfl) ?hy3 ?hr3
       case hy3 =>
        intro w hSw
        try dsimp only at hSw
        go_simp
        try (with_reducible rfl)
       try simp only [Act.put, List.setIfInBounds_toArray, List.set_cons_zero, List.set_cons_succ]
       refine SeqO.take (by rfl) (v := ?hv4) (by rfl) ?hy4 ?hr4
       case hy4 =>
        intro w hSw
        try dsimp only at hSw
        go_simp
        try (with_reducible rfl)
       try simp only [Act.put, List.setIfInBounds_toArray, List.set_cons_zero, List.set_cons_succ]
       refine SeqO.take (by rfl) (v := ?hv5) (by rfl) ?hy5 ?hr5
       case hy5 =>
        intro w hSw
        try dsimp only at hSw
        go_simp
        try (with_reducible rfl)
       try simp only [Act.put, List.setIfInBounds_toArray, List.set_cons_zero, List.set_cons_succ]
       refine SeqO.take (by rfl) (v := ?hv6) (by rfl) ?hy6 ?hr6
       case hy6 =>
        intro w hSw
        try dsimp only at hSw
        go_simp
        try (with_reducible rfl)
       try simp only [Act.put, List.setIfInBounds_toArray, List.set_cons_zero, List.set_cons_succ]
       refine SeqO.take (by rfl) (v := ?hv7) (by rfl) ?hy7 ?hr7
       case hy7 =>
        intro w hSw
        try dsimp only at hSw
        go_simp
        try (with_reducible rfl)
       try simp only [Act.put, List.setIfInBounds_toArray, List.set_cons_zero, List.set_cons_succ]
       refine SeqO.take (by rfl) (v := ?hv8) (by rfl) ?hy8 ?hr8
       case hy8 =>
        intro w hSw
        try dsimp only at hSw
        go_simp
        try (with_reducible rfl)
       try simp only [Act.put, List.setIfInBounds_toArray, List.set_cons_zero, List.set_cons_succ]
       refine SeqO.take (by rfl) (v := ?hv9) (by rfl) ?hy9 ?hr9
       case hy9 =>
        intro w hSw
        try dsimp only at hSw
        go_simp
        try (with_reducible rfl)
       try simp only [Act.put, List.setIfInBounds_toArray, List.set_cons_zero, List.set_cons_succ]
       refine SeqO.call (by rfl) (fun K hK => ?_)
       go_simp
       refine (unhide HSP _ hwr).mono ?_
       rintro e ws ⟨rfl, bs⟩
       have ds := hwr.trans (bs.mono hwr.size)
       refine hK.out _ _ ?_ (fun hHeld => ?_)
       · exact (unhide BR) _ ds
       clear hK K
       try simp only [Act.put, List.setIfInBounds_toArray, List.set_cons_zero, List.set_cons_succ]
       refine SeqO.take (by rfl) (v := ?hv10) (by rfl) ?hy10 ?hr10
       case hy10 =>
        intro w hSw
        try dsimp only at hSw
        go_simp
        try (with_reducible rfl)
       try simp only [Act.put, List.setIfInBounds_toArray, List.set_cons_zero, List.set_cons_succ]
       refine SeqO.take (by rfl) (v := ?hv11) (by rfl) ?hy11 ?hr11
       case hy11 =>
        intro w hSw
        try dsimp only at hSw
        go_simp
        try (with_reducible rfl)
       try simp only [Act.put, List.setIfInBounds_toArray, List.set_cons_zero, List.set_cons_succ]
       refine SeqO.done (NoPanic.normal ?_)
       go_wp2
       go_roundw
       case rel => exact ⟨i + 1, by go_num, by omega, hb.trans (ds.mono hb.size)⟩
       case measure => simp only [intOf]; omega
     · skip
       have NN := hide ((unhide N9).below hb)
       by_cases hN : 0 < N0.length
       · have g5 : (0 : Int) < (N0.length : Int) := by omega
         have hMGN : MG F n N0 := ⟨(unhide HC).good, hN, by have := HNL.out; omega, hn1, hn32, unhide HNM⟩
         have hcc2 := cols_cols hMGN.mat
         have HTN := hide (turnS_ok F a1 c1 A4 C4 N0 n wr ((unhide R).below dr) (unhide NN) hMGN)
         have HGN := hide hMGN.cols
         have HZZ := hide (show ∀ i j, i < m.length → j < N0.length → (nthL (prodTo F m N0 m.length) i).length = N0.length ∧ nth (nthL (prodTo F m N0 m.length) i) j = 0 from fun i j hi hj => by rw [HN0.out] at hj ⊢; exact null_prod (unhide HC) hi hj)
         have hzl := prodTo_len F m N0 (Nat.le_refl m.length)
         clear hMGN
         obtain ⟨e0, e1, e2⟩ := (unhide BX) wr dr
         go_wp2_with fail
         refine (unhide HTN).mono ?_
         rintro e wp ⟨⟨vp, rfl, op⟩, bp⟩
         obtain ⟨ap, cp, rfl, rp⟩ := op.form
         have dp := dr.trans (bp.mono dr.size)
         rw [cols_len]
         have hmm := matMul_ok F a1 c1 (some ⟨gb, obb, none⟩) rc m ap cp (cols N0 n) N0.length n wp ((unhide R).below dp) ((unhide RS).below dp) (unhide HC) rp (unhide HGN) (cols_len _ _)
         rw [hcc2, cols_len] at hmm
         obtain ⟨Z, hZ⟩ : ∃ Z, Z = prodTo F m N0 m.length := ⟨_, rfl⟩
         rw [← hZ] at hmm HZZ hzl
         have HMN := hide hmm
         clear op rp hmm hZ hcc2 e0 e1 e2
         obtain ⟨e0, e1, e2⟩ := (unhide BX) wp dp
         go_wp2_with fail
         refine (unhide HMN).mono ?_
         rintro e wq ⟨⟨vq, rfl, oq⟩, bq⟩
         obtain ⟨aq, cq, rfl, rq⟩ := oq.form
         have dq := dp.trans (bq.mono dp.size)
         rw [hzl]
         have RQ := hide rq
         have HZL := Lib.hid hzl
         clear oq rq hzl e0 e1 e2
         go_wp2_with fail
         go_loopw [27, 28] (fun iv jv wr => ∃ i : Nat, iv = .int .i64 i ∧ i ≤ m.length ∧ Below wq.heap.size wq wr) (fun iv _ _ => m.length - (intOf iv).toNat)
         case atStart => exact ⟨0, rfl, Nat.zero_le _, Below.refl _ _⟩
         case round =>
          obtain ⟨i, rfl, hi, hb⟩ := hrel
          rename World => wo
          have dq2 := dq.trans (hb.mono dq.size)
          by_cases hil : i < m.length
          · obtain ⟨gz, oz, rfl, hgz, hcz⟩ := (unhide RQ).at_ (by rw [HZL.out]; omega)
            obtain ⟨az, cz, hz0, rz⟩ := hcz i (by rw [HZL.out]; exact hil)
            rw [((unhide HZZ) i 0 hil hN).1] at hz0
            have hz1 := (hb.cell (p := ⟨gz, oz + i, none⟩) hgz).trans hz0
            have RZ := hide rz
            clear hcz rz
            go_wp2_with fail
            go_loopw [28] (fun jv wr => ∃ j : Nat, jv = .int .i64 j ∧ j ≤ N0.length ∧ Below wq.heap.size wq wr) (fun jv _ => N0.length - (intOf jv).toNat)
            case atStart => exact ⟨0, rfl, Nat.zero_le _, hb⟩
            case round =>
             obtain ⟨j, rfl, hj, hb⟩ := hrel
             have hz2 := (hb.cell (p := ⟨gz, oz + i, none⟩) hgz).trans hz0
             by_cases hjl : j < N0.length
             · obtain ⟨hzl, hzz⟩ := (unhide HZZ) i j hil hjl
               obtain ⟨gy, oy, rfl, hgy, hcy⟩ := (unhide RZ).at_ (by rw [hzl]; omega)
               have cy0 := hcy j (by rw [hzl]; exact hjl)
               rw [hzz] at cy0
               have cy := (hb.cell (p := ⟨gy, oy + j, none⟩) hgy).trans cy0
               have hNb : N0.length ≤ 32 := by have := HNL.out; omega
               clear hcy hzl hzz cy0
               go_wp2
               go_roundw
               case rel => exact ⟨j + 1, by go_num, by omega, hb⟩
               case measure => simp only [intOf]; omega
             · go_wp2
               go_roundw
               case rel => exact ⟨i + 1, by go_num, by omega, hb⟩
               case measure => simp only [intOf]; omega
          · skip
            obtain ⟨e0, e1, e2⟩ := (unhide BX) wo dq2
            go_wp2_with fail
            refine (V8Vector_any b d ys F a1 c1 n wo ((unhide YB).below dq2) ((unhide R).below dq2) ok (by omega)).mono ?_
            rintro e wv ⟨vv, x, rfl, hxl, hxe, ov, bv⟩
            have dv := dq2.trans (bv.mono dq2.size)
            obtain ⟨ax, cx, rfl, rx, _⟩ := ov.form
            rw [hxl]
            have hM1x := (unhide HC).one hxl hxe
            have hsolv := solved (unhide HC) hxl hxe
            have hbM := bcol_Mat ok m x
            have hbl := bcol_len (F := F) m x
            have hMGb : MG F 1 (bcol F m x) := ⟨(unhide HC).good, by omega, by omega, by omega, by omega, hbM⟩
            obtain ⟨WA, hWA⟩ : ∃ z, z = wv.alloc (.cells #[.slice ax n cx] 24) := ⟨_, rfl⟩
            have bA : Below wv.heap.size wv WA := by rw [hWA]; exact (Below.refl _ _).alloc (Nat.le_refl _) _
            have kA : Blk WA wv.heap.size 24 #[.slice ax n cx] := by rw [hWA]; exact Blk.new _ _ _ rfl
            have dA := dv.trans (bA.mono dv.size)
            have rxA : RdS WA (some ⟨wv.heap.size, 0, none⟩) [x] := RdS.one (by rw [hxl]; exact kA.cell 0) (rx.below bA)
            have HX1 := hide hM1x
            have HTX := hide (turnS_ok F a1 c1 (some ⟨wv.heap.size, 0, none⟩) 1 [x] n WA ((unhide R).below dA) rxA hM1x)
            have HWA := Lib.hid hWA
            have HXL := Lib.hid hxl
            clear e0 e1 e2 hWA rxA rx ov hM1x kA
            obtain ⟨e0, e1, e2⟩ := (unhide BX) wv dv
            go_wp2_with (first | (rw [← HWA.out]; refine (unhide HTX).mono ?_) | fail)
            rintro e wb ⟨⟨vb, rfl, ob⟩, bb⟩
            obtain ⟨ab, cb, rfl, rb⟩ := ob.form
            have db := dA.trans (bb.mono dA.size)
            rw [cols_len]
            have hq1m := (unhide HX1).cols
            rw [show [x].length = 1 from rfl] at hq1m
            have hmm := matMulS_ok F a1 c1 (some ⟨gb, obb, none⟩) rc m ab cb (cols [x] n) 1 n wb ((unhide R).below db) ((unhide RS).below db) (unhide HC) rb hq1m (cols_len _ _)
            rw [show cols (cols [x] n) 1 = [x] from cols_cols (unhide HX1).mat, prod_one, cols_len] at hmm
            have HMM := hide hmm
            clear ob rb hmm hq1m e0 e1 e2
            obtain ⟨e0, e1, e2⟩ := (unhide BX) wb db
            go_wp2_with fail
            refine (unhide HMM).mono ?_
            rintro e wc ⟨⟨vc, rfl, oc⟩, bc⟩
            obtain ⟨ac, cc, rfl, rcc⟩ := oc.form
            have dc := db.trans (bc.mono db.size)
            have hts := turnS_ok F a1 c1 ac cc (bcol F m x) 1 wc ((unhide R).below dc) rcc hMGb
            rw [bcol_cols] at hts
            have HTS := hide hts
            have RC := hide rcc
            rw [hbl] at HTS
            rw [hbl]
            clear oc rcc hts e0 e1 e2
            obtain ⟨e0, e1, e2⟩ := (unhide BX) wc dc
            go_wp2_with fail
            refine (unhide HTS).mono ?_
            rintro e wd ⟨⟨vd, rfl, od⟩, bd⟩
            obtain ⟨ad, cd, rfl, rd⟩ := od.form
            have dd := dc.trans (bd.mono dc.size)
            have RC2 := hide ((unhide RC).below bd)
            obtain ⟨gd, od', rfl, hgd, hcd⟩ := rd.at_ (by simp)
            obtain ⟨ar, cr, hr0, rr⟩ := hcd 0 (by simp)
            rw [Nat.add_zero] at hr0
            have hr0 : wd.cell? ⟨gd, od', none⟩ = some (.slice ar (rside F m x).length cr) := hr0
            have rr : Rd wd ar (rside F m x) := rr
            have hrl := rside_len (F := F) m x
            obtain ⟨hs1, hs2, hs3, hs4⟩ := hsolv
            have hsl := fun V (h : Below wd.heap.size wd V) => solve_ok F a1 c1 (some ⟨gb, obb, none⟩) rc m ar cr (rside F m x) n V ((unhide R).below (dd.trans (h.mono dd.size))) ((unhide RS).below (dd.trans (h.mono dd.size))) (unhide HC) (rr.below h) hrl (rside_el ok m x) hs1
            obtain ⟨y, hy⟩ : ∃ y, y = solIn (form F (wideM m (rside F m x)) (n + 1)) (red F (wideM m (rside F m x)) (n + 1)).2 n (red F (wideM m (rside F m x)) (n + 1)).2.length := ⟨_, rfl⟩
            rw [← hy] at hsl hs2 hs3 hs4
            rw [hrl] at hsl hr0
            have HSL := hide hsl
            have HY1 := hide ((unhide HC).one hs2 hs3)
            have HYL := Lib.hid hs2
            have HBY := Lib.hid hs4
            have hwd : Below wd.heap.size wd wd.drew := Below.drewn 1
            have BR := hide (show ∀ V, Below wd.heap.size wd V → (Below wd.heap.size wd V ∧ V.cell? ⟨w1.heap.size, 0, none⟩ = some (.int .i64 F.p) ∧ V.cell? ⟨w1.heap.size, 1, none⟩ = some (.int .i64 F.k) ∧ V.cell? ⟨w1.heap.size, 2, none⟩ = some (.slice a1 F.poly.length c1) ∧ V.cell? ⟨gd, od', none⟩ = some (.slice ar m.length cr)) from fun V h => ⟨h, ((unhide BX) V (dd.trans (h.mono dd.size))).1, ((unhide BX) V (dd.trans (h.mono dd.size))).2.1, ((unhide BX) V (dd.trans (h.mono dd.size))).2.2, (h.cell (p := ⟨gd, od', none⟩) hgd).trans hr0⟩)
            clear od rd hcd rr hsl hs1 hs2 hs3 hs4 hy hr0 e0 e1 e2 hrl hbl hMGb hbM
            go_upto_region 41 with fail
            refine wp_region_noPanic ?_
            refine wp_region_ord (S := (fun W => Below wd.heap.size wd W ∧ W.cell? ⟨w1.heap.size, 0, none⟩ = some (.int .i64 F.p) ∧ W.cell? ⟨w1.heap.size, 1, none⟩ = some (.int .i64 F.k) ∧ W.cell? ⟨w1.heap.size, 2, none⟩ = some (.slice a1 F.poly.length c1) ∧ W.cell? ⟨gd, od', none⟩ = some (.slice ar m.length cr))) [(true, 0), (true, 1), (true, 2), (true, 3), (true, 4), (false, 5), (true, 6), (true, 7), (true, 8), (true, 9), (true, 10)] (by kernel_rfl) (by kernel_rfl) (by kernel_rfl) rfl (fun _ _ _ _ _ h => h) ?_ (fun hHeld => ?_)
            · exact (unhide BR) _ hwd
            refine SeqO.take (by rfl) (v := ?hv12) (by rfl) ?hy12 ?hr12
            case hy12 =>
             intro w hSw
             try dsimp only at hSw
             go_simp
             try (with_reducible rfl)
            try simp only [Act.put, List.setIfInBounds_toArray, List.set_cons_zero, List.set_cons_succ]
            refine SeqO.take (by rfl) (v := ?hv13) (by rfl) ?hy13 ?hr13
            case hy13 =>
             intro w hSw
             try dsimp only at hSw
             go_simp
             try (with_reducible rfl)
            try simp only [Act.put, List.setIfInBounds_toArray, List.set_cons_zero, List.set_cons_succ]
            refine SeqO.take (by rfl) (v := ?hv14) (by rfl) ?hy14 ?hr14
            case hy14 =>
             intro w hSw
             try dsimp only at hSw
             go_simp
             try (with_reducible rfl)
            try simp only [Act.put, List.setIfInBounds_toArray, List.set_cons_zero, List.set_cons_succ]
            refine SeqO.take (by rfl) (v := ?hv15) (by rfl) ?hy15 ?hr15
            case hy15 =>
             intro w hSw
             try dsimp only at hSw
             go_simp
             try (with_reducible rfl)
            try simp only [Act.put, List.setIfInBounds_toArray, List.set_cons_zero, List.set_cons_succ]
            refine SeqO.take (by rfl) (v := ?hv16) (by rfl) ?hy16 ?hr16
            case hy16 =>
             intro w hSw
             try dsimp only at hSw
             go_simp
             try (with_reducible rfl)
            try simp only [Act.put, List.setIfInBounds_toArray, List.set_cons_zero, List.set_cons_succ]
            refine SeqO.call (by rfl) (fun K hK => ?_)
            go_simp
            refine (unhide HSL _ hwd).mono ?_
            rintro e we ⟨⟨ve, rfl, oe⟩, be⟩
            obtain ⟨ae, ce, rfl, re, _⟩ := oe.form
            have de := hwd.trans (be.mono hwd.size)
            refine hK.out _ _ ?_ (fun hHeld => ?_)
            · exact (unhide BR) _ de
            clear hK K
            try simp only [Act.put, List.setIfInBounds_toArray, List.set_cons_zero, List.set_cons_succ]
            refine SeqO.take (by rfl) (v := ?hv17) (by rfl) ?hy17 ?hr17
            case hy17 =>
             intro w hSw
             try dsimp only at hSw
             go_simp
             try (with_reducible rfl)
            try simp only [Act.put, List.setIfInBounds_toArray, List.set_cons_zero, List.set_cons_succ]
            refine SeqO.take (by rfl) (v := ?hv18) (by rfl) ?hy18 ?hr18
            case hy18 =>
             intro w hSw
             try dsimp only at hSw
             go_simp
             try (with_reducible rfl)
            try simp only [Act.put, List.setIfInBounds_toArray, List.set_cons_zero, List.set_cons_succ]
            refine SeqO.take (by rfl) (v := ?hv19) (by rfl) ?hy19 ?hr19
            case hy19 =>
             intro w hSw
             try dsimp only at hSw
             go_simp
             try (with_reducible rfl)
            try simp only [Act.put, List.setIfInBounds_toArray, List.set_cons_zero, List.set_cons_succ]
            refine SeqO.take (by rfl) (v := ?hv20) (by rfl) ?hy20 ?hr20
            case hy20 =>
             intro w hSw
             try dsimp only at hSw
             go_simp
             try (with_reducible rfl)
            try simp only [Act.put, List.setIfInBounds_toArray, List.set_cons_zero, List.set_cons_succ]
            refine SeqO.take (by rfl) (v := ?hv21) (by rfl) ?hy21 ?hr21
            case hy21 =>
             intro w hSw
             try dsimp only at hSw
             go_simp
             try (with_reducible rfl)
            try simp only [Act.put, List.setIfInBounds_toArray, List.set_cons_zero, List.set_cons_succ]
            refine SeqO.done (NoPanic.normal ?_)
            have dde := dd.trans (de.mono dd.size)
            have RC3 := hide ((unhide RC2).below de)
            have hyl : ((y.length : Int) != (n : Int)) = false := by rw [HYL.out]; simp
            obtain ⟨WE, hWE⟩ : ∃ z, z = we.alloc (.cells #[.slice ae y.length ce] 24) := ⟨_, rfl⟩
            have bE : Below we.heap.size we WE := by rw [hWE]; exact (Below.refl _ _).alloc (Nat.le_refl _) _
            have kE : Blk WE we.heap.size 24 #[.slice ae y.length ce] := by rw [hWE]; exact Blk.new _ _ _ rfl
            have dE := dde.trans (bE.mono dde.size)
            have RC4 := hide ((unhide RC3).below bE)
            have HTY := hide (turnS_ok F a1 c1 (some ⟨we.heap.size, 0, none⟩) 1 [y] n WE ((unhide R).below dE) (RdS.one (kE.cell 0) (re.below bE)) (unhide HY1))
            have HWE := Lib.hid hWE
            clear hWE kE re oe
            obtain ⟨e0, e1, e2⟩ := (unhide BX) we dde
            go_wp2_with (first | (rw [← HWE.out]; refine (unhide HTY).mono ?_) | fail)
            rintro e wf ⟨⟨vf, rfl, off⟩, bf⟩
            obtain ⟨af, cf, rfl, rf⟩ := off.form
            have df := dE.trans (bf.mono dE.size)
            have RC5 := hide ((unhide RC4).below bf)
            rw [cols_len]
            have hq2m := (unhide HY1).cols
            rw [show [y].length = 1 from rfl] at hq2m
            have hmm := matMulS_ok F a1 c1 (some ⟨gb, obb, none⟩) rc m af cf (cols [y] n) 1 n wf ((unhide R).below df) ((unhide RS).below df) (unhide HC) rf hq2m (cols_len _ _)
            rw [show cols (cols [y] n) 1 = [y] from cols_cols (unhide HY1).mat, prod_one, HBY.out, cols_len] at hmm
            have HMM2 := hide hmm
            clear off rf hmm hq2m e0 e1 e2
            obtain ⟨e0, e1, e2⟩ := (unhide BX) wf df
            go_wp2_with fail
            refine (unhide HMM2).mono ?_
            rintro e wg ⟨⟨vg, rfl, og⟩, bg⟩
            obtain ⟨ag, cg, rfl, rg⟩ := og.form
            have dg := df.trans (bg.mono df.size)
            have hbl := bcol_len (F := F) m x
            have hlt := v8Lists_ok ac ag cc cg (bcol F m x) (bcol F m x) wg ((unhide RC5).below bg) rg rfl
            rw [hbl] at hlt
            rw [hbl]
            have HLT := hide hlt
            clear og rg hlt hbl e0 e1 e2
            go_wp2_with fail
            refine (unhide HLT).mono ?_
            rintro e wh ⟨rfl, bh⟩
            have hbh := Below.chain hb0 (dg.trans (bh.mono dg.size))
            go_wp2
            go_ret
            exact ⟨rfl, hbh⟩
       · have g5 : ¬ (0 : Int) < (N0.length : Int) := by omega
         obtain ⟨e0, e1, e2⟩ := (unhide BX) wr dr
         go_wp2_with fail
         refine (V8Vector_any b d ys F a1 c1 n wr ((unhide YB).below dr) ((unhide R).below dr) ok (by omega)).mono ?_
         rintro e wv ⟨vv, x, rfl, hxl, hxe, ov, bv⟩
         have dv := dr.trans (bv.mono dr.size)
         obtain ⟨ax, cx, rfl, rx, _⟩ := ov.form
         rw [hxl]
         have hM1x := (unhide HC).one hxl hxe
         have hsolv := solved (unhide HC) hxl hxe
         have hbM := bcol_Mat ok m x
         have hbl := bcol_len (F := F) m x
         have hMGb : MG F 1 (bcol F m x) := ⟨(unhide HC).good, by omega, by omega, by omega, by omega, hbM⟩
         obtain ⟨WA, hWA⟩ : ∃ z, z = wv.alloc (.cells #[.slice ax n cx] 24) := ⟨_, rfl⟩
         have bA : Below wv.heap.size wv WA := by rw [hWA]; exact (Below.refl _ _).alloc (Nat.le_refl _) _
         have kA : Blk WA wv.heap.size 24 #[.slice ax n cx] := by rw [hWA]; exact Blk.new _ _ _ rfl
         have dA := dv.trans (bA.mono dv.size)
         have rxA : RdS WA (some ⟨wv.heap.size, 0, none⟩) [x] := RdS.one (by rw [hxl]; exact kA.cell 0) (rx.below bA)
         have HX1 := hide hM1x
         have HTX := hide (turnS_ok F a1 c1 (some ⟨wv.heap.size, 0, none⟩) 1 [x] n WA ((unhide R).below dA) rxA hM1x)
         have HWA := Lib.hid hWA
         have HXL := Lib.hid hxl
         clear e0 e1 e2 hWA rxA rx ov hM1x kA
         obtain ⟨e0, e1, e2⟩ := (unhide BX) wv dv
         go_wp2_with (first | (rw [← HWA.out]; refine (unhide HTX).mono ?_) | fail)
         rintro e wb ⟨⟨vb, rfl, ob⟩, bb⟩
         obtain ⟨ab, cb, rfl, rb⟩ := ob.form
         have db := dA.trans (bb.mono dA.size)
         rw [cols_len]
         have hq1m := (unhide HX1).cols
         rw [show [x].length = 1 from rfl] at hq1m
         have hmm := matMulS_ok F a1 c1 (some ⟨gb, obb, none⟩) rc m ab cb (cols [x] n) 1 n wb ((unhide R).below db) ((unhide RS).below db) (unhide HC) rb hq1m (cols_len _ _)
         rw [show cols (cols [x] n) 1 = [x] from cols_cols (unhide HX1).mat, prod_one, cols_len] at hmm
         have HMM := hide hmm
         clear ob rb hmm hq1m e0 e1 e2
         obtain ⟨e0, e1, e2⟩ := (unhide BX) wb db
         go_wp2_with fail
         refine (unhide HMM).mono ?_
         rintro e wc ⟨⟨vc, rfl, oc⟩, bc⟩
         obtain ⟨ac, cc, rfl, rcc⟩ := oc.form
         have dc := db.trans (bc.mono db.size)
         have hts := turnS_ok F a1 c1 ac cc (bcol F m x) 1 wc ((unhide R).below dc) rcc hMGb
         rw [bcol_cols] at hts
         have HTS := hide hts
         have RC := hide rcc
         rw [hbl] at HTS
         rw [hbl]
         clear oc rcc hts e0 e1 e2
         obtain ⟨e0, e1, e2⟩ := (unhide BX) wc dc
         go_wp2_with fail
         refine (unhide HTS).mono ?_
         rintro e wd ⟨⟨vd, rfl, od⟩, bd⟩
         obtain ⟨ad, cd, rfl, rd⟩ := od.form
         have dd := dc.trans (bd.mono dc.size)
         have RC2 := hide ((unhide RC).below bd)
         obtain ⟨gd, od', rfl, hgd, hcd⟩ := rd.at_ (by simp)
         obtain ⟨ar, cr, hr0, rr⟩ := hcd 0 (by simp)
         rw [Nat.add_zero] at hr0
         have hr0 : wd.cell? ⟨gd, od', none⟩ = some (.slice ar (rside F m x).length cr) := hr0
         have rr : Rd wd ar (rside F m x) := rr
         have hrl := rside_len (F := F) m x
         obtain ⟨hs1, hs2, hs3, hs4⟩ := hsolv
         have hsl := fun V (h : Below wd.heap.size wd V) => solve_ok F a1 c1 (some ⟨gb, obb, none⟩) rc m ar cr (rside F m x) n V ((unhide R).below (dd.trans (h.mono dd.size))) ((unhide RS).below (dd.trans (h.mono dd.size))) (unhide HC) (rr.below h) hrl (rside_el ok m x) hs1
         obtain ⟨y, hy⟩ : ∃ y, y = solIn (form F (wideM m (rside F m x)) (n + 1)) (red F (wideM m (rside F m x)) (n + 1)).2 n (red F (wideM m (rside F m x)) (n + 1)).2.length := ⟨_, rfl⟩
         rw [← hy] at hsl hs2 hs3 hs4
         rw [hrl] at hsl hr0
         have HSL := hide hsl
         have HY1 := hide ((unhide HC).one hs2 hs3)
         have HYL := Lib.hid hs2
         have HBY := Lib.hid hs4
         have hwd : Below wd.heap.size wd wd.drew := Below.drewn 1
         have BR := hide (show ∀ V, Below wd.heap.size wd V → (Below wd.heap.size wd V ∧ V.cell? ⟨w1.heap.size, 0, none⟩ = some (.int .i64 F.p) ∧ V.cell? ⟨w1.heap.size, 1, none⟩ = some (.int .i64 F.k) ∧ V.cell? ⟨w1.heap.size, 2, none⟩ = some (.slice a1 F.poly.length c1) ∧ V.cell? ⟨gd, od', none⟩ = some (.slice ar m.length cr)) from fun V h => ⟨h, ((unhide BX) V (dd.trans (h.mono dd.size))).1, ((unhide BX) V (dd.trans (h.mono dd.size))).2.1, ((unhide BX) V (dd.trans (h.mono dd.size))).2.2, (h.cell (p := ⟨gd, od', none⟩) hgd).trans hr0⟩)
         clear od rd hcd rr hsl hs1 hs2 hs3 hs4 hy hr0 e0 e1 e2 hrl hbl hMGb hbM
         go_upto_region 41 with fail
         refine wp_region_noPanic ?_
         refine wp_region_ord (S := (fun W => Below wd.heap.size wd W ∧ W.cell? ⟨w1.heap.size, 0, none⟩ = some (.int .i64 F.p) ∧ W.cell? ⟨w1.heap.size, 1, none⟩ = some (.int .i64 F.k) ∧ W.cell? ⟨w1.heap.size, 2, none⟩ = some (.slice a1 F.poly.length c1) ∧ W.cell? ⟨gd, od', none⟩ = some (.slice ar m.length cr))) [(true, 0), (true, 1), (true, 2), (true, 3), (true, 4), (false, 5), (true, 6), (true, 7), (true, 8), (true, 9), (true, 10)] (by kernel_rfl) (by kernel_rfl) (by kernel_rfl) rfl (fun _ _ _ _ _ h => h) ?_ (fun hHeld => ?_)
         · exact (unhide BR) _ hwd
         refine SeqO.take (by rfl) (v := ?hv22) (by rfl) ?hy22 ?hr22
         case hy22 =>
          intro w hSw
          try dsimp only at hSw
          go_simp
          try (with_reducible rfl)
         try simp only [Act.put, List.setIfInBounds_toArray, List.set_cons_zero, List.set_cons_succ]
         refine SeqO.take (by rfl) (v := ?hv23) (by rfl) ?hy23 ?hr23
         case hy23 =>
          intro w hSw
          try dsimp only at hSw
          go_simp
          try (with_reducible rfl)
         try simp only [Act.put, List.setIfInBounds_toArray, List.set_cons_zero, List.set_cons_succ]
         refine SeqO.take (by rfl) (v := ?hv24) (by rfl) ?hy24 ?hr24
         case hy24 =>
          intro w hSw
          try dsimp only at hSw
          go_simp
          try (with_reducible rfl)
         try simp only [Act.put, List.setIfInBounds_toArray, List.set_cons_zero, List.set_cons_succ]
         refine SeqO.take (by rfl) (v := ?hv25) (by rfl) ?hy25 ?hr25
         case hy25 =>
          intro w hSw
          try dsimp only at hSw
          go_simp
          try (with_reducible rfl)
         try simp only [Act.put, List.setIfInBounds_toArray, List.set_cons_zero, List.set_cons_succ]
         refine SeqO.take (by rfl) (v := ?hv26) (by rfl) ?hy26 ?hr26
         case hy26 =>
          intro w hSw
          try dsimp only at hSw
          go_simp
          try (with_reducible rfl)
         try simp only [Act.put, List.setIfInBounds_toArray, List.set_cons_zero, List.set_cons_succ]
         refine SeqO.call (by rfl) (fun K hK => ?_)
         go_simp
         refine (unhide HSL _ hwd).mono ?_
         rintro e we ⟨⟨ve, rfl, oe⟩, be⟩
         obtain ⟨ae, ce, rfl, re, _⟩ := oe.form
         have de := hwd.trans (be.mono hwd.size)
         refine hK.out _ _ ?_ (fun hHeld => ?_)
         · exact (unhide BR) _ de
         clear hK K
         try simp only [Act.put, List.setIfInBounds_toArray, List.set_cons_zero, List.set_cons_succ]
         refine SeqO.take (by rfl) (v := ?hv27) (by rfl) ?hy27 ?hr27
         case hy27 =>
          intro w hSw
          try dsimp only at hSw
          go_simp
          try (with_reducible rfl)
         try simp only [Act.put, List.setIfInBounds_toArray, List.set_cons_zero, List.set_cons_succ]
         refine SeqO.take (by rfl) (v := ?hv28) (by rfl) ?hy28 ?hr28
         case hy28 =>
          intro w hSw
          try dsimp only at hSw
          go_simp
          try (with_reducible rfl)
         try simp only [Act.put, List.setIfInBounds_toArray, List.set_cons_zero, List.set_cons_succ]
         refine SeqO.take (by rfl) (v := ?hv29) (by rfl) ?hy29 ?hr29
         case hy29 =>
          intro w hSw
          try dsimp only at hSw
          go_simp
          try (with_reducible rfl)
         try simp only [Act.put, List.setIfInBounds_toArray, List.set_cons_zero, List.set_cons_succ]
         refine SeqO.take (by rfl) (v := ?hv30) (by rfl) ?hy30 ?hr30
         case hy30 =>
          intro w hSw
          try dsimp only at hSw
          go_simp
          try (with_reducible rfl)
         try simp only [Act.put, List.setIfInBounds_toArray, List.set_cons_zero, List.set_cons_succ]
         refine SeqO.take (by rfl) (v := ?hv31) (by rfl) ?hy31 ?hr31
         case hy31 =>
          intro w hSw
          try dsimp only at hSw
          go_simp
          try (with_reducible rfl)
         try simp only [Act.put, List.setIfInBounds_toArray, List.set_cons_zero, List.set_cons_succ]
         refine SeqO.done (NoPanic.normal ?_)
         have dde := dd.trans (de.mono dd.size)
         have RC3 := hide ((unhide RC2).below de)
         have hyl : ((y.length : Int) != (n : Int)) = false := by rw [HYL.out]; simp
         obtain ⟨WE, hWE⟩ : ∃ z, z = we.alloc (.cells #[.slice ae y.length ce] 24) := ⟨_, rfl⟩
         have bE : Below we.heap.size we WE := by rw [hWE]; exact (Below.refl _ _).alloc (Nat.le_refl _) _
         have kE : Blk WE we.heap.size 24 #[.slice ae y.length ce] := by rw [hWE]; exact Blk.new _ _ _ rfl
         have dE := dde.trans (bE.mono dde.size)
         have RC4 := hide ((unhide RC3).below bE)
         have HTY := hide (turnS_ok F a1 c1 (some ⟨we.heap.size, 0, none⟩) 1 [y] n WE ((unhide R).below dE) (RdS.one (kE.cell 0) (re.below bE)) (unhide HY1))
         have HWE := Lib.hid hWE
         clear hWE kE re oe
         obtain ⟨e0, e1, e2⟩ := (unhide BX) we dde
         go_wp2_with (first | (rw [← HWE.out]; refine (unhide HTY).mono ?_) | fail)
         rintro e wf ⟨⟨vf, rfl, off⟩, bf⟩
         obtain ⟨af, cf, rfl, rf⟩ := off.form
         have df := dE.trans (bf.mono dE.size)
         have RC5 := hide ((unhide RC4).below bf)
         rw [cols_len]
         have hq2m := (unhide HY1).cols
         rw [show [y].length = 1 from rfl] at hq2m
         have hmm := matMulS_ok F a1 c1 (some ⟨gb, obb, none⟩) rc m af cf (cols [y] n) 1 n wf ((unhide R).below df) ((unhide RS).below df) (unhide HC) rf hq2m (cols_len _ _)
         rw [show cols (cols [y] n) 1 = [y] from cols_cols (unhide HY1).mat, prod_one, HBY.out, cols_len] at hmm
         have HMM2 := hide hmm
         clear off rf hmm hq2m e0 e1 e2
         obtain ⟨e0, e1, e2⟩ := (unhide BX) wf df
         go_wp2_with fail
         refine (unhide HMM2).mono ?_
         rintro e wg ⟨⟨vg, rfl, og⟩, bg⟩
         obtain ⟨ag, cg, rfl, rg⟩ := og.form
         have dg := df.trans (bg.mono df.size)
         have hbl := bcol_len (F := F) m x
         have hlt := v8Lists_ok ac ag cc cg (bcol F m x) (bcol F m x) wg ((unhide RC5).below bg) rg rfl
         rw [hbl] at hlt
         rw [hbl]
         have HLT := hide hlt
         clear og rg hlt hbl e0 e1 e2
         go_wp2_with fail
         refine (unhide HLT).mono ?_
         rintro e wh ⟨rfl, bh⟩
         have hbh := Below.chain hb0 (dg.trans (bh.mono dg.size))
         go_wp2
         go_ret
         exact ⟨rfl, hbh⟩
  · have g1 : ¬ (0 : Int) < (R0.length : Int) := by omega
    have g2 : decide ((0 : Int) < (R0.length : Int)) = false := by simpa using g1
    go_wp2_with fail
    clear hs0 e0 e1 e2
    go_loopw [22] (fun iv wr => ∃ i : Nat, iv = .int .i64 i ∧ i ≤ m.length ∧ Below w7.heap.size w7 wr) (fun iv _ => m.length - (intOf iv).toNat)
    case atStart => exact ⟨0, rfl, Nat.zero_le _, Below.refl _ _⟩
    case round =>
     obtain ⟨i, rfl, hi, hb⟩ := hrel
     have dr := d7.trans (hb.mono d7.size)
     by_cases hil : i < m.length
     · skip
       go_upto_region 20 with fail
       refine wp_region_noPanic ?_
       refine wp_region_ord (S := (fun W => Below wr.heap.size wr W)) [(true, 0), (true, 1), (true, 2), (true, 3), (true, 4), (true, 5), (true, 6), (true, 7), (true, 8), (true, 9), (true, 10), (true, 11)] (by kernel_rfl) (by kernel_rfl) (by kernel_rfl) rfl (fun _ _ _ _ _ h => h) ?_ (fun hHeld => ?_)
       · exact Below.drewn 1
       refine SeqO.take (by rfl) (v := ?hv32) (by rfl) ?hy32 ?hr32
       case hy32 =>
        intro w hSw
        try dsimp only at hSw
        go_simp
        try (with_reducible rfl)
       try simp only [Act.put, List.setIfInBounds_toArray, List.set_cons_zero, List.set_cons_succ]
       refine SeqO.take (by rfl) (v := ?hv33) (by rfl) ?hy33 ?hr33
       case hy33 =>
        intro w hSw
        try dsimp only at hSw
        go_simp
        try (with_reducible rfl)
       try simp only [Act.put, List.setIfInBounds_toArray, List.set_cons_zero, List.set_cons_succ]
       refine SeqO.take (by rfl) (v := ?hv34) (by rfl) ?hy34 ?hr34
       case hy34 =>
        intro w hSw
        try dsimp only at hSw
        go_simp
        try (with_reducible rfl)
       try simp only [Act.put, List.setIfInBounds_toArray, List.set_cons_zero, List.set_cons_succ]
       refine SeqO.skip (by rfl) (by rfl) ?_
       try simp only [Act.put, List.setIfInBounds_toArray, List.set_cons_zero, List.set_cons_succ]
       refine SeqO.skip (by rfl) (by rfl) ?_
       try simp only [Act.put, List.setIfInBounds_toArray, List.set_cons_zero, List.set_cons_succ]
       refine SeqO.skip (by rfl) (by rfl) ?_
       try simp only [Act.put, List.setIfInBounds_toArray, List.set_cons_zero, List.set_cons_succ]
       refine SeqO.skip (by rfl) (by rfl) ?_
       try simp only [Act.put, List.setIfInBounds_toArray, List.set_cons_zero, List.set_cons_succ]
       refine SeqO.skip (by rfl) (by rfl) ?_
       try simp only [Act.put, List.setIfInBounds_toArray, List.set_cons_zero, List.set_cons_succ]
       refine SeqO.skip (by rfl) (by rfl) ?_
       try simp only [Act.put, List.setIfInBounds_toArray, List.set_cons_zero, List.set_cons_succ]
       refine SeqO.skip (by rfl) (by rfl) ?_
       try simp only [Act.put, List.setIfInBounds_toArray, List.set_cons_zero, List.set_cons_succ]
       refine SeqO.skip (by rfl) (by rfl) ?_
       try simp only [Act.put, List.setIfInBounds_toArray, List.set_cons_zero, List.set_cons_succ]
       refine SeqO.take (by rfl) (v := ?hv35) (by rfl) ?hy35 ?hr35
       case hy35 =>
        intro w hSw
        try dsimp only at hSw
        go_simp
        try (with_reducible rfl)
       try simp only [Act.put, List.setIfInBounds_toArray, List.set_cons_zero, List.set_cons_succ]
       refine SeqO.done (NoPanic.normal ?_)
       go_wp2
       go_roundw
       case rel => exact ⟨i + 1, by go_num, by omega, below_drewN hb 1⟩
       case measure => simp only [intOf]; omega
     · skip
       have NN := hide ((unhide N7).below hb)
       by_cases hN : 0 < N0.length
       · have g5 : (0 : Int) < (N0.length : Int) := by omega
         have hMGN : MG F n N0 := ⟨(unhide HC).good, hN, by have := HNL.out; omega, hn1, hn32, unhide HNM⟩
         have hcc2 := cols_cols hMGN.mat
         have HTN := hide (turnS_ok F a1 c1 A4 C4 N0 n wr ((unhide R).below dr) (unhide NN) hMGN)
         have HGN := hide hMGN.cols
         have HZZ := hide (show ∀ i j, i < m.length → j < N0.length → (nthL (prodTo F m N0 m.length) i).length = N0.length ∧ nth (nthL (prodTo F m N0 m.length) i) j = 0 from fun i j hi hj => by rw [HN0.out] at hj ⊢; exact null_prod (unhide HC) hi hj)
         have hzl := prodTo_len F m N0 (Nat.le_refl m.length)
         clear hMGN
         obtain ⟨e0, e1, e2⟩ := (unhide BX) wr dr
         go_wp2_with fail
         refine (unhide HTN).mono ?_
         rintro e wp ⟨⟨vp, rfl, op⟩, bp⟩
         obtain ⟨ap, cp, rfl, rp⟩ := op.form
         have dp := dr.trans (bp.mono dr.size)
         rw [cols_len]
         have hmm := matMul_ok F a1 c1 (some ⟨gb, obb, none⟩) rc m ap cp (cols N0 n) N0.length n wp ((unhide R).below dp) ((unhide RS).below dp) (unhide HC) rp (unhide HGN) (cols_len _ _)
         rw [hcc2, cols_len] at hmm
         obtain ⟨Z, hZ⟩ : ∃ Z, Z = prodTo F m N0 m.length := ⟨_, rfl⟩
         rw [← hZ] at hmm HZZ hzl
         have HMN := hide hmm
         clear op rp hmm hZ hcc2 e0 e1 e2
         obtain ⟨e0, e1, e2⟩ := (unhide BX) wp dp
         go_wp2_with fail
         refine (unhide HMN).mono ?_
         rintro e wq ⟨⟨vq, rfl, oq⟩, bq⟩
         obtain ⟨aq, cq, rfl, rq⟩ := oq.form
         have dq := dp.trans (bq.mono dp.size)
         rw [hzl]
         have RQ := hide rq
         have HZL := Lib.hid hzl
         clear oq rq hzl e0 e1 e2
         go_wp2_with fail
         go_loopw [27, 28] (fun iv jv wr => ∃ i : Nat, iv = .int .i64 i ∧ i ≤ m.length ∧ Below wq.heap.size wq wr) (fun iv _ _ => m.length - (intOf iv).toNat)
         case atStart => exact ⟨0, rfl, Nat.zero_le _, Below.refl _ _⟩
         case round =>
          obtain ⟨i, rfl, hi, hb⟩ := hrel
          rename World => wo
          have dq2 := dq.trans (hb.mono dq.size)
          by_cases hil : i < m.length
          · obtain ⟨gz, oz, rfl, hgz, hcz⟩ := (unhide RQ).at_ (by rw [HZL.out]; omega)
            obtain ⟨az, cz, hz0, rz⟩ := hcz i (by rw [HZL.out]; exact hil)
            rw [((unhide HZZ) i 0 hil hN).1] at hz0
            have hz1 := (hb.cell (p := ⟨gz, oz + i, none⟩) hgz).trans hz0
            have RZ := hide rz
            clear hcz rz
            go_wp2_with fail
            go_loopw [28] (fun jv wr => ∃ j : Nat, jv = .int .i64 j ∧ j ≤ N0.length ∧ Below wq.heap.size wq wr) (fun jv _ => N0.length - (intOf jv).toNat)
            case atStart => exact ⟨0, rfl, Nat.zero_le _, hb⟩
            case round =>
             obtain ⟨j, rfl, hj, hb⟩ := hrel
             have hz2 := (hb.cell (p := ⟨gz, oz + i, none⟩) hgz).trans hz0
             by_cases hjl : j < N0.length
             · obtain ⟨hzl, hzz⟩ := (unhide HZZ) i j hil hjl
               obtain ⟨gy, oy, rfl, hgy, hcy⟩ := (unhide RZ).at_ (by rw [hzl]; omega)
               have cy0 := hcy j (by rw [hzl]; exact hjl)
               rw [hzz] at cy0
               have cy := (hb.cell (p := ⟨gy, oy + j, none⟩) hgy).trans cy0
               have hNb : N0.length ≤ 32 := by have := HNL.out; omega
               clear hcy hzl hzz cy0
               go_wp2
               go_roundw
               case rel => exact ⟨j + 1, by go_num, by omega, hb⟩
               case measure => simp only [intOf]; omega
             · go_wp2
               go_roundw
               case rel => exact ⟨i + 1, by go_num, by omega, hb⟩
               case measure => simp only [intOf]; omega
          · skip
            obtain ⟨e0, e1, e2⟩ := (unhide BX) wo dq2
            go_wp2_with fail
            refine (V8Vector_any b d ys F a1 c1 n wo ((unhide YB).below dq2) ((unhide R).below dq2) ok (by omega)).mono ?_
            rintro e wv ⟨vv, x, rfl, hxl, hxe, ov, bv⟩
            have dv := dq2.trans (bv.mono dq2.size)
            obtain ⟨ax, cx, rfl, rx, _⟩ := ov.form
            rw [hxl]
            have hM1x := (unhide HC).one hxl hxe
            have hsolv := solved (unhide HC) hxl hxe
            have hbM := bcol_Mat ok m x
            have hbl := bcol_len (F := F) m x
            have hMGb : MG F 1 (bcol F m x) := ⟨(unhide HC).good, by omega, by omega, by omega, by omega, hbM⟩
            obtain ⟨WA, hWA⟩ : ∃ z, z = wv.alloc (.cells #[.slice ax n cx] 24) := ⟨_, rfl⟩
            have bA : Below wv.heap.size wv WA := by rw [hWA]; exact (Below.refl _ _).alloc (Nat.le_refl _) _
            have kA : Blk WA wv.heap.size 24 #[.slice ax n cx] := by rw [hWA]; exact Blk.new _ _ _ rfl
            have dA := dv.trans (bA.mono dv.size)
            have rxA : RdS WA (some ⟨wv.heap.size, 0, none⟩) [x] := RdS.one (by rw [hxl]; exact kA.cell 0) (rx.below bA)
            have HX1 := hide hM1x
            have HTX := hide (turnS_ok F a1 c1 (some ⟨wv.heap.size, 0, none⟩) 1 [x] n WA ((unhide R).below dA) rxA hM1x)
            have HWA := Lib.hid hWA
            have HXL := Lib.hid hxl
            clear e0 e1 e2 hWA rxA rx ov hM1x kA
            obtain ⟨e0, e1, e2⟩ := (unhide BX) wv dv
            go_wp2_with (first | (rw [← HWA.out]; refine (unhide HTX).mono ?_) | fail)
            rintro e wb ⟨⟨vb, rfl, ob⟩, bb⟩
            obtain ⟨ab, cb, rfl, rb⟩ := ob.form
            have db := dA.trans (bb.mono dA.size)
            rw [cols_len]
            have hq1m := (unhide HX1).cols
            rw [show [x].length = 1 from rfl] at hq1m
            have hmm := matMulS_ok F a1 c1 (some ⟨gb, obb, none⟩) rc m ab cb (cols [x] n) 1 n wb ((unhide R).below db) ((unhide RS).below db) (unhide HC) rb hq1m (cols_len _ _)
            rw [show cols (cols [x] n) 1 = [x] from cols_cols (unhide HX1).mat, prod_one, cols_len] at hmm
            have HMM := hide hmm
            clear ob rb hmm hq1m e0 e1 e2
            obtain ⟨e0, e1, e2⟩ := (unhide BX) wb db
            go_wp2_with fail
            refine (unhide HMM).mono ?_
            rintro e wc ⟨⟨vc, rfl, oc⟩, bc⟩
            obtain ⟨ac, cc, rfl, rcc⟩ := oc.form
            have dc := db.trans (bc.mono db.size)
            have hts := turnS_ok F a1 c1 ac cc (bcol F m x) 1 wc ((unhide R).below dc) rcc hMGb
            rw [bcol_cols] at hts
            have HTS := hide hts
            have RC := hide rcc
            rw [hbl] at HTS
            rw [hbl]
            clear oc rcc hts e0 e1 e2
            obtain ⟨e0, e1, e2⟩ := (unhide BX) wc dc
            go_wp2_with fail
            refine (unhide HTS).mono ?_
            rintro e wd ⟨⟨vd, rfl, od⟩, bd⟩
            obtain ⟨ad, cd, rfl, rd⟩ := od.form
            have dd := dc.trans (bd.mono dc.size)
            have RC2 := hide ((unhide RC).below bd)
            obtain ⟨gd, od', rfl, hgd, hcd⟩ := rd.at_ (by simp)
            obtain ⟨ar, cr, hr0, rr⟩ := hcd 0 (by simp)
            rw [Nat.add_zero] at hr0
            have hr0 : wd.cell? ⟨gd, od', none⟩ = some (.slice ar (rside F m x).length cr) := hr0
            have rr : Rd wd ar (rside F m x) := rr
            have hrl := rside_len (F := F) m x
            obtain ⟨hs1, hs2, hs3, hs4⟩ := hsolv
            have hsl := fun V (h : Below wd.heap.size wd V) => solve_ok F a1 c1 (some ⟨gb, obb, none⟩) rc m ar cr (rside F m x) n V ((unhide R).below (dd.trans (h.mono dd.size))) ((unhide RS).below (dd.trans (h.mono dd.size))) (unhide HC) (rr.below h) hrl (rside_el ok m x) hs1
            obtain ⟨y, hy⟩ : ∃ y, y = solIn (form F (wideM m (rside F m x)) (n + 1)) (red F (wideM m (rside F m x)) (n + 1)).2 n (red F (wideM m (rside F m x)) (n + 1)).2.length := ⟨_, rfl⟩
            rw [← hy] at hsl hs2 hs3 hs4
            rw [hrl] at hsl hr0
            have HSL := hide hsl
            have HY1 := hide ((unhide HC).one hs2 hs3)
            have HYL := Lib.hid hs2
            have HBY := Lib.hid hs4
            have hwd : Below wd.heap.size wd wd.drew := Below.drewn 1
            have BR := hide (show ∀ V, Below wd.heap.size wd V → (Below wd.heap.size wd V ∧ V.cell? ⟨w1.heap.size, 0, none⟩ = some (.int .i64 F.p) ∧ V.cell? ⟨w1.heap.size, 1, none⟩ = some (.int .i64 F.k) ∧ V.cell? ⟨w1.heap.size, 2, none⟩ = some (.slice a1 F.poly.length c1) ∧ V.cell? ⟨gd, od', none⟩ = some (.slice ar m.length cr)) from fun V h => ⟨h, ((unhide BX) V (dd.trans (h.mono dd.size))).1, ((unhide BX) V (dd.trans (h.mono dd.size))).2.1, ((unhide BX) V (dd.trans (h.mono dd.size))).2.2, (h.cell (p := ⟨gd, od', none⟩) hgd).trans hr0⟩)
            clear od rd hcd rr hsl hs1 hs2 hs3 hs4 hy hr0 e0 e1 e2 hrl hbl hMGb hbM
            go_upto_region 41 with fail
            refine wp_region_noPanic ?_
            refine wp_region_ord (S := (fun W => Below wd.heap.size wd W ∧ W.cell? ⟨w1.heap.size, 0, none⟩ = some (.int .i64 F.p) ∧ W.cell? ⟨w1.heap.size, 1, none⟩ = some (.int .i64 F.k) ∧ W.cell? ⟨w1.heap.size, 2, none⟩ = some (.slice a1 F.poly.length c1) ∧ W.cell? ⟨gd, od', none⟩ = some (.slice ar m.length cr))) [(true, 0), (true, 1), (true, 2), (true, 3), (true, 4), (false, 5), (true, 6), (true, 7), (true, 8), (true, 9), (true, 10)] (by kernel_rfl) (by kernel_rfl) (by kernel_rfl) rfl (fun _ _ _ _ _ h => h) ?_ (fun hHeld => ?_)
            · exact (unhide BR) _ hwd
            refine SeqO.take (by rfl) (v := ?hv36) (by rfl) ?hy36 ?hr36
            case hy36 =>
             intro w hSw
             try dsimp only at hSw
             go_simp
             try (with_reducible rfl)
            try simp only [Act.put, List.setIfInBounds_toArray, List.set_cons_zero, List.set_cons_succ]
            refine SeqO.take (by rfl) (v := ?hv37) (by rfl) ?hy37 ?hr37
            case hy37 =>
             intro w hSw
             try dsimp only at hSw
             go_simp
             try (with_reducible rfl)
            try simp only [Act.put, List.setIfInBounds_toArray, List.set_cons_zero, List.set_cons_succ]
            refine SeqO.take (by rfl) (v := ?hv38) (by rfl) ?hy38 ?hr38
            case hy38 =>
             intro w hSw
             try dsimp only at hSw
             go_simp
             try (with_reducible rfl)
            try simp only [Act.put, List.setIfInBounds_toArray, List.set_cons_zero, List.set_cons_succ]
            refine SeqO.take (by rfl) (v := ?hv39) (by rfl) ?hy39 ?hr39
            case hy39 =>
             intro w hSw
             try dsimp only at hSw
             go_simp
             try (with_reducible rfl)
            try simp only [Act.put, List.setIfInBounds_toArray, List.set_cons_zero, List.set_cons_succ]
            refine SeqO.take (by rfl) (v := ?hv40) (by rfl) ?hy40 ?hr40
            case hy40 =>
             intro w hSw
             try dsimp only at hSw
             go_simp
             try (with_reducible rfl)
            try simp only [Act.put, List.setIfInBounds_toArray, List.set_cons_zero, List.set_cons_succ]
            refine SeqO.call (by rfl) (fun K hK => ?_)
            go_simp
            refine (unhide HSL _ hwd).mono ?_
            rintro e we ⟨⟨ve, rfl, oe⟩, be⟩
            obtain ⟨ae, ce, rfl, re, _⟩ := oe.form
            have de := hwd.trans (be.mono hwd.size)
            refine hK.out _ _ ?_ (fun hHeld => ?_)
            · exact (unhide BR) _ de
            clear hK K
            try simp only [Act.put, List.setIfInBounds_toArray, List.set_cons_zero, List.set_cons_succ]
            refine SeqO.take (by rfl) (v := ?hv41) (by rfl) ?hy41 ?hr41
            case hy41 =>
             intro w hSw
             try dsimp only at hSw
             go_simp
             try (with_reducible rfl)
            try simp only [Act.put, List.setIfInBounds_toArray, List.set_cons_zero, List.set_cons_succ]
            refine SeqO.take (by rfl) (v := ?hv42) (by rfl) ?hy42 ?hr42
            case hy42 =>
             intro w hSw
             try dsimp only at hSw
             go_simp
             try (with_reducible rfl)
            try simp only [Act.put, List.setIfInBounds_toArray, List.set_cons_zero, List.set_cons_succ]
            refine SeqO.take (by rfl) (v := ?hv43) (by rfl) ?hy43 ?hr43
            case hy43 =>
             intro w hSw
             try dsimp only at hSw
             go_simp
             try (with_reducible rfl)
            try simp only [Act.put, List.setIfInBounds_toArray, List.set_cons_zero, List.set_cons_succ]
            refine SeqO.take (by rfl) (v := ?hv44) (by rfl) ?hy44 ?hr44
            case hy44 =>
             intro w hSw
             try dsimp only at hSw
             go_simp
             try (with_reducible rfl)
            try simp only [Act.put, List.setIfInBounds_toArray, List.set_cons_zero, List.set_cons_succ]
            refine SeqO.take (by rfl) (v := ?hv45) (by rfl) ?hy45 ?hr45
            case hy45 =>
             intro w hSw
             try dsimp only at hSw
             go_simp
             try (with_reducible rfl)
            try simp only [Act.put, List.setIfInBounds_toArray, List.set_cons_zero, List.set_cons_succ]
            refine SeqO.done (NoPanic.normal ?_)
            have dde := dd.trans (de.mono dd.size)
            have RC3 := hide ((unhide RC2).below de)
            have hyl : ((y.length : Int) != (n : Int)) = false := by rw [HYL.out]; simp
            obtain ⟨WE, hWE⟩ : ∃ z, z = we.alloc (.cells #[.slice ae y.length ce] 24) := ⟨_, rfl⟩
            have bE : Below we.heap.size we WE := by rw [hWE]; exact (Below.refl _ _).alloc (Nat.le_refl _) _
            have kE : Blk WE we.heap.size 24 #[.slice ae y.length ce] := by rw [hWE]; exact Blk.new _ _ _ rfl
            have dE := dde.trans (bE.mono dde.size)
            have RC4 := hide ((unhide RC3).below bE)
            have HTY := hide (turnS_ok F a1 c1 (some ⟨we.heap.size, 0, none⟩) 1 [y] n WE ((unhide R).below dE) (RdS.one (kE.cell 0) (re.below bE)) (unhide HY1))
            have HWE := Lib.hid hWE
            clear hWE kE re oe
            obtain ⟨e0, e1, e2⟩ := (unhide BX) we dde
            go_wp2_with (first | (rw [← HWE.out]; refine (unhide HTY).mono ?_) | fail)
            rintro e wf ⟨⟨vf, rfl, off⟩, bf⟩
            obtain ⟨af, cf, rfl, rf⟩ := off.form
            have df := dE.trans (bf.mono dE.size)
            have RC5 := hide ((unhide RC4).below bf)
            rw [cols_len]
            have hq2m := (unhide HY1).cols
            rw [show [y].length = 1 from rfl] at hq2m
            have hmm := matMulS_ok F a1 c1 (some ⟨gb, obb, none⟩) rc m af cf (cols [y] n) 1 n wf ((unhide R).below df) ((unhide RS).below df) (unhide HC) rf hq2m (cols_len _ _)
            rw [show cols (cols [y] n) 1 = [y] from cols_cols (unhide HY1).mat, prod_one, HBY.out, cols_len] at hmm
            have HMM2 := hide hmm
            clear off rf hmm hq2m e0 e1 e2
            obtain ⟨e0, e1, e2⟩ := (unhide BX) wf df
            go_wp2_with fail
            refine (unhide HMM2).mono ?_
            rintro e wg ⟨⟨vg, rfl, og⟩, bg⟩
            obtain ⟨ag, cg, rfl, rg⟩ := og.form
            have dg := df.trans (bg.mono df.size)
            have hbl := bcol_len (F := F) m x
            have hlt := v8Lists_ok ac ag cc cg (bcol F m x) (bcol F m x) wg ((unhide RC5).below bg) rg rfl
            rw [hbl] at hlt
            rw [hbl]
            have HLT := hide hlt
            clear og rg hlt hbl e0 e1 e2
            go_wp2_with fail
            refine (unhide HLT).mono ?_
            rintro e wh ⟨rfl, bh⟩
            have hbh := Below.chain hb0 (dg.trans (bh.mono dg.size))
            go_wp2
            go_ret
            exact ⟨rfl, hbh⟩
       · have g5 : ¬ (0 : Int) < (N0.length : Int) := by omega
         obtain ⟨e0, e1, e2⟩ := (unhide BX) wr dr
         go_wp2_with fail
         refine (V8Vector_any b d ys F a1 c1 n wr ((unhide YB).below dr) ((unhide R).below dr) ok (by omega)).mono ?_
         rintro e wv ⟨vv, x, rfl, hxl, hxe, ov, bv⟩
         have dv := dr.trans (bv.mono dr.size)
         obtain ⟨ax, cx, rfl, rx, _⟩ := ov.form
         rw [hxl]
         have hM1x := (unhide HC).one hxl hxe
         have hsolv := solved (unhide HC) hxl hxe
         have hbM := bcol_Mat ok m x
         have hbl := bcol_len (F := F) m x
         have hMGb : MG F 1 (bcol F m x) := ⟨(unhide HC).good, by omega, by omega, by omega, by omega, hbM⟩
         obtain ⟨WA, hWA⟩ : ∃ z, z = wv.alloc (.cells #[.slice ax n cx] 24) := ⟨_, rfl⟩
         have bA : Below wv.heap.size wv WA := by rw [hWA]; exact (Below.refl _ _).alloc (Nat.le_refl _) _
         have kA : Blk WA wv.heap.size 24 #[.slice ax n cx] := by rw [hWA]; exact Blk.new _ _ _ rfl
         have dA := dv.trans (bA.mono dv.size)
         have rxA : RdS WA (some ⟨wv.heap.size, 0, none⟩) [x] := RdS.one (by rw [hxl]; exact kA.cell 0) (rx.below bA)
         have HX1 := hide hM1x
         have HTX := hide (turnS_ok F a1 c1 (some ⟨wv.heap.size, 0, none⟩) 1 [x] n WA ((unhide R).below dA) rxA hM1x)
         have HWA := Lib.hid hWA
         have HXL := Lib.hid hxl
         clear e0 e1 e2 hWA rxA rx ov hM1x kA
         obtain ⟨e0, e1, e2⟩ := (unhide BX) wv dv
         go_wp2_with (first | (rw [← HWA.out]; refine (unhide HTX).mono ?_) | fail)
         rintro e wb ⟨⟨vb, rfl, ob⟩, bb⟩
         obtain ⟨ab, cb, rfl, rb⟩ := ob.form
         have db := dA.trans (bb.mono dA.size)
         rw [cols_len]
         have hq1m := (unhide HX1).cols
         rw [show [x].length = 1 from rfl] at hq1m
         have hmm := matMulS_ok F a1 c1 (some ⟨gb, obb, none⟩) rc m ab cb (cols [x] n) 1 n wb ((unhide R).below db) ((unhide RS).below db) (unhide HC) rb hq1m (cols_len _ _)
         rw [show cols (cols [x] n) 1 = [x] from cols_cols (unhide HX1).mat, prod_one, cols_len] at hmm
         have HMM := hide hmm
         clear ob rb hmm hq1m e0 e1 e2
         obtain ⟨e0, e1, e2⟩ := (unhide BX) wb db
         go_wp2_with fail
         refine (unhide HMM).mono ?_
         rintro e wc ⟨⟨vc, rfl, oc⟩, bc⟩
         obtain ⟨ac, cc, rfl, rcc⟩ := oc.form
         have dc := db.trans (bc.mono db.size)
         have hts := turnS_ok F a1 c1 ac cc (bcol F m x) 1 wc ((unhide R).below dc) rcc hMGb
         rw [bcol_cols] at hts
         have HTS := hide hts
         have RC := hide rcc
         rw [hbl] at HTS
         rw [hbl]
         clear oc rcc hts e0 e1 e2
         obtain ⟨e0, e1, e2⟩ := (unhide BX) wc dc
         go_wp2_with fail
         refine (unhide HTS).mono ?_
         rintro e wd ⟨⟨vd, rfl, od⟩, bd⟩
         obtain ⟨ad, cd, rfl, rd⟩ := od.form
         have dd := dc.trans (bd.mono dc.size)
         have RC2 := hide ((unhide RC).below bd)
         obtain ⟨gd, od', rfl, hgd, hcd⟩ := rd.at_ (by simp)
         obtain ⟨ar, cr, hr0, rr⟩ := hcd 0 (by simp)
         rw [Nat.add_zero] at hr0
         have hr0 : wd.cell? ⟨gd, od', none⟩ = some (.slice ar (rside F m x).length cr) := hr0
         have rr : Rd wd ar (rside F m x) := rr
         have hrl := rside_len (F := F) m x
         obtain ⟨hs1, hs2, hs3, hs4⟩ := hsolv
         have hsl := fun V (h : Below wd.heap.size wd V) => solve_ok F a1 c1 (some ⟨gb, obb, none⟩) rc m ar cr (rside F m x) n V ((unhide R).below (dd.trans (h.mono dd.size))) ((unhide RS).below (dd.trans (h.mono dd.size))) (unhide HC) (rr.below h) hrl (rside_el ok m x) hs1
         obtain ⟨y, hy⟩ : ∃ y, y = solIn (form F (wideM m (rside F m x)) (n + 1)) (red F (wideM m (rside F m x)) (n + 1)).2 n (red F (wideM m (rside F m x)) (n + 1)).2.length := ⟨_, rfl⟩
         rw [← hy] at hsl hs2 hs3 hs4
         rw [hrl] at hsl hr0
         have HSL := hide hsl
         have HY1 := hide ((unhide HC).one hs2 hs3)
         have HYL := Lib.hid hs2
         have HBY := Lib.hid hs4
         have hwd : Below wd.heap.size wd wd.drew := Below.drewn 1
         have BR := hide (show ∀ V, Below wd.heap.size wd V → (Below wd.heap.size wd V ∧ V.cell? ⟨w1.heap.size, 0, none⟩ = some (.int .i64 F.p) ∧ V.cell? ⟨w1.heap.size, 1, none⟩ = some (.int .i64 F.k) ∧ V.cell? ⟨w1.heap.size, 2, none⟩ = some (.slice a1 F.poly.length c1) ∧ V.cell? ⟨gd, od', none⟩ = some (.slice ar m.length cr)) from fun V h => ⟨h, ((unhide BX) V (dd.trans (h.mono dd.size))).1, ((unhide BX) V (dd.trans (h.mono dd.size))).2.1, ((unhide BX) V (dd.trans (h.mono dd.size))).2.2, (h.cell (p := ⟨gd, od', none⟩) hgd).trans hr0⟩)
         clear od rd hcd rr hsl hs1 hs2 hs3 hs4 hy hr0 e0 e1 e2 hrl hbl hMGb hbM
         go_upto_region 41 with fail
         refine wp_region_noPanic ?_
         refine wp_region_ord (S := (fun W => Below wd.heap.size wd W ∧ W.cell? ⟨w1.heap.size, 0, none⟩ = some (.int .i64 F.p) ∧ W.cell? ⟨w1.heap.size, 1, none⟩ = some (.int .i64 F.k) ∧ W.cell? ⟨w1.heap.size, 2, none⟩ = some (.slice a1 F.poly.length c1) ∧ W.cell? ⟨gd, od', none⟩ = some (.slice ar m.length cr))) [(true, 0), (true, 1), (true, 2), (true, 3), (true, 4), (false, 5), (true, 6), (true, 7), (true, 8), (true, 9), (true, 10)] (by kernel_rfl) (by kernel_rfl) (by kernel_rfl) rfl (fun _ _ _ _ _ h => h) ?_ (fun hHeld => ?_)
         · exact (unhide BR) _ hwd
         refine SeqO.take (by rfl) (v := ?hv46) (by rfl) ?hy46 ?hr46
         case hy46 =>
          intro w hSw
          try dsimp only at hSw
          go_simp
          try (with_reducible rfl)
         try simp only [Act.put, List.setIfInBounds_toArray, List.set_cons_zero, List.set_cons_succ]
         refine SeqO.take (by rfl) (v := ?hv47) (by rfl) ?hy47 ?hr47
         case hy47 =>
          intro w hSw
          try dsimp only at hSw
          go_simp
          try (with_reducible rfl)
         try simp only [Act.put, List.setIfInBounds_toArray, List.set_cons_zero, List.set_cons_succ]
         refine SeqO.take (by rfl) (v := ?hv48) (by rfl) ?hy48 ?hr48
         case hy48 =>
          intro w hSw
          try dsimp only at hSw
          go_simp
          try (with_reducible rfl)
         try simp only [Act.put, List.setIfInBounds_toArray, List.set_cons_zero, List.set_cons_succ]
         refine SeqO.take (by rfl) (v := ?hv49) (by rfl) ?hy49 ?hr49
         case hy49 =>
          intro w hSw
          try dsimp only at hSw
          go_simp
          try (with_reducible rfl)
         try simp only [Act.put, List.setIfInBounds_toArray, List.set_cons_zero, List.set_cons_succ]
         refine SeqO.take (by rfl) (v := ?hv50) (by rfl) ?hy50 ?hr50
         case hy50 =>
          intro w hSw
          try dsimp only at hSw
          go_simp
          try (with_reducible rfl)
         try simp only [Act.put, List.setIfInBounds_toArray, List.set_cons_zero, List.set_cons_succ]
         refine SeqO.call (by rfl) (fun K hK => ?_)
         go_simp
         refine (unhide HSL _ hwd).mono ?_
         rintro e we ⟨⟨ve, rfl, oe⟩, be⟩
         obtain ⟨ae, ce, rfl, re, _⟩ := oe.form
         have de := hwd.trans (be.mono hwd.size)
         refine hK.out _ _ ?_ (fun hHeld => ?_)
         · exact (unhide BR) _ de
         clear hK K
         try simp only [Act.put, List.setIfInBounds_toArray, List.set_cons_zero, List.set_cons_succ]
         refine SeqO.take (by rfl) (v := ?hv51) (by rfl) ?hy51 ?hr51
         case hy51 =>
          intro w hSw
          try dsimp only at hSw
          go_simp
          try (with_reducible rfl)
         try simp only [Act.put, List.setIfInBounds_toArray, List.set_cons_zero, List.set_cons_succ]
         refine SeqO.take (by rfl) (v := ?hv52) (by rfl) ?hy52 ?hr52
         case hy52 =>
          intro w hSw
          try dsimp only at hSw
          go_simp
          try (with_reducible rfl)
         try simp only [Act.put, List.setIfInBounds_toArray, List.set_cons_zero, List.set_cons_succ]
         refine SeqO.take (by rfl) (v := ?hv53) (by rfl) ?hy53 ?hr53
         case hy53 =>
          intro w hSw
          try dsimp only at hSw
          go_simp
          try (with_reducible rfl)
         try simp only [Act.put, List.setIfInBounds_toArray, List.set_cons_zero, List.set_cons_succ]
         refine SeqO.take (by rfl) (v := ?hv54) (by rfl) ?hy54 ?hr54
         case hy54 =>
          intro w hSw
          try dsimp only at hSw
          go_simp
          try (with_reducible rfl)
         try simp only [Act.put, List.setIfInBounds_toArray, List.set_cons_zero, List.set_cons_succ]
         refine SeqO.take (by rfl) (v := ?hv55) (by rfl) ?hy55 ?hr55
         case hy55 =>
          intro w hSw
          try dsimp only at hSw
          go_simp
          try (with_reducible rfl)
         try simp only [Act.put, List.setIfInBounds_toArray, List.set_cons_zero, List.set_cons_succ]
         refine SeqO.done (NoPanic.normal ?_)
         have dde := dd.trans (de.mono dd.size)
         have RC3 := hide ((unhide RC2).below de)
         have hyl : ((y.length : Int) != (n : Int)) = false := by rw [HYL.out]; simp
         obtain ⟨WE, hWE⟩ : ∃ z, z = we.alloc (.cells #[.slice ae y.length ce] 24) := ⟨_, rfl⟩
         have bE : Below we.heap.size we WE := by rw [hWE]; exact (Below.refl _ _).alloc (Nat.le_refl _) _
         have kE : Blk WE we.heap.size 24 #[.slice ae y.length ce] := by rw [hWE]; exact Blk.new _ _ _ rfl
         have dE := dde.trans (bE.mono dde.size)
         have RC4 := hide ((unhide RC3).below bE)
         have HTY := hide (turnS_ok F a1 c1 (some ⟨we.heap.size, 0, none⟩) 1 [y] n WE ((unhide R).below dE) (RdS.one (kE.cell 0) (re.below bE)) (unhide HY1))
         have HWE := Lib.hid hWE
         clear hWE kE re oe
         obtain ⟨e0, e1, e2⟩ := (unhide BX) we dde
         go_wp2_with (first | (rw [← HWE.out]; refine (unhide HTY).mono ?_) | fail)
         rintro e wf ⟨⟨vf, rfl, off⟩, bf⟩
         obtain ⟨af, cf, rfl, rf⟩ := off.form
         have df := dE.trans (bf.mono dE.size)
         have RC5 := hide ((unhide RC4).below bf)
         rw [cols_len]
         have hq2m := (unhide HY1).cols
         rw [show [y].length = 1 from rfl] at hq2m
         have hmm := matMulS_ok F a1 c1 (some ⟨gb, obb, none⟩) rc m af cf (cols [y] n) 1 n wf ((unhide R).below df) ((unhide RS).below df) (unhide HC) rf hq2m (cols_len _ _)
         rw [show cols (cols [y] n) 1 = [y] from cols_cols (unhide HY1).mat, prod_one, HBY.out, cols_len] at hmm
         have HMM2 := hide hmm
         clear off rf hmm hq2m e0 e1 e2
         obtain ⟨e0, e1, e2⟩ := (unhide BX) wf df
         go_wp2_with fail
         refine (unhide HMM2).mono ?_
         rintro e wg ⟨⟨vg, rfl, og⟩, bg⟩
         obtain ⟨ag, cg, rfl, rg⟩ := og.form
         have dg := df.trans (bg.mono df.size)
         have hbl := bcol_len (F := F) m x
         have hlt := v8Lists_ok ac ag cc cg (bcol F m x) (bcol F m x) wg ((unhide RC5).below bg) rg rfl
         rw [hbl] at hlt
         rw [hbl]
         have HLT := hide hlt
         clear og rg hlt hbl e0 e1 e2
         go_wp2_with fail
         refine (unhide HLT).mono ?_
         rintro e wh ⟨rfl, bh⟩
         have hbh := Below.chain hb0 (dg.trans (bh.mono dg.size))
         go_wp2
         go_ret
         exact ⟨rfl, hbh⟩
theorem law_FnMatrices (X Y : SB) (w : World) (hX : X.ok w) (hY : Y.ok w) :
    Calls Try.prog 3 #[X.val, Y.val] w fun e w' => e = .returned (.bool true) ∧ Below w.heap.size w w' :=
 walkFnMatrices X.a Y.a X.c Y.c X.xs Y.xs w hX.1 hY.1 hX.2 hY.2
namespace fnMatrices
open Go.ChangeShapes Go.WideShapes Go.ChangeAt
theorem lifted (os : Os) (started : os.Started) (H : Type) (enc : TypeId × Value → H) :
    ReturnsInHanded {} Try.checked os 3 .any (Rows.fnMatricesSpec.pre6 enc Try.prog Try.f3 Rows.fnMatricesRow.domain false) (Rows.fnMatricesSpec.post enc Try.prog Try.f3 false true false false) := by
 refine returnsInHanded_of_change (C := Try.checked) ownKnob_none started (by kernel_rfl) Try.func3
  (ChangeSpec.witness6 (enc := enc) (C := Try.checked) false ⟨#[], #[.slice none 0 0, .slice none 0 0], []⟩ 8 (by kernel_rfl) (by kernel_rfl) (by kernel_rfl) (by kernel_rfl)) ?_
 intro W base args ds gs before hval0 hW _ _
 have hval : ∀ (j : Nat) t v, Try.f3.params[j]? = some t → args[j]? = some v → Value.okWide Try.prog W .any base t v := hval0
 have hW' := hW
 obtain ⟨p, q, hA0, hV, rfl, hfz, hnd⟩ := hW
 have hA : DataW.TrodAll enc Try.prog W 0 (fun _ => true) true Try.f3.params.toList args.toList ds p := hA0
 rw [Try.params3] at hA hval
 obtain ⟨v0, vs0, d0, ds0, p0, q0, hargs, rfl, rfl, h0, r0⟩ := trodAll_cons hA
 obtain ⟨v1, vs1, d1, ds1, p1, q1, rfl, rfl, rfl, h1, r1⟩ := trodAll_cons r0
 obtain ⟨rfl, rfl, rfl⟩ := trodAll_nil r1
 obtain rfl : args = #[v0, v1] := by cases args; simp_all
 obtain ⟨rfl, rfl⟩ := trodVars_none hV
 have k0 := h0
 have lt0 : ∀ x ∈ p0, x.block < W.heap.size := by obtain ⟨m, hm⟩ := k0; exact DataW.trod_lt m _ _ _ hm
 obtain ⟨X0, rfl, e0⟩ := open_sb (hval 0 22 v0 rfl rfl) h0
 have k1 := h1
 have lt1 : ∀ x ∈ p1, x.block < W.heap.size := by obtain ⟨m, hm⟩ := k1; exact DataW.trod_lt m _ _ _ hm
 obtain ⟨X1, rfl, e1⟩ := open_sb (hval 1 22 v1 rfl rfl) h1
 clear hA0 hval0
 refine (law_FnMatrices X0  X1  W e0 e1).mono fun e W' ⟨he, bel⟩ => ?_
 subst he
 exact ⟨_, rfl, _, _, _, [], _, [], hW', trodAll_mk1 (shut_bool Try.underlying4 _), (trodAll_cons_mk (Below.trod laidOut_ok (by kernel_rfl) (of_decide_eq_true (by kernel_rfl)) k0 bel lt0) (trodAll_cons_mk (Below.trod laidOut_ok (by kernel_rfl) (of_decide_eq_true (by kernel_rfl)) k1 bel lt1) trodAll_mk0)), rfl, bel.frame _, fun h => by cases h⟩
theorem over : Rows.fnMatricesRow.holds Try.pinned (OpenSpec.ofChange Rows.fnMatricesSpec) :=
 OpenClaim.holds_of_wide 3 Try.f3 rfl rfl rfl rfl rfl rfl rfl ⟨rfl, rfl, rfl, rfl, rfl⟩ rfl rfl rfl rfl rfl (by kernel_rfl) Try.func3 (by kernel_rfl)
  (of_decide_eq_true (by kernel_rfl)) (by unfold Func.isWrapper; first | (rw [if_pos (by decide +kernel)]; kernel_rfl) | (rw [if_neg (by decide +kernel)]; exact ⟨rfl, rfl⟩))
  (fun os started H enc _ => lifted os started H enc)
theorem proved : Rows.FnMatricesSaid := over
end fnMatrices
end Go.Proofs.Ytgfcbmflnldicaa
