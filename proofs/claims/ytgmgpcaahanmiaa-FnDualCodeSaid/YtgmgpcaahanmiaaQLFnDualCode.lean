/-
  Proved: FnDualCode returns true for every input and leaves its arguments as they were. No condition. Printed by gen_ldu.py.
-/
import Derived.Test.YtgmgpcaahanmiaaY4
import Derived.Test.YtgmgpcaahanmiaaY19
import Derived.Test.YtgmgpcaahanmiaaY23
import Derived.Test.YtgmgpcaahanmiaaY26
import Derived.Test.YtgmgpcaahanmiaaY29
import Derived.Test.YtgmgpcaahanmiaaY36
import Derived.Test.YtgmgpcaahanmiaaY37
set_option linter.unusedVariables false
set_option linter.unusedSimpArgs false
set_option maxRecDepth 100000
set_option maxHeartbeats 40000000
namespace Go.Proofs.Ytgmgpcaahanmiaa
open Go.RowKit
attribute [local go_sem ↓] Go.wp_at_zero Go.wp_at_succ
theorem walkFnDualCode (a b : Option Addr) (c d : Nat) (xs ys : List Int) (w0 : World) (hxl : xs.length ≤ maxLen) (hyl : ys.length ≤ maxLen) (hx : xs.length ≤ 1048576 → RdB w0 a xs) (hy : ys.length ≤ 1048576 → RdB w0 b ys) :
    Calls Try.prog 7 #[.slice a xs.length c, .slice b ys.length d] w0 fun e w' => e = .returned (.bool true) ∧ Below w0.heap.size w0 w' := by
 have HL := hide (v8Long_any a b c d xs.length ys.length w0 hxl hyl)
 clear hxl hyl
 cases hl : (decide (1048576 < xs.length) || decide (1048576 < ys.length)) with
 | true =>
  rw [hl] at HL
  clear hl hx hy
  go_enter Try.func7, Try.ntmps7
  go_wp2_with fail
  refine (unhide HL).mono ?_
  rintro e w1 ⟨rfl, rfl⟩
  go_wp2
  go_ret
  exact ⟨rfl, Below.refl _ _⟩
 | false =>
  rw [hl] at HL
  rw [Bool.or_eq_false_iff, decide_eq_false_iff_not, decide_eq_false_iff_not] at hl
  have HX := hide (hx (by omega))
  have HY := hide (hy (by omega))
  clear hx hy hl
  go_enter Try.func7, Try.ntmps7
  go_wp2_with fail
  refine (unhide HL).mono ?_
  rintro e w1 ⟨rfl, rfl⟩
  clear HL
  go_wp2_with fail
  refine (V8Code_any a c xs w0 (unhide HX)).mono ?_
  rintro e w1 ⟨⟨F, n, m, v1, u1, rfl, hC, o1, q1⟩, b1⟩
  have hG := hC.good
  have ok := hG.ok
  obtain ⟨n2, n64⟩ := ok.n_bd
  have hp2 := ok.p2
  have hp64 := ok.p64
  have hk6 := ok.k6
  have hm1 := hC.m1
  have hm8 := hC.m8
  have hn1 := hC.n1
  have hn32 := hC.n32
  obtain ⟨a1, c1, rfl, r1, _⟩ := o1.form
  obtain ⟨ra, rc, rfl, rs1⟩ := q1.form
  have hcap1 := q1.toH.caps
  have HC := hide hC
  obtain ⟨W, hW⟩ : ∃ z, z = w1.alloc (.cells #[.int .i64 F.p, .int .i64 F.k, .slice a1 F.poly.length c1, .slice ra m.length rc] 37) := ⟨_, rfl⟩
  have bW : Below w1.heap.size w1 W := by rw [hW]; exact (Below.refl _ _).alloc (Nat.le_refl _) _
  have kC : Blk W w1.heap.size 37 #[.int .i64 F.p, .int .i64 F.k, .slice a1 F.poly.length c1, .slice ra m.length rc] := by rw [hW]; exact Blk.new _ _ _ rfl
  have hWx := Lib.hid hW
  clear hW
  go_upto_region 4 with fail
  rw [← hWx.out]
  have r := r1.below bW
  have rs := rs1.below bW
  have hcap := hcap1.below rs1 bW
  have hgC := kC.lt
  have hb0 := Below.chain b1 bW
  have z0 := hb0.size
  have zC := bW.size
  obtain ⟨gb, ob, rfl, hgb, hcb⟩ := rs.at_ (by omega : 0 < m.length)
  obtain ⟨ai, ci, hc0, _⟩ := hcb 0 (by omega)
  rw [hC.hn, Nat.add_zero] at hc0
  have boxes : ∀ W', Below W.heap.size W W' → (Below W.heap.size W W' ∧ W'.cell? ⟨w1.heap.size, 0, none⟩ = some (.int .i64 F.p) ∧ W'.cell? ⟨w1.heap.size, 1, none⟩ = some (.int .i64 F.k) ∧ W'.cell? ⟨w1.heap.size, 2, none⟩ = some (.slice a1 F.poly.length c1) ∧ W'.cell? ⟨w1.heap.size, 3, none⟩ = some (.slice (some ⟨gb, ob, none⟩) m.length rc) ∧ W'.cell? ⟨gb, ob, none⟩ = some (.slice ai n ci)) := fun W' h => ⟨h, (kC.below h hgC).cell 0, (kC.below h hgC).cell 1, (kC.below h hgC).cell 2, (kC.below h hgC).cell 3, (h.cell (p := ⟨gb, ob, none⟩) hgb).trans hc0⟩
  have BX := hide boxes
  have R := hide r
  have RS := hide rs
  have CAP := hide hcap
  have YR := hide ((unhide HY).below hb0)
  have HXR := HX
  have hkI : I64 (F.k : Int) := ⟨by omega, by omega⟩
  have HKI := hide hkI
  clear boxes r rs hcap r1 rs1 hcap1 o1 q1 kC hcb hc0 bW b1 hkI HX HY hC
  have b00 := Below.refl W.heap.size W
  obtain ⟨_, e0, e1, e2, e3, e4⟩ := (unhide BX) _ b00
  have hdr := implDC_any F.p F.k a1 c1 F.poly (some ⟨gb, ob, none⟩) rc m W (unhide R) (unhide RS) (unhide HKI)
  by_cases hc : (dualRes F.p F.k F.poly m).2.2.2.2 = 0
  · obtain ⟨N, hN, hNC, hback, hlen, horth⟩ := dual_ok (unhide HC) hc
    rw [hN] at hdr
    have HDR := hide hdr
    have HNC := hide hNC
    have HBK := Lib.hid hback
    have HLEN := Lib.hid hlen
    have HOR := hide horth
    have hN1 := hNC.m1
    have hN8 := hNC.m8
    have hm0 : 0 < m.length := by omega
    clear hdr hc hN hNC hback hlen horth
    go_wp2_with fail
    refine (unhide HDR).mono ?_
    rintro e w2 ⟨v2, u2, rfl, o2, b2⟩
    have o2 : OwnC w2 W.heap.size v2 u2 F.poly N := o2
    obtain ⟨A2, C2, RA2, RC2, rfl, rfl, r2, rs2⟩ := o2.form
    clear o2 e0 e1 e2 e3 e4
    obtain ⟨W3, hW3⟩ : ∃ z, z = w2.alloc (.cells #[.int .i64 F.p, .int .i64 F.k, .slice A2 F.poly.length C2, .slice RA2 N.length RC2] 37) := ⟨_, rfl⟩
    have b3 : Below w2.heap.size w2 W3 := by rw [hW3]; exact (Below.refl _ _).alloc (Nat.le_refl _) _
    have kD : Blk W3 w2.heap.size 37 #[.int .i64 F.p, .int .i64 F.k, .slice A2 F.poly.length C2, .slice RA2 N.length RC2] := by rw [hW3]; exact Blk.new _ _ _ rfl
    have hW3x := Lib.hid hW3
    clear hW3
    go_upto_region 5 with fail
    rw [← hW3x.out]
    have d3 := Below.chain b2 b3
    have hgD := kD.lt
    have r3 := r2.below b3
    have rs3 := rs2.below b3
    have f0 := kD.cell 0
    have f1 := kD.cell 1
    have f2 := kD.cell 2
    have f3 := kD.cell 3
    have hbr := implDC_any F.p F.k A2 C2 F.poly RA2 RC2 N W3 r3 rs3 (unhide HKI)
    rw [HBK.out] at hbr
    have HBR := hide hbr
    have R3 := hide r3
    have RS3 := hide rs3
    clear hbr r2 rs2 r3 rs3
    go_wp2_with fail
    refine (unhide HBR).mono ?_
    rintro e w4 ⟨v4, u4, rfl, o4, b4⟩
    have o4 : OwnC w4 W3.heap.size v4 u4 F.poly m := o4
    obtain ⟨A4, C4, RA4, RC4, rfl, rfl, r4, rs4⟩ := o4.form
    clear o4 f0 f1 f2 f3
    obtain ⟨W5, hW5⟩ : ∃ z, z = w4.alloc (.cells #[.int .i64 F.p, .int .i64 F.k, .slice A4 F.poly.length C4, .slice RA4 m.length RC4] 37) := ⟨_, rfl⟩
    have b5 : Below w4.heap.size w4 W5 := by rw [hW5]; exact (Below.refl _ _).alloc (Nat.le_refl _) _
    have kB : Blk W5 w4.heap.size 37 #[.int .i64 F.p, .int .i64 F.k, .slice A4 F.poly.length C4, .slice RA4 m.length RC4] := by rw [hW5]; exact Blk.new _ _ _ rfl
    have hW5x := Lib.hid hW5
    clear hW5
    go_upto_region 9 with fail
    rw [← hW5x.out]
    have d45 := Below.chain b4 b5
    have d5 := Below.chain d3 d45
    have hb5 := Below.chain hb0 d5
    have hgB := kB.lt
    have kD5 := kD.below d45 hgD
    have hgD5 := kD5.lt
    have R5 := hide (r4.below b5)
    have RS5 := hide (rs4.below b5)
    have RD := hide ((unhide R3).below d45)
    have RSD := hide ((unhide RS3).below d45)
    have RC := hide ((unhide R).below d5)
    have RSC := hide ((unhide RS).below d5)
    have hbox : ∀ V, Below W5.heap.size W5 V → (Below W5.heap.size W5 V ∧ V.cell? ⟨w1.heap.size, 0, none⟩ = some (.int .i64 F.p) ∧ V.cell? ⟨w1.heap.size, 1, none⟩ = some (.int .i64 F.k) ∧ V.cell? ⟨w1.heap.size, 2, none⟩ = some (.slice a1 F.poly.length c1) ∧ V.cell? ⟨w1.heap.size, 3, none⟩ = some (.slice (some ⟨gb, ob, none⟩) m.length rc) ∧ V.cell? ⟨gb, ob, none⟩ = some (.slice ai n ci) ∧ V.cell? ⟨w2.heap.size, 0, none⟩ = some (.int .i64 F.p) ∧ V.cell? ⟨w2.heap.size, 1, none⟩ = some (.int .i64 F.k) ∧ V.cell? ⟨w2.heap.size, 2, none⟩ = some (.slice A2 F.poly.length C2) ∧ V.cell? ⟨w2.heap.size, 3, none⟩ = some (.slice RA2 N.length RC2) ∧ V.cell? ⟨w4.heap.size, 0, none⟩ = some (.int .i64 F.p) ∧ V.cell? ⟨w4.heap.size, 1, none⟩ = some (.int .i64 F.k) ∧ V.cell? ⟨w4.heap.size, 2, none⟩ = some (.slice A4 F.poly.length C4) ∧ V.cell? ⟨w4.heap.size, 3, none⟩ = some (.slice RA4 m.length RC4)) := fun V h => ⟨h, ((unhide BX) _ (d5.trans (h.mono d5.size))).2.1, ((unhide BX) _ (d5.trans (h.mono d5.size))).2.2.1, ((unhide BX) _ (d5.trans (h.mono d5.size))).2.2.2.1, ((unhide BX) _ (d5.trans (h.mono d5.size))).2.2.2.2.1, ((unhide BX) _ (d5.trans (h.mono d5.size))).2.2.2.2.2, (kD5.below h hgD5).cell 0, (kD5.below h hgD5).cell 1, (kD5.below h hgD5).cell 2, (kD5.below h hgD5).cell 3, (kB.below h hgB).cell 0, (kB.below h hgB).cell 1, (kB.below h hgB).cell 2, (kB.below h hgB).cell 3⟩
    have BY := hide hbox
    have XR5 := hide ((unhide HXR).below hb5)
    have YR5 := hide ((unhide YR).below d5)
    have hsc := fun V (h : Below W5.heap.size W5 V) => specSameCode_any F.p F.k F.p F.k A4 a1 RA4 (some ⟨gb, ob, none⟩) C4 c1 RC4 rc F.poly F.poly m m V ((unhide R5).below h) ((unhide RC).below h) ((unhide RS5).below h) ((unhide RSC).below h)
    rw [sameC_self] at hsc
    have HSC := hide hsc
    have hdw : Below W5.heap.size W5 W5.drew := Below.drewn 1
    have hlen2 : (IntKind.i64.wrap ((m.length : Int) + (N.length : Int)) != (n : Int)) = false := by have := HLEN.out; rw [IntWalk.i64_in _ (by omega), bne_eq_false_iff_eq]; omega
    clear hbox hsc r4 rs4 kD kD5 kB b2 b3 b4 b5 d3 d45
    refine wp_region_noPanic ?_
    refine wp_region_ord (S := (fun V => Below W5.heap.size W5 V ∧ V.cell? ⟨w1.heap.size, 0, none⟩ = some (.int .i64 F.p) ∧ V.cell? ⟨w1.heap.size, 1, none⟩ = some (.int .i64 F.k) ∧ V.cell? ⟨w1.heap.size, 2, none⟩ = some (.slice a1 F.poly.length c1) ∧ V.cell? ⟨w1.heap.size, 3, none⟩ = some (.slice (some ⟨gb, ob, none⟩) m.length rc) ∧ V.cell? ⟨gb, ob, none⟩ = some (.slice ai n ci) ∧ V.cell? ⟨w2.heap.size, 0, none⟩ = some (.int .i64 F.p) ∧ V.cell? ⟨w2.heap.size, 1, none⟩ = some (.int .i64 F.k) ∧ V.cell? ⟨w2.heap.size, 2, none⟩ = some (.slice A2 F.poly.length C2) ∧ V.cell? ⟨w2.heap.size, 3, none⟩ = some (.slice RA2 N.length RC2) ∧ V.cell? ⟨w4.heap.size, 0, none⟩ = some (.int .i64 F.p) ∧ V.cell? ⟨w4.heap.size, 1, none⟩ = some (.int .i64 F.k) ∧ V.cell? ⟨w4.heap.size, 2, none⟩ = some (.slice A4 F.poly.length C4) ∧ V.cell? ⟨w4.heap.size, 3, none⟩ = some (.slice RA4 m.length RC4))) [(true, 0), (true, 1), (true, 2), (true, 3), (true, 4), (false, 5), (true, 6), (true, 7), (true, 8), (true, 9), (true, 10), (true, 11), (true, 12), (true, 13), (true, 14), (true, 15), (true, 16), (true, 17), (true, 18), (true, 19), (true, 20), (true, 21), (true, 22)] (by kernel_rfl) (by kernel_rfl) (by kernel_rfl) rfl (fun _ _ _ _ _ h => h) ?_ (fun hHeld => ?_)
    · exact (unhide BY) _ hdw
    refine SeqO.take (by rfl) (v := ?hv1) (by rfl) ?hy1 ?hr1
    case hy1 =>
     intro w hSw
     try dsimp only at hSw
     go_simp
     try (with_reducible rfl)
    try simp only [Act.put, List.setIfInBounds_toArray, List.set_cons_zero, List.set_cons_succ]
    refine SeqO.take (by rfl) (v := ?hv2) (by rfl) ?hy2 ?hr2
    case hy2 =>
     intro w hSw
     try dsimp only at hSw
     go_simp
     try (with_reducible rfl)
    try simp only [Act.put, List.setIfInBounds_toArray, List.set_cons_zero, List.set_cons_succ]
    refine SeqO.take (by rfl) (v := ?hv3) (by rfl) ?hy3 ?hr3
    case hy3 =>
     intro w hSw
     try dsimp only at hSw
     go_simp
     try (with_reducible rfl)
    try simp only [Act.put, List.setIfInBounds_toArray, List.set_cons_zero, List.set_cons_succ]
    refine SeqO.take (by rfl) (v := ?hv4) (by rfl) ?hy4 ?hr4
    case hy4 =>
     intro w hSw
     try dsimp only at hSw
     go_simp
     try (with_reducible rfl)
    try simp only [Act.put, List.setIfInBounds_toArray, List.set_cons_zero, List.set_cons_succ]
    refine SeqO.take (by rfl) (v := ?hv5) (by rfl) ?hy5 ?hr5
    case hy5 =>
     intro w hSw
     try dsimp only at hSw
     go_simp
     try (with_reducible rfl)
    try simp only [Act.put, List.setIfInBounds_toArray, List.set_cons_zero, List.set_cons_succ]
    refine SeqO.call (by rfl) (fun K hK => ?_)
    go_simp
    refine (unhide HSC _ hdw).mono ?_
    rintro e w6 ⟨rfl, b6⟩
    have d6 := hdw.trans (b6.mono hdw.size)
    refine hK.out _ _ ?_ (fun hHeld => ?_)
    · exact (unhide BY) _ d6
    clear hK K
    try simp only [Act.put, List.setIfInBounds_toArray, List.set_cons_zero, List.set_cons_succ]
    refine SeqO.take (by rfl) (v := ?hv6) (by rfl) ?hy6 ?hr6
    case hy6 =>
     intro w hSw
     try dsimp only at hSw
     go_simp
     try (with_reducible rfl)
    try simp only [Act.put, List.setIfInBounds_toArray, List.set_cons_zero, List.set_cons_succ]
    refine SeqO.take (by rfl) (v := ?hv7) (by rfl) ?hy7 ?hr7
    case hy7 =>
     intro w hSw
     try dsimp only at hSw
     go_simp
     try (with_reducible rfl)
    try simp only [Act.put, List.setIfInBounds_toArray, List.set_cons_zero, List.set_cons_succ]
    refine SeqO.take (by rfl) (v := ?hv8) (by rfl) ?hy8 ?hr8
    case hy8 =>
     intro w hSw
     try dsimp only at hSw
     go_simp
     try (with_reducible rfl)
    try simp only [Act.put, List.setIfInBounds_toArray, List.set_cons_zero, List.set_cons_succ]
    refine SeqO.take (by rfl) (v := ?hv9) (by rfl) ?hy9 ?hr9
    case hy9 =>
     intro w hSw
     try dsimp only at hSw
     go_simp
     try (with_reducible rfl)
    try simp only [Act.put, List.setIfInBounds_toArray, List.set_cons_zero, List.set_cons_succ]
    refine SeqO.take (by rfl) (v := ?hv10) (by rfl) ?hy10 ?hr10
    case hy10 =>
     intro w hSw
     try dsimp only at hSw
     go_simp
     try (with_reducible rfl)
    try simp only [Act.put, List.setIfInBounds_toArray, List.set_cons_zero, List.set_cons_succ]
    refine SeqO.take (by rfl) (v := ?hv11) (by rfl) ?hy11 ?hr11
    case hy11 =>
     intro w hSw
     try dsimp only at hSw
     go_simp
     try (with_reducible rfl)
    try simp only [Act.put, List.setIfInBounds_toArray, List.set_cons_zero, List.set_cons_succ]
    refine SeqO.take (by rfl) (v := ?hv12) (by rfl) ?hy12 ?hr12
    case hy12 =>
     intro w hSw
     try dsimp only at hSw
     go_simp
     try (with_reducible rfl)
    try simp only [Act.put, List.setIfInBounds_toArray, List.set_cons_zero, List.set_cons_succ]
    refine SeqO.take (by rfl) (v := ?hv13) (by rfl) ?hy13 ?hr13
    case hy13 =>
     intro w hSw
     try dsimp only at hSw
     go_simp
     try (with_reducible rfl)
    try simp only [Act.put, List.setIfInBounds_toArray, List.set_cons_zero, List.set_cons_succ]
    refine SeqO.take (by rfl) (v := ?hv14) (by rfl) ?hy14 ?hr14
    case hy14 =>
     intro w hSw
     try dsimp only at hSw
     go_simp
     try (with_reducible rfl)
    try simp only [Act.put, List.setIfInBounds_toArray, List.set_cons_zero, List.set_cons_succ]
    refine SeqO.take (by rfl) (v := ?hv15) (by rfl) ?hy15 ?hr15
    case hy15 =>
     intro w hSw
     try dsimp only at hSw
     go_simp
     try (with_reducible rfl)
    try simp only [Act.put, List.setIfInBounds_toArray, List.set_cons_zero, List.set_cons_succ]
    refine SeqO.take (by rfl) (v := ?hv16) (by rfl) ?hy16 ?hr16
    case hy16 =>
     intro w hSw
     try dsimp only at hSw
     go_simp
     try (with_reducible rfl)
    try simp only [Act.put, List.setIfInBounds_toArray, List.set_cons_zero, List.set_cons_succ]
    refine SeqO.take (by rfl) (v := ?hv17) (by rfl) ?hy17 ?hr17
    case hy17 =>
     intro w hSw
     try dsimp only at hSw
     go_simp
     try (with_reducible rfl)
    try simp only [Act.put, List.setIfInBounds_toArray, List.set_cons_zero, List.set_cons_succ]
    refine SeqO.take (by rfl) (v := ?hv18) (by rfl) ?hy18 ?hr18
    case hy18 =>
     intro w hSw
     try dsimp only at hSw
     go_simp
     try (with_reducible rfl)
    try simp only [Act.put, List.setIfInBounds_toArray, List.set_cons_zero, List.set_cons_succ]
    refine SeqO.take (by rfl) (v := ?hv19) (by rfl) ?hy19 ?hr19
    case hy19 =>
     intro w hSw
     try dsimp only at hSw
     go_simp
     try (with_reducible rfl)
    try simp only [Act.put, List.setIfInBounds_toArray, List.set_cons_zero, List.set_cons_succ]
    refine SeqO.take (by rfl) (v := ?hv20) (by rfl) ?hy20 ?hr20
    case hy20 =>
     intro w hSw
     try dsimp only at hSw
     go_simp
     try (with_reducible rfl)
    try simp only [Act.put, List.setIfInBounds_toArray, List.set_cons_zero, List.set_cons_succ]
    refine SeqO.take (by rfl) (v := ?hv21) (by rfl) ?hy21 ?hr21
    case hy21 =>
     intro w hSw
     try dsimp only at hSw
     go_simp
     try (with_reducible rfl)
    try simp only [Act.put, List.setIfInBounds_toArray, List.set_cons_zero, List.set_cons_succ]
    refine SeqO.take (by rfl) (v := ?hv22) (by rfl) ?hy22 ?hr22
    case hy22 =>
     intro w hSw
     try dsimp only at hSw
     go_simp
     try (with_reducible rfl)
    try simp only [Act.put, List.setIfInBounds_toArray, List.set_cons_zero, List.set_cons_succ]
    refine SeqO.done (NoPanic.normal ?_)
    go_upto_region 11 with fail
    have hd6 : Below W5.heap.size W5 w6.drew := d6.trans ((Below.drewn 1).mono d6.size)
    refine wp_region_noPanic ?_
    refine wp_region_ord (S := (fun V => Below W5.heap.size W5 V ∧ V.cell? ⟨w1.heap.size, 0, none⟩ = some (.int .i64 F.p) ∧ V.cell? ⟨w1.heap.size, 1, none⟩ = some (.int .i64 F.k) ∧ V.cell? ⟨w1.heap.size, 2, none⟩ = some (.slice a1 F.poly.length c1) ∧ V.cell? ⟨w1.heap.size, 3, none⟩ = some (.slice (some ⟨gb, ob, none⟩) m.length rc) ∧ V.cell? ⟨gb, ob, none⟩ = some (.slice ai n ci) ∧ V.cell? ⟨w2.heap.size, 0, none⟩ = some (.int .i64 F.p) ∧ V.cell? ⟨w2.heap.size, 1, none⟩ = some (.int .i64 F.k) ∧ V.cell? ⟨w2.heap.size, 2, none⟩ = some (.slice A2 F.poly.length C2) ∧ V.cell? ⟨w2.heap.size, 3, none⟩ = some (.slice RA2 N.length RC2) ∧ V.cell? ⟨w4.heap.size, 0, none⟩ = some (.int .i64 F.p) ∧ V.cell? ⟨w4.heap.size, 1, none⟩ = some (.int .i64 F.k) ∧ V.cell? ⟨w4.heap.size, 2, none⟩ = some (.slice A4 F.poly.length C4) ∧ V.cell? ⟨w4.heap.size, 3, none⟩ = some (.slice RA4 m.length RC4))) [(true, 0), (true, 1), (true, 2), (true, 3), (true, 4), (true, 5), (true, 6), (false, 7), (false, 8), (true, 9), (true, 10), (true, 11), (true, 12), (true, 13)] (by kernel_rfl) (by kernel_rfl) (by kernel_rfl) rfl (fun _ _ _ _ _ h => h) ?_ (fun hHeld => ?_)
    · exact (unhide BY) _ hd6
    refine SeqO.take (by rfl) (v := ?hv23) (by rfl) ?hy23 ?hr23
    case hy23 =>
     intro w hSw
     try dsimp only at hSw
     go_simp
     try (with_reducible rfl)
    try simp only [Act.put, List.setIfInBounds_toArray, List.set_cons_zero, List.set_cons_succ]
    refine SeqO.take (by rfl) (v := ?hv24) (by rfl) ?hy24 ?hr24
    case hy24 =>
     intro w hSw
     try dsimp only at hSw
     go_simp
     try (with_reducible rfl)
    try simp only [Act.put, List.setIfInBounds_toArray, List.set_cons_zero, List.set_cons_succ]
    refine SeqO.take (by rfl) (v := ?hv25) (by rfl) ?hy25 ?hr25
    case hy25 =>
     intro w hSw
     try dsimp only at hSw
     go_simp
     try (with_reducible rfl)
    try simp only [Act.put, List.setIfInBounds_toArray, List.set_cons_zero, List.set_cons_succ]
    refine SeqO.take (by rfl) (v := ?hv26) (by rfl) ?hy26 ?hr26
    case hy26 =>
     intro w hSw
     try dsimp only at hSw
     go_simp
     try (with_reducible rfl)
    try simp only [Act.put, List.setIfInBounds_toArray, List.set_cons_zero, List.set_cons_succ]
    refine SeqO.take (by rfl) (v := ?hv27) (by rfl) ?hy27 ?hr27
    case hy27 =>
     intro w hSw
     try dsimp only at hSw
     go_simp
     try (with_reducible rfl)
    try simp only [Act.put, List.setIfInBounds_toArray, List.set_cons_zero, List.set_cons_succ]
    refine SeqO.take (by rfl) (v := ?hv28) (by rfl) ?hy28 ?hr28
    case hy28 =>
     intro w hSw
     try dsimp only at hSw
     go_simp
     try (with_reducible rfl)
    try simp only [Act.put, List.setIfInBounds_toArray, List.set_cons_zero, List.set_cons_succ]
    refine SeqO.take (by rfl) (v := ?hv29) (by rfl) ?hy29 ?hr29
    case hy29 =>
     intro w hSw
     try dsimp only at hSw
     go_simp
     try (with_reducible rfl)
    try simp only [Act.put, List.setIfInBounds_toArray, List.set_cons_zero, List.set_cons_succ]
    refine SeqO.call (by rfl) (fun K hK => ?_)
    go_simp
    refine (V8Vector_any a c xs F a1 c1 m.length w6.drew ((unhide XR5).below hd6) ((unhide RC).below hd6) ok (by omega)).mono ?_
    rintro e x7 ⟨v7, msg7, rfl, hml, hme, o7, b7⟩
    have d7 := hd6.trans (b7.mono hd6.size)
    obtain ⟨a7, c7, rfl, r7, _⟩ := o7.form
    rw [hml]
    have hew := implEW_any F.p F.k a1 c1 F.poly (some ⟨gb, ob, none⟩) rc m a7 c7 msg7 x7 ((unhide RC).below d7) ((unhide RSC).below d7) r7 (unhide HKI)
    rw [enc_res (unhide HC) hml hme, hml] at hew
    have hws := encTo_sp ok (unhide HC).mat hme (Nat.le_refl m.length)
    have hwl := encTo_len F n m msg7 m.length
    have hwe := encTo_el ok n m msg7 m.length
    have hwh := enc_has (unhide HC) hme
    generalize encTo F n m msg7 m.length = wx at hew hws hwl hwe hwh
    have HEW7 := hide hew
    have HWS7 := hide hws
    have HWL7 := Lib.hid hwl
    have HWE7 := hide hwe
    have HWH7 := Lib.hid hwh
    clear hew hws hwl hwe hwh hml hme r7 o7
    refine hK.out _ _ ?_ (fun hHeld => ?_)
    · exact (unhide BY) _ d7
    clear hK K
    try simp only [Act.put, List.setIfInBounds_toArray, List.set_cons_zero, List.set_cons_succ]
    refine SeqO.call (by rfl) (fun K hK => ?_)
    go_simp
    refine (unhide HEW7).mono ?_
    rintro e y7 ⟨z7, rfl, oz7, bz7⟩
    have dz7 := d7.trans (bz7.mono d7.size)
    refine hK.out _ _ ?_ (fun hHeld => ?_)
    · exact (unhide BY) _ dz7
    clear hK K
    try simp only [Act.put, List.setIfInBounds_toArray, List.set_cons_zero, List.set_cons_succ]
    refine SeqO.take (by rfl) (v := ?hv30) (by rfl) ?hy30 ?hr30
    case hy30 =>
     intro w hSw
     try dsimp only at hSw
     go_simp
     try (with_reducible rfl)
    try simp only [Act.put, List.setIfInBounds_toArray, List.set_cons_zero, List.set_cons_succ]
    refine SeqO.take (by rfl) (v := ?hv31) (by rfl) ?hy31 ?hr31
    case hy31 =>
     intro w hSw
     try dsimp only at hSw
     go_simp
     try (with_reducible rfl)
    try simp only [Act.put, List.setIfInBounds_toArray, List.set_cons_zero, List.set_cons_succ]
    refine SeqO.take (by rfl) (v := ?hv32) (by rfl) ?hy32 ?hr32
    case hy32 =>
     intro w hSw
     try dsimp only at hSw
     go_simp
     try (with_reducible rfl)
    try simp only [Act.put, List.setIfInBounds_toArray, List.set_cons_zero, List.set_cons_succ]
    refine SeqO.take (by rfl) (v := ?hv33) (by rfl) ?hy33 ?hr33
    case hy33 =>
     intro w hSw
     try dsimp only at hSw
     go_simp
     try (with_reducible rfl)
    try simp only [Act.put, List.setIfInBounds_toArray, List.set_cons_zero, List.set_cons_succ]
    refine SeqO.take (by rfl) (v := ?hv34) (by rfl) ?hy34 ?hr34
    case hy34 =>
     intro w hSw
     try dsimp only at hSw
     go_simp
     try (with_reducible rfl)
    try simp only [Act.put, List.setIfInBounds_toArray, List.set_cons_zero, List.set_cons_succ]
    refine SeqO.done (NoPanic.normal ?_)
    have oz7 : Own y7 x7.heap.size z7 wx := oz7
    obtain ⟨gx, cx, rfl, _, hgx, _, _⟩ := oz7.at_len (n := n) HWL7.out (by omega)
    have RX := hide oz7.rd
    have OX := Lib.hid oz7
    clear oz7
    go_upto_region 12 with fail
    have hd7 : Below W5.heap.size W5 y7.drew := dz7.trans ((Below.drewn 1).mono dz7.size)
    refine wp_region_noPanic ?_
    refine wp_region_ord (S := (fun V => Below W5.heap.size W5 V ∧ V.cell? ⟨w1.heap.size, 0, none⟩ = some (.int .i64 F.p) ∧ V.cell? ⟨w1.heap.size, 1, none⟩ = some (.int .i64 F.k) ∧ V.cell? ⟨w1.heap.size, 2, none⟩ = some (.slice a1 F.poly.length c1) ∧ V.cell? ⟨w1.heap.size, 3, none⟩ = some (.slice (some ⟨gb, ob, none⟩) m.length rc) ∧ V.cell? ⟨gb, ob, none⟩ = some (.slice ai n ci) ∧ V.cell? ⟨w2.heap.size, 0, none⟩ = some (.int .i64 F.p) ∧ V.cell? ⟨w2.heap.size, 1, none⟩ = some (.int .i64 F.k) ∧ V.cell? ⟨w2.heap.size, 2, none⟩ = some (.slice A2 F.poly.length C2) ∧ V.cell? ⟨w2.heap.size, 3, none⟩ = some (.slice RA2 N.length RC2) ∧ V.cell? ⟨w4.heap.size, 0, none⟩ = some (.int .i64 F.p) ∧ V.cell? ⟨w4.heap.size, 1, none⟩ = some (.int .i64 F.k) ∧ V.cell? ⟨w4.heap.size, 2, none⟩ = some (.slice A4 F.poly.length C4) ∧ V.cell? ⟨w4.heap.size, 3, none⟩ = some (.slice RA4 m.length RC4))) [(true, 0), (true, 1), (true, 2), (true, 3), (true, 4), (true, 5), (true, 6), (false, 7), (false, 8), (true, 9), (true, 10), (true, 11), (true, 12), (true, 13)] (by kernel_rfl) (by kernel_rfl) (by kernel_rfl) rfl (fun _ _ _ _ _ h => h) ?_ (fun hHeld => ?_)
    · exact (unhide BY) _ hd7
    refine SeqO.take (by rfl) (v := ?hv35) (by rfl) ?hy35 ?hr35
    case hy35 =>
     intro w hSw
     try dsimp only at hSw
     go_simp
     try (with_reducible rfl)
    try simp only [Act.put, List.setIfInBounds_toArray, List.set_cons_zero, List.set_cons_succ]
    refine SeqO.take (by rfl) (v := ?hv36) (by rfl) ?hy36 ?hr36
    case hy36 =>
     intro w hSw
     try dsimp only at hSw
     go_simp
     try (with_reducible rfl)
    try simp only [Act.put, List.setIfInBounds_toArray, List.set_cons_zero, List.set_cons_succ]
    refine SeqO.take (by rfl) (v := ?hv37) (by rfl) ?hy37 ?hr37
    case hy37 =>
     intro w hSw
     try dsimp only at hSw
     go_simp
     try (with_reducible rfl)
    try simp only [Act.put, List.setIfInBounds_toArray, List.set_cons_zero, List.set_cons_succ]
    refine SeqO.take (by rfl) (v := ?hv38) (by rfl) ?hy38 ?hr38
    case hy38 =>
     intro w hSw
     try dsimp only at hSw
     go_simp
     try (with_reducible rfl)
    try simp only [Act.put, List.setIfInBounds_toArray, List.set_cons_zero, List.set_cons_succ]
    refine SeqO.take (by rfl) (v := ?hv39) (by rfl) ?hy39 ?hr39
    case hy39 =>
     intro w hSw
     try dsimp only at hSw
     go_simp
     try (with_reducible rfl)
    try simp only [Act.put, List.setIfInBounds_toArray, List.set_cons_zero, List.set_cons_succ]
    refine SeqO.take (by rfl) (v := ?hv40) (by rfl) ?hy40 ?hr40
    case hy40 =>
     intro w hSw
     try dsimp only at hSw
     go_simp
     try (with_reducible rfl)
    try simp only [Act.put, List.setIfInBounds_toArray, List.set_cons_zero, List.set_cons_succ]
    refine SeqO.take (by rfl) (v := ?hv41) (by rfl) ?hy41 ?hr41
    case hy41 =>
     intro w hSw
     try dsimp only at hSw
     go_simp
     try (with_reducible rfl)
    try simp only [Act.put, List.setIfInBounds_toArray, List.set_cons_zero, List.set_cons_succ]
    refine SeqO.call (by rfl) (fun K hK => ?_)
    go_simp
    refine (V8Vector_any b d ys F a1 c1 N.length y7.drew ((unhide YR5).below hd7) ((unhide RC).below hd7) ok (by omega)).mono ?_
    rintro e x8 ⟨v8, msg8, rfl, hml, hme, o8, b8⟩
    have d8 := hd7.trans (b8.mono hd7.size)
    obtain ⟨a8, c8, rfl, r8, _⟩ := o8.form
    rw [hml]
    have hew := implEW_any F.p F.k A2 C2 F.poly RA2 RC2 N a8 c8 msg8 x8 ((unhide RD).below d8) ((unhide RSD).below d8) r8 (unhide HKI)
    rw [enc_res (unhide HNC) hml hme, hml] at hew
    have hws := encTo_sp ok (unhide HNC).mat hme (Nat.le_refl N.length)
    have hwl := encTo_len F n N msg8 N.length
    have hwe := encTo_el ok n N msg8 N.length
    have hwh := enc_has (unhide HNC) hme
    generalize encTo F n N msg8 N.length = wy at hew hws hwl hwe hwh
    have HEW8 := hide hew
    have HWS8 := hide hws
    have HWL8 := Lib.hid hwl
    have HWE8 := hide hwe
    have HWH8 := Lib.hid hwh
    clear hew hws hwl hwe hwh hml hme r8 o8
    refine hK.out _ _ ?_ (fun hHeld => ?_)
    · exact (unhide BY) _ d8
    clear hK K
    try simp only [Act.put, List.setIfInBounds_toArray, List.set_cons_zero, List.set_cons_succ]
    refine SeqO.call (by rfl) (fun K hK => ?_)
    go_simp
    refine (unhide HEW8).mono ?_
    rintro e y8 ⟨z8, rfl, oz8, bz8⟩
    have dz8 := d8.trans (bz8.mono d8.size)
    refine hK.out _ _ ?_ (fun hHeld => ?_)
    · exact (unhide BY) _ dz8
    clear hK K
    try simp only [Act.put, List.setIfInBounds_toArray, List.set_cons_zero, List.set_cons_succ]
    refine SeqO.take (by rfl) (v := ?hv42) (by rfl) ?hy42 ?hr42
    case hy42 =>
     intro w hSw
     try dsimp only at hSw
     go_simp
     try (with_reducible rfl)
    try simp only [Act.put, List.setIfInBounds_toArray, List.set_cons_zero, List.set_cons_succ]
    refine SeqO.take (by rfl) (v := ?hv43) (by rfl) ?hy43 ?hr43
    case hy43 =>
     intro w hSw
     try dsimp only at hSw
     go_simp
     try (with_reducible rfl)
    try simp only [Act.put, List.setIfInBounds_toArray, List.set_cons_zero, List.set_cons_succ]
    refine SeqO.take (by rfl) (v := ?hv44) (by rfl) ?hy44 ?hr44
    case hy44 =>
     intro w hSw
     try dsimp only at hSw
     go_simp
     try (with_reducible rfl)
    try simp only [Act.put, List.setIfInBounds_toArray, List.set_cons_zero, List.set_cons_succ]
    refine SeqO.take (by rfl) (v := ?hv45) (by rfl) ?hy45 ?hr45
    case hy45 =>
     intro w hSw
     try dsimp only at hSw
     go_simp
     try (with_reducible rfl)
    try simp only [Act.put, List.setIfInBounds_toArray, List.set_cons_zero, List.set_cons_succ]
    refine SeqO.take (by rfl) (v := ?hv46) (by rfl) ?hy46 ?hr46
    case hy46 =>
     intro w hSw
     try dsimp only at hSw
     go_simp
     try (with_reducible rfl)
    try simp only [Act.put, List.setIfInBounds_toArray, List.set_cons_zero, List.set_cons_succ]
    refine SeqO.done (NoPanic.normal ?_)
    have oz8 : Own y8 x8.heap.size z8 wy := oz8
    obtain ⟨gy, cy, rfl, _, hgy, _, _⟩ := oz8.at_len (n := n) HWL8.out (by omega)
    have d78 : Below y7.heap.size y7 y8 := ((Below.drewn 1).trans (b8.mono (Nat.le_refl _))).trans (bz8.mono b8.size)
    have RY := hide oz8.rd
    have RX8 := hide ((unhide RX).below d78)
    obtain ⟨_, e0, e1, e2, e3, e4, f0, f1, f2, f3, _⟩ := (unhide BY) _ dz8
    have hch := implCH_any F.p F.k a1 c1 F.poly (some ⟨gb, ob, none⟩) rc m (some ⟨gx, 0, none⟩) cx wx y8 ((unhide RC).below dz8) ((unhide RSC).below dz8) (unhide RX8) (unhide HKI)
    rw [HWH7.out, HWL7.out] at hch
    have HCH := hide hch
    have hnn : ((n : Int) != (n : Int)) = false := by simp
    clear oz8 hch
    go_wp2_with fail
    refine (unhide HCH).mono ?_
    rintro e w9 ⟨rfl, b9⟩
    have d9 := dz8.trans (b9.mono dz8.size)
    have z9 := d9.size
    have RX9 := hide ((unhide RX8).below b9)
    have RY9 := hide ((unhide RY).below b9)
    have hsum := fun i => F.sum (fun j => F.mul (nth wx j) (nth wy j)) i
    clear f0 f1 f2 f3 e0 e1 e2 e3 e4 hsum
    go_wp2_with fail
    go_loopw [16, 17] (fun sv iv wr => ∃ (i : Nat) (s : Int), iv = .int .i64 i ∧ sv = .int .i64 s ∧ i ≤ n ∧ 0 ≤ s ∧ s < F.n ∧ Hid (s = F.sum (fun j => F.mul (nth wx j) (nth wy j)) i) ∧ Below w9.heap.size w9 wr) (fun _ iv _ => n - (intOf iv).toNat)
    case atStart => exact ⟨0, 0, rfl, rfl, Nat.zero_le _, by omega, by omega, rfl, Below.refl _ _⟩
    case round =>
     obtain ⟨i, s, rfl, rfl, hi, hs0, hs1, hs, hb⟩ := hrel
     by_cases hil : i < n
     · obtain ⟨g1, o1, e1, hg1, hcx⟩ := ((unhide RX9).below hb).at_ (by rw [HWL7.out]; omega)
       injection e1 with e1
       injection e1 with e1 e2
       subst e1
       subst e2
       obtain ⟨g2, o2, e3, hg2, hcy⟩ := ((unhide RY9).below hb).at_ (by rw [HWL8.out]; omega)
       injection e3 with e3
       injection e3 with e3 e4
       subst e3
       subst e4
       have c1x := hcx i (by rw [HWL7.out]; exact hil)
       have c1y := hcy i (by rw [HWL8.out]; exact hil)
       rw [Nat.zero_add] at c1x c1y
       have hxr := unhide HWE7 _ (nth_mem (k := i) (by rw [HWL7.out]; exact hil))
       have hyr := unhide HWE8 _ (nth_mem (k := i) (by rw [HWL8.out]; exact hil))
       have hst : F.sum (fun j => F.mul (nth wx j) (nth wy j)) (i + 1) = F.add s (F.mul (nth wx i) (nth wy i)) := by rw [FD.sum, ← hs.out]
       obtain ⟨x, hx⟩ : ∃ x, x = nth wx i := ⟨_, rfl⟩
       obtain ⟨y, hy⟩ : ∃ y, y = nth wy i := ⟨_, rfl⟩
       rw [← hx] at c1x hxr hst
       rw [← hy] at c1y hyr hst
       have hd9 := d9.trans (hb.mono z9)
       have hwd : Below wr.heap.size wr wr.drew := Below.drewn 1
       have hmul := fun V (h : Below wr.heap.size wr V) => fieldMul_any F a1 c1 x y V ((unhide RC).below (hd9.trans (h.mono hd9.size))) hG hxr hyr
       have hMb := mul_bd ok x y
       obtain ⟨M, hM⟩ : ∃ M, M = F.mul x y := ⟨_, rfl⟩
       rw [← hM] at hmul hst hMb
       have hadd := fun V (h : Below wr.heap.size wr V) => fieldAdd_any F a1 c1 s M V ((unhide RC).below (hd9.trans (h.mono hd9.size))) hG ⟨hs0, hs1⟩ hMb
       have hAb := add_bd ok s M
       obtain ⟨A, hA⟩ : ∃ A, A = F.add s M := ⟨_, rfl⟩
       rw [← hA] at hadd hst hAb
       have hbox2 : ∀ V, Below wr.heap.size wr V → (Below wr.heap.size wr V ∧ V.cell? ⟨w1.heap.size, 0, none⟩ = some (.int .i64 F.p) ∧ V.cell? ⟨w1.heap.size, 1, none⟩ = some (.int .i64 F.k) ∧ V.cell? ⟨w1.heap.size, 2, none⟩ = some (.slice a1 F.poly.length c1) ∧ V.cell? ⟨gx, i, none⟩ = some (.int .i64 x) ∧ V.cell? ⟨gy, i, none⟩ = some (.int .i64 y)) := fun V h => ⟨h, ((unhide BY) _ (hd9.trans (h.mono hd9.size))).2.1, ((unhide BY) _ (hd9.trans (h.mono hd9.size))).2.2.1, ((unhide BY) _ (hd9.trans (h.mono hd9.size))).2.2.2.1, (h.cell (p := ⟨gx, i, none⟩) hg1).trans c1x, (h.cell (p := ⟨gy, i, none⟩) hg2).trans c1y⟩
       have BZ := hide hbox2
       have HMUL := hide hmul
       have HADD := hide hadd
       have HST := Lib.hid hst
       clear hx hy hM hA hmul hadd hst hbox2 hcx hcy c1x c1y hxr hyr hMb
       go_upto_region 19 with fail
       refine wp_region_noPanic ?_
       refine wp_region_ord (S := (fun V => Below wr.heap.size wr V ∧ V.cell? ⟨w1.heap.size, 0, none⟩ = some (.int .i64 F.p) ∧ V.cell? ⟨w1.heap.size, 1, none⟩ = some (.int .i64 F.k) ∧ V.cell? ⟨w1.heap.size, 2, none⟩ = some (.slice a1 F.poly.length c1) ∧ V.cell? ⟨gx, i, none⟩ = some (.int .i64 x) ∧ V.cell? ⟨gy, i, none⟩ = some (.int .i64 y))) [(true, 0), (true, 1), (true, 2), (true, 3), (true, 4), (true, 5), (true, 6), (true, 7), (true, 8), (true, 9), (true, 10), (true, 11), (true, 12), (false, 13), (false, 14), (true, 15)] (by kernel_rfl) (by kernel_rfl) (by kernel_rfl) rfl (fun _ _ _ _ _ h => h) ?_ (fun hHeld => ?_)
       · exact (unhide BZ) _ hwd
       refine SeqO.take (by rfl) (v := ?hv47) (by rfl) ?hy47 ?hr47
       case hy47 =>
        intro w hSw
        try dsimp only at hSw
        go_simp
        try (with_reducible rfl)
       try simp only [Act.put, List.setIfInBounds_toArray, List.set_cons_zero, List.set_cons_succ]
       refine SeqO.take (by rfl) (v := ?hv48) (by rfl) ?hy48 ?hr48
       case hy48 =>
        intro w hSw
        try dsimp only at hSw
        go_simp
        try (with_reducible rfl)
       try simp only [Act.put, List.setIfInBounds_toArray, List.set_cons_zero, List.set_cons_succ]
       refine SeqO.take (by rfl) (v := ?hv49) (by rfl) ?hy49 ?hr49
       case hy49 =>
        intro w hSw
        try dsimp only at hSw
        go_simp
        try (with_reducible rfl)
       try simp only [Act.put, List.setIfInBounds_toArray, List.set_cons_zero, List.set_cons_succ]
       refine SeqO.take (by rfl) (v := ?hv50) (by rfl) ?hy50 ?hr50
       case hy50 =>
        intro w hSw
        try dsimp only at hSw
        go_simp
        try (with_reducible rfl)
       try simp only [Act.put, List.setIfInBounds_toArray, List.set_cons_zero, List.set_cons_succ]
       refine SeqO.take (by rfl) (v := ?hv51) (by rfl) ?hy51 ?hr51
       case hy51 =>
        intro w hSw
        try dsimp only at hSw
        go_simp
        try (with_reducible rfl)
       try simp only [Act.put, List.setIfInBounds_toArray, List.set_cons_zero, List.set_cons_succ]
       refine SeqO.take (by rfl) (v := ?hv52) (by rfl) ?hy52 ?hr52
       case hy52 =>
        intro w hSw
        try dsimp only at hSw
        go_simp
        try (with_reducible rfl)
       try simp only [Act.put, List.setIfInBounds_toArray, List.set_cons_zero, List.set_cons_succ]
       refine SeqO.take (by rfl) (v := ?hv53) (by rfl) ?hy53 ?hr53
       case hy53 =>
        intro w hSw
        try dsimp only at hSw
        go_simp
        try (with_reducible rfl)
       try simp only [Act.put, List.setIfInBounds_toArray, List.set_cons_zero, List.set_cons_succ]
       refine SeqO.take (by rfl) (v := ?hv54) (by rfl) ?hy54 ?hr54
       case hy54 =>
        intro w hSw
        try dsimp only at hSw
        go_simp
        try (with_reducible rfl)
       try simp only [Act.put, List.setIfInBounds_toArray, List.set_cons_zero, List.set_cons_succ]
       refine SeqO.take (by rfl) (v := ?hv55) (by rfl) ?hy55 ?hr55
       case hy55 =>
        intro w hSw
        try dsimp only at hSw
        go_simp
        try (with_reducible rfl)
       try simp only [Act.put, List.setIfInBounds_toArray, List.set_cons_zero, List.set_cons_succ]
       refine SeqO.take (by rfl) (v := ?hv56) (by rfl) ?hy56 ?hr56
       case hy56 =>
        intro w hSw
        try dsimp only at hSw
        go_simp
        try (with_reducible rfl)
       try simp only [Act.put, List.setIfInBounds_toArray, List.set_cons_zero, List.set_cons_succ]
       refine SeqO.take (by rfl) (v := ?hv57) (by rfl) ?hy57 ?hr57
       case hy57 =>
        intro w hSw
        try dsimp only at hSw
        go_simp
        try (with_reducible rfl)
       try simp only [Act.put, List.setIfInBounds_toArray, List.set_cons_zero, List.set_cons_succ]
       refine SeqO.take (by rfl) (v := ?hv58) (by rfl) ?hy58 ?hr58
       case hy58 =>
        intro w hSw
        try dsimp only at hSw
        go_simp
        try (with_reducible rfl)
       try simp only [Act.put, List.setIfInBounds_toArray, List.set_cons_zero, List.set_cons_succ]
       refine SeqO.take (by rfl) (v := ?hv59) (by rfl) ?hy59 ?hr59
       case hy59 =>
        intro w hSw
        try dsimp only at hSw
        go_simp
        try (with_reducible rfl)
       try simp only [Act.put, List.setIfInBounds_toArray, List.set_cons_zero, List.set_cons_succ]
       refine SeqO.call (by rfl) (fun K hK => ?_)
       go_simp
       refine (unhide HMUL _ hwd).mono ?_
       rintro e w10 ⟨rfl, b10⟩
       have d10 := hwd.trans (b10.mono hwd.size)
       refine hK.out _ _ ?_ (fun hHeld => ?_)
       · exact (unhide BZ) _ d10
       clear hK K
       try simp only [Act.put, List.setIfInBounds_toArray, List.set_cons_zero, List.set_cons_succ]
       refine SeqO.call (by rfl) (fun K hK => ?_)
       go_simp
       refine (unhide HADD _ d10).mono ?_
       rintro e w11 ⟨rfl, b11⟩
       have d11 := d10.trans (b11.mono d10.size)
       refine hK.out _ _ ?_ (fun hHeld => ?_)
       · exact (unhide BZ) _ d11
       clear hK K
       try simp only [Act.put, List.setIfInBounds_toArray, List.set_cons_zero, List.set_cons_succ]
       refine SeqO.take (by rfl) (v := ?hv60) (by rfl) ?hy60 ?hr60
       case hy60 =>
        intro w hSw
        try dsimp only at hSw
        go_simp
        try (with_reducible rfl)
       try simp only [Act.put, List.setIfInBounds_toArray, List.set_cons_zero, List.set_cons_succ]
       refine SeqO.done (NoPanic.normal ?_)
       go_wp2_with fail
       go_roundw
       case rel => exact ⟨i + 1, A, by go_num, rfl, by omega, hAb.1, hAb.2, by show _ = _; rw [HST.out], hb.trans (d11.mono hb.size)⟩
       case measure => simp only [intOf]; omega
     · have hie : i = n := by omega
       have hz : s = 0 := by
        rw [hs.out, hie]
        exact unhide HOR _ _ (unhide HWS7) (unhide HWS8)
       subst hz
       have hbz := Below.chain hb5 (d9.trans (hb.mono z9))
       clear hie
       go_wp2
       go_ret
       exact ⟨rfl, hbz⟩
  · have hsr := fun V (h : Below W.heap.size W V) => specDC_any F.p F.k a1 c1 F.poly (some ⟨gb, ob, none⟩) rc m V ((unhide R).below h) ((unhide RS).below h)
    have hry : (dualRes F.p F.k F.poly m).2.2.2.1 = [] := by
     rw [dual_res (unhide HC)] at hc ⊢
     exact mkC_err hc
    obtain ⟨xp, xd, xl, xA, xc, hXR⟩ : ∃ p d l A c, dualRes F.p F.k F.poly m = (p, d, l, A, c) := ⟨_, _, _, _, _, rfl⟩
    rw [hXR] at hdr hsr hry hc
    have hxc : xc ≠ 0 := hc
    have HDR := hide hdr
    have HSR := hide hsr
    clear hdr hsr hc hXR hry
    go_wp2_with fail
    refine (unhide HDR).mono ?_
    rintro e w2 ⟨v2, u2, rfl, o2, b2⟩
    have o2 : OwnC w2 W.heap.size v2 u2 xl xA := o2
    obtain ⟨A2, C2, RA2, RC2, rfl, rfl, r2, rs2⟩ := o2.form
    clear o2 e0 e1 e2 e3 e4
    obtain ⟨W3, hW3⟩ : ∃ z, z = w2.alloc (.cells #[.int .i64 xp, .int .i64 xd, .slice A2 xl.length C2, .slice RA2 xA.length RC2] 37) := ⟨_, rfl⟩
    have b3 : Below w2.heap.size w2 W3 := by rw [hW3]; exact (Below.refl _ _).alloc (Nat.le_refl _) _
    have kD : Blk W3 w2.heap.size 37 #[.int .i64 xp, .int .i64 xd, .slice A2 xl.length C2, .slice RA2 xA.length RC2] := by rw [hW3]; exact Blk.new _ _ _ rfl
    have hW3x := Lib.hid hW3
    clear hW3
    go_upto_region 5 with fail
    rw [← hW3x.out]
    have d3 := Below.chain b2 b3
    obtain ⟨_, e0, e1, e2, e3, e4⟩ := (unhide BX) _ d3
    go_wp2_with fail
    refine (unhide HSR _ d3).mono ?_
    rintro e w4 ⟨v4, u4, rfl, o4, q4, b4⟩
    have o4 : Own w4 W3.heap.size v4 xl := o4
    have q4 : OwnS w4 W3.heap.size u4 xA := q4
    obtain ⟨A4, C4, rfl, _⟩ := o4.form
    obtain ⟨RA4, RC4, rfl, _⟩ := q4.form
    have hb4 := Below.chain hb0 (Below.chain d3 b4)
    have hcc : (xc == xc) = true := by simp
    clear o4 q4 e0 e1 e2 e3 e4
    go_wp2
    go_ret
    exact ⟨rfl, hb4.trans ((Below.refl _ _).alloc hb4.size _)⟩
theorem law_FnDualCode (X Y : SB) (w : World) (hX : X.ok w) (hY : Y.ok w) :
    Calls Try.prog 7 #[X.val, Y.val] w fun e w' => e = .returned (.bool true) ∧ Below w.heap.size w w' :=
 walkFnDualCode X.a Y.a X.c Y.c X.xs Y.xs w hX.1 hY.1 hX.2 hY.2
namespace fnDualCode
open Go.ChangeShapes Go.WideShapes Go.ChangeAt
theorem lifted (os : Os) (started : os.Started) (H : Type) (enc : TypeId × Value → H) :
    ReturnsInHanded {} Try.checked os 7 .any (Rows.fnDualCodeSpec.pre6 enc Try.prog Try.f7 Rows.fnDualCodeRow.domain false) (Rows.fnDualCodeSpec.post enc Try.prog Try.f7 false true false false) := by
 refine returnsInHanded_of_change (C := Try.checked) ownKnob_none started (by kernel_rfl) Try.func7
  (ChangeSpec.witness6 (enc := enc) (C := Try.checked) false ⟨#[], #[.slice none 0 0, .slice none 0 0], []⟩ 8 (by kernel_rfl) (by kernel_rfl) (by kernel_rfl) (by kernel_rfl)) ?_
 intro W base args ds gs before hval0 hW _ _
 have hval : ∀ (j : Nat) t v, Try.f7.params[j]? = some t → args[j]? = some v → Value.okWide Try.prog W .any base t v := hval0
 have hW' := hW
 obtain ⟨p, q, hA0, hV, rfl, hfz, hnd⟩ := hW
 have hA : DataW.TrodAll enc Try.prog W 0 (fun _ => true) true Try.f7.params.toList args.toList ds p := hA0
 rw [Try.params7] at hA hval
 obtain ⟨v0, vs0, d0, ds0, p0, q0, hargs, rfl, rfl, h0, r0⟩ := trodAll_cons hA
 obtain ⟨v1, vs1, d1, ds1, p1, q1, rfl, rfl, rfl, h1, r1⟩ := trodAll_cons r0
 obtain ⟨rfl, rfl, rfl⟩ := trodAll_nil r1
 obtain rfl : args = #[v0, v1] := by cases args; simp_all
 obtain ⟨rfl, rfl⟩ := trodVars_none hV
 have k0 := h0
 have lt0 : ∀ x ∈ p0, x.block < W.heap.size := by obtain ⟨m, hm⟩ := k0; exact DataW.trod_lt m _ _ _ hm
 obtain ⟨X0, rfl, e0⟩ := open_sb (hval 0 29 v0 rfl rfl) h0
 have k1 := h1
 have lt1 : ∀ x ∈ p1, x.block < W.heap.size := by obtain ⟨m, hm⟩ := k1; exact DataW.trod_lt m _ _ _ hm
 obtain ⟨X1, rfl, e1⟩ := open_sb (hval 1 29 v1 rfl rfl) h1
 clear hA0 hval0
 refine (law_FnDualCode X0  X1  W e0 e1).mono fun e W' ⟨he, bel⟩ => ?_
 subst he
 exact ⟨_, rfl, _, _, _, [], _, [], hW', trodAll_mk1 (shut_bool Try.underlying4 _), (trodAll_cons_mk (Below.trod laidOut_ok (by kernel_rfl) (of_decide_eq_true (by kernel_rfl)) k0 bel lt0) (trodAll_cons_mk (Below.trod laidOut_ok (by kernel_rfl) (of_decide_eq_true (by kernel_rfl)) k1 bel lt1) trodAll_mk0)), rfl, bel.frame _, fun h => by cases h⟩
theorem over : Rows.fnDualCodeRow.holds Try.pinned (OpenSpec.ofChange Rows.fnDualCodeSpec) :=
 OpenClaim.holds_of_wide 7 Try.f7 rfl rfl rfl rfl rfl rfl rfl ⟨rfl, rfl, rfl, rfl, rfl⟩ rfl rfl rfl rfl rfl (by kernel_rfl) Try.func7 (by kernel_rfl)
  (of_decide_eq_true (by kernel_rfl)) (by unfold Func.isWrapper; first | (rw [if_pos (by decide +kernel)]; kernel_rfl) | (rw [if_neg (by decide +kernel)]; exact ⟨rfl, rfl⟩))
  (fun os started H enc _ => lifted os started H enc)
theorem proved : Rows.FnDualCodeSaid := over
end fnDualCode
end Go.Proofs.Ytgmgpcaahanmiaa
