/-
  Proved: FnPlaces returns true for every input and leaves its arguments as they were. No condition. Printed by gen_lpl.py.
-/
import Derived.Test.YtgmgpcaahanmiaaY15
import Derived.Test.YtgmgpcaahanmiaaY20
import Derived.Test.YtgmgpcaahanmiaaY22
import Derived.Test.YtgmgpcaahanmiaaY23
import Derived.Test.YtgmgpcaahanmiaaY26
import Derived.Test.YtgmgpcaahanmiaaY29
import Derived.Test.YtgmgpcaahanmiaaY30
set_option linter.unusedVariables false
set_option linter.unusedSimpArgs false
set_option maxRecDepth 100000
set_option maxHeartbeats 40000000
namespace Go.Proofs.Ytgmgpcaahanmiaa
open Go.RowKit
attribute [local go_sem ↓] Go.wp_at_zero Go.wp_at_succ
theorem walkFnPlaces (a b : Option Addr) (c d : Nat) (xs ys : List Int) (w0 : World) (hxl : xs.length ≤ maxLen) (hyl : ys.length ≤ maxLen) (hx : xs.length ≤ 1048576 → RdB w0 a xs) (hy : ys.length ≤ 1048576 → RdB w0 b ys) :
    Calls Try.prog 9 #[.slice a xs.length c, .slice b ys.length d] w0 fun e w' => e = .returned (.bool true) ∧ Below w0.heap.size w0 w' := by
 have HL := hide (v8Long_any a b c d xs.length ys.length w0 hxl hyl)
 clear hxl hyl
 cases hl : (decide (1048576 < xs.length) || decide (1048576 < ys.length)) with
 | true =>
  rw [hl] at HL
  clear hl hx hy
  go_enter Try.func9, Try.ntmps9
  go_wp2_with fail
  refine (unhide HL).mono ?_
  rintro e w1 ⟨rfl, rfl⟩
  go_wp2
  go_ret
  exact ⟨rfl, Below.refl _ _⟩
 | false =>
  rw [hl] at HL
  rw [Bool.or_eq_false_iff, decide_eq_false_iff_not, decide_eq_false_iff_not] at hl
  have HX := hide (hx (by omega))
  have HY := hide (hy (by omega))
  clear hx hy hl
  go_enter Try.func9, Try.ntmps9
  go_wp2_with fail
  refine (unhide HL).mono ?_
  rintro e w1 ⟨rfl, rfl⟩
  clear HL
  go_wp2_with fail
  refine (V8Code_any a c xs w0 (unhide HX)).mono ?_
  rintro e w1 ⟨⟨F, n, m, v1, u1, rfl, hC, o1, q1⟩, b1⟩
  have hG := hC.good
  have ok := hG.ok
  obtain ⟨n2, n64⟩ := ok.n_bd
  have hp2 := ok.p2
  have hp64 := ok.p64
  have hk6 := ok.k6
  have hm1 := hC.m1
  have hm8 := hC.m8
  have hn1 := hC.n1
  have hn32 := hC.n32
  obtain ⟨a1, c1, rfl, r1, _⟩ := o1.form
  obtain ⟨ra, rc, rfl, rs1⟩ := q1.form
  have hcap1 := q1.toH.caps
  have HC := hide hC
  obtain ⟨W, hW⟩ : ∃ z, z = w1.alloc (.cells #[.int .i64 F.p, .int .i64 F.k, .slice a1 F.poly.length c1, .slice ra m.length rc] 37) := ⟨_, rfl⟩
  have bW : Below w1.heap.size w1 W := by rw [hW]; exact (Below.refl _ _).alloc (Nat.le_refl _) _
  have kC : Blk W w1.heap.size 37 #[.int .i64 F.p, .int .i64 F.k, .slice a1 F.poly.length c1, .slice ra m.length rc] := by rw [hW]; exact Blk.new _ _ _ rfl
  have hWx := Lib.hid hW
  clear hW
  go_upto_region 4 with fail
  rw [← hWx.out]
  have r := r1.below bW
  have rs := rs1.below bW
  have hcap := hcap1.below rs1 bW
  have hgC := kC.lt
  have hb0 := Below.chain b1 bW
  have z0 := hb0.size
  have zC := bW.size
  obtain ⟨gb, ob, rfl, hgb, hcb⟩ := rs.at_ (by omega : 0 < m.length)
  obtain ⟨ai, ci, hc0, _⟩ := hcb 0 (by omega)
  rw [hC.hn, Nat.add_zero] at hc0
  have boxes : ∀ W', Below W.heap.size W W' → (Below W.heap.size W W' ∧ W'.cell? ⟨w1.heap.size, 0, none⟩ = some (.int .i64 F.p) ∧ W'.cell? ⟨w1.heap.size, 1, none⟩ = some (.int .i64 F.k) ∧ W'.cell? ⟨w1.heap.size, 2, none⟩ = some (.slice a1 F.poly.length c1) ∧ W'.cell? ⟨w1.heap.size, 3, none⟩ = some (.slice (some ⟨gb, ob, none⟩) m.length rc) ∧ W'.cell? ⟨gb, ob, none⟩ = some (.slice ai n ci)) := fun W' h => ⟨h, (kC.below h hgC).cell 0, (kC.below h hgC).cell 1, (kC.below h hgC).cell 2, (kC.below h hgC).cell 3, (h.cell (p := ⟨gb, ob, none⟩) hgb).trans hc0⟩
  have BX := hide boxes
  have R := hide r
  have RS := hide rs
  have CAP := hide hcap
  have YR := hide ((unhide HY).below hb0)
  have hkI : I64 (F.k : Int) := ⟨by omega, by omega⟩
  have HKI := hide hkI
  clear boxes r rs hcap r1 rs1 hcap1 o1 q1 kC hcb hc0 bW b1 hkI HX HY hC
  have b00 := Below.refl W.heap.size W
  obtain ⟨_, e0, e1, e2, e3, e4⟩ := (unhide BX) _ b00
  go_wp2_with fail
  refine (v8At_any b d ys 0 n W (unhide YR) (by omega)).mono ?_
  rintro e W' ⟨j, rfl, hj, rfl⟩
  have hjn : j < n := by rcases hj with h | h <;> omega
  clear hj e0 e1 e2 e3 e4
  go_upto_region 6 with fail
  have hdw : Below W.heap.size W W.drew := Below.drewn 1
  refine wp_region_noPanic ?_
  refine wp_region_ord (S := (fun V' => Below W.heap.size W V' ∧ V'.cell? ⟨w1.heap.size, 0, none⟩ = some (.int .i64 F.p) ∧ V'.cell? ⟨w1.heap.size, 1, none⟩ = some (.int .i64 F.k) ∧ V'.cell? ⟨w1.heap.size, 2, none⟩ = some (.slice a1 F.poly.length c1) ∧ V'.cell? ⟨w1.heap.size, 3, none⟩ = some (.slice (some ⟨gb, ob, none⟩) m.length rc) ∧ V'.cell? ⟨gb, ob, none⟩ = some (.slice ai n ci))) [(true, 0), (true, 1), (true, 2), (true, 3), (true, 4), (true, 5), (true, 6), (false, 7), (false, 8), (true, 9), (true, 10), (true, 11), (true, 12), (true, 13)] (by kernel_rfl) (by kernel_rfl) (by kernel_rfl) rfl (fun _ _ _ _ _ h => h) ?_ (fun hHeld => ?_)
  · exact (unhide BX) _ hdw
  refine SeqO.take (by rfl) (v := ?hv1) (by rfl) ?hy1 ?hr1
  case hy1 =>
   intro w hSw
   try dsimp only at hSw
   go_simp
   try (with_reducible rfl)
  try simp only [Act.put, List.setIfInBounds_toArray, List.set_cons_zero, List.set_cons_succ]
  refine SeqO.take (by rfl) (v := ?hv2) (by rfl) ?hy2 ?hr2
  case hy2 =>
   intro w hSw
   try dsimp only at hSw
   go_simp
   try (with_reducible rfl)
  try simp only [Act.put, List.setIfInBounds_toArray, List.set_cons_zero, List.set_cons_succ]
  refine SeqO.take (by rfl) (v := ?hv3) (by rfl) ?hy3 ?hr3
  case hy3 =>
   intro w hSw
   try dsimp only at hSw
   go_simp
   try (with_reducible rfl)
  try simp only [Act.put, List.setIfInBounds_toArray, List.set_cons_zero, List.set_cons_succ]
  refine SeqO.take (by rfl) (v := ?hv4) (by rfl) ?hy4 ?hr4
  case hy4 =>
   intro w hSw
   try dsimp only at hSw
   go_simp
   try (with_reducible rfl)
  try simp only [Act.put, List.setIfInBounds_toArray, List.set_cons_zero, List.set_cons_succ]
  refine SeqO.take (by rfl) (v := ?hv5) (by rfl) ?hy5 ?hr5
  case hy5 =>
   intro w hSw
   try dsimp only at hSw
   go_simp
   try (with_reducible rfl)
  try simp only [Act.put, List.setIfInBounds_toArray, List.set_cons_zero, List.set_cons_succ]
  refine SeqO.take (by rfl) (v := ?hv6) (by rfl) ?hy6 ?hr6
  case hy6 =>
   intro w hSw
   try dsimp only at hSw
   go_simp
   try (with_reducible rfl)
  try simp only [Act.put, List.setIfInBounds_toArray, List.set_cons_zero, List.set_cons_succ]
  refine SeqO.take (by rfl) (v := ?hv7) (by rfl) ?hy7 ?hr7
  case hy7 =>
   intro w hSw
   try dsimp only at hSw
   go_simp
   try (with_reducible rfl)
  try simp only [Act.put, List.setIfInBounds_toArray, List.set_cons_zero, List.set_cons_succ]
  refine SeqO.call (by rfl) (fun K hK => ?_)
  go_simp
  refine (V8Vector_any b d ys F a1 c1 m.length W.drew ((unhide YR).below hdw) ((unhide R).below hdw) ok (by omega)).mono ?_
  rintro e w3 ⟨v3, msg, rfl, hml, hme, o3, b3⟩
  have d3 := Below.chain hdw b3
  obtain ⟨a3, c3, rfl, r3, _⟩ := o3.form
  rw [hml]
  have hew := specEW_any F.p F.k a1 c1 F.poly (some ⟨gb, ob, none⟩) rc m a3 c3 msg w3 ((unhide R).below d3) ((unhide RS).below d3) r3
  rw [enc_res (unhide HC) hml hme, hml] at hew
  have hws := encTo_sp ok (unhide HC).mat hme (Nat.le_refl m.length)
  have hwl := encTo_len F n m msg m.length
  have hwe := encTo_el ok n m msg m.length
  generalize encTo F n m msg m.length = word at hew hws hwl hwe
  have HEW := hide hew
  have HWS := hide hws
  have HWL := Lib.hid hwl
  have HWE := hide hwe
  clear hew hws hwl hwe hml hme r3 o3
  refine hK.out _ _ ?_ (fun hHeld => ?_)
  · exact (unhide BX) _ d3
  clear hK K
  try simp only [Act.put, List.setIfInBounds_toArray, List.set_cons_zero, List.set_cons_succ]
  refine SeqO.call (by rfl) (fun K hK => ?_)
  go_simp
  refine (unhide HEW).mono ?_
  rintro e w4 ⟨v4, rfl, o4, b4⟩
  have d4 := Below.chain d3 b4
  refine hK.out _ _ ?_ (fun hHeld => ?_)
  · exact (unhide BX) _ d4
  clear hK K
  try simp only [Act.put, List.setIfInBounds_toArray, List.set_cons_zero, List.set_cons_succ]
  refine SeqO.take (by rfl) (v := ?hv8) (by rfl) ?hy8 ?hr8
  case hy8 =>
   intro w hSw
   try dsimp only at hSw
   go_simp
   try (with_reducible rfl)
  try simp only [Act.put, List.setIfInBounds_toArray, List.set_cons_zero, List.set_cons_succ]
  refine SeqO.take (by rfl) (v := ?hv9) (by rfl) ?hy9 ?hr9
  case hy9 =>
   intro w hSw
   try dsimp only at hSw
   go_simp
   try (with_reducible rfl)
  try simp only [Act.put, List.setIfInBounds_toArray, List.set_cons_zero, List.set_cons_succ]
  refine SeqO.take (by rfl) (v := ?hv10) (by rfl) ?hy10 ?hr10
  case hy10 =>
   intro w hSw
   try dsimp only at hSw
   go_simp
   try (with_reducible rfl)
  try simp only [Act.put, List.setIfInBounds_toArray, List.set_cons_zero, List.set_cons_succ]
  refine SeqO.take (by rfl) (v := ?hv11) (by rfl) ?hy11 ?hr11
  case hy11 =>
   intro w hSw
   try dsimp only at hSw
   go_simp
   try (with_reducible rfl)
  try simp only [Act.put, List.setIfInBounds_toArray, List.set_cons_zero, List.set_cons_succ]
  refine SeqO.take (by rfl) (v := ?hv12) (by rfl) ?hy12 ?hr12
  case hy12 =>
   intro w hSw
   try dsimp only at hSw
   go_simp
   try (with_reducible rfl)
  try simp only [Act.put, List.setIfInBounds_toArray, List.set_cons_zero, List.set_cons_succ]
  refine SeqO.done (NoPanic.normal ?_)
  have o4 : Own w4 w3.heap.size v4 word := o4
  obtain ⟨g4, c4, rfl, _, hg4, hnc4, hc4⟩ := o4.at_len (n := n) HWL.out (by omega)
  have r4 := o4.rd
  have z4 := d4.size
  have cj := o4.cell (j := j) (by rw [HWL.out]; exact hjn)
  have R4 := hide r4
  have hjle : j ≤ c4 := by omega
  have hj1 : j + 1 ≤ n := by omega
  have tkl : (word.take j).length = j := by rw [List.length_take, HWL.out]; omega
  have dpl : (word.drop (j + 1)).length = n - (j + 1) := by rw [List.length_drop, HWL.out]
  have hwo : wout word j = word.take j ++ word.drop (j + 1) := rfl
  have hwol : (wout word j).length = n - 1 := by rw [wout_len (by rw [HWL.out]; exact hjn), HWL.out]
  have hsub : ((n : Int) - ((j : Int) + 1)) = ((n - (j + 1) : Nat) : Int) := by omega
  obtain ⟨tk, htk⟩ : ∃ tk, tk = word.take j := ⟨_, rfl⟩
  obtain ⟨dp, hdp⟩ : ∃ dp, dp = word.drop (j + 1) := ⟨_, rfl⟩
  have rt := (unhide R4).take_ j
  have rd := (unhide R4).drop_ (j + 1)
  rw [← htk] at rt tkl hwo
  rw [← hdp] at rd dpl hwo
  have RT := hide rt
  have RD := hide rd
  have TKL := Lib.hid tkl
  have DPL := Lib.hid dpl
  have HWO := Lib.hid hwo
  have HWOL := Lib.hid hwol
  have HSUB := Lib.hid hsub
  have CJ := hide cj
  clear r4 o4 cj rt rd tkl dpl hwo hwol htk hdp hsub
  go_upto_region 8 with (at_builtin; refine wpList_append_ints rfl (.tmp 40) (.tmp 43) rfl w4.heap.size _ [] tk rfl (Own.empty w4 (Nat.le_refl _)) (some ⟨g4, 0, none⟩) j c4 rfl TKL.out.symm ((unhide RT).alloc _) (by rw [TKL.out]; simp; omega) (by simp) ?_; intro v5 w5 o5 g5 _)
  have b5 : Below w4.heap.size w4 w5 := Below.step ((Below.refl _ _).alloc (Nat.le_refl _) _) g5 (Own.empty w4 (Nat.le_refl _)) (Nat.le_refl _) (by simp)
  have o5 : Own w5 w4.heap.size v5 tk := by simpa using o5
  obtain ⟨a5, c5, rfl, _, _⟩ := o5.form
  have z5 := b5.size
  have d5 := Below.chain d4 b5
  have O5 := Lib.hid o5
  clear o5 g5
  rcases Nat.lt_or_eq_of_le (show j + 1 ≤ c4 by omega) with hjc | hjc
  · have hjc2 : ¬ (j + 1 = c4) := by omega
    go_upto_region 9 with (at_builtin; refine wpList_append_ints rfl (.tmp 45) (.tmp 49) rfl w4.heap.size (.slice a5 tk.length c5) tk dp (by rw [TKL.out]; rfl) O5.out (some ⟨g4, j + 1, none⟩) (n - (j + 1)) (c4 - (j + 1)) rfl DPL.out.symm (by have h := (unhide RD).below b5; rwa [Nat.zero_add] at h) (by rw [TKL.out, DPL.out]; omega) z5 ?_; intro v6 w6 o6 g6 _)
    rw [← HWO.out] at o6
    have bb6 : Below w4.heap.size w5 w6 := Below.step (Below.refl _ _) g6 O5.out (Nat.le_refl _) z5
    clear g6
    obtain ⟨ls, hls⟩ : ∃ ls, ls = wout word j := ⟨_, rfl⟩
    have hlsl := HWOL.out
    rw [← hls] at o6 hlsl
    have hlsn : nth ls = fun i => nth word (sh j i) := by rw [hls]; exact wout_fun (unhide HC) hjn HWL.out
    have hpu : Sp F (woutM m j) (nth ls) := by rw [hlsn]; exact sp_wout (unhide HC).mat hjn (unhide HWS)
    have hsu : nth word j = 0 → Sp F (shoM F m j) (nth ls) := fun h0 => by rw [hlsn]; exact sp_sho hG (unhide HC).mat hjn (unhide HWS) h0
    obtain ⟨a6, c6, rfl, r6, _⟩ := o6.form
    have d6 := d5.trans (bb6.mono z4)
    have R6 := hide r6
    have HLSL := Lib.hid hlsl
    have HPU := hide hpu
    have HSU := hide hsu
    clear o6 r6 hls hlsl hlsn hpu hsu
    obtain ⟨_, e0, e1, e2, e3, e4⟩ := (unhide BX) _ d6
    have hxr := implPU_any F.p F.k a1 c1 F.poly (some ⟨gb, ob, none⟩) rc m j w6 ((unhide R).below d6) ((unhide RS).below d6) ((unhide CAP).below (unhide RS) d6) (unhide HKI)
    have hx1 : n = 1 → (punRes F.p F.k F.poly m j).2.2.2.2 = 6 := fun h1 => by
     have h0 := plc_ok (unhide HC) hjn
     rw [if_pos h1] at h0
     rw [punRes, h0, if_neg (by omega)]
    have hx2 := fun h1 => pun_ok (unhide HC) hjn h1
    obtain ⟨xp, xd, xl, xA, xc, hXR⟩ : ∃ p d l A c, punRes F.p F.k F.poly m j = (p, d, l, A, c) := ⟨_, _, _, _, _, rfl⟩
    rw [hXR] at hxr hx1 hx2
    have HXR := hide hxr
    have HX1 := hide hx1
    have HX2 := hide hx2
    clear hxr hx1 hx2 hXR
    go_wp2_with fail
    refine (unhide HXR).mono ?_
    rintro e w7 ⟨v7, u7, rfl, o7, b7⟩
    have o7 : OwnC w7 w6.heap.size v7 u7 xl xA := o7
    obtain ⟨A7, C7, RA7, RC7, rfl, rfl, r7, rs7⟩ := o7.form
    have d7 := Below.chain d6 b7
    clear o7 e0 e1 e2 e3 e4
    obtain ⟨W8, hW8⟩ : ∃ z, z = w7.alloc (.cells #[.int .i64 xp, .int .i64 xd, .slice A7 xl.length C7, .slice RA7 xA.length RC7] 37) := ⟨_, rfl⟩
    have b8 : Below w7.heap.size w7 W8 := by rw [hW8]; exact (Below.refl _ _).alloc (Nat.le_refl _) _
    have kX : Blk W8 w7.heap.size 37 #[.int .i64 xp, .int .i64 xd, .slice A7 xl.length C7, .slice RA7 xA.length RC7] := by rw [hW8]; exact Blk.new _ _ _ rfl
    have hW8x := Lib.hid hW8
    clear hW8
    go_upto_region 10 with fail
    rw [← hW8x.out]
    have d8 := Below.chain d7 b8
    have hgX := kX.lt
    have r8 := r7.below b8
    have rs8 := rs7.below b8
    clear r7 rs7
    obtain ⟨_, e0, e1, e2, e3, e4⟩ := (unhide BX) _ d8
    have hyr := implSH_any F.p F.k a1 c1 F.poly (some ⟨gb, ob, none⟩) rc m j W8 ((unhide R).below d8) ((unhide RS).below d8) ((unhide CAP).below (unhide RS) d8) (unhide HKI)
    have hy1 : n = 1 → (shoRes F.p F.k F.poly m j).2.2.2.2 = 6 := fun h1 => by
     have h0 := plc_ok (unhide HC) hjn
     rw [if_pos h1] at h0
     rw [shoRes, h0, if_neg (by omega)]
    have hy2 := fun h1 => sho_ok (unhide HC) hjn h1
    obtain ⟨yp, yd, yl, yA, yc, hYR⟩ : ∃ p d l A c, shoRes F.p F.k F.poly m j = (p, d, l, A, c) := ⟨_, _, _, _, _, rfl⟩
    rw [hYR] at hyr hy1 hy2
    have HYR := hide hyr
    have HY1 := hide hy1
    have HY2 := hide hy2
    clear hyr hy1 hy2 hYR
    go_wp2_with fail
    refine (unhide HYR).mono ?_
    rintro e w9 ⟨v9, u9, rfl, o9, b9⟩
    have o9 : OwnC w9 W8.heap.size v9 u9 yl yA := o9
    obtain ⟨A9, C9, RA9, RC9, rfl, rfl, r9, rs9⟩ := o9.form
    have d9 := Below.chain d8 b9
    clear o9 e0 e1 e2 e3 e4
    obtain ⟨W10, hW10⟩ : ∃ z, z = w9.alloc (.cells #[.int .i64 yp, .int .i64 yd, .slice A9 yl.length C9, .slice RA9 yA.length RC9] 37) := ⟨_, rfl⟩
    have b10 : Below w9.heap.size w9 W10 := by rw [hW10]; exact (Below.refl _ _).alloc (Nat.le_refl _) _
    have kY : Blk W10 w9.heap.size 37 #[.int .i64 yp, .int .i64 yd, .slice A9 yl.length C9, .slice RA9 yA.length RC9] := by rw [hW10]; exact Blk.new _ _ _ rfl
    have hW10x := Lib.hid hW10
    clear hW10
    go_upto_region 11 with fail
    rw [← hW10x.out]
    have d10 := Below.chain d9 b10
    have hgY := kY.lt
    have b810 := Below.chain b9 b10
    have kX := kX.below b810 hgX
    have hgX10 := kX.lt
    have b610 := Below.chain (Below.chain b7 b8) b810
    have b410 := Below.chain (a := w4) (b := w6) (by exact b5.trans bb6) b610
    have hb10 := Below.chain hb0 d10
    have cjw := (b410.cell (p := ⟨g4, j, none⟩) hg4).trans (unhide CJ)
    have hg4W : g4 < W10.heap.size := by have := b410.size; omega
    obtain ⟨wj, hwj⟩ : ∃ x, x = nth word j := ⟨_, rfl⟩
    rw [← hwj] at cjw
    have HWJ := Lib.hid hwj
    have R10 := hide (r9.below b10)
    have RS10 := hide (rs9.below b10)
    have RX := hide (r8.below b810)
    have RSX := hide (rs8.below b810)
    have RL := hide ((unhide R6).below b610)
    clear r8 rs8 r9 rs9 hwj b7 b8 b9 b10 b810 b610 b410
    by_cases hn : n = 1
    · obtain rfl := unhide HX1 hn
      obtain rfl := unhide HY1 hn
      have hne : ((n : Int) == 1) = true := by rw [hn]; rfl
      clear hn
      go_wp2
      go_ret
      exact ⟨rfl, hb10⟩
    have hne : ((n : Int) == 1) = false := by rw [beq_eq_false_iff_ne]; omega
    have HN := hide hn
    clear hn
    rcases unhide HX2 (unhide HN) with hx | ⟨B, hx, hxok, hxhas⟩
    · injection hx with _ hx
      injection hx with _ hx
      injection hx with _ hx
      injection hx with _ hx
      subst hx
      have hbx := hb10
      obtain ⟨wx, hwx⟩ : ∃ wx, wx = W10 := ⟨_, rfl⟩
      have dx : Below W10.heap.size W10 wx := by rw [hwx]; exact Below.refl _ _
      subst hwx
      rcases unhide HY2 (unhide HN) with hy | ⟨B, hy, hyok, hyhas⟩
      · injection hy with _ hy
        injection hy with _ hy
        injection hy with _ hy
        injection hy with _ hy
        subst hy
        go_wp2
        go_ret
        exact ⟨rfl, hbx⟩
      · injection hy with hy1 hy
        injection hy with hy2 hy
        injection hy with hy3 hy
        injection hy with hy4 hy
        subst hy
        subst hy1 hy2 hy3 hy4
        have ky := kY.below dx hgY
        have e0 := ky.cell 0
        have e1 := ky.cell 1
        have e2 := ky.cell 2
        have e3 := ky.cell 3
        have hvy := specVC_any F.p F.k A9 C9 F.poly RA9 RC9 yA wx ((unhide R10).below dx) ((unhide RS10).below dx)
        rw [hyok] at hvy
        have HVY := hide hvy
        have HYH := hide hyhas
        clear hvy hyok hyhas
        go_wp2_with fail
        refine (unhide HVY).mono ?_
        rintro e wy ⟨rfl, by_⟩
        have dy := Below.chain dx by_
        have cjy := (dy.cell (p := ⟨g4, j, none⟩) hg4W).trans cjw
        have ky := kY.below dy hgY
        have e0 := ky.cell 0
        have e1 := ky.cell 1
        have e2 := ky.cell 2
        have e3 := ky.cell 3
        have hby := Below.chain hb10 dy
        by_cases hw0 : wj = 0
        · have hch := specCH_any F.p F.k A9 C9 F.poly RA9 RC9 yA a6 c6 ls wy ((unhide R10).below dy) ((unhide RS10).below dy) ((unhide RL).below dy)
          rw [unhide HYH ls HLSL.out (unhide HSU (by rw [← HWJ.out]; exact hw0))] at hch
          have HCHY := hide hch
          subst hw0
          clear hch
          go_wp2_with fail
          refine (unhide HCHY).mono ?_
          rintro e wz ⟨rfl, bz⟩
          go_wp2
          go_ret
          exact ⟨rfl, Below.chain hby bz⟩
        · have hwne : (wj != 0) = true := by rw [bne_iff_ne]; exact hw0
          go_wp2
          go_ret
          exact ⟨rfl, hby⟩
    · injection hx with hx1 hx
      injection hx with hx2 hx
      injection hx with hx3 hx
      injection hx with hx4 hx
      subst hx
      subst hx1 hx2 hx3 hx4
      have f0 := kX.cell 0
      have f1 := kX.cell 1
      have f2 := kX.cell 2
      have f3 := kX.cell 3
      have hch := specCH_any F.p F.k A7 C7 F.poly RA7 RC7 xA a6 c6 ls W10 (unhide RX) (unhide RSX) (unhide RL)
      rw [hxhas ls HLSL.out (unhide HPU)] at hch
      have HCH := hide hch
      have hvx := fun V (h : Below W10.heap.size W10 V) => specVC_any F.p F.k A7 C7 F.poly RA7 RC7 xA V ((unhide RX).below h) ((unhide RSX).below h)
      rw [hxok] at hvx
      have HVX := hide hvx
      clear hch hvx hxok hxhas
      go_wp2_with fail
      refine (unhide HCH).mono ?_
      rintro e wu ⟨rfl, bu⟩
      have ku := kX.below bu hgX10
      have f0 := ku.cell 0
      have f1 := ku.cell 1
      have f2 := ku.cell 2
      have f3 := ku.cell 3
      go_wp2_with fail
      refine (unhide HVX _ bu).mono ?_
      rintro e wx ⟨rfl, bx⟩
      have dx := Below.chain bu bx
      have hbx := Below.chain hb10 dx
      clear f0 f1 f2 f3 ku
      rcases unhide HY2 (unhide HN) with hy | ⟨B, hy, hyok, hyhas⟩
      · injection hy with _ hy
        injection hy with _ hy
        injection hy with _ hy
        injection hy with _ hy
        subst hy
        go_wp2
        go_ret
        exact ⟨rfl, hbx⟩
      · injection hy with hy1 hy
        injection hy with hy2 hy
        injection hy with hy3 hy
        injection hy with hy4 hy
        subst hy
        subst hy1 hy2 hy3 hy4
        have ky := kY.below dx hgY
        have e0 := ky.cell 0
        have e1 := ky.cell 1
        have e2 := ky.cell 2
        have e3 := ky.cell 3
        have hvy := specVC_any F.p F.k A9 C9 F.poly RA9 RC9 yA wx ((unhide R10).below dx) ((unhide RS10).below dx)
        rw [hyok] at hvy
        have HVY := hide hvy
        have HYH := hide hyhas
        clear hvy hyok hyhas
        go_wp2_with fail
        refine (unhide HVY).mono ?_
        rintro e wy ⟨rfl, by_⟩
        have dy := Below.chain dx by_
        have cjy := (dy.cell (p := ⟨g4, j, none⟩) hg4W).trans cjw
        have ky := kY.below dy hgY
        have e0 := ky.cell 0
        have e1 := ky.cell 1
        have e2 := ky.cell 2
        have e3 := ky.cell 3
        have hby := Below.chain hb10 dy
        by_cases hw0 : wj = 0
        · have hch := specCH_any F.p F.k A9 C9 F.poly RA9 RC9 yA a6 c6 ls wy ((unhide R10).below dy) ((unhide RS10).below dy) ((unhide RL).below dy)
          rw [unhide HYH ls HLSL.out (unhide HSU (by rw [← HWJ.out]; exact hw0))] at hch
          have HCHY := hide hch
          subst hw0
          clear hch
          go_wp2_with fail
          refine (unhide HCHY).mono ?_
          rintro e wz ⟨rfl, bz⟩
          go_wp2
          go_ret
          exact ⟨rfl, Below.chain hby bz⟩
        · have hwne : (wj != 0) = true := by rw [bne_iff_ne]; exact hw0
          go_wp2
          go_ret
          exact ⟨rfl, hby⟩
  · obtain rfl : n = j + 1 := by omega
    subst hjc
    have hd0 : dp = [] := List.length_eq_zero_iff.1 (by rw [DPL.out]; omega)
    have HD0 := Lib.hid hd0
    clear hd0
    go_upto_region 9 with (at_builtin; refine wpList_append_ints rfl (.tmp 45) (.tmp 49) rfl w4.heap.size (.slice a5 tk.length c5) tk [] (by rw [TKL.out]; rfl) O5.out _ _ _ rfl (by simp) (Rd.nil _ _) (by rw [TKL.out]; simp; omega) z5 ?_; intro v6 w6 o6 g6 _)
    rw [← HD0.out, ← HWO.out] at o6
    have bb6 : Below w4.heap.size w5 w6 := Below.step (Below.refl _ _) g6 O5.out (Nat.le_refl _) z5
    clear g6
    obtain ⟨ls, hls⟩ : ∃ ls, ls = wout word j := ⟨_, rfl⟩
    have hlsl := HWOL.out
    rw [← hls] at o6 hlsl
    have hlsn : nth ls = fun i => nth word (sh j i) := by rw [hls]; exact wout_fun (unhide HC) hjn HWL.out
    have hpu : Sp F (woutM m j) (nth ls) := by rw [hlsn]; exact sp_wout (unhide HC).mat hjn (unhide HWS)
    have hsu : nth word j = 0 → Sp F (shoM F m j) (nth ls) := fun h0 => by rw [hlsn]; exact sp_sho hG (unhide HC).mat hjn (unhide HWS) h0
    obtain ⟨a6, c6, rfl, r6, _⟩ := o6.form
    have d6 := d5.trans (bb6.mono z4)
    have R6 := hide r6
    have HLSL := Lib.hid hlsl
    have HPU := hide hpu
    have HSU := hide hsu
    clear o6 r6 hls hlsl hlsn hpu hsu
    obtain ⟨_, e0, e1, e2, e3, e4⟩ := (unhide BX) _ d6
    have hxr := implPU_any F.p F.k a1 c1 F.poly (some ⟨gb, ob, none⟩) rc m j w6 ((unhide R).below d6) ((unhide RS).below d6) ((unhide CAP).below (unhide RS) d6) (unhide HKI)
    have hx1 : (j + 1) = 1 → (punRes F.p F.k F.poly m j).2.2.2.2 = 6 := fun h1 => by
     have h0 := plc_ok (unhide HC) hjn
     rw [if_pos h1] at h0
     rw [punRes, h0, if_neg (by omega)]
    have hx2 := fun h1 => pun_ok (unhide HC) hjn h1
    obtain ⟨xp, xd, xl, xA, xc, hXR⟩ : ∃ p d l A c, punRes F.p F.k F.poly m j = (p, d, l, A, c) := ⟨_, _, _, _, _, rfl⟩
    rw [hXR] at hxr hx1 hx2
    have HXR := hide hxr
    have HX1 := hide hx1
    have HX2 := hide hx2
    clear hxr hx1 hx2 hXR
    go_wp2_with fail
    refine (unhide HXR).mono ?_
    rintro e w7 ⟨v7, u7, rfl, o7, b7⟩
    have o7 : OwnC w7 w6.heap.size v7 u7 xl xA := o7
    obtain ⟨A7, C7, RA7, RC7, rfl, rfl, r7, rs7⟩ := o7.form
    have d7 := Below.chain d6 b7
    clear o7 e0 e1 e2 e3 e4
    obtain ⟨W8, hW8⟩ : ∃ z, z = w7.alloc (.cells #[.int .i64 xp, .int .i64 xd, .slice A7 xl.length C7, .slice RA7 xA.length RC7] 37) := ⟨_, rfl⟩
    have b8 : Below w7.heap.size w7 W8 := by rw [hW8]; exact (Below.refl _ _).alloc (Nat.le_refl _) _
    have kX : Blk W8 w7.heap.size 37 #[.int .i64 xp, .int .i64 xd, .slice A7 xl.length C7, .slice RA7 xA.length RC7] := by rw [hW8]; exact Blk.new _ _ _ rfl
    have hW8x := Lib.hid hW8
    clear hW8
    go_upto_region 10 with fail
    rw [← hW8x.out]
    have d8 := Below.chain d7 b8
    have hgX := kX.lt
    have r8 := r7.below b8
    have rs8 := rs7.below b8
    clear r7 rs7
    obtain ⟨_, e0, e1, e2, e3, e4⟩ := (unhide BX) _ d8
    have hyr := implSH_any F.p F.k a1 c1 F.poly (some ⟨gb, ob, none⟩) rc m j W8 ((unhide R).below d8) ((unhide RS).below d8) ((unhide CAP).below (unhide RS) d8) (unhide HKI)
    have hy1 : (j + 1) = 1 → (shoRes F.p F.k F.poly m j).2.2.2.2 = 6 := fun h1 => by
     have h0 := plc_ok (unhide HC) hjn
     rw [if_pos h1] at h0
     rw [shoRes, h0, if_neg (by omega)]
    have hy2 := fun h1 => sho_ok (unhide HC) hjn h1
    obtain ⟨yp, yd, yl, yA, yc, hYR⟩ : ∃ p d l A c, shoRes F.p F.k F.poly m j = (p, d, l, A, c) := ⟨_, _, _, _, _, rfl⟩
    rw [hYR] at hyr hy1 hy2
    have HYR := hide hyr
    have HY1 := hide hy1
    have HY2 := hide hy2
    clear hyr hy1 hy2 hYR
    go_wp2_with fail
    refine (unhide HYR).mono ?_
    rintro e w9 ⟨v9, u9, rfl, o9, b9⟩
    have o9 : OwnC w9 W8.heap.size v9 u9 yl yA := o9
    obtain ⟨A9, C9, RA9, RC9, rfl, rfl, r9, rs9⟩ := o9.form
    have d9 := Below.chain d8 b9
    clear o9 e0 e1 e2 e3 e4
    obtain ⟨W10, hW10⟩ : ∃ z, z = w9.alloc (.cells #[.int .i64 yp, .int .i64 yd, .slice A9 yl.length C9, .slice RA9 yA.length RC9] 37) := ⟨_, rfl⟩
    have b10 : Below w9.heap.size w9 W10 := by rw [hW10]; exact (Below.refl _ _).alloc (Nat.le_refl _) _
    have kY : Blk W10 w9.heap.size 37 #[.int .i64 yp, .int .i64 yd, .slice A9 yl.length C9, .slice RA9 yA.length RC9] := by rw [hW10]; exact Blk.new _ _ _ rfl
    have hW10x := Lib.hid hW10
    clear hW10
    go_upto_region 11 with fail
    rw [← hW10x.out]
    have d10 := Below.chain d9 b10
    have hgY := kY.lt
    have b810 := Below.chain b9 b10
    have kX := kX.below b810 hgX
    have hgX10 := kX.lt
    have b610 := Below.chain (Below.chain b7 b8) b810
    have b410 := Below.chain (a := w4) (b := w6) (by exact b5.trans bb6) b610
    have hb10 := Below.chain hb0 d10
    have cjw := (b410.cell (p := ⟨g4, j, none⟩) hg4).trans (unhide CJ)
    have hg4W : g4 < W10.heap.size := by have := b410.size; omega
    obtain ⟨wj, hwj⟩ : ∃ x, x = nth word j := ⟨_, rfl⟩
    rw [← hwj] at cjw
    have HWJ := Lib.hid hwj
    have R10 := hide (r9.below b10)
    have RS10 := hide (rs9.below b10)
    have RX := hide (r8.below b810)
    have RSX := hide (rs8.below b810)
    have RL := hide ((unhide R6).below b610)
    clear r8 rs8 r9 rs9 hwj b7 b8 b9 b10 b810 b610 b410
    by_cases hn : (j + 1) = 1
    · obtain rfl := unhide HX1 hn
      obtain rfl := unhide HY1 hn
      have hne : (((j + 1 : Nat) : Int) == 1) = true := by rw [hn]; rfl
      have hne2 : ((j : Int) + 1 == 1) = true := by rw [beq_iff_eq]; omega
      clear hn
      go_wp2
      go_ret
      exact ⟨rfl, hb10⟩
    have hne : (((j + 1 : Nat) : Int) == 1) = false := by rw [beq_eq_false_iff_ne]; omega
    have hne2 : ((j : Int) + 1 == 1) = false := by rw [beq_eq_false_iff_ne]; omega
    have HN := hide hn
    clear hn
    rcases unhide HX2 (unhide HN) with hx | ⟨B, hx, hxok, hxhas⟩
    · injection hx with _ hx
      injection hx with _ hx
      injection hx with _ hx
      injection hx with _ hx
      subst hx
      have hbx := hb10
      obtain ⟨wx, hwx⟩ : ∃ wx, wx = W10 := ⟨_, rfl⟩
      have dx : Below W10.heap.size W10 wx := by rw [hwx]; exact Below.refl _ _
      subst hwx
      rcases unhide HY2 (unhide HN) with hy | ⟨B, hy, hyok, hyhas⟩
      · injection hy with _ hy
        injection hy with _ hy
        injection hy with _ hy
        injection hy with _ hy
        subst hy
        go_wp2
        go_ret
        exact ⟨rfl, hbx⟩
      · injection hy with hy1 hy
        injection hy with hy2 hy
        injection hy with hy3 hy
        injection hy with hy4 hy
        subst hy
        subst hy1 hy2 hy3 hy4
        have ky := kY.below dx hgY
        have e0 := ky.cell 0
        have e1 := ky.cell 1
        have e2 := ky.cell 2
        have e3 := ky.cell 3
        have hvy := specVC_any F.p F.k A9 C9 F.poly RA9 RC9 yA wx ((unhide R10).below dx) ((unhide RS10).below dx)
        rw [hyok] at hvy
        have HVY := hide hvy
        have HYH := hide hyhas
        clear hvy hyok hyhas
        go_wp2_with fail
        refine (unhide HVY).mono ?_
        rintro e wy ⟨rfl, by_⟩
        have dy := Below.chain dx by_
        have cjy := (dy.cell (p := ⟨g4, j, none⟩) hg4W).trans cjw
        have ky := kY.below dy hgY
        have e0 := ky.cell 0
        have e1 := ky.cell 1
        have e2 := ky.cell 2
        have e3 := ky.cell 3
        have hby := Below.chain hb10 dy
        by_cases hw0 : wj = 0
        · have hch := specCH_any F.p F.k A9 C9 F.poly RA9 RC9 yA a6 c6 ls wy ((unhide R10).below dy) ((unhide RS10).below dy) ((unhide RL).below dy)
          rw [unhide HYH ls HLSL.out (unhide HSU (by rw [← HWJ.out]; exact hw0))] at hch
          have HCHY := hide hch
          subst hw0
          clear hch
          go_wp2_with fail
          refine (unhide HCHY).mono ?_
          rintro e wz ⟨rfl, bz⟩
          go_wp2
          go_ret
          exact ⟨rfl, Below.chain hby bz⟩
        · have hwne : (wj != 0) = true := by rw [bne_iff_ne]; exact hw0
          go_wp2
          go_ret
          exact ⟨rfl, hby⟩
    · injection hx with hx1 hx
      injection hx with hx2 hx
      injection hx with hx3 hx
      injection hx with hx4 hx
      subst hx
      subst hx1 hx2 hx3 hx4
      have f0 := kX.cell 0
      have f1 := kX.cell 1
      have f2 := kX.cell 2
      have f3 := kX.cell 3
      have hch := specCH_any F.p F.k A7 C7 F.poly RA7 RC7 xA a6 c6 ls W10 (unhide RX) (unhide RSX) (unhide RL)
      rw [hxhas ls HLSL.out (unhide HPU)] at hch
      have HCH := hide hch
      have hvx := fun V (h : Below W10.heap.size W10 V) => specVC_any F.p F.k A7 C7 F.poly RA7 RC7 xA V ((unhide RX).below h) ((unhide RSX).below h)
      rw [hxok] at hvx
      have HVX := hide hvx
      clear hch hvx hxok hxhas
      go_wp2_with fail
      refine (unhide HCH).mono ?_
      rintro e wu ⟨rfl, bu⟩
      have ku := kX.below bu hgX10
      have f0 := ku.cell 0
      have f1 := ku.cell 1
      have f2 := ku.cell 2
      have f3 := ku.cell 3
      go_wp2_with fail
      refine (unhide HVX _ bu).mono ?_
      rintro e wx ⟨rfl, bx⟩
      have dx := Below.chain bu bx
      have hbx := Below.chain hb10 dx
      clear f0 f1 f2 f3 ku
      rcases unhide HY2 (unhide HN) with hy | ⟨B, hy, hyok, hyhas⟩
      · injection hy with _ hy
        injection hy with _ hy
        injection hy with _ hy
        injection hy with _ hy
        subst hy
        go_wp2
        go_ret
        exact ⟨rfl, hbx⟩
      · injection hy with hy1 hy
        injection hy with hy2 hy
        injection hy with hy3 hy
        injection hy with hy4 hy
        subst hy
        subst hy1 hy2 hy3 hy4
        have ky := kY.below dx hgY
        have e0 := ky.cell 0
        have e1 := ky.cell 1
        have e2 := ky.cell 2
        have e3 := ky.cell 3
        have hvy := specVC_any F.p F.k A9 C9 F.poly RA9 RC9 yA wx ((unhide R10).below dx) ((unhide RS10).below dx)
        rw [hyok] at hvy
        have HVY := hide hvy
        have HYH := hide hyhas
        clear hvy hyok hyhas
        go_wp2_with fail
        refine (unhide HVY).mono ?_
        rintro e wy ⟨rfl, by_⟩
        have dy := Below.chain dx by_
        have cjy := (dy.cell (p := ⟨g4, j, none⟩) hg4W).trans cjw
        have ky := kY.below dy hgY
        have e0 := ky.cell 0
        have e1 := ky.cell 1
        have e2 := ky.cell 2
        have e3 := ky.cell 3
        have hby := Below.chain hb10 dy
        by_cases hw0 : wj = 0
        · have hch := specCH_any F.p F.k A9 C9 F.poly RA9 RC9 yA a6 c6 ls wy ((unhide R10).below dy) ((unhide RS10).below dy) ((unhide RL).below dy)
          rw [unhide HYH ls HLSL.out (unhide HSU (by rw [← HWJ.out]; exact hw0))] at hch
          have HCHY := hide hch
          subst hw0
          clear hch
          go_wp2_with fail
          refine (unhide HCHY).mono ?_
          rintro e wz ⟨rfl, bz⟩
          go_wp2
          go_ret
          exact ⟨rfl, Below.chain hby bz⟩
        · have hwne : (wj != 0) = true := by rw [bne_iff_ne]; exact hw0
          go_wp2
          go_ret
          exact ⟨rfl, hby⟩
theorem law_FnPlaces (X Y : SB) (w : World) (hX : X.ok w) (hY : Y.ok w) :
    Calls Try.prog 9 #[X.val, Y.val] w fun e w' => e = .returned (.bool true) ∧ Below w.heap.size w w' :=
 walkFnPlaces X.a Y.a X.c Y.c X.xs Y.xs w hX.1 hY.1 hX.2 hY.2
namespace fnPlaces
open Go.ChangeShapes Go.WideShapes Go.ChangeAt
theorem lifted (os : Os) (started : os.Started) (H : Type) (enc : TypeId × Value → H) :
    ReturnsInHanded {} Try.checked os 9 .any (Rows.fnPlacesSpec.pre6 enc Try.prog Try.f9 Rows.fnPlacesRow.domain false) (Rows.fnPlacesSpec.post enc Try.prog Try.f9 false true false false) := by
 refine returnsInHanded_of_change (C := Try.checked) ownKnob_none started (by kernel_rfl) Try.func9
  (ChangeSpec.witness6 (enc := enc) (C := Try.checked) false ⟨#[], #[.slice none 0 0, .slice none 0 0], []⟩ 8 (by kernel_rfl) (by kernel_rfl) (by kernel_rfl) (by kernel_rfl)) ?_
 intro W base args ds gs before hval0 hW _ _
 have hval : ∀ (j : Nat) t v, Try.f9.params[j]? = some t → args[j]? = some v → Value.okWide Try.prog W .any base t v := hval0
 have hW' := hW
 obtain ⟨p, q, hA0, hV, rfl, hfz, hnd⟩ := hW
 have hA : DataW.TrodAll enc Try.prog W 0 (fun _ => true) true Try.f9.params.toList args.toList ds p := hA0
 rw [Try.params9] at hA hval
 obtain ⟨v0, vs0, d0, ds0, p0, q0, hargs, rfl, rfl, h0, r0⟩ := trodAll_cons hA
 obtain ⟨v1, vs1, d1, ds1, p1, q1, rfl, rfl, rfl, h1, r1⟩ := trodAll_cons r0
 obtain ⟨rfl, rfl, rfl⟩ := trodAll_nil r1
 obtain rfl : args = #[v0, v1] := by cases args; simp_all
 obtain ⟨rfl, rfl⟩ := trodVars_none hV
 have k0 := h0
 have lt0 : ∀ x ∈ p0, x.block < W.heap.size := by obtain ⟨m, hm⟩ := k0; exact DataW.trod_lt m _ _ _ hm
 obtain ⟨X0, rfl, e0⟩ := open_sb (hval 0 29 v0 rfl rfl) h0
 have k1 := h1
 have lt1 : ∀ x ∈ p1, x.block < W.heap.size := by obtain ⟨m, hm⟩ := k1; exact DataW.trod_lt m _ _ _ hm
 obtain ⟨X1, rfl, e1⟩ := open_sb (hval 1 29 v1 rfl rfl) h1
 clear hA0 hval0
 refine (law_FnPlaces X0  X1  W e0 e1).mono fun e W' ⟨he, bel⟩ => ?_
 subst he
 exact ⟨_, rfl, _, _, _, [], _, [], hW', trodAll_mk1 (shut_bool Try.underlying4 _), (trodAll_cons_mk (Below.trod laidOut_ok (by kernel_rfl) (of_decide_eq_true (by kernel_rfl)) k0 bel lt0) (trodAll_cons_mk (Below.trod laidOut_ok (by kernel_rfl) (of_decide_eq_true (by kernel_rfl)) k1 bel lt1) trodAll_mk0)), rfl, bel.frame _, fun h => by cases h⟩
theorem over : Rows.fnPlacesRow.holds Try.pinned (OpenSpec.ofChange Rows.fnPlacesSpec) :=
 OpenClaim.holds_of_wide 9 Try.f9 rfl rfl rfl rfl rfl rfl rfl ⟨rfl, rfl, rfl, rfl, rfl⟩ rfl rfl rfl rfl rfl (by kernel_rfl) Try.func9 (by kernel_rfl)
  (of_decide_eq_true (by kernel_rfl)) (by unfold Func.isWrapper; first | (rw [if_pos (by decide +kernel)]; kernel_rfl) | (rw [if_neg (by decide +kernel)]; exact ⟨rfl, rfl⟩))
  (fun os started H enc _ => lifted os started H enc)
theorem proved : Rows.FnPlacesSaid := over
end fnPlaces
end Go.Proofs.Ytgmgpcaahanmiaa
