/-
  Texts joined.
-/
import Derived.Test.YtgmgpcaahanmiaaH1
import Derived.Test.YtgmgpcaahanmiaaH4
import Derived.Test.YtgmgpcaahanmiaaH5
import Derived.Test.YtgmgpcaahanmiaaH6
import Derived.Test.YtgmgpcaahanmiaaH7
import Derived.Test.YtgmgpcaahanmiaaH12
import Derived.Test.YtgmgpcaahanmiaaH13
import Derived.Test.YtgmgpcaahanmiaaH15
import Derived.Test.YtgmgpcaahanmiaaH16
import Derived.Test.YtgmgpcaahanmiaaH17
set_option linter.unusedVariables false
set_option linter.unusedSimpArgs false
set_option maxRecDepth 100000
set_option maxHeartbeats 40000000
namespace Go.Proofs.Ytgmgpcaahanmiaa
open Go.RowKit
attribute [local go_sem ↓] Go.wp_at_zero Go.wp_at_succ
theorem codeOf_all (F : FD) (ap : Option Addr) (cp : Nat) (ra : Option Addr) (rc : Nat) (xss : List (List Int)) (n : Nat) (w : World) (hR : Rd w ap F.poly) (hG : F.Good) (hx : RdS w ra xss) (hM : F.Mat n xss) :
    Calls Try.prog 100 #[.agg #[.int .i64 F.p, .int .i64 F.k, .slice ap F.poly.length cp], .slice ra xss.length rc] w (ResC w (mkC F (form F xss n))) := by
 by_cases h0 : 0 < xss.length
 · exact codeOf_any F ap cp ra rc xss n w hR hG hx h0 hM
 · have hx0 : xss = [] := List.eq_nil_of_length_eq_zero (by omega)
   subst hx0
   have ok := hG.ok
   have HM := Lib.hid (show mkC F (form F [] n) = (0, 0, [], [], 6) by rw [form_nil]; rfl)
   obtain ⟨W0, hW0⟩ : ∃ W0, W0 = (w.alloc (.cells #[.int .i64 F.p, .int .i64 F.k, .slice ap F.poly.length cp] 34)).alloc (.cells #[.int .i64 0, .int .i64 0, .slice none 0 0, .slice none 0 0] 37) := ⟨_, rfl⟩
   have b0 : Below w.heap.size w W0 := by rw [hW0]; exact ((Below.refl _ _).alloc (Nat.le_refl _) _).alloc (by simp) _
   have kF : Blk W0 w.heap.size 34 #[.int .i64 F.p, .int .i64 F.k, .slice ap F.poly.length cp] := by rw [hW0]; exact (Blk.new _ _ _ rfl).alloc _
   have k0 : Blk W0 (w.heap.size + 1) 37 #[.int .i64 0, .int .i64 0, .slice none 0 0, .slice none 0 0] := by rw [hW0]; exact Blk.new _ _ _ (by simp)
   have s0 : w.heap.size + 1 < W0.heap.size := k0.lt
   have hT := tablesOf_any F ap cp W0 (hR.below b0) ok
   have HT := hide hT
   have HW := Lib.hid hW0
   have f0 := kF.cell 0
   have f1 := kF.cell 1
   have f2 := kF.cell 2
   clear hT hW0
   go_enter Try.func100, Try.ntmps100
   go_upto_region 1 with fail
   rw [← HW.out]
   go_wp2_with fail
   refine (unhide HT).mono ?_
   rintro e w1 ⟨tv, rfl, T1, b1⟩
   obtain ⟨aA, cA, aS, cS, aM, cM, aI, cI, rfl, _, _, _, _⟩ := T1
   have hb1 := b0.trans (b1.mono (by omega))
   have k1 := k0.below b1 k0.lt
   have z1 := b1.size
   clear f0 f1 f2
   go_wp2_with fail
   refine (reduce_nil F aA cA aS cS aM cM aI cI ra rc w1).mono ?_
   rintro e w2 ⟨v, u, dt, rfl, o2, _, b2⟩
   obtain ⟨ra2, rc2, rfl, _⟩ := o2.form
   have hb2 := hb1.trans (b2.mono (by omega))
   have k2 := k1.below b2 k1.lt
   have f0 := k2.cell 0
   have f1 := k2.cell 1
   have f2 := k2.cell 2
   have f3 := k2.cell 3
   have g0 := k2.frozen 0
   have g1 := k2.frozen 1
   have g2 := k2.frozen 2
   have g3 := k2.frozen 3
   go_wp2_with fail
   refine bodyPost_ret (results_cell_tmp_row rfl _ _ (w.heap.size + 1) 37 #[.int .i64 0, .int .i64 0, .slice none 0 0, .slice none 0 0] _ rfl (k2.b4.store _ _ _ _) Try.underlying37 rfl (by kernel_rfl)) rfl ?_
   rw [HM.out]
   exact ⟨_, _, rfl, OwnC.nil _ _, Below.set4 hb2 (by omega) _ _ _ _⟩
theorem nul_fix {F : FD} (hG : F.Good) {m : List (List Int)} {n : Nat} : form F (nul F m n) n = nul F m n := by
 have hM := nulTo_Mat hG.ok (form F m n) (red F m n).2 n n
 obtain ⟨pv, _, hE, _⟩ := form_ech hG hM
 exact (form_fix hG hE).1
def dualRes (p d : Int) (xs : List Int) (m : List (List Int)) : Int × Int × List Int × List (List Int) × Int := if okC p d xs m = true then mkC (fdR p d xs) (nul (fdR p d xs) m (nthL m 0).length) else (0, 0, [], [], 1)
theorem implDC_any (p d : Int) (a : Option Addr) (c : Nat) (xs : List Int) (ra : Option Addr) (rc : Nat) (m : List (List Int)) (w : World) (hx : Rd w a xs) (hm : RdS w ra m) (ed : I64 d) : Calls Try.prog 36 #[.agg #[.int .i64 p, .int .i64 d, .slice a xs.length c, .slice ra m.length rc]] w (ResC w (dualRes p d xs m)) := by
 have hml := hm.len
 generalize hR : dualRes p d xs m = r
 obtain ⟨W0, hHW⟩ : ∃ z, z = (w.alloc (.cells #[.int .i64 p, .int .i64 d, .slice a xs.length c, .slice ra m.length rc] 37)).alloc (.cells #[.int .i64 0, .int .i64 0, .slice none 0 0, .slice none 0 0] 37) := ⟨_, rfl⟩
 have b0 : Below w.heap.size w W0 := by rw [hHW]; exact ((Below.refl _ _).alloc (Nat.le_refl _) _).alloc (by simp) _
 have k0 : Blk W0 w.heap.size 37 #[.int .i64 p, .int .i64 d, .slice a xs.length c, .slice ra m.length rc] := by rw [hHW]; exact (Blk.new _ _ _ rfl).alloc _
 have kr : Blk W0 (w.heap.size + 1) 37 #[.int .i64 0, .int .i64 0, .slice none 0 0, .slice none 0 0] := by rw [hHW]; exact Blk.new _ _ _ (by simp)
 have sk0 : w.heap.size + 1 < W0.heap.size := kr.lt
 have sk1 : w.heap.size ≤ W0.heap.size := by omega
 have HW := Lib.hid hHW
 clear hHW
 have hV := implVC_any p d a c xs ra rc m W0 (hx.below b0) (hm.below b0) ed
 cases hk : okC p d xs m with
 | false =>
  have HN := Lib.hid (show r = (0, 0, [], [], 1) by rw [← hR, dualRes, hk]; rfl)
  rw [hk] at hV
  have HV := hide hV
  clear hV hk hR
  have f0 := k0.cell 0
  have f1 := k0.cell 1
  have f2 := k0.cell 2
  have f3 := k0.cell 3
  go_enter Try.func36, Try.ntmps36
  go_upto_region 1 with fail
  rw [← HW.out]
  go_wp2_with fail
  refine (unhide HV).mono ?_
  rintro e w1 ⟨rfl, b1⟩
  have k1 := k0.below b1 k0.lt
  have kr1 := kr.below b1 kr.lt
  clear f0 f1 f2 f3
  have f0 := k1.cell 0
  have f1 := k1.cell 1
  have f2 := k1.cell 2
  have f3 := k1.cell 3
  have bb1 := b0.trans (b1.mono sk1)
  have z1 := b1.size
  have r0 := kr1.cell 0
  have r1 := kr1.cell 1
  have r2 := kr1.cell 2
  have r3 := kr1.cell 3
  have s0 := kr1.frozen 0
  have s1 := kr1.frozen 1
  have s2 := kr1.frozen 2
  have s3 := kr1.frozen 3
  go_wp2
  refine bodyPost_ret (results_cell_tmp_row rfl _ _ (w.heap.size + 1) 37 #[.int .i64 0, .int .i64 0, .slice none 0 0, .slice none 0 0] _ rfl (kr1.b4.store _ _ _ _) Try.underlying37 rfl (by kernel_rfl)) rfl ?_
  rw [HN.out]
  exact ⟨_, _, rfl, OwnC.nil _ _, Below.set4 bb1 (by omega) _ _ _ _⟩
 | true =>
  obtain ⟨F, n, rfl, rfl, rfl, hC⟩ := okC_gc hk
  have ok := hC.good.ok
  obtain ⟨n2, n64⟩ := ok.n_bd
  have hm1 := hC.m1
  have hm0 : 0 < m.length := by omega
  have hm8 := hC.m8
  have hn1 := hC.n1
  have hn32 := hC.n32
  rw [hk] at hV
  have HV := hide hV
  have hRR : r = mkC F (nul F m n) := by rw [← hR, dualRes, hk, fdR_eq, hC.hn]; rfl
  clear hV hk hR
  obtain ⟨gb, ob, rfl, hgb, hcc⟩ := hm.at_ hm1
  obtain ⟨ai, ci, hr0, _⟩ := hcc 0 hm1
  rw [Nat.add_zero, hC.hn] at hr0
  have hT := fun W (h : Below W0.heap.size W0 W) => tablesOf_any F a c W ((hx.below b0).below h) ok
  have hW := fun tv W (h : Below W0.heap.size W0 W) hT => nullSpace_any F tv (some ⟨gb, ob, none⟩) rc m n W hT hC.good ((hm.below b0).below h) hm1 hC.mat hn1 (by omega)
  have hNM := nul_Mat ok m n
  have hNF := nul_fix hC.good (m := m) (n := n)
  obtain ⟨N, hN⟩ : ∃ N, N = nul F m n := ⟨_, rfl⟩
  rw [← hN] at hW hRR hNM hNF
  have hCO := fun b d W (h : Below W0.heap.size W0 W) (hy : RdS W b N) => codeOf_all F a c b d N n W ((hx.below b0).below h) hC.good hy hNM
  rw [hNF] at hCO
  have HT := hide hT
  have HWW := hide hW
  have HCO := hide hCO
  have HRR := Lib.hid hRR
  have BX := hide (show ∀ W, Below W0.heap.size W0 W → (Below w.heap.size w W ∧ W.cell? ⟨w.heap.size, 0, none⟩ = some (.int .i64 F.p) ∧ W.cell? ⟨w.heap.size, 1, none⟩ = some (.int .i64 F.k) ∧ W.cell? ⟨w.heap.size, 2, none⟩ = some (.slice a F.poly.length c) ∧ W.cell? ⟨w.heap.size, 3, none⟩ = some (.slice (some ⟨gb, ob, none⟩) m.length rc) ∧ W.cell? ⟨gb, ob, none⟩ = some (.slice ai n ci)) from fun W h => ⟨b0.trans (h.mono sk1), (k0.below h k0.lt).cell 0, (k0.below h k0.lt).cell 1, (k0.below h k0.lt).cell 2, (k0.below h k0.lt).cell 3, ((b0.trans (h.mono sk1)).cell (p := ⟨gb, ob, none⟩) hgb).trans hr0⟩)
  have BZ := hide (show ∀ x y z u W, Below W0.heap.size W0 W → (Below w.heap.size w ((((W.setCell ⟨w.heap.size + 1, 0, none⟩ x).setCell ⟨w.heap.size + 1, 1, none⟩ y).setCell ⟨w.heap.size + 1, 2, none⟩ z).setCell ⟨w.heap.size + 1, 3, none⟩ u) ∧ ((((W.setCell ⟨w.heap.size + 1, 0, none⟩ x).setCell ⟨w.heap.size + 1, 1, none⟩ y).setCell ⟨w.heap.size + 1, 2, none⟩ z).setCell ⟨w.heap.size + 1, 3, none⟩ u).cell? ⟨w.heap.size, 0, none⟩ = some (.int .i64 F.p) ∧ ((((W.setCell ⟨w.heap.size + 1, 0, none⟩ x).setCell ⟨w.heap.size + 1, 1, none⟩ y).setCell ⟨w.heap.size + 1, 2, none⟩ z).setCell ⟨w.heap.size + 1, 3, none⟩ u).cell? ⟨w.heap.size, 1, none⟩ = some (.int .i64 F.k) ∧ ((((W.setCell ⟨w.heap.size + 1, 0, none⟩ x).setCell ⟨w.heap.size + 1, 1, none⟩ y).setCell ⟨w.heap.size + 1, 2, none⟩ z).setCell ⟨w.heap.size + 1, 3, none⟩ u).cell? ⟨w.heap.size, 2, none⟩ = some (.slice a F.poly.length c) ∧ ((((W.setCell ⟨w.heap.size + 1, 0, none⟩ x).setCell ⟨w.heap.size + 1, 1, none⟩ y).setCell ⟨w.heap.size + 1, 2, none⟩ z).setCell ⟨w.heap.size + 1, 3, none⟩ u).cell? ⟨w.heap.size, 3, none⟩ = some (.slice (some ⟨gb, ob, none⟩) m.length rc) ∧ ((((W.setCell ⟨w.heap.size + 1, 0, none⟩ x).setCell ⟨w.heap.size + 1, 1, none⟩ y).setCell ⟨w.heap.size + 1, 2, none⟩ z).setCell ⟨w.heap.size + 1, 3, none⟩ u).cell? ⟨gb, ob, none⟩ = some (.slice ai n ci)) from fun x y z u W h => by
   have k := Below.set4 (Below.refl (w.heap.size + 1) W) (Nat.le_refl _) x y z u
   obtain ⟨q, q0, q1, q2, q3, q4⟩ := unhide BX W h
   exact ⟨Below.set4 q (by omega) x y z u, (k.cell (p := ⟨w.heap.size, 0, none⟩) (by show w.heap.size < _; omega)).trans q0, (k.cell (p := ⟨w.heap.size, 1, none⟩) (by show w.heap.size < _; omega)).trans q1, (k.cell (p := ⟨w.heap.size, 2, none⟩) (by show w.heap.size < _; omega)).trans q2, (k.cell (p := ⟨w.heap.size, 3, none⟩) (by show w.heap.size < _; omega)).trans q3, (k.cell (p := ⟨gb, ob, none⟩) (by show gb < _; omega)).trans q4⟩)
  clear hT hW hC hN hcc hNM hNF hCO hRR
  have f0 := k0.cell 0
  have f1 := k0.cell 1
  have f2 := k0.cell 2
  have f3 := k0.cell 3
  go_enter Try.func36, Try.ntmps36
  go_upto_region 1 with fail
  rw [← HW.out]
  go_wp2_with fail
  refine (unhide HV).mono ?_
  rintro e w1 ⟨rfl, b1⟩
  have k1 := k0.below b1 k0.lt
  have kr1 := kr.below b1 kr.lt
  clear f0 f1 f2 f3
  have f0 := k1.cell 0
  have f1 := k1.cell 1
  have f2 := k1.cell 2
  have f3 := k1.cell 3
  have bb1 := b0.trans (b1.mono sk1)
  have z1 := b1.size
  go_upto_region 3 with fail
  refine wp_region_noPanic ?_
  refine wp_region_ord (S := (fun W => Below w.heap.size w W ∧ W.cell? ⟨w.heap.size, 0, none⟩ = some (.int .i64 F.p) ∧ W.cell? ⟨w.heap.size, 1, none⟩ = some (.int .i64 F.k) ∧ W.cell? ⟨w.heap.size, 2, none⟩ = some (.slice a F.poly.length c) ∧ W.cell? ⟨w.heap.size, 3, none⟩ = some (.slice (some ⟨gb, ob, none⟩) m.length rc) ∧ W.cell? ⟨gb, ob, none⟩ = some (.slice ai n ci))) [(true, 0), (true, 1), (true, 2), (true, 3), (true, 5), (true, 6), (true, 7), (true, 8), (true, 9), (true, 10), (true, 11), (false, 4), (false, 12), (false, 13), (true, 14), (true, 15), (false, 16), (true, 17)] (by kernel_rfl) (by kernel_rfl) (by kernel_rfl) rfl (fun _ _ _ _ _ h => h) ?_ (fun hHeld => ?_)
  · exact (unhide BX) _ b1.drew
  refine SeqO.take (by rfl) (v := ?hv1) (by rfl) ?hy1 ?hr1
  case hy1 =>
   intro w hSw
   try dsimp only at hSw
   go_simp
   try (with_reducible rfl)
  try simp only [Act.put, List.setIfInBounds_toArray, List.set_cons_zero, List.set_cons_succ]
  refine SeqO.take (by rfl) (v := ?hv2) (by rfl) ?hy2 ?hr2
  case hy2 =>
   intro w hSw
   try dsimp only at hSw
   go_simp
   try (with_reducible rfl)
  try simp only [Act.put, List.setIfInBounds_toArray, List.set_cons_zero, List.set_cons_succ]
  refine SeqO.take (by rfl) (v := ?hv3) (by rfl) ?hy3 ?hr3
  case hy3 =>
   intro w hSw
   try dsimp only at hSw
   go_simp
   try (with_reducible rfl)
  try simp only [Act.put, List.setIfInBounds_toArray, List.set_cons_zero, List.set_cons_succ]
  refine SeqO.take (by rfl) (v := ?hv4) (by rfl) ?hy4 ?hr4
  case hy4 =>
   intro w hSw
   try dsimp only at hSw
   go_simp
   try (with_reducible rfl)
  try simp only [Act.put, List.setIfInBounds_toArray, List.set_cons_zero, List.set_cons_succ]
  refine SeqO.take (by rfl) (v := ?hv5) (by rfl) ?hy5 ?hr5
  case hy5 =>
   intro w hSw
   try dsimp only at hSw
   go_simp
   try (with_reducible rfl)
  try simp only [Act.put, List.setIfInBounds_toArray, List.set_cons_zero, List.set_cons_succ]
  refine SeqO.take (by rfl) (v := ?hv6) (by rfl) ?hy6 ?hr6
  case hy6 =>
   intro w hSw
   try dsimp only at hSw
   go_simp
   try (with_reducible rfl)
  try simp only [Act.put, List.setIfInBounds_toArray, List.set_cons_zero, List.set_cons_succ]
  refine SeqO.take (by rfl) (v := ?hv7) (by rfl) ?hy7 ?hr7
  case hy7 =>
   intro w hSw
   try dsimp only at hSw
   go_simp
   try (with_reducible rfl)
  try simp only [Act.put, List.setIfInBounds_toArray, List.set_cons_zero, List.set_cons_succ]
  refine SeqO.take (by rfl) (v := ?hv8) (by rfl) ?hy8 ?hr8
  case hy8 =>
   intro w hSw
   try dsimp only at hSw
   go_simp
   try (with_reducible rfl)
  try simp only [Act.put, List.setIfInBounds_toArray, List.set_cons_zero, List.set_cons_succ]
  refine SeqO.take (by rfl) (v := ?hv9) (by rfl) ?hy9 ?hr9
  case hy9 =>
   intro w hSw
   try dsimp only at hSw
   go_simp
   try (with_reducible rfl)
  try simp only [Act.put, List.setIfInBounds_toArray, List.set_cons_zero, List.set_cons_succ]
  refine SeqO.take (by rfl) (v := ?hv10) (by rfl) ?hy10 ?hr10
  case hy10 =>
   intro w hSw
   try dsimp only at hSw
   go_simp
   try (with_reducible rfl)
  try simp only [Act.put, List.setIfInBounds_toArray, List.set_cons_zero, List.set_cons_succ]
  refine SeqO.take (by rfl) (v := ?hv11) (by rfl) ?hy11 ?hr11
  case hy11 =>
   intro w hSw
   try dsimp only at hSw
   go_simp
   try (with_reducible rfl)
  try simp only [Act.put, List.setIfInBounds_toArray, List.set_cons_zero, List.set_cons_succ]
  refine SeqO.call (by rfl) (fun K hK => ?_)
  go_simp
  refine (unhide HT _ b1.drew).mono ?_
  rintro e w2 ⟨tv, rfl, t2, b2⟩
  have hB2 := Below.chain b1.drew b2
  go_wp2_with fail
  refine hK.out _ _ ?_ (fun hHeld => ?_)
  · exact (unhide BX) _ hB2
  clear hK K
  try simp only [Act.put, List.setIfInBounds_toArray, List.set_cons_zero, List.set_cons_succ]
  refine SeqO.call (by rfl) (fun K hK => ?_)
  go_simp
  refine (unhide HWW tv _ hB2 t2).mono ?_
  rintro e w3 ⟨u, rfl, o3, b3⟩
  obtain ⟨ax, cx, rfl, r3⟩ := o3.form
  have hB3 := Below.chain hB2 b3
  have z3 := hB3.size
  have p3 : w.heap.size + 1 < w3.heap.size := by omega
  go_wp2_with fail
  refine hK.out _ _ ?_ (fun hHeld => ?_)
  · exact (unhide BX) _ hB3
  clear hK K
  try simp only [Act.put, List.setIfInBounds_toArray, List.set_cons_zero, List.set_cons_succ]
  refine SeqO.call (by rfl) (fun K hK => ?_)
  go_simp
  refine (unhide HCO ax cx _ hB3 r3).mono ?_
  rintro e w4 ⟨v4, u4, rfl, o4, b4⟩
  have hB4 := Below.chain hB3 b4
  obtain ⟨qq, hqq⟩ : ∃ qq, qq = mkC F N := ⟨_, rfl⟩
  rw [← hqq] at o4 ⊢
  obtain ⟨rp, rd, rx, ry, rz⟩ := qq
  simp only [] at o4 ⊢
  obtain ⟨a4, c4, p4, d4, rfl, rfl, _, _⟩ := o4.form
  have HQ := Lib.hid hqq
  clear hqq
  have kr4 := kr.below hB4 kr.lt
  have bb4 := b0.trans (hB4.mono sk1)
  have r0 := kr4.cell 0
  have r1 := kr4.cell 1
  have r2 := kr4.cell 2
  have r3 := kr4.cell 3
  have s0 := kr4.frozen 0
  have s1 := kr4.frozen 1
  have s2 := kr4.frozen 2
  have s3 := kr4.frozen 3
  go_wp2_with fail
  refine hK.out _ _ ?_ (fun hHeld => ?_)
  · exact (unhide BX) _ hB4
  clear hK K
  try simp only [Act.put, List.setIfInBounds_toArray, List.set_cons_zero, List.set_cons_succ]
  refine SeqO.take (by rfl) (v := ?hv12) (by rfl) ?hy12 ?hr12
  case hy12 =>
   intro w hSw
   try dsimp only at hSw
   go_simp
   try (with_reducible rfl)
  try simp only [Act.put, List.setIfInBounds_toArray, List.set_cons_zero, List.set_cons_succ]
  refine SeqO.take (by rfl) (v := ?hv13) (by rfl) ?hy13 ?hr13
  case hy13 =>
   intro w hSw
   try dsimp only at hSw
   go_simp
   try (with_reducible rfl)
  try simp only [Act.put, List.setIfInBounds_toArray, List.set_cons_zero, List.set_cons_succ]
  refine SeqO.call (by rfl) (fun K hK => ?_)
  go_simp
  refine hK.out _ _ ?_ (fun hHeld => ?_)
  · exact (unhide BZ) _ _ _ _ _ hB4
  clear hK K
  try simp only [Act.put, List.setIfInBounds_toArray, List.set_cons_zero, List.set_cons_succ]
  refine SeqO.take (by rfl) (v := ?hv14) (by rfl) ?hy14 ?hr14
  case hy14 =>
   intro w hSw
   try dsimp only at hSw
   go_simp
   try (with_reducible rfl)
  try simp only [Act.put, List.setIfInBounds_toArray, List.set_cons_zero, List.set_cons_succ]
  refine SeqO.done (NoPanic.normal ?_)
  go_wp2
  refine bodyPost_ret (results_cell_tmp_row rfl _ _ (w.heap.size + 1) 37 #[.int .i64 rp, .int .i64 rd, .slice a4 rx.length c4, .slice p4 ry.length d4] _ rfl (kr4.b4.store _ _ _ _) Try.underlying37 rfl (by kernel_rfl)) rfl ?_
  rw [HRR.out, ← HQ.out]
  refine ⟨_, _, rfl, ?_, Below.set4 bb4 (by omega) _ _ _ _⟩
  exact ((((o4.storeBelow p3 _).storeBelow p3 _).storeBelow p3 _).storeBelow p3 _).mono (by omega)
end Go.Proofs.Ytgmgpcaahanmiaa
namespace Go.Proofs.Ytgmgpcaahanmiaa
open Go.RowKit
attribute [local go_sem ↓] Go.wp_at_zero Go.wp_at_succ
theorem fdOf_good {q : Int} (h : isField q = true) : (fdOf q).Good := by
 obtain ⟨ok, hq, hs⟩ := fdOf_ok h
 exact ⟨ok, by rw [hq]; exact hs⟩
end Go.Proofs.Ytgmgpcaahanmiaa
namespace Go.Proofs.Ytgmgpcaahanmiaa
open Go.RowKit
attribute [local go_sem ↓] Go.wp_at_zero Go.wp_at_succ
theorem results_cell_tmp2_row {P : Program} {fn : Func} {p u v : Tmp} {ty : TypeId} (h : fn.results = #[.cell p ty, .tmp u, .tmp v]) (tmps : Array Value) (w : World) (g : Nat) (t : TypeId) (cs : Array Value) (d : TypeDesc)
    (hp : tmps.getD p undef = .pointer (some ⟨g, 0, none⟩)) (hg : Blk w g t cs)
    (hu : P.underlying ty = some d) (hd : (match d with | .struct _ | .array _ _ => true | _ => false) = true) (hi : (P.info? ty).map (·.size) = some cs.size) :
    (results fn tmps).run P w = .ok (.tuple #[.agg cs, tmps.getD u undef, tmps.getD v undef]) w := by
 have e : (results fn tmps).run P w = ((asAddr (tmps.getD p undef)).run P w).andThen fun a w₁ => ((loadVar ty a).run P w₁).andThen fun x w₂ => .ok (.tuple #[x, tmps.getD u undef, tmps.getD v undef]) w₂ := by
  simp only [results, h]
  simp [Sem.run_bind, Result.andThen]
 rw [e, hp]
 simp [asAddr, run_loadVar_row w g t ty cs (0, 0) d hg hu hd hi, Result.andThen]
theorem hcols_bd {q r : Int} (hf : isField q = true) (hc : colsOk q r = true) : 2 ≤ r.toNat ∧ r.toNat ≤ 4 ∧ 3 ≤ (hcols q r).length ∧ (hcols q r).length ≤ 32 ∧ (fdOf q).Mat r.toNat (hcols q r) := by
 obtain ⟨h2, h64, _⟩ := isField_size hf
 obtain ⟨hr2, hr4, hm⟩ := colsOk_true hc
 obtain ⟨ok, hq, hs⟩ := fdOf_ok hf
 have hl := hcols_len (q := q) (r := r) h2
 have h3 := many_two (q := q.toNat) (by omega) (r := r.toNat) (by omega)
 have he := hcols_el (q := q) (r := r) h2 (by omega)
 refine ⟨by omega, by omega, by omega, by omega, fun xs hx => ⟨(he xs hx).1, fun x h => ?_⟩⟩
 have := (he xs hx).2 x h
 have := ok.n_eq
 omega
def hamRes (q r : Int) : Int × Int × List Int × List (List Int) × Int := if (isField q && colsOk q r) = true then mkC (fdOf q) (nul (fdOf q) (cols (hcols q r) r.toNat) (hcols q r).length) else (0, 0, [], [], 2)
def simRes (q r : Int) : Int × Int × List Int × List (List Int) × Int := if (isField q && colsOk q r) = true then mkC (fdOf q) (form (fdOf q) (cols (hcols q r) r.toNat) (hcols q r).length) else (0, 0, [], [], 2)
theorem checked_yes (q r : Int) (w : World) (hf : isField q = true) (hc : colsOk q r = true) :
    Calls Try.prog 87 #[.int .i64 q, .int .i64 r] w fun e w' => ∃ v u, e = .returned (.tuple #[.agg #[.int .i64 (fdOf q).p, .int .i64 (fdOf q).k, v], u, .int .i64 0]) ∧ Own w' w.heap.size v (fdOf q).poly ∧ OwnS w' w.heap.size u (hcols q r) ∧ Below w.heap.size w w' := by
 obtain ⟨W0, hHW⟩ : ∃ z, z = w.alloc (.cells #[.int .i64 0, .int .i64 0, .slice none 0 0] 34) := ⟨_, rfl⟩
 have b0 : Below w.heap.size w W0 := by rw [hHW]; exact (Below.refl _ _).alloc (Nat.le_refl _) _
 have kr : Blk W0 w.heap.size 34 #[.int .i64 0, .int .i64 0, .slice none 0 0] := by rw [hHW]; exact Blk.new _ _ _ rfl
 have sk0 : w.heap.size < W0.heap.size := kr.lt
 have HW := Lib.hid hHW
 clear hHW
 obtain ⟨h2, h64, _⟩ := isField_size hf
 have hM := implMake_any q W0 hf
 have hCC := fun W => checkColumns_any q.toNat r W (by omega) (by omega)
 rw [Int.toNat_of_nonneg (show 0 ≤ q by omega), hc] at hCC
 have hCC : ∀ W, Calls Try.prog 170 #[.int .i64 q, .int .i64 r] W fun e w' => ∃ v, e = .returned (.tuple #[v, .bool true]) ∧ OwnS w' W.heap.size v (hcols q r) ∧ Below W.heap.size W w' := hCC
 generalize fdOf q = F at hM ⊢
 obtain ⟨C, hC⟩ : ∃ C, C = hcols q r := ⟨_, rfl⟩
 rw [← hC] at hCC ⊢
 have HM := hide hM
 have HCC := hide hCC
 clear hM hCC hC hf hc
 go_enter Try.func87, Try.ntmps87
 go_upto_region 1 with fail
 rw [← HW.out]
 go_wp2_with fail
 refine (unhide HM).mono ?_
 rintro e w1 ⟨v1, rfl, o1, b1⟩
 obtain ⟨a1, c1, rfl, r1, _⟩ := o1.form
 obtain ⟨W1, hHF⟩ : ∃ z, z = w1.alloc (.cells #[.int .i64 F.p, .int .i64 F.k, .slice a1 F.poly.length c1] 34) := ⟨_, rfl⟩
 have bF : Below w1.heap.size w1 W1 := by rw [hHF]; exact (Below.refl _ _).alloc (Nat.le_refl _) _
 have kF : Blk W1 w1.heap.size 34 #[.int .i64 F.p, .int .i64 F.k, .slice a1 F.poly.length c1] := by rw [hHF]; exact Blk.new _ _ _ rfl
 have HF := Lib.hid hHF
 clear hHF
 have c1x := Below.chain b1 bF
 have z1 := c1x.size
 have o1x := o1.below bF (Nat.le_refl _)
 have kF1 := kF
 go_upto_region 2 with fail
 rw [← HF.out]
 go_wp2_with fail
 refine (unhide HCC _).mono ?_
 rintro e w2 ⟨v2, rfl, o2, b2⟩
 have kF2 := kF.below b2 kF.lt
 have c2 := Below.chain c1x b2
 have kr2 := kr.below c2 kr.lt
 have o3 := o1x.below b2 (Nat.le_refl _)
 obtain ⟨a2, d2, rfl, _⟩ := o2.form
 have f0 := kF2.cell 0
 have f1 := kF2.cell 1
 have f2 := kF2.cell 2
 have r0 := kr2.cell 0
 have r1 := kr2.cell 1
 have r2 := kr2.cell 2
 have s0 := kr2.frozen 0
 have s1 := kr2.frozen 1
 have s2 := kr2.frozen 2
 go_wp2
 refine bodyPost_ret (results_cell_tmp2_row rfl _ _ w.heap.size 34 #[.int .i64 F.p, .int .i64 F.k, .slice a1 F.poly.length c1] _ rfl (kr2.b3.store _ _ _) Try.underlying34 rfl (by kernel_rfl)) rfl ?_
 refine ⟨_, _, rfl, ?_, ?_, Below.set3 (b0.trans (c2.mono (Nat.le_of_lt sk0))) (Nat.le_refl _) _ _ _⟩
 · exact (((o3.storeBelow (by show w.heap.size < _; omega) _).storeBelow (by show w.heap.size < _; omega) _).storeBelow (by show w.heap.size < _; omega) _).mono (by omega)
 · exact (((o2.storeBelow (by show w.heap.size < _; omega) _).storeBelow (by show w.heap.size < _; omega) _).storeBelow (by show w.heap.size < _; omega) _).mono (by omega)
theorem checked_no (q r : Int) (w : World) (hn : (isField q && colsOk q r) = false) :
    Calls Try.prog 87 #[.int .i64 q, .int .i64 r] w fun e w' => e = .returned (.tuple #[.agg #[.int .i64 0, .int .i64 0, .slice none 0 0], .slice none 0 0, .int .i64 2]) ∧ Below w.heap.size w w' := by
 obtain ⟨W0, hHW⟩ : ∃ z, z = w.alloc (.cells #[.int .i64 0, .int .i64 0, .slice none 0 0] 34) := ⟨_, rfl⟩
 have b0 : Below w.heap.size w W0 := by rw [hHW]; exact (Below.refl _ _).alloc (Nat.le_refl _) _
 have kr : Blk W0 w.heap.size 34 #[.int .i64 0, .int .i64 0, .slice none 0 0] := by rw [hHW]; exact Blk.new _ _ _ rfl
 have sk0 : w.heap.size < W0.heap.size := kr.lt
 have HW := Lib.hid hHW
 clear hHW
 by_cases hf : isField q = true
 ·
  obtain ⟨h2, h64, _⟩ := isField_size hf
  have hc : colsOk q r = false := by rw [hf, Bool.true_and] at hn; exact hn
  have hM := implMake_any q W0 hf
  have hCC := fun W => checkColumns_any q.toNat r W (by omega) (by omega)
  rw [Int.toNat_of_nonneg (show 0 ≤ q by omega), hc] at hCC
  have hCC : ∀ W, Calls Try.prog 170 #[.int .i64 q, .int .i64 r] W fun e w' => ∃ v, e = .returned (.tuple #[v, .bool false]) ∧ OwnS w' W.heap.size v [] ∧ Below W.heap.size W w' := hCC
  generalize fdOf q = F at hM
  have HM := hide hM
  have HCC := hide hCC
  clear hM hCC hf hc hn
  go_enter Try.func87, Try.ntmps87
  go_upto_region 1 with fail
  rw [← HW.out]
  go_wp2_with fail
  refine (unhide HM).mono ?_
  rintro e w1 ⟨v1, rfl, o1, b1⟩
  obtain ⟨a1, c1, rfl, r1, _⟩ := o1.form
  obtain ⟨W1, hHF⟩ : ∃ z, z = w1.alloc (.cells #[.int .i64 F.p, .int .i64 F.k, .slice a1 F.poly.length c1] 34) := ⟨_, rfl⟩
  have bF : Below w1.heap.size w1 W1 := by rw [hHF]; exact (Below.refl _ _).alloc (Nat.le_refl _) _
  have kF : Blk W1 w1.heap.size 34 #[.int .i64 F.p, .int .i64 F.k, .slice a1 F.poly.length c1] := by rw [hHF]; exact Blk.new _ _ _ rfl
  have HF := Lib.hid hHF
  clear hHF
  have c1x := Below.chain b1 bF
  go_upto_region 2 with fail
  rw [← HF.out]
  go_wp2_with fail
  refine (unhide HCC _).mono ?_
  rintro e w2 ⟨v2, rfl, o2, b2⟩
  have c2 := Below.chain c1x b2
  have kr2 := kr.below c2 kr.lt
  obtain ⟨a2, d2, rfl, _⟩ := o2.form
  have r0 := kr2.cell 0
  have r1 := kr2.cell 1
  have r2 := kr2.cell 2
  have s0 := kr2.frozen 0
  have s1 := kr2.frozen 1
  have s2 := kr2.frozen 2
  go_wp2
  refine bodyPost_ret (results_cell_tmp2_row rfl _ _ w.heap.size 34 #[.int .i64 0, .int .i64 0, .slice none 0 0] _ rfl (kr2.b3.store _ _ _) Try.underlying34 rfl (by kernel_rfl)) rfl ?_
  exact ⟨rfl, Below.set3 (b0.trans (c2.mono (Nat.le_of_lt sk0))) (Nat.le_refl _) _ _ _⟩
 ·
  have hM := MakeField_no q W0 (by simpa using hf)
  have HM := hide hM
  clear hM hf hn
  go_enter Try.func87, Try.ntmps87
  go_upto_region 1 with fail
  rw [← HW.out]
  go_wp2_with fail
  refine (unhide HM).mono ?_
  rintro e w1 ⟨v1, rfl, o1, b1⟩
  obtain ⟨a1, c1, rfl, r1, _⟩ := o1.form
  obtain ⟨W1, hHF⟩ : ∃ z, z = w1.alloc (.cells #[.int .i64 0, .int .i64 0, .slice a1 0 c1] 34) := ⟨_, rfl⟩
  have bF : Below w1.heap.size w1 W1 := by rw [hHF]; exact (Below.refl _ _).alloc (Nat.le_refl _) _
  have kF : Blk W1 w1.heap.size 34 #[.int .i64 0, .int .i64 0, .slice a1 0 c1] := by rw [hHF]; exact Blk.new _ _ _ rfl
  have HF := Lib.hid hHF
  clear hHF
  have c1x := Below.chain b1 bF
  have kr2 := kr.below c1x kr.lt
  go_upto_region 2 with fail
  rw [← HF.out]
  have r0 := kr2.cell 0
  have r1 := kr2.cell 1
  have r2 := kr2.cell 2
  have s0 := kr2.frozen 0
  have s1 := kr2.frozen 1
  have s2 := kr2.frozen 2
  go_wp2
  refine bodyPost_ret (results_cell_tmp2_row rfl _ _ w.heap.size 34 #[.int .i64 0, .int .i64 0, .slice none 0 0] _ rfl (kr2.b3.store _ _ _) Try.underlying34 rfl (by kernel_rfl)) rfl ?_
  exact ⟨rfl, Below.set3 (b0.trans (c1x.mono (Nat.le_of_lt sk0))) (Nat.le_refl _) _ _ _⟩
structure HamH (w : World) (B g : Nat) (F : FD) (a : Option Addr) (c : Nat) (b : Option Addr) (d : Nat) (C : List (List Int)) (W : World) : Prop where
 bel : Below w.heap.size w W
 lt : w.heap.size < B ∧ B ≤ W.heap.size ∧ g < W.heap.size ∧ w.heap.size ≠ g
 kF : Blk W g 34 #[.int .i64 F.p, .int .i64 F.k, .slice a F.poly.length c]
 po : Own W B (.slice a F.poly.length c) F.poly
 co : OwnS W B (.slice b C.length d) C
 kr : B4 W w.heap.size 37
theorem HamH.next {w : World} {B g : Nat} {F : FD} {a : Option Addr} {c : Nat} {b : Option Addr} {d : Nat} {C : List (List Int)} {W W' : World} (h : HamH w B g F a c b d C W) (hb : Below W.heap.size W W') : HamH w B g F a c b d C W' := by
 have hz := hb.size
 obtain ⟨x, y, z, u, hk⟩ := h.kr
 have hl := h.lt
 exact ⟨h.bel.trans (hb.mono (by omega)), ⟨hl.1, by omega, by omega, hl.2.2.2⟩, h.kF.below hb h.kF.lt, h.po.below hb (Nat.le_refl _), h.co.below hb (Nat.le_refl _), ⟨_, _, _, _, hk.below hb hk.lt⟩⟩
theorem HamH.store {w : World} {B g : Nat} {F : FD} {a : Option Addr} {c : Nat} {b : Option Addr} {d : Nat} {C : List (List Int)} {W : World} (h : HamH w B g F a c b d C W) (x y z u : Value) : HamH w B g F a c b d C ((((W.setCell ⟨w.heap.size, 0, none⟩ x).setCell ⟨w.heap.size, 1, none⟩ y).setCell ⟨w.heap.size, 2, none⟩ z).setCell ⟨w.heap.size, 3, none⟩ u) := by
 have hl := h.lt
 have hne : g ≠ w.heap.size := Ne.symm hl.2.2.2
 refine ⟨Below.set4 h.bel (Nat.le_refl _) _ _ _ _, ⟨hl.1, ?_, ?_, hl.2.2.2⟩, ?_, ?_, ?_, ?_⟩
 · simpa using hl.2.1
 · simpa using hl.2.2.1
 · exact (((h.kF.far (p := ⟨w.heap.size, 0, none⟩) hne _).far (p := ⟨w.heap.size, 1, none⟩) hne _).far (p := ⟨w.heap.size, 2, none⟩) hne _).far (p := ⟨w.heap.size, 3, none⟩) hne _
 · exact (((h.po.storeBelow (by show w.heap.size < _; omega) _).storeBelow (by show w.heap.size < _; omega) _).storeBelow (by show w.heap.size < _; omega) _).storeBelow (by show w.heap.size < _; omega) _
 · exact (((h.co.storeBelow (by show w.heap.size < _; omega) _).storeBelow (by show w.heap.size < _; omega) _).storeBelow (by show w.heap.size < _; omega) _).storeBelow (by show w.heap.size < _; omega) _
 · exact ⟨_, _, _, _, h.kr.store x y z u⟩
end Go.Proofs.Ytgmgpcaahanmiaa
namespace Go.Proofs.Ytgmgpcaahanmiaa
open Go.RowKit
attribute [local go_sem ↓] Go.wp_at_zero Go.wp_at_succ
def plcC (C : List (List Int)) (s : List Int) : Nat := C.findIdx fun c => !decide (cmpL c s < 0)
theorem plcC_eq {C : List (List Int)} {s : List Int} {p : Nat} (hp : p < C.length) (h1 : ∀ i, i < p → cmpL (nthL C i) s < 0) (h2 : ¬ cmpL (nthL C p) s < 0) : plcC C s = p := by
 rw [plcC, List.findIdx_eq hp]
 refine ⟨by rw [← nthL_lt hp]; simpa using h2, fun j hj => ?_⟩
 rw [← nthL_lt (by omega)]
 simpa using h1 j hj
def corr (F : FD) (r : Nat) (C : List (List Int)) (word : List Int) : List Int :=
 if lead (encTo F r C word C.length) = 0 then word
 else word.set (plcC C (scale F (F.inv (lead (encTo F r C word C.length))) (encTo F r C word C.length)))
  (F.sub (nth word (plcC C (scale F (F.inv (lead (encTo F r C word C.length))) (encTo F r C word C.length)))) (lead (encTo F r C word C.length)))
theorem corNZ_any (x : Int) (w : World) : Calls Try.prog 93 #[.int .i64 x] w fun e w' => e = .returned (.bool (x != 0)) ∧ Below w.heap.size w w' := by
 go_enter Try.func93, Try.ntmps93
 go_wp2
 go_ret
 exact ⟨rfl, Below.refl _ _⟩
theorem ent_corNZ : ∀ (args : Array Value) (w : World), (callFunc 93 args).run Try.prog w = .ok (.enter 93 args) w := fun _ _ => by kernel_rfl
theorem implCO_ok (F : FD) (R : Nat) (C : List (List Int)) (b : Option Addr) (cb : Nat) (word : List Int) (w : World)
    (hV : ∀ W, Calls Try.prog 87 #[.int .i64 F.n, .int .i64 R] W fun e w' => ∃ v u, e = .returned (.tuple #[.agg #[.int .i64 F.p, .int .i64 F.k, v], u, .int .i64 0]) ∧ Own w' W.heap.size v F.poly ∧ OwnS w' W.heap.size u C ∧ Below W.heap.size W w')
    (hG : F.Good) (hC : C = colsUp F.n R (F.n ^ R)) (hCM : F.Mat R C) (hC3 : 3 ≤ C.length) (hC32 : C.length ≤ 32) (hR2 : 2 ≤ R) (hR4 : R ≤ 4) (hx : Rd w b word) (hl : word.length = C.length) (he : elems F.n word = true) :
    Calls Try.prog 16 #[.int .i64 F.n, .int .i64 R, .slice b word.length cb] w (ResL w (corr F R C word, 0)) := by
 have ok := hG.ok
 obtain ⟨n2, n64⟩ := ok.n_bd
 have hwe : ∀ x ∈ word, 0 ≤ x ∧ x < F.n := fun x hx => elems_true.1 he x hx
 have hAI := fun W (h : Rd W b word) => areIn_any F.n b cb word W (by omega) (by omega) h
 rw [he] at hAI
 have hT := fun a c W (h : Rd W a F.poly) => tablesOf_any F a c W h ok
 have hmk := fun W => run_make_row' (P := Try.prog) 22 2 (.int .i64 0) 8 Try.underlying22 Try.info_i64 rfl .i64 .i64 R (by omega) (by omega) W
 have hne : ((word.length : Int) != (C.length : Int)) = false := by rw [hl]; simp
 have hSl : (encTo F R C word C.length).length = R := encTo_len _ _ _ _ _
 have hSe := encTo_el ok R C word C.length
 have hpl := fun h0 => cor_place hG hSl hSe h0
 rw [← hC] at hpl
 obtain ⟨res, hres⟩ : ∃ res, res = corr F R C word := ⟨_, rfl⟩
 rw [← hres]
 have HRES := Lib.hid hres
 have HPL := hide hpl
 have HSL := Lib.hid hSl
 have HSE := hide hSe
 have HV := hide hV
 have HAI := hide hAI
 have HT := hide hT
 have HL := Lib.hid hl
 have HCM := hide hCM
 have HWE := hide hwe
 have HX := hide hx
 have hw3 : 3 ≤ word.length := by omega
 have hw32 : word.length ≤ 32 := by omega
 clear hres hpl hSl hSe hV hAI hT hl hC hCM hwe hx he
 go_enter Try.func16, Try.ntmps16
 go_wp2_with fail
 refine (unhide HV _).mono ?_
 rintro e w1 ⟨v1, u1, rfl, o1, q1, b1⟩
 obtain ⟨a1, c1, rfl, _, _⟩ := o1.form
 obtain ⟨au, cu, rfl, _⟩ := q1.form
 obtain ⟨W1, hHF⟩ : ∃ z, z = w1.alloc (.cells #[.int .i64 F.p, .int .i64 F.k, .slice a1 F.poly.length c1] 34) := ⟨_, rfl⟩
 have bF : Below w1.heap.size w1 W1 := by rw [hHF]; exact (Below.refl _ _).alloc (Nat.le_refl _) _
 have kF : Blk W1 w1.heap.size 34 #[.int .i64 F.p, .int .i64 F.k, .slice a1 F.poly.length c1] := by rw [hHF]; exact Blk.new _ _ _ rfl
 have HF := Lib.hid hHF
 clear hHF
 have d1 := Below.chain b1 bF
 have o1x := o1.below bF (Nat.le_refl _)
 have q1x := q1.below bF (Nat.le_refl _)
 clear o1 q1 b1 bF
 go_upto_region 2 with fail
 rw [← HF.out]
 go_wp2_with fail
 refine (unhide HAI _ ((unhide HX).below d1)).mono ?_
 rintro e w2 ⟨rfl, b2⟩
 have kF2 := kF.below b2 kF.lt
 have d2 := Below.chain d1 b2
 have o2 := o1x.below b2 (Nat.le_refl _)
 have q2 := q1x.below b2 (Nat.le_refl _)
 have f0 := kF2.cell 0
 have f1 := kF2.cell 1
 have f2 := kF2.cell 2
 clear kF o1x q1x d1 b2
 go_wp2_with fail
 refine (unhide HT _ _ _ o2.rd).mono ?_
 rintro e w3 ⟨tv, rfl, t3, b3⟩
 have t3' := t3
 obtain ⟨aA, cA, aS, cS, aM, cM, aI, cI, rfl, _, _, _, _⟩ := t3'
 obtain ⟨W4, hH4⟩ : ∃ z, z = w3.alloc (.cells #[.int .i64 F.n, .slice aA F.n cA, .slice aS F.n cS, .slice aM F.n cM, .slice aI F.n cI] 93) := ⟨_, rfl⟩
 have b4 : Below w3.heap.size w3 W4 := by rw [hH4]; exact (Below.refl _ _).alloc (Nat.le_refl _) _
 have kT : Blk W4 w3.heap.size 93 #[.int .i64 F.n, .slice aA F.n cA, .slice aS F.n cS, .slice aM F.n cM, .slice aI F.n cI] := by rw [hH4]; exact Blk.new _ _ _ rfl
 have H4 := Lib.hid hH4
 clear hH4
 have d34 := Below.chain b3 b4
 have q4 := q2.below d34 (Nat.le_refl _)
 have d4 := Below.chain d2 d34
 have t4 := t3.below b4
 have x4 := (unhide HX).below d4
 have skT := kT.lt
 have z4 := d4.size
 clear kF2 o2 q2 d2 t3 b3 b4 d34 f0 f1 f2
 go_upto_region 9 with fail
 rw [← H4.out]
 go_upto_region 10 with fail
 obtain ⟨W5, hW5⟩ : ∃ z, z = W4.alloc (.cells (madeCells #[.int .i64 0] R) 2) := ⟨_, rfl⟩
 have oz : Own W5 W4.heap.size (.slice (some ⟨W4.heap.size, 0, none⟩) R R) (zeros R) := by rw [hW5]; exact Own.zeros W4 (Nat.le_refl _) (by omega)
 have bz : Below W4.heap.size W4 W5 := by rw [hW5]; exact (Below.refl _ _).alloc (Nat.le_refl _) _
 rw [← hW5]
 have sz : W4.heap.size < W5.heap.size := by rw [hW5]; simp
 clear hW5
 have OZ := Lib.hid oz
 clear oz hmk
 obtain ⟨gc, oc, rfl, hgc, hcc⟩ := q4.rd.at_ (by omega)
 obtain ⟨gm, om, rfl, hgm, hcm⟩ := x4.at_ (by omega)
 have HCC := hide hcc
 have HCMM := hide hcm
 have HT4 := hide t4
 have HQ4 := hide q4.rd
 have HX4 := hide x4
 clear hcc hcm t4 q4 x4
 go_wp2_with fail
 go_loopw [50] (fun iv wr => ∃ k : Nat, iv = .int .i64 k ∧ k ≤ word.length ∧ Hid (Own wr W4.heap.size (.slice (some ⟨W4.heap.size, 0, none⟩) R R) (encTo F R C word k)) ∧ Hid (W5.grownBy wr (some W4.heap.size))) (fun iv _ => word.length - (intOf iv).toNat)
 case atStart => exact ⟨0, rfl, Nat.zero_le _, OZ, hide (grown_refl _ _)⟩
 case round =>
  obtain ⟨k, rfl, hk, ho, hg⟩ := hrel
  have hbg : Below W4.heap.size W4 wr := bz.grown hg.out (by omega) (fun q hq => by injection hq; omega)
  have kTr := kT.below hbg kT.lt
  have hzr := hbg.size
  have hzs : W4.heap.size < wr.heap.size := by have := hg.out.size; omega
  by_cases hkl : k < word.length
  · have hc1 := (hbg.cell (p := ⟨gm, om + k, none⟩) hgm).trans (unhide HCMM k hkl)
    have hxr := unhide HWE _ (nth_mem hkl)
    have hkC : k < C.length := by have := HL.out; omega
    obtain ⟨ai, ci, hr1, hrr⟩ := unhide HCC k hkC
    have hmt := Mat_nth (unhide HCM) hkC
    rw [hmt.1] at hr1
    have hr1w : wr.cell? ⟨gc, oc + k, none⟩ = some (.slice ai R ci) := (hbg.cell (p := ⟨gc, oc + k, none⟩) hgc).trans hr1
    obtain ⟨x, hxx⟩ : ∃ x, x = nth word k := ⟨_, rfl⟩
    rw [← hxx] at hc1 hxr
    have hat : Calls Try.prog 90 #[.agg #[.int .i64 F.n, .slice aA F.n cA, .slice aS F.n cS, .slice aM F.n cM, .slice aI F.n cI], .slice (some ⟨W4.heap.size, 0, none⟩) R R, .slice ai R ci, .int .i64 x] wr.drew fun e w' => e = .returned (.tuple #[]) ∧ Own w' W4.heap.size (.slice (some ⟨W4.heap.size, 0, none⟩) R R) (addTo F (encTo F R C word k) (nthL C k) x R) ∧ wr.drew.grownBy w' (some W4.heap.size) := by
     have hel := encTo_len F R C word k
     have h := addTimes_any F _ W4 wr.drew W4.heap.size W4.heap.size R ai ci (encTo F R C word k) (nthL C k) x ok (unhide HT4) hbg.drew (Nat.le_refl _) (by rw [hel]; exact ho.out.drewN 1) ((hrr.below hbg).drewN 1) (fun p hp => by
      obtain ⟨b2, o2, e2, hb2, _⟩ := hrr.at_ (by rw [hmt.1]; omega)
      rw [hp] at e2
      injection e2 with e2
      rw [e2]
      show b2 ≠ W4.heap.size
      omega) (by rw [hel, hmt.1]) hxr.1 hxr.2 (encTo_el ok R C word k) hmt.2
     rw [hel, hmt.1] at h
     exact h
    have HAT := hide hat
    have HST := Lib.hid (show encTo F R C word (k + 1) = addTo F (encTo F R C word k) (nthL C k) x R by rw [encTo, hxx])
    have f0 := kTr.cell 0
    have f1 := kTr.cell 1
    have f2 := kTr.cell 2
    have f3 := kTr.cell 3
    have f4 := kTr.cell 4
    clear hat hxx hmt hrr hr1
    go_wp2_with fail
    go_still_tail 7, (by kernel_rfl)
    change wpList _ _ _ _ _ wr.drew
    go_wp2_with fail
    refine (unhide HAT).mono ?_
    rintro e w5 ⟨rfl, o5, g5⟩
    go_wp2_with fail
    go_roundw
    case rel =>
     refine ⟨k + 1, by go_num, by omega, ?_, hide (grown_trans_row (grown_trans_row hg.out (grown_drew1 wr _)) g5)⟩
     show Own _ _ _ _
     rw [HST.out]
     exact o5
    case measure => simp only [intOf]; omega
  · have hke : k = word.length := by omega
    have oS := ho.out
    rw [hke, HL.out] at oS
    have hsl := HSL.out
    obtain ⟨S, hS⟩ : ∃ S, S = encTo F R C word C.length := ⟨_, rfl⟩
    rw [← hS] at oS hsl
    have hfo := fun (h : lead S ≠ 0) => lead_first h
    have hcl := clone_any (some ⟨gm, om, none⟩) cb word wr ((unhide HX4).below hbg)
    have HCL := hide hcl
    have HE := Lib.hid hke
    have HS := Lib.hid hS
    have hSL := Lib.hid hsl
    have HO := hide oS
    clear hcl hke hS hsl oS ho
    go_wp2_with fail
    refine (unhide HCL).mono ?_
    rintro e w6 ⟨v6, rfl, o6, b6⟩
    obtain ⟨a6, c6, rfl, _, _⟩ := o6.form
    have z6 := b6.size
    have oS6 := (unhide HO).below b6 (Nat.le_refl _)
    have hix := idxI0 93 (fun x => x != 0) (some ⟨W4.heap.size, 0, none⟩) R S w6 ent_corNZ oS6.rd (fun j W' _ _ => corNZ_any _ W')
    rw [hSL.out] at hix
    by_cases h0 : lead S = 0
    · rw [lead_none h0] at hix
      have hr0 : res = word := by
       have h := HRES.out
       rw [corr, ← HS.out, if_pos h0] at h
       exact h
      have HI := hide hix
      have HR0 := Lib.hid hr0
      clear hix hr0 h0 hfo oS6
      go_wp2_with fail
      refine (unhide HI).mono ?_
      rintro e w7 ⟨rfl, b7⟩
      have o7 := o6.below b7 (Nat.le_refl _)
      go_wp2_with fail
      go_ret2
      rw [HR0.out]
      exact ⟨_, rfl, o7.mono (by omega), Below.chain (Below.chain d4 (hbg.mono (Nat.le_refl _))) (Below.chain b6 b7)⟩
    · obtain ⟨k0, hk0, hk1, hk2, hk3, hfo1⟩ := hfo h0
      rw [hfo1] at hix
      have hPL := unhide HPL (by rw [← HS.out]; exact h0)
      rw [← HS.out] at hPL
      have hlb := lead_bd (q := F.n) (by omega) (by rw [HS.out]; exact unhide HSE : ∀ y ∈ S, 0 ≤ y ∧ y < F.n)
      obtain ⟨p, hp, hp1, hp2, _⟩ := hPL
      have hres : res = word.set p (F.sub (nth word p) (lead S)) := by
       have h := HRES.out
       rw [corr, ← HS.out, if_neg h0, plcC_eq hp hp1 (by have := hp2 p (Nat.le_refl _) hp; omega)] at h
       exact h
      obtain ⟨_, i2, i3, _⟩ := inv_spec hG (a := lead S) (by omega) hlb.2
      have hc0 := oS6.cell (j := k0) hk0
      rw [hk1] at hc0
      rw [hSL.out] at hk0
      obtain ⟨f, hf⟩ : ∃ f, f = lead S := ⟨_, rfl⟩
      rw [← hf] at hc0 hres i2 i3 hlb hp1 hp2 h0
      obtain ⟨fn, rfl⟩ := Int.eq_ofNat_of_zero_le hlb.1
      obtain ⟨vn, hvn⟩ := Int.eq_ofNat_of_zero_le (show 0 ≤ F.inv fn by omega)
      rw [hvn] at i2 i3 hp1 hp2
      have hfF : fn < F.n := by omega
      have hvF : vn < F.n := by omega
      have hIN := invTo_nth hG (j := fn) hfF
      rw [hvn] at hIN
      have hk0b : decide ((0 : Int) ≤ (k0 : Int)) = true := by rw [decide_eq_true_eq]; omega
      have hsb := sub_bd ok (nth word p) fn
      have HI := hide hix
      have HRS := Lib.hid hres
      have HP1 := hide hp1
      have HP2 := hide hp2
      have HIN := Lib.hid hIN
      have HSB := hide hsb
      have HSE2 := hide (by rw [HS.out]; exact unhide HSE : ∀ y ∈ S, 0 ≤ y ∧ y < F.n)
      clear hix hres h0 hfo hp1 hp2 hIN hf hk1 hk2 hk3 hfo1 hvn hlb hsb
      go_wp2_with fail
      refine (unhide HI).mono ?_
      rintro e w7 ⟨rfl, b7⟩
      have z7 := b7.size
      have o7 := o6.below b7 (Nat.le_refl _)
      have oS7 := oS6.below b7 (Nat.le_refl _)
      have hc7 := oS7.cell (j := k0) (by rw [hSL.out]; exact hk0)
      have hcc0 := oS6.cell (j := k0) (by rw [hSL.out]; exact hk0)
      rw [hc0] at hcc0
      rw [← hcc0] at hc7
      have d67 := Below.chain b6 b7
      have hb7 := Below.chain hbg d67
      have z67 := hb7.size
      have OS7 := Lib.hid (show Own w7 W4.heap.size (.slice (some ⟨W4.heap.size, 0, none⟩) R R) (scaleTo F vn S 0) from oS7)
      have hal := scaleTo_all F vn S
      rw [hSL.out] at hal
      have HAL := Lib.hid hal
      clear oS7 oS6 hc0 hcc0 hal
      go_wp2_with fail
      go_loopw [76] (fun kv wr => ∃ j : Nat, kv = .int .i64 j ∧ j ≤ R ∧ Hid (Own wr W4.heap.size (.slice (some ⟨W4.heap.size, 0, none⟩) R R) (scaleTo F vn S j)) ∧ Hid (w7.grownBy wr (some W4.heap.size))) (fun kv _ => R - (intOf kv).toNat)
      case atStart => exact ⟨0, rfl, Nat.zero_le _, OS7, hide (grown_refl _ _)⟩
      case round =>
       obtain ⟨j, rfl, hj, hoj, hgj⟩ := hrel
       have hbj : Below W4.heap.size W4 wr := hb7.grown hgj.out (by omega) (fun q hq => by injection hq; omega)
       have hzj := hbj.size
       have kTj := kT.below hbj kT.lt
       by_cases hjn : j < R
       · have hsl1 := scaleTo_len F vn S j
         have hcj := hoj.out.cell (j := j) (by rw [hsl1, hSL.out]; exact hjn)
         rw [scaleTo_nth F _ S j (by rw [hSL.out]; omega), if_neg (by omega)] at hcj
         have hfj := hoj.out.frozen j
         have hyr := unhide HSE2 _ (nth_mem (k := j) (by rw [hSL.out]; exact hjn))
         obtain ⟨y, hY⟩ : ∃ y, y = nth S j := ⟨_, rfl⟩
         have hst : scaleTo F vn S (j + 1) = (scaleTo F vn S j).set j (F.mul vn y) := by rw [scaleTo, hY]
         rw [← hY] at hcj hyr
         obtain ⟨aA', cA', aS', cS', aM', cM', aI', cI', e8, tA, tS, tM, tI⟩ := (unhide HT4).below hbj
         injection e8 with e8
         simp only [Array.mk.injEq, List.cons.injEq, Value.slice.injEq, and_true, true_and] at e8
         obtain ⟨⟨rfl, rfl⟩, ⟨rfl, rfl⟩, ⟨rfl, rfl⟩, ⟨rfl, rfl⟩⟩ := e8
         obtain ⟨bI, oI, hbI, _, hcI⟩ := tI.at_ (by rw [invTo_len]; omega)
         have i1 := hcI fn (by rw [invTo_len]; exact hfF)
         rw [HIN.out] at i1
         obtain ⟨yn, hyn⟩ := Int.eq_ofNat_of_zero_le hyr.1
         rw [hyn] at hcj hyr hst
         obtain ⟨bM2, oM2, bm2, om2, cm2, hbM2, m3, m4⟩ := tab_at tM (i := vn) (j := yn) (by omega) (by omega)
         have f3 := kTj.cell 3
         have f4 := kTj.cell 4
         rw [hbM2] at f3
         rw [hbI] at f4
         obtain ⟨Z, hZ⟩ : ∃ Z, Z = F.mul vn yn := ⟨_, rfl⟩
         rw [← hZ] at m4 hst
         have hynn : yn < F.n := by omega
         have HST := Lib.hid hst
         clear hst hZ hcI hY hyn hyr hbM2 hbI hsl1 tA tS tM tI
         go_wp2_with fail
         go_region
         go_wp2
         go_roundw
         case rel =>
          have hs := hoj.out.set j Z
          refine ⟨j + 1, by go_num, by omega, ?_, hide (grown_drew (grown_trans_row hgj.out hs.2))⟩
          show Own _ _ _ _
          rw [HST.out]
          exact hs.1.drewN 1
         case measure => simp only [intOf]; omega
       · have hje : j = R := by omega
         have oj := hoj.out
         rw [hje, HAL.out] at oj
         have o8 := o7.grow hgj.out (.inr (by
          intro e
          have h := (o7.lt W4.heap.size e).1
          omega))
         have hscl := scale_len F vn S
         have hbs := bsearchL_any (some ⟨gc, oc, none⟩) (some ⟨W4.heap.size, 0, none⟩) cu R C (scale F vn S) p wr ((unhide HQ4).below hbj) oj.rd (by omega) (by omega) (unhide HP1) (fun i h1 h2 => by have := unhide HP2 i h1 h2; omega)
         rw [hscl, hSL.out] at hbs
         have HBS := hide hbs
         have hpw : p < word.length := by have := HL.out; omega
         obtain ⟨g6, c6', e6, hg6, hg6', _, _⟩ := o8.at_len (n := word.length) rfl (by omega)
         injection e6 with e6 _ ec6
         subst e6
         subst ec6
         have hcw := o8.cell (j := p) hpw
         have hfw := o8.frozen p
         have hwr := unhide HWE _ (nth_mem hpw)
         have hrs := HRS.out
         obtain ⟨y, hY⟩ : ∃ y, y = nth word p := ⟨_, rfl⟩
         rw [← hY] at hcw hwr hrs
         obtain ⟨aA', cA', aS', cS', aM', cM', aI', cI', e8, tA, tS, tM, tI⟩ := (unhide HT4).below hbj
         injection e8 with e8
         simp only [Array.mk.injEq, List.cons.injEq, Value.slice.injEq, and_true, true_and] at e8
         obtain ⟨⟨rfl, rfl⟩, ⟨rfl, rfl⟩, ⟨rfl, rfl⟩, ⟨rfl, rfl⟩⟩ := e8
         obtain ⟨yn, hyn⟩ := Int.eq_ofNat_of_zero_le hwr.1
         rw [hyn] at hcw hwr hrs
         obtain ⟨bS, oS', bs, os, cs, hbS, s3, s4⟩ := tab_at tS (i := yn) (j := fn) (by omega) hfF
         have f2 := kTj.cell 2
         rw [hbS] at f2
         obtain ⟨Z, hZ⟩ : ∃ Z, Z = F.sub yn fn := ⟨_, rfl⟩
         rw [← hZ] at s4 hrs
         have hynn : yn < F.n := by omega
         have HRR := Lib.hid hrs
         have HE2 := Lib.hid hje
         have hend := (hbj.drew)
         clear hje oj hbs hscl hY hyn hwr hbS hZ hrs tA tS tM tI
         go_wp2_with fail
         refine (unhide HBS).mono ?_
         rintro e w9 ⟨rfl, rfl⟩
         go_wp2_with fail
         go_region
         go_wp2
         go_ret2
         rw [HRR.out]
         have hs := o8.set p Z
         exact ⟨_, rfl, (hs.1.drewN 1).mono (by omega), ((Below.chain d4 hbj).setCell (by show w.heap.size ≤ g6; omega) _).drew⟩
end Go.Proofs.Ytgmgpcaahanmiaa
namespace Go.Proofs.Ytgmgpcaahanmiaa
open Go.RowKit
attribute [local go_sem ↓] Go.wp_at_zero Go.wp_at_succ
def corRes (q r : Int) (word : List Int) : List Int × Int :=
 if (isField q && colsOk q r) = true then (if elems q word = true then (if word.length = (hcols q r).length then (corr (fdOf q) r.toNat (hcols q r) word, 0) else ([], 6)) else ([], 1)) else ([], 2)
theorem cor_facts {q r : Int} (hk : (isField q && colsOk q r) = true) : ∃ (F : FD) (R : Nat), F.Good ∧ fdOf q = F ∧ q = F.n ∧ r = R ∧ 2 ≤ R ∧ R ≤ 4 ∧ hcols q r = colsUp F.n R (F.n ^ R) ∧ F.Mat R (hcols q r) ∧ 3 ≤ (hcols q r).length ∧ (hcols q r).length ≤ 32 ∧ many F.n R ≤ 32 := by
 rw [Bool.and_eq_true] at hk
 obtain ⟨hf, hc⟩ := hk
 obtain ⟨h1, h2, h3, h4, h5⟩ := hcols_bd hf hc
 obtain ⟨ok, hpk, _⟩ := fdOf_ok hf
 obtain ⟨c1, c2, c3⟩ := colsOk_true hc
 have hn : q = ((fdOf q).n : Int) := by rw [← ok.n_eq, hpk]
 have hqt : q.toNat = (fdOf q).n := by omega
 refine ⟨fdOf q, r.toNat, fdOf_good hf, rfl, hn, by omega, h1, h2, ?_, h5, h3, h4, ?_⟩
 · rw [hcols, hqt]
 · rw [← hqt]; exact c3
theorem implCO_any (q r : Int) (b : Option Addr) (cb : Nat) (word : List Int) (w : World) (hx : Rd w b word) : Calls Try.prog 16 #[.int .i64 q, .int .i64 r, .slice b word.length cb] w (ResL w (corRes q r word)) := by
 have hxl := hx.len
 cases hk : (isField q && colsOk q r) with
 | false =>
  rw [show corRes q r word = ([], 2) by rw [corRes, hk]; rfl]
  have hV := fun W => checked_no q r W hk
  have HV := hide hV
  have HX := hide hx
  clear hV hk hx
  go_enter Try.func16, Try.ntmps16
  go_wp2_with fail
  refine (unhide HV _).mono ?_
  rintro e w1 ⟨rfl, b1⟩
  go_wp2
  go_ret2
  exact ⟨_, rfl, Own.nil _ _, b1.trans ((Below.refl _ _).alloc b1.size _)⟩
 | true =>
  obtain ⟨F, R, hG, hFq, hqn, rfl, hR2, hR4, hC, hCM, hC3, hC32, _⟩ := cor_facts hk
  have ok := hG.ok
  obtain ⟨n2, n64⟩ := ok.n_bd
  rw [Bool.and_eq_true] at hk
  have hV := fun W => checked_yes q R W hk.1 hk.2
  rw [hFq] at hV
  have hres : corRes q R word = if elems q word = true then (if word.length = (hcols q R).length then (corr F R (hcols q R) word, 0) else ([], 6)) else ([], 1) := by
   rw [corRes, hk.1, hk.2, hFq, Int.toNat_natCast]; rfl
  rw [hres]
  generalize hcols q (R : Int) = C at *
  clear hres hFq hk
  subst hqn
  cases he : elems F.n word with
  | true =>
   rw [if_pos rfl]
   by_cases hl : word.length = C.length
   · rw [if_pos hl]
     exact implCO_ok F R C b cb word w hV hG hC hCM hC3 hC32 hR2 hR4 hx hl he
   · rw [if_neg hl]
     have hAI := fun W (h : Rd W b word) => areIn_any F.n b cb word W (by omega) (by omega) h
     rw [he] at hAI
     have hne : ((word.length : Int) != (C.length : Int)) = true := by rw [bne_iff_ne]; omega
     have HV := hide hV
     have HAI := hide hAI
     have HX := hide hx
     have HL := hide hl
     clear hV hAI hx hC hCM he hl
     go_enter Try.func16, Try.ntmps16
     go_wp2_with fail
     refine (unhide HV _).mono ?_
     rintro e w1 ⟨v1, u1, rfl, o1, q1, b1⟩
     obtain ⟨a1, c1, rfl, _, _⟩ := o1.form
     obtain ⟨au, cu, rfl, _⟩ := q1.form
     obtain ⟨W1, hHF⟩ : ∃ z, z = w1.alloc (.cells #[.int .i64 F.p, .int .i64 F.k, .slice a1 F.poly.length c1] 34) := ⟨_, rfl⟩
     have bF : Below w1.heap.size w1 W1 := by rw [hHF]; exact (Below.refl _ _).alloc (Nat.le_refl _) _
     have HF := Lib.hid hHF
     clear hHF
     have d1 := Below.chain b1 bF
     clear o1 q1 b1 bF
     go_upto_region 2 with fail
     rw [← HF.out]
     go_wp2_with fail
     refine (unhide HAI _ ((unhide HX).below d1)).mono ?_
     rintro e w2 ⟨rfl, b2⟩
     have d2 := Below.chain d1 b2
     clear d1 b2
     go_wp2
     go_ret2
     exact ⟨_, rfl, Own.nil _ _, d2⟩
  | false =>
   rw [if_neg (by simp)]
   have hAI := fun W (h : Rd W b word) => areIn_any F.n b cb word W (by omega) (by omega) h
   rw [he] at hAI
   have HV := hide hV
   have HAI := hide hAI
   have HX := hide hx
   clear hV hAI hx hC hCM he
   go_enter Try.func16, Try.ntmps16
   go_wp2_with fail
   refine (unhide HV _).mono ?_
   rintro e w1 ⟨v1, u1, rfl, o1, q1, b1⟩
   obtain ⟨a1, c1, rfl, _, _⟩ := o1.form
   obtain ⟨au, cu, rfl, _⟩ := q1.form
   obtain ⟨W1, hHF⟩ : ∃ z, z = w1.alloc (.cells #[.int .i64 F.p, .int .i64 F.k, .slice a1 F.poly.length c1] 34) := ⟨_, rfl⟩
   have bF : Below w1.heap.size w1 W1 := by rw [hHF]; exact (Below.refl _ _).alloc (Nat.le_refl _) _
   have HF := Lib.hid hHF
   clear hHF
   have d1 := Below.chain b1 bF
   clear o1 q1 b1 bF
   go_upto_region 2 with fail
   rw [← HF.out]
   go_wp2_with fail
   refine (unhide HAI _ ((unhide HX).below d1)).mono ?_
   rintro e w2 ⟨rfl, b2⟩
   have d2 := Below.chain d1 b2
   clear d1 b2
   go_wp2
   go_ret2
   exact ⟨_, rfl, Own.nil _ _, d2⟩
end Go.Proofs.Ytgmgpcaahanmiaa
namespace Go.Proofs.Ytgmgpcaahanmiaa
open Go.RowKit
attribute [local go_sem ↓] Go.wp_at_zero Go.wp_at_succ
noncomputable def wtsRes (p d : Int) (xs : List Int) (m : List (List Int)) : List Int × Int := if okC p d xs m = true then (wts (fdR p d xs) (nthL m 0).length m, 0) else ([], 1)
def distC (F : FD) (n : Nat) (m : List (List Int)) : Nat := leastD (wts F n m)
noncomputable def distRes (p d : Int) (xs : List Int) (m : List (List Int)) : Int × Int := if okC p d xs m = true then ((distC (fdR p d xs) (nthL m 0).length m : Int), 0) else (0, 1)
def ResI (w : World) (r : Int × Int) (e : Ending) (w' : World) : Prop := e = .returned (.tuple #[.int .i64 r.1, .int .i64 r.2]) ∧ Below w.heap.size w w'
theorem wts_len (F : FD) (n : Nat) (m : List (List Int)) : (wts F n m).length = n + 1 := cntW_len _ _ _
theorem GC.some_wt {F : FD} {n : Nat} {m : List (List Int)} (h : GC F n m) : ∃ d : Nat, 1 ≤ d ∧ d ≤ n ∧ nth (wts F n m) d ≠ 0 := by
 obtain ⟨j, h1, h2, h3⟩ := h.some_word
 refine ⟨_, h2, h3, ?_⟩
 have := cntW_pos (words := wordsTo F n m m.length) (n := n) (k := (wordsTo F n m m.length).length) (j := j) (by rw [wordsTo_len]; exact h1) h3
 rw [wts]
 omega
theorem implWT_any (p d : Int) (a : Option Addr) (c : Nat) (xs : List Int) (ra : Option Addr) (rc : Nat) (m : List (List Int)) (w : World) (hx : Rd w a xs) (hm : RdS w ra m) (ed : I64 d) : Calls Try.prog 33 #[.agg #[.int .i64 p, .int .i64 d, .slice a xs.length c, .slice ra m.length rc]] w (ResL w (wtsRes p d xs m)) := by
 have hml := hm.len
 generalize hR : wtsRes p d xs m = r
 obtain ⟨W0, hHW⟩ : ∃ z, z = w.alloc (.cells #[.int .i64 p, .int .i64 d, .slice a xs.length c, .slice ra m.length rc] 37) := ⟨_, rfl⟩
 have b0 : Below w.heap.size w W0 := by rw [hHW]; exact (Below.refl _ _).alloc (Nat.le_refl _) _
 have k0 : Blk W0 w.heap.size 37 #[.int .i64 p, .int .i64 d, .slice a xs.length c, .slice ra m.length rc] := by rw [hHW]; exact Blk.new _ _ _ rfl
 have sk0 : w.heap.size < W0.heap.size := k0.lt
 have HW := Lib.hid hHW
 clear hHW
 have hV := implVC_any p d a c xs ra rc m W0 (hx.below b0) (hm.below b0) ed
 cases hk : okC p d xs m with
 | false =>
  have HN := Lib.hid (show r = ([], 1) by rw [← hR, wtsRes, hk]; rfl)
  rw [hk] at hV
  have HV := hide hV
  clear hV hk hR
  have f0 := k0.cell 0
  have f1 := k0.cell 1
  have f2 := k0.cell 2
  have f3 := k0.cell 3
  go_enter Try.func33, Try.ntmps33
  go_upto_region 1 with fail
  rw [← HW.out]
  go_wp2_with fail
  refine (unhide HV).mono ?_
  rintro e w1 ⟨rfl, b1⟩
  have k1 := k0.below b1 k0.lt
  clear f0 f1 f2 f3
  have f0 := k1.cell 0
  have f1 := k1.cell 1
  have f2 := k1.cell 2
  have f3 := k1.cell 3
  have bb1 := b0.trans (b1.mono (Nat.le_of_lt sk0))
  go_wp2
  go_ret2
  rw [HN.out]
  exact ⟨_, rfl, Own.nil _ _, bb1⟩
 | true =>
  obtain ⟨F, n, rfl, rfl, rfl, hC⟩ := okC_gc hk
  have ok := hC.good.ok
  obtain ⟨n2, n64⟩ := ok.n_bd
  have hm1 := hC.m1
  have hm0 : 0 < m.length := by omega
  have hm8 := hC.m8
  have hn1 := hC.n1
  have hn32 := hC.n32
  rw [hk] at hV
  have HV := hide hV
  have hRR : r = (wts F n m, 0) := by rw [← hR, wtsRes, hk, fdR_eq, hC.hn]; rfl
  clear hV hk hR
  have hW := fun W (h : Below W0.heap.size W0 W) => weightsOf_any F a c ra rc m n W ((hx.below b0).below h) ((hm.below b0).below h) hC
  have HWW := hide hW
  have HRR := Lib.hid hRR
  clear hW hRR hC
  have f0 := k0.cell 0
  have f1 := k0.cell 1
  have f2 := k0.cell 2
  have f3 := k0.cell 3
  go_enter Try.func33, Try.ntmps33
  go_upto_region 1 with fail
  rw [← HW.out]
  go_wp2_with fail
  refine (unhide HV).mono ?_
  rintro e w1 ⟨rfl, b1⟩
  have k1 := k0.below b1 k0.lt
  clear f0 f1 f2 f3
  have f0 := k1.cell 0
  have f1 := k1.cell 1
  have f2 := k1.cell 2
  have f3 := k1.cell 3
  have bb1 := b0.trans (b1.mono (Nat.le_of_lt sk0))
  go_wp2_with fail
  refine (unhide HWW w1 b1).mono ?_
  rintro e w2 ⟨v, rfl, o2, b2⟩
  go_wp2
  go_ret2
  rw [HRR.out]
  exact ⟨_, rfl, o2.mono bb1.size, bb1.trans (b2.mono bb1.size)⟩
theorem implDI_any (p d : Int) (a : Option Addr) (c : Nat) (xs : List Int) (ra : Option Addr) (rc : Nat) (m : List (List Int)) (w : World) (hx : Rd w a xs) (hm : RdS w ra m) (ed : I64 d) : Calls Try.prog 34 #[.agg #[.int .i64 p, .int .i64 d, .slice a xs.length c, .slice ra m.length rc]] w (ResI w (distRes p d xs m)) := by
 have hml := hm.len
 generalize hR : distRes p d xs m = r
 obtain ⟨W0, hHW⟩ : ∃ z, z = w.alloc (.cells #[.int .i64 p, .int .i64 d, .slice a xs.length c, .slice ra m.length rc] 37) := ⟨_, rfl⟩
 have b0 : Below w.heap.size w W0 := by rw [hHW]; exact (Below.refl _ _).alloc (Nat.le_refl _) _
 have k0 : Blk W0 w.heap.size 37 #[.int .i64 p, .int .i64 d, .slice a xs.length c, .slice ra m.length rc] := by rw [hHW]; exact Blk.new _ _ _ rfl
 have sk0 : w.heap.size < W0.heap.size := k0.lt
 have HW := Lib.hid hHW
 clear hHW
 have hV := implVC_any p d a c xs ra rc m W0 (hx.below b0) (hm.below b0) ed
 cases hk : okC p d xs m with
 | false =>
  have HN := Lib.hid (show r = (0, 1) by rw [← hR, distRes, hk]; rfl)
  rw [hk] at hV
  have HV := hide hV
  clear hV hk hR
  have f0 := k0.cell 0
  have f1 := k0.cell 1
  have f2 := k0.cell 2
  have f3 := k0.cell 3
  go_enter Try.func34, Try.ntmps34
  go_upto_region 1 with fail
  rw [← HW.out]
  go_wp2_with fail
  refine (unhide HV).mono ?_
  rintro e w1 ⟨rfl, b1⟩
  have k1 := k0.below b1 k0.lt
  clear f0 f1 f2 f3
  have f0 := k1.cell 0
  have f1 := k1.cell 1
  have f2 := k1.cell 2
  have f3 := k1.cell 3
  have bb1 := b0.trans (b1.mono (Nat.le_of_lt sk0))
  go_wp2
  go_ret2
  rw [HN.out]
  exact ⟨rfl, bb1⟩
 | true =>
  obtain ⟨F, n, rfl, rfl, rfl, hC⟩ := okC_gc hk
  have ok := hC.good.ok
  obtain ⟨n2, n64⟩ := ok.n_bd
  have hm1 := hC.m1
  have hm0 : 0 < m.length := by omega
  have hm8 := hC.m8
  have hn1 := hC.n1
  have hn32 := hC.n32
  rw [hk] at hV
  have HV := hide hV
  have hRR : r = ((distC F n m : Int), 0) := by rw [← hR, distRes, hk, fdR_eq, hC.hn]; rfl
  clear hV hk hR
  have hW := fun W (h : Below W0.heap.size W0 W) => weightsOf_any F a c ra rc m n W ((hx.below b0).below h) ((hm.below b0).below h) hC
  obtain ⟨d0, hd1, hd2, hd3⟩ := hC.some_wt
  have hwl := wts_len F n m
  have hdc : distC F n m = leastD (wts F n m) := rfl
  obtain ⟨cs, hcs⟩ : ∃ cs, cs = wts F n m := ⟨_, rfl⟩
  rw [← hcs] at hW hd3 hwl hdc
  rw [hdc] at hRR
  have HWW := hide hW
  have HRR := Lib.hid hRR
  have HD3 := hide hd3
  have HWL := Lib.hid hwl
  clear hW hRR hC hcs hd3 hwl hdc
  have f0 := k0.cell 0
  have f1 := k0.cell 1
  have f2 := k0.cell 2
  have f3 := k0.cell 3
  go_enter Try.func34, Try.ntmps34
  go_upto_region 1 with fail
  rw [← HW.out]
  go_wp2_with fail
  refine (unhide HV).mono ?_
  rintro e w1 ⟨rfl, b1⟩
  have k1 := k0.below b1 k0.lt
  clear f0 f1 f2 f3
  have f0 := k1.cell 0
  have f1 := k1.cell 1
  have f2 := k1.cell 2
  have f3 := k1.cell 3
  have bb1 := b0.trans (b1.mono (Nat.le_of_lt sk0))
  go_wp2_with fail
  refine (unhide HWW w1 b1).mono ?_
  rintro e w2 ⟨v, rfl, o2, b2⟩
  obtain ⟨av, cv, rfl, r2, _⟩ := o2.form
  have bb2 := bb1.trans (b2.mono bb1.size)
  have R2 := hide r2
  have hcl : cs.length ≤ 33 := by rw [HWL.out]; omega
  clear o2 r2
  go_wp2_with fail
  go_loopw [5] (fun dv wr => ∃ d1 : Nat, dv = .int .i64 d1 ∧ 1 ≤ d1 ∧ d1 ≤ d0 ∧ Hid (∀ j, 1 ≤ j → j < d1 → nth cs j = 0) ∧ w2 = wr) (fun dv _ => d0 - (intOf dv).toNat)
  case atStart => exact ⟨1, rfl, Nat.le_refl _, hd1, fun j h1 h2 => by omega, rfl⟩
  case round =>
   obtain ⟨d1, rfl, h1, h2, hz, rfl⟩ := hrel
   have hlt : d1 < cs.length := by rw [HWL.out]; omega
   obtain ⟨g1, o1, rfl, _, hc⟩ := (unhide R2).at_ (by omega)
   have hc1 := hc d1 hlt
   obtain ⟨u, hu⟩ : ∃ u, u = nth cs d1 := ⟨_, rfl⟩
   rw [← hu] at hc1
   have HU := Lib.hid hu
   clear hc hu
   by_cases hn : u = 0
   · have hbn : (u == 0) = true := by rw [hn]; rfl
     have HN := Lib.hid hn
     clear hn
     have hne : d1 ≠ d0 := fun e => unhide HD3 (by rw [← e, ← HU.out, HN.out])
     go_wp2
     go_roundw
     case rel =>
      refine ⟨d1 + 1, by go_num, by omega, by omega, fun j a1 a2 => ?_, trivial⟩
      by_cases e : j = d1
      · rw [e, ← HU.out, HN.out]
      · exact hz.out j a1 (by omega)
     case measure => simp only [intOf]; omega
   · have hbn : (u == 0) = false := by rw [beq_eq_false_iff_ne]; exact hn
     have HN := hide hn
     clear hn
     have hld : leastD cs = d1 := leastD_hit h1 hlt (by rw [← HU.out]; exact unhide HN) hz.out
     have HLD := Lib.hid hld
     clear hld
     go_wp2
     go_ret2
     rw [HRR.out]
     show ResI w ((leastD cs : Int), 0) _ _
     rw [HLD.out]
     exact ⟨rfl, bb2⟩
end Go.Proofs.Ytgmgpcaahanmiaa
namespace Go.Proofs.Ytgmgpcaahanmiaa
open Go.RowKit
attribute [local go_sem ↓] Go.wp_at_zero Go.wp_at_succ
def ResB (w : World) (r : Bool × Int) (e : Ending) (w' : World) : Prop := e = .returned (.tuple #[.bool r.1, .int .i64 r.2]) ∧ Below w.heap.size w w'
theorem leastD_ok {cs : List Int} {d0 : Nat} (h1 : 1 ≤ d0) (h2 : d0 < cs.length) (h3 : nth cs d0 ≠ 0) : 1 ≤ leastD cs ∧ leastD cs ≤ d0 ∧ nth cs (leastD cs) ≠ 0 ∧ ∀ j, 1 ≤ j → j < leastD cs → nth cs j = 0 := by
 cases h : (List.range cs.length).find? (fun d => decide (1 ≤ d) && (nth cs d != 0)) with
 | none =>
  rw [List.find?_eq_none] at h
  have := h d0 (List.mem_range.2 h2)
  simp [h1, h3] at this
 | some d =>
  have e : leastD cs = d := by rw [leastD, h]; rfl
  rw [List.find?_range_eq_some] at h
  obtain ⟨a, b, c⟩ := h
  simp only [Bool.and_eq_true, decide_eq_true_eq, bne_iff_ne] at a
  have hz : ∀ j, 1 ≤ j → j < d → nth cs j = 0 := fun j j1 j2 => by
   have := c j j2
   simp only [Bool.not_eq_true', Bool.and_eq_false_iff, decide_eq_false_iff_not, bne_eq_false_iff_eq] at this
   rcases this with h | h
   · exact absurd j1 h
   · exact h
  rw [e]
  refine ⟨a.1, ?_, a.2, hz⟩
  rcases Nat.lt_or_ge d0 d with hh | hh
  · exact absurd (hz d0 h1 hh) h3
  · exact hh
theorem GC.dist {F : FD} {n : Nat} {m : List (List Int)} (h : GC F n m) : 1 ≤ distC F n m ∧ distC F n m ≤ n := by
 obtain ⟨d0, h1, h2, h3⟩ := h.some_wt
 have := leastD_ok h1 (by rw [wts_len]; omega) h3
 exact ⟨this.1, by have := this.2.1; rw [distC]; omega⟩
end Go.Proofs.Ytgmgpcaahanmiaa
namespace Go.Proofs.Ytgmgpcaahanmiaa
open Go.RowKit
attribute [local go_sem ↓] Go.wp_at_zero Go.wp_at_succ
theorem inSpan_any (F : FD) (tv : Value) (ra : Option Addr) (rc : Nat) (rows : List (List Int)) (pa : Option Addr) (pc : Nat) (piv : List Int) (b : Option Addr) (cb : Nat) (v : List Int) (n : Nat) (w : World) (hT : Tabs w F tv) (hG : F.Good) (hx : RdS w ra rows) (hp : Rd w pa piv) (hy : Rd w b v) (hM : F.Mat n rows) (hn1 : 1 ≤ n) (hn : n ≤ 32) (hpl : piv.length ≤ rows.length) (hpb : ∀ j, j < piv.length → ∃ p : Nat, nth piv j = (p : Int) ∧ p < n) (hvl : v.length = n) (hv : ∀ x ∈ v, 0 ≤ x ∧ x < F.n) :
    Calls Try.prog 183 #[tv, .slice ra rows.length rc, .slice pa piv.length pc, .slice b n cb] w fun e w' => e = .returned (.bool (isZ (restTo F rows piv v piv.length))) ∧ Below w.heap.size w w' := by
 have hT0 := hT
 obtain ⟨aA, cA, aS, cS, aM, cM, aI, cI, rfl, tA, tS, tM, tI⟩ := hT
 have ok := hG.ok
 obtain ⟨n2, n64⟩ := ok.n_bd
 have hpll := hp.len
 have hxl := hx.len
 obtain ⟨W0, hHW⟩ : ∃ z, z = w.alloc (.cells #[.int .i64 F.n, .slice aA F.n cA, .slice aS F.n cS, .slice aM F.n cM, .slice aI F.n cI] 93) := ⟨_, rfl⟩
 have b0 : Below w.heap.size w W0 := by rw [hHW]; exact (Below.refl _ _).alloc (Nat.le_refl _) _
 have kT : Blk W0 w.heap.size 93 #[.int .i64 F.n, .slice aA F.n cA, .slice aS F.n cS, .slice aM F.n cM, .slice aI F.n cI] := by rw [hHW]; exact Blk.new _ _ _ rfl
 have skT : w.heap.size < W0.heap.size := kT.lt
 have HW := Lib.hid hHW
 clear hHW
 have hcl := clone_any b cb v W0 (hy.below b0)
 rw [hvl] at hcl
 have hrl := fun k => restTo_len F rows piv v k
 have hre := fun k => restTo_el ok piv (rows := rows) hv k
 rw [hvl] at hrl
 have hst : ∀ k, restTo F rows piv v (k + 1) = addTo F (restTo F rows piv v k) (nthL rows k) (F.sub 0 (nth (restTo F rows piv v k) (nth piv k).toNat)) n := fun k => by rw [restTo, hvl]
 have HCL := hide hcl
 have HX := hide (hx.below b0)
 have HP := hide (hp.below b0)
 have HMM := hide hM
 have HPB := hide hpb
 have HT := hide (hT0.below b0)
 have TS := hide (tS.below b0)
 have HRL := hide hrl
 have HRE := hide hre
 have HST := hide hst
 have h00 : restTo F rows piv v 0 = v := rfl
 have H00 := Lib.hid h00
 clear hcl hx hp hM hpb hT0 tA tS tM tI hrl hre hst hy hv hvl h00
 go_enter Try.func183, Try.ntmps183
 go_upto_region 1 with fail
 rw [← HW.out]
 go_wp2_with fail
 refine (unhide HCL).mono ?_
 rintro e w1 ⟨v1, rfl, o1, b1⟩
 obtain ⟨gr, c1, rfl, hgr, hgr1, hcr, hcr2⟩ := o1.at_len (by have := unhide HRL 0; rw [H00.out] at this; exact this) hn1
 have z1 := b1.size
 rw [← H00.out] at o1
 have O1 := Lib.hid o1
 clear o1
 go_wp2_with fail
 go_loopw [16] (fun iv wr => ∃ k : Nat, iv = .int .i64 k ∧ k ≤ piv.length ∧ Hid (Own wr W0.heap.size (.slice (some ⟨gr, 0, none⟩) n c1) (restTo F rows piv v k)) ∧ Hid (w1.grownBy wr (some gr))) (fun iv _ => piv.length - (intOf iv).toNat)
 case atStart => exact ⟨0, rfl, Nat.zero_le _, O1, hide (grown_refl _ _)⟩
 case round =>
  obtain ⟨k, rfl, hk, ho, hg⟩ := hrel
  have hbg : Below W0.heap.size W0 wr := b1.grown hg.out z1 (fun q hq => by injection hq; omega)
  by_cases hkl : k < piv.length
  · have kTr := kT.below hbg kT.lt
    obtain ⟨p, hp, hpn⟩ := unhide HPB k hkl
    obtain ⟨gp, op, rfl, _, hcp⟩ := ((unhide HP).below hbg).at_ (by omega)
    have hp1 := hcp k hkl
    rw [hp] at hp1
    have hkr : k < rows.length := by omega
    obtain ⟨gw, ow, rfl, hgw, hcw⟩ := (unhide HX).at_ (by omega)
    obtain ⟨ai, ci, hr0, hrr0⟩ := hcw k hkr
    have hmt := Mat_nth (unhide HMM) hkr
    rw [hmt.1] at hr0
    have hr1 := (hbg.cell (p := ⟨gw, ow + k, none⟩) hgw).trans hr0
    have hrr := hrr0.below hbg
    have hrl := unhide HRL k
    have hre := unhide HRE k
    have hst := unhide HST k
    rw [hp, Int.toNat_natCast] at hst
    have xc := ho.out.cell (j := p) (by rw [hrl]; exact hpn)
    have hxr := hre _ (nth_mem (k := p) (by rw [hrl]; exact hpn))
    obtain ⟨x, hx⟩ := Int.eq_ofNat_of_zero_le hxr.1
    rw [hx] at xc hxr hst
    have hxn : x < F.n := by omega
    have hDb := sub_bd ok 0 x
    obtain ⟨bS, oS, bs, os, cs, rfl, s1, s2⟩ := tab_at ((unhide TS).below hbg) (i := 0) (j := x) (by omega) hxn
    rw [show ((0 : Nat) : Int) = 0 from rfl] at s2
    obtain ⟨D, hD⟩ : ∃ D, D = F.sub 0 x := ⟨_, rfl⟩
    rw [← hD] at s2 hst hDb
    obtain ⟨rest, hrest⟩ : ∃ rest, rest = restTo F rows piv v k := ⟨_, rfl⟩
    rw [← hrest] at ho hrl hre hst
    have hat : Calls Try.prog 90 #[.agg #[.int .i64 F.n, .slice aA F.n cA, .slice (some ⟨bS, oS, none⟩) F.n cS, .slice aM F.n cM, .slice aI F.n cI], .slice (some ⟨gr, 0, none⟩) n c1, .slice ai n ci, .int .i64 D] wr.drew fun e w' => e = .returned (.tuple #[]) ∧ Own w' W0.heap.size (.slice (some ⟨gr, 0, none⟩) n c1) (addTo F rest (nthL rows k) D n) ∧ wr.drew.grownBy w' (some gr) := by
     have h := addTimes_any F _ W0 wr.drew W0.heap.size gr c1 ai ci rest (nthL rows k) D ok (unhide HT) hbg.drew (Nat.le_refl _) (by rw [hrl]; exact ho.out.drewN 1) (hrr.drewN 1) (fun q hq => by
      obtain ⟨b9, o9, e9, hb9, _⟩ := hrr0.at_ (by rw [hmt.1]; omega)
      rw [hq] at e9
      injection e9 with e9
      rw [e9]
      show b9 ≠ gr
      omega) (by rw [hrl, hmt.1]) hDb.1 hDb.2 hre hmt.2
     rw [hrl, hmt.1] at h
     exact h
    have HAT := hide hat
    have HST := Lib.hid hst
    have f0 := kTr.cell 0
    have f1 := kTr.cell 1
    have f2 := kTr.cell 2
    have f3 := kTr.cell 3
    have f4 := kTr.cell 4
    have hFn0 : 0 < F.n := by omega
    rw [Nat.add_zero] at s1
    clear hat hst hD hx hp hrest hcp hcw hrr hrr0 hr0 hmt hre hrl hxr hDb kTr
    go_wp2_with fail
    go_still_tail 16, (by kernel_rfl)
    change wpList _ _ _ _ _ wr.drew
    go_wp2_with fail
    refine (unhide HAT).mono ?_
    rintro e w5 ⟨rfl, o5, g5⟩
    go_wp2_with fail
    go_roundw
    case rel =>
     refine ⟨k + 1, by go_num, by omega, ?_, hide (grown_trans_row (grown_trans_row hg.out (grown_drew1 wr _)) g5)⟩
     show Own _ _ _ _
     rw [HST.out]
     exact o5
    case measure => simp only [intOf]; omega
  · have hke : k = piv.length := by omega
    have HE := Lib.hid hke
    have hz := isZero_any (some ⟨gr, 0, none⟩) c1 (restTo F rows piv v k) wr (by have h := ho.out.rd; exact h)
    rw [unhide HRL k, hke] at hz
    have HZ := hide hz
    clear hke hz
    go_wp2_with fail
    refine (unhide HZ).mono ?_
    rintro e w5 ⟨rfl, rfl⟩
    go_wp2
    go_ret
    exact ⟨rfl, b0.trans (hbg.mono (Nat.le_of_lt skT))⟩
end Go.Proofs.Ytgmgpcaahanmiaa
namespace Go.Proofs.Ytgmgpcaahanmiaa
open Go.RowKit
attribute [local go_sem ↓] Go.wp_at_zero Go.wp_at_succ
def hasV (F : FD) (n : Nat) (m : List (List Int)) (v : List Int) : Bool := if v.length = n ∧ elems F.n v = true then decide ((form F (m ++ [v]) n).length = m.length) else false
def hasRes (p d : Int) (xs : List Int) (m : List (List Int)) (v : List Int) : Bool := okC p d xs m && hasV (fdR p d xs) (nthL m 0).length m v
theorem GC.has_rest {F : FD} {n : Nat} {m : List (List Int)} (h : GC F n m) {v : List Int} (hv : v.length = n ∧ ∀ x ∈ v, 0 ≤ x ∧ x < F.n) : isZ (restTo F m (red F m n).2 v (red F m n).2.length) = decide ((form F (m ++ [v]) n).length = m.length) := by
 obtain ⟨pv, hpv, hE, hS⟩ := form_ech h.good h.mat
 have h1 := rank_iff h.good h.mat hv
 rw [h.fix] at hE h1
 have h2 := rest_iff h.good hE hv
 have hl : pv.length = m.length := hE.len
 rw [hpv, List.length_map, hl]
 have h3 : isZ (restTo F m (pv.map fun (x : Nat) => (x : Int)) v m.length) = true ↔ ∀ x ∈ restTo F m (pv.map fun (x : Nat) => (x : Int)) v m.length, x = 0 := by
  rw [isZ, Bool.not_eq_true', List.any_eq_false]
  refine ⟨fun h x hx => ?_, fun h x hx => ?_⟩
  · have := h x hx
    simpa [notZero] using this
  · simp [notZero, h x hx]
 rw [Bool.eq_iff_iff, h3, h2, decide_eq_true_eq, h1]
theorem okC_okM {p d : Int} {xs : List Int} {m : List (List Int)} (h : okC p d xs m = true) : okM p d xs m = true := by
 rw [okC, Bool.and_eq_true] at h
 exact h.1
theorem GC.piv_bd {F : FD} {n : Nat} {m : List (List Int)} (h : GC F n m) : (red F m n).2.length = m.length ∧ ∀ j, j < (red F m n).2.length → ∃ p : Nat, nth (red F m n).2 j = (p : Int) ∧ p < n := by
 obtain ⟨pv, hpv, hE, _⟩ := form_ech h.good h.mat
 rw [h.fix] at hE
 refine ⟨by rw [hpv, List.length_map, hE.len], fun j hj => ?_⟩
 have hj' : j < pv.length := by rw [hpv, List.length_map] at hj; exact hj
 refine ⟨pv.getD j 0, ?_, hE.lt j hj'⟩
 rw [hpv, nth_lt (by rw [List.length_map]; exact hj'), List.getElem_map, List.getD_eq_getElem?_getD, List.getElem?_eq_getElem hj']
 rfl
theorem spanHas_any (F : FD) (ap : Option Addr) (cp : Nat) (ra : Option Addr) (rc : Nat) (m : List (List Int)) (b : Option Addr) (cb : Nat) (v : List Int) (n : Nat) (w : World) (hR : Rd w ap F.poly) (hm : RdS w ra m) (hy : Rd w b v) (hC : GC F n m) (hok : okM F.p F.k F.poly m = true) (ed : I64 F.k) :
    Calls Try.prog 104 #[.agg #[.int .i64 F.p, .int .i64 F.k, .slice ap F.poly.length cp], .slice ra m.length rc, .slice b v.length cb] w fun e w' => e = .returned (.bool (hasV F n m v)) ∧ Below w.heap.size w w' := by
 have hml := hm.len
 have hvl0 := hy.len
 have ok := hC.good.ok
 obtain ⟨n2, n64⟩ := ok.n_bd
 have hm1 := hC.m1
 have hm0 : 0 < m.length := by omega
 have hn1 := hC.n1
 have hn32 := hC.n32
 obtain ⟨W0, hHW⟩ : ∃ z, z = w.alloc (.cells #[.int .i64 F.p, .int .i64 F.k, .slice ap F.poly.length cp] 34) := ⟨_, rfl⟩
 have b0 : Below w.heap.size w W0 := by rw [hHW]; exact (Below.refl _ _).alloc (Nat.le_refl _) _
 have k0 : Blk W0 w.heap.size 34 #[.int .i64 F.p, .int .i64 F.k, .slice ap F.poly.length cp] := by rw [hHW]; exact Blk.new _ _ _ rfl
 have sk0 : w.heap.size < W0.heap.size := k0.lt
 have HW := Lib.hid hHW
 clear hHW
 have hV := validMatrix_any F.p F.k ap cp F.poly ra rc m W0 (hR.below b0) (hm.below b0) ed
 rw [hok] at hV
 obtain ⟨gb, ob, rfl, hgb, hcc⟩ := (hm.below b0).at_ hm1
 obtain ⟨ai, ci, hr0, _⟩ := hcc 0 hm1
 rw [Nat.add_zero, hC.hn] at hr0
 have HV := hide hV
 have hdef : hasV F n m v = if v.length = n ∧ elems F.n v = true then decide ((form F (m ++ [v]) n).length = m.length) else false := rfl
 clear hV hcc hok
 by_cases hle : v.length = n
 ·
  have hbq : ((v.length : Int) != (n : Int)) = false := by rw [hle]; simp
  have hFS := fun W => fieldSize_any F ap cp W ok
  have hE := fun W h => areIn_any F.n b cb v W (by omega) (by omega) ((hy.below b0).below h)
  have HFS := hide hFS
  cases he : elems F.n v with
  | false =>
   have HN := Lib.hid (show hasV F n m v = false by rw [hdef, if_neg (by rw [he]; simp)])
   rw [he] at hE
   have HE := hide hE
   clear hE hFS he hle hdef hC
   have f0 := k0.cell 0
   have f1 := k0.cell 1
   have f2 := k0.cell 2
   go_enter Try.func104, Try.ntmps104
   go_upto_region 1 with fail
   rw [← HW.out]
   go_wp2_with fail
   refine (unhide HV).mono ?_
   rintro e w1 ⟨rfl, b1⟩
   have k1 := k0.below b1 k0.lt
   have hr1 := (b1.cell (p := ⟨gb, ob, none⟩) hgb).trans hr0
   clear f0 f1 f2
   have f0 := k1.cell 0
   have f1 := k1.cell 1
   have f2 := k1.cell 2
   have bb1 := b0.trans (b1.mono (Nat.le_of_lt sk0))
   go_wp2_with fail
   refine (unhide HFS w1).mono ?_
   rintro e w2 ⟨rfl, b2⟩
   go_wp2_with fail
   refine (unhide HE w2 (Below.chain b1 b2)).mono ?_
   rintro e w3 ⟨rfl, b3⟩
   have c3 := Below.chain (Below.chain b1 b2) b3
   have bb3 := b0.trans (c3.mono (Nat.le_of_lt sk0))
   go_wp2
   go_ret
   exact ⟨ret_bool (by rw [HN.out]), bb3⟩
  | true =>
   have hEl := elems_iff he
   have hres := hC.has_rest ⟨hle, hEl⟩
   have hdef2 : hasV F n m v = isZ (restTo F m (red F m n).2 v (red F m n).2.length) := by rw [hdef, if_pos ⟨hle, he⟩, hres]
   obtain ⟨hpl, hpb⟩ := hC.piv_bd
   have hfix := hC.fix
   rw [he] at hE
   have hT := fun W (h : Below W0.heap.size W0 W) => tablesOf_any F ap cp W ((hR.below b0).below h) ok
   have hRE := fun tv W (h : Below W0.heap.size W0 W) hT => reduce_any F tv (some ⟨gb, ob, none⟩) rc m n W hT hC.good ((hm.below b0).below h) hm0 hC.mat
   rw [hfix] at hRE
   obtain ⟨piv, hpiv⟩ : ∃ piv, piv = (red F m n).2 := ⟨_, rfl⟩
   rw [← hpiv] at hRE hpl hpb hdef2
   have hIN : ∀ tv (a1 : Option Addr) (c1 : Nat) (a2 : Option Addr) (c2 : Nat) W (_ : Below W0.heap.size W0 W) (_ : Tabs W F tv) (_ : RdS W a1 m) (_ : Rd W a2 piv), Calls Try.prog 183 #[tv, .slice a1 m.length c1, .slice a2 piv.length c2, .slice b v.length cb] W fun e w' => e = .returned (.bool (isZ (restTo F m piv v piv.length))) ∧ Below W.heap.size W w' := fun tv a1 c1 a2 c2 W h hT r1 r2 => by
    rw [hle]
    exact inSpan_any F tv a1 c1 m a2 c2 piv b cb v n W hT hC.good r1 r2 ((hy.below b0).below h) hC.mat hn1 hn32 (by omega) hpb hle hEl
   have HE := hide hE
   have HT := hide hT
   have HRE := hide hRE
   have HIN := hide hIN
   have HD := Lib.hid hdef2
   clear hE hFS he hle hdef hC hT hRE hIN hdef2 hres hpl hpb hfix hpiv hEl
   have f0 := k0.cell 0
   have f1 := k0.cell 1
   have f2 := k0.cell 2
   go_enter Try.func104, Try.ntmps104
   go_upto_region 1 with fail
   rw [← HW.out]
   go_wp2_with fail
   refine (unhide HV).mono ?_
   rintro e w1 ⟨rfl, b1⟩
   have k1 := k0.below b1 k0.lt
   have hr1 := (b1.cell (p := ⟨gb, ob, none⟩) hgb).trans hr0
   clear f0 f1 f2
   have f0 := k1.cell 0
   have f1 := k1.cell 1
   have f2 := k1.cell 2
   have bb1 := b0.trans (b1.mono (Nat.le_of_lt sk0))
   go_wp2_with fail
   refine (unhide HFS w1).mono ?_
   rintro e w2 ⟨rfl, b2⟩
   go_wp2_with fail
   refine (unhide HE w2 (Below.chain b1 b2)).mono ?_
   rintro e w3 ⟨rfl, b3⟩
   have c3 := Below.chain (Below.chain b1 b2) b3
   have bb3 := b0.trans (c3.mono (Nat.le_of_lt sk0))
   have k3 := k0.below c3 k0.lt
   clear f0 f1 f2
   have f0 := k3.cell 0
   have f1 := k3.cell 1
   have f2 := k3.cell 2
   go_wp2_with fail
   refine (unhide HT _ c3).mono ?_
   rintro e w4 ⟨tv, rfl, t4, b4⟩
   obtain ⟨aA, cA, aS, cS, aM, cM, aI, cI, rfl, t4A, t4S, t4M, t4I⟩ := t4
   obtain ⟨W5, hH5⟩ : ∃ z, z = w4.alloc (.cells #[.int .i64 F.n, .slice aA F.n cA, .slice aS F.n cS, .slice aM F.n cM, .slice aI F.n cI] 93) := ⟨_, rfl⟩
   have b5 : Below w4.heap.size w4 W5 := by rw [hH5]; exact (Below.refl _ _).alloc (Nat.le_refl _) _
   have kT : Blk W5 w4.heap.size 93 #[.int .i64 F.n, .slice aA F.n cA, .slice aS F.n cS, .slice aM F.n cM, .slice aI F.n cI] := by rw [hH5]; exact Blk.new _ _ _ rfl
   have H5 := Lib.hid hH5
   clear hH5
   have t5 : Tabs W5 F (.agg #[.int .i64 F.n, .slice aA F.n cA, .slice aS F.n cS, .slice aM F.n cM, .slice aI F.n cI]) := ⟨aA, cA, aS, cS, aM, cM, aI, cI, rfl, t4A.below b5, t4S.below b5, t4M.below b5, t4I.below b5⟩
   have c5 := Below.chain (Below.chain c3 b4) b5
   clear f0 f1 f2
   have g0 := kT.cell 0
   have g1 := kT.cell 1
   have g2 := kT.cell 2
   have g3 := kT.cell 3
   have g4 := kT.cell 4
   have T5 := hide t5
   clear t5 t4A t4S t4M t4I
   go_upto_region 4 with fail
   rw [← H5.out]
   go_wp2_with fail
   refine (unhide HRE _ W5 c5 (unhide T5)).mono ?_
   rintro e w6 ⟨v6, u6, d6, rfl, o6, q6, b6⟩
   obtain ⟨a1, c1, rfl, r1⟩ := o6.form
   obtain ⟨a2, c2, rfl, r2, _⟩ := q6.form
   have c6 := Below.chain c5 b6
   have bb6 := b0.trans (c6.mono (Nat.le_of_lt sk0))
   have kT6 := kT.below b6 kT.lt
   have T6 := hide ((unhide T5).below b6)
   have R1 := hide r1
   have R2 := hide r2
   clear g0 g1 g2 g3 g4 o6 q6 r1 r2
   have g0 := kT6.cell 0
   have g1 := kT6.cell 1
   have g2 := kT6.cell 2
   have g3 := kT6.cell 3
   have g4 := kT6.cell 4
   go_wp2_with fail
   refine (unhide HIN _ a1 c1 a2 c2 w6 c6 (unhide T6) (unhide R1) (unhide R2)).mono ?_
   rintro e w7 ⟨rfl, b7⟩
   go_wp2
   go_ret
   exact ⟨ret_bool (by rw [HD.out]), bb6.trans (b7.mono bb6.size)⟩
 · have hbq : ((v.length : Int) != (n : Int)) = true := by rw [bne_iff_ne]; omega
   have HN := Lib.hid (show hasV F n m v = false by rw [hdef, if_neg (fun h => hle h.1)])
   clear hle hdef hC
   have f0 := k0.cell 0
   have f1 := k0.cell 1
   have f2 := k0.cell 2
   go_enter Try.func104, Try.ntmps104
   go_upto_region 1 with fail
   rw [← HW.out]
   go_wp2_with fail
   refine (unhide HV).mono ?_
   rintro e w1 ⟨rfl, b1⟩
   have k1 := k0.below b1 k0.lt
   have hr1 := (b1.cell (p := ⟨gb, ob, none⟩) hgb).trans hr0
   clear f0 f1 f2
   have f0 := k1.cell 0
   have f1 := k1.cell 1
   have f2 := k1.cell 2
   have bb1 := b0.trans (b1.mono (Nat.le_of_lt sk0))
   go_wp2
   go_ret
   exact ⟨ret_bool (by rw [HN.out]), bb1⟩
end Go.Proofs.Ytgmgpcaahanmiaa
namespace Go.Proofs.Ytgmgpcaahanmiaa
open Go.RowKit
section
variable {F : FD} {n : Nat} {m : List (List Int)}
def wf (v : Nat → Int) (k : Nat) : Nat := (List.range k).countP fun i => v i != 0
theorem wtTo_wf (xs : List Int) (k : Nat) : wtTo xs k = wf (nth xs) k := by
 induction k with
 | zero => rfl
 | succ k ih =>
  rw [wtTo, ih, wf, wf, List.range_succ, List.countP_append]
  by_cases e : nth xs k = 0
  · rw [if_pos e]; simp [e]
  · rw [if_neg e]; simp [e]
theorem wt_wf {xs : List Int} {k : Nat} (h : xs.length = k) : wt xs = wf (nth xs) k := by rw [wt, wtTo_wf, h]
theorem GC.ech (h : GC F n m) : ∃ pv, Ech F n m pv := by
 obtain ⟨pv, _, hE, _⟩ := form_ech h.good h.mat
 rw [h.fix] at hE
 exact ⟨pv, hE⟩
theorem encTo_sp (ok : F.Ok) {A : List (List Int)} (hM : F.Mat n A) {msg : List Int} (hm : ∀ c ∈ msg, 0 ≤ c ∧ c < F.n) {k : Nat} (hk : k ≤ A.length) : Sp F A (nth (encTo F n A msg k)) := by
 induction k with
 | zero =>
  rw [encTo, show nth (zeros n) = fun _ => 0 from by funext i; exact zeros_nth n i]
  exact .zero
 | succ k ih =>
  have hc : F.el (nth msg k) := by
   rcases Nat.lt_or_ge k msg.length with hh | hh
   · exact (el_n ok).2 (hm _ (nth_mem hh))
   · rw [nth_big hh]; exact zero_el ok
  have h := (ih (by omega)).step (j := k) (by omega) hc
  have e : (fun i => F.add (nth (encTo F n A msg k) i) (F.mul (nth msg k) (nth (nthL A k) i))) = nth (encTo F n A msg (k + 1)) := by
   funext i
   rcases Nat.lt_or_ge i n with hi | hi
   · rw [encTo, addTo_nth F _ _ _ _ (by rw [encTo_len]; exact Nat.le_refl _), if_pos hi]
   · rw [nth_big (xs := encTo F n A msg (k + 1)) (by rw [encTo_len]; exact hi), nth_big (xs := encTo F n A msg k) (by rw [encTo_len]; exact hi), nth_big (xs := nthL A k) (by rw [(Mat_nth hM (i := k) (by omega)).1]; exact hi), mul_zero_all ok, add_zero' ok (zero_el ok)]
  rw [e] at h
  exact h
theorem Ech.enc (ok : F.Ok) {pv : List Nat} (hE : Ech F n m pv) {v : List Int} (hl : v.length = n) (hs : Sp F m (nth v)) : v = encTo F n m (pv.map (nth v)) m.length := by
 refine eq_of_nth (by rw [encTo_len, hl]) fun i hi => ?_
 rw [hl] at hi
 rw [encTo_sum ok n m _ _ hi, hE.coord ok hs i]
 refine sum_congr fun j hj => ?_
 have hj' : j < pv.length := by rw [hE.len]; exact hj
 rw [nth_lt (xs := pv.map (nth v)) (by rw [List.length_map]; exact hj'), List.getElem_map, List.getD_eq_getElem?_getD, List.getElem?_eq_getElem hj']
 rfl
theorem hig_all (ok : F.Ok) {k : Nat} {msg : List Int} (hl : msg.length = k) (he : ∀ c ∈ msg, 0 ≤ c ∧ c < F.n) : ∃ t, t < F.n ^ k ∧ hig t F.n k = msg := by
 have hn : (0 : Int) < F.n := by have := ok.n_bd; omega
 have hr : ∀ c ∈ msg.reverse, 0 ≤ c ∧ c < F.n := fun c hc => he c (List.mem_reverse.1 hc)
 have h := num_bound hn hr
 rw [List.length_reverse, hl] at h
 obtain ⟨t, ht⟩ := Int.eq_ofNat_of_zero_le h.1
 refine ⟨t, ?_, ?_⟩
 · have h2 := h.2
   rw [ht, ← Int.natCast_pow] at h2
   exact Int.ofNat_lt.1 h2
 · rw [hig, ← ht, dig_num hn hr (by rw [List.length_reverse, hl]), List.reverse_reverse]
theorem hig_inj {q k s t : Nat} (hq : 0 < q) (hs : s < q ^ k) (ht : t < q ^ k) (h : hig s q k = hig t q k) : s = t := by
 have e : dig (s : Int) q k = dig (t : Int) q k := by
  have := congrArg List.reverse h
  rwa [hig, hig, List.reverse_reverse, List.reverse_reverse] at this
 have hb : ∀ s : Nat, s < q ^ k → (s : Int) < (q : Int) ^ k := fun s hs => by rw [← Int.natCast_pow]; exact Int.ofNat_lt.2 hs
 have e2 := congrArg (num (q : Int)) e
 rw [num_dig (p := (q : Int)) (by omega) k (by omega) (hb s hs), num_dig (p := (q : Int)) (by omega) k (by omega) (hb t ht)] at e2
 exact Int.ofNat_inj.1 e2
theorem GC.word_sp (h : GC F n m) {j : Nat} (hj : j < F.n ^ m.length) : (nthL (wordsTo F n m m.length) j).length = n ∧ (∀ x ∈ nthL (wordsTo F n m m.length) j, 0 ≤ x ∧ x < F.n) ∧ Sp F m (nth (nthL (wordsTo F n m m.length) j)) := by
 have ok := h.good.ok
 obtain ⟨n2, _⟩ := ok.n_bd
 rw [wordsTo_nth F n m hj]
 exact ⟨encTo_len _ _ _ _ _, encTo_el ok _ _ _ _, encTo_sp ok h.mat (hig_el j (by omega) _) (Nat.le_refl _)⟩
theorem sp_mem (ok : F.Ok) {v : List Int} (hs : Sp F m (nth v)) : ∀ x ∈ v, 0 ≤ x ∧ x < F.n := fun x hx => by
 obtain ⟨i, hi, rfl⟩ := List.getElem_of_mem hx
 rw [← nth_lt hi]
 exact (el_n ok).1 (hs.el ok i)
theorem GC.sp_word (h : GC F n m) {v : List Int} (hl : v.length = n) (hs : Sp F m (nth v)) : ∃ j, j < F.n ^ m.length ∧ nthL (wordsTo F n m m.length) j = v := by
 have ok := h.good.ok
 obtain ⟨pv, hE⟩ := h.ech
 have he := hE.enc ok hl hs
 obtain ⟨t, ht, e⟩ := hig_all ok (k := m.length) (msg := pv.map (nth v)) (by rw [List.length_map, hE.len]) fun c hc => by
  obtain ⟨i, _, rfl⟩ := List.mem_map.1 hc
  exact (el_n ok).1 (hs.el ok i)
 exact ⟨t, ht, by rw [wordsTo_nth F n m ht, e, ← he]⟩
theorem GC.word_inj (h : GC F n m) {i j : Nat} (hi : i < F.n ^ m.length) (hj : j < F.n ^ m.length) (e : nthL (wordsTo F n m m.length) i = nthL (wordsTo F n m m.length) j) : i = j := by
 have ok := h.good.ok
 obtain ⟨n2, _⟩ := ok.n_bd
 obtain ⟨pv, hE⟩ := h.ech
 rw [wordsTo_nth F n m hi, wordsTo_nth F n m hj] at e
 refine hig_inj (by omega) hi hj (eq_of_nth (by rw [hig_len, hig_len]) fun l hl => ?_)
 rw [hig_len] at hl
 have h1 := encTo_piv ok hE (hig_el i (show 0 < F.n by omega) m.length) hl
 have h2 := encTo_piv ok hE (hig_el j (show 0 < F.n by omega) m.length) hl
 rw [← h1, e, h2]
theorem cntW_count (words : List (List Int)) {n d : Nat} (hd : d ≤ n) (k : Nat) : nth (cntW words n k) d = (((List.range k).countP fun j => wt (nthL words j) == d : Nat) : Int) := by
 induction k with
 | zero => rw [cntW, zeros_nth]; rfl
 | succ k ih =>
  rw [cntW, List.range_succ, List.countP_append]
  by_cases e : wt (nthL words k) = d
  · rw [e, nth_set_same (by rw [cntW_len]; omega), ih]
    simp [e]
  · rw [nth_set_ne e, ih]
    simp [e]
theorem GC.wts_count (_h : GC F n m) {d : Nat} (hd : d ≤ n) : nth (wts F n m) d = (((List.range (F.n ^ m.length)).countP fun j => wt (nthL (wordsTo F n m m.length) j) == d : Nat) : Int) := by
 rw [wts, cntW_count _ hd, wordsTo_len]
theorem GC.dist_spec (h : GC F n m) : (∃ v, v.length = n ∧ Sp F m (nth v) ∧ wt v = distC F n m) ∧ ∀ v, v.length = n → Sp F m (nth v) → 1 ≤ wt v → distC F n m ≤ wt v := by
 have ok := h.good.ok
 obtain ⟨d0, h1, h2, h3⟩ := h.some_wt
 have hl := leastD_ok h1 (by rw [wts_len]; omega) h3
 rw [← show distC F n m = leastD (wts F n m) from rfl] at hl
 constructor
 · have h4 := hl.2.2.1
   rw [h.wts_count (by omega)] at h4
   have h5 : 0 < (List.range (F.n ^ m.length)).countP fun j => wt (nthL (wordsTo F n m m.length) j) == distC F n m := by omega
   obtain ⟨j, hj, hw⟩ := List.countP_pos_iff.1 h5
   have hj' := List.mem_range.1 hj
   have hs := h.word_sp hj'
   exact ⟨_, hs.1, hs.2.2, by simpa using hw⟩
 · intro v hv hs hw
   obtain ⟨j, hj, e⟩ := h.sp_word hv hs
   have hle : wt v ≤ n := by rw [wt, hv]; exact wtTo_le _ _
   rcases Nat.lt_or_ge (wt v) (distC F n m) with hlt | hge
   · have h4 := hl.2.2.2 (wt v) hw hlt
     rw [h.wts_count hle] at h4
     have h5 : 0 < (List.range (F.n ^ m.length)).countP fun j => wt (nthL (wordsTo F n m m.length) j) == wt v := List.countP_pos_iff.2 ⟨j, List.mem_range.2 hj, by rw [e]; simp⟩
     omega
   · exact hge
theorem hasV_iff (h : GC F n m) {v : List Int} : hasV F n m v = true ↔ v.length = n ∧ (∀ x ∈ v, 0 ≤ x ∧ x < F.n) ∧ Sp F m (nth v) := by
 rw [hasV]
 by_cases e : v.length = n ∧ elems F.n v = true
 · have hv : v.length = n ∧ ∀ x ∈ v, 0 ≤ x ∧ x < F.n := ⟨e.1, fun x hx => elems_true.1 e.2 x hx⟩
   have hr := rank_iff h.good h.mat hv
   rw [h.fix] at hr
   rw [if_pos e, decide_eq_true_eq, hr]
   exact ⟨fun h => ⟨hv.1, hv.2, h⟩, fun h => h.2.2⟩
 · rw [if_neg e]
   refine ⟨fun h => by simp at h, fun h => absurd ⟨h.1, elems_true.2 h.2.1⟩ e⟩
end
end Go.Proofs.Ytgmgpcaahanmiaa
namespace Go.Proofs.Ytgmgpcaahanmiaa
open Go.RowKit
section
variable {F : FD}
def tk (msg : List Int) (k t : Nat) : List Int := (List.range k).map fun l => if l < t then nth msg l else 0
theorem apart_self {a b : List Int} {k : Nat} (h : ∀ i, i < k → nth a i = nth b i) : apartTo a b k = 0 := by
 induction k with
 | zero => rfl
 | succ k ih => rw [apartTo, if_pos (h k (by omega)), ih fun i hi => h i (by omega)]
theorem apart_set {a b : List Int} (i : Nat) (x : Int) (k : Nat) : apartTo a (b.set i x) k ≤ apartTo a b k + 1 := by
 have h1 : ∀ k, k ≤ i → apartTo a (b.set i x) k = apartTo a b k := by
  intro k
  induction k with
  | zero => intro _; rfl
  | succ k ih => intro h; rw [apartTo, apartTo, ih (by omega), nth_set_ne (by omega)]
 induction k with
 | zero => exact Nat.zero_le _
 | succ k ih =>
  by_cases e : k = i
  · subst e
    have := h1 k (Nat.le_refl _)
    rw [apartTo, apartTo, this]
    split <;> split <;> omega
  · rw [apartTo, apartTo, nth_set_ne (fun h => e h.symm)]
    split <;> omega
end
end Go.Proofs.Ytgmgpcaahanmiaa
namespace Go.Proofs.Ytgmgpcaahanmiaa
open Go.RowKit
section
variable {F : FD} {n : Nat} {m A : List (List Int)}
theorem nth_el' (ok : F.Ok) {v : List Int} (h : ∀ x ∈ v, 0 ≤ x ∧ x < F.n) (i : Nat) : F.el (nth v i) := by
 rcases Nat.lt_or_ge i v.length with hi | hi
 · exact (el_n ok).2 (h _ (nth_mem hi))
 · rw [nth_big hi]; exact zero_el ok
theorem apartTo_comm (a b : List Int) (k : Nat) : apartTo a b k = apartTo b a k := by
 induction k with
 | zero => rfl
 | succ k ih =>
  rw [apartTo, apartTo, ih]
  by_cases e : nth a k = nth b k
  · rw [if_pos e, if_pos e.symm]
  · rw [if_neg e, if_neg fun h => e h.symm]
end
end Go.Proofs.Ytgmgpcaahanmiaa
namespace Go.Proofs.Ytgmgpcaahanmiaa
open Go.RowKit
section
variable {F : FD} {n : Nat} {m A : List (List Int)}
theorem FD.Good.okF (h : F.Good) : okF F.p F.k F.poly = true := by
 have ok := h.ok
 have hk := ok.k1
 have hk6 := ok.k6
 simp only [Go.Proofs.Ytgmgpcaahanmiaa.okF, Bool.and_eq_true, inB_true, beq_iff_eq, List.all_eq_true]
 refine ⟨⟨ok.p2, ok.p64⟩, ⟨by omega, by omega⟩, by rw [ok.len]; omega, by rw [Int.toNat_natCast]; exact ok.one, by rw [Int.toNat_natCast, h.spl], fun x hx => ?_, ok.irr⟩
 have := ok.inR x hx
 exact ⟨this.1, by omega⟩
theorem GC.okC (h : GC F n m) : okC F.p F.k F.poly m = true := by
 have hM := h.mat
 rw [Go.Proofs.Ytgmgpcaahanmiaa.okC, Bool.and_eq_true, Bool.and_eq_true, Bool.and_eq_true, decide_eq_true_eq, decide_eq_true_eq, decide_eq_true_eq, fdR_eq]
 refine ⟨?_, h.m8, h.cap, by rw [h.hn]; exact h.fix⟩
 rw [okM, Bool.and_eq_true]
 refine ⟨h.good.okF, ?_⟩
 rw [okR_true]
 refine ⟨h.m1, by have := h.m8; omega, by rw [h.hn]; exact h.n1, by rw [h.hn]; exact h.n32, fun r hr => ?_⟩
 rw [h.hn, Int.toNat_natCast, h.good.ok.n_eq]
 exact ⟨(hM r hr).1, elems_true.2 (hM r hr).2⟩
theorem mkC_gc (hG : F.Good) (hM : F.Mat n A) (n1 : 1 ≤ n) (n32 : n ≤ 32) (h : (mkC F (form F A n)).2.2.2.2 = 0) : GC F n (form F A n) ∧ mkC F (form F A n) = (F.p, (F.k : Int), F.poly, form F A n, 0) := by
 obtain ⟨pv, _, hE, _⟩ := form_ech hG hM
 rw [mkC] at h ⊢
 by_cases h0 : (form F A n).length = 0
 · rw [if_pos h0] at h; simp at h
 · rw [if_neg h0] at h ⊢
   by_cases h1 : 8 < (form F A n).length ∨ 4096 < capTo F.n 4096 (form F A n).length
   · rw [if_pos h1] at h; simp at h
   · rw [if_neg h1]
     exact ⟨⟨hG, by omega, by omega, n1, n32, (Mat_nth hE.mat (by omega)).1, hE.mat, by omega, (form_fix hG hE).1⟩, rfl⟩
end
end Go.Proofs.Ytgmgpcaahanmiaa
namespace Go.Proofs.Ytgmgpcaahanmiaa
open Go.RowKit
attribute [local go_sem ↓] Go.wp_at_zero Go.wp_at_succ
theorem implCH_any (p d : Int) (a : Option Addr) (c : Nat) (xs : List Int) (ra : Option Addr) (rc : Nat) (m : List (List Int)) (b : Option Addr) (cb : Nat) (v : List Int) (w : World) (hx : Rd w a xs) (hm : RdS w ra m) (hy : Rd w b v) (ed : I64 d) : Calls Try.prog 24 #[.agg #[.int .i64 p, .int .i64 d, .slice a xs.length c, .slice ra m.length rc], .slice b v.length cb] w fun e w' => e = .returned (.bool (hasRes p d xs m v)) ∧ Below w.heap.size w w' := by
 have hml := hm.len
 have hvl0 := hy.len
 generalize hR : hasRes p d xs m v = r
 obtain ⟨W0, hHW⟩ : ∃ z, z = w.alloc (.cells #[.int .i64 p, .int .i64 d, .slice a xs.length c, .slice ra m.length rc] 37) := ⟨_, rfl⟩
 have b0 : Below w.heap.size w W0 := by rw [hHW]; exact (Below.refl _ _).alloc (Nat.le_refl _) _
 have k0 : Blk W0 w.heap.size 37 #[.int .i64 p, .int .i64 d, .slice a xs.length c, .slice ra m.length rc] := by rw [hHW]; exact Blk.new _ _ _ rfl
 have sk0 : w.heap.size < W0.heap.size := k0.lt
 have HW := Lib.hid hHW
 clear hHW
 have hV := implVC_any p d a c xs ra rc m W0 (hx.below b0) (hm.below b0) ed
 cases hk : okC p d xs m with
 | false =>
  have HN := Lib.hid (show r = false by rw [← hR, hasRes, hk]; rfl)
  rw [hk] at hV
  have HV := hide hV
  clear hV hk hR
  have f0 := k0.cell 0
  have f1 := k0.cell 1
  have f2 := k0.cell 2
  have f3 := k0.cell 3
  go_enter Try.func24, Try.ntmps24
  go_upto_region 1 with fail
  rw [← HW.out]
  go_wp2_with fail
  refine (unhide HV).mono ?_
  rintro e w1 ⟨rfl, b1⟩
  have k1 := k0.below b1 k0.lt
  clear f0 f1 f2 f3
  have f0 := k1.cell 0
  have f1 := k1.cell 1
  have f2 := k1.cell 2
  have f3 := k1.cell 3
  have bb1 := b0.trans (b1.mono (Nat.le_of_lt sk0))
  go_wp2
  go_ret
  exact ⟨ret_bool (by rw [HN.out]), bb1⟩
 | true =>
  obtain ⟨F, n, rfl, rfl, rfl, hC⟩ := okC_gc hk
  have hRR : r = hasV F n m v := by rw [← hR, hasRes, hk, fdR_eq, hC.hn]; rfl
  have hok := okC_okM hk
  rw [hk] at hV
  have hS := fun W (h : Below W0.heap.size W0 W) => spanHas_any F a c ra rc m b cb v n W ((hx.below b0).below h) ((hm.below b0).below h) ((hy.below b0).below h) hC hok ed
  have HV := hide hV
  have HS := hide hS
  have HRR := Lib.hid hRR
  clear hV hk hR hS hRR hok hC
  have f0 := k0.cell 0
  have f1 := k0.cell 1
  have f2 := k0.cell 2
  have f3 := k0.cell 3
  go_enter Try.func24, Try.ntmps24
  go_upto_region 1 with fail
  rw [← HW.out]
  go_wp2_with fail
  refine (unhide HV).mono ?_
  rintro e w1 ⟨rfl, b1⟩
  have k1 := k0.below b1 k0.lt
  clear f0 f1 f2 f3
  have f0 := k1.cell 0
  have f1 := k1.cell 1
  have f2 := k1.cell 2
  have f3 := k1.cell 3
  have bb1 := b0.trans (b1.mono (Nat.le_of_lt sk0))
  go_wp2_with fail
  refine (unhide HS w1 b1).mono ?_
  rintro e w2 ⟨rfl, b2⟩
  go_wp2
  go_ret
  exact ⟨ret_bool (by rw [HRR.out]), bb1.trans (b2.mono bb1.size)⟩
end Go.Proofs.Ytgmgpcaahanmiaa
namespace Go.Proofs.Ytgmgpcaahanmiaa
open Go.RowKit
attribute [local go_sem ↓] Go.wp_at_zero Go.wp_at_succ
noncomputable def perfV (F : FD) (n : Nat) (m : List (List Int)) : Bool × Int :=
 if capTo F.n LIM n ≤ LIM then (((F.n ^ m.length : Nat) : Int) * ballV F.n n ((distC F n m - 1) / 2) == (F.n : Int) ^ n, 0) else (false, 2)
noncomputable def perfRes (p d : Int) (xs : List Int) (m : List (List Int)) : Bool × Int := if okC p d xs m = true then perfV (fdR p d xs) (nthL m 0).length m else (false, 1)
theorem perf_mul {q k V P : Int} (h1 : 0 ≤ k) (h2 : k ≤ 4096) (h3 : 0 ≤ V) (h4 : V ≤ 1000000000000) : 0 ≤ k * V ∧ k * V ≤ 4096000000000000 := by
 refine ⟨Int.mul_nonneg h1 h3, ?_⟩
 have a := Int.mul_le_mul_of_nonneg_right h2 h3
 omega
theorem implPF_any (p d : Int) (a : Option Addr) (c : Nat) (xs : List Int) (ra : Option Addr) (rc : Nat) (m : List (List Int)) (w : World) (hx : Rd w a xs) (hm : RdS w ra m) (ed : I64 d) : Calls Try.prog 35 #[.agg #[.int .i64 p, .int .i64 d, .slice a xs.length c, .slice ra m.length rc]] w (ResB w (perfRes p d xs m)) := by
 have hml := hm.len
 generalize hR : perfRes p d xs m = r
 obtain ⟨W0, hHW⟩ : ∃ z, z = w.alloc (.cells #[.int .i64 p, .int .i64 d, .slice a xs.length c, .slice ra m.length rc] 37) := ⟨_, rfl⟩
 have b0 : Below w.heap.size w W0 := by rw [hHW]; exact (Below.refl _ _).alloc (Nat.le_refl _) _
 have k0 : Blk W0 w.heap.size 37 #[.int .i64 p, .int .i64 d, .slice a xs.length c, .slice ra m.length rc] := by rw [hHW]; exact Blk.new _ _ _ rfl
 have sk0 : w.heap.size < W0.heap.size := k0.lt
 have HW := Lib.hid hHW
 clear hHW
 have hD := implDI_any p d a c xs ra rc m W0 (hx.below b0) (hm.below b0) ed
 cases hk : okC p d xs m with
 | false =>
  have HN := Lib.hid (show r = (false, 1) by rw [← hR, perfRes, hk]; rfl)
  have hdr : distRes p d xs m = (0, 1) := by rw [distRes, hk]; rfl
  rw [hdr] at hD
  have HD := hide hD
  clear hD hk hR hdr
  have f0 := k0.cell 0
  have f1 := k0.cell 1
  have f2 := k0.cell 2
  have f3 := k0.cell 3
  go_enter Try.func35, Try.ntmps35
  go_upto_region 1 with fail
  rw [← HW.out]
  go_wp2_with fail
  refine (unhide HD).mono ?_
  rintro e w1 ⟨rfl, b1⟩
  have k1 := k0.below b1 k0.lt
  clear f0 f1 f2 f3
  have f0 := k1.cell 0
  have f1 := k1.cell 1
  have f2 := k1.cell 2
  have f3 := k1.cell 3
  have bb1 := b0.trans (b1.mono (Nat.le_of_lt sk0))
  go_wp2
  go_ret2
  rw [HN.out]
  exact ⟨rfl, bb1⟩
 | true =>
  obtain ⟨F, n, rfl, rfl, rfl, hC⟩ := okC_gc hk
  have ok := hC.good.ok
  obtain ⟨n2, n64⟩ := ok.n_bd
  have hm1 := hC.m1
  have hm0 : 0 < m.length := by omega
  have hm8 := hC.m8
  have hn1 := hC.n1
  have hn32 := hC.n32
  have hdr : distRes F.p F.k F.poly m = ((distC F n m : Int), 0) := by rw [distRes, hk, fdR_eq, hC.hn]; rfl
  have hRR : r = perfV F n m := by rw [← hR, perfRes, hk, fdR_eq, hC.hn]; rfl
  rw [hdr] at hD
  obtain ⟨hd1, hdn⟩ := hC.dist
  obtain ⟨hcap, hQ⟩ := hC.cap_eq
  have hq2 : (2 : Int) ≤ F.n := by omega
  have hq64 : (F.n : Int) ≤ 64 := by omega
  have hL := fun W (h : Below W0.heap.size W0 W) => lengthOf_any F.p F.k a F.poly.length c ra rc m W ((hm.below b0).below h) hm1
  rw [hC.hn] at hL
  have hFS := fun W => fieldSize_any F a c W ok
  have hPW := fun W => powerUpTo_any F.n n 1000000000000 W (by omega) (by omega) (by omega) (by omega) (by omega)
  rw [Int.toNat_natCast] at hPW
  change ∀ W, Calls Try.prog 113 #[.int .i64 F.n, .int .i64 n, .int .i64 1000000000000] W (fun e w' => e = .returned (.int .i64 (capTo F.n LIM n)) ∧ W = w') at hPW
  have hPK := fun W => powerUpTo_any F.n m.length 4096 W (by omega) (by omega) (by omega) (by omega) (by omega)
  rw [Int.toNat_natCast, hcap] at hPK
  rw [perfV] at hRR
  generalize distC F n m = D at hd1 hdn hD hRR
  obtain ⟨K, hK⟩ : ∃ K, K = F.n ^ m.length := ⟨_, rfl⟩
  rw [← hK] at hQ hPK hRR
  have HD := hide hD
  have HL := hide hL
  have HFS := hide hFS
  have HPK := hide hPK
  have BX := hide (show ∀ W, Below W0.heap.size W0 W → (Below W0.heap.size W0 W ∧ W.cell? ⟨w.heap.size, 0, none⟩ = some (.int .i64 F.p) ∧ W.cell? ⟨w.heap.size, 1, none⟩ = some (.int .i64 F.k) ∧ W.cell? ⟨w.heap.size, 2, none⟩ = some (.slice a F.poly.length c) ∧ W.cell? ⟨w.heap.size, 3, none⟩ = some (.slice ra m.length rc)) from fun W h => ⟨h, (k0.below h k0.lt).cell 0, (k0.below h k0.lt).cell 1, (k0.below h k0.lt).cell 2, (k0.below h k0.lt).cell 3⟩)
  clear hD hC hdr hk hR hL hK hcap hFS hPK
  have KB := hide (show ∀ W, Below W0.heap.size W0 W → Blk W w.heap.size 37 #[.int .i64 F.p, .int .i64 F.k, .slice a F.poly.length c, .slice ra m.length rc] from fun W h => k0.below h k0.lt)
  by_cases hl : capTo F.n LIM n ≤ LIM
  · rw [if_pos hl] at hRR
    have hpe := capTo_eq (by omega) hl
    rw [hpe] at hl hPW
    have hpp : 0 ≤ (F.n : Int) ^ n := Int.pow_nonneg (by omega)
    have hdd : ((D : Int) - 1) / 2 = (((D - 1) / 2 : Nat) : Int) := by omega
    have hdl : ((D - 1) / 2 : Nat) ≤ n := by omega
    have HB := hide (fun W => ballSize_any F.n n ((D - 1) / 2) W hq2 hq64 hn32 hdl hl)
    have hbp := ball_pos (q := F.n) (by omega) hn32 ((D - 1) / 2)
    have hbl := ball_le (q := F.n) (by omega) hn32 (r := (D - 1) / 2 + 1) (by omega)
    rw [← ballV_eq] at hbl
    have hl' : (F.n : Int) ^ n ≤ 1000000000000 := hl
    have HDD := Lib.hid hdd
    have HPW := hide hPW
    clear hPW hl hpe hdd
    generalize (F.n : Int) ^ n = P at *
    generalize ballV F.n n ((D - 1) / 2) = V at *
    obtain ⟨hm0, hm4⟩ := perf_mul (q := 0) (P := 0) (k := (K : Int)) (V := V) (by omega) (by omega) (by omega) (by omega)
    have hw1 : IntKind.i64.wrap ((D : Int) - 1) = (D : Int) - 1 := IntWalk.i64_in _ (by omega)
    have hw2 : IntKind.i64.wrap ((K : Int) * V) = (K : Int) * V := IntWalk.i64_in _ (by omega)
    have hlt : decide ((1000000000000 : Int) < P) = false := by rw [decide_eq_false_iff_not]; omega
    obtain ⟨R, hRb⟩ : ∃ R, R = ((K : Int) * V == P) := ⟨_, rfl⟩
    rw [← hRb] at hRR
    have HRR := Lib.hid hRR
    clear hRR
    have f0 := k0.cell 0
    have f1 := k0.cell 1
    have f2 := k0.cell 2
    have f3 := k0.cell 3
    go_enter Try.func35, Try.ntmps35
    go_upto_region 1 with fail
    rw [← HW.out]
    go_wp2_with fail
    refine (unhide HD).mono ?_
    rintro e w1 ⟨rfl, b1⟩
    have k1 := k0.below b1 k0.lt
    clear f0 f1 f2 f3
    have f0 := k1.cell 0
    have f1 := k1.cell 1
    have f2 := k1.cell 2
    have f3 := k1.cell 3
    have bb1 := b0.trans (b1.mono (Nat.le_of_lt sk0))
    go_upto_region 4 with fail
    go_region_held3 (fun W => Below W0.heap.size W0 W ∧ W.cell? ⟨w.heap.size, 0, none⟩ = some (.int .i64 F.p) ∧ W.cell? ⟨w.heap.size, 1, none⟩ = some (.int .i64 F.k) ∧ W.cell? ⟨w.heap.size, 2, none⟩ = some (.slice a F.poly.length c) ∧ W.cell? ⟨w.heap.size, 3, none⟩ = some (.slice ra m.length rc))
     (first | exact (unhide BX) _ b1.drew | exact (unhide BX) _ (by assumption))
     (first
      | (go_at_call 108; refine (unhide HL _ ?_).mono ?_; exact And.left (by assumption); rintro e w2 ⟨rfl, b2⟩; have hB2 := Below.chain (a := W0) (And.left (by assumption)) b2)
      | (go_at_call 117; refine (unhide HFS _).mono ?_; rintro e w3 ⟨rfl, b3⟩; have hB2 := Below.chain (a := W0) (And.left (by assumption)) b3))
    all_goals
     have k2 := unhide KB _ hB2
     clear f0 f1 f2 f3
     have f0 := k2.cell 0
     have f1 := k2.cell 1
     have f2 := k2.cell 2
     have f3 := k2.cell 3
     go_wp2_with fail
     refine (unhide HPW _).mono ?_
     rintro e w4 ⟨rfl, rfl⟩
     go_wp2_with fail
     refine (sizeS_any _ _ _ _).mono ?_
     rintro e w4 ⟨rfl, rfl⟩
     go_wp2_with fail
     refine (unhide HPK _).mono ?_
     rintro e w4 ⟨rfl, rfl⟩
     go_wp2_with fail
     rw [HDD.out]
     refine (unhide HB _).mono ?_
     rintro e w4 ⟨rfl, rfl⟩
     go_wp2
     go_ret2
     rw [HRR.out]
     exact ⟨by rw [hRb]; rfl, b0.trans (hB2.mono (Nat.le_of_lt sk0))⟩
  · rw [if_neg hl] at hRR
    have hlt : decide ((1000000000000 : Int) < capTo F.n LIM n) = true := by rw [decide_eq_true_eq]; have : ¬ capTo F.n LIM n ≤ 1000000000000 := hl; omega
    have HPW := hide hPW
    have HRR := Lib.hid hRR
    clear hPW hl hRR
    generalize capTo F.n LIM n = P at hlt HPW
    have f0 := k0.cell 0
    have f1 := k0.cell 1
    have f2 := k0.cell 2
    have f3 := k0.cell 3
    go_enter Try.func35, Try.ntmps35
    go_upto_region 1 with fail
    rw [← HW.out]
    go_wp2_with fail
    refine (unhide HD).mono ?_
    rintro e w1 ⟨rfl, b1⟩
    have k1 := k0.below b1 k0.lt
    clear f0 f1 f2 f3
    have f0 := k1.cell 0
    have f1 := k1.cell 1
    have f2 := k1.cell 2
    have f3 := k1.cell 3
    have bb1 := b0.trans (b1.mono (Nat.le_of_lt sk0))
    go_upto_region 4 with fail
    go_region_held3 (fun W => Below W0.heap.size W0 W ∧ W.cell? ⟨w.heap.size, 0, none⟩ = some (.int .i64 F.p) ∧ W.cell? ⟨w.heap.size, 1, none⟩ = some (.int .i64 F.k) ∧ W.cell? ⟨w.heap.size, 2, none⟩ = some (.slice a F.poly.length c) ∧ W.cell? ⟨w.heap.size, 3, none⟩ = some (.slice ra m.length rc))
     (first | exact (unhide BX) _ b1.drew | exact (unhide BX) _ (by assumption))
     (first
      | (go_at_call 108; refine (unhide HL _ ?_).mono ?_; exact And.left (by assumption); rintro e w2 ⟨rfl, b2⟩; have hB2 := Below.chain (a := W0) (And.left (by assumption)) b2)
      | (go_at_call 117; refine (unhide HFS _).mono ?_; rintro e w3 ⟨rfl, b3⟩; have hB2 := Below.chain (a := W0) (And.left (by assumption)) b3))
    all_goals
     go_wp2_with fail
     refine (unhide HPW _).mono ?_
     rintro e w4 ⟨rfl, rfl⟩
     go_wp2
     go_ret2
     rw [HRR.out]
     exact ⟨rfl, b0.trans (hB2.mono (Nat.le_of_lt sk0))⟩
end Go.Proofs.Ytgmgpcaahanmiaa
