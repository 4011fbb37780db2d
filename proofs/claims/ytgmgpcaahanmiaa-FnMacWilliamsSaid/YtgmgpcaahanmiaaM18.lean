/-
  Texts joined.
-/
import Derived.Test.YtgmgpcaahanmiaaM4
import Derived.Test.YtgmgpcaahanmiaaM5
import Derived.Test.YtgmgpcaahanmiaaM6
import Derived.Test.YtgmgpcaahanmiaaM7
import Derived.Test.YtgmgpcaahanmiaaM12
import Derived.Test.YtgmgpcaahanmiaaM13
import Derived.Test.YtgmgpcaahanmiaaM15
import Derived.Test.YtgmgpcaahanmiaaM16
import Derived.Test.YtgmgpcaahanmiaaM17
set_option linter.unusedVariables false
set_option linter.unusedSimpArgs false
set_option maxRecDepth 100000
set_option maxHeartbeats 40000000
namespace Go.Proofs.Ytgmgpcaahanmiaa
open Go.RowKit
attribute [local go_sem ↓] Go.wp_at_zero Go.wp_at_succ
theorem fdOf_good {q : Int} (h : isField q = true) : (fdOf q).Good := by
 obtain ⟨ok, hq, hs⟩ := fdOf_ok h
 exact ⟨ok, by rw [hq]; exact hs⟩
end Go.Proofs.Ytgmgpcaahanmiaa
namespace Go.Proofs.Ytgmgpcaahanmiaa
open Go.RowKit
section
variable {F : FD}
def tk (msg : List Int) (k t : Nat) : List Int := (List.range k).map fun l => if l < t then nth msg l else 0
end
end Go.Proofs.Ytgmgpcaahanmiaa
namespace Go.Proofs.Ytgmgpcaahanmiaa
open Go.RowKit
section
variable {F : FD} {n : Nat} {m A : List (List Int)}
theorem nth_el' (ok : F.Ok) {v : List Int} (h : ∀ x ∈ v, 0 ≤ x ∧ x < F.n) (i : Nat) : F.el (nth v i) := by
 rcases Nat.lt_or_ge i v.length with hi | hi
 · exact (el_n ok).2 (h _ (nth_mem hi))
 · rw [nth_big hi]; exact zero_el ok
end
end Go.Proofs.Ytgmgpcaahanmiaa
namespace Go.Proofs.Ytgmgpcaahanmiaa
open Go.RowKit
attribute [local go_sem ↓] Go.wp_at_zero Go.wp_at_succ
theorem codeOf_all (F : FD) (ap : Option Addr) (cp : Nat) (ra : Option Addr) (rc : Nat) (xss : List (List Int)) (n : Nat) (w : World) (hR : Rd w ap F.poly) (hG : F.Good) (hx : RdS w ra xss) (hM : F.Mat n xss) :
    Calls Try.prog 100 #[.agg #[.int .i64 F.p, .int .i64 F.k, .slice ap F.poly.length cp], .slice ra xss.length rc] w (ResC w (mkC F (form F xss n))) := by
 by_cases h0 : 0 < xss.length
 · exact codeOf_any F ap cp ra rc xss n w hR hG hx h0 hM
 · have hx0 : xss = [] := List.eq_nil_of_length_eq_zero (by omega)
   subst hx0
   have ok := hG.ok
   have HM := Lib.hid (show mkC F (form F [] n) = (0, 0, [], [], 6) by rw [form_nil]; rfl)
   obtain ⟨W0, hW0⟩ : ∃ W0, W0 = (w.alloc (.cells #[.int .i64 F.p, .int .i64 F.k, .slice ap F.poly.length cp] 34)).alloc (.cells #[.int .i64 0, .int .i64 0, .slice none 0 0, .slice none 0 0] 37) := ⟨_, rfl⟩
   have b0 : Below w.heap.size w W0 := by rw [hW0]; exact ((Below.refl _ _).alloc (Nat.le_refl _) _).alloc (by simp) _
   have kF : Blk W0 w.heap.size 34 #[.int .i64 F.p, .int .i64 F.k, .slice ap F.poly.length cp] := by rw [hW0]; exact (Blk.new _ _ _ rfl).alloc _
   have k0 : Blk W0 (w.heap.size + 1) 37 #[.int .i64 0, .int .i64 0, .slice none 0 0, .slice none 0 0] := by rw [hW0]; exact Blk.new _ _ _ (by simp)
   have s0 : w.heap.size + 1 < W0.heap.size := k0.lt
   have hT := tablesOf_any F ap cp W0 (hR.below b0) ok
   have HT := hide hT
   have HW := Lib.hid hW0
   have f0 := kF.cell 0
   have f1 := kF.cell 1
   have f2 := kF.cell 2
   clear hT hW0
   go_enter Try.func100, Try.ntmps100
   go_upto_region 1 with fail
   rw [← HW.out]
   go_wp2_with fail
   refine (unhide HT).mono ?_
   rintro e w1 ⟨tv, rfl, T1, b1⟩
   obtain ⟨aA, cA, aS, cS, aM, cM, aI, cI, rfl, _, _, _, _⟩ := T1
   have hb1 := b0.trans (b1.mono (by omega))
   have k1 := k0.below b1 k0.lt
   have z1 := b1.size
   clear f0 f1 f2
   go_wp2_with fail
   refine (reduce_nil F aA cA aS cS aM cM aI cI ra rc w1).mono ?_
   rintro e w2 ⟨v, u, dt, rfl, o2, _, b2⟩
   obtain ⟨ra2, rc2, rfl, _⟩ := o2.form
   have hb2 := hb1.trans (b2.mono (by omega))
   have k2 := k1.below b2 k1.lt
   have f0 := k2.cell 0
   have f1 := k2.cell 1
   have f2 := k2.cell 2
   have f3 := k2.cell 3
   have g0 := k2.frozen 0
   have g1 := k2.frozen 1
   have g2 := k2.frozen 2
   have g3 := k2.frozen 3
   go_wp2_with fail
   refine bodyPost_ret (results_cell_tmp_row rfl _ _ (w.heap.size + 1) 37 #[.int .i64 0, .int .i64 0, .slice none 0 0, .slice none 0 0] _ rfl (k2.b4.store _ _ _ _) Try.underlying37 rfl (by kernel_rfl)) rfl ?_
   rw [HM.out]
   exact ⟨_, _, rfl, OwnC.nil _ _, Below.set4 hb2 (by omega) _ _ _ _⟩
theorem nul_fix {F : FD} (hG : F.Good) {m : List (List Int)} {n : Nat} : form F (nul F m n) n = nul F m n := by
 have hM := nulTo_Mat hG.ok (form F m n) (red F m n).2 n n
 obtain ⟨pv, _, hE, _⟩ := form_ech hG hM
 exact (form_fix hG hE).1
def dualRes (p d : Int) (xs : List Int) (m : List (List Int)) : Int × Int × List Int × List (List Int) × Int := if okC p d xs m = true then mkC (fdR p d xs) (nul (fdR p d xs) m (nthL m 0).length) else (0, 0, [], [], 1)
theorem implDC_any (p d : Int) (a : Option Addr) (c : Nat) (xs : List Int) (ra : Option Addr) (rc : Nat) (m : List (List Int)) (w : World) (hx : Rd w a xs) (hm : RdS w ra m) (ed : I64 d) : Calls Try.prog 36 #[.agg #[.int .i64 p, .int .i64 d, .slice a xs.length c, .slice ra m.length rc]] w (ResC w (dualRes p d xs m)) := by
 have hml := hm.len
 generalize hR : dualRes p d xs m = r
 obtain ⟨W0, hHW⟩ : ∃ z, z = (w.alloc (.cells #[.int .i64 p, .int .i64 d, .slice a xs.length c, .slice ra m.length rc] 37)).alloc (.cells #[.int .i64 0, .int .i64 0, .slice none 0 0, .slice none 0 0] 37) := ⟨_, rfl⟩
 have b0 : Below w.heap.size w W0 := by rw [hHW]; exact ((Below.refl _ _).alloc (Nat.le_refl _) _).alloc (by simp) _
 have k0 : Blk W0 w.heap.size 37 #[.int .i64 p, .int .i64 d, .slice a xs.length c, .slice ra m.length rc] := by rw [hHW]; exact (Blk.new _ _ _ rfl).alloc _
 have kr : Blk W0 (w.heap.size + 1) 37 #[.int .i64 0, .int .i64 0, .slice none 0 0, .slice none 0 0] := by rw [hHW]; exact Blk.new _ _ _ (by simp)
 have sk0 : w.heap.size + 1 < W0.heap.size := kr.lt
 have sk1 : w.heap.size ≤ W0.heap.size := by omega
 have HW := Lib.hid hHW
 clear hHW
 have hV := implVC_any p d a c xs ra rc m W0 (hx.below b0) (hm.below b0) ed
 cases hk : okC p d xs m with
 | false =>
  have HN := Lib.hid (show r = (0, 0, [], [], 1) by rw [← hR, dualRes, hk]; rfl)
  rw [hk] at hV
  have HV := hide hV
  clear hV hk hR
  have f0 := k0.cell 0
  have f1 := k0.cell 1
  have f2 := k0.cell 2
  have f3 := k0.cell 3
  go_enter Try.func36, Try.ntmps36
  go_upto_region 1 with fail
  rw [← HW.out]
  go_wp2_with fail
  refine (unhide HV).mono ?_
  rintro e w1 ⟨rfl, b1⟩
  have k1 := k0.below b1 k0.lt
  have kr1 := kr.below b1 kr.lt
  clear f0 f1 f2 f3
  have f0 := k1.cell 0
  have f1 := k1.cell 1
  have f2 := k1.cell 2
  have f3 := k1.cell 3
  have bb1 := b0.trans (b1.mono sk1)
  have z1 := b1.size
  have r0 := kr1.cell 0
  have r1 := kr1.cell 1
  have r2 := kr1.cell 2
  have r3 := kr1.cell 3
  have s0 := kr1.frozen 0
  have s1 := kr1.frozen 1
  have s2 := kr1.frozen 2
  have s3 := kr1.frozen 3
  go_wp2
  refine bodyPost_ret (results_cell_tmp_row rfl _ _ (w.heap.size + 1) 37 #[.int .i64 0, .int .i64 0, .slice none 0 0, .slice none 0 0] _ rfl (kr1.b4.store _ _ _ _) Try.underlying37 rfl (by kernel_rfl)) rfl ?_
  rw [HN.out]
  exact ⟨_, _, rfl, OwnC.nil _ _, Below.set4 bb1 (by omega) _ _ _ _⟩
 | true =>
  obtain ⟨F, n, rfl, rfl, rfl, hC⟩ := okC_gc hk
  have ok := hC.good.ok
  obtain ⟨n2, n64⟩ := ok.n_bd
  have hm1 := hC.m1
  have hm0 : 0 < m.length := by omega
  have hm8 := hC.m8
  have hn1 := hC.n1
  have hn32 := hC.n32
  rw [hk] at hV
  have HV := hide hV
  have hRR : r = mkC F (nul F m n) := by rw [← hR, dualRes, hk, fdR_eq, hC.hn]; rfl
  clear hV hk hR
  obtain ⟨gb, ob, rfl, hgb, hcc⟩ := hm.at_ hm1
  obtain ⟨ai, ci, hr0, _⟩ := hcc 0 hm1
  rw [Nat.add_zero, hC.hn] at hr0
  have hT := fun W (h : Below W0.heap.size W0 W) => tablesOf_any F a c W ((hx.below b0).below h) ok
  have hW := fun tv W (h : Below W0.heap.size W0 W) hT => nullSpace_any F tv (some ⟨gb, ob, none⟩) rc m n W hT hC.good ((hm.below b0).below h) hm1 hC.mat hn1 (by omega)
  have hNM := nul_Mat ok m n
  have hNF := nul_fix hC.good (m := m) (n := n)
  obtain ⟨N, hN⟩ : ∃ N, N = nul F m n := ⟨_, rfl⟩
  rw [← hN] at hW hRR hNM hNF
  have hCO := fun b d W (h : Below W0.heap.size W0 W) (hy : RdS W b N) => codeOf_all F a c b d N n W ((hx.below b0).below h) hC.good hy hNM
  rw [hNF] at hCO
  have HT := hide hT
  have HWW := hide hW
  have HCO := hide hCO
  have HRR := Lib.hid hRR
  have BX := hide (show ∀ W, Below W0.heap.size W0 W → (Below w.heap.size w W ∧ W.cell? ⟨w.heap.size, 0, none⟩ = some (.int .i64 F.p) ∧ W.cell? ⟨w.heap.size, 1, none⟩ = some (.int .i64 F.k) ∧ W.cell? ⟨w.heap.size, 2, none⟩ = some (.slice a F.poly.length c) ∧ W.cell? ⟨w.heap.size, 3, none⟩ = some (.slice (some ⟨gb, ob, none⟩) m.length rc) ∧ W.cell? ⟨gb, ob, none⟩ = some (.slice ai n ci)) from fun W h => ⟨b0.trans (h.mono sk1), (k0.below h k0.lt).cell 0, (k0.below h k0.lt).cell 1, (k0.below h k0.lt).cell 2, (k0.below h k0.lt).cell 3, ((b0.trans (h.mono sk1)).cell (p := ⟨gb, ob, none⟩) hgb).trans hr0⟩)
  have BZ := hide (show ∀ x y z u W, Below W0.heap.size W0 W → (Below w.heap.size w ((((W.setCell ⟨w.heap.size + 1, 0, none⟩ x).setCell ⟨w.heap.size + 1, 1, none⟩ y).setCell ⟨w.heap.size + 1, 2, none⟩ z).setCell ⟨w.heap.size + 1, 3, none⟩ u) ∧ ((((W.setCell ⟨w.heap.size + 1, 0, none⟩ x).setCell ⟨w.heap.size + 1, 1, none⟩ y).setCell ⟨w.heap.size + 1, 2, none⟩ z).setCell ⟨w.heap.size + 1, 3, none⟩ u).cell? ⟨w.heap.size, 0, none⟩ = some (.int .i64 F.p) ∧ ((((W.setCell ⟨w.heap.size + 1, 0, none⟩ x).setCell ⟨w.heap.size + 1, 1, none⟩ y).setCell ⟨w.heap.size + 1, 2, none⟩ z).setCell ⟨w.heap.size + 1, 3, none⟩ u).cell? ⟨w.heap.size, 1, none⟩ = some (.int .i64 F.k) ∧ ((((W.setCell ⟨w.heap.size + 1, 0, none⟩ x).setCell ⟨w.heap.size + 1, 1, none⟩ y).setCell ⟨w.heap.size + 1, 2, none⟩ z).setCell ⟨w.heap.size + 1, 3, none⟩ u).cell? ⟨w.heap.size, 2, none⟩ = some (.slice a F.poly.length c) ∧ ((((W.setCell ⟨w.heap.size + 1, 0, none⟩ x).setCell ⟨w.heap.size + 1, 1, none⟩ y).setCell ⟨w.heap.size + 1, 2, none⟩ z).setCell ⟨w.heap.size + 1, 3, none⟩ u).cell? ⟨w.heap.size, 3, none⟩ = some (.slice (some ⟨gb, ob, none⟩) m.length rc) ∧ ((((W.setCell ⟨w.heap.size + 1, 0, none⟩ x).setCell ⟨w.heap.size + 1, 1, none⟩ y).setCell ⟨w.heap.size + 1, 2, none⟩ z).setCell ⟨w.heap.size + 1, 3, none⟩ u).cell? ⟨gb, ob, none⟩ = some (.slice ai n ci)) from fun x y z u W h => by
   have k := Below.set4 (Below.refl (w.heap.size + 1) W) (Nat.le_refl _) x y z u
   obtain ⟨q, q0, q1, q2, q3, q4⟩ := unhide BX W h
   exact ⟨Below.set4 q (by omega) x y z u, (k.cell (p := ⟨w.heap.size, 0, none⟩) (by show w.heap.size < _; omega)).trans q0, (k.cell (p := ⟨w.heap.size, 1, none⟩) (by show w.heap.size < _; omega)).trans q1, (k.cell (p := ⟨w.heap.size, 2, none⟩) (by show w.heap.size < _; omega)).trans q2, (k.cell (p := ⟨w.heap.size, 3, none⟩) (by show w.heap.size < _; omega)).trans q3, (k.cell (p := ⟨gb, ob, none⟩) (by show gb < _; omega)).trans q4⟩)
  clear hT hW hC hN hcc hNM hNF hCO hRR
  have f0 := k0.cell 0
  have f1 := k0.cell 1
  have f2 := k0.cell 2
  have f3 := k0.cell 3
  go_enter Try.func36, Try.ntmps36
  go_upto_region 1 with fail
  rw [← HW.out]
  go_wp2_with fail
  refine (unhide HV).mono ?_
  rintro e w1 ⟨rfl, b1⟩
  have k1 := k0.below b1 k0.lt
  have kr1 := kr.below b1 kr.lt
  clear f0 f1 f2 f3
  have f0 := k1.cell 0
  have f1 := k1.cell 1
  have f2 := k1.cell 2
  have f3 := k1.cell 3
  have bb1 := b0.trans (b1.mono sk1)
  have z1 := b1.size
  go_upto_region 3 with fail
  refine wp_region_noPanic ?_
  refine wp_region_ord (S := (fun W => Below w.heap.size w W ∧ W.cell? ⟨w.heap.size, 0, none⟩ = some (.int .i64 F.p) ∧ W.cell? ⟨w.heap.size, 1, none⟩ = some (.int .i64 F.k) ∧ W.cell? ⟨w.heap.size, 2, none⟩ = some (.slice a F.poly.length c) ∧ W.cell? ⟨w.heap.size, 3, none⟩ = some (.slice (some ⟨gb, ob, none⟩) m.length rc) ∧ W.cell? ⟨gb, ob, none⟩ = some (.slice ai n ci))) [(true, 0), (true, 1), (true, 2), (true, 3), (true, 5), (true, 6), (true, 7), (true, 8), (true, 9), (true, 10), (true, 11), (false, 4), (false, 12), (false, 13), (true, 14), (true, 15), (false, 16), (true, 17)] (by kernel_rfl) (by kernel_rfl) (by kernel_rfl) rfl (fun _ _ _ _ _ h => h) ?_ (fun hHeld => ?_)
  · exact (unhide BX) _ b1.drew
  refine SeqO.take (by rfl) (v := ?hv1) (by rfl) ?hy1 ?hr1
  case hy1 =>
   intro w hSw
   try dsimp only at hSw
   go_simp
   try (with_reducible rfl)
  try simp only [Act.put, List.setIfInBounds_toArray, List.set_cons_zero, List.set_cons_succ]
  refine SeqO.take (by rfl) (v := ?hv2) (by rfl) ?hy2 ?hr2
  case hy2 =>
   intro w hSw
   try dsimp only at hSw
   go_simp
   try (with_reducible rfl)
  try simp only [Act.put, List.setIfInBounds_toArray, List.set_cons_zero, List.set_cons_succ]
  refine SeqO.take (by rfl) (v := ?hv3) (by rfl) ?hy3 ?hr3
  case hy3 =>
   intro w hSw
   try dsimp only at hSw
   go_simp
   try (with_reducible rfl)
  try simp only [Act.put, List.setIfInBounds_toArray, List.set_cons_zero, List.set_cons_succ]
  refine SeqO.take (by rfl) (v := ?hv4) (by rfl) ?hy4 ?hr4
  case hy4 =>
   intro w hSw
   try dsimp only at hSw
   go_simp
   try (with_reducible rfl)
  try simp only [Act.put, List.setIfInBounds_toArray, List.set_cons_zero, List.set_cons_succ]
  refine SeqO.take (by rfl) (v := ?hv5) (by rfl) ?hy5 ?hr5
  case hy5 =>
   intro w hSw
   try dsimp only at hSw
   go_simp
   try (with_reducible rfl)
  try simp only [Act.put, List.setIfInBounds_toArray, List.set_cons_zero, List.set_cons_succ]
  refine SeqO.take (by rfl) (v := ?hv6) (by rfl) ?hy6 ?hr6
  case hy6 =>
   intro w hSw
   try dsimp only at hSw
   go_simp
   try (with_reducible rfl)
  try simp only [Act.put, List.setIfInBounds_toArray, List.set_cons_zero, List.set_cons_succ]
  refine SeqO.take (by rfl) (v := ?hv7) (by rfl) ?hy7 ?hr7
  case hy7 =>
   intro w hSw
   try dsimp only at hSw
   go_simp
   try (with_reducible rfl)
  try simp only [Act.put, List.setIfInBounds_toArray, List.set_cons_zero, List.set_cons_succ]
  refine SeqO.take (by rfl) (v := ?hv8) (by rfl) ?hy8 ?hr8
  case hy8 =>
   intro w hSw
   try dsimp only at hSw
   go_simp
   try (with_reducible rfl)
  try simp only [Act.put, List.setIfInBounds_toArray, List.set_cons_zero, List.set_cons_succ]
  refine SeqO.take (by rfl) (v := ?hv9) (by rfl) ?hy9 ?hr9
  case hy9 =>
   intro w hSw
   try dsimp only at hSw
   go_simp
   try (with_reducible rfl)
  try simp only [Act.put, List.setIfInBounds_toArray, List.set_cons_zero, List.set_cons_succ]
  refine SeqO.take (by rfl) (v := ?hv10) (by rfl) ?hy10 ?hr10
  case hy10 =>
   intro w hSw
   try dsimp only at hSw
   go_simp
   try (with_reducible rfl)
  try simp only [Act.put, List.setIfInBounds_toArray, List.set_cons_zero, List.set_cons_succ]
  refine SeqO.take (by rfl) (v := ?hv11) (by rfl) ?hy11 ?hr11
  case hy11 =>
   intro w hSw
   try dsimp only at hSw
   go_simp
   try (with_reducible rfl)
  try simp only [Act.put, List.setIfInBounds_toArray, List.set_cons_zero, List.set_cons_succ]
  refine SeqO.call (by rfl) (fun K hK => ?_)
  go_simp
  refine (unhide HT _ b1.drew).mono ?_
  rintro e w2 ⟨tv, rfl, t2, b2⟩
  have hB2 := Below.chain b1.drew b2
  go_wp2_with fail
  refine hK.out _ _ ?_ (fun hHeld => ?_)
  · exact (unhide BX) _ hB2
  clear hK K
  try simp only [Act.put, List.setIfInBounds_toArray, List.set_cons_zero, List.set_cons_succ]
  refine SeqO.call (by rfl) (fun K hK => ?_)
  go_simp
  refine (unhide HWW tv _ hB2 t2).mono ?_
  rintro e w3 ⟨u, rfl, o3, b3⟩
  obtain ⟨ax, cx, rfl, r3⟩ := o3.form
  have hB3 := Below.chain hB2 b3
  have z3 := hB3.size
  have p3 : w.heap.size + 1 < w3.heap.size := by omega
  go_wp2_with fail
  refine hK.out _ _ ?_ (fun hHeld => ?_)
  · exact (unhide BX) _ hB3
  clear hK K
  try simp only [Act.put, List.setIfInBounds_toArray, List.set_cons_zero, List.set_cons_succ]
  refine SeqO.call (by rfl) (fun K hK => ?_)
  go_simp
  refine (unhide HCO ax cx _ hB3 r3).mono ?_
  rintro e w4 ⟨v4, u4, rfl, o4, b4⟩
  have hB4 := Below.chain hB3 b4
  obtain ⟨qq, hqq⟩ : ∃ qq, qq = mkC F N := ⟨_, rfl⟩
  rw [← hqq] at o4 ⊢
  obtain ⟨rp, rd, rx, ry, rz⟩ := qq
  simp only [] at o4 ⊢
  obtain ⟨a4, c4, p4, d4, rfl, rfl, _, _⟩ := o4.form
  have HQ := Lib.hid hqq
  clear hqq
  have kr4 := kr.below hB4 kr.lt
  have bb4 := b0.trans (hB4.mono sk1)
  have r0 := kr4.cell 0
  have r1 := kr4.cell 1
  have r2 := kr4.cell 2
  have r3 := kr4.cell 3
  have s0 := kr4.frozen 0
  have s1 := kr4.frozen 1
  have s2 := kr4.frozen 2
  have s3 := kr4.frozen 3
  go_wp2_with fail
  refine hK.out _ _ ?_ (fun hHeld => ?_)
  · exact (unhide BX) _ hB4
  clear hK K
  try simp only [Act.put, List.setIfInBounds_toArray, List.set_cons_zero, List.set_cons_succ]
  refine SeqO.take (by rfl) (v := ?hv12) (by rfl) ?hy12 ?hr12
  case hy12 =>
   intro w hSw
   try dsimp only at hSw
   go_simp
   try (with_reducible rfl)
  try simp only [Act.put, List.setIfInBounds_toArray, List.set_cons_zero, List.set_cons_succ]
  refine SeqO.take (by rfl) (v := ?hv13) (by rfl) ?hy13 ?hr13
  case hy13 =>
   intro w hSw
   try dsimp only at hSw
   go_simp
   try (with_reducible rfl)
  try simp only [Act.put, List.setIfInBounds_toArray, List.set_cons_zero, List.set_cons_succ]
  refine SeqO.call (by rfl) (fun K hK => ?_)
  go_simp
  refine hK.out _ _ ?_ (fun hHeld => ?_)
  · exact (unhide BZ) _ _ _ _ _ hB4
  clear hK K
  try simp only [Act.put, List.setIfInBounds_toArray, List.set_cons_zero, List.set_cons_succ]
  refine SeqO.take (by rfl) (v := ?hv14) (by rfl) ?hy14 ?hr14
  case hy14 =>
   intro w hSw
   try dsimp only at hSw
   go_simp
   try (with_reducible rfl)
  try simp only [Act.put, List.setIfInBounds_toArray, List.set_cons_zero, List.set_cons_succ]
  refine SeqO.done (NoPanic.normal ?_)
  go_wp2
  refine bodyPost_ret (results_cell_tmp_row rfl _ _ (w.heap.size + 1) 37 #[.int .i64 rp, .int .i64 rd, .slice a4 rx.length c4, .slice p4 ry.length d4] _ rfl (kr4.b4.store _ _ _ _) Try.underlying37 rfl (by kernel_rfl)) rfl ?_
  rw [HRR.out, ← HQ.out]
  refine ⟨_, _, rfl, ?_, Below.set4 bb4 (by omega) _ _ _ _⟩
  exact ((((o4.storeBelow p3 _).storeBelow p3 _).storeBelow p3 _).storeBelow p3 _).mono (by omega)
end Go.Proofs.Ytgmgpcaahanmiaa
namespace Go.Proofs.Ytgmgpcaahanmiaa
open Go.RowKit
section
variable {F : FD} {n : Nat} {m A : List (List Int)}
theorem FD.Good.okF (h : F.Good) : okF F.p F.k F.poly = true := by
 have ok := h.ok
 have hk := ok.k1
 have hk6 := ok.k6
 simp only [Go.Proofs.Ytgmgpcaahanmiaa.okF, Bool.and_eq_true, inB_true, beq_iff_eq, List.all_eq_true]
 refine ⟨⟨ok.p2, ok.p64⟩, ⟨by omega, by omega⟩, by rw [ok.len]; omega, by rw [Int.toNat_natCast]; exact ok.one, by rw [Int.toNat_natCast, h.spl], fun x hx => ?_, ok.irr⟩
 have := ok.inR x hx
 exact ⟨this.1, by omega⟩
theorem GC.okC (h : GC F n m) : okC F.p F.k F.poly m = true := by
 have hM := h.mat
 rw [Go.Proofs.Ytgmgpcaahanmiaa.okC, Bool.and_eq_true, Bool.and_eq_true, Bool.and_eq_true, decide_eq_true_eq, decide_eq_true_eq, decide_eq_true_eq, fdR_eq]
 refine ⟨?_, h.m8, h.cap, by rw [h.hn]; exact h.fix⟩
 rw [okM, Bool.and_eq_true]
 refine ⟨h.good.okF, ?_⟩
 rw [okR_true]
 refine ⟨h.m1, by have := h.m8; omega, by rw [h.hn]; exact h.n1, by rw [h.hn]; exact h.n32, fun r hr => ?_⟩
 rw [h.hn, Int.toNat_natCast, h.good.ok.n_eq]
 exact ⟨(hM r hr).1, elems_true.2 (hM r hr).2⟩
theorem mkC_gc (hG : F.Good) (hM : F.Mat n A) (n1 : 1 ≤ n) (n32 : n ≤ 32) (h : (mkC F (form F A n)).2.2.2.2 = 0) : GC F n (form F A n) ∧ mkC F (form F A n) = (F.p, (F.k : Int), F.poly, form F A n, 0) := by
 obtain ⟨pv, _, hE, _⟩ := form_ech hG hM
 rw [mkC] at h ⊢
 by_cases h0 : (form F A n).length = 0
 · rw [if_pos h0] at h; simp at h
 · rw [if_neg h0] at h ⊢
   by_cases h1 : 8 < (form F A n).length ∨ 4096 < capTo F.n 4096 (form F A n).length
   · rw [if_pos h1] at h; simp at h
   · rw [if_neg h1]
     exact ⟨⟨hG, by omega, by omega, n1, n32, (Mat_nth hE.mat (by omega)).1, hE.mat, by omega, (form_fix hG hE).1⟩, rfl⟩
theorem capTo_mono {b l : Int} (hb : 1 ≤ b) (hl : 0 ≤ l) : ∀ {i j : Nat}, i ≤ j → capTo b l j ≤ l → capTo b l i ≤ l := by
 intro i j hij h
 rcases Classical.em (capTo b l i ≤ l) with h1 | h1
 · exact h1
 · rw [capTo_stop h1 j hij] at h; exact h
end
end Go.Proofs.Ytgmgpcaahanmiaa
namespace Go.Proofs.Ytgmgpcaahanmiaa
open Go.RowKit
attribute [local go_sem ↓] Go.wp_at_zero Go.wp_at_succ
structure HamH (w : World) (B g : Nat) (F : FD) (a : Option Addr) (c : Nat) (b : Option Addr) (d : Nat) (C : List (List Int)) (W : World) : Prop where
 bel : Below w.heap.size w W
 lt : w.heap.size < B ∧ B ≤ W.heap.size ∧ g < W.heap.size ∧ w.heap.size ≠ g
 kF : Blk W g 34 #[.int .i64 F.p, .int .i64 F.k, .slice a F.poly.length c]
 po : Own W B (.slice a F.poly.length c) F.poly
 co : OwnS W B (.slice b C.length d) C
 kr : B4 W w.heap.size 37
theorem HamH.next {w : World} {B g : Nat} {F : FD} {a : Option Addr} {c : Nat} {b : Option Addr} {d : Nat} {C : List (List Int)} {W W' : World} (h : HamH w B g F a c b d C W) (hb : Below W.heap.size W W') : HamH w B g F a c b d C W' := by
 have hz := hb.size
 obtain ⟨x, y, z, u, hk⟩ := h.kr
 have hl := h.lt
 exact ⟨h.bel.trans (hb.mono (by omega)), ⟨hl.1, by omega, by omega, hl.2.2.2⟩, h.kF.below hb h.kF.lt, h.po.below hb (Nat.le_refl _), h.co.below hb (Nat.le_refl _), ⟨_, _, _, _, hk.below hb hk.lt⟩⟩
theorem HamH.store {w : World} {B g : Nat} {F : FD} {a : Option Addr} {c : Nat} {b : Option Addr} {d : Nat} {C : List (List Int)} {W : World} (h : HamH w B g F a c b d C W) (x y z u : Value) : HamH w B g F a c b d C ((((W.setCell ⟨w.heap.size, 0, none⟩ x).setCell ⟨w.heap.size, 1, none⟩ y).setCell ⟨w.heap.size, 2, none⟩ z).setCell ⟨w.heap.size, 3, none⟩ u) := by
 have hl := h.lt
 have hne : g ≠ w.heap.size := Ne.symm hl.2.2.2
 refine ⟨Below.set4 h.bel (Nat.le_refl _) _ _ _ _, ⟨hl.1, ?_, ?_, hl.2.2.2⟩, ?_, ?_, ?_, ?_⟩
 · simpa using hl.2.1
 · simpa using hl.2.2.1
 · exact (((h.kF.far (p := ⟨w.heap.size, 0, none⟩) hne _).far (p := ⟨w.heap.size, 1, none⟩) hne _).far (p := ⟨w.heap.size, 2, none⟩) hne _).far (p := ⟨w.heap.size, 3, none⟩) hne _
 · exact (((h.po.storeBelow (by show w.heap.size < _; omega) _).storeBelow (by show w.heap.size < _; omega) _).storeBelow (by show w.heap.size < _; omega) _).storeBelow (by show w.heap.size < _; omega) _
 · exact (((h.co.storeBelow (by show w.heap.size < _; omega) _).storeBelow (by show w.heap.size < _; omega) _).storeBelow (by show w.heap.size < _; omega) _).storeBelow (by show w.heap.size < _; omega) _
 · exact ⟨_, _, _, _, h.kr.store x y z u⟩
end Go.Proofs.Ytgmgpcaahanmiaa
