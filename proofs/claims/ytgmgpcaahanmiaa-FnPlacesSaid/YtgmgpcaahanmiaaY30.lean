/-
  Texts joined.
-/
import Derived.Test.YtgmgpcaahanmiaaY4
import Derived.Test.YtgmgpcaahanmiaaY20
import Derived.Test.YtgmgpcaahanmiaaY27
import Derived.Test.YtgmgpcaahanmiaaY28
import Derived.Test.YtgmgpcaahanmiaaY29
set_option linter.unusedVariables false
set_option linter.unusedSimpArgs false
set_option maxRecDepth 100000
set_option maxHeartbeats 40000000
namespace Go.Proofs.Ytgmgpcaahanmiaa
open Go.RowKit
attribute [local go_sem ↓] Go.wp_at_zero Go.wp_at_succ
theorem OwnS.caps_ {w : World} {B rc : Nat} {ra : Option Addr} {xss : List (List Int)} (h : OwnS w B (.slice ra xss.length rc) xss) : CapS w ra xss := h.toH.caps
theorem Own.growFar {w w' : World} {B g1 : Nat} {v : Value} {xs : List Int} (h : Own w B v xs) (hg : w.grownBy w' (some g1)) (hlt : g1 < B) : Own w' B v xs := h.grow hg (by
 rcases hxb : v.ownBlock with _ | b
 · exact .inl rfl
 · refine .inr fun e => ?_
   injection e with e
   have := (h.lt b hxb).1
   omega)
def lesTo (F : FD) (m : List (List Int)) (j k : Nat) (D : List (List Int)) (i : Nat) : List (List Int) := (D.take i).map (lesR F m j k) ++ D.drop i
theorem lesTo_len (F : FD) (m : List (List Int)) (j k : Nat) (D : List (List Int)) {i : Nat} (hi : i ≤ D.length) : (lesTo F m j k D i).length = D.length := by simp [lesTo]; omega
theorem lesTo_zero (F : FD) (m : List (List Int)) (j k : Nat) (D : List (List Int)) : lesTo F m j k D 0 = D := by simp [lesTo]
theorem lesTo_all (F : FD) (m : List (List Int)) (j k : Nat) (D : List (List Int)) : lesTo F m j k D D.length = D.map (lesR F m j k) := by simp [lesTo]
theorem lesTo_nth (F : FD) (m : List (List Int)) (j k : Nat) (D : List (List Int)) {i : Nat} (hi : i < D.length) : nthL (lesTo F m j k D i) i = nthL D i := by
 have hl : ((D.take i).map (lesR F m j k)).length = i := by simp; omega
 have hn : ∀ (l : List (List Int)) (q : Nat), nthL l q = l[q]?.getD [] := fun l q => by simp [nthL]
 simp only [hn, lesTo]
 rw [List.getElem?_append_right (by omega), hl, List.getElem?_drop, Nat.sub_self, Nat.add_zero]
theorem lesTo_succ (F : FD) (m : List (List Int)) (j k : Nat) (D : List (List Int)) {i : Nat} (hi : i < D.length) : lesTo F m j k D (i + 1) = (lesTo F m j k D i).set i (lesR F m j k (nthL D i)) := by
 have hl : ((D.take i).map (lesR F m j k)).length = i := by simp; omega
 rw [lesTo, lesTo, List.set_append, hl, if_neg (by omega), Nat.sub_self, take_nthL hi, List.map_append, List.append_assoc]
 congr 1
 rw [show D.drop i = nthL D i :: D.drop (i + 1) by rw [nthL_lt hi]; exact List.drop_eq_getElem_cons hi]
 rfl
theorem implSH_any (p d : Int) (a : Option Addr) (c : Nat) (xs : List Int) (ra : Option Addr) (rc : Nat) (m : List (List Int)) (j : Int) (w : World) (hx : Rd w a xs) (hm : RdS w ra m) (hcap : CapS w ra m) (ed : I64 d) : Calls Try.prog 53 #[.agg #[.int .i64 p, .int .i64 d, .slice a xs.length c, .slice ra m.length rc], .int .i64 j] w (ResC w (shoRes p d xs m j)) := by
 have hml := hm.len
 have hx' := hx
 generalize hR : shoRes p d xs m j = r
 obtain ⟨W0, hHW⟩ : ∃ z, z = ((w.alloc (.cells #[.int .i64 p, .int .i64 d, .slice a xs.length c, .slice ra m.length rc] 37)).alloc (.cells #[.int .i64 j] 2)).alloc (.cells #[.int .i64 0, .int .i64 0, .slice none 0 0, .slice none 0 0] 37) := ⟨_, rfl⟩
 have b0 : Below w.heap.size w W0 := by rw [hHW]; exact (((Below.refl _ _).alloc (Nat.le_refl _) _).alloc (by simp) _).alloc (by simp; omega) _
 have k0 : Blk W0 w.heap.size 37 #[.int .i64 p, .int .i64 d, .slice a xs.length c, .slice ra m.length rc] := by rw [hHW]; exact ((Blk.new _ _ _ rfl).alloc _).alloc _
 have kp : Blk W0 (w.heap.size + 1) 2 #[.int .i64 j] := by rw [hHW]; exact (Blk.new _ _ _ (by simp)).alloc _
 have kr : Blk W0 (w.heap.size + 2) 37 #[.int .i64 0, .int .i64 0, .slice none 0 0, .slice none 0 0] := by rw [hHW]; exact Blk.new _ _ _ (by simp)
 have sk0 : w.heap.size + 2 < W0.heap.size := kr.lt
 have sk1 : w.heap.size ≤ W0.heap.size := by omega
 have HW := Lib.hid hHW
 clear hHW
 have hV := placed_any p d a c xs ra rc m j W0 (hx.below b0) (hm.below b0) ed
 by_cases hq : plcR p d xs m j = 0
 ·
  obtain ⟨hk, k, rfl, hkn, hne⟩ := plc_zero hq
  obtain ⟨F, n, rfl, rfl, rfl, hC⟩ := okC_gc hk
  have ok := hC.good.ok
  obtain ⟨n2, n64⟩ := ok.n_bd
  have hm1 := hC.m1
  have hm0 : 0 < m.length := by omega
  have hm8 := hC.m8
  have hn1 := hC.n1
  have hn32 := hC.n32
  rw [hq] at hV
  have HV := hide hV
  have hRR : r = mkC F (form F (shoM F m k) (n - 1)) := by rw [← hR, shoRes, if_pos hq, fdR_eq, hC.hn, Int.toNat_natCast]
  rw [hC.hn] at hkn hne
  clear hV hk hR hq
  have hnl := fun i (hi : i < m.length) => (Mat_nth hC.mat hi).1
  have hcp := fun W (h : Below W0.heap.size W0 W) => copyLists_any ra rc m W ((hm.below b0).below h)
  have hix := fun b e W (h : RdS W b m) (hq : W.cell? ⟨w.heap.size + 1, 0, none⟩ = some (.int .i64 (k : Int))) => idx_shorten k (w.heap.size + 1) n b e m W h (fun xs hx => (hC.mat xs hx).1) hkn hq
  have hsM : F.Mat (n - 1) (shoM F m k) := shoTo_Mat ok hC.mat hkn (Nat.le_refl _)
  have hpv := firstOfL_piv m k 0 (Nat.zero_le _)
  rw [List.drop_zero] at hpv
  have HCP := hide hcp
  rcases hpv with ⟨hf, hp, hz⟩ | ⟨K, hf, hKl, hp, hKz⟩
  ·
   rw [hf] at hix
   have HIX := hide hix
   have hse := sho_none (F := F) hp (fun i hi => hz i (Nat.zero_le i) hi)
   rw [hse] at hRR hsM
   obtain ⟨N0, hN0⟩ : ∃ N0, N0 = woutM m k := ⟨_, rfl⟩
   rw [← hN0] at hRR hsM
   have hCO := fun b d W (h : Below W0.heap.size W0 W) (hy : RdS W b N0) => codeOf_all F a c b d N0 (n - 1) W ((hx.below b0).below h) hC.good hy hsM
   obtain ⟨N, hN⟩ : ∃ N, N = form F N0 (n - 1) := ⟨_, rfl⟩
   rw [← hN] at hRR hCO
   have hWO := fun b e W (hy : RdS W b m) (hc : CapS W b m) => withoutPlace_any b e m n k W hy hc hnl hkn hn32 (by omega)
   rw [← hN0] at hWO
   have HWO0 := hide hWO
   have HCO := hide hCO
   have HRR := Lib.hid hRR
   have BX := hide (show ∀ W, Below W0.heap.size W0 W → (Below w.heap.size w W ∧ W.cell? ⟨w.heap.size, 0, none⟩ = some (.int .i64 F.p) ∧ W.cell? ⟨w.heap.size, 1, none⟩ = some (.int .i64 F.k) ∧ W.cell? ⟨w.heap.size, 2, none⟩ = some (.slice a F.poly.length c) ∧ W.cell? ⟨w.heap.size, 3, none⟩ = some (.slice ra m.length rc) ∧ W.cell? ⟨w.heap.size + 1, 0, none⟩ = some (.int .i64 k)) from fun W h => ⟨b0.trans (h.mono sk1), (k0.below h k0.lt).cell 0, (k0.below h k0.lt).cell 1, (k0.below h k0.lt).cell 2, (k0.below h k0.lt).cell 3, (kp.below h kp.lt).cell 0⟩)
   have BZ := hide (show ∀ x y z u W, Below W0.heap.size W0 W → (Below w.heap.size w ((((W.setCell ⟨w.heap.size + 2, 0, none⟩ x).setCell ⟨w.heap.size + 2, 1, none⟩ y).setCell ⟨w.heap.size + 2, 2, none⟩ z).setCell ⟨w.heap.size + 2, 3, none⟩ u) ∧ ((((W.setCell ⟨w.heap.size + 2, 0, none⟩ x).setCell ⟨w.heap.size + 2, 1, none⟩ y).setCell ⟨w.heap.size + 2, 2, none⟩ z).setCell ⟨w.heap.size + 2, 3, none⟩ u).cell? ⟨w.heap.size, 0, none⟩ = some (.int .i64 F.p) ∧ ((((W.setCell ⟨w.heap.size + 2, 0, none⟩ x).setCell ⟨w.heap.size + 2, 1, none⟩ y).setCell ⟨w.heap.size + 2, 2, none⟩ z).setCell ⟨w.heap.size + 2, 3, none⟩ u).cell? ⟨w.heap.size, 1, none⟩ = some (.int .i64 F.k) ∧ ((((W.setCell ⟨w.heap.size + 2, 0, none⟩ x).setCell ⟨w.heap.size + 2, 1, none⟩ y).setCell ⟨w.heap.size + 2, 2, none⟩ z).setCell ⟨w.heap.size + 2, 3, none⟩ u).cell? ⟨w.heap.size, 2, none⟩ = some (.slice a F.poly.length c) ∧ ((((W.setCell ⟨w.heap.size + 2, 0, none⟩ x).setCell ⟨w.heap.size + 2, 1, none⟩ y).setCell ⟨w.heap.size + 2, 2, none⟩ z).setCell ⟨w.heap.size + 2, 3, none⟩ u).cell? ⟨w.heap.size, 3, none⟩ = some (.slice ra m.length rc) ∧ ((((W.setCell ⟨w.heap.size + 2, 0, none⟩ x).setCell ⟨w.heap.size + 2, 1, none⟩ y).setCell ⟨w.heap.size + 2, 2, none⟩ z).setCell ⟨w.heap.size + 2, 3, none⟩ u).cell? ⟨w.heap.size + 1, 0, none⟩ = some (.int .i64 k)) from fun x y z u W h => by
    have k := Below.set4 (Below.refl (w.heap.size + 2) W) (Nat.le_refl _) x y z u
    obtain ⟨q, q0, q1, q2, q3, q4⟩ := unhide BX W h
    exact ⟨Below.set4 q (by omega) x y z u, (k.cell (p := ⟨w.heap.size, 0, none⟩) (by show w.heap.size < _; omega)).trans q0, (k.cell (p := ⟨w.heap.size, 1, none⟩) (by show w.heap.size < _; omega)).trans q1, (k.cell (p := ⟨w.heap.size, 2, none⟩) (by show w.heap.size < _; omega)).trans q2, (k.cell (p := ⟨w.heap.size, 3, none⟩) (by show w.heap.size < _; omega)).trans q3, (k.cell (p := ⟨w.heap.size + 1, 0, none⟩) (by show w.heap.size + 1 < _; omega)).trans q4⟩)
   clear hWO hCO hN hN0 hC hRR hsM hnl hcp hix hf hp hz hse
   have f0 := k0.cell 0
   have f1 := k0.cell 1
   have f2 := k0.cell 2
   have f3 := k0.cell 3
   have p0 := kp.cell 0
   go_enter Try.func53, Try.ntmps53
   go_upto_region 1 with fail
   rw [← HW.out]
   go_wp2_with fail
   refine (unhide HV).mono ?_
   rintro e w1 ⟨rfl, b1⟩
   have k1 := k0.below b1 k0.lt
   have kp1 := kp.below b1 kp.lt
   have kr1 := kr.below b1 kr.lt
   clear f0 f1 f2 f3 p0
   have f0 := k1.cell 0
   have f1 := k1.cell 1
   have f2 := k1.cell 2
   have f3 := k1.cell 3
   have p0 := kp1.cell 0
   have bb1 := b0.trans (b1.mono sk1)
   have z1 := b1.size
   go_wp2_with fail
   refine (unhide HCP _ b1).mono ?_
   rintro e w2 ⟨v2, rfl, o2, b2⟩
   obtain ⟨gr, cr, rfl, hgr, hgr1, hcr, hcr2⟩ := o2.at_ hm0
   have c2 := Below.chain b1 b2
   have kp2 := kp.below c2 kp.lt
   have p2 := kp2.cell 0
   have HWO := hide (fun W (h : Below w2.heap.size w2 W) => unhide HWO0 _ cr W (o2.rd.below h) (o2.caps_.below o2.rd h))
   have R2 := hide o2.rd
   clear o2 f0 f1 f2 f3 p0
   go_wp2_with fail
   refine (unhide HIX _ _ _ (unhide R2) p2).mono ?_
   rintro e w3 ⟨rfl, rfl⟩
   go_upto_region 15 with fail
   refine wp_region_noPanic ?_
   refine wp_region_ord (S := (fun W => Below w.heap.size w W ∧ W.cell? ⟨w.heap.size, 0, none⟩ = some (.int .i64 F.p) ∧ W.cell? ⟨w.heap.size, 1, none⟩ = some (.int .i64 F.k) ∧ W.cell? ⟨w.heap.size, 2, none⟩ = some (.slice a F.poly.length c) ∧ W.cell? ⟨w.heap.size, 3, none⟩ = some (.slice ra m.length rc) ∧ W.cell? ⟨w.heap.size + 1, 0, none⟩ = some (.int .i64 k))) [(true, 0), (true, 1), (true, 2), (true, 3), (false, 4), (false, 5), (true, 6), (true, 7), (false, 8), (true, 9)] (by kernel_rfl) (by kernel_rfl) (by kernel_rfl) rfl (fun _ _ _ _ _ h => h) ?_ (fun hHeld => ?_)
   · exact (unhide BX) _ c2.drew
   refine SeqO.take (by rfl) (v := ?hv9) (by rfl) ?hy9 ?hr9
   case hy9 =>
    intro w hSw
    try dsimp only at hSw
    go_simp
    try (with_reducible rfl)
   try simp only [Act.put, List.setIfInBounds_toArray, List.set_cons_zero, List.set_cons_succ]
   refine SeqO.take (by rfl) (v := ?hv10) (by rfl) ?hy10 ?hr10
   case hy10 =>
    intro w hSw
    try dsimp only at hSw
    go_simp
    try (with_reducible rfl)
   try simp only [Act.put, List.setIfInBounds_toArray, List.set_cons_zero, List.set_cons_succ]
   refine SeqO.take (by rfl) (v := ?hv11) (by rfl) ?hy11 ?hr11
   case hy11 =>
    intro w hSw
    try dsimp only at hSw
    go_simp
    try (with_reducible rfl)
   try simp only [Act.put, List.setIfInBounds_toArray, List.set_cons_zero, List.set_cons_succ]
   refine SeqO.take (by rfl) (v := ?hv12) (by rfl) ?hy12 ?hr12
   case hy12 =>
    intro w hSw
    try dsimp only at hSw
    go_simp
    try (with_reducible rfl)
   try simp only [Act.put, List.setIfInBounds_toArray, List.set_cons_zero, List.set_cons_succ]
   refine SeqO.call (by rfl) (fun K hK => ?_)
   go_simp
   refine (unhide HWO _ (Below.refl _ _).drew).mono ?_
   rintro e w6 ⟨u, rfl, o6, b6⟩
   obtain ⟨ax, cx, rfl, r6⟩ := o6.form
   have hB6 := Below.chain c2.drew b6
   have z6 := hB6.size
   have p3 : w.heap.size + 2 < w6.heap.size := by omega
   go_wp2_with fail
   refine hK.out _ _ ?_ (fun hHeld => ?_)
   · exact (unhide BX) _ hB6
   clear hK K
   try simp only [Act.put, List.setIfInBounds_toArray, List.set_cons_zero, List.set_cons_succ]
   refine SeqO.call (by rfl) (fun K hK => ?_)
   go_simp
   refine (unhide HCO ax cx _ hB6 r6).mono ?_
   rintro e w4 ⟨v4, u4, rfl, o4, b4⟩
   have hB4 := Below.chain hB6 b4
   obtain ⟨qq, hqq⟩ : ∃ qq, qq = mkC F N := ⟨_, rfl⟩
   rw [← hqq] at o4 ⊢
   obtain ⟨rp, rd, rx, ry, rz⟩ := qq
   simp only [] at o4 ⊢
   obtain ⟨a4, c4, p4, d4, rfl, rfl, _, _⟩ := o4.form
   have HQ := Lib.hid hqq
   clear hqq
   have kr4 := kr.below hB4 kr.lt
   have bb4 := b0.trans (hB4.mono sk1)
   have r0 := kr4.cell 0
   have r1 := kr4.cell 1
   have r2 := kr4.cell 2
   have r3 := kr4.cell 3
   have s0 := kr4.frozen 0
   have s1 := kr4.frozen 1
   have s2 := kr4.frozen 2
   have s3 := kr4.frozen 3
   go_wp2_with fail
   refine hK.out _ _ ?_ (fun hHeld => ?_)
   · exact (unhide BX) _ hB4
   clear hK K
   try simp only [Act.put, List.setIfInBounds_toArray, List.set_cons_zero, List.set_cons_succ]
   refine SeqO.take (by rfl) (v := ?hv13) (by rfl) ?hy13 ?hr13
   case hy13 =>
    intro w hSw
    try dsimp only at hSw
    go_simp
    try (with_reducible rfl)
   try simp only [Act.put, List.setIfInBounds_toArray, List.set_cons_zero, List.set_cons_succ]
   refine SeqO.take (by rfl) (v := ?hv14) (by rfl) ?hy14 ?hr14
   case hy14 =>
    intro w hSw
    try dsimp only at hSw
    go_simp
    try (with_reducible rfl)
   try simp only [Act.put, List.setIfInBounds_toArray, List.set_cons_zero, List.set_cons_succ]
   refine SeqO.call (by rfl) (fun K hK => ?_)
   go_simp
   refine hK.out _ _ ?_ (fun hHeld => ?_)
   · exact (unhide BZ) _ _ _ _ _ hB4
   clear hK K
   try simp only [Act.put, List.setIfInBounds_toArray, List.set_cons_zero, List.set_cons_succ]
   refine SeqO.take (by rfl) (v := ?hv15) (by rfl) ?hy15 ?hr15
   case hy15 =>
    intro w hSw
    try dsimp only at hSw
    go_simp
    try (with_reducible rfl)
   try simp only [Act.put, List.setIfInBounds_toArray, List.set_cons_zero, List.set_cons_succ]
   refine SeqO.done (NoPanic.normal ?_)
   go_wp2
   refine bodyPost_ret (results_cell_tmp_row rfl _ _ (w.heap.size + 2) 37 #[.int .i64 rp, .int .i64 rd, .slice a4 rx.length c4, .slice p4 ry.length d4] _ rfl (kr4.b4.store _ _ _ _) Try.underlying37 rfl (by kernel_rfl)) rfl ?_
   rw [HRR.out, ← HQ.out]
   refine ⟨_, _, rfl, ?_, Below.set4 bb4 (by omega) _ _ _ _⟩
   exact ((((o4.storeBelow p3 _).storeBelow p3 _).storeBelow p3 _).storeBelow p3 _).mono (by omega)
  ·
   rw [Nat.zero_add] at hKl hp hKz
   rw [hf] at hix
   have HIX := hide hix
   have hse := sho_hit ok hC.mat hp
   obtain ⟨D, hD⟩ : ∃ D, D = m.eraseIdx K := ⟨_, rfl⟩
   have hDl : D.length = m.length - 1 := by rw [hD, List.length_eraseIdx, if_pos hKl]
   have hDm : ∀ i, i < D.length → (nthL D i).length = n ∧ ∀ x ∈ nthL D i, 0 ≤ x ∧ x < F.n := fun i hi => hC.mat _ (by have h := nthL_mem (xss := D) hi; rw [hD] at h ⊢; exact List.mem_of_mem_eraseIdx h)
   rw [← hD] at hse
   rw [hse] at hRR hsM
   have hbm := Mat_nth hC.mat hKl
   obtain ⟨x, hx⟩ : ∃ x, x = nth (nthL m K) k := ⟨_, rfl⟩
   have hxr := hbm.2 x (by rw [hx]; exact nth_mem (by rw [hbm.1]; exact hkn))
   have hx1 : 1 ≤ x := by rw [← hx] at hKz; omega
   have hinv := inv_spec hC.good hx1 hxr.2
   have hT := fun W (h : Below W0.heap.size W0 W) => tablesOf_own F a c W ((hx'.below b0).below h) ok
   obtain ⟨E, hE⟩ : ∃ E, E = D.map (lesR F m k K) := ⟨_, rfl⟩
   have hEl : E.length = D.length := by rw [hE, List.length_map]
   have hEn : ∀ i, i < E.length → (nthL E i).length = n := fun i hi => by
    rw [nthL_lt hi]
    simp only [hE, List.getElem_map]
    rw [lesR, less_len, ← nthL_lt (by omega)]
    exact (hDm i (by omega)).1
   rw [← hE] at hse hRR hsM
   obtain ⟨N0, hN0⟩ : ∃ N0, N0 = woutM E k := ⟨_, rfl⟩
   rw [← hN0] at hRR hsM
   have hCO := fun b d W (h : Below W0.heap.size W0 W) (hy : RdS W b N0) => codeOf_all F a c b d N0 (n - 1) W ((hx'.below b0).below h) hC.good hy hsM
   obtain ⟨N, hN⟩ : ∃ N, N = form F N0 (n - 1) := ⟨_, rfl⟩
   rw [← hN] at hRR hCO
   have hWO := fun b e W (hy : RdS W b E) (hc : CapS W b E) => withoutPlace_any b e E n k W hy hc hEn hkn hn32 (by omega)
   rw [← hN0] at hWO
   have HT := hide hT
   have HG := hide hC.good
   have HWO0 := hide hWO
   have HCO := hide hCO
   have HRR := Lib.hid hRR
   have HE := Lib.hid hE
   have HD := Lib.hid hD
   have HX := Lib.hid hx
   have HDM := hide hDm
   have HBM := hide hbm
   have HINV := hide hinv
   have BX := hide (show ∀ W, Below W0.heap.size W0 W → (Below w.heap.size w W ∧ W.cell? ⟨w.heap.size, 0, none⟩ = some (.int .i64 F.p) ∧ W.cell? ⟨w.heap.size, 1, none⟩ = some (.int .i64 F.k) ∧ W.cell? ⟨w.heap.size, 2, none⟩ = some (.slice a F.poly.length c) ∧ W.cell? ⟨w.heap.size, 3, none⟩ = some (.slice ra m.length rc) ∧ W.cell? ⟨w.heap.size + 1, 0, none⟩ = some (.int .i64 k)) from fun W h => ⟨b0.trans (h.mono sk1), (k0.below h k0.lt).cell 0, (k0.below h k0.lt).cell 1, (k0.below h k0.lt).cell 2, (k0.below h k0.lt).cell 3, (kp.below h kp.lt).cell 0⟩)
   have BZ := hide (show ∀ x y z u W, Below W0.heap.size W0 W → (Below w.heap.size w ((((W.setCell ⟨w.heap.size + 2, 0, none⟩ x).setCell ⟨w.heap.size + 2, 1, none⟩ y).setCell ⟨w.heap.size + 2, 2, none⟩ z).setCell ⟨w.heap.size + 2, 3, none⟩ u) ∧ ((((W.setCell ⟨w.heap.size + 2, 0, none⟩ x).setCell ⟨w.heap.size + 2, 1, none⟩ y).setCell ⟨w.heap.size + 2, 2, none⟩ z).setCell ⟨w.heap.size + 2, 3, none⟩ u).cell? ⟨w.heap.size, 0, none⟩ = some (.int .i64 F.p) ∧ ((((W.setCell ⟨w.heap.size + 2, 0, none⟩ x).setCell ⟨w.heap.size + 2, 1, none⟩ y).setCell ⟨w.heap.size + 2, 2, none⟩ z).setCell ⟨w.heap.size + 2, 3, none⟩ u).cell? ⟨w.heap.size, 1, none⟩ = some (.int .i64 F.k) ∧ ((((W.setCell ⟨w.heap.size + 2, 0, none⟩ x).setCell ⟨w.heap.size + 2, 1, none⟩ y).setCell ⟨w.heap.size + 2, 2, none⟩ z).setCell ⟨w.heap.size + 2, 3, none⟩ u).cell? ⟨w.heap.size, 2, none⟩ = some (.slice a F.poly.length c) ∧ ((((W.setCell ⟨w.heap.size + 2, 0, none⟩ x).setCell ⟨w.heap.size + 2, 1, none⟩ y).setCell ⟨w.heap.size + 2, 2, none⟩ z).setCell ⟨w.heap.size + 2, 3, none⟩ u).cell? ⟨w.heap.size, 3, none⟩ = some (.slice ra m.length rc) ∧ ((((W.setCell ⟨w.heap.size + 2, 0, none⟩ x).setCell ⟨w.heap.size + 2, 1, none⟩ y).setCell ⟨w.heap.size + 2, 2, none⟩ z).setCell ⟨w.heap.size + 2, 3, none⟩ u).cell? ⟨w.heap.size + 1, 0, none⟩ = some (.int .i64 k)) from fun x y z u W h => by
    have k := Below.set4 (Below.refl (w.heap.size + 2) W) (Nat.le_refl _) x y z u
    obtain ⟨q, q0, q1, q2, q3, q4⟩ := unhide BX W h
    exact ⟨Below.set4 q (by omega) x y z u, (k.cell (p := ⟨w.heap.size, 0, none⟩) (by show w.heap.size < _; omega)).trans q0, (k.cell (p := ⟨w.heap.size, 1, none⟩) (by show w.heap.size < _; omega)).trans q1, (k.cell (p := ⟨w.heap.size, 2, none⟩) (by show w.heap.size < _; omega)).trans q2, (k.cell (p := ⟨w.heap.size, 3, none⟩) (by show w.heap.size < _; omega)).trans q3, (k.cell (p := ⟨w.heap.size + 1, 0, none⟩) (by show w.heap.size + 1 < _; omega)).trans q4⟩)
   clear hWO hCO hN hN0 hC hRR hsM hnl hcp hix hf hp hse hE hD hx hDm hbm hinv hT hKz hEn
   have f0 := k0.cell 0
   have f1 := k0.cell 1
   have f2 := k0.cell 2
   have f3 := k0.cell 3
   have p0 := kp.cell 0
   go_enter Try.func53, Try.ntmps53
   go_upto_region 1 with fail
   rw [← HW.out]
   go_wp2_with fail
   refine (unhide HV).mono ?_
   rintro e w1 ⟨rfl, b1⟩
   have k1 := k0.below b1 k0.lt
   have kp1 := kp.below b1 kp.lt
   have kr1 := kr.below b1 kr.lt
   clear f0 f1 f2 f3 p0
   have f0 := k1.cell 0
   have f1 := k1.cell 1
   have f2 := k1.cell 2
   have f3 := k1.cell 3
   have p0 := kp1.cell 0
   have bb1 := b0.trans (b1.mono sk1)
   have z1 := b1.size
   go_wp2_with fail
   refine (unhide HCP _ b1).mono ?_
   rintro e w2 ⟨v2, rfl, o2, b2⟩
   obtain ⟨gr, cr, rfl, hgr, hgr1, hcr, hcr2⟩ := o2.at_ hm0
   have c2 := Below.chain b1 b2
   have kp2 := kp.below c2 kp.lt
   have p2 := kp2.cell 0
   have R2 := hide o2.rd
   have Q2 := hide (o2.toQ (Q := fun x => ∀ q, x.ownBlock = some q → q < w2.heap.size) (fun x h q hq => (h q hq).2))
   have k2 := k0.below c2 k0.lt
   clear o2 f0 f1 f2 f3 p0
   have f0 := k2.cell 0
   have f1 := k2.cell 1
   have f2 := k2.cell 2
   have f3 := k2.cell 3
   have hkb : decide ((0 : Int) ≤ (K : Int)) = true := by rw [decide_eq_true_eq]; omega
   go_wp2_with fail
   refine (unhide HIX _ _ _ (unhide R2) p2).mono ?_
   rintro e w3 ⟨rfl, rfl⟩
   go_wp2_with fail
   refine (unhide HT _ c2).mono ?_
   rintro e w3 ⟨tv, rfl, t3, b3⟩
   obtain ⟨aA, cA, aS, cS, aM, cM, aI, cI, rfl, t3A, t3S, t3M, t3I⟩ := t3
   obtain ⟨W4, hH4⟩ : ∃ z, z = w3.alloc (.cells #[.int .i64 F.n, .slice aA F.n cA, .slice aS F.n cS, .slice aM F.n cM, .slice aI F.n cI] 93) := ⟨_, rfl⟩
   have b4 : Below w3.heap.size w3 W4 := by rw [hH4]; exact (Below.refl _ _).alloc (Nat.le_refl _) _
   have kT : Blk W4 w3.heap.size 93 #[.int .i64 F.n, .slice aA F.n cA, .slice aS F.n cS, .slice aM F.n cM, .slice aI F.n cI] := by rw [hH4]; exact Blk.new _ _ _ rfl
   have H4 := Lib.hid hH4
   clear hH4
   have b24 := Below.chain b3 b4
   have c4 := Below.chain c2 b24
   have q4 := (unhide Q2).below b24
   obtain ⟨ab, cb, ob, hrow, _⟩ := q4.own.row hKl
   have hrc := hrow _ _ _ _ rfl
   rw [Nat.zero_add, (unhide HBM).1] at hrc
   rw [(unhide HBM).1] at ob
   have hDel := delete_row q4 hKl
   rw [show ((K + 1 : Nat) : Int) = (K : Int) + 1 by omega] at hDel
   have HDEL := hide hDel
   clear f0 f1 f2 f3 hDel
   go_upto_region 8 with fail
   rw [← H4.out]
   go_wp2_with fail
   refine (unhide HDEL).mono ?_
   rintro e w5 ⟨rfl, q5, g5⟩
   have hq0 : 0 < n := by omega
   obtain ⟨gb2, cb', eb, hgb1, hgb2, _, _⟩ := ob.at_len (unhide HBM).1 hq0
   injection eb with eb _ ec
   subst eb
   subst ec
   have hgg : gb2 ≠ gr := fun e => by
    obtain ⟨_, vs, hr, _⟩ := q4.own
    exact Own.notSliceBlock hr ob gb2 rfl (by show some gr = some gb2; rw [e])
   have z24 := b24.size
   have z02 := c2.size
   have c5 : Below W0.heap.size W0 w5 := c4.grown g5 c4.size (fun q e => by injection e with e; omega)
   have q6 := q5.imp (Q' := fun x => ∀ q, x.ownBlock = some q → q < w2.heap.size ∧ q ≠ gb2) (fun x _ h q hq => ⟨h.1 q hq, fun e => h.2 q hq _ hrc (by rw [e]; rfl)⟩)
   rw [← HD.out] at q6
   rw [← lesTo_zero F m k K D] at q6
   have ob5 := ob.grow g5 (.inr (by show some gb2 ≠ some gr; intro e; injection e with e; exact hgg e))
   have kT5 : Blk w5 w3.heap.size 93 #[.int .i64 F.n, .slice aA F.n cA, .slice aS F.n cS, .slice aM F.n cM, .slice aI F.n cI] := (g5.block _ kT.lt (by intro e; injection e with e; have := b3.size; omega)).trans kT
   have HST0 := Lib.hid (show OwnSQ w5 w1.heap.size (.slice (some ⟨gr, 0, none⟩) (m.length - 1) cr) (lesTo F m k K D 0) (fun x => ∀ q, x.ownBlock = some q → q < w2.heap.size ∧ q ≠ gb2) ∧ OwnS w5 w2.heap.size (.slice aA F.n cA) (rowsTo F.add F.n F.n) ∧ OwnS w5 w2.heap.size (.slice aS F.n cS) (rowsTo F.sub F.n F.n) ∧ OwnS w5 w2.heap.size (.slice aM F.n cM) (rowsTo F.mul F.n F.n) ∧ Own w5 w2.heap.size (.slice aI F.n cI) (invTo F F.n) ∧ Own w5 w1.heap.size (.slice (some ⟨gb2, 0, none⟩) n cb) (nthL m K) ∧ Blk w5 w3.heap.size 93 #[.int .i64 F.n, .slice aA F.n cA, .slice aS F.n cS, .slice aM F.n cM, .slice aI F.n cI] ∧ Below W0.heap.size W0 w5 from
    ⟨q6, (t3A.below b4 (Nat.le_refl _)).growFar g5 hgr1, (t3S.below b4 (Nat.le_refl _)).growFar g5 hgr1, (t3M.below b4 (Nat.le_refl _)).growFar g5 hgr1, (t3I.below b4 (Nat.le_refl _)).growFar g5 hgr1, ob5, kT5, c5⟩)
   have z23 := b3.size
   clear q4 q5 q6 ob ob5 kT kT5 t3A t3S t3M t3I hrc hrow g5 c5 hgb2 p2
   rw [← hDl] at HST0 ⊢
   have HDl := Lib.hid hDl
   have HEl := Lib.hid hEl
   clear hDl hEl
   go_wp2_with fail
   go_loopw [42] (fun iv wr => ∃ i : Nat, iv = .int .i64 i ∧ i ≤ D.length ∧ Hid (OwnSQ wr w1.heap.size (.slice (some ⟨gr, 0, none⟩) D.length cr) (lesTo F m k K D i) (fun x => ∀ q, x.ownBlock = some q → q < w2.heap.size ∧ q ≠ gb2) ∧ OwnS wr w2.heap.size (.slice aA F.n cA) (rowsTo F.add F.n F.n) ∧ OwnS wr w2.heap.size (.slice aS F.n cS) (rowsTo F.sub F.n F.n) ∧ OwnS wr w2.heap.size (.slice aM F.n cM) (rowsTo F.mul F.n F.n) ∧ Own wr w2.heap.size (.slice aI F.n cI) (invTo F F.n) ∧ Own wr w1.heap.size (.slice (some ⟨gb2, 0, none⟩) n cb) (nthL m K) ∧ Blk wr w3.heap.size 93 #[.int .i64 F.n, .slice aA F.n cA, .slice aS F.n cS, .slice aM F.n cM, .slice aI F.n cI] ∧ Below W0.heap.size W0 wr)) (fun iv _ => D.length - (intOf iv).toNat)
   case atStart => exact ⟨0, rfl, Nat.zero_le _, HST0⟩
   case round =>
    obtain ⟨i, rfl, hi, hst⟩ := hrel
    by_cases hil : i < D.length
    · obtain ⟨q, tA, tS, tM, tI, ob, kR, hb⟩ := hst.out
      obtain ⟨a1, c1, o1, qq, hcell, hupd, _⟩ := q.row (i := i) (by rw [lesTo_len F m k K D hi]; exact hil)
      rw [lesTo_nth F m k K D hil] at o1 qq hcell hupd
      have hdm := unhide HDM i hil
      have hrc := hcell _ _ _ _ rfl
      rw [Nat.zero_add, hdm.1] at hrc
      rw [hdm.1] at o1 qq hupd
      obtain ⟨g1, c1', e1, hg1, _, _, _⟩ := o1.at_len hdm.1 (by omega)
      injection e1 with e1 _ ec1
      subst e1
      subst ec1
      obtain ⟨hgT, hgN⟩ := qq g1 rfl
      have hbm := unhide HBM
      have hy1 := o1.cell (j := k) (by rw [hdm.1]; exact hkn)
      have hx1 := ob.cell (j := k) (by rw [hbm.1]; exact hkn)
      have hnext := lesTo_succ F m k K D hil
      have hles : lesR F m k K (nthL D i) = addTo F (nthL D i) (nthL m K) (F.sub 0 (F.mul (nth (nthL D i) k) (F.inv (nth (nthL m K) k)))) (nthL D i).length := by rw [addTo_less ok, lesR]
      rw [hles] at hnext
      obtain ⟨y, hy⟩ : ∃ y, y = nth (nthL D i) k := ⟨_, rfl⟩
      have hyr := hdm.2 y (by rw [hy]; exact nth_mem (by rw [hdm.1]; exact hkn))
      rw [← hy] at hy1 hnext
      rw [← HX.out] at hx1 hnext
      obtain ⟨_, hv1, hvn, _⟩ := unhide HINV
      have hIX := invTo_nth (unhide HG) (j := x.toNat) (by omega)
      obtain ⟨xn, hxn⟩ := Int.eq_ofNat_of_zero_le (show 0 ≤ x by omega)
      obtain ⟨yn, hyn⟩ := Int.eq_ofNat_of_zero_le hyr.1
      rw [hxn, Int.toNat_natCast] at hIX
      rw [hxn] at hx1 hnext hv1 hvn
      rw [hyn] at hy1 hnext hyr
      obtain ⟨vn, hvv⟩ := Int.eq_ofNat_of_zero_le (show 0 ≤ F.inv xn by omega)
      rw [hvv] at hnext hv1 hvn hIX
      have hmb := mul_bd ok yn vn
      have hxF : xn < F.n := by omega
      have hil2 := invTo_len F F.n
      obtain ⟨bI, oI, rfl, _, hcI⟩ := tI.rd.at_ (by rw [hil2]; omega)
      have cI1 := hcI xn (by rw [hil2]; exact hxF)
      rw [hIX] at cI1
      obtain ⟨bM, oM, bm, om, cm, rfl, m1, m2⟩ := tab_at tM.rd (i := yn) (j := vn) (by omega) (by omega)
      obtain ⟨sn, hsn⟩ := Int.eq_ofNat_of_zero_le hmb.1
      rw [hsn] at m2 hnext hmb
      have hsb := sub_bd ok 0 sn
      obtain ⟨bS, oS, bs, os, cs, rfl, s1, s2⟩ := tab_at tS.rd (i := 0) (j := sn) (by omega) (by omega)
      rw [show ((0 : Nat) : Int) = 0 from rfl] at s2
      rw [Nat.add_zero] at s1
      have hat := addTimes_apart F aA cA (some ⟨bS, oS, none⟩) cS (some ⟨bM, oM, none⟩) cM (some ⟨bI, oI, none⟩) cI wr.drew w1.heap.size g1 c1 (some ⟨gb2, 0, none⟩) cb (nthL D i) (nthL m K) (F.sub 0 sn) ok (fun W h => ⟨((tA.drewN 1).growFar h hgT).rd, ((tM.drewN 1).growFar h hgT).rd⟩) (by rw [hdm.1]; exact o1.drewN 1) (ob.rd.drewN 1) (fun p hp => by injection hp with hp; rw [← hp]; exact fun e => hgN e.symm) (by rw [hdm.1, hbm.1]) hsb.1 hsb.2 hdm.2 hbm.2
      rw [hdm.1, hbm.1] at hat
      obtain ⟨Z, hZ⟩ : ∃ Z, Z = F.sub 0 sn := ⟨_, rfl⟩
      rw [← hZ] at s2 hat hnext
      have hstep : ∀ w7, Own w7 w1.heap.size (.slice (some ⟨g1, 0, none⟩) n c1) (addTo F (nthL D i) (nthL m K) Z n) → wr.grownBy w7 (some g1) → Hid (OwnSQ w7 w1.heap.size (.slice (some ⟨gr, 0, none⟩) D.length cr) (lesTo F m k K D (i + 1)) (fun x => ∀ q, x.ownBlock = some q → q < w2.heap.size ∧ q ≠ gb2) ∧ OwnS w7 w2.heap.size (.slice aA F.n cA) (rowsTo F.add F.n F.n) ∧ OwnS w7 w2.heap.size (.slice (some ⟨bS, oS, none⟩) F.n cS) (rowsTo F.sub F.n F.n) ∧ OwnS w7 w2.heap.size (.slice (some ⟨bM, oM, none⟩) F.n cM) (rowsTo F.mul F.n F.n) ∧ Own w7 w2.heap.size (.slice (some ⟨bI, oI, none⟩) F.n cI) (invTo F F.n) ∧ Own w7 w1.heap.size (.slice (some ⟨gb2, 0, none⟩) n cb) (nthL m K) ∧ Blk w7 w3.heap.size 93 #[.int .i64 F.n, .slice aA F.n cA, .slice (some ⟨bS, oS, none⟩) F.n cS, .slice (some ⟨bM, oM, none⟩) F.n cM, .slice (some ⟨bI, oI, none⟩) F.n cI] ∧ Below W0.heap.size W0 w7) := fun w7 o7 gx => by
       refine hide ⟨?_, tA.growFar gx hgT, tS.growFar gx hgT, tM.growFar gx hgT, tI.growFar gx hgT, ob.grow gx (.inr (by show some gb2 ≠ some g1; intro e; injection e with e; exact hgN e.symm)), (gx.block _ kR.lt (by intro e; injection e with e; omega)).trans kR, hb.grown gx hb.size (fun q e => by injection e with e; omega)⟩
       rw [hnext, hdm.1]
       exact hupd w7 _ o7 (by rw [addTo_len]; exact hdm.1) gx
      have HSTEP := hide hstep
      have hi8 : i ≤ 1000 := by have := HDl.out; omega
      have HIL := Lib.hid hil
      have HAT := hide hat
      have f0 := kR.cell 0
      have f1 := kR.cell 1
      have f2 := kR.cell 2
      have f3 := kR.cell 3
      have f4 := kR.cell 4
      have pr := (kp.below hb kp.lt).cell 0
      have hFn0 : 0 < F.n := by omega
      have hynF : yn < F.n := by omega
      have hvnF : vn < F.n := by omega
      have hsnF : sn < F.n := by omega
      clear hat hstep hZ hsb hsn hmb hvv hyn hxn hyr hy hv1 hvn hIX hil2 hcI hnext hles hupd hcell q tA tS tM tI ob kR hdm hbm o1 qq hst
      go_wp2_with fail
      go_still_tail 27, (by kernel_rfl)
      change wpList _ _ _ _ _ wr.drew
      go_wp2_with fail
      refine (unhide HAT).mono ?_
      rintro e w7 ⟨rfl, o7, g7⟩
      go_wp2_with fail
      go_roundw
      case rel => exact ⟨i + 1, by go_num, Nat.succ_le_of_lt HIL.out, unhide HSTEP w7 o7 (grown_trans_row (⟨rfl, rfl, rfl, Nat.le_refl _, fun _ _ _ => rfl⟩ : wr.grownBy wr.drew (some g1)) g7)⟩
      case measure =>
       have h := HIL.out
       simp only [intOf]
       omega
    · have hke : i = D.length := by omega
      obtain ⟨qe, _, _, _, _, _, _, ce⟩ := hst.out
      rw [hke, lesTo_all, ← HE.out] at qe
      have oe := qe.own
      rw [← HEl.out] at oe
      have HWO := hide (fun W (h : Below wr.heap.size wr W) => unhide HWO0 _ cr W (oe.rd.below h) (oe.caps_.below oe.rd h))
      rw [HEl.out] at HWO
      have HK := Lib.hid hke
      clear oe qe hke hst
      go_upto_region 15 with fail
      refine wp_region_noPanic ?_
      refine wp_region_ord (S := (fun W => Below w.heap.size w W ∧ W.cell? ⟨w.heap.size, 0, none⟩ = some (.int .i64 F.p) ∧ W.cell? ⟨w.heap.size, 1, none⟩ = some (.int .i64 F.k) ∧ W.cell? ⟨w.heap.size, 2, none⟩ = some (.slice a F.poly.length c) ∧ W.cell? ⟨w.heap.size, 3, none⟩ = some (.slice ra m.length rc) ∧ W.cell? ⟨w.heap.size + 1, 0, none⟩ = some (.int .i64 k))) [(true, 0), (true, 1), (true, 2), (true, 3), (false, 4), (false, 5), (true, 6), (true, 7), (false, 8), (true, 9)] (by kernel_rfl) (by kernel_rfl) (by kernel_rfl) rfl (fun _ _ _ _ _ h => h) ?_ (fun hHeld => ?_)
      · exact (unhide BX) _ ce.drew
      refine SeqO.take (by rfl) (v := ?hv16) (by rfl) ?hy16 ?hr16
      case hy16 =>
       intro w hSw
       try dsimp only at hSw
       go_simp
       try (with_reducible rfl)
      try simp only [Act.put, List.setIfInBounds_toArray, List.set_cons_zero, List.set_cons_succ]
      refine SeqO.take (by rfl) (v := ?hv17) (by rfl) ?hy17 ?hr17
      case hy17 =>
       intro w hSw
       try dsimp only at hSw
       go_simp
       try (with_reducible rfl)
      try simp only [Act.put, List.setIfInBounds_toArray, List.set_cons_zero, List.set_cons_succ]
      refine SeqO.take (by rfl) (v := ?hv18) (by rfl) ?hy18 ?hr18
      case hy18 =>
       intro w hSw
       try dsimp only at hSw
       go_simp
       try (with_reducible rfl)
      try simp only [Act.put, List.setIfInBounds_toArray, List.set_cons_zero, List.set_cons_succ]
      refine SeqO.take (by rfl) (v := ?hv19) (by rfl) ?hy19 ?hr19
      case hy19 =>
       intro w hSw
       try dsimp only at hSw
       go_simp
       try (with_reducible rfl)
      try simp only [Act.put, List.setIfInBounds_toArray, List.set_cons_zero, List.set_cons_succ]
      refine SeqO.call (by rfl) (fun K hK => ?_)
      go_simp
      refine (unhide HWO _ (Below.refl _ _).drew).mono ?_
      rintro e w6 ⟨u, rfl, o6, b6⟩
      obtain ⟨ax, cx, rfl, r6⟩ := o6.form
      have hB6 := Below.chain ce.drew b6
      have z6 := hB6.size
      have p3 : w.heap.size + 2 < w6.heap.size := by omega
      go_wp2_with fail
      refine hK.out _ _ ?_ (fun hHeld => ?_)
      · exact (unhide BX) _ hB6
      clear hK K
      try simp only [Act.put, List.setIfInBounds_toArray, List.set_cons_zero, List.set_cons_succ]
      refine SeqO.call (by rfl) (fun K hK => ?_)
      go_simp
      refine (unhide HCO ax cx _ hB6 r6).mono ?_
      rintro e w4 ⟨v4, u4, rfl, o4, b4⟩
      have hB4 := Below.chain hB6 b4
      obtain ⟨qq, hqq⟩ : ∃ qq, qq = mkC F N := ⟨_, rfl⟩
      rw [← hqq] at o4 ⊢
      obtain ⟨rp, rd, rx, ry, rz⟩ := qq
      simp only [] at o4 ⊢
      obtain ⟨a4, c4, p4, d4, rfl, rfl, _, _⟩ := o4.form
      have HQ := Lib.hid hqq
      clear hqq
      have kr4 := kr.below hB4 kr.lt
      have bb4 := b0.trans (hB4.mono sk1)
      have r0 := kr4.cell 0
      have r1 := kr4.cell 1
      have r2 := kr4.cell 2
      have r3 := kr4.cell 3
      have s0 := kr4.frozen 0
      have s1 := kr4.frozen 1
      have s2 := kr4.frozen 2
      have s3 := kr4.frozen 3
      go_wp2_with fail
      refine hK.out _ _ ?_ (fun hHeld => ?_)
      · exact (unhide BX) _ hB4
      clear hK K
      try simp only [Act.put, List.setIfInBounds_toArray, List.set_cons_zero, List.set_cons_succ]
      refine SeqO.take (by rfl) (v := ?hv20) (by rfl) ?hy20 ?hr20
      case hy20 =>
       intro w hSw
       try dsimp only at hSw
       go_simp
       try (with_reducible rfl)
      try simp only [Act.put, List.setIfInBounds_toArray, List.set_cons_zero, List.set_cons_succ]
      refine SeqO.take (by rfl) (v := ?hv21) (by rfl) ?hy21 ?hr21
      case hy21 =>
       intro w hSw
       try dsimp only at hSw
       go_simp
       try (with_reducible rfl)
      try simp only [Act.put, List.setIfInBounds_toArray, List.set_cons_zero, List.set_cons_succ]
      refine SeqO.call (by rfl) (fun K hK => ?_)
      go_simp
      refine hK.out _ _ ?_ (fun hHeld => ?_)
      · exact (unhide BZ) _ _ _ _ _ hB4
      clear hK K
      try simp only [Act.put, List.setIfInBounds_toArray, List.set_cons_zero, List.set_cons_succ]
      refine SeqO.take (by rfl) (v := ?hv22) (by rfl) ?hy22 ?hr22
      case hy22 =>
       intro w hSw
       try dsimp only at hSw
       go_simp
       try (with_reducible rfl)
      try simp only [Act.put, List.setIfInBounds_toArray, List.set_cons_zero, List.set_cons_succ]
      refine SeqO.done (NoPanic.normal ?_)
      go_wp2
      refine bodyPost_ret (results_cell_tmp_row rfl _ _ (w.heap.size + 2) 37 #[.int .i64 rp, .int .i64 rd, .slice a4 rx.length c4, .slice p4 ry.length d4] _ rfl (kr4.b4.store _ _ _ _) Try.underlying37 rfl (by kernel_rfl)) rfl ?_
      rw [HRR.out, ← HQ.out]
      refine ⟨_, _, rfl, ?_, Below.set4 bb4 (by omega) _ _ _ _⟩
      exact ((((o4.storeBelow p3 _).storeBelow p3 _).storeBelow p3 _).storeBelow p3 _).mono (by omega)
 ·
  have hN : r = (0, 0, [], [], plcR p d xs m j) := by rw [← hR, shoRes, if_neg hq]
  obtain ⟨q, hqq⟩ : ∃ q, q = plcR p d xs m j := ⟨_, rfl⟩
  rw [← hqq] at hq hV hN
  have hbe : (q != 0) = true := by rw [bne_iff_ne]; exact hq
  have HN := Lib.hid hN
  have HV := hide hV
  clear hV hqq hN hR hq
  have f0 := k0.cell 0
  have f1 := k0.cell 1
  have f2 := k0.cell 2
  have f3 := k0.cell 3
  have p0 := kp.cell 0
  go_enter Try.func53, Try.ntmps53
  go_upto_region 1 with fail
  rw [← HW.out]
  go_wp2_with fail
  refine (unhide HV).mono ?_
  rintro e w1 ⟨rfl, b1⟩
  have k1 := k0.below b1 k0.lt
  have kp1 := kp.below b1 kp.lt
  have kr1 := kr.below b1 kr.lt
  clear f0 f1 f2 f3 p0
  have f0 := k1.cell 0
  have f1 := k1.cell 1
  have f2 := k1.cell 2
  have f3 := k1.cell 3
  have p0 := kp1.cell 0
  have bb1 := b0.trans (b1.mono sk1)
  have z1 := b1.size
  have r0 := kr1.cell 0
  have r1 := kr1.cell 1
  have r2 := kr1.cell 2
  have r3 := kr1.cell 3
  have s0 := kr1.frozen 0
  have s1 := kr1.frozen 1
  have s2 := kr1.frozen 2
  have s3 := kr1.frozen 3
  go_wp2
  refine bodyPost_ret (results_cell_tmp_row rfl _ _ (w.heap.size + 2) 37 #[.int .i64 0, .int .i64 0, .slice none 0 0, .slice none 0 0] _ rfl (kr1.b4.store _ _ _ _) Try.underlying37 rfl (by kernel_rfl)) rfl ?_
  rw [HN.out]
  exact ⟨_, _, rfl, OwnC.nil _ _, Below.set4 bb1 (by omega) _ _ _ _⟩
end Go.Proofs.Ytgmgpcaahanmiaa
