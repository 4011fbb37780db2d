/-
  Texts joined.
-/
import Derived.Test.YtpglmogoddgmoaaJC10
import Derived.Test.YtpglmogoddgmoaaJC14
import Derived.Test.YtpglmogoddgmoaaJC17
import Derived.Test.YtpglmogoddgmoaaJC18
import Derived.Test.YtpglmogoddgmoaaJC19
import Derived.Test.YtpglmogoddgmoaaJC22
import Derived.Test.YtpglmogoddgmoaaJC23
set_option linter.unusedVariables false
set_option linter.unusedSimpArgs false
set_option maxRecDepth 100000
set_option maxHeartbeats 40000000
namespace Go.Proofs.Ytpglmogoddgmoaa
open Go.RowKit
attribute [local go_sem ↓] Go.wp_at_zero Go.wp_at_succ
theorem rowsD_Mat {F : FD} (ok : F.Ok) (n : Nat) (xss : List (List Int)) : F.Mat n (rowsD n xss) := by
 obtain ⟨h2, _⟩ := ok.n_bd
 intro r hr
 obtain ⟨b, _, rfl⟩ := List.mem_map.1 hr
 refine ⟨rowB_len _ _, fun x hx => ?_⟩
 obtain ⟨k, _, rfl⟩ := List.mem_map.1 hx
 split <;> omega
def cdRes (p d : Int) (xs : List Int) (q : Int) (bss : List (List Int)) : Int × Int × List Int × List (List Int) × Int :=
 if (okF p d xs && okD q bss) = true then mkC (fdR p d xs) (form (fdR p d xs) (rowsD q.toNat bss) q.toNat) else (0, 0, [], [], 1)
theorem l20Form_any (gF g n : Nat) (F : FD) (ra : Option Addr) (rc : Nat) (xss : List (List Int)) (w : World) (hF : PF w gF F) (hG : F.Good) (hc0 : w.cell? ⟨g, 0, none⟩ = some (.int .i64 (n : Int))) (hc1 : w.cell? ⟨g, 1, none⟩ = some (.slice ra xss.length rc)) (hx : RdS w ra xss) (hn : n ≤ 32) (hm : xss.length ≤ 128) (hB : ∀ k, k < xss.length → okB n (nthL xss k) = true) :
    Calls Try.prog 76 #[.pointer (some ⟨gF, 0, none⟩), .pointer (some ⟨g, 0, none⟩)] w fun e w' => ∃ v, e = .returned v ∧ OwnS w' w.heap.size v (form F (rowsD n xss) n) ∧ Below w.heap.size w w' := by
 have ok := hG.ok
 have HR := hide (l20Rows_any g n ra rc xss w hc0 hc1 hx hn hm hB)
 have hmat := rowsD_Mat ok n xss
 have hrl := rowsD_len n xss
 obtain ⟨R, hR⟩ : ∃ R, R = rowsD n xss := ⟨_, rfl⟩
 rw [← hR] at HR hmat hrl ⊢
 have hRl : R.length ≤ 128 := by omega
 clear hrl hR hc0 hc1 hx hB
 go_enter Try.func76, Try.ntmps76
 go_wp2_with fail
 refine (unhide HR).mono ?_
 rintro e w1 ⟨v1, rfl, o1, b1⟩
 obtain ⟨a1, c1, rfl, r1⟩ := o1.form
 by_cases h0 : 0 < R.length
 · have HFM := hide (l17Form_any gF F a1 c1 R n w1 (hF.below b1) hG r1 h0 hmat)
   have hne : ((R.length : Int) == 0) = false := by rw [beq_eq_false_iff_ne]; omega
   have hne2 : ¬ R = [] := by rintro rfl; simp at h0
   clear r1 o1
   have z1 := b1.size
   go_wp2_with fail
   refine (unhide HFM).mono ?_
   rintro e w2 ⟨v2, rfl, o2, b2⟩
   go_wp2
   go_ret
   exact ⟨_, rfl, o2.mono z1, b1.trans (b2.mono z1)⟩
 · have hR0 : R = [] := List.eq_nil_of_length_eq_zero (by omega)
   subst hR0
   have o1' := o1
   clear r1 o1
   go_wp2
   go_ret
   exact ⟨_, rfl, by rw [form_nil]; exact o1', b1⟩
theorem specCDe_any (p d : Int) (a : Option Addr) (c : Nat) (xs : List Int) (q : Int) (ra : Option Addr) (rc : Nat) (bss : List (List Int)) (w : World) (hx : Rd w a xs) (hb : RdS w ra bss) :
    Calls Try.prog 38 #[.agg #[.int .i64 p, .int .i64 d, .slice a xs.length c], .agg #[.int .i64 q, .slice ra bss.length rc]] w (SpC w w.heap.size (cdRes p d xs q bss)) := by
 have hbl := hb.len
 have hxl := hx.len
 obtain ⟨W0, hW0⟩ : ∃ z, z = ((w.alloc (.cells #[.int .i64 p, .int .i64 d, .slice a xs.length c] 26)).alloc (.cells #[.int .i64 q, .slice ra bss.length rc] 48)).alloc (.cells #[.int .i64 0, .int .i64 0, .slice none 0 0, .slice none 0 0] 55) := ⟨_, rfl⟩
 have b0 : Below w.heap.size w W0 := by rw [hW0]; exact (((Below.refl _ _).alloc (Nat.le_refl _) _).alloc (by simp) _).alloc (by simp; omega) _
 have kF : Blk W0 w.heap.size 26 #[.int .i64 p, .int .i64 d, .slice a xs.length c] := by rw [hW0]; exact ((Blk.new _ _ _ rfl).alloc _).alloc _
 have kD : Blk W0 (w.heap.size + 1) 48 #[.int .i64 q, .slice ra bss.length rc] := by rw [hW0]; exact (Blk.new _ _ _ (by simp)).alloc _
 have k0 : Blk W0 (w.heap.size + 1 + 1) 55 #[.int .i64 0, .int .i64 0, .slice none 0 0, .slice none 0 0] := by rw [hW0]; exact Blk.new _ _ _ (by simp)
 have s0 : w.heap.size + 1 + 1 < W0.heap.size := k0.lt
 have HW := Lib.hid hW0
 have hx0 := hx.below b0
 have hb0 := hb.below b0
 clear hW0
 unfold cdRes
 have hP : PR W0 w.heap.size p d a c xs := ⟨kF.cell 0, kF.cell 1, kF.cell 2, hx0⟩
 have hV := l03Ok_any w.heap.size p d a c xs W0 hP
 cases hk : okF p d xs with
 | false =>
  rw [hk] at hV
  have HV := hide hV
  clear hV hk
  rw [if_neg (by simp)]
  go_enter Try.func38, Try.ntmps38
  go_wp2_with fail
  rw [← HW.out]
  refine (unhide HV).mono ?_
  rintro e w1 ⟨rfl, b1⟩
  have hb1 := b0.trans (b1.mono (by omega))
  have k1 := k0.below b1 k0.lt
  have f0 := k1.cell 0
  have f1 := k1.cell 1
  have f2 := k1.cell 2
  have f3 := k1.cell 3
  have g0 := k1.frozen 0
  have g1 := k1.frozen 1
  have g2 := k1.frozen 2
  have g3 := k1.frozen 3
  go_wp2
  refine bodyPost_ret (results_cell_tmp_row rfl _ _ (w.heap.size + 1 + 1) 55 #[.int .i64 0, .int .i64 0, .slice none 0 0, .slice none 0 0] _ rfl (k1.b4.store _ _ _ _) Try.underlying55 rfl (by kernel_rfl)) rfl ?_
  exact ⟨_, _, rfl, Own.nil _ _, OwnS.nil _ _, Below.set4 hb1 (by omega) _ _ _ _⟩
 | true =>
  rw [hk] at hV
  have HV := hide hV
  obtain ⟨F, hG, rfl, rfl, rfl⟩ := okF_good hk
  rw [fdR_eq]
  have ok := hG.ok
  clear hV hk
  have hD := fun W (h : Below W0.heap.size W0 W) => l10Ok_any (w.heap.size + 1) q ra rc bss W ((kD.below h kD.lt).cell 0) ((kD.below h kD.lt).cell 1) (hb0.below h)
  cases hk2 : okD q bss with
  | false =>
   simp only [hk2] at hD
   have HD := hide hD
   clear hD hk2
   rw [if_neg (by simp)]
   go_enter Try.func38, Try.ntmps38
   go_wp2_with fail
   rw [← HW.out]
   refine (unhide HV).mono ?_
   rintro e w1 ⟨rfl, b1⟩
   go_wp2_with fail
   refine (unhide HD _ b1).mono ?_
   rintro e w2 ⟨rfl, q2⟩
   have b2 := b1.trans (q2.below _)
   have hb2 := b0.trans (b2.mono (by omega))
   have k1 := k0.below b2 k0.lt
   have f0 := k1.cell 0
   have f1 := k1.cell 1
   have f2 := k1.cell 2
   have f3 := k1.cell 3
   have g0 := k1.frozen 0
   have g1 := k1.frozen 1
   have g2 := k1.frozen 2
   have g3 := k1.frozen 3
   go_wp2
   refine bodyPost_ret (results_cell_tmp_row rfl _ _ (w.heap.size + 1 + 1) 55 #[.int .i64 0, .int .i64 0, .slice none 0 0, .slice none 0 0] _ rfl (k1.b4.store _ _ _ _) Try.underlying55 rfl (by kernel_rfl)) rfl ?_
   exact ⟨_, _, rfl, Own.nil _ _, OwnS.nil _ _, Below.set4 hb2 (by omega) _ _ _ _⟩
  | true =>
   simp only [hk2] at hD
   have HD := hide hD
   obtain ⟨⟨hq1, hq2⟩, hm128, hblk⟩ := okD_facts hk2
   rw [if_pos (by simp)]
   obtain ⟨n, rfl⟩ := Int.eq_ofNat_of_zero_le (show 0 ≤ q by omega)
   rw [Int.toNat_natCast]
   have HFO := hide (fun W (h : Below W0.heap.size W0 W) => l20Form_any w.heap.size (w.heap.size + 1) n F ra rc bss W ((hP.below h).pf) hG ((kD.below h kD.lt).cell 0) ((kD.below h kD.lt).cell 1) (hb0.below h) (by omega) hm128 (fun k hk => (hblk k hk).1))
   obtain ⟨fm, hfm⟩ : ∃ fm, fm = form F (rowsD n bss) n := ⟨_, rfl⟩
   have hfl : fm.length ≤ 128 := by
    have h1 := red_piv F (rowsD n bss) n
    rw [hfm, form_len]
    rw [rowsD_len] at h1
    omega
   simp only [← hfm] at HFO
   rw [← hfm]
   have hHP := hide hP
   clear hD hk2 hfm hblk
   go_enter Try.func38, Try.ntmps38
   go_wp2_with fail
   rw [← HW.out]
   refine (unhide HV).mono ?_
   rintro e w1 ⟨rfl, b1⟩
   go_wp2_with fail
   refine (unhide HD _ b1).mono ?_
   rintro e w2 ⟨rfl, q2⟩
   have b2 := b1.trans (q2.below _)
   have z2 := b2.size
   go_wp2_with fail
   refine (unhide HFO _ b2).mono ?_
   rintro e w3 ⟨v3, rfl, o3, b3⟩
   have b3' := b2.trans (b3.mono z2)
   have hb3 := b0.trans (b3'.mono (by omega))
   obtain ⟨a3, c3, rfl, r3⟩ := o3.form
   have z3 := b3.size
   have hMk := l18Make_any w2.heap.size w.heap.size F a3 c3 fm w3 ((unhide hHP).below b3').pf ok o3 z3
   have HMK := hide hMk
   clear hMk o3 r3
   go_wp2_with fail
   refine (unhide HMK).mono ?_
   rintro e w4 ⟨v4, u4, rfl, o4, q4, b4⟩
   obtain ⟨rr, hrr⟩ : ∃ rr, rr = mkC F fm := ⟨_, rfl⟩
   rw [← hrr] at o4 q4 ⊢
   obtain ⟨rp, rd, rx, ry, rz⟩ := rr
   simp only [] at o4 q4 ⊢
   obtain ⟨a4, c4, rfl, _, _⟩ := o4.form
   obtain ⟨p4, d4, rfl, _⟩ := q4.form
   have z4 := b4.size
   have HRR := Lib.hid hrr
   have b4' := b3'.trans (b4.mono (by omega))
   have hb4 := b0.trans (b4'.mono (by omega))
   have k4 := k0.below b4' k0.lt
   have f0 := k4.cell 0
   have f1 := k4.cell 1
   have f2 := k4.cell 2
   have f3 := k4.cell 3
   have g0 := k4.frozen 0
   have g1 := k4.frozen 1
   have g2 := k4.frozen 2
   have g3 := k4.frozen 3
   clear hrr
   go_wp2
   have p3 : w.heap.size + 1 + 1 < w2.heap.size := by omega
   refine bodyPost_ret (results_cell_tmp_row rfl _ _ (w.heap.size + 1 + 1) 55 #[.int .i64 rp, .int .i64 rd, .slice a4 rx.length c4, .slice p4 ry.length d4] _ rfl (k4.b4.store _ _ _ _) Try.underlying55 rfl (by kernel_rfl)) rfl ?_
   show SpC w w.heap.size (mkC F fm) _ _
   rw [← HRR.out]
   refine ⟨_, _, rfl, ?_, ?_, Below.set4 hb4 (by omega) _ _ _ _⟩
   · exact ((((o4.storeBelow p3 _).storeBelow p3 _).storeBelow p3 _).storeBelow p3 _).mono (by omega)
   · exact ((((q4.storeBelow p3 _).storeBelow p3 _).storeBelow p3 _).storeBelow p3 _).mono (by omega)
end Go.Proofs.Ytpglmogoddgmoaa
namespace Go.Proofs.Ytpglmogoddgmoaa
open Go.RowKit
attribute [local go_sem ↓] Go.wp_at_zero Go.wp_at_succ
theorem implCDe_any (p d : Int) (a : Option Addr) (c : Nat) (xs : List Int) (q : Int) (ra : Option Addr) (rc : Nat) (bss : List (List Int)) (w : World) (hx : Rd w a xs) (hb : RdS w ra bss) (ed : I64 d) :
    Calls Try.prog 39 #[.agg #[.int .i64 p, .int .i64 d, .slice a xs.length c], .agg #[.int .i64 q, .slice ra bss.length rc]] w (ResC w (cdRes p d xs q bss)) := by
 have hbl := hb.len
 have hxl := hx.len
 obtain ⟨W0, hW0⟩ : ∃ z, z = ((w.alloc (.cells #[.int .i64 p, .int .i64 d, .slice a xs.length c] 26)).alloc (.cells #[.int .i64 q, .slice ra bss.length rc] 48)).alloc (.cells #[.int .i64 0, .int .i64 0, .slice none 0 0, .slice none 0 0] 55) := ⟨_, rfl⟩
 have b0 : Below w.heap.size w W0 := by rw [hW0]; exact (((Below.refl _ _).alloc (Nat.le_refl _) _).alloc (by simp) _).alloc (by simp; omega) _
 have kF : Blk W0 w.heap.size 26 #[.int .i64 p, .int .i64 d, .slice a xs.length c] := by rw [hW0]; exact ((Blk.new _ _ _ rfl).alloc _).alloc _
 have kD : Blk W0 (w.heap.size + 1) 48 #[.int .i64 q, .slice ra bss.length rc] := by rw [hW0]; exact (Blk.new _ _ _ (by simp)).alloc _
 have k0 : Blk W0 (w.heap.size + 1 + 1) 55 #[.int .i64 0, .int .i64 0, .slice none 0 0, .slice none 0 0] := by rw [hW0]; exact Blk.new _ _ _ (by simp)
 have s0 : w.heap.size + 1 + 1 < W0.heap.size := k0.lt
 have HW := Lib.hid hW0
 have hx0 := hx.below b0
 have hb0 := hb.below b0
 clear hW0
 unfold cdRes
 have e0 := kF.cell 0
 have e1 := kF.cell 1
 have e2 := kF.cell 2
 have hV := validField_any p d a c xs W0 hx0 ed
 cases hk : okF p d xs with
 | false =>
  rw [hk] at hV
  have HV := hide hV
  clear hV hk
  rw [if_neg (by simp)]
  go_enter Try.func39, Try.ntmps39
  go_wp2_with fail
  rw [← HW.out]
  refine (unhide HV).mono ?_
  rintro e w1 ⟨rfl, b1⟩
  have hb1 := b0.trans (b1.mono (by omega))
  have k1 := k0.below b1 k0.lt
  have f0 := k1.cell 0
  have f1 := k1.cell 1
  have f2 := k1.cell 2
  have f3 := k1.cell 3
  have g0 := k1.frozen 0
  have g1 := k1.frozen 1
  have g2 := k1.frozen 2
  have g3 := k1.frozen 3
  go_wp2
  refine bodyPost_ret (results_cell_tmp_row rfl _ _ (w.heap.size + 1 + 1) 55 #[.int .i64 0, .int .i64 0, .slice none 0 0, .slice none 0 0] _ rfl (k1.b4.store _ _ _ _) Try.underlying55 rfl (by kernel_rfl)) rfl ?_
  exact ⟨_, _, rfl, OwnC.nil _ _, Below.set4 hb1 (by omega) _ _ _ _⟩
 | true =>
  rw [hk] at hV
  have HV := hide hV
  obtain ⟨F, hG, rfl, rfl, rfl⟩ := okF_good hk
  rw [fdR_eq]
  have ok := hG.ok
  clear hV hk
  have hD := fun W (h : Below W0.heap.size W0 W) => validDesign_any q ra rc bss W (hb0.below h)
  have BD := hide (show ∀ W, Below W0.heap.size W0 W → Blk W (w.heap.size + 1) 48 #[.int .i64 q, .slice ra bss.length rc] from fun W h => kD.below h kD.lt)
  cases hk2 : okD q bss with
  | false =>
   simp only [hk2] at hD
   have HD := hide hD
   clear hD hk2
   rw [if_neg (by simp)]
   go_enter Try.func39, Try.ntmps39
   go_wp2_with fail
   rw [← HW.out]
   refine (unhide HV).mono ?_
   rintro e w1 ⟨rfl, b1⟩
   have m1 := unhide BD _ b1
   have d0 := m1.cell 0
   have d1 := m1.cell 1
   go_wp2_with fail
   refine (unhide HD _ b1).mono ?_
   rintro e w2 ⟨rfl, q2⟩
   have b2 := b1.trans (q2.mono b1.size)
   have hb2 := b0.trans (b2.mono (by omega))
   have k1 := k0.below b2 k0.lt
   have f0 := k1.cell 0
   have f1 := k1.cell 1
   have f2 := k1.cell 2
   have f3 := k1.cell 3
   have g0 := k1.frozen 0
   have g1 := k1.frozen 1
   have g2 := k1.frozen 2
   have g3 := k1.frozen 3
   go_wp2
   refine bodyPost_ret (results_cell_tmp_row rfl _ _ (w.heap.size + 1 + 1) 55 #[.int .i64 0, .int .i64 0, .slice none 0 0, .slice none 0 0] _ rfl (k1.b4.store _ _ _ _) Try.underlying55 rfl (by kernel_rfl)) rfl ?_
   exact ⟨_, _, rfl, OwnC.nil _ _, Below.set4 hb2 (by omega) _ _ _ _⟩
  | true =>
   simp only [hk2] at hD
   have HD := hide hD
   obtain ⟨⟨hq1, hq2⟩, hm128, hblk⟩ := okD_facts hk2
   rw [if_pos (by simp)]
   obtain ⟨n, rfl⟩ := Int.eq_ofNat_of_zero_le (show 0 ≤ q by omega)
   rw [Int.toNat_natCast]
   have hmat := rowsD_Mat ok n bss
   have hro := fun W (h : Below W0.heap.size W0 W) => rowsOfBlocks_any n ra rc bss W (hb0.below h) (by omega) hm128 (fun k hk => (hblk k hk).1)
   obtain ⟨M, hM⟩ : ∃ M, M = rowsD n bss := ⟨_, rfl⟩
   simp only [← hM] at hro
   rw [← hM] at hmat ⊢
   have HRO := hide hro
   have hml : M.length ≤ 128 := by rw [hM, rowsD_len]; exact hm128
   have HCO := hide (fun W (h : Below W0.heap.size W0 W) ra rc (hr : RdS W ra M) => codeOf_all F a c ra rc M n W (hx0.below h) hG hr hmat)
   obtain ⟨rr, hrr⟩ : ∃ rr, rr = mkC F (form F M n) := ⟨_, rfl⟩
   simp only [← hrr] at HCO
   rw [← hrr]
   obtain ⟨rp, rd, rx, ry, rz⟩ := rr
   clear hrr
   clear hD hk2 hM hblk hro hmat
   have BX := hide (show ∀ W, Below W0.heap.size W0 W → (Below W0.heap.size W0 W ∧ W.cell? ⟨w.heap.size, 0, none⟩ = some (.int .i64 F.p) ∧ W.cell? ⟨w.heap.size, 1, none⟩ = some (.int .i64 F.k) ∧ W.cell? ⟨w.heap.size, 2, none⟩ = some (.slice a F.poly.length c) ∧ W.cell? ⟨w.heap.size + 1, 0, none⟩ = some (.int .i64 (n : Int)) ∧ W.cell? ⟨w.heap.size + 1, 1, none⟩ = some (.slice ra bss.length rc)) from fun W h => ⟨h, (kF.below h kF.lt).cell 0, (kF.below h kF.lt).cell 1, (kF.below h kF.lt).cell 2, (kD.below h kD.lt).cell 0, (kD.below h kD.lt).cell 1⟩)
   go_enter Try.func39, Try.ntmps39
   go_wp2_with fail
   rw [← HW.out]
   refine (unhide HV).mono ?_
   rintro e w1 ⟨rfl, b1⟩
   have m1 := unhide BD _ b1
   have d0 := m1.cell 0
   have d1 := m1.cell 1
   go_wp2_with fail
   refine (unhide HD _ b1).mono ?_
   rintro e w2 ⟨rfl, q2⟩
   have b2 := b1.trans (q2.mono b1.size)
   have z2 := b2.size
   clear d0 d1 e0 e1 e2
   go_upto_region 3 with fail
   refine wp_region_noPanic ?_
   refine wp_region_until (S := (fun W => Below W0.heap.size W0 W ∧ W.cell? ⟨w.heap.size, 0, none⟩ = some (.int .i64 F.p) ∧ W.cell? ⟨w.heap.size, 1, none⟩ = some (.int .i64 F.k) ∧ W.cell? ⟨w.heap.size, 2, none⟩ = some (.slice a F.poly.length c) ∧ W.cell? ⟨w.heap.size + 1, 0, none⟩ = some (.int .i64 (n : Int)) ∧ W.cell? ⟨w.heap.size + 1, 1, none⟩ = some (.slice ra bss.length rc))) 6 [(0, 0), (0, 1), (1, 2), (1, 3), (0, 4), (0, 5), (2, 6), (2, 7)] (by kernel_rfl) (by kernel_rfl) (by kernel_rfl) rfl (fun _ _ _ _ _ h => h) ?_ (fun hHeld => ?_)
   · exact (unhide BX) _ (b2.drew)
   refine SeqU.take (by rfl) (v := ?hv10) (by rfl) ?hy10 ?hr10
   case hy10 =>
    intro w hSw
    try dsimp only at hSw
    go_simp
    try (with_reducible rfl)
   try simp only [Act.put, List.setIfInBounds_toArray, List.set_cons_zero, List.set_cons_succ]
   refine SeqU.take (by rfl) (v := ?hv11) (by rfl) ?hy11 ?hr11
   case hy11 =>
    intro w hSw
    try dsimp only at hSw
    go_simp
    try (with_reducible rfl)
   try simp only [Act.put, List.setIfInBounds_toArray, List.set_cons_zero, List.set_cons_succ]
   refine SeqU.call (by rfl) (fun K hK => ?_)
   go_simp
   refine ((unhide HRO) _ (And.left hHeld)).mono ?_
   rintro e w3 ⟨v3, rfl, o3, b3⟩
   obtain ⟨a3, c3, rfl, r3⟩ := o3.form
   have d3 := (And.left hHeld).trans (b3.mono (And.left hHeld).size)
   have R3 := hide r3
   clear hHeld o3 r3
   refine hK.out _ _ ?_ (fun hHeld => ?_)
   · exact (unhide BX) _ d3
   clear hK K
   try simp only [Act.put, List.setIfInBounds_toArray, List.set_cons_zero, List.set_cons_succ]
   refine SeqU.call (by rfl) (fun K hK => ?_)
   go_simp
   refine ((unhide HCO) _ d3 _ _ (unhide R3)).mono ?_
   rintro e w4 ⟨v4, u4, rfl, o4, b4⟩
   simp only [] at o4 ⊢
   obtain ⟨a4, c4, p4, d4', rfl, rfl, _, _⟩ := o4.form
   have z3 := d3.size
   have dd4 := d3.trans (b4.mono z3)
   have hb4 := b0.trans (dd4.mono (by omega))
   have k4 := k0.below dd4 k0.lt
   have f0 := k4.cell 0
   have f1 := k4.cell 1
   have f2 := k4.cell 2
   have f3 := k4.cell 3
   have g0 := k4.frozen 0
   have g1 := k4.frozen 1
   have g2 := k4.frozen 2
   have g3 := k4.frozen 3
   refine hK.out _ _ ?_ (fun hHeld => ?_)
   · exact (unhide BX) _ dd4
   clear hK K
   try simp only [Act.put, List.setIfInBounds_toArray, List.set_cons_zero, List.set_cons_succ]
   refine SeqU.take (by rfl) (v := ?hv12) (by rfl) ?hy12 ?hr12
   case hy12 =>
    intro w hSw
    try dsimp only at hSw
    go_simp
    try (with_reducible rfl)
   try simp only [Act.put, List.setIfInBounds_toArray, List.set_cons_zero, List.set_cons_succ]
   refine SeqU.take (by rfl) (v := ?hv13) (by rfl) ?hy13 ?hr13
   case hy13 =>
    intro w hSw
    try dsimp only at hSw
    go_simp
    try (with_reducible rfl)
   try simp only [Act.put, List.setIfInBounds_toArray, List.set_cons_zero, List.set_cons_succ]
   refine SeqU.last (by rfl) (fun K hK => ?_)
   go_simp
   skip
   refine hK.out _ _ ?_
   clear hK K
   try simp only [Act.put, List.setIfInBounds_toArray, List.set_cons_zero, List.set_cons_succ]
   refine SeqU.last (by rfl) (fun K hK => ?_)
   go_simp
   skip
   refine hK.out _ _ ?_
   clear hK K
   try simp only [Act.put, List.setIfInBounds_toArray, List.set_cons_zero, List.set_cons_succ]
   refine SeqU.done (NoPanic.normal ?_)
   have p3 : w.heap.size + 1 + 1 < w3.heap.size := by omega
   go_wp2_with fail
   refine bodyPost_ret (results_cell_tmp_row rfl _ _ (w.heap.size + 1 + 1) 55 #[.int .i64 rp, .int .i64 rd, .slice a4 rx.length c4, .slice p4 ry.length d4'] _ rfl (k4.b4.store _ _ _ _) Try.underlying55 rfl (by kernel_rfl)) rfl ?_
   refine ⟨_, _, rfl, ?_, Below.set4 hb4 (by omega) _ _ _ _⟩
   exact ((((o4.storeBelow p3 _).storeBelow p3 _).storeBelow p3 _).storeBelow p3 _).mono (by omega)
end Go.Proofs.Ytpglmogoddgmoaa
