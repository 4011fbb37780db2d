/-
  Proved: FnLinks returns true for every input and leaves its arguments as they were. No condition. Printed by gen_lfl.py.
-/
import Derived.Deep.CutBlock
import Derived.Test.YtkiljcbejmiioaaGreatLK8
import Derived.Test.YtkiljcbejmiioaaGreatLK10
import Derived.Test.YtkiljcbejmiioaaGreatLK15
import Derived.Test.YtkiljcbejmiioaaGreatLK16
import Derived.Test.YtkiljcbejmiioaaGreatLK22
import Derived.Test.YtkiljcbejmiioaaGreatLK24
import Derived.Test.YtkiljcbejmiioaaGreatLK33
import Derived.Test.YtkiljcbejmiioaaGreatLK34
import Derived.Test.YtkiljcbejmiioaaGreatLK36
import Derived.Test.YtkiljcbejmiioaaGreatLK38
import Derived.Test.YtkiljcbejmiioaaGreatLK40
set_option linter.unusedVariables false
set_option linter.unusedSimpArgs false
set_option maxRecDepth 100000
set_option maxHeartbeats 40000000
namespace Go.Proofs.YtkiljcbejmiioaaGreat
open Go.RowKit
attribute [local go_sem ↓] Go.wp_at_zero Go.wp_at_succ
theorem walkFnLinks (a b : Option Addr) (c d : Nat) (xs ys : List Int) (w0 : World) (hxl : xs.length ≤ maxLen) (hyl : ys.length ≤ maxLen) (hx : xs.length ≤ 1048576 → RdB w0 a xs) (hy : ys.length ≤ 1048576 → RdB w0 b ys) :
    Calls Tryz.prog 3 #[.slice a xs.length c, .slice b ys.length d] w0 fun e w' => e = .returned (.bool true) ∧ Below w0.heap.size w0 w' := by
 have HL := hide (v8Long_any a b c d xs.length ys.length w0 hxl hyl)
 clear hxl hyl
 cases hl : (decide (1048576 < xs.length) || decide (1048576 < ys.length)) with
 | true =>
  rw [hl] at HL
  clear hl hx hy
  go_enter Tryz.func3, Tryz.ntmps3
  go_wp2_with fail
  refine (unhide HL).mono ?_
  rintro e w1 ⟨rfl, rfl⟩
  go_wp2
  go_ret
  exact ⟨rfl, Below.refl _ _⟩
 | false =>
  rw [hl] at HL
  rw [Bool.or_eq_false_iff, decide_eq_false_iff_not, decide_eq_false_iff_not] at hl
  have HX := hide (hx (by omega))
  have HY := hide (hy (by omega))
  clear hx hy hl
  go_enter Tryz.func3, Tryz.ntmps3
  go_wp2_with fail
  refine (unhide HL).mono ?_
  rintro e w1 ⟨rfl, rfl⟩
  clear HL
  go_wp2_with fail
  refine (V8Small_any a c xs w0 (unhide HX)).mono ?_
  rintro e w1 ⟨p, M, ma, mc, rfl, hD, hMl, r1, b1⟩
  clear HX
  obtain ⟨⟨hp1, hp32⟩, _, hblk⟩ := okD_facts hD
  obtain ⟨q, rfl⟩ : ∃ q : Nat, p = (q : Int) := ⟨p.toNat, by omega⟩
  obtain ⟨W1, hW1⟩ : ∃ z, z = w1.alloc (.cells #[.int .i64 q, .slice ma M.length mc] 26) := ⟨_, rfl⟩
  have bW1 : Below w1.heap.size w1 W1 := by rw [hW1]; exact (Below.refl _ _).alloc (Nat.le_refl _) _
  have kD : Blk W1 w1.heap.size 26 #[.int .i64 q, .slice ma M.length mc] := by rw [hW1]; exact Blk.new _ _ _ rfl
  have hWx1 := Lib.hid hW1
  have rM1 := r1.below bW1
  have d1 := b1.trans (bW1.mono b1.size)
  have zD := kD.lt
  clear hW1 r1
  go_upto_region 4 with fail
  rw [← hWx1.out]
  go_wp2_with fail
  refine (specMake2_any W1).mono ?_
  rintro e w2 ⟨v2, rfl, o2, b2⟩
  have hG := fdOf_good field2
  obtain ⟨F, hF⟩ : ∃ F, F = fdOf 2 := ⟨_, rfl⟩
  rw [← hF] at o2 hG ⊢
  clear hF
  have ok := hG.ok
  have hk6 := ok.k6
  obtain ⟨a2, c2, rfl, r2, _⟩ := o2.form
  obtain ⟨W2, hW2⟩ : ∃ z, z = w2.alloc (.cells #[.int .i64 F.p, .int .i64 F.k, .slice a2 F.poly.length c2] 30) := ⟨_, rfl⟩
  have bW2 : Below w2.heap.size w2 W2 := by rw [hW2]; exact (Below.refl _ _).alloc (Nat.le_refl _) _
  have kF : Blk W2 w2.heap.size 30 #[.int .i64 F.p, .int .i64 F.k, .slice a2 F.poly.length c2] := by rw [hW2]; exact Blk.new _ _ _ rfl
  have hWx2 := Lib.hid hW2
  have b12 : Below W1.heap.size W1 W2 := b2.trans (bW2.mono b2.size)
  have rM2 := rM1.below b12
  have rF2 := r2.below bW2
  have kD2 := kD.below b12 zD
  have d2 := d1.trans (b12.mono d1.size)
  have zF := kF.lt
  obtain ⟨r, rp, rd, rx, ry, B, hrd, hcd, hB⟩ := lnk_des (bss := M) hG hD
  have hRD := implRDe_any F.p F.k a2 c2 F.poly q ma mc M W2 rF2 rM2 ⟨by omega, by omega⟩
  rw [hrd] at hRD
  have hCD := fun V (h : Below W2.heap.size W2 V) => implCDe_any F.p F.k a2 c2 F.poly q ma mc M V (rF2.below h) (rM2.below h) ⟨by omega, by omega⟩
  simp only [hcd] at hCD
  rw [Int.toNat_natCast] at hB
  have HRD := hide hRD
  have HCD := hide hCD
  have HBB := hide hB
  have HBL := hide (show ∀ i, i < M.length → okB q (nthL M i) = true from fun i hi => (hblk i hi).1)
  clear hW2 r2 o2 hrd hcd hRD hCD hB hblk hD hG ok hk6
  go_upto_region 5 with fail
  rw [← hWx2.out]
  have e0 := kD2.cell 0
  have e1 := kD2.cell 1
  have f0 := kF.cell 0
  have f1 := kF.cell 1
  have f2 := kF.cell 2
  go_wp2_with fail
  refine (unhide HRD).mono ?_
  rintro e w3 ⟨rfl, b3⟩
  have kD3 := kD2.below b3 kD2.lt
  have kF3 := kF.below b3 zF
  clear e0 e1 f0 f1 f2
  have e0 := kD3.cell 0
  have e1 := kD3.cell 1
  have f0 := kF3.cell 0
  have f1 := kF3.cell 1
  have f2 := kF3.cell 2
  go_wp2_with fail
  refine (unhide HCD w3 b3).mono ?_
  rintro e w4 ⟨v4, u4', rfl, oc4, b4⟩
  obtain ⟨Mx, _, o4, _, q4⟩ := oc4
  obtain ⟨xa, xc, rfl, rx4, _⟩ := o4.form
  obtain ⟨ra4, rc4, rfl, rs4⟩ := q4.form
  clear e0 e1 f0 f1 f2 o4 q4
  obtain ⟨W4, hW4⟩ : ∃ z, z = w4.alloc (.cells #[.int .i64 rp, .int .i64 rd, .slice xa rx.length xc, .slice ra4 ry.length rc4] 36) := ⟨_, rfl⟩
  have bW4 : Below w4.heap.size w4 W4 := by rw [hW4]; exact (Below.refl _ _).alloc (Nat.le_refl _) _
  have kX : Blk W4 w4.heap.size 36 #[.int .i64 rp, .int .i64 rd, .slice xa rx.length xc, .slice ra4 ry.length rc4] := by rw [hW4]; exact Blk.new _ _ _ rfl
  have hWx4 := Lib.hid hW4
  have b34 : Below w3.heap.size w3 W4 := b4.trans (bW4.mono b4.size)
  have b24 : Below W2.heap.size W2 W4 := b3.trans (b34.mono b3.size)
  have RM := hide (rM2.below b24)
  have RX := hide (rx4.below bW4)
  have RY := hide (rs4.below bW4)
  have kD4 := kD3.below b34 (by have := kD3.lt; omega)
  have zX := kX.lt
  have zD4 := kD4.lt
  have d4 := d2.trans (b24.mono d2.size)
  have z4 := d4.size
  have BX := hide (show ∀ V, Below W4.heap.size W4 V → (V.cell? ⟨w1.heap.size, 0, none⟩ = some (.int .i64 q) ∧ V.cell? ⟨w1.heap.size, 1, none⟩ = some (.slice ma M.length mc)) ∧ V.cell? ⟨w4.heap.size, 0, none⟩ = some (.int .i64 rp) ∧ V.cell? ⟨w4.heap.size, 1, none⟩ = some (.int .i64 rd) ∧ V.cell? ⟨w4.heap.size, 2, none⟩ = some (.slice xa rx.length xc) ∧ V.cell? ⟨w4.heap.size, 3, none⟩ = some (.slice ra4 ry.length rc4) from fun V h => ⟨⟨(kD4.below h zD4).cell 0, (kD4.below h zD4).cell 1⟩, (kX.below h zX).cell 0, (kX.below h zX).cell 1, (kX.below h zX).cell 2, (kX.below h zX).cell 3⟩)
  clear hW4 rx4 rs4 rM1 rM2 rF2 kD kD2 kD3 kD4 kF kF3 kX hWx1 hWx2 HRD HCD b2 b12 b3 b34 b24 b4 bW1 bW2 bW4
  go_upto_region 7 with fail
  rw [← hWx4.out]
  clear hWx4
  go_cut [63] from 51 to 63 (fun v wx => v = .bool false ∧ Below W4.heap.size W4 wx)
  case first =>
   obtain ⟨⟨e0, e1⟩, e2, e3, e4, e5⟩ := (unhide BX) W4 (Below.refl _ _)
   by_cases hB0 : B = 0
   · have hb1 : (B == 0) = true := by rw [beq_iff_eq]; exact hB0
     have hl := (unhide HBB hB0).1
     have hl1 : ((ry.length : Int) != (r : Int)) = false := by rw [hl]; simp
     have hl2 : (ry.length != r) = false := by rw [hl]; simp
     clear hl hB0
     go_wp2_with fail
     go_meet
     exact ⟨rfl, Below.refl _ _⟩
   · have hb1 : (B == 0) = false := by rw [beq_eq_false_iff_ne]; exact hB0
     clear hB0
     go_wp2_with fail
     go_meet
     exact ⟨rfl, Below.refl _ _⟩
  case rest =>
   obtain ⟨rfl, hb5⟩ := hcut
   rename World => w5
   go_upto_block 0 with fail
   go_cut [12, 13, 14] from 64 to 101 (fun _ _ _ wx => Below W4.heap.size W4 wx)
   case first =>
    have B5 := hide hb5
    clear hb5
    go_wp2_with fail
    go_loopw [12] (fun iv wr => ∃ i : Nat, iv = .int .i64 i ∧ i ≤ M.length ∧ Below W4.heap.size W4 wr) (fun iv _ => M.length - (intOf iv).toNat)
    case atStart => exact ⟨0, rfl, Nat.zero_le _, unhide B5⟩
    case round =>
     clear B5
     obtain ⟨i, rfl, hi, hb⟩ := hrel
     rename World => wo
     have hsz := hb.size
     obtain ⟨⟨e0, e1⟩, e2, e3, e4, e5⟩ := (unhide BX) wo hb
     by_cases hil : i < M.length
     · have hil1 : (i : Int) < (M.length : Int) := by omega
       by_cases hB0 : B = 0
       · have hb1 : (B == 0) = true := by rw [beq_iff_eq]; exact hB0
         have hha := (unhide HBB hB0).2 i hil
         have hok := unhide HBL i hil
         obtain ⟨gm, om, rfl, hgm, hcm⟩ := ((unhide RM).below hb).at_ (by omega)
         obtain ⟨ai, ci, hmi, hri⟩ := hcm i hil
         obtain ⟨bk, hbk⟩ : ∃ bk, bk = nthL M i := ⟨_, rfl⟩
         rw [← hbk] at hha hok hmi hri
         have hmem := fun x hx => okB_mem hok (x := x) hx
         have hbl := okB_len hok
         have hz0 := rowB_zero q bk
         have HMEM := hide hmem
         have HHA := Lib.hid hha
         have HRI := hide hri
         have HZ0 := Lib.hid hz0
         have HMI := hide hmi
         have hbl32 : bk.length ≤ 32 := by omega
         clear hha hok hcm hmem hri hbk hB0 hz0
         go_wp2_with (refine wpList_make_ints rfl (.tmp 76) (.tmp 76) rfl .i64 .i64 q rfl rfl (by omega) ?_; intro w6 g6 o6 b6)
         have O6 := hide (show Own w6 wo.heap.size (.slice (some ⟨g6, 0, none⟩) q q) (rowB q (bk.take 0)) from by rw [HZ0.out]; exact o6)
         have B6 := hide b6
         clear o6 b6 e0 e1 e2 e3 e4 e5
         go_wp2_with fail
         go_loopw [14] (fun kv wr => ∃ k : Nat, kv = .int .i64 k ∧ k ≤ bk.length ∧ Hid (Own wr wo.heap.size (.slice (some ⟨g6, 0, none⟩) q q) (rowB q (bk.take k))) ∧ Below wo.heap.size wo wr) (fun kv _ => bk.length - (intOf kv).toNat)
         case atStart => exact ⟨0, rfl, Nat.zero_le _, unhide O6, unhide B6⟩
         case round =>
          clear O6 B6
          obtain ⟨k, rfl, hk, ho, hb2⟩ := hrel
          have hbb := hb.trans (hb2.mono hsz)
          obtain ⟨⟨e0, e1⟩, e2, e3, e4, e5⟩ := (unhide BX) wr hbb
          have e6 := (hb2.cell (p := ⟨gm, om + i, none⟩) (by have := hsz; omega)).trans (unhide HMI)
          by_cases hkl : k < bk.length
          · obtain ⟨gr, or', rfl, hgr, hcr⟩ := (unhide HRI).at_ (by omega)
            have e7 := (hb2.cell (p := ⟨gr, or' + k, none⟩) hgr).trans (hcr k hkl)
            have hx := unhide HMEM (nth bk k) (nth_mem hkl)
            obtain ⟨x, hxx⟩ : ∃ x : Nat, nth bk k = (x : Int) := ⟨(nth bk k).toNat, by omega⟩
            have hst := rowB_set (n := q) hkl hxx
            rw [hxx] at e7 hx
            have hxq : x < q := by omega
            have hx0 : (0 : Int) ≤ (x : Int) := by omega
            have hxq2 : (x : Int) < (q : Int) := by omega
            have hkl2 : (k : Int) < (bk.length : Int) := by omega
            have hcx := ho.out.cell (j := x) (by rw [rowB_len]; exact hxq)
            have hfx := ho.out.frozen x
            have hg6 := (ho.out.lt g6 rfl).1
            have HSET := hide (ho.out.set x 1).1
            have HST := Lib.hid hst
            clear hcr hxx hst hx ho e0 e2 e3 e4 e5
            go_wp2
            go_roundw
            case rel => exact ⟨k + 1, by go_num, by omega, by show Own _ _ _ _; rw [← HST.out]; exact unhide HSET, hb2.setCell (p := ⟨g6, x, none⟩) hg6 _⟩
            case measure => simp only [intOf]; omega
          · have hke : k = bk.length := by omega
            have hoo := ho.out
            rw [hke, take_all] at hoo
            have hkl2 : ¬ (k : Int) < (bk.length : Int) := by omega
            have hch := specCH_any rp rd xa xc rx ra4 rc4 ry (some ⟨g6, 0, none⟩) q (rowB q bk) wr ((unhide RX).below hbb) ((unhide RY).below hbb) hoo.rd
            rw [HHA.out, rowB_len] at hch
            have HCH := hide hch
            clear hch hoo ho hke e0
            go_wp2_with fail
            refine (unhide HCH).mono ?_
            rintro e w7 ⟨rfl, b7⟩
            have hb7 := hbb.trans (b7.mono hbb.size)
            clear e1 e2 e3 e4 e5 e6
            go_wp2
            go_roundw
            case rel => exact ⟨i + 1, by go_num, by omega, hb7⟩
            case measure => simp only [intOf]; omega
       · have hb1 : (B == 0) = false := by rw [beq_eq_false_iff_ne]; exact hB0
         clear hB0
         go_wp2_with fail
         go_meet
         exact hb
     · have hil1 : ¬ (i : Int) < (M.length : Int) := by omega
       go_wp2_with fail
       go_meet
       exact hb
   case rest =>
    rename World => w6
    have d6 : Below w0.heap.size w0 w6 := d4.trans (hcut.mono z4)
    have YB := hide ((unhide HY).below d6)
    clear HY BX RM RX RY HBB HBL hcut hb5 d4 d2 d1 b1 z4 zX zD zF
    go_wp2_with fail
    refine (V8Code_any b d ys w6 (unhide YB)).mono ?_
    clear YB
    rintro e w7 ⟨⟨F, n, m, v1, u1, rfl, hC, hn20, o1, q1⟩, b7⟩
    have hG := hC.good
    have ok := hG.ok
    obtain ⟨n2, n64⟩ := ok.n_bd
    have hk6 := ok.k6
    have hm1 := hC.m1
    have hm8 := hC.m8
    have hn1 := hC.n1
    have hn32 := hC.n32
    have hm0 : 0 < m.length := by omega
    obtain ⟨a1, c1, rfl, r1, _⟩ := o1.form
    obtain ⟨ra, rc, rfl, rs1⟩ := q1.form
    obtain ⟨W, hW⟩ : ∃ z, z = w7.alloc (.cells #[.int .i64 F.p, .int .i64 F.k, .slice a1 F.poly.length c1, .slice ra m.length rc] 36) := ⟨_, rfl⟩
    have bW : Below w7.heap.size w7 W := by rw [hW]; exact (Below.refl _ _).alloc (Nat.le_refl _) _
    have kC : Blk W w7.heap.size 36 #[.int .i64 F.p, .int .i64 F.k, .slice a1 F.poly.length c1, .slice ra m.length rc] := by rw [hW]; exact Blk.new _ _ _ rfl
    have hWx := Lib.hid hW
    have dW : Below w0.heap.size w0 W := d6.trans ((b7.trans (bW.mono b7.size)).mono d6.size)
    have zW := dW.size
    have zC := kC.lt
    have R := hide (r1.below bW)
    have RS := hide (rs1.below bW)
    have BC := hide (show ∀ V, Below W.heap.size W V → V.cell? ⟨w7.heap.size, 0, none⟩ = some (.int .i64 F.p) ∧ V.cell? ⟨w7.heap.size, 1, none⟩ = some (.int .i64 F.k) ∧ V.cell? ⟨w7.heap.size, 2, none⟩ = some (.slice a1 F.poly.length c1) ∧ V.cell? ⟨w7.heap.size, 3, none⟩ = some (.slice ra m.length rc) from fun V h => ⟨(kC.below h zC).cell 0, (kC.below h zC).cell 1, (kC.below h zC).cell 2, (kC.below h zC).cell 3⟩)
    have hkI : I64 (F.k : Int) := ⟨by omega, by omega⟩
    have b00 := Below.refl W.heap.size W
    have hdi := specDI_any F.p F.k a1 c1 F.poly ra rc m W ((unhide R).below b00) ((unhide RS).below b00)
    rw [distRes, if_pos hC.okC, fdR_eq, hC.hn] at hdi
    have hsp := fun V (h : Below W.heap.size W V) => implSP_any F.p F.k a1 c1 F.poly ra rc m (distC F n m) V ((unhide R).below h) ((unhide RS).below h) hkI
    simp only [lnk_sup hC] at hsp
    have hex := fun V (h : Below W.heap.size W V) => implEX_any F.p F.k a1 c1 F.poly ra rc m V ((unhide R).below h) ((unhide RS).below h) hkI
    simp only [lnk_ext hC (by omega : n ≤ 31)] at hex
    obtain ⟨hs1, hs2, hs3⟩ := lnk_supp hC
    obtain ⟨hD1, hD2⟩ := hC.dist
    have hvc := (hC.ext (by omega : n ≤ 31)).okC
    have hwo := lnk_words hC (by omega : n ≤ 31)
    have hsm := fun v (hv : v ∈ wordsTo F (n + 1) (extM F m) (extM F m).length) => lnk_sum hC hv
    have hhu := fun V (h : Below W.heap.size W V) => implHU_any F.p F.k a1 c1 F.poly ra rc m V ((unhide R).below h) ((unhide RS).below h) hkI
    have hhl := lnk_hull hC
    have hch := fun A C (v : List Int) V (h : Below W.heap.size W V) (hv : Rd V A v) => specCH_any F.p F.k a1 c1 F.poly ra rc m A C v V ((unhide R).below h) ((unhide RS).below h) hv
    have hso := fun V (h : Below W.heap.size W V) => implSO_any F.p F.k a1 c1 F.poly ra rc m V ((unhide R).below h) ((unhide RS).below h) hkI
    have hfa := fun (x y : Int) V (h : Below W.heap.size W V) hx hy => fieldAdd_any F a1 c1 x y V ((unhide R).below h) hG hx hy
    have hel := fun (v : List Int) k => (el_n ok).1 (sum_el ok (nth v) k)
    have hwl := wordsTo_len F (n + 1) (extM F m) (extM F m).length
    have hFI := hkI
    obtain ⟨D, hDD⟩ : ∃ D, D = distC F n m := ⟨_, rfl⟩
    rw [← hDD] at hdi hsp hs1 hs2 hs3 hD1 hD2
    obtain ⟨L, hL⟩ : ∃ L, L = supW F n m (D : Int) := ⟨_, rfl⟩
    simp only [← hL] at hsp
    rw [← hL] at hs1 hs2 hs3
    obtain ⟨E, hE⟩ : ∃ E, E = extM F m := ⟨_, rfl⟩
    simp only [← hE] at hex
    rw [← hE] at hvc hwo hwl
    simp only [← hE] at hsm
    obtain ⟨WD, hWD⟩ : ∃ WD, WD = wordsTo F (n + 1) E E.length := ⟨_, rfl⟩
    rw [← hWD] at hwo hwl
    simp only [← hWD] at hsm
    have hvl := fun A C RA RC V (hA : Rd V A F.poly) (hR : RdS V RA E) => specVC_any F.p F.k A C F.poly RA RC E V hA hR
    simp only [hvc] at hvl
    have hwv := fun A C RA RC V (hA : Rd V A F.poly) (hR : RdS V RA E) => specWO_any F.p F.k A C F.poly RA RC E V hA hR
    simp only [hwo] at hwv
    have HDI := hide hdi
    have HSP := hide hsp
    have HEX := hide hex
    have HS2 := hide (show ∀ i j, i < j → j < L.length → LtL (nthL L i) (nthL L j) from fun i j h1 h2 => by
     rw [nthL_lt (by omega), nthL_lt h2]
     exact List.pairwise_iff_getElem.1 hs2 i j (by omega) h2 h1)
    have HS3 := hide (show ∀ i, i < L.length → (nthL L i).length = D from fun i hi => hs3 _ (nthL_mem hi))
    have hL0 : 0 < L.length := List.length_pos_iff.2 hs1
    have HVL := hide hvl
    have HWV := hide hwv
    have HSM := hide hsm
    have HHU := hide hhu
    have HHL := hide hhl
    have HCH := hide hch
    have HSO := hide hso
    have HFA := hide hfa
    have HEL := hide hel
    have HDW := hide dW
    clear hW kC hC hG ok hs1 hs2 hs3 hdi hsp hex hvc hwo hsm hhu hhl hch hso hfa hel hvl hwv hDD hL hE hWD hwl r1 rs1 o1 q1 dW d6 b7 bW hkI
    go_upto_region 20 with fail
    rw [← hWx.out]
    clear hWx
    obtain ⟨e0, e1, e2, e3⟩ := (unhide BC) W b00
    go_wp2_with fail
    refine (unhide HDI).mono ?_
    rintro e w8 ⟨rfl, b8⟩
    have d8 := b00.trans b8
    clear e0 e1 e2 e3 HDI
    obtain ⟨e0, e1, e2, e3⟩ := (unhide BC) w8 d8
    go_wp2_with fail
    refine (unhide HSP w8 d8).mono ?_
    rintro e w9 ⟨v9, rfl, o9, b9⟩
    have o9 : OwnS w9 w8.heap.size v9 L := o9
    obtain ⟨la, lc, rfl, rl9⟩ := o9.form
    have d9 := d8.trans (b9.mono d8.size)
    have hLl := rl9.len
    have RL := hide rl9
    have hl1 : ((L.length : Int) == 0) = false := by rw [beq_eq_false_iff_ne]; omega
    have hl2 : (L.length == 0) = false := by rw [beq_eq_false_iff_ne]; omega
    have hl3 : ¬ L.length = 0 := by omega
    clear o9 rl9 e0 e1 e2 e3 HSP b8 b9
    go_wp2_with fail
    clear hl1 hl2 hl3
    go_loopw [20] (fun iv wr => ∃ i : Nat, iv = .int .i64 i ∧ i ≤ L.length ∧ Below w9.heap.size w9 wr) (fun iv _ => L.length - (intOf iv).toNat)
    case atStart => exact ⟨0, rfl, Nat.zero_le _, Below.refl _ _⟩
    case round =>
     obtain ⟨i, rfl, hi, hb⟩ := hrel
     have hsz := hb.size
     by_cases hil : i < L.length
     · obtain ⟨gl, ol, rfl, hgl, hcl⟩ := (unhide RL).at_ (by omega)
       obtain ⟨ai, ci, hci, hri⟩ := hcl i hil
       have hli := unhide HS3 i hil
       have i1 : (i : Int) < (L.length : Int) := by omega
       have g1 := (hb.cell (p := ⟨gl, ol + i, none⟩) hgl).trans hci
       have hri2 := hri.below hb
       obtain ⟨row, hrow⟩ : ∃ row, row = nthL L i := ⟨_, rfl⟩
       rw [← hrow] at g1 hli hri2
       have hne : ((row.length : Int) != (D : Int)) = false := by rw [hli]; simp
       have hne2 : (row.length != D) = false := by rw [hli]; simp
       have HLI := Lib.hid hli
       by_cases h0 : i = 0
       · have j1 : ¬ (0 : Int) < (i : Int) := by omega
         have j2 : ¬ 0 < i := by omega
         have j3 : decide ((0 : Int) < (i : Int)) = false := decide_eq_false j1
         clear hcl hci hri hrow h0 hli hri2
         go_upto_region 27 with fail
         go_quiet (fail)
         rename Nat => nq
         go_wp2
         go_roundw
         case rel => exact ⟨i + 1, by go_num, by omega, hb.trans ((Below.drewn nq).mono hsz)⟩
         case measure => simp only [intOf]; omega
       · obtain ⟨m1, rfl⟩ : ∃ m1, i = m1 + 1 := ⟨i - 1, by omega⟩
         obtain ⟨aj, cj, hcj, hrj⟩ := hcl m1 (by omega)
         have g2 := (hb.cell (p := ⟨gl, ol + m1, none⟩) hgl).trans hcj
         have hcs := fun k => compareS_any aj ai cj ci (nthL L m1) row (wr.drewN k) ((hrj.below hb).drewN k) (hri2.drewN k)
         have hlt := unhide HS2 m1 (m1 + 1) (by omega) hil
         rw [← hrow] at hlt
         obtain ⟨z, hz⟩ : ∃ z, z = cmpL (nthL L m1) row := ⟨_, rfl⟩
         have hz0 : z < 0 := by rw [hz]; exact hlt
         rw [← hz] at hcs
         have hrl := hrj.len
         have hrl2 := hri2.len
         obtain ⟨row1, hrow1⟩ : ∃ row1, row1 = nthL L m1 := ⟨_, rfl⟩
         rw [← hrow1] at g2 hcs hrl
         have HCS := hide hcs
         have hw4 : IntKind.i64.wrap (m1 : Int) = (m1 : Int) := IntWalk.i64_in _ (by omega)
         have j1 : (0 : Int) < ((m1 : Int) + 1) := by omega
         have j2 : 0 < m1 + 1 := by omega
         have j3 : decide ((0 : Int) < ((m1 : Int) + 1)) = true := decide_eq_true j1
         have j4 : (m1 : Int) < (L.length : Int) := by omega
         have j5 : m1 < L.length := by omega
         have j6 : ¬ 0 ≤ z := by omega
         have j7 : decide (0 ≤ z) = false := decide_eq_false j6
         have j8 : (m1 : Int) + 1 < (L.length : Int) := by omega
         clear hcl hci hri hrow h0 hli hri2 hcj hrj hcs hlt hz hrow1 i1
         go_upto_region 27 with fail
         go_quiet ((go_at_call 13; exact Calls.quiet_of (unhide HCS _)))
         rename Nat => nq
         clear g1 g2 HCS hrl hrl2 hne hne2 j6 j7 hz0 hw4
         go_wp2
         go_roundw
         case rel => exact ⟨m1 + 1 + 1, by go_num, by omega, hb.trans ((Below.drewn nq).mono hsz)⟩
         case measure => simp only [intOf]; omega
     · have i1 : ¬ (i : Int) < (L.length : Int) := by omega
       rename World => wA
       have dA := d9.trans (hb.mono d9.size)
       obtain ⟨e0, e1, e2, e3⟩ := (unhide BC) wA dA
       clear hb hsz HS2 HS3 RL d9 d8 b00 hi hL0 hLl
       go_wp2_with fail
       refine (unhide HEX wA dA).mono ?_
       clear HEX
       rintro e w10 ⟨v10, u10', rfl, oc10, b10⟩
       obtain ⟨Mx10, _, o10, _, q10⟩ := oc10
       have o10 : Own w10 wA.heap.size v10 F.poly := o10
       have q10 : OwnS w10 Mx10 u10' E := q10
       obtain ⟨a10, c10, rfl, r10, _⟩ := o10.form
       obtain ⟨ra10, rc10, rfl, rs10⟩ := q10.form
       clear e0 e1 e2 e3 o10 q10
       obtain ⟨WE, hWE⟩ : ∃ z, z = w10.alloc (.cells #[.int .i64 F.p, .int .i64 F.k, .slice a10 F.poly.length c10, .slice ra10 E.length rc10] 36) := ⟨_, rfl⟩
       have bE : Below w10.heap.size w10 WE := by rw [hWE]; exact (Below.refl _ _).alloc (Nat.le_refl _) _
       have kE : Blk WE w10.heap.size 36 #[.int .i64 F.p, .int .i64 F.k, .slice a10 F.poly.length c10, .slice ra10 E.length rc10] := by rw [hWE]; exact Blk.new _ _ _ rfl
       have hWEx := Lib.hid hWE
       have dE := dA.trans ((b10.trans (bE.mono b10.size)).mono dA.size)
       have RE := hide (r10.below bE)
       have RSE := hide (rs10.below bE)
       have zE := kE.lt
       clear hWE r10 rs10 b10 bE
       go_upto_region 30 with fail
       rw [← hWEx.out]
       clear hWEx
       have e0 := kE.cell 0
       have e1 := kE.cell 1
       have e2 := kE.cell 2
       have e3 := kE.cell 3
       go_wp2_with fail
       refine (unhide HVL a10 c10 ra10 rc10 WE (unhide RE) (unhide RSE)).mono ?_
       clear HVL
       rintro e w11 ⟨rfl, b11⟩
       have k11 := kE.below b11 zE
       clear e0 e1 e2 e3
       have e0 := k11.cell 0
       have e1 := k11.cell 1
       have e2 := k11.cell 2
       have e3 := k11.cell 3
       go_wp2_with fail
       refine (unhide HWV a10 c10 ra10 rc10 w11 ((unhide RE).below b11) ((unhide RSE).below b11)).mono ?_
       clear HWV
       rintro e w12 ⟨v12, rfl, o12, b12⟩
       have d12 := dE.trans ((b11.trans (b12.mono b11.size)).mono dE.size)
       obtain ⟨wa, wc, rfl, rw12⟩ := o12.form
       have hWDl := rw12.len
       have RW := hide rw12
       clear o12 rw12 e0 e1 e2 e3 k11 kE RE RSE dE b11 b12 dA
       go_wp2_with fail
       go_loopw [24] (fun iv wr => ∃ i : Nat, iv = .int .i64 i ∧ i ≤ WD.length ∧ Below w12.heap.size w12 wr) (fun iv _ => WD.length - (intOf iv).toNat)
       case atStart => exact ⟨0, rfl, Nat.zero_le _, Below.refl _ _⟩
       case round =>
        obtain ⟨i, rfl, hi, hb⟩ := hrel
        rename World => wo
        have hsz := hb.size
        by_cases hil : i < WD.length
        · obtain ⟨gw, ow, rfl, hgw, hcw⟩ := (unhide RW).at_ (by omega)
          obtain ⟨ai, ci, hci, hri⟩ := hcw i hil
          obtain ⟨hl1, hel1, hsum1⟩ := unhide HSM (nthL WD i) (nthL_mem hil)
          obtain ⟨word, hword⟩ : ∃ word, word = nthL WD i := ⟨_, rfl⟩
          rw [← hword] at hci hri hl1 hel1 hsum1
          obtain ⟨nw, hnw⟩ : ∃ nw, nw = word.length := ⟨_, rfl⟩
          rw [← hl1] at hsum1
          rw [← hnw] at hci hsum1 hl1
          have HWC := hide hci
          have HRI := hide hri
          have HEL1 := hide hel1
          have HSUM := Lib.hid hsum1
          have HNW := Lib.hid hnw
          have hnw33 : nw ≤ 33 := by omega
          have i1 : (i : Int) < (WD.length : Int) := by omega
          have i1d : decide ((i : Int) < (WD.length : Int)) = true := decide_eq_true i1
          have i2d : decide (i < WD.length) = true := decide_eq_true hil
          clear hcw hci hri hel1 hsum1 hnw hword hl1
          go_wp2_with fail
          go_loopw [25, 26] (fun sv kv wr => ∃ k : Nat, kv = .int .i64 k ∧ sv = .int .i64 (F.sum (nth word) k) ∧ k ≤ nw ∧ Below w12.heap.size w12 wr) (fun _ kv _ => nw - (intOf kv).toNat)
          case atStart => exact ⟨0, rfl, rfl, Nat.zero_le _, hb⟩
          case round =>
           clear hb hsz
           obtain ⟨k, rfl, rfl, hk, hb⟩ := hrel
           have hsz := hb.size
           have e4 := (hb.cell (p := ⟨gw, ow + i, none⟩) hgw).trans (unhide HWC)
           by_cases hkn : k < nw
           · obtain ⟨gx, ox, rfl, hgx, hcx⟩ := (unhide HRI).at_ (by rw [← HNW.out]; omega)
             have e5 := (hb.cell (p := ⟨gx, ox + k, none⟩) hgx).trans (hcx k (by rw [← HNW.out]; exact hkn))
             have hxe := unhide HEL1 (nth word k) (nth_mem (by rw [← HNW.out]; exact hkn))
             have hse := unhide HEL word k
             have hsn : F.sum (nth word) (k + 1) = F.add (F.sum (nth word) k) (nth word k) := rfl
             obtain ⟨x, hx⟩ : ∃ x, x = nth word k := ⟨_, rfl⟩
             obtain ⟨sm, hsm⟩ : ∃ sm, sm = F.sum (nth word) k := ⟨_, rfl⟩
             rw [← hx] at e5 hxe hsn
             rw [← hsm] at hse hsn
             have dwr := d12.trans (hb.mono d12.size)
             have hzw := dwr.size
             have BY := hide (show ∀ V, Below wr.heap.size wr V → Below wr.heap.size wr V ∧ V.cell? ⟨w7.heap.size, 0, none⟩ = some (.int .i64 F.p) ∧ V.cell? ⟨w7.heap.size, 1, none⟩ = some (.int .i64 F.k) ∧ V.cell? ⟨w7.heap.size, 2, none⟩ = some (.slice a1 F.poly.length c1) ∧ V.cell? ⟨gw, ow + i, none⟩ = some (.slice (some ⟨gx, ox, none⟩) nw ci) ∧ V.cell? ⟨gx, ox + k, none⟩ = some (.int .i64 x) from fun V h => by
              obtain ⟨q0, q1, q2, _⟩ := (unhide BC) V (dwr.trans (h.mono hzw))
              exact ⟨h, q0, q1, q2, (h.cell (p := ⟨gw, ow + i, none⟩) (Nat.lt_of_lt_of_le hgw hsz)).trans e4, (h.cell (p := ⟨gx, ox + k, none⟩) (Nat.lt_of_lt_of_le hgx hsz)).trans e5⟩)
             have HF1 := hide (fun V (h : Below wr.heap.size wr V) => unhide HFA sm x V (dwr.trans (h.mono hzw)) hse hxe)
             have HSN := Lib.hid hsn
             have j1 : (k : Int) < (nw : Int) := by omega
             rw [← hsm]
             clear hcx hxe hse hsn hx hsm e5
             go_upto_region 40 with fail
             refine wp_region_noPanic ?_
             refine wp_region_ord (S := (fun V' => Below wr.heap.size wr V' ∧ V'.cell? ⟨w7.heap.size, 0, none⟩ = some (.int .i64 F.p) ∧ V'.cell? ⟨w7.heap.size, 1, none⟩ = some (.int .i64 F.k) ∧ V'.cell? ⟨w7.heap.size, 2, none⟩ = some (.slice a1 F.poly.length c1) ∧ V'.cell? ⟨gw, ow + i, none⟩ = some (.slice (some ⟨gx, ox, none⟩) nw ci) ∧ V'.cell? ⟨gx, ox + k, none⟩ = some (.int .i64 x))) [(true, 0), (true, 1), (true, 2), (true, 3), (true, 4), (true, 5), (true, 6), (true, 7), (true, 8), (true, 9), (false, 10), (true, 11)] (by kernel_rfl) (by kernel_rfl) (by kernel_rfl) rfl (fun _ _ _ _ _ h => h) ?_ (fun hHeld => ?_)
             · exact unhide BY _ (Below.refl _ _).drew
             refine SeqO.take (by rfl) (v := ?hv1) (by rfl) ?hy1 ?hr1
             case hy1 =>
              intro w hSw
              try dsimp only at hSw
              go_simp
              try (with_reducible rfl)
             try simp only [Act.put, List.setIfInBounds_toArray, List.set_cons_zero, List.set_cons_succ]
             refine SeqO.take (by rfl) (v := ?hv2) (by rfl) ?hy2 ?hr2
             case hy2 =>
              intro w hSw
              try dsimp only at hSw
              go_simp
              try (with_reducible rfl)
             try simp only [Act.put, List.setIfInBounds_toArray, List.set_cons_zero, List.set_cons_succ]
             refine SeqO.take (by rfl) (v := ?hv3) (by rfl) ?hy3 ?hr3
             case hy3 =>
              intro w hSw
              try dsimp only at hSw
              go_simp
              try (with_reducible rfl)
             try simp only [Act.put, List.setIfInBounds_toArray, List.set_cons_zero, List.set_cons_succ]
             refine SeqO.take (by rfl) (v := ?hv4) (by rfl) ?hy4 ?hr4
             case hy4 =>
              intro w hSw
              try dsimp only at hSw
              go_simp
              try (with_reducible rfl)
             try simp only [Act.put, List.setIfInBounds_toArray, List.set_cons_zero, List.set_cons_succ]
             refine SeqO.take (by rfl) (v := ?hv5) (by rfl) ?hy5 ?hr5
             case hy5 =>
              intro w hSw
              try dsimp only at hSw
              go_simp
              try (with_reducible rfl)
             try simp only [Act.put, List.setIfInBounds_toArray, List.set_cons_zero, List.set_cons_succ]
             refine SeqO.take (by rfl) (v := ?hv6) (by rfl) ?hy6 ?hr6
             case hy6 =>
              intro w hSw
              try dsimp only at hSw
              go_simp
              try (with_reducible rfl)
             try simp only [Act.put, List.setIfInBounds_toArray, List.set_cons_zero, List.set_cons_succ]
             refine SeqO.take (by rfl) (v := ?hv7) (by rfl) ?hy7 ?hr7
             case hy7 =>
              intro w hSw
              try dsimp only at hSw
              go_simp
              try (with_reducible rfl)
             try simp only [Act.put, List.setIfInBounds_toArray, List.set_cons_zero, List.set_cons_succ]
             refine SeqO.take (by rfl) (v := ?hv8) (by rfl) ?hy8 ?hr8
             case hy8 =>
              intro w hSw
              try dsimp only at hSw
              go_simp
              try (with_reducible rfl)
             try simp only [Act.put, List.setIfInBounds_toArray, List.set_cons_zero, List.set_cons_succ]
             refine SeqO.take (by rfl) (v := ?hv9) (by rfl) ?hy9 ?hr9
             case hy9 =>
              intro w hSw
              try dsimp only at hSw
              go_simp
              try (with_reducible rfl)
             try simp only [Act.put, List.setIfInBounds_toArray, List.set_cons_zero, List.set_cons_succ]
             refine SeqO.take (by rfl) (v := ?hv10) (by rfl) ?hy10 ?hr10
             case hy10 =>
              intro w hSw
              try dsimp only at hSw
              go_simp
              try (with_reducible rfl)
             try simp only [Act.put, List.setIfInBounds_toArray, List.set_cons_zero, List.set_cons_succ]
             refine SeqO.call (by rfl) (fun K hK => ?_)
             go_simp
             refine (unhide HF1 _ (And.left hHeld)).mono ?_
             rintro e wB ⟨rfl, bB⟩
             have dB := Below.chain (And.left hHeld) bB
             clear hHeld
             refine hK.out _ _ ?_ (fun hHeld => ?_)
             · exact unhide BY _ dB
             clear hK K
             try simp only [Act.put, List.setIfInBounds_toArray, List.set_cons_zero, List.set_cons_succ]
             refine SeqO.take (by rfl) (v := ?hv11) (by rfl) ?hy11 ?hr11
             case hy11 =>
              intro w hSw
              try dsimp only at hSw
              go_simp
              try (with_reducible rfl)
             try simp only [Act.put, List.setIfInBounds_toArray, List.set_cons_zero, List.set_cons_succ]
             refine SeqO.done (NoPanic.normal ?_)
             go_wp2
             go_roundw
             case rel => exact ⟨k + 1, by go_num, by rw [HSN.out], by omega, hb.trans (dB.mono hsz)⟩
             case measure => simp only [intOf]; omega
           · have hke : k = nw := by omega
             have hz0 : F.sum (nth word) k = 0 := by rw [hke]; exact HSUM.out
             have j1 : ¬ (k : Int) < (nw : Int) := by omega
             rw [hz0]
             clear hke hz0
             go_wp2
             go_roundw
             case rel => exact ⟨i + 1, by go_num, by omega, hb⟩
             case measure => simp only [intOf]; omega
        · have i1 : ¬ (i : Int) < (WD.length : Int) := by omega
          have dB := d12.trans (hb.mono d12.size)
          obtain ⟨e0, e1, e2, e3⟩ := (unhide BC) wo dB
          have hhu := unhide HHU wo dB
          clear hb hsz d12 RW HSM HFA HEL hi hWDl HHU
          by_cases hc0 : (hullRes F.p F.k F.poly m).2.2.2.2 = 0
          · obtain ⟨H, hr, hHC, hhas, hso1, hso2⟩ := (unhide HHL).2 hc0
            rw [hr] at hhu
            have HHUO := hide hhu
            have hch : ∀ k, k < H.length → ∀ A C V, Below W.heap.size W V → Rd V A (nthL H k) → Calls Tryz.prog 9 #[.agg #[.int .i64 F.p, .int .i64 F.k, .slice a1 F.poly.length c1, .slice ra m.length rc], .slice A (nthL H k).length C] V fun e w' => e = .returned (.bool true) ∧ Below V.heap.size V w' := fun k hk A C V h hv => by
             have := unhide HCH A C (nthL H k) V h hv
             rw [hhas k hk] at this
             exact this
            have hs1 := fun A C RA RC V (hA : Rd V A F.poly) (hR : RdS V RA H) => implSO_any F.p F.k A C F.poly RA RC H V hA hR hFI
            simp only [hso1] at hs1
            have hs2 := fun V (h : Below W.heap.size W V) => unhide HSO V h
            simp only [hso2] at hs2
            obtain ⟨β, hβ⟩ : ∃ β, β = decide (H.length = m.length) := ⟨_, rfl⟩
            simp only [← hβ] at hs2
            have hb1 : ((H.length : Int) == (m.length : Int)) = β := by rw [hβ, Bool.eq_iff_iff, beq_iff_eq, decide_eq_true_eq]; omega
            have hb2 : (H.length == m.length) = β := by rw [hβ, Bool.eq_iff_iff, beq_iff_eq, decide_eq_true_eq]
            have HCHH := hide hch
            have HS1 := hide hs1
            have HS2 := hide hs2
            have HB1 := Lib.hid hb1
            have HB2 := Lib.hid hb2
            clear hc0 hhu hr hHC hhas hso1 hso2 hch hs1 hs2 hβ hb1 hb2 HHL HSO HCH
            go_wp2_with fail
            refine (unhide HHUO).mono ?_
            clear HHUO
            rintro e w13 ⟨v13, u13', rfl, oc13, b13⟩
            obtain ⟨Mx13, _, o13, _, q13⟩ := oc13
            have o13 : Own w13 wo.heap.size v13 F.poly := o13
            have q13 : OwnS w13 Mx13 u13' H := q13
            obtain ⟨a13, c13, rfl, r13, _⟩ := o13.form
            obtain ⟨ra13, rc13, rfl, rs13⟩ := q13.form
            clear e0 e1 e2 e3 o13 q13
            obtain ⟨WH, hWH⟩ : ∃ z, z = w13.alloc (.cells #[.int .i64 F.p, .int .i64 F.k, .slice a13 F.poly.length c13, .slice ra13 H.length rc13] 36) := ⟨_, rfl⟩
            have bH : Below w13.heap.size w13 WH := by rw [hWH]; exact (Below.refl _ _).alloc (Nat.le_refl _) _
            have kH : Blk WH w13.heap.size 36 #[.int .i64 F.p, .int .i64 F.k, .slice a13 F.poly.length c13, .slice ra13 H.length rc13] := by rw [hWH]; exact Blk.new _ _ _ rfl
            have hWHx := Lib.hid hWH
            have dH := dB.trans ((b13.trans (bH.mono b13.size)).mono dB.size)
            have RH := hide (r13.below bH)
            have RSH := hide (rs13.below bH)
            have hHl := rs13.len
            have zH := kH.lt
            have hzH := dH.size
            have BZ := hide (show ∀ V, Below WH.heap.size WH V → Below WH.heap.size WH V ∧ (V.cell? ⟨w7.heap.size, 0, none⟩ = some (.int .i64 F.p) ∧ V.cell? ⟨w7.heap.size, 1, none⟩ = some (.int .i64 F.k) ∧ V.cell? ⟨w7.heap.size, 2, none⟩ = some (.slice a1 F.poly.length c1) ∧ V.cell? ⟨w7.heap.size, 3, none⟩ = some (.slice ra m.length rc)) ∧ V.cell? ⟨w13.heap.size, 0, none⟩ = some (.int .i64 F.p) ∧ V.cell? ⟨w13.heap.size, 1, none⟩ = some (.int .i64 F.k) ∧ V.cell? ⟨w13.heap.size, 2, none⟩ = some (.slice a13 F.poly.length c13) ∧ V.cell? ⟨w13.heap.size, 3, none⟩ = some (.slice ra13 H.length rc13) from fun V h => ⟨h, (unhide BC) V (dH.trans (h.mono hzH)), (kH.below h zH).cell 0, (kH.below h zH).cell 1, (kH.below h zH).cell 2, (kH.below h zH).cell 3⟩)
            clear hWH r13 rs13 b13 bH kH dB
            go_upto_region 44 with fail
            rw [← hWHx.out]
            clear hWHx
            go_wp2_with fail
            go_loopw [29] (fun iv wr => ∃ i : Nat, iv = .int .i64 i ∧ i ≤ H.length ∧ Below WH.heap.size WH wr) (fun iv _ => H.length - (intOf iv).toNat)
            case atStart => exact ⟨0, rfl, Nat.zero_le _, Below.refl _ _⟩
            case round =>
             obtain ⟨i, rfl, hi, hb⟩ := hrel
             have hsz := hb.size
             obtain ⟨_, _, _, _, _, e3⟩ := (unhide BZ) wr hb
             by_cases hil : i < H.length
             · obtain ⟨gh, oh, rfl, hgh, hcH⟩ := ((unhide RSH).below hb).at_ (by omega)
               obtain ⟨ai, ci, hci, hri⟩ := hcH i hil
               have HCH2 := hide (fun V (h : Below wr.heap.size wr V) => unhide HCHH i hil ai ci V (dH.trans ((hb.trans (h.mono hsz)).mono hzH)) (hri.below h))
               obtain ⟨row, hrow⟩ : ∃ row, row = nthL H i := ⟨_, rfl⟩
               rw [← hrow] at hci HCH2
               have BY := hide (show ∀ V, Below wr.heap.size wr V → Below wr.heap.size wr V ∧ (V.cell? ⟨w7.heap.size, 0, none⟩ = some (.int .i64 F.p) ∧ V.cell? ⟨w7.heap.size, 1, none⟩ = some (.int .i64 F.k) ∧ V.cell? ⟨w7.heap.size, 2, none⟩ = some (.slice a1 F.poly.length c1) ∧ V.cell? ⟨w7.heap.size, 3, none⟩ = some (.slice ra m.length rc)) ∧ V.cell? ⟨w13.heap.size, 3, none⟩ = some (.slice (some ⟨gh, oh, none⟩) H.length rc13) ∧ V.cell? ⟨gh, oh + i, none⟩ = some (.slice ai row.length ci) from fun V h => by
                obtain ⟨_, q0, _, _, _, q3⟩ := (unhide BZ) V (hb.trans (h.mono hsz))
                exact ⟨h, q0, q3, (h.cell (p := ⟨gh, oh + i, none⟩) hgh).trans hci⟩)
               have j1 : (i : Int) < (H.length : Int) := by omega
               clear hcH hri hrow hci
               go_upto_region 49 with fail
               refine wp_region_noPanic ?_
               refine wp_region_ord (S := (fun V' => Below wr.heap.size wr V' ∧ (V'.cell? ⟨w7.heap.size, 0, none⟩ = some (.int .i64 F.p) ∧ V'.cell? ⟨w7.heap.size, 1, none⟩ = some (.int .i64 F.k) ∧ V'.cell? ⟨w7.heap.size, 2, none⟩ = some (.slice a1 F.poly.length c1) ∧ V'.cell? ⟨w7.heap.size, 3, none⟩ = some (.slice ra m.length rc)) ∧ V'.cell? ⟨w13.heap.size, 3, none⟩ = some (.slice (some ⟨gh, oh, none⟩) H.length rc13) ∧ V'.cell? ⟨gh, oh + i, none⟩ = some (.slice ai row.length ci))) [(true, 0), (true, 1), (true, 2), (true, 3), (true, 4), (true, 5), (false, 6), (true, 7)] (by kernel_rfl) (by kernel_rfl) (by kernel_rfl) rfl (fun _ _ _ _ _ h => h) ?_ (fun hHeld => ?_)
               · exact unhide BY _ (Below.refl _ _).drew
               refine SeqO.take (by rfl) (v := ?hv12) (by rfl) ?hy12 ?hr12
               case hy12 =>
                intro w hSw
                try dsimp only at hSw
                go_simp
                try (with_reducible rfl)
               try simp only [Act.put, List.setIfInBounds_toArray, List.set_cons_zero, List.set_cons_succ]
               refine SeqO.take (by rfl) (v := ?hv13) (by rfl) ?hy13 ?hr13
               case hy13 =>
                intro w hSw
                try dsimp only at hSw
                go_simp
                try (with_reducible rfl)
               try simp only [Act.put, List.setIfInBounds_toArray, List.set_cons_zero, List.set_cons_succ]
               refine SeqO.take (by rfl) (v := ?hv14) (by rfl) ?hy14 ?hr14
               case hy14 =>
                intro w hSw
                try dsimp only at hSw
                go_simp
                try (with_reducible rfl)
               try simp only [Act.put, List.setIfInBounds_toArray, List.set_cons_zero, List.set_cons_succ]
               refine SeqO.take (by rfl) (v := ?hv15) (by rfl) ?hy15 ?hr15
               case hy15 =>
                intro w hSw
                try dsimp only at hSw
                go_simp
                try (with_reducible rfl)
               try simp only [Act.put, List.setIfInBounds_toArray, List.set_cons_zero, List.set_cons_succ]
               refine SeqO.take (by rfl) (v := ?hv16) (by rfl) ?hy16 ?hr16
               case hy16 =>
                intro w hSw
                try dsimp only at hSw
                go_simp
                try (with_reducible rfl)
               try simp only [Act.put, List.setIfInBounds_toArray, List.set_cons_zero, List.set_cons_succ]
               refine SeqO.take (by rfl) (v := ?hv17) (by rfl) ?hy17 ?hr17
               case hy17 =>
                intro w hSw
                try dsimp only at hSw
                go_simp
                try (with_reducible rfl)
               try simp only [Act.put, List.setIfInBounds_toArray, List.set_cons_zero, List.set_cons_succ]
               refine SeqO.call (by rfl) (fun K hK => ?_)
               go_simp
               refine (unhide HCH2 _ (And.left hHeld)).mono ?_
               rintro e wC ⟨rfl, bC⟩
               have dC := Below.chain (And.left hHeld) bC
               clear hHeld
               refine hK.out _ _ ?_ (fun hHeld => ?_)
               · exact unhide BY _ dC
               clear hK K
               try simp only [Act.put, List.setIfInBounds_toArray, List.set_cons_zero, List.set_cons_succ]
               refine SeqO.take (by rfl) (v := ?hv18) (by rfl) ?hy18 ?hr18
               case hy18 =>
                intro w hSw
                try dsimp only at hSw
                go_simp
                try (with_reducible rfl)
               try simp only [Act.put, List.setIfInBounds_toArray, List.set_cons_zero, List.set_cons_succ]
               refine SeqO.done (NoPanic.normal ?_)
               go_wp2
               go_roundw
               case rel => exact ⟨i + 1, by go_num, by omega, hb.trans (dC.mono hsz)⟩
               case measure => simp only [intOf]; omega
             · have j1 : ¬ (i : Int) < (H.length : Int) := by omega
               have HT1 := hide (fun V (h : Below wr.heap.size wr V) => unhide HS1 a13 c13 ra13 rc13 V ((unhide RH).below (hb.trans (h.mono hsz))) ((unhide RSH).below (hb.trans (h.mono hsz))))
               have HT2 := hide (fun V (h : Below wr.heap.size wr V) => unhide HS2 V (dH.trans ((hb.trans (h.mono hsz)).mono hzH)))
               have BY := hide (show ∀ V, Below wr.heap.size wr V → Below wr.heap.size wr V ∧ (V.cell? ⟨w7.heap.size, 0, none⟩ = some (.int .i64 F.p) ∧ V.cell? ⟨w7.heap.size, 1, none⟩ = some (.int .i64 F.k) ∧ V.cell? ⟨w7.heap.size, 2, none⟩ = some (.slice a1 F.poly.length c1) ∧ V.cell? ⟨w7.heap.size, 3, none⟩ = some (.slice ra m.length rc)) ∧ V.cell? ⟨w13.heap.size, 0, none⟩ = some (.int .i64 F.p) ∧ V.cell? ⟨w13.heap.size, 1, none⟩ = some (.int .i64 F.k) ∧ V.cell? ⟨w13.heap.size, 2, none⟩ = some (.slice a13 F.poly.length c13) ∧ V.cell? ⟨w13.heap.size, 3, none⟩ = some (.slice ra13 H.length rc13) from fun V h => by
                obtain ⟨_, q⟩ := (unhide BZ) V (hb.trans (h.mono hsz))
                exact ⟨h, q⟩)
               have hb1 := HB1.out
               have hb2 := HB2.out
               go_upto_region 51 with fail
               refine wp_region_noPanic ?_
               refine wp_region_ord (S := (fun V' => Below wr.heap.size wr V' ∧ (V'.cell? ⟨w7.heap.size, 0, none⟩ = some (.int .i64 F.p) ∧ V'.cell? ⟨w7.heap.size, 1, none⟩ = some (.int .i64 F.k) ∧ V'.cell? ⟨w7.heap.size, 2, none⟩ = some (.slice a1 F.poly.length c1) ∧ V'.cell? ⟨w7.heap.size, 3, none⟩ = some (.slice ra m.length rc)) ∧ V'.cell? ⟨w13.heap.size, 0, none⟩ = some (.int .i64 F.p) ∧ V'.cell? ⟨w13.heap.size, 1, none⟩ = some (.int .i64 F.k) ∧ V'.cell? ⟨w13.heap.size, 2, none⟩ = some (.slice a13 F.poly.length c13) ∧ V'.cell? ⟨w13.heap.size, 3, none⟩ = some (.slice ra13 H.length rc13))) [(true, 0), (false, 1), (true, 2), (true, 3), (true, 5), (true, 6), (true, 7), (true, 8), (true, 9), (true, 10), (true, 11), (false, 4), (true, 12), (true, 13), (true, 14)] (by kernel_rfl) (by kernel_rfl) (by kernel_rfl) rfl (fun _ _ _ _ _ h => h) ?_ (fun hHeld => ?_)
               · exact unhide BY _ (Below.refl _ _).drew
               refine SeqO.take (by rfl) (v := ?hv19) (by rfl) ?hy19 ?hr19
               case hy19 =>
                intro w hSw
                try dsimp only at hSw
                go_simp
                try (with_reducible rfl)
               try simp only [Act.put, List.setIfInBounds_toArray, List.set_cons_zero, List.set_cons_succ]
               refine SeqO.call (by rfl) (fun K hK => ?_)
               go_simp
               refine (unhide HT1 _ (And.left hHeld)).mono ?_
               rintro e wE ⟨rfl, bE⟩
               have dE := Below.chain (And.left hHeld) bE
               clear hHeld
               refine hK.out _ _ ?_ (fun hHeld => ?_)
               · exact unhide BY _ dE
               clear hK K
               try simp only [Act.put, List.setIfInBounds_toArray, List.set_cons_zero, List.set_cons_succ]
               refine SeqO.take (by rfl) (v := ?hv20) (by rfl) ?hy20 ?hr20
               case hy20 =>
                intro w hSw
                try dsimp only at hSw
                go_simp
                try (with_reducible rfl)
               try simp only [Act.put, List.setIfInBounds_toArray, List.set_cons_zero, List.set_cons_succ]
               refine SeqO.take (by rfl) (v := ?hv21) (by rfl) ?hy21 ?hr21
               case hy21 =>
                intro w hSw
                try dsimp only at hSw
                go_simp
                try (with_reducible rfl)
               try simp only [Act.put, List.setIfInBounds_toArray, List.set_cons_zero, List.set_cons_succ]
               refine SeqO.take (by rfl) (v := ?hv22) (by rfl) ?hy22 ?hr22
               case hy22 =>
                intro w hSw
                try dsimp only at hSw
                go_simp
                try (with_reducible rfl)
               try simp only [Act.put, List.setIfInBounds_toArray, List.set_cons_zero, List.set_cons_succ]
               refine SeqO.take (by rfl) (v := ?hv23) (by rfl) ?hy23 ?hr23
               case hy23 =>
                intro w hSw
                try dsimp only at hSw
                go_simp
                try (with_reducible rfl)
               try simp only [Act.put, List.setIfInBounds_toArray, List.set_cons_zero, List.set_cons_succ]
               refine SeqO.take (by rfl) (v := ?hv24) (by rfl) ?hy24 ?hr24
               case hy24 =>
                intro w hSw
                try dsimp only at hSw
                go_simp
                try (with_reducible rfl)
               try simp only [Act.put, List.setIfInBounds_toArray, List.set_cons_zero, List.set_cons_succ]
               refine SeqO.take (by rfl) (v := ?hv25) (by rfl) ?hy25 ?hr25
               case hy25 =>
                intro w hSw
                try dsimp only at hSw
                go_simp
                try (with_reducible rfl)
               try simp only [Act.put, List.setIfInBounds_toArray, List.set_cons_zero, List.set_cons_succ]
               refine SeqO.take (by rfl) (v := ?hv26) (by rfl) ?hy26 ?hr26
               case hy26 =>
                intro w hSw
                try dsimp only at hSw
                go_simp
                try (with_reducible rfl)
               try simp only [Act.put, List.setIfInBounds_toArray, List.set_cons_zero, List.set_cons_succ]
               refine SeqO.take (by rfl) (v := ?hv27) (by rfl) ?hy27 ?hr27
               case hy27 =>
                intro w hSw
                try dsimp only at hSw
                go_simp
                try (with_reducible rfl)
               try simp only [Act.put, List.setIfInBounds_toArray, List.set_cons_zero, List.set_cons_succ]
               refine SeqO.take (by rfl) (v := ?hv28) (by rfl) ?hy28 ?hr28
               case hy28 =>
                intro w hSw
                try dsimp only at hSw
                go_simp
                try (with_reducible rfl)
               try simp only [Act.put, List.setIfInBounds_toArray, List.set_cons_zero, List.set_cons_succ]
               refine SeqO.call (by rfl) (fun K hK => ?_)
               go_simp
               refine (unhide HT2 _ (And.left hHeld)).mono ?_
               rintro e wG ⟨rfl, bG⟩
               have dG := Below.chain (And.left hHeld) bG
               clear hHeld
               refine hK.out _ _ ?_ (fun hHeld => ?_)
               · exact unhide BY _ dG
               clear hK K
               try simp only [Act.put, List.setIfInBounds_toArray, List.set_cons_zero, List.set_cons_succ]
               refine SeqO.take (by rfl) (v := ?hv29) (by rfl) ?hy29 ?hr29
               case hy29 =>
                intro w hSw
                try dsimp only at hSw
                go_simp
                try (with_reducible rfl)
               try simp only [Act.put, List.setIfInBounds_toArray, List.set_cons_zero, List.set_cons_succ]
               refine SeqO.take (by rfl) (v := ?hv30) (by rfl) ?hy30 ?hr30
               case hy30 =>
                intro w hSw
                try dsimp only at hSw
                go_simp
                try (with_reducible rfl)
               try simp only [Act.put, List.setIfInBounds_toArray, List.set_cons_zero, List.set_cons_succ]
               refine SeqO.take (by rfl) (v := ?hv31) (by rfl) ?hy31 ?hr31
               case hy31 =>
                intro w hSw
                try dsimp only at hSw
                go_simp
                try (with_reducible rfl)
               try simp only [Act.put, List.setIfInBounds_toArray, List.set_cons_zero, List.set_cons_succ]
               refine SeqO.done (NoPanic.normal ?_)
               go_wp2
               go_ret
               refine ⟨ret_bool ?_, (unhide HDW).trans ((dH.trans ((hb.trans (dG.mono hsz)).mono hzH)).mono zW)⟩
               first | rfl | simp
          · have hr := (unhide HHL).1 hc0
            rw [hr] at hhu
            have HHUO := hide hhu
            clear hc0 hhu hr HHL
            go_wp2_with fail
            refine (unhide HHUO).mono ?_
            clear HHUO
            rintro e w13 ⟨v13, u13', rfl, oc13, b13⟩
            obtain ⟨Mx13, _, o13, _, q13⟩ := oc13
            obtain ⟨a13, c13, rfl, _, _⟩ := o13.form
            obtain ⟨ra13, rc13, rfl, _⟩ := q13.form
            clear o13 q13 e0 e1 e2 e3
            go_wp2
            go_ret
            exact ⟨ret_bool (by first | rfl | decide), (unhide HDW).trans (((dB.trans (b13.mono dB.size)).alloc (by have := b13.size; have := dB.size; omega) _).mono zW)⟩
theorem law_FnLinks (X Y : SB) (w : World) (hX : X.ok w) (hY : Y.ok w) :
    Calls Tryz.prog 3 #[X.val, Y.val] w fun e w' => e = .returned (.bool true) ∧ Below w.heap.size w w' :=
 walkFnLinks X.a Y.a X.c Y.c X.xs Y.xs w hX.1 hY.1 hX.2 hY.2
namespace fnLinks
open Go.ChangeShapes Go.WideShapes Go.ChangeAt
theorem lifted (os : Os) (started : os.Started) (H : Type) (enc : TypeId × Value → H) :
    ReturnsInHanded {} Tryz.checked os 3 .any (Rows.fnLinksSpec.pre6 enc Tryz.prog Tryz.f3 Rows.fnLinksRow.domain false) (Rows.fnLinksSpec.post enc Tryz.prog Tryz.f3 false true false false) := by
 refine returnsInHanded_of_change (C := Tryz.checked) ownKnob_none started (by kernel_rfl) Tryz.func3
  (ChangeSpec.witness6 (enc := enc) (C := Tryz.checked) false ⟨#[], #[.slice none 0 0, .slice none 0 0], []⟩ 8 (by kernel_rfl) (by kernel_rfl) (by kernel_rfl) (by kernel_rfl)) ?_
 intro W base args ds gs before hval0 hW _ _
 have hval : ∀ (j : Nat) t v, Tryz.f3.params[j]? = some t → args[j]? = some v → Value.okWide Tryz.prog W .any base t v := hval0
 have hW' := hW
 obtain ⟨p, q, hA0, hV, rfl, hfz, hnd⟩ := hW
 have hA : DataW.TrodAll enc Tryz.prog W 0 (fun _ => true) true Tryz.f3.params.toList args.toList ds p := hA0
 rw [Tryz.params3] at hA hval
 obtain ⟨v0, vs0, d0, ds0, p0, q0, hargs, rfl, rfl, h0, r0⟩ := trodAll_cons hA
 obtain ⟨v1, vs1, d1, ds1, p1, q1, rfl, rfl, rfl, h1, r1⟩ := trodAll_cons r0
 obtain ⟨rfl, rfl, rfl⟩ := trodAll_nil r1
 obtain rfl : args = #[v0, v1] := by cases args; simp_all
 obtain ⟨rfl, rfl⟩ := trodVars_none hV
 have k0 := h0
 have lt0 : ∀ x ∈ p0, x.block < W.heap.size := by obtain ⟨m, hm⟩ := k0; exact DataW.trod_lt m _ _ _ hm
 obtain ⟨X0, rfl, e0⟩ := open_sb (hval 0 22 v0 rfl rfl) h0
 have k1 := h1
 have lt1 : ∀ x ∈ p1, x.block < W.heap.size := by obtain ⟨m, hm⟩ := k1; exact DataW.trod_lt m _ _ _ hm
 obtain ⟨X1, rfl, e1⟩ := open_sb (hval 1 22 v1 rfl rfl) h1
 clear hA0 hval0
 refine (law_FnLinks X0  X1  W e0 e1).mono fun e W' ⟨he, bel⟩ => ?_
 subst he
 exact ⟨_, rfl, _, _, _, [], _, [], hW', trodAll_mk1 (shut_bool Tryz.underlying4 _), (trodAll_cons_mk (Below.trod laidOut_ok (by kernel_rfl) (of_decide_eq_true (by kernel_rfl)) k0 bel lt0) (trodAll_cons_mk (Below.trod laidOut_ok (by kernel_rfl) (of_decide_eq_true (by kernel_rfl)) k1 bel lt1) trodAll_mk0)), rfl, bel.frame _, fun h => by cases h⟩
theorem over : Rows.fnLinksRow.holds Tryz.pinned (OpenSpec.ofChange Rows.fnLinksSpec) :=
 OpenClaim.holds_of_wide 3 Tryz.f3 rfl rfl rfl rfl rfl rfl rfl ⟨rfl, rfl, rfl, rfl, rfl⟩ rfl rfl rfl rfl rfl (by kernel_rfl) Tryz.func3 (by kernel_rfl)
  (of_decide_eq_true (by kernel_rfl)) (by unfold Func.isWrapper; first | (rw [if_pos (by decide +kernel)]; kernel_rfl) | (rw [if_neg (by decide +kernel)]; exact ⟨rfl, rfl⟩))
  (fun os started H enc _ => lifted os started H enc)
theorem proved : Rows.FnLinksSaid := over
end fnLinks
end Go.Proofs.YtkiljcbejmiioaaGreat
