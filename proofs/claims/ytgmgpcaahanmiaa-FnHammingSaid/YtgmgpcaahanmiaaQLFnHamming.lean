/-
  Proved: FnHamming returns true for every input and leaves its arguments as they were. No condition. Printed by gen_lhm.py.
-/
import Derived.Test.YtgmgpcaahanmiaaH5
import Derived.Test.YtgmgpcaahanmiaaH18
import Derived.Test.YtgmgpcaahanmiaaH19
import Derived.Test.YtgmgpcaahanmiaaH20
import Derived.Test.YtgmgpcaahanmiaaH22
set_option linter.unusedVariables false
set_option linter.unusedSimpArgs false
set_option maxRecDepth 100000
set_option maxHeartbeats 40000000
namespace Go.Proofs.Ytgmgpcaahanmiaa
open Go.RowKit
attribute [local go_sem ↓] Go.wp_at_zero Go.wp_at_succ
theorem walkFnHamming (a : Option Addr) (c : Nat) (bs : List Int) (w0 : World) (hxl : bs.length ≤ maxLen) (hx : bs.length ≤ 1048576 → RdB w0 a bs) :
    Calls Try.prog 6 #[.slice a bs.length c] w0 fun e w' => e = .returned (.bool true) ∧ Below w0.heap.size w0 w' := by
 have HLX := hide (b10Long_any a c bs.length w0 hxl)
 clear hxl
 by_cases hl : 1048576 < bs.length
 · rw [show decide (1048576 < bs.length) = true from decide_eq_true hl] at HLX
   clear hl hx
   go_enter Try.func6, Try.ntmps6
   go_wp2_with fail
   refine (unhide HLX).mono ?_
   rintro e w1 ⟨rfl, rfl⟩
   go_wp2
   go_ret
   exact ⟨rfl, Below.refl _ _⟩
 rw [show decide (1048576 < bs.length) = false from decide_eq_false hl] at HLX
 have HX := hide (hx (by omega))
 clear hx hl
 go_enter Try.func6, Try.ntmps6
 go_wp2_with fail
 refine (unhide HLX).mono ?_
 rintro e w1 ⟨rfl, rfl⟩
 clear HLX
 go_wp2_with fail
 refine (drawHC_any a c bs w0 (unhide HX)).mono ?_
 rintro e w1 ⟨q, r, rfl, hq1, hq2, hr1, hr2, b1⟩
 clear HX
 have hsr := implSC_any q r w1
 have hhr := fun V => implHC_any q r V
 cases hk : (isField q && colsOk q r) with
 | false =>
  obtain ⟨hs0, hh0⟩ := ham_none hk
  rw [hs0] at hsr
  rw [hh0] at hhr
  have HSR := hide hsr
  have HHR := hide hhr
  clear hsr hhr hk hs0 hh0
  go_wp2_with fail
  refine (unhide HSR).mono ?_
  rintro e w2 ⟨v2, u2, rfl, o2, b2⟩
  have o2 : OwnC w2 w1.heap.size v2 u2 [] [] := o2
  obtain ⟨A2, C2, RA2, RC2, rfl, rfl, _, _⟩ := o2.form
  have d2 := Below.chain b1 b2
  clear o2
  obtain ⟨W2, hW2⟩ : ∃ z, z = w2.alloc (.cells #[.int .i64 0, .int .i64 0, .slice A2 0 C2, .slice RA2 0 RC2] 37) := ⟨_, rfl⟩
  have bW2 : Below w2.heap.size w2 W2 := by rw [hW2]; exact (Below.refl _ _).alloc (Nat.le_refl _) _
  have HW2 := Lib.hid hW2
  clear hW2
  go_upto_region 5 with fail
  rw [← HW2.out]
  go_wp2_with fail
  refine (unhide HHR _).mono ?_
  rintro e w3 ⟨v3, u3, rfl, o3, b3⟩
  have o3 : OwnC w3 W2.heap.size v3 u3 [] [] := o3
  obtain ⟨A3, C3, RA3, RC3, rfl, rfl, _, _⟩ := o3.form
  have d3 := Below.chain (Below.chain d2 bW2) b3
  clear o3
  obtain ⟨W3, hW3⟩ : ∃ z, z = w3.alloc (.cells #[.int .i64 0, .int .i64 0, .slice A3 0 C3, .slice RA3 0 RC3] 37) := ⟨_, rfl⟩
  have bW3 : Below w3.heap.size w3 W3 := by rw [hW3]; exact (Below.refl _ _).alloc (Nat.le_refl _) _
  have k3 : Blk W3 w3.heap.size 37 #[.int .i64 0, .int .i64 0, .slice A3 0 C3, .slice RA3 0 RC3] := by rw [hW3]; exact Blk.new _ _ _ rfl
  have e3 := k3.cell 3
  have HW3 := Lib.hid hW3
  clear hW3
  go_upto_region 15 with fail
  rw [← HW3.out]
  go_wp2
  go_ret
  exact ⟨rfl, Below.chain d3 bW3⟩
 | true =>
  obtain ⟨F, R, n, A, N, hO⟩ := ham_law hk
  have hG := hO.good
  have ok := hG.ok
  obtain ⟨n2, n64⟩ := ok.n_bd
  have hp2 := ok.p2
  have hp64 := ok.p64
  have hk6 := ok.k6
  have hkI : I64 (F.k : Int) := ⟨by omega, by omega⟩
  have hR2 := hO.r2
  have hR4 := hO.r4
  have hn3 := hO.n3
  have hn32 := hO.n32
  rw [hO.sim] at hsr
  rw [hO.ham] at hhr
  have hqq := hO.hq
  have hrr := hO.hr
  subst hqq
  subst hrr
  have hhv := hO.heavy
  have HO := hide hO
  have HKI := hide hkI
  have HHR := hide hhr
  clear hO hkI hhr hk
  by_cases hs : (mkC F A).2.2.2.2 = 0
  · obtain ⟨hS, hAl, hWr, hWl, hW0, hWh⟩ := (unhide HO).simOk hs
    rw [hS] at hsr
    have HSR := hide hsr
    have HS := Lib.hid hS
    have HAL := Lib.hid hAl
    have HWR := Lib.hid hWr
    have HWL0 := Lib.hid hWl
    have HW00 := Lib.hid hW0
    have HWH0 := Lib.hid hWh
    clear hsr hs hS hAl hWr hWl hW0 hWh
    go_wp2_with fail
    refine (unhide HSR).mono ?_
    rintro e w2 ⟨v2, u2, rfl, o2, b2⟩
    have o2 : OwnC w2 w1.heap.size v2 u2 F.poly A := o2
    obtain ⟨A2, C2, RA2, RC2, rfl, rfl, r2, rs2⟩ := o2.form
    clear o2
    obtain ⟨W3, hW3⟩ : ∃ z, z = w2.alloc (.cells #[.int .i64 F.p, .int .i64 F.k, .slice A2 F.poly.length C2, .slice RA2 A.length RC2] 37) := ⟨_, rfl⟩
    have b3 : Below w2.heap.size w2 W3 := by rw [hW3]; exact (Below.refl _ _).alloc (Nat.le_refl _) _
    have kS : Blk W3 w2.heap.size 37 #[.int .i64 F.p, .int .i64 F.k, .slice A2 F.poly.length C2, .slice RA2 A.length RC2] := by rw [hW3]; exact Blk.new _ _ _ rfl
    have hW3x := Lib.hid hW3
    clear hW3
    go_upto_region 5 with fail
    rw [← hW3x.out]
    have d3 := Below.chain b1 (Below.chain b2 b3)
    have hgS := kS.lt
    have R3 := hide (r2.below b3)
    have RS3 := hide (rs2.below b3)
    have hwt := implWT_any F.p F.k A2 C2 F.poly RA2 RC2 A W3 (unhide R3) (unhide RS3) (unhide HKI)
    have hWl := HWL0.out
    have hW0 := HW00.out
    have hWh := HWH0.out
    rw [HWR.out] at hwt
    obtain ⟨ws, hws⟩ : ∃ ws, ws = wts F n A := ⟨_, rfl⟩
    rw [← hws] at hwt hWl hW0 hWh
    have HWT := hide hwt
    have HWL := Lib.hid hWl
    have HW0 := Lib.hid hW0
    have HWH := Lib.hid hWh
    have e0 := kS.cell 0
    have e1 := kS.cell 1
    have e2 := kS.cell 2
    have e3 := kS.cell 3
    clear hwt hws hWl hW0 hWh r2 rs2
    go_wp2_with fail
    refine (unhide HWT).mono ?_
    rintro e w4 ⟨v4, rfl, o4, b4⟩
    have o4 : Own w4 W3.heap.size v4 ws := o4
    obtain ⟨g4, c4, rfl, _, hg4, _, _⟩ := o4.at_len (n := n + 1) HWL.out (by omega)
    have k4 := kS.below b4 hgS
    have hgS4 := k4.lt
    have d4 := Below.chain d3 b4
    have RZ := hide ((unhide R3).below b4)
    have RSZ := hide ((unhide RS3).below b4)
    have HO4 := Lib.hid o4
    have hpm : ∀ i, i ≤ R - 1 → F.n ^ i ≤ 32 := fun i hi => Nat.le_trans (Nat.pow_le_pow_right (by omega) hi) (Nat.le_trans hhv hn32)
    have HPM := hide hpm
    clear e0 e1 e2 e3 o4 hpm
    go_wp2_with fail
    go_loopw [9, 10] (fun hv iv wr => ∃ (i h : Nat), iv = .int .i64 i ∧ hv = .int .i64 h ∧ 1 ≤ i ∧ i ≤ R ∧ h ≤ 32 ∧ Hid (h = F.n ^ (i - 1)) ∧ wr = w4) (fun _ iv _ => R - (intOf iv).toNat)
    case atStart => exact ⟨1, 1, rfl, rfl, Nat.le_refl _, by omega, by omega, by show 1 = F.n ^ (1 - 1); rw [Nat.sub_self, Nat.pow_zero], rfl⟩
    case round =>
     obtain ⟨i, h, rfl, rfl, hi1, hiR, hh32, hhe, rfl⟩ := hrel
     by_cases hil : i < R
     · have hst : F.n ^ (i + 1 - 1) = h * F.n := by rw [hhe.out, ← Nat.pow_succ]; congr 1; omega
       have hle := unhide HPM (i + 1 - 1) (by omega)
       rw [hst] at hle
       have HST := Lib.hid hst
       have hcast : ((h * F.n : Nat) : Int) = (h : Int) * (F.n : Int) := Int.natCast_mul _ _
       have hb0 : 0 ≤ (h : Int) * (F.n : Int) := by omega
       have hb1 : (h : Int) * (F.n : Int) ≤ 32 := by omega
       have HC := Lib.hid hcast
       clear hst hcast
       go_wp2_with fail
       go_roundw
       case rel => exact ⟨i + 1, h * F.n, by go_num, by rw [HC.out], by omega, by omega, hle, by show _ = _; rw [HST.out], trivial⟩
       case measure => simp only [intOf]; omega
     · have hie : i = R := by omega
       have hH : h = F.n ^ (R - 1) := by rw [hhe.out, hie]
       have hhn : h ≤ n := by rw [hH]; exact hhv
       have hh0 := HWH.out
       rw [← hH] at hh0
       have ck0 := HO4.out.cell (j := 0) (by rw [HWL.out]; omega)
       rw [HW0.out] at ck0
       have ckh := HO4.out.cell (j := h) (by rw [HWL.out]; omega)
       rw [hh0] at ckh
       have hAR : ((A.length : Int) != (R : Int)) = false := by rw [HAL.out]; simp
       have hlt : ¬ (((n + 1 : Nat) : Int) ≤ (h : Int)) := by omega
       have hlt2 : ¬ ((n : Int) + 1 ≤ (h : Int)) := by omega
       have hprod : (F.n : Int) * (h : Int) ≤ 2048 := by
        have h1 : ((F.n * h : Nat) : Int) = (F.n : Int) * (h : Int) := Int.natCast_mul _ _
        have h2 : F.n * h ≤ 64 * 32 := Nat.mul_le_mul n64 hh32
        omega
       have hprod0 : 0 ≤ (F.n : Int) * (h : Int) := by
        have h1 : ((F.n * h : Nat) : Int) = (F.n : Int) * (h : Int) := Int.natCast_mul _ _
        omega
       have hwq : ((F.n : Int) * (h : Int) - 1 != (F.n : Int) * (h : Int) - 1) = false := by simp
       have hhl : h < n + 1 := by omega
       have hn0 : 0 < n + 1 := by omega
       have kSz := k4
       have hgSz := hgS4
       have e0 := kSz.cell 0
       have e1 := kSz.cell 1
       have e2 := kSz.cell 2
       have e3 := kSz.cell 3
       have hbz := d4
       obtain ⟨wz, hwz⟩ : ∃ wz, wz = wr := ⟨_, rfl⟩
       subst hwz
       clear hie hhe hH hh0
       go_wp2_with fail
       refine (unhide HHR _).mono ?_
       rintro e w5 ⟨v5, u5, rfl, o5, b5⟩
       by_cases hh : (mkC F N).2.2.2.2 = 0
       · obtain ⟨hN, hD, hP, hDu⟩ := (unhide HO).hamOk hh
         rw [hN] at o5 ⊢
         have o5 : OwnC w5 wz.heap.size v5 u5 F.poly N := o5
         obtain ⟨A5, C5, RA5, RC5, rfl, rfl, r5, rs5⟩ := o5.form
         have HN := Lib.hid hN
         have HD := Lib.hid hD
         have HP := Lib.hid hP
         have HDU := Lib.hid hDu
         clear o5 hh hN hD hP hDu
         obtain ⟨W6, hW6⟩ : ∃ z, z = w5.alloc (.cells #[.int .i64 F.p, .int .i64 F.k, .slice A5 F.poly.length C5, .slice RA5 N.length RC5] 37) := ⟨_, rfl⟩
         have b6 : Below w5.heap.size w5 W6 := by rw [hW6]; exact (Below.refl _ _).alloc (Nat.le_refl _) _
         have kH : Blk W6 w5.heap.size 37 #[.int .i64 F.p, .int .i64 F.k, .slice A5 F.poly.length C5, .slice RA5 N.length RC5] := by rw [hW6]; exact Blk.new _ _ _ rfl
         have hW6x := Lib.hid hW6
         clear hW6
         go_upto_region 15 with fail
         rw [← hW6x.out]
         have d6 := Below.chain b5 b6
         have hgH := kH.lt
         have R6 := hide (r5.below b6)
         have RS6 := hide (rs5.below b6)
         have hdi := implDI_any F.p F.k A5 C5 F.poly RA5 RC5 N W6 (unhide R6) (unhide RS6) (unhide HKI)
         rw [HD.out] at hdi
         have HDI := hide hdi
         have hpf := fun V (h : Below W6.heap.size W6 V) => implPF_any F.p F.k A5 C5 F.poly RA5 RC5 N V ((unhide R6).below h) ((unhide RS6).below h) (unhide HKI)
         rw [HP.out] at hpf
         have HPF := hide hpf
         have hdc := fun V (h : Below W6.heap.size W6 V) => implDC_any F.p F.k A5 C5 F.poly RA5 RC5 N V ((unhide R6).below h) ((unhide RS6).below h) (unhide HKI)
         rw [HDU.out] at hdc
         have HDC := hide hdc
         have e0 := kH.cell 0
         have e1 := kH.cell 1
         have e2 := kH.cell 2
         have e3 := kH.cell 3
         clear hdi hpf hdc r5 rs5
         go_wp2_with fail
         refine (unhide HDI).mono ?_
         rintro e w7 ⟨rfl, b7⟩
         have k7 := kH.below b7 hgH
         have e0 := k7.cell 0
         have e1 := k7.cell 1
         have e2 := k7.cell 2
         have e3 := k7.cell 3
         go_wp2_with fail
         refine (unhide HPF _ b7).mono ?_
         rintro e w8 ⟨rfl, b8⟩
         have d8 := Below.chain b7 b8
         have k8 := kH.below d8 hgH
         have e0 := k8.cell 0
         have e1 := k8.cell 1
         have e2 := k8.cell 2
         have e3 := k8.cell 3
         go_wp2_with fail
         refine (unhide HDC _ d8).mono ?_
         rintro e w9 ⟨v9, u9, rfl, o9, b9⟩
         have d9 := Below.chain d6 (Below.chain d8 b9)
         clear e0 e1 e2 e3 k7 k8 kH
         rw [HS.out] at o9 ⊢
         have o9 : OwnC w9 w8.heap.size v9 u9 F.poly A := o9
         obtain ⟨A9, C9, RA9, RC9, rfl, rfl, r9, rs9⟩ := o9.form
         clear o9
         obtain ⟨W10, hW10⟩ : ∃ z, z = w9.alloc (.cells #[.int .i64 F.p, .int .i64 F.k, .slice A9 F.poly.length C9, .slice RA9 A.length RC9] 37) := ⟨_, rfl⟩
         have b10 : Below w9.heap.size w9 W10 := by rw [hW10]; exact (Below.refl _ _).alloc (Nat.le_refl _) _
         have kU : Blk W10 w9.heap.size 37 #[.int .i64 F.p, .int .i64 F.k, .slice A9 F.poly.length C9, .slice RA9 A.length RC9] := by rw [hW10]; exact Blk.new _ _ _ rfl
         have hW10x := Lib.hid hW10
         clear hW10
         go_upto_region 20 with fail
         rw [← hW10x.out]
         have d10 := d9.trans (b10.mono d9.size)
         have kS10 := kSz.below d10 hgSz
         have f0 := kU.cell 0
         have f1 := kU.cell 1
         have f2 := kU.cell 2
         have f3 := kU.cell 3
         have e0 := kS10.cell 0
         have e1 := kS10.cell 1
         have e2 := kS10.cell 2
         have e3 := kS10.cell 3
         have hsc := implSameCode_any F.p F.k F.p F.k A9 A2 RA9 RA2 C9 C2 RC9 RC2 F.poly F.poly A A W10 (r9.below b10) ((unhide RZ).below d10) (rs9.below b10) ((unhide RSZ).below d10)
         rw [sameC_self] at hsc
         have HSC := hide hsc
         clear hsc r9 rs9
         go_wp2_with fail
         refine (unhide HSC).mono ?_
         rintro e w11 ⟨rfl, b11⟩
         go_wp2
         go_ret
         exact ⟨rfl, Below.chain (Below.chain hbz d10) b11⟩
       · have hry := mkC_err hh
         obtain ⟨yp, yd, yl, yA, yc, hYR⟩ : ∃ p d l A c, mkC F N = (p, d, l, A, c) := ⟨_, _, _, _, _, rfl⟩
         rw [hYR] at o5 hh hry ⊢
         have hyc : yc ≠ 0 := hh
         have hyA : yA = [] := hry
         subst hyA
         have hyne : (yc != 0) = true := by rw [bne_iff_ne]; exact hyc
         have o5 : OwnC w5 wz.heap.size v5 u5 yl [] := o5
         obtain ⟨A5, C5, RA5, RC5, rfl, rfl, r5, rs5⟩ := o5.form
         clear o5 hYR hh hry
         obtain ⟨W6, hW6⟩ : ∃ z, z = w5.alloc (.cells #[.int .i64 yp, .int .i64 yd, .slice A5 yl.length C5, .slice RA5 0 RC5] 37) := ⟨_, rfl⟩
         have b6 : Below w5.heap.size w5 W6 := by rw [hW6]; exact (Below.refl _ _).alloc (Nat.le_refl _) _
         have kH : Blk W6 w5.heap.size 37 #[.int .i64 yp, .int .i64 yd, .slice A5 yl.length C5, .slice RA5 0 RC5] := by rw [hW6]; exact Blk.new _ _ _ rfl
         have hW6x := Lib.hid hW6
         clear hW6
         go_upto_region 15 with fail
         rw [← hW6x.out]
         have e3 := kH.cell 3
         go_wp2
         go_ret
         exact ⟨rfl, Below.chain hbz (Below.chain b5 b6)⟩
  · obtain ⟨sp, sd, sl, sA, sc, hSRR⟩ : ∃ p d l Z c, mkC F A = (p, d, l, Z, c) := ⟨_, _, _, _, _, rfl⟩
    rw [hSRR] at hsr hs
    have hsc : sc ≠ 0 := hs
    have hsce : (sc == 0) = false := by rw [beq_eq_false_iff_ne]; exact hsc
    have hsne : (sc != 0) = true := by rw [bne_iff_ne]; exact hsc
    have HSR := hide hsr
    clear hsr hs hSRR
    go_wp2_with fail
    refine (unhide HSR).mono ?_
    rintro e w2 ⟨v2, u2, rfl, o2, b2⟩
    have o2 : OwnC w2 w1.heap.size v2 u2 sl sA := o2
    obtain ⟨A2, C2, RA2, RC2, rfl, rfl, r2, rs2⟩ := o2.form
    clear o2 r2 rs2
    obtain ⟨wz, hW3⟩ : ∃ z, z = w2.alloc (.cells #[.int .i64 sp, .int .i64 sd, .slice A2 sl.length C2, .slice RA2 sA.length RC2] 37) := ⟨_, rfl⟩
    have b3 : Below w2.heap.size w2 wz := by rw [hW3]; exact (Below.refl _ _).alloc (Nat.le_refl _) _
    have kS : Blk wz w2.heap.size 37 #[.int .i64 sp, .int .i64 sd, .slice A2 sl.length C2, .slice RA2 sA.length RC2] := by rw [hW3]; exact Blk.new _ _ _ rfl
    have hW3x := Lib.hid hW3
    clear hW3
    go_upto_region 5 with fail
    rw [← hW3x.out]
    have hbz := Below.chain b1 (Below.chain b2 b3)
    clear kS
    go_wp2_with fail
    refine (unhide HHR _).mono ?_
    rintro e w5 ⟨v5, u5, rfl, o5, b5⟩
    by_cases hh : (mkC F N).2.2.2.2 = 0
    · obtain ⟨hN, hD, hP, hDu⟩ := (unhide HO).hamOk hh
      rw [hN] at o5 ⊢
      have o5 : OwnC w5 wz.heap.size v5 u5 F.poly N := o5
      obtain ⟨A5, C5, RA5, RC5, rfl, rfl, r5, rs5⟩ := o5.form
      have HN := Lib.hid hN
      have HD := Lib.hid hD
      have HP := Lib.hid hP
      have HDU := Lib.hid hDu
      clear o5 hh hN hD hP hDu
      obtain ⟨W6, hW6⟩ : ∃ z, z = w5.alloc (.cells #[.int .i64 F.p, .int .i64 F.k, .slice A5 F.poly.length C5, .slice RA5 N.length RC5] 37) := ⟨_, rfl⟩
      have b6 : Below w5.heap.size w5 W6 := by rw [hW6]; exact (Below.refl _ _).alloc (Nat.le_refl _) _
      have kH : Blk W6 w5.heap.size 37 #[.int .i64 F.p, .int .i64 F.k, .slice A5 F.poly.length C5, .slice RA5 N.length RC5] := by rw [hW6]; exact Blk.new _ _ _ rfl
      have hW6x := Lib.hid hW6
      clear hW6
      go_upto_region 15 with fail
      rw [← hW6x.out]
      have d6 := Below.chain b5 b6
      have hgH := kH.lt
      have R6 := hide (r5.below b6)
      have RS6 := hide (rs5.below b6)
      have hdi := implDI_any F.p F.k A5 C5 F.poly RA5 RC5 N W6 (unhide R6) (unhide RS6) (unhide HKI)
      rw [HD.out] at hdi
      have HDI := hide hdi
      have hpf := fun V (h : Below W6.heap.size W6 V) => implPF_any F.p F.k A5 C5 F.poly RA5 RC5 N V ((unhide R6).below h) ((unhide RS6).below h) (unhide HKI)
      rw [HP.out] at hpf
      have HPF := hide hpf
      have hdc := fun V (h : Below W6.heap.size W6 V) => implDC_any F.p F.k A5 C5 F.poly RA5 RC5 N V ((unhide R6).below h) ((unhide RS6).below h) (unhide HKI)
      rw [HDU.out] at hdc
      have HDC := hide hdc
      have e0 := kH.cell 0
      have e1 := kH.cell 1
      have e2 := kH.cell 2
      have e3 := kH.cell 3
      clear hdi hpf hdc r5 rs5
      go_wp2_with fail
      refine (unhide HDI).mono ?_
      rintro e w7 ⟨rfl, b7⟩
      have k7 := kH.below b7 hgH
      have e0 := k7.cell 0
      have e1 := k7.cell 1
      have e2 := k7.cell 2
      have e3 := k7.cell 3
      go_wp2_with fail
      refine (unhide HPF _ b7).mono ?_
      rintro e w8 ⟨rfl, b8⟩
      have d8 := Below.chain b7 b8
      have k8 := kH.below d8 hgH
      have e0 := k8.cell 0
      have e1 := k8.cell 1
      have e2 := k8.cell 2
      have e3 := k8.cell 3
      go_wp2_with fail
      refine (unhide HDC _ d8).mono ?_
      rintro e w9 ⟨v9, u9, rfl, o9, b9⟩
      have d9 := Below.chain d6 (Below.chain d8 b9)
      clear e0 e1 e2 e3 k7 k8 kH
      obtain ⟨yp, yd, yl, yA, yc, hYR⟩ : ∃ p d l Z c, mkC F A = (p, d, l, Z, c) := ⟨_, _, _, _, _, rfl⟩
      rw [hYR] at o9 ⊢
      have o9 : OwnC w9 w8.heap.size v9 u9 yl yA := o9
      obtain ⟨A9, C9, RA9, RC9, rfl, rfl, r9, rs9⟩ := o9.form
      clear o9 hYR
      have hbf := Below.chain hbz d9
      go_wp2
      go_ret
      exact ⟨rfl, hbf.trans ((Below.refl _ _).alloc hbf.size _)⟩
    · have hry := mkC_err hh
      obtain ⟨yp, yd, yl, yA, yc, hYR⟩ : ∃ p d l A c, mkC F N = (p, d, l, A, c) := ⟨_, _, _, _, _, rfl⟩
      rw [hYR] at o5 hh hry ⊢
      have hyc : yc ≠ 0 := hh
      have hyA : yA = [] := hry
      subst hyA
      have hyne : (yc != 0) = true := by rw [bne_iff_ne]; exact hyc
      have o5 : OwnC w5 wz.heap.size v5 u5 yl [] := o5
      obtain ⟨A5, C5, RA5, RC5, rfl, rfl, r5, rs5⟩ := o5.form
      clear o5 hYR hh hry
      obtain ⟨W6, hW6⟩ : ∃ z, z = w5.alloc (.cells #[.int .i64 yp, .int .i64 yd, .slice A5 yl.length C5, .slice RA5 0 RC5] 37) := ⟨_, rfl⟩
      have b6 : Below w5.heap.size w5 W6 := by rw [hW6]; exact (Below.refl _ _).alloc (Nat.le_refl _) _
      have kH : Blk W6 w5.heap.size 37 #[.int .i64 yp, .int .i64 yd, .slice A5 yl.length C5, .slice RA5 0 RC5] := by rw [hW6]; exact Blk.new _ _ _ rfl
      have hW6x := Lib.hid hW6
      clear hW6
      go_upto_region 15 with fail
      rw [← hW6x.out]
      have e3 := kH.cell 3
      go_wp2
      go_ret
      exact ⟨rfl, Below.chain hbz (Below.chain b5 b6)⟩
theorem law_FnHamming (X : SB) (w : World) (hX : X.ok w) :
    Calls Try.prog 6 #[X.val] w fun e w' => e = .returned (.bool true) ∧ Below w.heap.size w w' :=
 walkFnHamming X.a X.c X.xs w hX.1 hX.2
namespace fnHamming
open Go.ChangeShapes Go.WideShapes Go.ChangeAt
theorem lifted (os : Os) (started : os.Started) (H : Type) (enc : TypeId × Value → H) :
    ReturnsInHanded {} Try.checked os 6 .any (Rows.fnHammingSpec.pre6 enc Try.prog Try.f6 Rows.fnHammingRow.domain false) (Rows.fnHammingSpec.post enc Try.prog Try.f6 false true false false) := by
 refine returnsInHanded_of_change (C := Try.checked) ownKnob_none started (by kernel_rfl) Try.func6
  (ChangeSpec.witness6 (enc := enc) (C := Try.checked) false ⟨#[], #[.slice none 0 0], []⟩ 8 (by kernel_rfl) (by kernel_rfl) (by kernel_rfl) (by kernel_rfl)) ?_
 intro W base args ds gs before hval0 hW _ _
 have hval : ∀ (j : Nat) t v, Try.f6.params[j]? = some t → args[j]? = some v → Value.okWide Try.prog W .any base t v := hval0
 have hW' := hW
 obtain ⟨p, q, hA0, hV, rfl, hfz, hnd⟩ := hW
 have hA : DataW.TrodAll enc Try.prog W 0 (fun _ => true) true Try.f6.params.toList args.toList ds p := hA0
 rw [Try.params6] at hA hval
 obtain ⟨v0, vs0, d0, ds0, p0, q0, hargs, rfl, rfl, h0, r0⟩ := trodAll_cons hA
 obtain ⟨rfl, rfl, rfl⟩ := trodAll_nil r0
 obtain rfl : args = #[v0] := by cases args; simp_all
 obtain ⟨rfl, rfl⟩ := trodVars_none hV
 have k0 := h0
 have lt0 : ∀ x ∈ p0, x.block < W.heap.size := by obtain ⟨m, hm⟩ := k0; exact DataW.trod_lt m _ _ _ hm
 obtain ⟨X0, rfl, e0⟩ := open_sb (hval 0 29 v0 rfl rfl) h0
 clear hA0 hval0
 refine (law_FnHamming X0  W e0).mono fun e W' ⟨he, bel⟩ => ?_
 subst he
 exact ⟨_, rfl, _, _, _, [], _, [], hW', trodAll_mk1 (shut_bool Try.underlying4 _), (trodAll_cons_mk (Below.trod laidOut_ok (by kernel_rfl) (of_decide_eq_true (by kernel_rfl)) k0 bel lt0) trodAll_mk0), rfl, bel.frame _, fun h => by cases h⟩
theorem over : Rows.fnHammingRow.holds Try.pinned (OpenSpec.ofChange Rows.fnHammingSpec) :=
 OpenClaim.holds_of_wide 6 Try.f6 rfl rfl rfl rfl rfl rfl rfl ⟨rfl, rfl, rfl, rfl, rfl⟩ rfl rfl rfl rfl rfl (by kernel_rfl) Try.func6 (by kernel_rfl)
  (of_decide_eq_true (by kernel_rfl)) (by unfold Func.isWrapper; first | (rw [if_pos (by decide +kernel)]; kernel_rfl) | (rw [if_neg (by decide +kernel)]; exact ⟨rfl, rfl⟩))
  (fun os started H enc _ => lifted os started H enc)
theorem proved : Rows.FnHammingSaid := over
end fnHamming
end Go.Proofs.Ytgmgpcaahanmiaa
