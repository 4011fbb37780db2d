/-
  Proved: FnMacWilliams returns true for every input and leaves its arguments as they were. No condition. Printed by gen_lmw.py.
-/
import Derived.Test.YtgmgpcaahanmiaaM16
import Derived.Test.YtgmgpcaahanmiaaM18
import Derived.Test.YtgmgpcaahanmiaaM19
import Derived.Test.YtgmgpcaahanmiaaM20
import Derived.Test.YtgmgpcaahanmiaaM22
set_option linter.unusedVariables false
set_option linter.unusedSimpArgs false
set_option maxRecDepth 100000
set_option maxHeartbeats 40000000
namespace Go.Proofs.Ytgmgpcaahanmiaa
open Go.RowKit
attribute [local go_sem ↓] Go.wp_at_zero Go.wp_at_succ
theorem walkFnMacWilliams (a : Option Addr) (c : Nat) (xs : List Int) (w0 : World) (hxl : xs.length ≤ maxLen) (hx : xs.length ≤ 1048576 → RdB w0 a xs) :
    Calls Try.prog 10 #[.slice a xs.length c] w0 fun e w' => e = .returned (.bool true) ∧ Below w0.heap.size w0 w' := by
 by_cases hl : 1048576 < xs.length
 · clear hx
   go_enter Try.func10, Try.ntmps10
   go_wp2
   go_ret
   exact ⟨rfl, Below.refl _ _⟩
 have HX := hide (hx (by omega))
 clear hx
 have hl2 : ¬ 1048576 < (xs.length : Int) := by omega
 go_enter Try.func10, Try.ntmps10
 go_wp2_with fail
 refine (V8Code_any a c xs w0 (unhide HX)).mono ?_
 rintro e w1 ⟨⟨F, n, m, v1, u1, rfl, hC, o1, q1⟩, b1⟩
 have hG := hC.good
 have ok := hG.ok
 obtain ⟨n2, n64⟩ := ok.n_bd
 have hp2 := ok.p2
 have hp64 := ok.p64
 have hk6 := ok.k6
 have hm1 := hC.m1
 have hm8 := hC.m8
 have hn1 := hC.n1
 have hn32 := hC.n32
 obtain ⟨a1, c1, rfl, r1, _⟩ := o1.form
 obtain ⟨ra, rc, rfl, rs1⟩ := q1.form
 have HC := hide hC
 clear hl hl2 hxl
 obtain ⟨W, hW⟩ : ∃ z, z = w1.alloc (.cells #[.int .i64 F.p, .int .i64 F.k, .slice a1 F.poly.length c1, .slice ra m.length rc] 37) := ⟨_, rfl⟩
 have bW : Below w1.heap.size w1 W := by rw [hW]; exact (Below.refl _ _).alloc (Nat.le_refl _) _
 have kC : Blk W w1.heap.size 37 #[.int .i64 F.p, .int .i64 F.k, .slice a1 F.poly.length c1, .slice ra m.length rc] := by rw [hW]; exact Blk.new _ _ _ rfl
 have hWx := Lib.hid hW
 clear hW
 go_upto_region 4 with fail
 rw [← hWx.out]
 have r := r1.below bW
 have rs := rs1.below bW
 have hgC := kC.lt
 have hb0 := Below.chain b1 bW
 have z0 := hb0.size
 have zC := bW.size
 obtain ⟨gb, ob, rfl, hgb, hcb⟩ := rs.at_ (by omega : 0 < m.length)
 obtain ⟨ai, ci, hc0, _⟩ := hcb 0 (by omega)
 rw [hC.hn, Nat.add_zero] at hc0
 have boxes : ∀ W', Below W.heap.size W W' → (Below W.heap.size W W' ∧ W'.cell? ⟨w1.heap.size, 0, none⟩ = some (.int .i64 F.p) ∧ W'.cell? ⟨w1.heap.size, 1, none⟩ = some (.int .i64 F.k) ∧ W'.cell? ⟨w1.heap.size, 2, none⟩ = some (.slice a1 F.poly.length c1) ∧ W'.cell? ⟨w1.heap.size, 3, none⟩ = some (.slice (some ⟨gb, ob, none⟩) m.length rc) ∧ W'.cell? ⟨gb, ob, none⟩ = some (.slice ai n ci)) := fun W' h => ⟨h, (kC.below h hgC).cell 0, (kC.below h hgC).cell 1, (kC.below h hgC).cell 2, (kC.below h hgC).cell 3, (h.cell (p := ⟨gb, ob, none⟩) hgb).trans hc0⟩
 have BX := hide boxes
 have R := hide r
 have RS := hide rs
 have hkI : I64 (F.k : Int) := ⟨by omega, by omega⟩
 have HKI := hide hkI
 clear boxes r rs r1 rs1 o1 q1 kC hcb hc0 bW b1 hkI HX hC
 have b00 := Below.refl W.heap.size W
 obtain ⟨_, e0, e1, e2, e3, e4⟩ := (unhide BX) _ b00
 obtain ⟨hwl, hw0, hd1, hdn, hwd, hwz, hwsum⟩ := wts_law (unhide HC)
 have hwb := wts_bd (unhide HC)
 have hsb := sumTo_bd hwb
 have hwt := implWT_any F.p F.k a1 c1 F.poly (some ⟨gb, ob, none⟩) rc m W (unhide R) (unhide RS) (unhide HKI)
 rw [wts_res (unhide HC)] at hwt
 have hmw : (dwRes F.p F.k F.poly m).2 = 0 → GC F n (nul F m n) → dwRes F.p F.k F.poly m = (wts F n (nul F m n), 0) := fun h0 hN => by
  rcases mac_dw (unhide HC) hN with h | h
  · exact h
  · rw [h0] at h; cases h
 have hcap : F.n ^ m.length ≤ 4096 := (unhide HC).cap_eq.2
 obtain ⟨ws, hws⟩ : ∃ ws, ws = wts F n m := ⟨_, rfl⟩
 obtain ⟨D, hD⟩ : ∃ D, D = distC F n m := ⟨_, rfl⟩
 rw [← hws] at hwl hw0 hwd hwz hwsum hwb hsb hwt
 rw [← hD] at hd1 hdn hwd hwz
 have HWT := hide hwt
 have HMW := hide hmw
 have HWL := Lib.hid hwl
 have HW0 := Lib.hid hw0
 have HWD := Lib.hid hwd
 have HWZ := Lib.hid hwz
 have HWS := Lib.hid hwsum
 have HWB := Lib.hid hwb
 have HSB := Lib.hid hsb
 have HDD := Lib.hid hD
 have HWW := Lib.hid hws
 clear hwt hmw hwl hw0 hwd hwz hwsum hwb hsb hD hws
 go_wp2_with fail
 refine (unhide HWT).mono ?_
 rintro e w2 ⟨v2, rfl, o2, b2⟩
 have o2 : Own w2 W.heap.size v2 ws := o2
 obtain ⟨g2, c2, rfl, _, hg2, _, _⟩ := o2.at_len (n := n + 1) HWL.out (by omega)
 have O2 := Lib.hid o2
 have hwo := implWO_any F.p F.k a1 c1 F.poly (some ⟨gb, ob, none⟩) rc m w2 ((unhide R).below b2) ((unhide RS).below b2) (unhide HKI)
 rw [wo_res (unhide HC)] at hwo
 have HWO := hide hwo
 clear o2 hwo e0 e1 e2 e3 e4
 obtain ⟨_, e0, e1, e2, e3, e4⟩ := (unhide BX) _ b2
 go_wp2_with fail
 refine (unhide HWO).mono ?_
 rintro e w3 ⟨v3, rfl, o3, b3⟩
 have o3 : OwnS w3 w2.heap.size v3 (wordsTo F n m m.length) := o3
 obtain ⟨A3, C3, rfl, _⟩ := o3.form
 rw [wordsTo_len]
 have d3 := Below.chain b2 b3
 have hdi := implDI_any F.p F.k a1 c1 F.poly (some ⟨gb, ob, none⟩) rc m w3 ((unhide R).below d3) ((unhide RS).below d3) (unhide HKI)
 rw [dist_res (unhide HC), ← HDD.out] at hdi
 have HDI := hide hdi
 clear o3 hdi e0 e1 e2 e3 e4
 obtain ⟨_, e0, e1, e2, e3, e4⟩ := (unhide BX) _ d3
 go_wp2_with fail
 refine (unhide HDI).mono ?_
 rintro e w4 ⟨rfl, b4⟩
 have d4 := Below.chain d3 b4
 have O4 := Lib.hid (O2.out.below (b3.trans (b4.mono b3.size)) (Nat.le_refl _))
 have ck0 := O4.out.cell (j := 0) (by rw [HWL.out]; omega)
 have ckd := O4.out.cell (j := D) (by rw [HWL.out]; omega)
 rw [HW0.out] at ck0
 obtain ⟨xd, hxd⟩ : ∃ x, x = nth ws D := ⟨_, rfl⟩
 rw [← hxd] at ckd
 have hxd0 : (xd == 0) = false := by rw [beq_eq_false_iff_ne, hxd]; exact HWD.out
 have hle1 : (((n + 1 : Nat) : Int) != (n : Int) + 1) = false := by simp
 have hD1 : ¬ (D : Int) < 1 := by omega
 have hDn : ¬ (((n + 1 : Nat) : Int) ≤ (D : Int)) := by omega
 have hDl : D < n + 1 := by omega
 have hn0 : 0 < n + 1 := by omega
 clear hxd e0 e1 e2 e3 e4
 obtain ⟨_, e0, e1, e2, e3, e4⟩ := (unhide BX) _ d4
 go_wp2_with fail
 clear e0 e1 e2 e3 e4 ckd ck0
 have S0 := Lib.hid (show sumTo (nth ws) 0 = 0 from rfl)
 go_loopw [9, 10] (fun sv iv wr => ∃ (i : Nat) (s : Int), iv = .int .i64 i ∧ sv = .int .i64 s ∧ i ≤ n + 1 ∧ Hid (s = sumTo (nth ws) i) ∧ wr = w4) (fun _ iv _ => n + 1 - (intOf iv).toNat)
 case atStart => exact ⟨0, 0, rfl, rfl, Nat.zero_le _, rfl, rfl⟩
 case round =>
  obtain ⟨i, s, rfl, rfl, hi, hs, rfl⟩ := hrel
  by_cases hil : i < n + 1
  · have ck := O4.out.cell (j := i) (by rw [HWL.out]; exact hil)
    have hxb := HWB.out i
    have hsb := HSB.out i
    rw [← hs.out] at hsb
    have hst : sumTo (nth ws) (i + 1) = s + nth ws i := by rw [sumTo, hs.out]
    have hz := HWZ.out i
    obtain ⟨x, hx⟩ : ∃ x, x = nth ws i := ⟨_, rfl⟩
    rw [← hx] at ck hxb hst hz
    have HST := Lib.hid hst
    clear hx hst
    by_cases hi0 : 0 < i
    · have hi0' : (0 : Int) < (i : Int) := by omega
      by_cases hiD : i < D
      · have hx0 := hz (by omega) hiD
        subst hx0
        clear hz
        have hiD' : (i : Int) < (D : Int) := by omega
        go_wp2_with fail
        go_roundw
        case rel => exact ⟨i + 1, s, by go_num, rfl, by omega, by show _ = _; rw [HST.out, Int.add_zero], trivial⟩
        case measure => simp only [intOf]; omega
      · have hiD' : ¬ (i : Int) < (D : Int) := by omega
        clear hz
        go_wp2_with fail
        go_roundw
        case rel => exact ⟨i + 1, s + x, by go_num, rfl, by omega, by show _ = _; rw [HST.out], trivial⟩
        case measure => simp only [intOf]; omega
    · have hi0' : ¬ (0 : Int) < (i : Int) := by omega
      clear hz
      go_wp2_with fail
      go_roundw
      case rel => exact ⟨i + 1, s + x, by go_num, rfl, by omega, by show _ = _; rw [HST.out], trivial⟩
      case measure => simp only [intOf]; omega
  · have hie : i = n + 1 := by omega
    have hsF : s = ((F.n ^ m.length : Nat) : Int) := by rw [hs.out, hie, HWS.out]
    have hsne : (s != ((F.n ^ m.length : Nat) : Int)) = false := by rw [hsF]; simp
    have hsne2 : (s != (F.n : Int) ^ m.length) = false := by rw [hsF, Int.natCast_pow]; simp
    have hsF2 : s = (F.n : Int) ^ m.length := by rw [hsF, Int.natCast_pow]
    obtain ⟨z, hz⟩ : ∃ z, z = F.n ^ m.length := ⟨_, rfl⟩
    have hsz : s = (z : Int) := by rw [hz, hsF]
    rw [← hz]
    subst hsz
    have hdw := implDW_any F.p F.k a1 c1 F.poly (some ⟨gb, ob, none⟩) rc m wr ((unhide R).below d4) ((unhide RS).below d4) (unhide HKI)
    have HDW := hide hdw
    clear hdw hie hsF hsF2 hsne hsne2 hs
    obtain ⟨_, e0, e1, e2, e3, e4⟩ := (unhide BX) _ d4
    obtain ⟨dl, dc, hdlc⟩ : ∃ l c, dwRes F.p F.k F.poly m = (l, c) := ⟨_, _, rfl⟩
    have hdc := dw_code (unhide HC)
    rw [hdlc] at hdc HDW
    have hdc : dc = 0 ∨ dc = 2 := hdc
    go_wp2_with fail
    refine (unhide HDW).mono ?_
    rintro e w5 ⟨v5, rfl, o5, b5⟩
    have o5 : Own w5 wr.heap.size v5 dl := o5
    obtain ⟨a5, c5, rfl, r5, _⟩ := o5.form
    have d5 := Below.chain d4 b5
    have hdr := implDC_any F.p F.k a1 c1 F.poly (some ⟨gb, ob, none⟩) rc m w5 ((unhide R).below d5) ((unhide RS).below d5) (unhide HKI)
    have HDC := Lib.hid hdlc
    clear o5 e0 e1 e2 e3 e4 hdlc HDW
    obtain ⟨_, e0, e1, e2, e3, e4⟩ := (unhide BX) _ d5
    by_cases hc : (dualRes F.p F.k F.poly m).2.2.2.2 = 0
    · obtain ⟨hN, hNC⟩ := dual_nul (unhide HC) hc
      obtain ⟨N, hNN⟩ : ∃ N, N = nul F m n := ⟨_, rfl⟩
      rw [← hNN] at hN hNC
      have HNN := Lib.hid hNN
      clear hNN
      rw [hN] at hdr
      have HDR := hide hdr
      clear hdr hc hN
      go_wp2_with fail
      refine (unhide HDR).mono ?_
      rintro e w6 ⟨v6, u6, rfl, o6, b6⟩
      have o6 : OwnC w6 w5.heap.size v6 u6 F.poly N := o6
      obtain ⟨A6, C6, RA6, RC6, rfl, rfl, r6, rs6⟩ := o6.form
      clear o6 e0 e1 e2 e3 e4
      obtain ⟨W7, hW7⟩ : ∃ z, z = w6.alloc (.cells #[.int .i64 F.p, .int .i64 F.k, .slice A6 F.poly.length C6, .slice RA6 N.length RC6] 37) := ⟨_, rfl⟩
      have b7 : Below w6.heap.size w6 W7 := by rw [hW7]; exact (Below.refl _ _).alloc (Nat.le_refl _) _
      have kD : Blk W7 w6.heap.size 37 #[.int .i64 F.p, .int .i64 F.k, .slice A6 F.poly.length C6, .slice RA6 N.length RC6] := by rw [hW7]; exact Blk.new _ _ _ rfl
      have hW7x := Lib.hid hW7
      clear hW7
      go_upto_region 20 with fail
      rw [← hW7x.out]
      have d7 := Below.chain d5 (Below.chain b6 b7)
      have hgD := kD.lt
      have hb7 := Below.chain hb0 d7
      rcases hdc with rfl | rfl
      · have hwN : dl = wts F n N := by
          have := (unhide HMW) (by rw [HDC.out]) (by rw [← HNN.out]; exact hNC)
          rw [HDC.out, ← HNN.out] at this
          exact (Prod.mk.inj this).1
        have hwt := implWT_any F.p F.k A6 C6 F.poly RA6 RC6 N W7 (r6.below b7) (rs6.below b7) (unhide HKI)
        rw [wts_res hNC, ← hwN] at hwt
        have HWT2 := hide hwt
        have R7 := hide (r5.below (Below.chain b6 b7))
        have e0 := kD.cell 0
        have e1 := kD.cell 1
        have e2 := kD.cell 2
        have e3 := kD.cell 3
        clear hwt hwN r6 rs6 hNC r5
        go_wp2_with fail
        refine (unhide HWT2).mono ?_
        rintro e w8 ⟨v8, rfl, o8, b8⟩
        have o8 : Own w8 W7.heap.size v8 dl := o8
        obtain ⟨a8, c8, rfl, r8, _⟩ := o8.form
        have heq := v8Same_any a5 a8 c5 c8 dl dl w8 ((unhide R7).below b8) r8
        rw [show decide (dl = dl) = true from decide_eq_true rfl] at heq
        have HEQ := hide heq
        have hb8 := Below.chain hb7 b8
        clear heq o8 r8 e0 e1 e2 e3
        go_wp2_with fail
        refine (unhide HEQ).mono ?_
        rintro e w9 ⟨rfl, t9⟩
        go_wp2
        go_ret
        exact ⟨rfl, Below.chain hb8 (t9.below _)⟩
      · go_wp2
        go_ret
        exact ⟨rfl, hb7⟩
    · obtain ⟨yp, yd, yl, yA, yc, hYR⟩ : ∃ p d l A c, dualRes F.p F.k F.poly m = (p, d, l, A, c) := ⟨_, _, _, _, _, rfl⟩
      rw [hYR] at hdr hc
      have hyc : yc ≠ 0 := hc
      have hyne : (yc != 0) = true := by rw [bne_iff_ne]; exact hyc
      have HDR := hide hdr
      clear hdr hc hYR
      go_wp2_with fail
      refine (unhide HDR).mono ?_
      rintro e w6 ⟨v6, u6, rfl, o6, b6⟩
      have o6 : OwnC w6 w5.heap.size v6 u6 yl yA := o6
      obtain ⟨A6, C6, RA6, RC6, rfl, rfl, r6, rs6⟩ := o6.form
      clear o6 e0 e1 e2 e3 e4
      obtain ⟨W7, hW7⟩ : ∃ z, z = w6.alloc (.cells #[.int .i64 yp, .int .i64 yd, .slice A6 yl.length C6, .slice RA6 yA.length RC6] 37) := ⟨_, rfl⟩
      have b7 : Below w6.heap.size w6 W7 := by rw [hW7]; exact (Below.refl _ _).alloc (Nat.le_refl _) _
      have kD : Blk W7 w6.heap.size 37 #[.int .i64 yp, .int .i64 yd, .slice A6 yl.length C6, .slice RA6 yA.length RC6] := by rw [hW7]; exact Blk.new _ _ _ rfl
      have hW7x := Lib.hid hW7
      clear hW7
      go_upto_region 20 with fail
      rw [← hW7x.out]
      have d7 := Below.chain d5 (Below.chain b6 b7)
      have hb7 := Below.chain hb0 d7
      rcases hdc with rfl | rfl
      · go_wp2
        go_ret
        exact ⟨rfl, hb7⟩
      · go_wp2
        go_ret
        exact ⟨rfl, hb7⟩
theorem law_FnMacWilliams (X : SB) (w : World) (hX : X.ok w) :
    Calls Try.prog 10 #[X.val] w fun e w' => e = .returned (.bool true) ∧ Below w.heap.size w w' :=
 walkFnMacWilliams X.a X.c X.xs w hX.1 hX.2
namespace fnMacWilliams
open Go.ChangeShapes Go.WideShapes Go.ChangeAt
theorem lifted (os : Os) (started : os.Started) (H : Type) (enc : TypeId × Value → H) :
    ReturnsInHanded {} Try.checked os 10 .any (Rows.fnMacWilliamsSpec.pre6 enc Try.prog Try.f10 Rows.fnMacWilliamsRow.domain false) (Rows.fnMacWilliamsSpec.post enc Try.prog Try.f10 false true false false) := by
 refine returnsInHanded_of_change (C := Try.checked) ownKnob_none started (by kernel_rfl) Try.func10
  (ChangeSpec.witness6 (enc := enc) (C := Try.checked) false ⟨#[], #[.slice none 0 0], []⟩ 8 (by kernel_rfl) (by kernel_rfl) (by kernel_rfl) (by kernel_rfl)) ?_
 intro W base args ds gs before hval0 hW _ _
 have hval : ∀ (j : Nat) t v, Try.f10.params[j]? = some t → args[j]? = some v → Value.okWide Try.prog W .any base t v := hval0
 have hW' := hW
 obtain ⟨p, q, hA0, hV, rfl, hfz, hnd⟩ := hW
 have hA : DataW.TrodAll enc Try.prog W 0 (fun _ => true) true Try.f10.params.toList args.toList ds p := hA0
 rw [Try.params10] at hA hval
 obtain ⟨v0, vs0, d0, ds0, p0, q0, hargs, rfl, rfl, h0, r0⟩ := trodAll_cons hA
 obtain ⟨rfl, rfl, rfl⟩ := trodAll_nil r0
 obtain rfl : args = #[v0] := by cases args; simp_all
 obtain ⟨rfl, rfl⟩ := trodVars_none hV
 have k0 := h0
 have lt0 : ∀ x ∈ p0, x.block < W.heap.size := by obtain ⟨m, hm⟩ := k0; exact DataW.trod_lt m _ _ _ hm
 obtain ⟨X0, rfl, e0⟩ := open_sb (hval 0 29 v0 rfl rfl) h0
 clear hA0 hval0
 refine (law_FnMacWilliams X0  W e0).mono fun e W' ⟨he, bel⟩ => ?_
 subst he
 exact ⟨_, rfl, _, _, _, [], _, [], hW', trodAll_mk1 (shut_bool Try.underlying4 _), (trodAll_cons_mk (Below.trod laidOut_ok (by kernel_rfl) (of_decide_eq_true (by kernel_rfl)) k0 bel lt0) trodAll_mk0), rfl, bel.frame _, fun h => by cases h⟩
theorem over : Rows.fnMacWilliamsRow.holds Try.pinned (OpenSpec.ofChange Rows.fnMacWilliamsSpec) :=
 OpenClaim.holds_of_wide 10 Try.f10 rfl rfl rfl rfl rfl rfl rfl ⟨rfl, rfl, rfl, rfl, rfl⟩ rfl rfl rfl rfl rfl (by kernel_rfl) Try.func10 (by kernel_rfl)
  (of_decide_eq_true (by kernel_rfl)) (by unfold Func.isWrapper; first | (rw [if_pos (by decide +kernel)]; kernel_rfl) | (rw [if_neg (by decide +kernel)]; exact ⟨rfl, rfl⟩))
  (fun os started H enc _ => lifted os started H enc)
theorem proved : Rows.FnMacWilliamsSaid := over
end fnMacWilliams
end Go.Proofs.Ytgmgpcaahanmiaa
