/-
  Proved: FnCorrected returns true for every input and leaves its arguments as they were. No condition. Printed by gen_lco.py.
-/
import Derived.Test.YtgmgpcaahanmiaaH18
import Derived.Test.YtgmgpcaahanmiaaH19
import Derived.Test.YtgmgpcaahanmiaaH20
import Derived.Test.YtgmgpcaahanmiaaH22
set_option linter.unusedVariables false
set_option linter.unusedSimpArgs false
set_option maxRecDepth 100000
set_option maxHeartbeats 40000000
namespace Go.Proofs.Ytgmgpcaahanmiaa
open Go.RowKit
attribute [local go_sem ↓] Go.wp_at_zero Go.wp_at_succ
theorem walkFnCorrected (a : Option Addr) (c : Nat) (bs : List Int) (w0 : World) (hxl : bs.length ≤ maxLen) (hx : bs.length ≤ 1048576 → RdB w0 a bs) :
    Calls Try.prog 4 #[.slice a bs.length c] w0 fun e w' => e = .returned (.bool true) ∧ Below w0.heap.size w0 w' := by
 have HLX := hide (b10Long_any a c bs.length w0 hxl)
 clear hxl
 by_cases hl : 1048576 < bs.length
 · rw [show decide (1048576 < bs.length) = true from decide_eq_true hl] at HLX
   clear hl hx
   go_enter Try.func4, Try.ntmps4
   go_wp2_with fail
   refine (unhide HLX).mono ?_
   rintro e w1 ⟨rfl, rfl⟩
   go_wp2
   go_ret
   exact ⟨rfl, Below.refl _ _⟩
 rw [show decide (1048576 < bs.length) = false from decide_eq_false hl] at HLX
 have HX := hide (hx (by omega))
 clear hx hl
 go_enter Try.func4, Try.ntmps4
 go_wp2_with fail
 refine (unhide HLX).mono ?_
 rintro e w1 ⟨rfl, rfl⟩
 clear HLX
 go_wp2_with fail
 refine (drawCO_any a c bs w0 (unhide HX)).mono ?_
 rintro e w1 ⟨q, r, v1, word, rfl, o1, b1⟩
 obtain ⟨a1, c1, rfl, r1, _⟩ := o1.form
 have hwl := r1.len
 have hco := implCO_any q r a1 c1 word w1 r1
 have R1 := hide r1
 clear o1 r1 HX
 by_cases hc : (corRes q r word).2 = 0
 · obtain ⟨F, x, hx, hxl, hap, hxx, hG, hham⟩ := cor_law hc
   have hp2 := hG.ok.p2
   have hp64 := hG.ok.p64
   have hk6 := hG.ok.k6
   rw [hx] at hco
   have HCO := hide hco
   have HXL := Lib.hid hxl
   have HAP := Lib.hid hap
   have HXX := Lib.hid hxx
   have HHAM := hide hham
   clear hco hc hx hxl hap hxx hham
   go_wp2_with fail
   refine (unhide HCO).mono ?_
   rintro e w2 ⟨v2, rfl, o2, b2⟩
   have o2 : Own w2 w1.heap.size v2 x := o2
   obtain ⟨a2, c2, rfl, r2, _⟩ := o2.form
   rw [HXL.out]
   have hd2 := Below.chain b1 b2
   have R2 := hide r2
   have R12 := hide ((unhide R1).below b2)
   have hnn : ((word.length : Int) != (word.length : Int)) = false := by simp
   clear o2 r2
   go_wp2_with fail
   go_loopw [8, 9] (fun mv iv wr => ∃ (i k : Nat), iv = .int .i64 i ∧ mv = .int .i64 k ∧ i ≤ word.length ∧ k ≤ i ∧ Hid (k = apartTo x word i) ∧ Qt w2 wr) (fun _ iv _ => word.length - (intOf iv).toNat)
   case atStart => exact ⟨0, 0, rfl, rfl, Nat.zero_le _, Nat.le_refl _, rfl, Qt.refl _⟩
   case round =>
    obtain ⟨i, k, rfl, rfl, hi, hki, hk, hq⟩ := hrel
    by_cases hil : i < word.length
    · have hb := hq.below w2.heap.size
      obtain ⟨g1, o1, rfl, _, hcx⟩ := ((unhide R2).below hb).at_ (by rw [HXL.out]; omega)
      obtain ⟨g2, o2, rfl, _, hcy⟩ := ((unhide R12).below hb).at_ (by omega)
      have h1 := hcx i (by rw [HXL.out]; exact hil)
      have h2 := hcy i hil
      have hst : apartTo x word (i + 1) = if nth x i = nth word i then apartTo x word i else apartTo x word i + 1 := rfl
      rw [← hk.out] at hst
      obtain ⟨u, hu⟩ : ∃ u, u = nth x i := ⟨_, rfl⟩
      obtain ⟨v, hv⟩ : ∃ v, v = nth word i := ⟨_, rfl⟩
      rw [← hu] at h1 hst
      rw [← hv] at h2 hst
      have HST := Lib.hid hst
      clear hcx hcy hst hu hv
      by_cases hn : u = v
      · have hbn : (u != v) = false := by rw [bne_eq_false_iff_eq]; exact hn
        have HN := Lib.hid hn
        clear hn
        go_upto_region 13 with fail
        go_quiet (fail)
        go_wp2
        go_roundw
        case rel => exact ⟨i + 1, k, by go_num, rfl, by omega, by omega, by show _ = _; rw [HST.out, if_pos HN.out], hq.trans (Qt.one _ _)⟩
        case measure => simp [intOf]; omega
      · have hbn : (u != v) = true := by rw [bne_iff_ne]; exact hn
        have HN := hide hn
        clear hn
        go_upto_region 13 with fail
        go_quiet (fail)
        go_wp2
        go_roundw
        case rel => exact ⟨i + 1, k + 1, by go_num, by go_num, by omega, by omega, by show _ = _; rw [HST.out, if_neg (unhide HN)], hq.trans (Qt.one _ _)⟩
        case measure => simp [intOf]; omega
    · have hie : i = word.length := by omega
      have hk1 : k ≤ 1 := by
       have := HAP.out
       have h := hk.out
       rw [hie] at h
       omega
      have hkn : ¬ (1 : Int) < k := by omega
      have d3 := hd2.trans ((hq.below w2.heap.size).mono hd2.size)
      have r2' := (unhide R2).below (hq.below w2.heap.size)
      have hco2 := implCO_any q r a2 c2 x wr r2'
      rw [HXX.out, HXL.out] at hco2
      have HCO2 := hide hco2
      have RX := hide r2'
      clear hco2 r2' hie hk
      go_wp2_with fail
      refine (unhide HCO2).mono ?_
      rintro e w4 ⟨v4, rfl, o4, b4⟩
      have o4 : Own w4 wr.heap.size v4 x := o4
      obtain ⟨a4, c4, rfl, r4, _⟩ := o4.form
      have d4 := Below.chain d3 b4
      have heq := b10Nums_any a2 a4 c2 c4 x x w4 ((unhide RX).below b4) r4
      rw [show decide (x = x) = true from decide_eq_true rfl, HXL.out] at heq
      rw [HXL.out]
      have HEQ := hide heq
      have RX4 := hide ((unhide RX).below b4)
      clear heq o4 r4
      go_wp2_with fail
      refine (unhide HEQ).mono ?_
      rintro e w5 ⟨rfl, t5⟩
      have d5 := Below.chain d4 (t5.below _)
      have RX5 := hide ((unhide RX4).below (t5.below _))
      have hha := implHC_any q r w5
      by_cases hh : (hamRes q r).2.2.2.2 = 0
      · obtain ⟨A, hA, hAh⟩ := unhide HHAM hh
        rw [hA] at hha
        have HHA := hide hha
        have HAH := Lib.hid hAh
        clear hha hh hA hAh
        go_wp2_with fail
        refine (unhide HHA).mono ?_
        rintro e w6 ⟨v6, u6, rfl, o6, b6⟩
        have o6 : OwnC w6 w5.heap.size v6 u6 F.poly A := o6
        obtain ⟨A6, C6, RA6, RC6, rfl, rfl, r6, rs6⟩ := o6.form
        clear o6
        obtain ⟨W7, hW7⟩ : ∃ z, z = w6.alloc (.cells #[.int .i64 F.p, .int .i64 F.k, .slice A6 F.poly.length C6, .slice RA6 A.length RC6] 37) := ⟨_, rfl⟩
        have b7 : Below w6.heap.size w6 W7 := by rw [hW7]; exact (Below.refl _ _).alloc (Nat.le_refl _) _
        have kH : Blk W7 w6.heap.size 37 #[.int .i64 F.p, .int .i64 F.k, .slice A6 F.poly.length C6, .slice RA6 A.length RC6] := by rw [hW7]; exact Blk.new _ _ _ rfl
        have hW7x := Lib.hid hW7
        clear hW7
        go_upto_region 19 with fail
        rw [← hW7x.out]
        have d7 := Below.chain d5 (Below.chain b6 b7)
        have e0 := kH.cell 0
        have e1 := kH.cell 1
        have e2 := kH.cell 2
        have e3 := kH.cell 3
        have hch := implCH_any F.p F.k A6 C6 F.poly RA6 RC6 A a2 c2 x W7 (r6.below b7) (rs6.below b7) ((unhide RX5).below (Below.chain b6 b7)) ⟨by omega, by omega⟩
        rw [HAH.out, HXL.out] at hch
        have HCH := hide hch
        clear hch r6 rs6
        go_wp2_with fail
        refine (unhide HCH).mono ?_
        rintro e w8 ⟨rfl, b8⟩
        go_wp2
        go_ret
        exact ⟨rfl, Below.chain d7 b8⟩
      · obtain ⟨xp, xd, xl, xA, xc, hXR⟩ : ∃ p d l A c, hamRes q r = (p, d, l, A, c) := ⟨_, _, _, _, _, rfl⟩
        rw [hXR] at hha hh
        have hxc : xc ≠ 0 := hh
        have hxne : (xc != 0) = true := by rw [bne_iff_ne]; exact hxc
        have HHA := hide hha
        clear hha hh hXR
        go_wp2_with fail
        refine (unhide HHA).mono ?_
        rintro e w6 ⟨v6, u6, rfl, o6, b6⟩
        have o6 : OwnC w6 w5.heap.size v6 u6 xl xA := o6
        obtain ⟨A6, C6, RA6, RC6, rfl, rfl, r6, rs6⟩ := o6.form
        have d6 := Below.chain d5 b6
        clear o6
        go_wp2
        go_ret
        exact ⟨rfl, d6.trans ((Below.refl _ _).alloc d6.size _)⟩
 · have hce := cor_err hc
   obtain ⟨xs, xc, hXR⟩ : ∃ xs xc, corRes q r word = (xs, xc) := ⟨_, _, rfl⟩
   rw [hXR] at hco hc hce
   have hxc : xc ≠ 0 := hc
   have hxs : xs = [] := hce
   subst hxs
   have hxne : (xc != 0) = true := by rw [bne_iff_ne]; exact hxc
   have HCO := hide hco
   clear hco hc hce hXR
   go_wp2_with fail
   refine (unhide HCO).mono ?_
   rintro e w2 ⟨v2, rfl, o2, b2⟩
   have o2 : Own w2 w1.heap.size v2 [] := o2
   obtain ⟨a2, c2, rfl, _, _⟩ := o2.form
   clear o2
   go_wp2
   go_ret
   exact ⟨rfl, Below.chain b1 b2⟩
theorem law_FnCorrected (X : SB) (w : World) (hX : X.ok w) :
    Calls Try.prog 4 #[X.val] w fun e w' => e = .returned (.bool true) ∧ Below w.heap.size w w' :=
 walkFnCorrected X.a X.c X.xs w hX.1 hX.2
namespace fnCorrected
open Go.ChangeShapes Go.WideShapes Go.ChangeAt
theorem lifted (os : Os) (started : os.Started) (H : Type) (enc : TypeId × Value → H) :
    ReturnsInHanded {} Try.checked os 4 .any (Rows.fnCorrectedSpec.pre6 enc Try.prog Try.f4 Rows.fnCorrectedRow.domain false) (Rows.fnCorrectedSpec.post enc Try.prog Try.f4 false true false false) := by
 refine returnsInHanded_of_change (C := Try.checked) ownKnob_none started (by kernel_rfl) Try.func4
  (ChangeSpec.witness6 (enc := enc) (C := Try.checked) false ⟨#[], #[.slice none 0 0], []⟩ 8 (by kernel_rfl) (by kernel_rfl) (by kernel_rfl) (by kernel_rfl)) ?_
 intro W base args ds gs before hval0 hW _ _
 have hval : ∀ (j : Nat) t v, Try.f4.params[j]? = some t → args[j]? = some v → Value.okWide Try.prog W .any base t v := hval0
 have hW' := hW
 obtain ⟨p, q, hA0, hV, rfl, hfz, hnd⟩ := hW
 have hA : DataW.TrodAll enc Try.prog W 0 (fun _ => true) true Try.f4.params.toList args.toList ds p := hA0
 rw [Try.params4] at hA hval
 obtain ⟨v0, vs0, d0, ds0, p0, q0, hargs, rfl, rfl, h0, r0⟩ := trodAll_cons hA
 obtain ⟨rfl, rfl, rfl⟩ := trodAll_nil r0
 obtain rfl : args = #[v0] := by cases args; simp_all
 obtain ⟨rfl, rfl⟩ := trodVars_none hV
 have k0 := h0
 have lt0 : ∀ x ∈ p0, x.block < W.heap.size := by obtain ⟨m, hm⟩ := k0; exact DataW.trod_lt m _ _ _ hm
 obtain ⟨X0, rfl, e0⟩ := open_sb (hval 0 29 v0 rfl rfl) h0
 clear hA0 hval0
 refine (law_FnCorrected X0  W e0).mono fun e W' ⟨he, bel⟩ => ?_
 subst he
 exact ⟨_, rfl, _, _, _, [], _, [], hW', trodAll_mk1 (shut_bool Try.underlying4 _), (trodAll_cons_mk (Below.trod laidOut_ok (by kernel_rfl) (of_decide_eq_true (by kernel_rfl)) k0 bel lt0) trodAll_mk0), rfl, bel.frame _, fun h => by cases h⟩
theorem over : Rows.fnCorrectedRow.holds Try.pinned (OpenSpec.ofChange Rows.fnCorrectedSpec) :=
 OpenClaim.holds_of_wide 4 Try.f4 rfl rfl rfl rfl rfl rfl rfl ⟨rfl, rfl, rfl, rfl, rfl⟩ rfl rfl rfl rfl rfl (by kernel_rfl) Try.func4 (by kernel_rfl)
  (of_decide_eq_true (by kernel_rfl)) (by unfold Func.isWrapper; first | (rw [if_pos (by decide +kernel)]; kernel_rfl) | (rw [if_neg (by decide +kernel)]; exact ⟨rfl, rfl⟩))
  (fun os started H enc _ => lifted os started H enc)
theorem proved : Rows.FnCorrectedSaid := over
end fnCorrected
end Go.Proofs.Ytgmgpcaahanmiaa
