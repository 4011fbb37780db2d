/-
  Proved: FnExactGraphText returns true for every input and leaves its arguments as they were. No condition. Printed by gen_law3.py.
-/
import Derived.Handy
import Derived.Lay
import Derived.SevenTiedAt
import Derived.Test.YtgfcbmflnldicaaDoorCards
import Derived.Test.YtgfcbmflnldicaaDoorTie
import Derived.Test.YtgfcbmflnldicaaDoorGT1
import Derived.Test.YtgfcbmflnldicaaDoorGT4
import Derived.Test.YtgfcbmflnldicaaDoorGT15
import Derived.Test.YtgfcbmflnldicaaDoorGT17
set_option linter.unusedVariables false
set_option linter.unusedSimpArgs false
set_option maxRecDepth 100000
set_option maxHeartbeats 40000000
namespace Go.Proofs.YtgfcbmflnldicaaDoor
open Go.RowKit
attribute [local go_sem ↓] Go.wp_at_zero Go.wp_at_succ
theorem dec_self {α : Type} [DecidableEq α] (xs : α) : decide (xs = xs) = true := by simp
theorem lawGraphText (a0 : Option Addr) (c0 : Nat) (xs0 : List Int) (ra0 : Option Addr) (rc0 : Nat) (xss0 : List (Int × Int)) (w : World) (l0 : xs0.length ≤ maxLen) (h0 : xs0.length ≤ 1048576 → Rd w a0 xs0) (m0 : xss0.length ≤ maxLen) (y0 : xss0.length ≤ 1048576 → RdE w ra0 xss0) :
    Calls Tryd.prog 3 #[.agg #[.slice a0 xs0.length c0, .slice ra0 xss0.length rc0]] w fun e w' => e = .returned (.bool true) ∧ Below w.heap.size w w' := by
 obtain ⟨r0, hR⟩ : ∃ r0, (gtRes xs0 xss0) = r0 := ⟨_, rfl⟩
 have hsp := fun a0' c0' ra0' rc0' W h0' r0' => specGT_any a0' c0' xs0 ra0' rc0' xss0 W h0' r0'  
 rw [hR] at hsp
 have HSP := hide hsp
 clear hsp
 have him := fun a0' c0' ra0' rc0' W h0' r0' => implGT_any a0' c0' xs0 ra0' rc0' xss0 W h0' r0'  
 rw [hR] at him
 have HIM := hide him
 clear him
 clear hR
 obtain ⟨w0, hw0⟩ : ∃ z, z = (w.alloc (.cells #[.slice a0 xs0.length c0, .slice ra0 xss0.length rc0] 25)) := ⟨_, rfl⟩
 have hb0 : Below w.heap.size w w0 := by rw [hw0]; exact ((Below.refl _ _).alloc (Nat.le_refl _) _)
 have kA0 : Blk w0 w.heap.size 25 #[.slice a0 xs0.length c0, .slice ra0 xss0.length rc0] := by rw [hw0]; exact (Blk.new _ _ _ rfl)
 have zb : w.heap.size + 1 ≤ w0.heap.size := by rw [hw0]; simp
 go_enter Tryd.func3, Tryd.ntmps3
 have zz := szGraph_any a0 xs0.length c0 ra0 xss0.length rc0 (1048576) w0 l0 m0 (by omega) (by omega)
 have Z1 := hide zz
 clear zz
 have HP2 := Lib.hid hw0
 clear hw0
 go_wp2_with fail
 rw [← HP2.out]
 refine (unhide Z1).mono ?_
 rintro e w1 ⟨rfl, b3⟩
 have z0 := b3.size
 by_cases g0 : ((xs0.length + xss0.length : Nat) : Int) ≤ 1048576
 · rw [left_yes g0]
   have H0 := (h0 (by omega)).below hb0
   have RR0 := (y0 (by omega)).below hb0
   clear l0 h0 m0 y0
   have f4 : w1.cell? ⟨w.heap.size, 0, none⟩ = some (.slice a0 xs0.length c0) := (kA0.kp (Kp.below b3 (by omega))).cell 0
   have f5 : w1.cell? ⟨w.heap.size, 1, none⟩ = some (.slice ra0 xss0.length rc0) := (kA0.kp (Kp.below b3 (by omega))).cell 1
   go_wp2_with fail
   refine (toGraph_any a0 ra0 c0 rc0 xs0 xss0 w1 (H0.kp (Kp.below b3 (by omega))) (RR0.kp (Kp.below b3 (by omega)))).mono ?_
   rintro e w2 ⟨to6, so6, rfl, o6, b7⟩
   clear f4 f5
   have z1 := b7.size
   have o6 := o6.two
   obtain ⟨A8, C8, RA8, RC8, rfl, rfl, _, _⟩ := o6.form
   have O8 := o6.toH (by omega)
   clear o6
   go_wp2_with fail
   refine (unhide HSP A8 C8 RA8 RC8 w2 O8.rd O8.rds).mono ?_
   rintro e w3 ⟨rfl, b10⟩
   have z2 := b10.size
   have f11 : w3.cell? ⟨w.heap.size, 0, none⟩ = some (.slice a0 xs0.length c0) := (kA0.kp (((Kp.below b3 (by omega)).trans (Kp.below b7 (by omega))).trans (Kp.below b10 (by omega)))).cell 0
   have f12 : w3.cell? ⟨w.heap.size, 1, none⟩ = some (.slice ra0 xss0.length rc0) := (kA0.kp (((Kp.below b3 (by omega)).trans (Kp.below b7 (by omega))).trans (Kp.below b10 (by omega)))).cell 1
   go_wp2_with fail
   refine (toGraph_any a0 ra0 c0 rc0 xs0 xss0 w3 (H0.kp (((Kp.below b3 (by omega)).trans (Kp.below b7 (by omega))).trans (Kp.below b10 (by omega)))) (RR0.kp (((Kp.below b3 (by omega)).trans (Kp.below b7 (by omega))).trans (Kp.below b10 (by omega))))).mono ?_
   rintro e w4 ⟨to13, so13, rfl, o13, b14⟩
   clear f11 f12
   have z3 := b14.size
   have o13 := o13.two
   obtain ⟨A15, C15, RA15, RC15, rfl, rfl, _, _⟩ := o13.form
   have O15 := o13.toH (by omega)
   clear o13
   obtain ⟨w5, hP16⟩ : ∃ z, z = w4.alloc (.cells #[.slice A15 xs0.length C15, .slice RA15 xss0.length RC15] 30) := ⟨_, rfl⟩
   have b17 : Below w4.heap.size w4 w5 := by rw [hP16]; exact (Below.refl _ _).alloc (Nat.le_refl _) _
   have K18 : Blk w5 w4.heap.size 30 #[.slice A15 xs0.length C15, .slice RA15 xss0.length RC15] := by rw [hP16]; exact Blk.new _ _ _ rfl
   have zz4 : w4.heap.size + 1 ≤ w5.heap.size := K18.lt
   have z4 := b17.size
   have HP19 := Lib.hid hP16
   clear hP16
   go_wp2_with fail
   rw [← HP19.out]
   refine (unhide HIM A15 C15 RA15 RC15 w5 (O15.kp (Kp.below b17 (by omega))).rd (O15.kp (Kp.below b17 (by omega))).rds).mono ?_
   rintro e w6 ⟨rfl, b21⟩
   have z5 := b21.size
   have bner0 : ((⟨r0.toArray⟩ : ByteArray) != ⟨r0.toArray⟩) = false := by
    have hbe : ((⟨r0.toArray⟩ : ByteArray) == ⟨r0.toArray⟩) = true := by first | (show (r0.toArray == r0.toArray) = true; simp) | (show decide _ = true; simp) | (unfold BEq.beq; simp) | (simp [BEq.beq])
    unfold bne
    rw [hbe]
    rfl
   have Y22 := (O15.kp ((Kp.below b17 (by omega)).trans (Kp.below b21 (by omega)))).rd
   have YY22 := (O15.kp ((Kp.below b17 (by omega)).trans (Kp.below b21 (by omega)))).rds
   have X22h := (H0.kp ((((((Kp.below b3 (by omega)).trans (Kp.below b7 (by omega))).trans (Kp.below b10 (by omega))).trans (Kp.below b14 (by omega))).trans (Kp.below b17 (by omega))).trans (Kp.below b21 (by omega))))
   have X22r := (RR0.kp ((((((Kp.below b3 (by omega)).trans (Kp.below b7 (by omega))).trans (Kp.below b10 (by omega))).trans (Kp.below b14 (by omega))).trans (Kp.below b17 (by omega))).trans (Kp.below b21 (by omega))))
   have K23 := (K18.kp (Kp.below b21 (by omega)))
   have K24 := (kA0.kp ((((((Kp.below b3 (by omega)).trans (Kp.below b7 (by omega))).trans (Kp.below b10 (by omega))).trans (Kp.below b14 (by omega))).trans (Kp.below b17 (by omega))).trans (Kp.below b21 (by omega))))
   have BX25' : ∀ (W : World), Below w6.heap.size w6 W → (Below w6.heap.size w6 W ∧ W.cell? ⟨w4.heap.size, 0, none⟩ = some (.slice A15 xs0.length C15) ∧ W.cell? ⟨w4.heap.size, 1, none⟩ = some (.slice RA15 xss0.length RC15) ∧ W.cell? ⟨w.heap.size, 0, none⟩ = some (.slice a0 xs0.length c0) ∧ W.cell? ⟨w.heap.size, 1, none⟩ = some (.slice ra0 xss0.length rc0)) := fun _ h => ⟨h, (K23.below h K23.lt).cell 0, (K23.below h K23.lt).cell 1, (K24.below h K24.lt).cell 0, (K24.below h K24.lt).cell 1⟩
   have BX25 := hide BX25'
   clear BX25'
   go_upto_region 10 with fail
   go_region_held3 (fun W => Below w6.heap.size w6 W ∧ W.cell? ⟨w4.heap.size, 0, none⟩ = some (.slice A15 xs0.length C15) ∧ W.cell? ⟨w4.heap.size, 1, none⟩ = some (.slice RA15 xss0.length RC15) ∧ W.cell? ⟨w.heap.size, 0, none⟩ = some (.slice a0 xs0.length c0) ∧ W.cell? ⟨w.heap.size, 1, none⟩ = some (.slice ra0 xss0.length rc0))
    (first | exact (unhide BX25) _ (Below.refl _ _) | exact (unhide BX25) _ ((Below.refl _ _).drew) | exact (unhide BX25) _ (by assumption))
    (first
     | (go_at_call_of 6 (Value.slice a0 xs0.length c0); refine (toGraph_any a0 ra0 c0 rc0 xs0 xss0 _ ?_ ?_).mono ?_; exact X22h.below (And.left (by assumption)); exact X22r.below (And.left (by assumption)); rintro e W22 ⟨t22, s22, rfl, o22, bb22⟩; obtain ⟨A22, C22, RA22, RC22, rfl, rfl, rr22, rs22⟩ := o22.form; have hB22 := Below.chain (a := w6) (And.left (by assumption)) bb22)
     | (go_at_call 8; refine (eqGraph_any A15 A22 RA15 RA22 C15 C22 RC15 RC22 xs0 xs0 xss0 xss0 _ (Y22.below hB22) rr22 (YY22.below hB22) rs22).mono ?_; rintro e w7 ⟨rfl, bc22⟩; have b22e := Below.chain hB22 bc22; rw [sameG_self]))
   clear BX25
   have z6 := b22e.size
   go_wp2
   go_ret
   exact ⟨rfl, (((((((hb0.trans (b3.mono (by omega))).trans (b7.mono (by omega))).trans (b10.mono (by omega))).trans (b14.mono (by omega))).trans (b17.mono (by omega))).trans (b21.mono (by omega))).trans (b22e.mono (by omega)))⟩
 · rw [left_no g0]
   go_wp2
   go_ret
   exact ⟨rfl, (hb0.trans (b3.mono (by omega)))⟩
theorem law_FnExactGraphText (X0 : GRA) (w : World) (e0 : X0.ok w) :
    Calls Tryd.prog 3 #[X0.val] w fun e w' => e = .returned (.bool true) ∧ Below w.heap.size w w' :=
 lawGraphText X0.l.a X0.l.c X0.l.xs X0.r.a X0.r.c X0.r.es w e0.1.1 e0.1.2.1 e0.2.1 e0.2.2.1
namespace fnExactGraphText
open Go.ChangeShapes Go.WideShapes Go.ChangeAt
theorem lifted (os : Os) (started : os.Started) (H : Type) (enc : TypeId × Value → H) :
    ReturnsInHanded {} Tryd.checked os 3 .any (fun w args => (Rows.fnExactGraphTextSpec.pre enc Tryd.prog Tryd.f3 [] false w args ∧ laidMetH Tryd.prog Rows.fnExactGraphTextRow.laid w) ∧ sizedMet enc Tryd.prog Tryd.f3 (OpenSpec.ofChange Rows.fnExactGraphTextSpec) false w args)
     (Rows.fnExactGraphTextSpec.post enc Tryd.prog Tryd.f3 false true false false) := by
 refine returnsInHanded_of_change_and (C := Tryd.checked) (X := fun w _ => laidMetH Tryd.prog Rows.fnExactGraphTextRow.laid w) (fun _ _ _ hh h => h.of_heap hh) ownKnob_none started (by kernel_rfl) Tryd.func3
  (ChangeSpec.witness_shaped (enc := enc) (C := Tryd.checked) (os := os) (X := fun w _ => laidMetH Tryd.prog Rows.fnExactGraphTextRow.laid w) false (World.laidAll Tryd.prog os Rows.fnExactGraphTextRow.laid) #[.agg #[.slice none 0 0, .slice none 0 0]] 8 (World.laidAll_os _ _ _)
   (World.shaped_of_ZipB (by kernel_rfl) (by kernel_rfl)) (by kernel_rfl) (by kernel_rfl) (by kernel_rfl)
   (by rw [MakeChecks.laidMetH_plain _ _ _ (by kernel_rfl)]; exact laidMet_laidAll _ (by kernel_rfl) (by kernel_rfl))) ?_
 intro W base args ds gs before hval0 hW _ _ _ _
 have hval : ∀ (j : Nat) t v, Tryd.f3.params[j]? = some t → args[j]? = some v → Value.okWide Tryd.prog W .any base t v := hval0
 have hW' := hW
 obtain ⟨p, q, hA0, hV, rfl, hfz, hnd⟩ := hW
 have hA : DataW.TrodAll enc Tryd.prog W 0 (fun _ => true) true Tryd.f3.params.toList args.toList ds p := hA0
 rw [Tryd.params3] at hA hval
 obtain ⟨v0, vs0, d0, ds0, p0, q0, hargs, rfl, rfl, h0, r0⟩ := trodAll_cons hA
 obtain ⟨rfl, rfl, rfl⟩ := trodAll_nil r0
 obtain rfl : args = #[v0] := by cases args; simp_all
 obtain ⟨rfl, rfl⟩ := trodVars_none hV
 have k0 := h0
 have lt0 : ∀ x ∈ p0, x.block < W.heap.size := by obtain ⟨m, hm⟩ := k0; exact DataW.trod_lt m _ _ _ hm
 obtain ⟨X0, rfl, e0⟩ := open_gra (hval 0 25 v0 rfl rfl) h0
 clear hA0 hval0
 refine (law_FnExactGraphText X0  W e0).mono fun e W' ⟨he, bel⟩ => ?_
 subst he
 exact ⟨_, rfl, _, _, _, [], _, [], hW', trodAll_mk1 (shut_bool Tryd.underlying4 _), (trodAll_cons_mk (Below.trod laidOut_ok (by kernel_rfl) (of_decide_eq_true (by kernel_rfl)) k0 bel lt0) trodAll_mk0), rfl, bel.frame _, fun h => by cases h⟩
theorem over : Rows.fnExactGraphTextRow.holds Tryd.pinned (OpenSpec.ofChange Rows.fnExactGraphTextSpec) :=
 OpenClaim.holds_of_wide 3 Tryd.f3 rfl rfl rfl rfl rfl rfl rfl ⟨rfl, rfl, rfl, rfl, rfl⟩ rfl rfl rfl rfl rfl (by kernel_rfl) Tryd.func3 (by kernel_rfl)
  (of_decide_eq_true (by kernel_rfl)) (by unfold Func.isWrapper; first | (rw [if_pos (by decide +kernel)]; kernel_rfl) | (rw [if_neg (by decide +kernel)]; exact ⟨rfl, rfl⟩))
  (fun os started H enc _ => lifted os started H enc)
theorem said : Rows.FnExactGraphTextSaid := over
theorem proved : Rows.FnExactGraphTextCardSaid :=
 Claim7.holds_tied_plain_at .later [] [.data, .data, .data] true (true, "a1c03a3f55a57797df6669ca0832ea68dc8d4dc8b1cf698c7d1e5ce6abd02d68") false said (fun _ h => by cases h) (by kernel_rfl) (fun _ h => by cases h) fnExactGraphText_row_tie rfl ⟨rfl, rfl⟩ (by kernel_rfl) rfl
  (fun f fn hf hfn => by
   obtain rfl : f = 3 := Option.some.inj ((show Tryd.prog.funcNamed "loop.example/g00920/laws.FnExactGraphText" = some 3 by kernel_rfl).symm.trans hf) |>.symm
   obtain rfl : fn = Tryd.f3 := (Option.some.inj (Tryd.func3.symm.trans hfn)).symm
   exact ⟨by kernel_rfl, fun j t ht => by
    rw [Tryd.params3] at ht
    have hm : t ∈ [25] := by simpa using Array.mem_of_getElem? ht
    have hall : ([25].all fun u => !Tryd.prog.wantsStandIn u) = true := by kernel_rfl
    exact (show Tryd.prog.wantsStandIn t = false by simpa using List.all_eq_true.1 hall t hm)⟩)
  (by kernel_rfl)
end fnExactGraphText
end Go.Proofs.YtgfcbmflnldicaaDoor
