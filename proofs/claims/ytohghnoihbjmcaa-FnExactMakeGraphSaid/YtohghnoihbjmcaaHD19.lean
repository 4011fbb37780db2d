/-
  Texts joined.
-/
import Derived.Test.YtohghnoihbjmcaaHD14
import Derived.Test.YtohghnoihbjmcaaHD18
set_option linter.unusedVariables false
set_option linter.unusedSimpArgs false
set_option maxRecDepth 100000
set_option maxHeartbeats 40000000
namespace Go.Proofs.Ytohghnoihbjmcaa
open Go.RowKit
attribute [local go_sem ↓] Go.wp_at_zero Go.wp_at_succ
theorem implMG_any (a : Option Addr) (c : Nat) (xs : List Int) (ra : Option Addr) (rc : Nat) (es : List (Int × Int)) (w : World) (hx : Rd w a xs) (hes : RdE w ra es) :
    Calls Try.prog 31 #[.slice a xs.length c, .slice ra es.length rc] w (RetG w (mgRes xs es)) := by
 have hxl := hx.len
 have hel := hes.len
 generalize hR : mgRes xs es = r
 obtain ⟨w0, hw0⟩ : ∃ w0, w0 = w.alloc (.cells #[.slice none 0 0, .slice none 0 0] 30) := ⟨_, rfl⟩
 have hb0 : Below w.heap.size w w0 := by rw [hw0]; exact (Below.refl _ _).alloc (Nat.le_refl _) _
 have kR : Blk w0 w.heap.size 30 #[.slice none 0 0, .slice none 0 0] := by rw [hw0]; exact Blk.new _ _ _ rfl
 have s0 : w0.heap.size = w.heap.size + 1 := by rw [hw0]; simp
 have BR := hide (show ∀ W, Below w0.heap.size w0 W → Blk W w.heap.size 30 #[.slice none 0 0, .slice none 0 0] from fun W h => kR.below h kR.lt)
 have HX := hide (hx.below hb0)
 have HES := hide (hes.below hb0)
 have HW := Lib.hid hw0
 have hcl := areColors_any a c xs w0 (unhide HX)
 cases hk : colorsOk xs with
 | false =>
  have HN := Lib.hid (show r = ([], [], 2) by rw [← hR, mgRes, hk]; rfl)
  rw [hk] at hcl
  have HV := hide hcl
  clear hcl hk hR hw0 kR
  go_enter Try.func31, Try.ntmps31
  go_wp2_with fail
  rw [← HW.out]
  refine (unhide HV).mono ?_
  rintro e w1 ⟨rfl, rfl⟩
  have kr := unhide BR w0 (Below.refl w0.heap.size w0)
  have r0 := kr.cell 0
  have r1 := kr.cell 1
  have q0 := kr.frozen 0
  have q1 := kr.frozen 1
  go_wp2
  refine bodyPost_ret (results_cell_tmp_row rfl _ _ w.heap.size 30 #[.slice none 0 0, .slice none 0 0] _ rfl ((kr.set_ 0 _).set_ 1 _) Try.underlying30 rfl (by kernel_rfl)) rfl ?_
  rw [HN.out]
  exact ⟨_, _, rfl, OwnG2.nil _ _, ((hb0.trans (Below.mono (Below.refl w0.heap.size w0) (by omega))).setCell (by show w.heap.size ≤ w.heap.size; omega) _).setCell (by show w.heap.size ≤ w.heap.size; omega) _⟩
 | true =>
  have hn64 := colorsOk_64 hk
  rw [hk] at hcl
  have HV := hide hcl
  have hR2 : r = if edgesIn xs.length es then (if (edgesT xs.length (adjE es) xs.length).length ≤ 512 then (xs, edgesT xs.length (adjE es) xs.length, 0) else ([], [], 2)) else ([], [], 2) := by rw [← hR, mgRes, hk, Bool.true_and]
  have HRR := Lib.hid hR2
  have hw1 : IntKind.i64.wrap ((xs.length : Int) - 1) = (xs.length : Int) - 1 := IntWalk.i64_in _ (by omega)
  have hsz0 := fun W => size_any a xs.length c W
  have HSZ := hide hsz0
  clear hcl hk hR hw0 hR2 hsz0 kR
  go_enter Try.func31, Try.ntmps31
  go_wp2_with fail
  rw [← HW.out]
  refine (unhide HV).mono ?_
  rintro e w1 ⟨rfl, rfl⟩
  go_wp2_with fail
  refine (unhide HSZ _).mono ?_
  rintro e w1 ⟨rfl, rfl⟩
  go_wp2_with fail
  go_loopw [19] (fun iv wr => ∃ i : Nat, iv = .int .i64 i ∧ i ≤ es.length ∧ Below w0.heap.size w0 wr ∧ Hid (∀ k, k < i → edgeIn xs.length (nthE es k) = true)) (fun iv _ => es.length - (intOf iv).toNat)
  case atStart => exact ⟨0, rfl, Nat.zero_le _, Below.refl _ _, fun k hk => by omega⟩
  case round =>
   obtain ⟨i, rfl, hi, hb, hq⟩ := hrel
   have hsz := hb.size
   by_cases hil : i < es.length
   · obtain ⟨b1, o1, rfl, hbb, hcx⟩ := (unhide HES).at_ (by omega)
     obtain ⟨hx1, hx2⟩ := hcx i hil
     obtain ⟨x, hx⟩ : ∃ z, z = (nthE es i).1 := ⟨_, rfl⟩
     obtain ⟨y, hy⟩ : ∃ z, z = (nthE es i).2 := ⟨_, rfl⟩
     have he : nthE es i = (x, y) := by rw [hx, hy]
     rw [← hx] at hx1
     rw [← hy] at hx2
     have hx1 := (hb.cell (p := ⟨b1, o1 + i * 2, none⟩) hbb).trans hx1
     have hx2 := (hb.cell (p := ⟨b1, o1 + i * 2 + 1, none⟩) hbb).trans hx2
     obtain ⟨wE, hwE⟩ : ∃ wE, wE = wr.alloc (.cells #[.int .i64 x, .int .i64 y] 58) := ⟨_, rfl⟩
     have hbE : Below wr.heap.size wr wE := by rw [hwE]; exact (Below.refl _ _).alloc (Nat.le_refl _) _
     have kE : Blk wE wr.heap.size 58 #[.int .i64 x, .int .i64 y] := by rw [hwE]; exact Blk.new _ _ _ rfl
     have hbE0 := hb.trans (hbE.mono hsz)
     have HWE := Lib.hid hwE
     have HE := Lib.hid he
     have e0 := kE.cell 0
     have e1 := kE.cell 1
     have hc1 := within_any x 0 ((xs.length : Int) - 1) wE
     have hc2 := within_any y 0 ((xs.length : Int) - 1) wE
     clear hx hy hwE hcx he
     go_upto_region 7 with fail
     rw [← HWE.out]
     by_cases c1 : 0 ≤ x ∧ x ≤ (xs.length : Int) - 1
     case neg =>
      have hno : edgeIn xs.length (nthE es i) = false := by rw [HE.out, ← Bool.not_eq_true, edgeIn_iff]; intro h; exact absurd h (by simp only; omega)
      have HN := Lib.hid (show r = ([], [], 2) by rw [HRR.out, edgesIn_no hil hno]; rfl)
      clear hno
      rw [show inB x 0 ((xs.length : Int) - 1) = false by unfold inB; rw [decide_eq_false_iff_not]; exact c1] at hc1
      have HC1 := hide hc1
      clear hc1
      clear c1 hc2
      go_wp2_with fail
      refine (unhide HC1).mono ?_
      rintro e w5 ⟨rfl, rfl⟩
      clear e0 e1
      have kr := unhide BR wE (hbE0)
      have r0 := kr.cell 0
      have r1 := kr.cell 1
      have q0 := kr.frozen 0
      have q1 := kr.frozen 1
      go_wp2
      refine bodyPost_ret (results_cell_tmp_row rfl _ _ w.heap.size 30 #[.slice none 0 0, .slice none 0 0] _ rfl ((kr.set_ 0 _).set_ 1 _) Try.underlying30 rfl (by kernel_rfl)) rfl ?_
      rw [HN.out]
      exact ⟨_, _, rfl, OwnG2.nil _ _, ((hb0.trans (Below.mono (hbE0) (by omega))).setCell (by show w.heap.size ≤ w.heap.size; omega) _).setCell (by show w.heap.size ≤ w.heap.size; omega) _⟩
     rw [show inB x 0 ((xs.length : Int) - 1) = true by unfold inB; exact decide_eq_true c1] at hc1
     have HC1 := hide hc1
     clear hc1
     by_cases c2 : 0 ≤ y ∧ y ≤ (xs.length : Int) - 1
     case neg =>
      have hno : edgeIn xs.length (nthE es i) = false := by rw [HE.out, ← Bool.not_eq_true, edgeIn_iff]; intro h; exact absurd h (by simp only; omega)
      have HN := Lib.hid (show r = ([], [], 2) by rw [HRR.out, edgesIn_no hil hno]; rfl)
      clear hno
      rw [show inB y 0 ((xs.length : Int) - 1) = false by unfold inB; rw [decide_eq_false_iff_not]; exact c2] at hc2
      have HC2 := hide hc2
      clear hc2
      clear c2
      go_wp2_with fail
      refine (unhide HC1).mono ?_
      rintro e w5 ⟨rfl, rfl⟩
      go_wp2_with fail
      refine (unhide HC2).mono ?_
      rintro e w5 ⟨rfl, rfl⟩
      clear e0 e1
      have kr := unhide BR wE (hbE0)
      have r0 := kr.cell 0
      have r1 := kr.cell 1
      have q0 := kr.frozen 0
      have q1 := kr.frozen 1
      go_wp2
      refine bodyPost_ret (results_cell_tmp_row rfl _ _ w.heap.size 30 #[.slice none 0 0, .slice none 0 0] _ rfl ((kr.set_ 0 _).set_ 1 _) Try.underlying30 rfl (by kernel_rfl)) rfl ?_
      rw [HN.out]
      exact ⟨_, _, rfl, OwnG2.nil _ _, ((hb0.trans (Below.mono (hbE0) (by omega))).setCell (by show w.heap.size ≤ w.heap.size; omega) _).setCell (by show w.heap.size ≤ w.heap.size; omega) _⟩
     rw [show inB y 0 ((xs.length : Int) - 1) = true by unfold inB; exact decide_eq_true c2] at hc2
     have HC2 := hide hc2
     clear hc2
     by_cases c3 : x = y
     case pos =>
      have hno : edgeIn xs.length (nthE es i) = false := by rw [HE.out, ← Bool.not_eq_true, edgeIn_iff]; intro h; exact absurd h (by simp only; omega)
      have HN := Lib.hid (show r = ([], [], 2) by rw [HRR.out, edgesIn_no hil hno]; rfl)
      have hxe : (x == y) = true := by simpa using c3
      clear hno c3
      go_wp2_with fail
      refine (unhide HC1).mono ?_
      rintro e w5 ⟨rfl, rfl⟩
      go_wp2_with fail
      refine (unhide HC2).mono ?_
      rintro e w5 ⟨rfl, rfl⟩
      have kr := unhide BR wE (hbE0)
      have r0 := kr.cell 0
      have r1 := kr.cell 1
      have q0 := kr.frozen 0
      have q1 := kr.frozen 1
      go_wp2
      refine bodyPost_ret (results_cell_tmp_row rfl _ _ w.heap.size 30 #[.slice none 0 0, .slice none 0 0] _ rfl ((kr.set_ 0 _).set_ 1 _) Try.underlying30 rfl (by kernel_rfl)) rfl ?_
      rw [HN.out]
      exact ⟨_, _, rfl, OwnG2.nil _ _, ((hb0.trans (Below.mono (hbE0) (by omega))).setCell (by show w.heap.size ≤ w.heap.size; omega) _).setCell (by show w.heap.size ≤ w.heap.size; omega) _⟩
     have hxe : (x == y) = false := by simpa using c3
     have hok : edgeIn xs.length (nthE es i) = true := by rw [HE.out, edgeIn_iff]; simp only; omega
     have HOK := hide hok
     clear hok
     go_wp2_with fail
     refine (unhide HC1).mono ?_
     rintro e w5 ⟨rfl, rfl⟩
     go_wp2_with fail
     refine (unhide HC2).mono ?_
     rintro e w5 ⟨rfl, rfl⟩
     go_wp2_with fail
     go_roundw
     case rel =>
      refine ⟨i + 1, by go_num, by omega, hbE0, fun k hk => ?_⟩
      rcases Nat.lt_succ_iff_lt_or_eq.1 hk with h | rfl
      · exact hq.out k h
      · exact unhide HOK
     case measure => simp only [intOf]; omega
   · have hie : i = es.length := by omega
     have hall := edgesIn_yes (n := (xs.length : Int)) (es := es) (fun k hk => hq.out k (by omega))
     obtain ⟨E, hE⟩ : ∃ E, E = edgesT xs.length (adjE es) xs.length := ⟨_, rfl⟩
     have hR3 : r = if E.length ≤ 512 then (xs, E, 0) else ([], [], 2) := by rw [HRR.out, if_pos hall, hE]
     have hElen : E.length ≤ 64 * 64 := by rw [hE]; exact Nat.le_trans (edgesT_len _ _ _) (Nat.mul_le_mul hn64 hn64)
     have HR3 := Lib.hid hR3
     have hcn := cloneI_any a c xs wr ((unhide HX).below hb)
     have HCN := hide hcn
     have hse := fun W (h : Below w0.heap.size w0 W) => sortedEdges_any ra rc es W ((unhide HES).below h)
     have HSE := hide hse
     have HALL := hide (edgesIn_all hall)
     have HE0 := Lib.hid hE
     clear hcn hse hie hall hE hR3
     go_wp2_with fail
     refine (unhide HCN).mono ?_
     rintro e w4 ⟨v4, rfl, o4, b4⟩
     obtain ⟨a5, c5, rfl, _, _⟩ := o4.form
     have d4 := hb.trans (b4.mono hsz)
     go_wp2_with fail
     refine (unhide HSE _ d4).mono ?_
     rintro e w5 ⟨u5, gs, rfl, hgs, o5, b5⟩
     have hgE : gs = E := by rw [HE0.out]; exact hgs.edges (unhide HALL)
     subst hgE
     obtain ⟨ra5, rc5, rfl⟩ := o5.slice_val
     have d5 := d4.trans (b5.mono d4.size)
     obtain ⟨W6, hW6⟩ : ∃ z, z = w5.alloc (.cells #[.slice a5 xs.length c5, .slice ra5 gs.length rc5] 30) := ⟨_, rfl⟩
     have b6 : Below w5.heap.size w5 W6 := by rw [hW6]; exact (Below.refl _ _).alloc (Nat.le_refl _) _
     have k6 : Blk W6 w5.heap.size 30 #[.slice a5 xs.length c5, .slice ra5 gs.length rc5] := by rw [hW6]; exact Blk.new _ _ _ rfl
     have d6 := d5.trans (b6.mono d5.size)
     have O6 := hide (show OwnG2 W6 w0.heap.size (.slice a5 xs.length c5) (.slice ra5 gs.length rc5) xs gs from ⟨(o4.below (Below.chain b5 b6) (Nat.le_refl _)).mono hsz, (o5.below b6 (Nat.le_refl _)).mono d4.size⟩)
     have HW6 := Lib.hid hW6
     have e0 := k6.cell 0
     have e1 := k6.cell 1
     clear hW6 o5 o4 hgs HE0
     go_upto_region 11 with fail
     rw [← HW6.out]
     by_cases hE5 : gs.length ≤ 512
     · have HN := Lib.hid (show r = (xs, gs, 0) by rw [HR3.out, if_pos hE5])
       have hEd : decide ((512 : Int) < (gs.length : Int)) = false := by rw [decide_eq_false_iff_not]; omega
       have kr := unhide BR W6 (d6)
       have r0 := kr.cell 0
       have r1 := kr.cell 1
       have q0 := kr.frozen 0
       have q1 := kr.frozen 1
       go_wp2
       refine bodyPost_ret (results_cell_tmp_row rfl _ _ w.heap.size 30 #[.slice a5 xs.length c5, .slice ra5 gs.length rc5] _ rfl ((kr.set_ 0 _).set_ 1 _) Try.underlying30 rfl (by kernel_rfl)) rfl ?_
       rw [HN.out]
       exact ⟨_, _, rfl, (((unhide O6).storeBelow (by show w.heap.size < _; omega) _).storeBelow (by show w.heap.size < _; omega) _).mono (by omega), ((hb0.trans (Below.mono (d6) (by omega))).setCell (by show w.heap.size ≤ w.heap.size; omega) _).setCell (by show w.heap.size ≤ w.heap.size; omega) _⟩
     · have HN := Lib.hid (show r = ([], [], 2) by rw [HR3.out, if_neg hE5])
       have hEd : decide ((512 : Int) < (gs.length : Int)) = true := decide_eq_true (by omega)
       have kr := unhide BR W6 (d6)
       have r0 := kr.cell 0
       have r1 := kr.cell 1
       have q0 := kr.frozen 0
       have q1 := kr.frozen 1
       go_wp2
       refine bodyPost_ret (results_cell_tmp_row rfl _ _ w.heap.size 30 #[.slice none 0 0, .slice none 0 0] _ rfl ((kr.set_ 0 _).set_ 1 _) Try.underlying30 rfl (by kernel_rfl)) rfl ?_
       rw [HN.out]
       exact ⟨_, _, rfl, OwnG2.nil _ _, ((hb0.trans (Below.mono (d6) (by omega))).setCell (by show w.heap.size ≤ w.heap.size; omega) _).setCell (by show w.heap.size ≤ w.heap.size; omega) _⟩
end Go.Proofs.Ytohghnoihbjmcaa
