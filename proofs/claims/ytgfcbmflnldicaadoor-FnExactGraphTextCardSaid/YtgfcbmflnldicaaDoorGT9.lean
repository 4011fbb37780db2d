/-
  Texts joined.
-/
import Derived.Test.YtgfcbmflnldicaaDoorGT6
import Derived.Test.YtgfcbmflnldicaaDoorGT8
set_option linter.unusedVariables false
set_option linter.unusedSimpArgs false
set_option maxRecDepth 100000
set_option maxHeartbeats 40000000
namespace Go.Proofs.YtgfcbmflnldicaaDoor
open Go.RowKit
attribute [local go_sem ↓] Go.wp_at_zero Go.wp_at_succ
theorem l21Ok_any (a ra : Option Addr) (c rc : Nat) (xs : List Int) (es : List (Int × Int)) (w : World) (hx : Rd w a xs) (hes : RdE w ra es) :
    Calls Tryd.prog 11 #[.agg #[.slice a xs.length c, .slice ra es.length rc]] w fun e w' => e = .returned (.bool (okG xs es)) ∧ Below w.heap.size w w' := by
 have hxl := hx.len
 have hel := hes.len
 obtain ⟨w0, hw0⟩ : ∃ w0, w0 = w.alloc (.cells #[.slice a xs.length c, .slice ra es.length rc] 30) := ⟨_, rfl⟩
 have hb0 : Below w.heap.size w w0 := by rw [hw0]; exact (Below.refl _ _).alloc (Nat.le_refl _) _
 have kA : Blk w0 w.heap.size 30 #[.slice a xs.length c, .slice ra es.length rc] := by rw [hw0]; exact Blk.new _ _ _ rfl
 have s0 : w0.heap.size = w.heap.size + 1 := by rw [hw0]; simp
 have hcol := l21Colors_any a c xs w0 (hx.below hb0)
 obtain ⟨r, hr⟩ : ∃ r, colorsOk xs = r := ⟨_, rfl⟩
 rw [hr] at hcol
 have HR := Lib.hid hr
 have HC := hide hcol
 have f0 : w0.cell? ⟨w.heap.size, 0, none⟩ = some (.slice a xs.length c) := kA.cell 0
 have f1 : w0.cell? ⟨w.heap.size, 1, none⟩ = some (.slice ra es.length rc) := kA.cell 1
 rw [hw0] at f0 f1
 have HW := Lib.hid hw0
 clear hw0 hr hcol
 go_enter Tryd.func11, Tryd.ntmps11
 go_wp2_with fail
 rw [← HW.out] at f0 f1 ⊢
 refine (unhide HC).mono ?_
 rintro e w1 ⟨rfl, rfl⟩
 cases r
 · go_wp2
   go_ret
   exact ⟨ret_bool (okG_colors HR.out).symm, hb0⟩
 by_cases h512 : (es.length : Int) ≤ 512
 case neg =>
  go_wp2
  go_ret
  exact ⟨ret_bool (okG_long (by omega)).symm, hb0⟩
 go_wp2_with fail
 go_loopw [4] (fun i wr => ∃ (k : Nat), i = .int .i64 k ∧ k ≤ es.length ∧ Below w0.heap.size w0 wr ∧ Hid (∀ j, j < k → edgeOk xs.length es j = true)) (fun i _ => es.length - (intOf i).toNat)
 case atStart => exact ⟨0, rfl, by omega, Below.refl _ _, fun j hj => by omega⟩
 case round =>
  obtain ⟨k, rfl, hk, hb, hq⟩ := hrel
  have sr := hb.size
  have hb1 := hb0.trans (hb.mono (by omega))
  have kr := kA.below hb kA.lt
  clear f0 f1
  have f0 : wr.cell? ⟨w.heap.size, 0, none⟩ = some (.slice a xs.length c) := kr.cell 0
  have f1 : wr.cell? ⟨w.heap.size, 1, none⟩ = some (.slice ra es.length rc) := kr.cell 1
  have HB := Lib.hid hb
  by_cases hkl : k < es.length
  · obtain ⟨b1, o1, rfl, hbb, hcx⟩ := hes.at_ (by omega)
    have hx1 := (hb1.cell (p := ⟨b1, o1 + k * 2, none⟩) hbb).trans (hcx k hkl).1
    have hx2 := (hb1.cell (p := ⟨b1, o1 + k * 2 + 1, none⟩) hbb).trans (hcx k hkl).2
    obtain ⟨x, hxx⟩ : ∃ z, z = (nthE es k).1 := ⟨_, rfl⟩
    obtain ⟨y, hyy⟩ : ∃ z, z = (nthE es k).2 := ⟨_, rfl⟩
    rw [← hxx] at hx1
    rw [← hyy] at hx2
    have HX : Hid (nthE es k = (x, y)) := by show _ = _; rw [hxx, hyy]
    obtain ⟨wE, hwE⟩ : ∃ wE, wE = wr.alloc (.cells #[.int .i64 x, .int .i64 y] 41) := ⟨_, rfl⟩
    have hbE : Below wr.heap.size wr wE := by rw [hwE]; exact (Below.refl _ _).alloc (Nat.le_refl _) _
    have hbE0 : Below w0.heap.size w0 wE := hb.trans (hbE.mono sr)
    have hbEw := hb0.trans (hbE0.mono (by omega))
    have sE : wE.heap.size = wr.heap.size + 1 := by rw [hwE]; simp
    have kE : Blk wE wr.heap.size 41 #[.int .i64 x, .int .i64 y] := by rw [hwE]; exact Blk.new _ _ _ rfl
    have krE := kA.below hbE0 kA.lt
    have hp : k ≠ 0 → wE.cell? ⟨b1, o1 + (k - 1) * 2, none⟩ = some (.int .i64 (nthE es (k - 1)).1) ∧ wE.cell? ⟨b1, o1 + (k - 1) * 2 + 1, none⟩ = some (.int .i64 (nthE es (k - 1)).2) := fun _ =>
     ⟨(hbEw.cell hbb).trans (hcx (k - 1) (by omega)).1, (hbEw.cell hbb).trans (hcx (k - 1) (by omega)).2⟩
    have HWE := Lib.hid hwE
    have HP := hide hp
    clear hwE hp hcx hes hx hb hxx hyy
    go_upto_region 8 with fail
    rw [← HWE.out]
    have e0 : wE.cell? ⟨wr.heap.size, 0, none⟩ = some (.int .i64 x) := kE.cell 0
    have e1 : wE.cell? ⟨wr.heap.size, 1, none⟩ = some (.int .i64 y) := kE.cell 1
    have g0 : wE.cell? ⟨w.heap.size, 0, none⟩ = some (.slice a xs.length c) := krE.cell 0
    have g1 : wE.cell? ⟨w.heap.size, 1, none⟩ = some (.slice (some ⟨b1, o1, none⟩) es.length rc) := krE.cell 1
    go_cut [62] (fun v wx => v = .bool (!edgeOk xs.length es k) ∧ Below wE.heap.size wE wx)
    case first =>
     have key : ∀ W : World, Below wE.heap.size wE W → (Below wE.heap.size wE W ∧ W.cell? ⟨wr.heap.size, 0, none⟩ = some (.int .i64 x) ∧ W.cell? ⟨wr.heap.size, 1, none⟩ = some (.int .i64 y) ∧ W.cell? ⟨w.heap.size, 0, none⟩ = some (.slice a xs.length c) ∧ W.cell? ⟨w.heap.size, 1, none⟩ = some (.slice (some ⟨b1, o1, none⟩) es.length rc)) := fun W h => ⟨h, (h.cell kE.lt).trans e0, (h.cell kE.lt).trans e1, (h.cell krE.lt).trans g0, (h.cell krE.lt).trans g1⟩
     have BX := hide key
     have hw1 : IntKind.i64.wrap ((xs.length : Int) - 1) = (xs.length : Int) - 1 := IntWalk.i64_in _ (by omega)
     by_cases c1 : 0 ≤ x ∧ x ≤ (xs.length : Int) - 1
     case neg =>
      have EK := Lib.hid (edgeOk_no' HX.out (n := (xs.length : Int)) (by omega))
      have C1i : inB x 0 ((xs.length : Int) - 1) = false := by unfold inB; rw [decide_eq_false_iff_not]; exact c1
      have C1 : ∀ W, Calls Tryd.prog 22 #[.int .i64 x, .int .i64 0, .int .i64 ((xs.length : Int) - 1)] W fun e w' => e = .returned (.bool false) ∧ W = w' := fun W => by
       have h := l00In_any x 0 ((xs.length : Int) - 1) W
       rw [C1i] at h
       exact h
      have C1 := hide C1
      clear C1i c1
      refine wp_region_noPanic ?_
      refine wp_region_seq (S := (fun W => Below wE.heap.size wE W ∧ W.cell? ⟨wr.heap.size, 0, none⟩ = some (.int .i64 x) ∧ W.cell? ⟨wr.heap.size, 1, none⟩ = some (.int .i64 y) ∧ W.cell? ⟨w.heap.size, 0, none⟩ = some (.slice a xs.length c) ∧ W.cell? ⟨w.heap.size, 1, none⟩ = some (.slice (some ⟨b1, o1, none⟩) es.length rc))) [true, true, true, true, false, true, true, true, true, true, true, true, true, true, false, true, true, true, true, true, true, true, true, true, true, true, true, true, false, true, true, true] (by kernel_rfl) (by kernel_rfl) (by kernel_rfl) rfl (fun _ _ _ _ _ h => h) ?_ (fun hHeld => ?_)
      · exact (unhide BX) _ (Below.refl _ _).drew
      simp only [List.toList_toArray]
      refine SeqH.take (v := ?hv1) (by rfl) ?hy1 ?hr1
      case hy1 =>
       intro w hSw
       try dsimp only at hSw
       go_simp
       try (with_reducible rfl)
      try simp only [Act.put, List.setIfInBounds_toArray, List.set_cons_zero, List.set_cons_succ]
      refine SeqH.take (v := ?hv2) (by rfl) ?hy2 ?hr2
      case hy2 =>
       intro w hSw
       try dsimp only at hSw
       go_simp
       try (with_reducible rfl)
      try simp only [Act.put, List.setIfInBounds_toArray, List.set_cons_zero, List.set_cons_succ]
      refine SeqH.take (v := ?hv3) (by rfl) ?hy3 ?hr3
      case hy3 =>
       intro w hSw
       try dsimp only at hSw
       go_simp
       try (with_reducible rfl)
      try simp only [Act.put, List.setIfInBounds_toArray, List.set_cons_zero, List.set_cons_succ]
      refine SeqH.take (v := ?hv4) (by rfl) ?hy4 ?hr4
      case hy4 =>
       intro w hSw
       try dsimp only at hSw
       go_simp
       try (with_reducible rfl)
      try simp only [Act.put, List.setIfInBounds_toArray, List.set_cons_zero, List.set_cons_succ]
      refine SeqH.call (fun K hK => ?_)
      go_simp
      refine ((unhide C1) _).mono ?_
      rintro e W ⟨rfl, rfl⟩
      go_wp2_with fail
      refine hK.out _ _ ?_ (fun hHeld => ?_)
      · exact hHeld
      clear hK K
      try simp only [Act.put, List.setIfInBounds_toArray, List.set_cons_zero, List.set_cons_succ]
      refine SeqH.take (v := ?hv5) (by rfl) ?hy5 ?hr5
      case hy5 =>
       intro w hSw
       try dsimp only at hSw
       go_simp
       try (with_reducible rfl)
      try simp only [Act.put, List.setIfInBounds_toArray, List.set_cons_zero, List.set_cons_succ]
      refine SeqH.take (v := ?hv6) (by rfl) ?hy6 ?hr6
      case hy6 =>
       intro w hSw
       try dsimp only at hSw
       go_simp
       try (with_reducible rfl)
      try simp only [Act.put, List.setIfInBounds_toArray, List.set_cons_zero, List.set_cons_succ]
      refine SeqH.skip (by rfl) ?_
      try simp only [Act.put, List.setIfInBounds_toArray, List.set_cons_zero, List.set_cons_succ]
      refine SeqH.skip (by rfl) ?_
      try simp only [Act.put, List.setIfInBounds_toArray, List.set_cons_zero, List.set_cons_succ]
      refine SeqH.skip (by rfl) ?_
      try simp only [Act.put, List.setIfInBounds_toArray, List.set_cons_zero, List.set_cons_succ]
      refine SeqH.skip (by rfl) ?_
      try simp only [Act.put, List.setIfInBounds_toArray, List.set_cons_zero, List.set_cons_succ]
      refine SeqH.skip (by rfl) ?_
      try simp only [Act.put, List.setIfInBounds_toArray, List.set_cons_zero, List.set_cons_succ]
      refine SeqH.skip (by rfl) ?_
      try simp only [Act.put, List.setIfInBounds_toArray, List.set_cons_zero, List.set_cons_succ]
      refine SeqH.skip (by rfl) ?_
      try simp only [Act.put, List.setIfInBounds_toArray, List.set_cons_zero, List.set_cons_succ]
      refine SeqH.call (fun K hK => ?_)
      go_simp
      skip
      refine hK.out _ _ ?_ (fun hHeld => ?_)
      · exact hHeld
      clear hK K
      try simp only [Act.put, List.setIfInBounds_toArray, List.set_cons_zero, List.set_cons_succ]
      refine SeqH.skip (by rfl) ?_
      try simp only [Act.put, List.setIfInBounds_toArray, List.set_cons_zero, List.set_cons_succ]
      refine SeqH.take (v := ?hv7) (by rfl) ?hy7 ?hr7
      case hy7 =>
       intro w hSw
       try dsimp only at hSw
       go_simp
       try (with_reducible rfl)
      try simp only [Act.put, List.setIfInBounds_toArray, List.set_cons_zero, List.set_cons_succ]
      refine SeqH.take (v := ?hv8) (by rfl) ?hy8 ?hr8
      case hy8 =>
       intro w hSw
       try dsimp only at hSw
       go_simp
       try (with_reducible rfl)
      try simp only [Act.put, List.setIfInBounds_toArray, List.set_cons_zero, List.set_cons_succ]
      refine SeqH.skip (by rfl) ?_
      try simp only [Act.put, List.setIfInBounds_toArray, List.set_cons_zero, List.set_cons_succ]
      refine SeqH.skip (by rfl) ?_
      try simp only [Act.put, List.setIfInBounds_toArray, List.set_cons_zero, List.set_cons_succ]
      refine SeqH.skip (by rfl) ?_
      try simp only [Act.put, List.setIfInBounds_toArray, List.set_cons_zero, List.set_cons_succ]
      refine SeqH.skip (by rfl) ?_
      try simp only [Act.put, List.setIfInBounds_toArray, List.set_cons_zero, List.set_cons_succ]
      refine SeqH.skip (by rfl) ?_
      try simp only [Act.put, List.setIfInBounds_toArray, List.set_cons_zero, List.set_cons_succ]
      refine SeqH.skip (by rfl) ?_
      try simp only [Act.put, List.setIfInBounds_toArray, List.set_cons_zero, List.set_cons_succ]
      refine SeqH.skip (by rfl) ?_
      try simp only [Act.put, List.setIfInBounds_toArray, List.set_cons_zero, List.set_cons_succ]
      refine SeqH.skip (by rfl) ?_
      try simp only [Act.put, List.setIfInBounds_toArray, List.set_cons_zero, List.set_cons_succ]
      refine SeqH.skip (by rfl) ?_
      try simp only [Act.put, List.setIfInBounds_toArray, List.set_cons_zero, List.set_cons_succ]
      refine SeqH.skip (by rfl) ?_
      try simp only [Act.put, List.setIfInBounds_toArray, List.set_cons_zero, List.set_cons_succ]
      refine SeqH.call (fun K hK => ?_)
      go_simp
      skip
      refine hK.out _ _ ?_ (fun hHeld => ?_)
      · exact hHeld
      clear hK K
      try simp only [Act.put, List.setIfInBounds_toArray, List.set_cons_zero, List.set_cons_succ]
      refine SeqH.skip (by rfl) ?_
      try simp only [Act.put, List.setIfInBounds_toArray, List.set_cons_zero, List.set_cons_succ]
      refine SeqH.skip (by rfl) ?_
      try simp only [Act.put, List.setIfInBounds_toArray, List.set_cons_zero, List.set_cons_succ]
      refine SeqH.take (v := ?hv9) (by rfl) ?hy9 ?hr9
      case hy9 =>
       intro w hSw
       try dsimp only at hSw
       go_simp
       try (with_reducible rfl)
      try simp only [Act.put, List.setIfInBounds_toArray, List.set_cons_zero, List.set_cons_succ]
      refine SeqH.done (NoPanic.normal ?_)
      go_wp2
      go_meet
      exact ⟨by rw [EK.out]; rfl, (And.left hHeld)⟩
     obtain ⟨d1, d2⟩ := c1
     have C1i : inB x 0 ((xs.length : Int) - 1) = true := inB_yes d1 d2
     have C1 : ∀ W, Calls Tryd.prog 22 #[.int .i64 x, .int .i64 0, .int .i64 ((xs.length : Int) - 1)] W fun e w' => e = .returned (.bool true) ∧ W = w' := fun W => by
      have h := l00In_any x 0 ((xs.length : Int) - 1) W
      rw [C1i] at h
      exact h
     have C1 := hide C1
     have hw2 : IntKind.i64.wrap (x + 1) = x + 1 := IntWalk.i64_in _ (by omega)
     by_cases c2 : x + 1 ≤ y ∧ y ≤ (xs.length : Int) - 1
     case neg =>
      have EK := Lib.hid (edgeOk_no' HX.out (n := (xs.length : Int)) (by omega))
      have C2i : inB y (x + 1) ((xs.length : Int) - 1) = false := by unfold inB; rw [decide_eq_false_iff_not]; exact c2
      have C2 : ∀ W, Calls Tryd.prog 22 #[.int .i64 y, .int .i64 (x + 1), .int .i64 ((xs.length : Int) - 1)] W fun e w' => e = .returned (.bool false) ∧ W = w' := fun W => by
       have h := l00In_any y (x + 1) ((xs.length : Int) - 1) W
       rw [C2i] at h
       exact h
      have C2 := hide C2
      clear C1i C2i c2
      refine wp_region_noPanic ?_
      refine wp_region_seq (S := (fun W => Below wE.heap.size wE W ∧ W.cell? ⟨wr.heap.size, 0, none⟩ = some (.int .i64 x) ∧ W.cell? ⟨wr.heap.size, 1, none⟩ = some (.int .i64 y) ∧ W.cell? ⟨w.heap.size, 0, none⟩ = some (.slice a xs.length c) ∧ W.cell? ⟨w.heap.size, 1, none⟩ = some (.slice (some ⟨b1, o1, none⟩) es.length rc))) [true, true, true, true, false, true, true, true, true, true, true, true, true, true, false, true, true, true, true, true, true, true, true, true, true, true, true, true, false, true, true, true] (by kernel_rfl) (by kernel_rfl) (by kernel_rfl) rfl (fun _ _ _ _ _ h => h) ?_ (fun hHeld => ?_)
      · exact (unhide BX) _ (Below.refl _ _).drew
      simp only [List.toList_toArray]
      refine SeqH.take (v := ?hv10) (by rfl) ?hy10 ?hr10
      case hy10 =>
       intro w hSw
       try dsimp only at hSw
       go_simp
       try (with_reducible rfl)
      try simp only [Act.put, List.setIfInBounds_toArray, List.set_cons_zero, List.set_cons_succ]
      refine SeqH.take (v := ?hv11) (by rfl) ?hy11 ?hr11
      case hy11 =>
       intro w hSw
       try dsimp only at hSw
       go_simp
       try (with_reducible rfl)
      try simp only [Act.put, List.setIfInBounds_toArray, List.set_cons_zero, List.set_cons_succ]
      refine SeqH.take (v := ?hv12) (by rfl) ?hy12 ?hr12
      case hy12 =>
       intro w hSw
       try dsimp only at hSw
       go_simp
       try (with_reducible rfl)
      try simp only [Act.put, List.setIfInBounds_toArray, List.set_cons_zero, List.set_cons_succ]
      refine SeqH.take (v := ?hv13) (by rfl) ?hy13 ?hr13
      case hy13 =>
       intro w hSw
       try dsimp only at hSw
       go_simp
       try (with_reducible rfl)
      try simp only [Act.put, List.setIfInBounds_toArray, List.set_cons_zero, List.set_cons_succ]
      refine SeqH.call (fun K hK => ?_)
      go_simp
      refine ((unhide C1) _).mono ?_
      rintro e W ⟨rfl, rfl⟩
      go_wp2_with fail
      refine hK.out _ _ ?_ (fun hHeld => ?_)
      · exact hHeld
      clear hK K
      try simp only [Act.put, List.setIfInBounds_toArray, List.set_cons_zero, List.set_cons_succ]
      refine SeqH.take (v := ?hv14) (by rfl) ?hy14 ?hr14
      case hy14 =>
       intro w hSw
       try dsimp only at hSw
       go_simp
       try (with_reducible rfl)
      try simp only [Act.put, List.setIfInBounds_toArray, List.set_cons_zero, List.set_cons_succ]
      refine SeqH.take (v := ?hv15) (by rfl) ?hy15 ?hr15
      case hy15 =>
       intro w hSw
       try dsimp only at hSw
       go_simp
       try (with_reducible rfl)
      try simp only [Act.put, List.setIfInBounds_toArray, List.set_cons_zero, List.set_cons_succ]
      refine SeqH.take (v := ?hv16) (by rfl) ?hy16 ?hr16
      case hy16 =>
       intro w hSw
       try dsimp only at hSw
       go_simp
       try (with_reducible rfl)
      try simp only [Act.put, List.setIfInBounds_toArray, List.set_cons_zero, List.set_cons_succ]
      refine SeqH.take (v := ?hv17) (by rfl) ?hy17 ?hr17
      case hy17 =>
       intro w hSw
       try dsimp only at hSw
       go_simp
       try (with_reducible rfl)
      try simp only [Act.put, List.setIfInBounds_toArray, List.set_cons_zero, List.set_cons_succ]
      refine SeqH.take (v := ?hv18) (by rfl) ?hy18 ?hr18
      case hy18 =>
       intro w hSw
       try dsimp only at hSw
       go_simp
       try (with_reducible rfl)
      try simp only [Act.put, List.setIfInBounds_toArray, List.set_cons_zero, List.set_cons_succ]
      refine SeqH.take (v := ?hv19) (by rfl) ?hy19 ?hr19
      case hy19 =>
       intro w hSw
       try dsimp only at hSw
       go_simp
       try (with_reducible rfl)
      try simp only [Act.put, List.setIfInBounds_toArray, List.set_cons_zero, List.set_cons_succ]
      refine SeqH.take (v := ?hv20) (by rfl) ?hy20 ?hr20
      case hy20 =>
       intro w hSw
       try dsimp only at hSw
       go_simp
       try (with_reducible rfl)
      try simp only [Act.put, List.setIfInBounds_toArray, List.set_cons_zero, List.set_cons_succ]
      refine SeqH.take (v := ?hv21) (by rfl) ?hy21 ?hr21
      case hy21 =>
       intro w hSw
       try dsimp only at hSw
       go_simp
       try (with_reducible rfl)
      try simp only [Act.put, List.setIfInBounds_toArray, List.set_cons_zero, List.set_cons_succ]
      refine SeqH.take (v := ?hv22) (by rfl) ?hy22 ?hr22
      case hy22 =>
       intro w hSw
       try dsimp only at hSw
       go_simp
       try (with_reducible rfl)
      try simp only [Act.put, List.setIfInBounds_toArray, List.set_cons_zero, List.set_cons_succ]
      refine SeqH.call (fun K hK => ?_)
      go_simp
      refine ((unhide C2) _).mono ?_
      rintro e W ⟨rfl, rfl⟩
      go_wp2_with fail
      refine hK.out _ _ ?_ (fun hHeld => ?_)
      · exact hHeld
      clear hK K
      try simp only [Act.put, List.setIfInBounds_toArray, List.set_cons_zero, List.set_cons_succ]
      refine SeqH.take (v := ?hv23) (by rfl) ?hy23 ?hr23
      case hy23 =>
       intro w hSw
       try dsimp only at hSw
       go_simp
       try (with_reducible rfl)
      try simp only [Act.put, List.setIfInBounds_toArray, List.set_cons_zero, List.set_cons_succ]
      refine SeqH.take (v := ?hv24) (by rfl) ?hy24 ?hr24
      case hy24 =>
       intro w hSw
       try dsimp only at hSw
       go_simp
       try (with_reducible rfl)
      try simp only [Act.put, List.setIfInBounds_toArray, List.set_cons_zero, List.set_cons_succ]
      refine SeqH.take (v := ?hv25) (by rfl) ?hy25 ?hr25
      case hy25 =>
       intro w hSw
       try dsimp only at hSw
       go_simp
       try (with_reducible rfl)
      try simp only [Act.put, List.setIfInBounds_toArray, List.set_cons_zero, List.set_cons_succ]
      refine SeqH.skip (by rfl) ?_
      try simp only [Act.put, List.setIfInBounds_toArray, List.set_cons_zero, List.set_cons_succ]
      refine SeqH.skip (by rfl) ?_
      try simp only [Act.put, List.setIfInBounds_toArray, List.set_cons_zero, List.set_cons_succ]
      refine SeqH.skip (by rfl) ?_
      try simp only [Act.put, List.setIfInBounds_toArray, List.set_cons_zero, List.set_cons_succ]
      refine SeqH.skip (by rfl) ?_
      try simp only [Act.put, List.setIfInBounds_toArray, List.set_cons_zero, List.set_cons_succ]
      refine SeqH.skip (by rfl) ?_
      try simp only [Act.put, List.setIfInBounds_toArray, List.set_cons_zero, List.set_cons_succ]
      refine SeqH.skip (by rfl) ?_
      try simp only [Act.put, List.setIfInBounds_toArray, List.set_cons_zero, List.set_cons_succ]
      refine SeqH.skip (by rfl) ?_
      try simp only [Act.put, List.setIfInBounds_toArray, List.set_cons_zero, List.set_cons_succ]
      refine SeqH.skip (by rfl) ?_
      try simp only [Act.put, List.setIfInBounds_toArray, List.set_cons_zero, List.set_cons_succ]
      refine SeqH.skip (by rfl) ?_
      try simp only [Act.put, List.setIfInBounds_toArray, List.set_cons_zero, List.set_cons_succ]
      refine SeqH.skip (by rfl) ?_
      try simp only [Act.put, List.setIfInBounds_toArray, List.set_cons_zero, List.set_cons_succ]
      refine SeqH.call (fun K hK => ?_)
      go_simp
      skip
      refine hK.out _ _ ?_ (fun hHeld => ?_)
      · exact hHeld
      clear hK K
      try simp only [Act.put, List.setIfInBounds_toArray, List.set_cons_zero, List.set_cons_succ]
      refine SeqH.skip (by rfl) ?_
      try simp only [Act.put, List.setIfInBounds_toArray, List.set_cons_zero, List.set_cons_succ]
      refine SeqH.skip (by rfl) ?_
      try simp only [Act.put, List.setIfInBounds_toArray, List.set_cons_zero, List.set_cons_succ]
      refine SeqH.take (v := ?hv26) (by rfl) ?hy26 ?hr26
      case hy26 =>
       intro w hSw
       try dsimp only at hSw
       go_simp
       try (with_reducible rfl)
      try simp only [Act.put, List.setIfInBounds_toArray, List.set_cons_zero, List.set_cons_succ]
      refine SeqH.done (NoPanic.normal ?_)
      go_wp2
      go_meet
      exact ⟨by rw [EK.out]; rfl, (And.left hHeld)⟩
     obtain ⟨d3, d4⟩ := c2
     have C2i : inB y (x + 1) ((xs.length : Int) - 1) = true := inB_yes d3 d4
     have C2 : ∀ W, Calls Tryd.prog 22 #[.int .i64 y, .int .i64 (x + 1), .int .i64 ((xs.length : Int) - 1)] W fun e w' => e = .returned (.bool true) ∧ W = w' := fun W => by
      have h := l00In_any y (x + 1) ((xs.length : Int) - 1) W
      rw [C2i] at h
      exact h
     have C2 := hide C2
     clear C1i C2i
     by_cases k0 : k = 0
     case pos =>
      subst k0
      have EK := Lib.hid (edgeOk_zero' HX.out (n := (xs.length : Int)) (by omega) (by omega) (by omega))
      have q5 : decide ((0 : Int) < ((0 : Nat) : Int)) = false := rfl
      refine wp_region_noPanic ?_
      refine wp_region_seq (S := (fun W => Below wE.heap.size wE W ∧ W.cell? ⟨wr.heap.size, 0, none⟩ = some (.int .i64 x) ∧ W.cell? ⟨wr.heap.size, 1, none⟩ = some (.int .i64 y) ∧ W.cell? ⟨w.heap.size, 0, none⟩ = some (.slice a xs.length c) ∧ W.cell? ⟨w.heap.size, 1, none⟩ = some (.slice (some ⟨b1, o1, none⟩) es.length rc))) [true, true, true, true, false, true, true, true, true, true, true, true, true, true, false, true, true, true, true, true, true, true, true, true, true, true, true, true, false, true, true, true] (by kernel_rfl) (by kernel_rfl) (by kernel_rfl) rfl (fun _ _ _ _ _ h => h) ?_ (fun hHeld => ?_)
      · exact (unhide BX) _ (Below.refl _ _).drew
      simp only [List.toList_toArray]
      refine SeqH.take (v := ?hv27) (by rfl) ?hy27 ?hr27
      case hy27 =>
       intro w hSw
       try dsimp only at hSw
       go_simp
       try (with_reducible rfl)
      try simp only [Act.put, List.setIfInBounds_toArray, List.set_cons_zero, List.set_cons_succ]
      refine SeqH.take (v := ?hv28) (by rfl) ?hy28 ?hr28
      case hy28 =>
       intro w hSw
       try dsimp only at hSw
       go_simp
       try (with_reducible rfl)
      try simp only [Act.put, List.setIfInBounds_toArray, List.set_cons_zero, List.set_cons_succ]
      refine SeqH.take (v := ?hv29) (by rfl) ?hy29 ?hr29
      case hy29 =>
       intro w hSw
       try dsimp only at hSw
       go_simp
       try (with_reducible rfl)
      try simp only [Act.put, List.setIfInBounds_toArray, List.set_cons_zero, List.set_cons_succ]
      refine SeqH.take (v := ?hv30) (by rfl) ?hy30 ?hr30
      case hy30 =>
       intro w hSw
       try dsimp only at hSw
       go_simp
       try (with_reducible rfl)
      try simp only [Act.put, List.setIfInBounds_toArray, List.set_cons_zero, List.set_cons_succ]
      refine SeqH.call (fun K hK => ?_)
      go_simp
      refine ((unhide C1) _).mono ?_
      rintro e W ⟨rfl, rfl⟩
      go_wp2_with fail
      refine hK.out _ _ ?_ (fun hHeld => ?_)
      · exact hHeld
      clear hK K
      try simp only [Act.put, List.setIfInBounds_toArray, List.set_cons_zero, List.set_cons_succ]
      refine SeqH.take (v := ?hv31) (by rfl) ?hy31 ?hr31
      case hy31 =>
       intro w hSw
       try dsimp only at hSw
       go_simp
       try (with_reducible rfl)
      try simp only [Act.put, List.setIfInBounds_toArray, List.set_cons_zero, List.set_cons_succ]
      refine SeqH.take (v := ?hv32) (by rfl) ?hy32 ?hr32
      case hy32 =>
       intro w hSw
       try dsimp only at hSw
       go_simp
       try (with_reducible rfl)
      try simp only [Act.put, List.setIfInBounds_toArray, List.set_cons_zero, List.set_cons_succ]
      refine SeqH.take (v := ?hv33) (by rfl) ?hy33 ?hr33
      case hy33 =>
       intro w hSw
       try dsimp only at hSw
       go_simp
       try (with_reducible rfl)
      try simp only [Act.put, List.setIfInBounds_toArray, List.set_cons_zero, List.set_cons_succ]
      refine SeqH.take (v := ?hv34) (by rfl) ?hy34 ?hr34
      case hy34 =>
       intro w hSw
       try dsimp only at hSw
       go_simp
       try (with_reducible rfl)
      try simp only [Act.put, List.setIfInBounds_toArray, List.set_cons_zero, List.set_cons_succ]
      refine SeqH.take (v := ?hv35) (by rfl) ?hy35 ?hr35
      case hy35 =>
       intro w hSw
       try dsimp only at hSw
       go_simp
       try (with_reducible rfl)
      try simp only [Act.put, List.setIfInBounds_toArray, List.set_cons_zero, List.set_cons_succ]
      refine SeqH.take (v := ?hv36) (by rfl) ?hy36 ?hr36
      case hy36 =>
       intro w hSw
       try dsimp only at hSw
       go_simp
       try (with_reducible rfl)
      try simp only [Act.put, List.setIfInBounds_toArray, List.set_cons_zero, List.set_cons_succ]
      refine SeqH.take (v := ?hv37) (by rfl) ?hy37 ?hr37
      case hy37 =>
       intro w hSw
       try dsimp only at hSw
       go_simp
       try (with_reducible rfl)
      try simp only [Act.put, List.setIfInBounds_toArray, List.set_cons_zero, List.set_cons_succ]
      refine SeqH.take (v := ?hv38) (by rfl) ?hy38 ?hr38
      case hy38 =>
       intro w hSw
       try dsimp only at hSw
       go_simp
       try (with_reducible rfl)
      try simp only [Act.put, List.setIfInBounds_toArray, List.set_cons_zero, List.set_cons_succ]
      refine SeqH.take (v := ?hv39) (by rfl) ?hy39 ?hr39
      case hy39 =>
       intro w hSw
       try dsimp only at hSw
       go_simp
       try (with_reducible rfl)
      try simp only [Act.put, List.setIfInBounds_toArray, List.set_cons_zero, List.set_cons_succ]
      refine SeqH.call (fun K hK => ?_)
      go_simp
      refine ((unhide C2) _).mono ?_
      rintro e W ⟨rfl, rfl⟩
      go_wp2_with fail
      refine hK.out _ _ ?_ (fun hHeld => ?_)
      · exact hHeld
      clear hK K
      try simp only [Act.put, List.setIfInBounds_toArray, List.set_cons_zero, List.set_cons_succ]
      refine SeqH.take (v := ?hv40) (by rfl) ?hy40 ?hr40
      case hy40 =>
       intro w hSw
       try dsimp only at hSw
       go_simp
       try (with_reducible rfl)
      try simp only [Act.put, List.setIfInBounds_toArray, List.set_cons_zero, List.set_cons_succ]
      refine SeqH.take (v := ?hv41) (by rfl) ?hy41 ?hr41
      case hy41 =>
       intro w hSw
       try dsimp only at hSw
       go_simp
       try (with_reducible rfl)
      try simp only [Act.put, List.setIfInBounds_toArray, List.set_cons_zero, List.set_cons_succ]
      refine SeqH.take (v := ?hv42) (by rfl) ?hy42 ?hr42
      case hy42 =>
       intro w hSw
       try dsimp only at hSw
       go_simp
       try (with_reducible rfl)
      try simp only [Act.put, List.setIfInBounds_toArray, List.set_cons_zero, List.set_cons_succ]
      refine SeqH.take (v := ?hv43) (by rfl) ?hy43 ?hr43
      case hy43 =>
       intro w hSw
       try dsimp only at hSw
       go_simp
       try (with_reducible rfl)
      try simp only [Act.put, List.setIfInBounds_toArray, List.set_cons_zero, List.set_cons_succ]
      refine SeqH.take (v := ?hv44) (by rfl) ?hy44 ?hr44
      case hy44 =>
       intro w hSw
       try dsimp only at hSw
       go_simp
       try (with_reducible rfl)
      try simp only [Act.put, List.setIfInBounds_toArray, List.set_cons_zero, List.set_cons_succ]
      refine SeqH.take (v := ?hv45) (by rfl) ?hy45 ?hr45
      case hy45 =>
       intro w hSw
       try dsimp only at hSw
       go_simp
       try (with_reducible rfl)
      try simp only [Act.put, List.setIfInBounds_toArray, List.set_cons_zero, List.set_cons_succ]
      refine SeqH.skip (by rfl) ?_
      try simp only [Act.put, List.setIfInBounds_toArray, List.set_cons_zero, List.set_cons_succ]
      refine SeqH.skip (by rfl) ?_
      try simp only [Act.put, List.setIfInBounds_toArray, List.set_cons_zero, List.set_cons_succ]
      refine SeqH.skip (by rfl) ?_
      try simp only [Act.put, List.setIfInBounds_toArray, List.set_cons_zero, List.set_cons_succ]
      refine SeqH.skip (by rfl) ?_
      try simp only [Act.put, List.setIfInBounds_toArray, List.set_cons_zero, List.set_cons_succ]
      refine SeqH.skip (by rfl) ?_
      try simp only [Act.put, List.setIfInBounds_toArray, List.set_cons_zero, List.set_cons_succ]
      refine SeqH.skip (by rfl) ?_
      try simp only [Act.put, List.setIfInBounds_toArray, List.set_cons_zero, List.set_cons_succ]
      refine SeqH.skip (by rfl) ?_
      try simp only [Act.put, List.setIfInBounds_toArray, List.set_cons_zero, List.set_cons_succ]
      refine SeqH.call (fun K hK => ?_)
      go_simp
      skip
      refine hK.out _ _ ?_ (fun hHeld => ?_)
      · exact hHeld
      clear hK K
      try simp only [Act.put, List.setIfInBounds_toArray, List.set_cons_zero, List.set_cons_succ]
      refine SeqH.skip (by rfl) ?_
      try simp only [Act.put, List.setIfInBounds_toArray, List.set_cons_zero, List.set_cons_succ]
      refine SeqH.take (v := ?hv46) (by rfl) ?hy46 ?hr46
      case hy46 =>
       intro w hSw
       try dsimp only at hSw
       go_simp
       try (with_reducible rfl)
      try simp only [Act.put, List.setIfInBounds_toArray, List.set_cons_zero, List.set_cons_succ]
      refine SeqH.take (v := ?hv47) (by rfl) ?hy47 ?hr47
      case hy47 =>
       intro w hSw
       try dsimp only at hSw
       go_simp
       try (with_reducible rfl)
      try simp only [Act.put, List.setIfInBounds_toArray, List.set_cons_zero, List.set_cons_succ]
      refine SeqH.done (NoPanic.normal ?_)
      go_wp2
      go_meet
      exact ⟨by rw [EK.out]; rfl, (And.left hHeld)⟩
     obtain ⟨m, rfl⟩ : ∃ m, k = m + 1 := ⟨k - 1, by omega⟩
     obtain ⟨hq0, hq1⟩ := (unhide HP) k0
     have hek := edgeOk_less' HX.out (n := (xs.length : Int)) k0 (by omega) (by omega) (by omega)
     simp only [Nat.add_sub_cancel] at hq0 hq1 hek
     obtain ⟨px, hpx⟩ : ∃ z, z = (nthE es m).1 := ⟨_, rfl⟩
     obtain ⟨py, hpy⟩ : ∃ z, z = (nthE es m).2 := ⟨_, rfl⟩
     rw [← hpx] at hq0
     rw [← hpy] at hq1
     have hpe : nthE es m = (px, py) := by rw [hpx, hpy]
     rw [hpe] at hek
     have EK := Lib.hid hek
     have key2 : ∀ W : World, Below wE.heap.size wE W → (Below wE.heap.size wE W ∧ W.cell? ⟨wr.heap.size, 0, none⟩ = some (.int .i64 x) ∧ W.cell? ⟨wr.heap.size, 1, none⟩ = some (.int .i64 y) ∧ W.cell? ⟨w.heap.size, 0, none⟩ = some (.slice a xs.length c) ∧ W.cell? ⟨w.heap.size, 1, none⟩ = some (.slice (some ⟨b1, o1, none⟩) es.length rc) ∧ W.cell? ⟨b1, o1 + m * 2, none⟩ = some (.int .i64 px) ∧ W.cell? ⟨b1, o1 + m * 2 + 1, none⟩ = some (.int .i64 py)) := fun W h => ⟨h, (h.cell kE.lt).trans e0, (h.cell kE.lt).trans e1, (h.cell krE.lt).trans g0, (h.cell krE.lt).trans g1, (h.cell (World.block_lt_of_cell? wE _ hq0)).trans hq0, (h.cell (World.block_lt_of_cell? wE _ hq1)).trans hq1⟩
     have BY := hide key2
     clear key2 hq0 hq1 HP hek k0 hpx hpy hpe
     have hw3 : IntKind.i64.wrap (m : Int) = (m : Int) := IntWalk.i64_in _ (by omega)
     have hml : m < es.length := by omega
     have q5 : decide ((0 : Int) < ((m + 1 : Nat) : Int)) = true := decide_eq_true (by omega)
     have q6 : decide ((0 : Int) < (m : Int) + 1) = true := decide_eq_true (by omega)
     refine wp_region_noPanic ?_
     refine wp_region_seq (S := (fun W => Below wE.heap.size wE W ∧ W.cell? ⟨wr.heap.size, 0, none⟩ = some (.int .i64 x) ∧ W.cell? ⟨wr.heap.size, 1, none⟩ = some (.int .i64 y) ∧ W.cell? ⟨w.heap.size, 0, none⟩ = some (.slice a xs.length c) ∧ W.cell? ⟨w.heap.size, 1, none⟩ = some (.slice (some ⟨b1, o1, none⟩) es.length rc) ∧ W.cell? ⟨b1, o1 + m * 2, none⟩ = some (.int .i64 px) ∧ W.cell? ⟨b1, o1 + m * 2 + 1, none⟩ = some (.int .i64 py))) [true, true, true, true, false, true, true, true, true, true, true, true, true, true, false, true, true, true, true, true, true, true, true, true, true, true, true, true, false, true, true, true] (by kernel_rfl) (by kernel_rfl) (by kernel_rfl) rfl (fun _ _ _ _ _ h => h) ?_ (fun hHeld => ?_)
     · exact (unhide BY) _ (Below.refl _ _).drew
     simp only [List.toList_toArray]
     refine SeqH.take (v := ?hv48) (by rfl) ?hy48 ?hr48
     case hy48 =>
      intro w hSw
      try dsimp only at hSw
      go_simp
      try (with_reducible rfl)
     try simp only [Act.put, List.setIfInBounds_toArray, List.set_cons_zero, List.set_cons_succ]
     refine SeqH.take (v := ?hv49) (by rfl) ?hy49 ?hr49
     case hy49 =>
      intro w hSw
      try dsimp only at hSw
      go_simp
      try (with_reducible rfl)
     try simp only [Act.put, List.setIfInBounds_toArray, List.set_cons_zero, List.set_cons_succ]
     refine SeqH.take (v := ?hv50) (by rfl) ?hy50 ?hr50
     case hy50 =>
      intro w hSw
      try dsimp only at hSw
      go_simp
      try (with_reducible rfl)
     try simp only [Act.put, List.setIfInBounds_toArray, List.set_cons_zero, List.set_cons_succ]
     refine SeqH.take (v := ?hv51) (by rfl) ?hy51 ?hr51
     case hy51 =>
      intro w hSw
      try dsimp only at hSw
      go_simp
      try (with_reducible rfl)
     try simp only [Act.put, List.setIfInBounds_toArray, List.set_cons_zero, List.set_cons_succ]
     refine SeqH.call (fun K hK => ?_)
     go_simp
     refine ((unhide C1) _).mono ?_
     rintro e W ⟨rfl, rfl⟩
     go_wp2_with fail
     refine hK.out _ _ ?_ (fun hHeld => ?_)
     · exact hHeld
     clear hK K
     try simp only [Act.put, List.setIfInBounds_toArray, List.set_cons_zero, List.set_cons_succ]
     refine SeqH.take (v := ?hv52) (by rfl) ?hy52 ?hr52
     case hy52 =>
      intro w hSw
      try dsimp only at hSw
      go_simp
      try (with_reducible rfl)
     try simp only [Act.put, List.setIfInBounds_toArray, List.set_cons_zero, List.set_cons_succ]
     refine SeqH.take (v := ?hv53) (by rfl) ?hy53 ?hr53
     case hy53 =>
      intro w hSw
      try dsimp only at hSw
      go_simp
      try (with_reducible rfl)
     try simp only [Act.put, List.setIfInBounds_toArray, List.set_cons_zero, List.set_cons_succ]
     refine SeqH.take (v := ?hv54) (by rfl) ?hy54 ?hr54
     case hy54 =>
      intro w hSw
      try dsimp only at hSw
      go_simp
      try (with_reducible rfl)
     try simp only [Act.put, List.setIfInBounds_toArray, List.set_cons_zero, List.set_cons_succ]
     refine SeqH.take (v := ?hv55) (by rfl) ?hy55 ?hr55
     case hy55 =>
      intro w hSw
      try dsimp only at hSw
      go_simp
      try (with_reducible rfl)
     try simp only [Act.put, List.setIfInBounds_toArray, List.set_cons_zero, List.set_cons_succ]
     refine SeqH.take (v := ?hv56) (by rfl) ?hy56 ?hr56
     case hy56 =>
      intro w hSw
      try dsimp only at hSw
      go_simp
      try (with_reducible rfl)
     try simp only [Act.put, List.setIfInBounds_toArray, List.set_cons_zero, List.set_cons_succ]
     refine SeqH.take (v := ?hv57) (by rfl) ?hy57 ?hr57
     case hy57 =>
      intro w hSw
      try dsimp only at hSw
      go_simp
      try (with_reducible rfl)
     try simp only [Act.put, List.setIfInBounds_toArray, List.set_cons_zero, List.set_cons_succ]
     refine SeqH.take (v := ?hv58) (by rfl) ?hy58 ?hr58
     case hy58 =>
      intro w hSw
      try dsimp only at hSw
      go_simp
      try (with_reducible rfl)
     try simp only [Act.put, List.setIfInBounds_toArray, List.set_cons_zero, List.set_cons_succ]
     refine SeqH.take (v := ?hv59) (by rfl) ?hy59 ?hr59
     case hy59 =>
      intro w hSw
      try dsimp only at hSw
      go_simp
      try (with_reducible rfl)
     try simp only [Act.put, List.setIfInBounds_toArray, List.set_cons_zero, List.set_cons_succ]
     refine SeqH.take (v := ?hv60) (by rfl) ?hy60 ?hr60
     case hy60 =>
      intro w hSw
      try dsimp only at hSw
      go_simp
      try (with_reducible rfl)
     try simp only [Act.put, List.setIfInBounds_toArray, List.set_cons_zero, List.set_cons_succ]
     refine SeqH.call (fun K hK => ?_)
     go_simp
     refine ((unhide C2) _).mono ?_
     rintro e W ⟨rfl, rfl⟩
     go_wp2_with fail
     refine hK.out _ _ ?_ (fun hHeld => ?_)
     · exact hHeld
     clear hK K
     try simp only [Act.put, List.setIfInBounds_toArray, List.set_cons_zero, List.set_cons_succ]
     refine SeqH.take (v := ?hv61) (by rfl) ?hy61 ?hr61
     case hy61 =>
      intro w hSw
      try dsimp only at hSw
      go_simp
      try (with_reducible rfl)
     try simp only [Act.put, List.setIfInBounds_toArray, List.set_cons_zero, List.set_cons_succ]
     refine SeqH.take (v := ?hv62) (by rfl) ?hy62 ?hr62
     case hy62 =>
      intro w hSw
      try dsimp only at hSw
      go_simp
      try (with_reducible rfl)
     try simp only [Act.put, List.setIfInBounds_toArray, List.set_cons_zero, List.set_cons_succ]
     refine SeqH.take (v := ?hv63) (by rfl) ?hy63 ?hr63
     case hy63 =>
      intro w hSw
      try dsimp only at hSw
      go_simp
      try (with_reducible rfl)
     try simp only [Act.put, List.setIfInBounds_toArray, List.set_cons_zero, List.set_cons_succ]
     refine SeqH.take (v := ?hv64) (by rfl) ?hy64 ?hr64
     case hy64 =>
      intro w hSw
      try dsimp only at hSw
      go_simp
      try (with_reducible rfl)
     try simp only [Act.put, List.setIfInBounds_toArray, List.set_cons_zero, List.set_cons_succ]
     refine SeqH.take (v := ?hv65) (by rfl) ?hy65 ?hr65
     case hy65 =>
      intro w hSw
      try dsimp only at hSw
      go_simp
      try (with_reducible rfl)
     try simp only [Act.put, List.setIfInBounds_toArray, List.set_cons_zero, List.set_cons_succ]
     refine SeqH.take (v := ?hv66) (by rfl) ?hy66 ?hr66
     case hy66 =>
      intro w hSw
      try dsimp only at hSw
      go_simp
      try (with_reducible rfl)
     try simp only [Act.put, List.setIfInBounds_toArray, List.set_cons_zero, List.set_cons_succ]
     refine SeqH.take (v := ?hv67) (by rfl) ?hy67 ?hr67
     case hy67 =>
      intro w hSw
      try dsimp only at hSw
      go_simp
      try (with_reducible rfl)
     try simp only [Act.put, List.setIfInBounds_toArray, List.set_cons_zero, List.set_cons_succ]
     refine SeqH.take (v := ?hv68) (by rfl) ?hy68 ?hr68
     case hy68 =>
      intro w hSw
      try dsimp only at hSw
      go_simp
      try (with_reducible rfl)
     try simp only [Act.put, List.setIfInBounds_toArray, List.set_cons_zero, List.set_cons_succ]
     refine SeqH.take (v := ?hv69) (by rfl) ?hy69 ?hr69
     case hy69 =>
      intro w hSw
      try dsimp only at hSw
      go_simp
      try (with_reducible rfl)
     try simp only [Act.put, List.setIfInBounds_toArray, List.set_cons_zero, List.set_cons_succ]
     refine SeqH.take (v := ?hv70) (by rfl) ?hy70 ?hr70
     case hy70 =>
      intro w hSw
      try dsimp only at hSw
      go_simp
      try (with_reducible rfl)
     try simp only [Act.put, List.setIfInBounds_toArray, List.set_cons_zero, List.set_cons_succ]
     refine SeqH.take (v := ?hv71) (by rfl) ?hy71 ?hr71
     case hy71 =>
      intro w hSw
      try dsimp only at hSw
      go_simp
      try (with_reducible rfl)
     try simp only [Act.put, List.setIfInBounds_toArray, List.set_cons_zero, List.set_cons_succ]
     refine SeqH.take (v := ?hv72) (by rfl) ?hy72 ?hr72
     case hy72 =>
      intro w hSw
      try dsimp only at hSw
      go_simp
      try (with_reducible rfl)
     try simp only [Act.put, List.setIfInBounds_toArray, List.set_cons_zero, List.set_cons_succ]
     refine SeqH.take (v := ?hv73) (by rfl) ?hy73 ?hr73
     case hy73 =>
      intro w hSw
      try dsimp only at hSw
      go_simp
      try (with_reducible rfl)
     try simp only [Act.put, List.setIfInBounds_toArray, List.set_cons_zero, List.set_cons_succ]
     refine SeqH.call (fun K hK => ?_)
     go_simp
     refine (l21Less_any (px, py) (x, y) _).mono ?_
     rintro e W3 ⟨rfl, bb3⟩
     have hB3 := Below.chain (a := wE) (And.left hHeld) bb3
     go_wp2_with fail
     refine hK.out _ _ ?_ (fun hHeld => ?_)
     · exact (unhide BY) _ hB3
     clear hK K
     try simp only [Act.put, List.setIfInBounds_toArray, List.set_cons_zero, List.set_cons_succ]
     refine SeqH.take (v := ?hv74) (by rfl) ?hy74 ?hr74
     case hy74 =>
      intro w hSw
      try dsimp only at hSw
      go_simp
      try (with_reducible rfl)
     try simp only [Act.put, List.setIfInBounds_toArray, List.set_cons_zero, List.set_cons_succ]
     refine SeqH.take (v := ?hv75) (by rfl) ?hy75 ?hr75
     case hy75 =>
      intro w hSw
      try dsimp only at hSw
      go_simp
      try (with_reducible rfl)
     try simp only [Act.put, List.setIfInBounds_toArray, List.set_cons_zero, List.set_cons_succ]
     refine SeqH.take (v := ?hv76) (by rfl) ?hy76 ?hr76
     case hy76 =>
      intro w hSw
      try dsimp only at hSw
      go_simp
      try (with_reducible rfl)
     try simp only [Act.put, List.setIfInBounds_toArray, List.set_cons_zero, List.set_cons_succ]
     refine SeqH.done (NoPanic.normal ?_)
     go_wp2
     go_meet
     exact ⟨by rw [EK.out], hB3⟩
    case rest =>
     obtain ⟨rfl, hbc⟩ := hcut
     obtain ⟨wc, hwc⟩ : ∃ z, z = wOf hbc := ⟨_, rfl⟩
     unfold wOf at hwc
     subst hwc
     have hbc0 : Below w0.heap.size w0 wc := hbE0.trans (hbc.mono (by omega))
     obtain ⟨r, hr⟩ : ∃ r, edgeOk xs.length es k = r := ⟨_, rfl⟩
     rw [hr]
     have HK := Lib.hid hr
     clear hr
     cases r
     · go_wp2
       go_ret
       exact ⟨ret_bool (okG_no hkl HK.out).symm, hb0.trans (hbc0.mono (by omega))⟩
     · go_wp2
       go_roundw
       case rel =>
        refine ⟨k + 1, by go_num, by omega, hbc0, fun j hj => ?_⟩
        rcases Nat.lt_succ_iff_lt_or_eq.1 hj with h | rfl
        · exact hq.out j h
        · exact HK.out
       case measure => simp [intOf]; omega
  · go_wp2
    go_ret
    exact ⟨ret_bool (by rw [okG_yes (fun j hj => hq.out j (by omega)), HR.out, decide_eq_true (by omega)]; rfl), hb1⟩
end Go.Proofs.YtgfcbmflnldicaaDoor
namespace Go.Proofs.YtgfcbmflnldicaaDoor
open Go.RowKit
attribute [local go_sem ↓] Go.wp_at_zero Go.wp_at_succ
theorem geq_less (e f : Int × Int) : decide (0 ≤ cmpE e f) = !lessE e f := by
 unfold lessE
 rw [Bool.eq_iff_iff]; simp
theorem implValidGraph_any (a ra : Option Addr) (c rc : Nat) (xs : List Int) (es : List (Int × Int)) (w : World) (hx : Rd w a xs) (hes : RdE w ra es) :
    Calls Tryd.prog 15 #[.agg #[.slice a xs.length c, .slice ra es.length rc]] w fun e w' => e = .returned (.bool (okG xs es)) ∧ Below w.heap.size w w' := by
 have hxl := hx.len
 have hel := hes.len
 obtain ⟨w0, hw0⟩ : ∃ w0, w0 = w.alloc (.cells #[.slice a xs.length c, .slice ra es.length rc] 30) := ⟨_, rfl⟩
 have hb0 : Below w.heap.size w w0 := by rw [hw0]; exact (Below.refl _ _).alloc (Nat.le_refl _) _
 have kA : Blk w0 w.heap.size 30 #[.slice a xs.length c, .slice ra es.length rc] := by rw [hw0]; exact Blk.new _ _ _ rfl
 have s0 : w0.heap.size = w.heap.size + 1 := by rw [hw0]; simp
 have f0 : w0.cell? ⟨w.heap.size, 0, none⟩ = some (.slice a xs.length c) := kA.cell 0
 have f1 : w0.cell? ⟨w.heap.size, 1, none⟩ = some (.slice ra es.length rc) := kA.cell 1
 rw [hw0] at f0 f1
 have HW := Lib.hid hw0
 clear hw0
 go_enter Tryd.func15, Tryd.ntmps15
 go_wp2_with fail
 rw [← HW.out] at f0 f1 ⊢
 go_loopw [8] (fun i wr => ∃ (k : Nat), i = .int .i64 k ∧ k ≤ es.length ∧ Below w0.heap.size w0 wr ∧ Hid (∀ j, j < k → edgeOk xs.length es j = true)) (fun i _ => es.length - (intOf i).toNat)
 case atStart => exact ⟨0, rfl, by omega, Below.refl _ _, fun j hj => by omega⟩
 case round =>
  obtain ⟨k, rfl, hk, hb, hq⟩ := hrel
  have sr := hb.size
  have hb1 := hb0.trans (hb.mono (by omega))
  have kr := kA.below hb kA.lt
  clear f0 f1
  have f0 : wr.cell? ⟨w.heap.size, 0, none⟩ = some (.slice a xs.length c) := kr.cell 0
  have f1 : wr.cell? ⟨w.heap.size, 1, none⟩ = some (.slice ra es.length rc) := kr.cell 1
  have HB := Lib.hid hb
  by_cases hkl : k < es.length
  · obtain ⟨b1, o1, rfl, hbb, hcx⟩ := hes.at_ (by omega)
    have hx1 := (hb1.cell (p := ⟨b1, o1 + k * 2, none⟩) hbb).trans (hcx k hkl).1
    have hx2 := (hb1.cell (p := ⟨b1, o1 + k * 2 + 1, none⟩) hbb).trans (hcx k hkl).2
    obtain ⟨x, hxx⟩ : ∃ z, z = (nthE es k).1 := ⟨_, rfl⟩
    obtain ⟨y, hyy⟩ : ∃ z, z = (nthE es k).2 := ⟨_, rfl⟩
    rw [← hxx] at hx1
    rw [← hyy] at hx2
    have HX : Hid (nthE es k = (x, y)) := by show _ = _; rw [hxx, hyy]
    obtain ⟨wE, hwE⟩ : ∃ wE, wE = wr.alloc (.cells #[.int .i64 x, .int .i64 y] 41) := ⟨_, rfl⟩
    have hbE : Below wr.heap.size wr wE := by rw [hwE]; exact (Below.refl _ _).alloc (Nat.le_refl _) _
    have hbE0 : Below w0.heap.size w0 wE := hb.trans (hbE.mono sr)
    have hbEw := hb0.trans (hbE0.mono (by omega))
    have sE : wE.heap.size = wr.heap.size + 1 := by rw [hwE]; simp
    have kE : Blk wE wr.heap.size 41 #[.int .i64 x, .int .i64 y] := by rw [hwE]; exact Blk.new _ _ _ rfl
    have krE := kA.below hbE0 kA.lt
    have hp : k ≠ 0 → wE.cell? ⟨b1, o1 + (k - 1) * 2, none⟩ = some (.int .i64 (nthE es (k - 1)).1) ∧ wE.cell? ⟨b1, o1 + (k - 1) * 2 + 1, none⟩ = some (.int .i64 (nthE es (k - 1)).2) := fun _ =>
     ⟨(hbEw.cell hbb).trans (hcx (k - 1) (by omega)).1, (hbEw.cell hbb).trans (hcx (k - 1) (by omega)).2⟩
    have HWE := Lib.hid hwE
    have HP := hide hp
    clear hwE hp hcx hes hx hb hxx hyy
    go_upto_region 4 with fail
    rw [← HWE.out]
    have e0 : wE.cell? ⟨wr.heap.size, 0, none⟩ = some (.int .i64 x) := kE.cell 0
    have e1 : wE.cell? ⟨wr.heap.size, 1, none⟩ = some (.int .i64 y) := kE.cell 1
    have g0 : wE.cell? ⟨w.heap.size, 0, none⟩ = some (.slice a xs.length c) := krE.cell 0
    have g1 : wE.cell? ⟨w.heap.size, 1, none⟩ = some (.slice (some ⟨b1, o1, none⟩) es.length rc) := krE.cell 1
    go_cut [45] (fun v wx => v = .bool (!edgeOk xs.length es k) ∧ Below wE.heap.size wE wx)
    case first =>
     have key : ∀ W : World, Below wE.heap.size wE W → (Below wE.heap.size wE W ∧ W.cell? ⟨wr.heap.size, 0, none⟩ = some (.int .i64 x) ∧ W.cell? ⟨wr.heap.size, 1, none⟩ = some (.int .i64 y) ∧ W.cell? ⟨w.heap.size, 0, none⟩ = some (.slice a xs.length c) ∧ W.cell? ⟨w.heap.size, 1, none⟩ = some (.slice (some ⟨b1, o1, none⟩) es.length rc)) := fun W h => ⟨h, (h.cell kE.lt).trans e0, (h.cell kE.lt).trans e1, (h.cell krE.lt).trans g0, (h.cell krE.lt).trans g1⟩
     have BX := hide key
     have hZ := fun W => size_any a xs.length c W
     have HZ := hide hZ
     clear hZ
     by_cases d1 : 0 ≤ x
     case neg =>
      have EK := Lib.hid (edgeOk_no' HX.out (n := (xs.length : Int)) (by omega))
      have q1 : decide (x < 0) = true := decide_eq_true (by omega)
      refine wp_region_noPanic ?_
      refine wp_region_seq (S := (fun W => Below wE.heap.size wE W ∧ W.cell? ⟨wr.heap.size, 0, none⟩ = some (.int .i64 x) ∧ W.cell? ⟨wr.heap.size, 1, none⟩ = some (.int .i64 y) ∧ W.cell? ⟨w.heap.size, 0, none⟩ = some (.slice a xs.length c) ∧ W.cell? ⟨w.heap.size, 1, none⟩ = some (.slice (some ⟨b1, o1, none⟩) es.length rc))) [true, true, true, true, true, true, true, true, true, true, true, true, true, true, true, false, true, true, true, true, true, true, true, true, true, true, true, true, true, false, true, true, true] (by kernel_rfl) (by kernel_rfl) (by kernel_rfl) rfl (fun _ _ _ _ _ h => h) ?_ (fun hHeld => ?_)
      · exact (unhide BX) _ (Below.refl _ _).drew
      simp only [List.toList_toArray]
      refine SeqH.take (v := ?hv77) (by rfl) ?hy77 ?hr77
      case hy77 =>
       intro w hSw
       try dsimp only at hSw
       go_simp
       try (with_reducible rfl)
      try simp only [Act.put, List.setIfInBounds_toArray, List.set_cons_zero, List.set_cons_succ]
      refine SeqH.take (v := ?hv78) (by rfl) ?hy78 ?hr78
      case hy78 =>
       intro w hSw
       try dsimp only at hSw
       go_simp
       try (with_reducible rfl)
      try simp only [Act.put, List.setIfInBounds_toArray, List.set_cons_zero, List.set_cons_succ]
      refine SeqH.take (v := ?hv79) (by rfl) ?hy79 ?hr79
      case hy79 =>
       intro w hSw
       try dsimp only at hSw
       go_simp
       try (with_reducible rfl)
      try simp only [Act.put, List.setIfInBounds_toArray, List.set_cons_zero, List.set_cons_succ]
      refine SeqH.take (v := ?hv80) (by rfl) ?hy80 ?hr80
      case hy80 =>
       intro w hSw
       try dsimp only at hSw
       go_simp
       try (with_reducible rfl)
      try simp only [Act.put, List.setIfInBounds_toArray, List.set_cons_zero, List.set_cons_succ]
      refine SeqH.skip (by rfl) ?_
      try simp only [Act.put, List.setIfInBounds_toArray, List.set_cons_zero, List.set_cons_succ]
      refine SeqH.skip (by rfl) ?_
      try simp only [Act.put, List.setIfInBounds_toArray, List.set_cons_zero, List.set_cons_succ]
      refine SeqH.skip (by rfl) ?_
      try simp only [Act.put, List.setIfInBounds_toArray, List.set_cons_zero, List.set_cons_succ]
      refine SeqH.skip (by rfl) ?_
      try simp only [Act.put, List.setIfInBounds_toArray, List.set_cons_zero, List.set_cons_succ]
      refine SeqH.skip (by rfl) ?_
      try simp only [Act.put, List.setIfInBounds_toArray, List.set_cons_zero, List.set_cons_succ]
      refine SeqH.take (v := ?hv81) (by rfl) ?hy81 ?hr81
      case hy81 =>
       intro w hSw
       try dsimp only at hSw
       go_simp
       try (with_reducible rfl)
      try simp only [Act.put, List.setIfInBounds_toArray, List.set_cons_zero, List.set_cons_succ]
      refine SeqH.take (v := ?hv82) (by rfl) ?hy82 ?hr82
      case hy82 =>
       intro w hSw
       try dsimp only at hSw
       go_simp
       try (with_reducible rfl)
      try simp only [Act.put, List.setIfInBounds_toArray, List.set_cons_zero, List.set_cons_succ]
      refine SeqH.skip (by rfl) ?_
      try simp only [Act.put, List.setIfInBounds_toArray, List.set_cons_zero, List.set_cons_succ]
      refine SeqH.skip (by rfl) ?_
      try simp only [Act.put, List.setIfInBounds_toArray, List.set_cons_zero, List.set_cons_succ]
      refine SeqH.skip (by rfl) ?_
      try simp only [Act.put, List.setIfInBounds_toArray, List.set_cons_zero, List.set_cons_succ]
      refine SeqH.skip (by rfl) ?_
      try simp only [Act.put, List.setIfInBounds_toArray, List.set_cons_zero, List.set_cons_succ]
      refine SeqH.call (fun K hK => ?_)
      go_simp
      skip
      refine hK.out _ _ ?_ (fun hHeld => ?_)
      · exact hHeld
      clear hK K
      try simp only [Act.put, List.setIfInBounds_toArray, List.set_cons_zero, List.set_cons_succ]
      refine SeqH.skip (by rfl) ?_
      try simp only [Act.put, List.setIfInBounds_toArray, List.set_cons_zero, List.set_cons_succ]
      refine SeqH.take (v := ?hv83) (by rfl) ?hy83 ?hr83
      case hy83 =>
       intro w hSw
       try dsimp only at hSw
       go_simp
       try (with_reducible rfl)
      try simp only [Act.put, List.setIfInBounds_toArray, List.set_cons_zero, List.set_cons_succ]
      refine SeqH.take (v := ?hv84) (by rfl) ?hy84 ?hr84
      case hy84 =>
       intro w hSw
       try dsimp only at hSw
       go_simp
       try (with_reducible rfl)
      try simp only [Act.put, List.setIfInBounds_toArray, List.set_cons_zero, List.set_cons_succ]
      refine SeqH.skip (by rfl) ?_
      try simp only [Act.put, List.setIfInBounds_toArray, List.set_cons_zero, List.set_cons_succ]
      refine SeqH.skip (by rfl) ?_
      try simp only [Act.put, List.setIfInBounds_toArray, List.set_cons_zero, List.set_cons_succ]
      refine SeqH.skip (by rfl) ?_
      try simp only [Act.put, List.setIfInBounds_toArray, List.set_cons_zero, List.set_cons_succ]
      refine SeqH.skip (by rfl) ?_
      try simp only [Act.put, List.setIfInBounds_toArray, List.set_cons_zero, List.set_cons_succ]
      refine SeqH.skip (by rfl) ?_
      try simp only [Act.put, List.setIfInBounds_toArray, List.set_cons_zero, List.set_cons_succ]
      refine SeqH.skip (by rfl) ?_
      try simp only [Act.put, List.setIfInBounds_toArray, List.set_cons_zero, List.set_cons_succ]
      refine SeqH.skip (by rfl) ?_
      try simp only [Act.put, List.setIfInBounds_toArray, List.set_cons_zero, List.set_cons_succ]
      refine SeqH.skip (by rfl) ?_
      try simp only [Act.put, List.setIfInBounds_toArray, List.set_cons_zero, List.set_cons_succ]
      refine SeqH.skip (by rfl) ?_
      try simp only [Act.put, List.setIfInBounds_toArray, List.set_cons_zero, List.set_cons_succ]
      refine SeqH.skip (by rfl) ?_
      try simp only [Act.put, List.setIfInBounds_toArray, List.set_cons_zero, List.set_cons_succ]
      refine SeqH.call (fun K hK => ?_)
      go_simp
      skip
      refine hK.out _ _ ?_ (fun hHeld => ?_)
      · exact hHeld
      clear hK K
      try simp only [Act.put, List.setIfInBounds_toArray, List.set_cons_zero, List.set_cons_succ]
      refine SeqH.skip (by rfl) ?_
      try simp only [Act.put, List.setIfInBounds_toArray, List.set_cons_zero, List.set_cons_succ]
      refine SeqH.skip (by rfl) ?_
      try simp only [Act.put, List.setIfInBounds_toArray, List.set_cons_zero, List.set_cons_succ]
      refine SeqH.take (v := ?hv85) (by rfl) ?hy85 ?hr85
      case hy85 =>
       intro w hSw
       try dsimp only at hSw
       go_simp
       try (with_reducible rfl)
      try simp only [Act.put, List.setIfInBounds_toArray, List.set_cons_zero, List.set_cons_succ]
      refine SeqH.done (NoPanic.normal ?_)
      go_wp2
      go_meet
      exact ⟨by rw [EK.out]; rfl, (And.left hHeld)⟩
     have q1 : decide (x < 0) = false := by rw [decide_eq_false_iff_not]; omega
     by_cases d3 : x < y
     case neg =>
      have EK := Lib.hid (edgeOk_no' HX.out (n := (xs.length : Int)) (by omega))
      have q2 : decide (y ≤ x) = true := decide_eq_true (by omega)
      refine wp_region_noPanic ?_
      refine wp_region_seq (S := (fun W => Below wE.heap.size wE W ∧ W.cell? ⟨wr.heap.size, 0, none⟩ = some (.int .i64 x) ∧ W.cell? ⟨wr.heap.size, 1, none⟩ = some (.int .i64 y) ∧ W.cell? ⟨w.heap.size, 0, none⟩ = some (.slice a xs.length c) ∧ W.cell? ⟨w.heap.size, 1, none⟩ = some (.slice (some ⟨b1, o1, none⟩) es.length rc))) [true, true, true, true, true, true, true, true, true, true, true, true, true, true, true, false, true, true, true, true, true, true, true, true, true, true, true, true, true, false, true, true, true] (by kernel_rfl) (by kernel_rfl) (by kernel_rfl) rfl (fun _ _ _ _ _ h => h) ?_ (fun hHeld => ?_)
      · exact (unhide BX) _ (Below.refl _ _).drew
      simp only [List.toList_toArray]
      refine SeqH.take (v := ?hv86) (by rfl) ?hy86 ?hr86
      case hy86 =>
       intro w hSw
       try dsimp only at hSw
       go_simp
       try (with_reducible rfl)
      try simp only [Act.put, List.setIfInBounds_toArray, List.set_cons_zero, List.set_cons_succ]
      refine SeqH.take (v := ?hv87) (by rfl) ?hy87 ?hr87
      case hy87 =>
       intro w hSw
       try dsimp only at hSw
       go_simp
       try (with_reducible rfl)
      try simp only [Act.put, List.setIfInBounds_toArray, List.set_cons_zero, List.set_cons_succ]
      refine SeqH.take (v := ?hv88) (by rfl) ?hy88 ?hr88
      case hy88 =>
       intro w hSw
       try dsimp only at hSw
       go_simp
       try (with_reducible rfl)
      try simp only [Act.put, List.setIfInBounds_toArray, List.set_cons_zero, List.set_cons_succ]
      refine SeqH.take (v := ?hv89) (by rfl) ?hy89 ?hr89
      case hy89 =>
       intro w hSw
       try dsimp only at hSw
       go_simp
       try (with_reducible rfl)
      try simp only [Act.put, List.setIfInBounds_toArray, List.set_cons_zero, List.set_cons_succ]
      refine SeqH.take (v := ?hv90) (by rfl) ?hy90 ?hr90
      case hy90 =>
       intro w hSw
       try dsimp only at hSw
       go_simp
       try (with_reducible rfl)
      try simp only [Act.put, List.setIfInBounds_toArray, List.set_cons_zero, List.set_cons_succ]
      refine SeqH.take (v := ?hv91) (by rfl) ?hy91 ?hr91
      case hy91 =>
       intro w hSw
       try dsimp only at hSw
       go_simp
       try (with_reducible rfl)
      try simp only [Act.put, List.setIfInBounds_toArray, List.set_cons_zero, List.set_cons_succ]
      refine SeqH.take (v := ?hv92) (by rfl) ?hy92 ?hr92
      case hy92 =>
       intro w hSw
       try dsimp only at hSw
       go_simp
       try (with_reducible rfl)
      try simp only [Act.put, List.setIfInBounds_toArray, List.set_cons_zero, List.set_cons_succ]
      refine SeqH.take (v := ?hv93) (by rfl) ?hy93 ?hr93
      case hy93 =>
       intro w hSw
       try dsimp only at hSw
       go_simp
       try (with_reducible rfl)
      try simp only [Act.put, List.setIfInBounds_toArray, List.set_cons_zero, List.set_cons_succ]
      refine SeqH.take (v := ?hv94) (by rfl) ?hy94 ?hr94
      case hy94 =>
       intro w hSw
       try dsimp only at hSw
       go_simp
       try (with_reducible rfl)
      try simp only [Act.put, List.setIfInBounds_toArray, List.set_cons_zero, List.set_cons_succ]
      refine SeqH.take (v := ?hv95) (by rfl) ?hy95 ?hr95
      case hy95 =>
       intro w hSw
       try dsimp only at hSw
       go_simp
       try (with_reducible rfl)
      try simp only [Act.put, List.setIfInBounds_toArray, List.set_cons_zero, List.set_cons_succ]
      refine SeqH.take (v := ?hv96) (by rfl) ?hy96 ?hr96
      case hy96 =>
       intro w hSw
       try dsimp only at hSw
       go_simp
       try (with_reducible rfl)
      try simp only [Act.put, List.setIfInBounds_toArray, List.set_cons_zero, List.set_cons_succ]
      refine SeqH.skip (by rfl) ?_
      try simp only [Act.put, List.setIfInBounds_toArray, List.set_cons_zero, List.set_cons_succ]
      refine SeqH.skip (by rfl) ?_
      try simp only [Act.put, List.setIfInBounds_toArray, List.set_cons_zero, List.set_cons_succ]
      refine SeqH.skip (by rfl) ?_
      try simp only [Act.put, List.setIfInBounds_toArray, List.set_cons_zero, List.set_cons_succ]
      refine SeqH.skip (by rfl) ?_
      try simp only [Act.put, List.setIfInBounds_toArray, List.set_cons_zero, List.set_cons_succ]
      refine SeqH.call (fun K hK => ?_)
      go_simp
      skip
      refine hK.out _ _ ?_ (fun hHeld => ?_)
      · exact hHeld
      clear hK K
      try simp only [Act.put, List.setIfInBounds_toArray, List.set_cons_zero, List.set_cons_succ]
      refine SeqH.skip (by rfl) ?_
      try simp only [Act.put, List.setIfInBounds_toArray, List.set_cons_zero, List.set_cons_succ]
      refine SeqH.take (v := ?hv97) (by rfl) ?hy97 ?hr97
      case hy97 =>
       intro w hSw
       try dsimp only at hSw
       go_simp
       try (with_reducible rfl)
      try simp only [Act.put, List.setIfInBounds_toArray, List.set_cons_zero, List.set_cons_succ]
      refine SeqH.take (v := ?hv98) (by rfl) ?hy98 ?hr98
      case hy98 =>
       intro w hSw
       try dsimp only at hSw
       go_simp
       try (with_reducible rfl)
      try simp only [Act.put, List.setIfInBounds_toArray, List.set_cons_zero, List.set_cons_succ]
      refine SeqH.skip (by rfl) ?_
      try simp only [Act.put, List.setIfInBounds_toArray, List.set_cons_zero, List.set_cons_succ]
      refine SeqH.skip (by rfl) ?_
      try simp only [Act.put, List.setIfInBounds_toArray, List.set_cons_zero, List.set_cons_succ]
      refine SeqH.skip (by rfl) ?_
      try simp only [Act.put, List.setIfInBounds_toArray, List.set_cons_zero, List.set_cons_succ]
      refine SeqH.skip (by rfl) ?_
      try simp only [Act.put, List.setIfInBounds_toArray, List.set_cons_zero, List.set_cons_succ]
      refine SeqH.skip (by rfl) ?_
      try simp only [Act.put, List.setIfInBounds_toArray, List.set_cons_zero, List.set_cons_succ]
      refine SeqH.skip (by rfl) ?_
      try simp only [Act.put, List.setIfInBounds_toArray, List.set_cons_zero, List.set_cons_succ]
      refine SeqH.skip (by rfl) ?_
      try simp only [Act.put, List.setIfInBounds_toArray, List.set_cons_zero, List.set_cons_succ]
      refine SeqH.skip (by rfl) ?_
      try simp only [Act.put, List.setIfInBounds_toArray, List.set_cons_zero, List.set_cons_succ]
      refine SeqH.skip (by rfl) ?_
      try simp only [Act.put, List.setIfInBounds_toArray, List.set_cons_zero, List.set_cons_succ]
      refine SeqH.skip (by rfl) ?_
      try simp only [Act.put, List.setIfInBounds_toArray, List.set_cons_zero, List.set_cons_succ]
      refine SeqH.call (fun K hK => ?_)
      go_simp
      skip
      refine hK.out _ _ ?_ (fun hHeld => ?_)
      · exact hHeld
      clear hK K
      try simp only [Act.put, List.setIfInBounds_toArray, List.set_cons_zero, List.set_cons_succ]
      refine SeqH.skip (by rfl) ?_
      try simp only [Act.put, List.setIfInBounds_toArray, List.set_cons_zero, List.set_cons_succ]
      refine SeqH.skip (by rfl) ?_
      try simp only [Act.put, List.setIfInBounds_toArray, List.set_cons_zero, List.set_cons_succ]
      refine SeqH.take (v := ?hv99) (by rfl) ?hy99 ?hr99
      case hy99 =>
       intro w hSw
       try dsimp only at hSw
       go_simp
       try (with_reducible rfl)
      try simp only [Act.put, List.setIfInBounds_toArray, List.set_cons_zero, List.set_cons_succ]
      refine SeqH.done (NoPanic.normal ?_)
      go_wp2
      go_meet
      exact ⟨by rw [EK.out]; rfl, (And.left hHeld)⟩
     have q2 : decide (y ≤ x) = false := by rw [decide_eq_false_iff_not]; omega
     by_cases d4 : y < (xs.length : Int)
     case neg =>
      have EK := Lib.hid (edgeOk_no' HX.out (n := (xs.length : Int)) (by omega))
      have q3 : decide ((xs.length : Int) ≤ y) = true := decide_eq_true (by omega)
      refine wp_region_noPanic ?_
      refine wp_region_seq (S := (fun W => Below wE.heap.size wE W ∧ W.cell? ⟨wr.heap.size, 0, none⟩ = some (.int .i64 x) ∧ W.cell? ⟨wr.heap.size, 1, none⟩ = some (.int .i64 y) ∧ W.cell? ⟨w.heap.size, 0, none⟩ = some (.slice a xs.length c) ∧ W.cell? ⟨w.heap.size, 1, none⟩ = some (.slice (some ⟨b1, o1, none⟩) es.length rc))) [true, true, true, true, true, true, true, true, true, true, true, true, true, true, true, false, true, true, true, true, true, true, true, true, true, true, true, true, true, false, true, true, true] (by kernel_rfl) (by kernel_rfl) (by kernel_rfl) rfl (fun _ _ _ _ _ h => h) ?_ (fun hHeld => ?_)
      · exact (unhide BX) _ (Below.refl _ _).drew
      simp only [List.toList_toArray]
      refine SeqH.take (v := ?hv100) (by rfl) ?hy100 ?hr100
      case hy100 =>
       intro w hSw
       try dsimp only at hSw
       go_simp
       try (with_reducible rfl)
      try simp only [Act.put, List.setIfInBounds_toArray, List.set_cons_zero, List.set_cons_succ]
      refine SeqH.take (v := ?hv101) (by rfl) ?hy101 ?hr101
      case hy101 =>
       intro w hSw
       try dsimp only at hSw
       go_simp
       try (with_reducible rfl)
      try simp only [Act.put, List.setIfInBounds_toArray, List.set_cons_zero, List.set_cons_succ]
      refine SeqH.take (v := ?hv102) (by rfl) ?hy102 ?hr102
      case hy102 =>
       intro w hSw
       try dsimp only at hSw
       go_simp
       try (with_reducible rfl)
      try simp only [Act.put, List.setIfInBounds_toArray, List.set_cons_zero, List.set_cons_succ]
      refine SeqH.take (v := ?hv103) (by rfl) ?hy103 ?hr103
      case hy103 =>
       intro w hSw
       try dsimp only at hSw
       go_simp
       try (with_reducible rfl)
      try simp only [Act.put, List.setIfInBounds_toArray, List.set_cons_zero, List.set_cons_succ]
      refine SeqH.take (v := ?hv104) (by rfl) ?hy104 ?hr104
      case hy104 =>
       intro w hSw
       try dsimp only at hSw
       go_simp
       try (with_reducible rfl)
      try simp only [Act.put, List.setIfInBounds_toArray, List.set_cons_zero, List.set_cons_succ]
      refine SeqH.take (v := ?hv105) (by rfl) ?hy105 ?hr105
      case hy105 =>
       intro w hSw
       try dsimp only at hSw
       go_simp
       try (with_reducible rfl)
      try simp only [Act.put, List.setIfInBounds_toArray, List.set_cons_zero, List.set_cons_succ]
      refine SeqH.take (v := ?hv106) (by rfl) ?hy106 ?hr106
      case hy106 =>
       intro w hSw
       try dsimp only at hSw
       go_simp
       try (with_reducible rfl)
      try simp only [Act.put, List.setIfInBounds_toArray, List.set_cons_zero, List.set_cons_succ]
      refine SeqH.take (v := ?hv107) (by rfl) ?hy107 ?hr107
      case hy107 =>
       intro w hSw
       try dsimp only at hSw
       go_simp
       try (with_reducible rfl)
      try simp only [Act.put, List.setIfInBounds_toArray, List.set_cons_zero, List.set_cons_succ]
      refine SeqH.take (v := ?hv108) (by rfl) ?hy108 ?hr108
      case hy108 =>
       intro w hSw
       try dsimp only at hSw
       go_simp
       try (with_reducible rfl)
      try simp only [Act.put, List.setIfInBounds_toArray, List.set_cons_zero, List.set_cons_succ]
      refine SeqH.take (v := ?hv109) (by rfl) ?hy109 ?hr109
      case hy109 =>
       intro w hSw
       try dsimp only at hSw
       go_simp
       try (with_reducible rfl)
      try simp only [Act.put, List.setIfInBounds_toArray, List.set_cons_zero, List.set_cons_succ]
      refine SeqH.take (v := ?hv110) (by rfl) ?hy110 ?hr110
      case hy110 =>
       intro w hSw
       try dsimp only at hSw
       go_simp
       try (with_reducible rfl)
      try simp only [Act.put, List.setIfInBounds_toArray, List.set_cons_zero, List.set_cons_succ]
      refine SeqH.take (v := ?hv111) (by rfl) ?hy111 ?hr111
      case hy111 =>
       intro w hSw
       try dsimp only at hSw
       go_simp
       try (with_reducible rfl)
      try simp only [Act.put, List.setIfInBounds_toArray, List.set_cons_zero, List.set_cons_succ]
      refine SeqH.take (v := ?hv112) (by rfl) ?hy112 ?hr112
      case hy112 =>
       intro w hSw
       try dsimp only at hSw
       go_simp
       try (with_reducible rfl)
      try simp only [Act.put, List.setIfInBounds_toArray, List.set_cons_zero, List.set_cons_succ]
      refine SeqH.take (v := ?hv113) (by rfl) ?hy113 ?hr113
      case hy113 =>
       intro w hSw
       try dsimp only at hSw
       go_simp
       try (with_reducible rfl)
      try simp only [Act.put, List.setIfInBounds_toArray, List.set_cons_zero, List.set_cons_succ]
      refine SeqH.take (v := ?hv114) (by rfl) ?hy114 ?hr114
      case hy114 =>
       intro w hSw
       try dsimp only at hSw
       go_simp
       try (with_reducible rfl)
      try simp only [Act.put, List.setIfInBounds_toArray, List.set_cons_zero, List.set_cons_succ]
      refine SeqH.call (fun K hK => ?_)
      go_simp
      refine ((unhide HZ) _).mono ?_
      rintro e W ⟨rfl, rfl⟩
      go_wp2_with fail
      refine hK.out _ _ ?_ (fun hHeld => ?_)
      · exact hHeld
      clear hK K
      try simp only [Act.put, List.setIfInBounds_toArray, List.set_cons_zero, List.set_cons_succ]
      refine SeqH.take (v := ?hv115) (by rfl) ?hy115 ?hr115
      case hy115 =>
       intro w hSw
       try dsimp only at hSw
       go_simp
       try (with_reducible rfl)
      try simp only [Act.put, List.setIfInBounds_toArray, List.set_cons_zero, List.set_cons_succ]
      refine SeqH.take (v := ?hv116) (by rfl) ?hy116 ?hr116
      case hy116 =>
       intro w hSw
       try dsimp only at hSw
       go_simp
       try (with_reducible rfl)
      try simp only [Act.put, List.setIfInBounds_toArray, List.set_cons_zero, List.set_cons_succ]
      refine SeqH.take (v := ?hv117) (by rfl) ?hy117 ?hr117
      case hy117 =>
       intro w hSw
       try dsimp only at hSw
       go_simp
       try (with_reducible rfl)
      try simp only [Act.put, List.setIfInBounds_toArray, List.set_cons_zero, List.set_cons_succ]
      refine SeqH.skip (by rfl) ?_
      try simp only [Act.put, List.setIfInBounds_toArray, List.set_cons_zero, List.set_cons_succ]
      refine SeqH.skip (by rfl) ?_
      try simp only [Act.put, List.setIfInBounds_toArray, List.set_cons_zero, List.set_cons_succ]
      refine SeqH.skip (by rfl) ?_
      try simp only [Act.put, List.setIfInBounds_toArray, List.set_cons_zero, List.set_cons_succ]
      refine SeqH.skip (by rfl) ?_
      try simp only [Act.put, List.setIfInBounds_toArray, List.set_cons_zero, List.set_cons_succ]
      refine SeqH.skip (by rfl) ?_
      try simp only [Act.put, List.setIfInBounds_toArray, List.set_cons_zero, List.set_cons_succ]
      refine SeqH.skip (by rfl) ?_
      try simp only [Act.put, List.setIfInBounds_toArray, List.set_cons_zero, List.set_cons_succ]
      refine SeqH.skip (by rfl) ?_
      try simp only [Act.put, List.setIfInBounds_toArray, List.set_cons_zero, List.set_cons_succ]
      refine SeqH.skip (by rfl) ?_
      try simp only [Act.put, List.setIfInBounds_toArray, List.set_cons_zero, List.set_cons_succ]
      refine SeqH.skip (by rfl) ?_
      try simp only [Act.put, List.setIfInBounds_toArray, List.set_cons_zero, List.set_cons_succ]
      refine SeqH.skip (by rfl) ?_
      try simp only [Act.put, List.setIfInBounds_toArray, List.set_cons_zero, List.set_cons_succ]
      refine SeqH.call (fun K hK => ?_)
      go_simp
      skip
      refine hK.out _ _ ?_ (fun hHeld => ?_)
      · exact hHeld
      clear hK K
      try simp only [Act.put, List.setIfInBounds_toArray, List.set_cons_zero, List.set_cons_succ]
      refine SeqH.skip (by rfl) ?_
      try simp only [Act.put, List.setIfInBounds_toArray, List.set_cons_zero, List.set_cons_succ]
      refine SeqH.skip (by rfl) ?_
      try simp only [Act.put, List.setIfInBounds_toArray, List.set_cons_zero, List.set_cons_succ]
      refine SeqH.take (v := ?hv118) (by rfl) ?hy118 ?hr118
      case hy118 =>
       intro w hSw
       try dsimp only at hSw
       go_simp
       try (with_reducible rfl)
      try simp only [Act.put, List.setIfInBounds_toArray, List.set_cons_zero, List.set_cons_succ]
      refine SeqH.done (NoPanic.normal ?_)
      go_wp2
      go_meet
      exact ⟨by rw [EK.out]; rfl, (And.left hHeld)⟩
     have q3 : decide ((xs.length : Int) ≤ y) = false := by rw [decide_eq_false_iff_not]; omega
     by_cases k0 : k = 0
     case pos =>
      subst k0
      have EK := Lib.hid (edgeOk_zero' HX.out (n := (xs.length : Int)) (by omega) (by omega) (by omega))
      have q5 : decide ((0 : Int) < ((0 : Nat) : Int)) = false := rfl
      refine wp_region_noPanic ?_
      refine wp_region_seq (S := (fun W => Below wE.heap.size wE W ∧ W.cell? ⟨wr.heap.size, 0, none⟩ = some (.int .i64 x) ∧ W.cell? ⟨wr.heap.size, 1, none⟩ = some (.int .i64 y) ∧ W.cell? ⟨w.heap.size, 0, none⟩ = some (.slice a xs.length c) ∧ W.cell? ⟨w.heap.size, 1, none⟩ = some (.slice (some ⟨b1, o1, none⟩) es.length rc))) [true, true, true, true, true, true, true, true, true, true, true, true, true, true, true, false, true, true, true, true, true, true, true, true, true, true, true, true, true, false, true, true, true] (by kernel_rfl) (by kernel_rfl) (by kernel_rfl) rfl (fun _ _ _ _ _ h => h) ?_ (fun hHeld => ?_)
      · exact (unhide BX) _ (Below.refl _ _).drew
      simp only [List.toList_toArray]
      refine SeqH.take (v := ?hv119) (by rfl) ?hy119 ?hr119
      case hy119 =>
       intro w hSw
       try dsimp only at hSw
       go_simp
       try (with_reducible rfl)
      try simp only [Act.put, List.setIfInBounds_toArray, List.set_cons_zero, List.set_cons_succ]
      refine SeqH.take (v := ?hv120) (by rfl) ?hy120 ?hr120
      case hy120 =>
       intro w hSw
       try dsimp only at hSw
       go_simp
       try (with_reducible rfl)
      try simp only [Act.put, List.setIfInBounds_toArray, List.set_cons_zero, List.set_cons_succ]
      refine SeqH.take (v := ?hv121) (by rfl) ?hy121 ?hr121
      case hy121 =>
       intro w hSw
       try dsimp only at hSw
       go_simp
       try (with_reducible rfl)
      try simp only [Act.put, List.setIfInBounds_toArray, List.set_cons_zero, List.set_cons_succ]
      refine SeqH.take (v := ?hv122) (by rfl) ?hy122 ?hr122
      case hy122 =>
       intro w hSw
       try dsimp only at hSw
       go_simp
       try (with_reducible rfl)
      try simp only [Act.put, List.setIfInBounds_toArray, List.set_cons_zero, List.set_cons_succ]
      refine SeqH.take (v := ?hv123) (by rfl) ?hy123 ?hr123
      case hy123 =>
       intro w hSw
       try dsimp only at hSw
       go_simp
       try (with_reducible rfl)
      try simp only [Act.put, List.setIfInBounds_toArray, List.set_cons_zero, List.set_cons_succ]
      refine SeqH.take (v := ?hv124) (by rfl) ?hy124 ?hr124
      case hy124 =>
       intro w hSw
       try dsimp only at hSw
       go_simp
       try (with_reducible rfl)
      try simp only [Act.put, List.setIfInBounds_toArray, List.set_cons_zero, List.set_cons_succ]
      refine SeqH.take (v := ?hv125) (by rfl) ?hy125 ?hr125
      case hy125 =>
       intro w hSw
       try dsimp only at hSw
       go_simp
       try (with_reducible rfl)
      try simp only [Act.put, List.setIfInBounds_toArray, List.set_cons_zero, List.set_cons_succ]
      refine SeqH.take (v := ?hv126) (by rfl) ?hy126 ?hr126
      case hy126 =>
       intro w hSw
       try dsimp only at hSw
       go_simp
       try (with_reducible rfl)
      try simp only [Act.put, List.setIfInBounds_toArray, List.set_cons_zero, List.set_cons_succ]
      refine SeqH.take (v := ?hv127) (by rfl) ?hy127 ?hr127
      case hy127 =>
       intro w hSw
       try dsimp only at hSw
       go_simp
       try (with_reducible rfl)
      try simp only [Act.put, List.setIfInBounds_toArray, List.set_cons_zero, List.set_cons_succ]
      refine SeqH.take (v := ?hv128) (by rfl) ?hy128 ?hr128
      case hy128 =>
       intro w hSw
       try dsimp only at hSw
       go_simp
       try (with_reducible rfl)
      try simp only [Act.put, List.setIfInBounds_toArray, List.set_cons_zero, List.set_cons_succ]
      refine SeqH.take (v := ?hv129) (by rfl) ?hy129 ?hr129
      case hy129 =>
       intro w hSw
       try dsimp only at hSw
       go_simp
       try (with_reducible rfl)
      try simp only [Act.put, List.setIfInBounds_toArray, List.set_cons_zero, List.set_cons_succ]
      refine SeqH.take (v := ?hv130) (by rfl) ?hy130 ?hr130
      case hy130 =>
       intro w hSw
       try dsimp only at hSw
       go_simp
       try (with_reducible rfl)
      try simp only [Act.put, List.setIfInBounds_toArray, List.set_cons_zero, List.set_cons_succ]
      refine SeqH.take (v := ?hv131) (by rfl) ?hy131 ?hr131
      case hy131 =>
       intro w hSw
       try dsimp only at hSw
       go_simp
       try (with_reducible rfl)
      try simp only [Act.put, List.setIfInBounds_toArray, List.set_cons_zero, List.set_cons_succ]
      refine SeqH.take (v := ?hv132) (by rfl) ?hy132 ?hr132
      case hy132 =>
       intro w hSw
       try dsimp only at hSw
       go_simp
       try (with_reducible rfl)
      try simp only [Act.put, List.setIfInBounds_toArray, List.set_cons_zero, List.set_cons_succ]
      refine SeqH.take (v := ?hv133) (by rfl) ?hy133 ?hr133
      case hy133 =>
       intro w hSw
       try dsimp only at hSw
       go_simp
       try (with_reducible rfl)
      try simp only [Act.put, List.setIfInBounds_toArray, List.set_cons_zero, List.set_cons_succ]
      refine SeqH.call (fun K hK => ?_)
      go_simp
      refine ((unhide HZ) _).mono ?_
      rintro e W ⟨rfl, rfl⟩
      go_wp2_with fail
      refine hK.out _ _ ?_ (fun hHeld => ?_)
      · exact hHeld
      clear hK K
      try simp only [Act.put, List.setIfInBounds_toArray, List.set_cons_zero, List.set_cons_succ]
      refine SeqH.take (v := ?hv134) (by rfl) ?hy134 ?hr134
      case hy134 =>
       intro w hSw
       try dsimp only at hSw
       go_simp
       try (with_reducible rfl)
      try simp only [Act.put, List.setIfInBounds_toArray, List.set_cons_zero, List.set_cons_succ]
      refine SeqH.take (v := ?hv135) (by rfl) ?hy135 ?hr135
      case hy135 =>
       intro w hSw
       try dsimp only at hSw
       go_simp
       try (with_reducible rfl)
      try simp only [Act.put, List.setIfInBounds_toArray, List.set_cons_zero, List.set_cons_succ]
      refine SeqH.take (v := ?hv136) (by rfl) ?hy136 ?hr136
      case hy136 =>
       intro w hSw
       try dsimp only at hSw
       go_simp
       try (with_reducible rfl)
      try simp only [Act.put, List.setIfInBounds_toArray, List.set_cons_zero, List.set_cons_succ]
      refine SeqH.take (v := ?hv137) (by rfl) ?hy137 ?hr137
      case hy137 =>
       intro w hSw
       try dsimp only at hSw
       go_simp
       try (with_reducible rfl)
      try simp only [Act.put, List.setIfInBounds_toArray, List.set_cons_zero, List.set_cons_succ]
      refine SeqH.take (v := ?hv138) (by rfl) ?hy138 ?hr138
      case hy138 =>
       intro w hSw
       try dsimp only at hSw
       go_simp
       try (with_reducible rfl)
      try simp only [Act.put, List.setIfInBounds_toArray, List.set_cons_zero, List.set_cons_succ]
      refine SeqH.take (v := ?hv139) (by rfl) ?hy139 ?hr139
      case hy139 =>
       intro w hSw
       try dsimp only at hSw
       go_simp
       try (with_reducible rfl)
      try simp only [Act.put, List.setIfInBounds_toArray, List.set_cons_zero, List.set_cons_succ]
      refine SeqH.skip (by rfl) ?_
      try simp only [Act.put, List.setIfInBounds_toArray, List.set_cons_zero, List.set_cons_succ]
      refine SeqH.skip (by rfl) ?_
      try simp only [Act.put, List.setIfInBounds_toArray, List.set_cons_zero, List.set_cons_succ]
      refine SeqH.skip (by rfl) ?_
      try simp only [Act.put, List.setIfInBounds_toArray, List.set_cons_zero, List.set_cons_succ]
      refine SeqH.skip (by rfl) ?_
      try simp only [Act.put, List.setIfInBounds_toArray, List.set_cons_zero, List.set_cons_succ]
      refine SeqH.skip (by rfl) ?_
      try simp only [Act.put, List.setIfInBounds_toArray, List.set_cons_zero, List.set_cons_succ]
      refine SeqH.skip (by rfl) ?_
      try simp only [Act.put, List.setIfInBounds_toArray, List.set_cons_zero, List.set_cons_succ]
      refine SeqH.skip (by rfl) ?_
      try simp only [Act.put, List.setIfInBounds_toArray, List.set_cons_zero, List.set_cons_succ]
      refine SeqH.call (fun K hK => ?_)
      go_simp
      skip
      refine hK.out _ _ ?_ (fun hHeld => ?_)
      · exact hHeld
      clear hK K
      try simp only [Act.put, List.setIfInBounds_toArray, List.set_cons_zero, List.set_cons_succ]
      refine SeqH.skip (by rfl) ?_
      try simp only [Act.put, List.setIfInBounds_toArray, List.set_cons_zero, List.set_cons_succ]
      refine SeqH.take (v := ?hv140) (by rfl) ?hy140 ?hr140
      case hy140 =>
       intro w hSw
       try dsimp only at hSw
       go_simp
       try (with_reducible rfl)
      try simp only [Act.put, List.setIfInBounds_toArray, List.set_cons_zero, List.set_cons_succ]
      refine SeqH.take (v := ?hv141) (by rfl) ?hy141 ?hr141
      case hy141 =>
       intro w hSw
       try dsimp only at hSw
       go_simp
       try (with_reducible rfl)
      try simp only [Act.put, List.setIfInBounds_toArray, List.set_cons_zero, List.set_cons_succ]
      refine SeqH.done (NoPanic.normal ?_)
      go_wp2
      go_meet
      exact ⟨by rw [EK.out]; rfl, (And.left hHeld)⟩
     obtain ⟨m, rfl⟩ : ∃ m, k = m + 1 := ⟨k - 1, by omega⟩
     obtain ⟨hq0, hq1⟩ := (unhide HP) k0
     have hek := edgeOk_less' HX.out (n := (xs.length : Int)) k0 (by omega) (by omega) (by omega)
     simp only [Nat.add_sub_cancel] at hq0 hq1 hek
     obtain ⟨px, hpx⟩ : ∃ z, z = (nthE es m).1 := ⟨_, rfl⟩
     obtain ⟨py, hpy⟩ : ∃ z, z = (nthE es m).2 := ⟨_, rfl⟩
     rw [← hpx] at hq0
     rw [← hpy] at hq1
     have hpe : nthE es m = (px, py) := by rw [hpx, hpy]
     rw [hpe] at hek
     have EK := Lib.hid hek
     have key2 : ∀ W : World, Below wE.heap.size wE W → (Below wE.heap.size wE W ∧ W.cell? ⟨wr.heap.size, 0, none⟩ = some (.int .i64 x) ∧ W.cell? ⟨wr.heap.size, 1, none⟩ = some (.int .i64 y) ∧ W.cell? ⟨w.heap.size, 0, none⟩ = some (.slice a xs.length c) ∧ W.cell? ⟨w.heap.size, 1, none⟩ = some (.slice (some ⟨b1, o1, none⟩) es.length rc) ∧ W.cell? ⟨b1, o1 + m * 2, none⟩ = some (.int .i64 px) ∧ W.cell? ⟨b1, o1 + m * 2 + 1, none⟩ = some (.int .i64 py)) := fun W h => ⟨h, (h.cell kE.lt).trans e0, (h.cell kE.lt).trans e1, (h.cell krE.lt).trans g0, (h.cell krE.lt).trans g1, (h.cell (World.block_lt_of_cell? wE _ hq0)).trans hq0, (h.cell (World.block_lt_of_cell? wE _ hq1)).trans hq1⟩
     have BY := hide key2
     clear key2 hq0 hq1 HP hek k0 hpx hpy hpe
     have hw3 : IntKind.i64.wrap (m : Int) = (m : Int) := IntWalk.i64_in _ (by omega)
     have hml : m < es.length := by omega
     have q5 : decide ((0 : Int) < ((m + 1 : Nat) : Int)) = true := decide_eq_true (by omega)
     have q6 : decide ((0 : Int) < (m : Int) + 1) = true := decide_eq_true (by omega)
     refine wp_region_noPanic ?_
     refine wp_region_seq (S := (fun W => Below wE.heap.size wE W ∧ W.cell? ⟨wr.heap.size, 0, none⟩ = some (.int .i64 x) ∧ W.cell? ⟨wr.heap.size, 1, none⟩ = some (.int .i64 y) ∧ W.cell? ⟨w.heap.size, 0, none⟩ = some (.slice a xs.length c) ∧ W.cell? ⟨w.heap.size, 1, none⟩ = some (.slice (some ⟨b1, o1, none⟩) es.length rc) ∧ W.cell? ⟨b1, o1 + m * 2, none⟩ = some (.int .i64 px) ∧ W.cell? ⟨b1, o1 + m * 2 + 1, none⟩ = some (.int .i64 py))) [true, true, true, true, true, true, true, true, true, true, true, true, true, true, true, false, true, true, true, true, true, true, true, true, true, true, true, true, true, false, true, true, true] (by kernel_rfl) (by kernel_rfl) (by kernel_rfl) rfl (fun _ _ _ _ _ h => h) ?_ (fun hHeld => ?_)
     · exact (unhide BY) _ (Below.refl _ _).drew
     simp only [List.toList_toArray]
     refine SeqH.take (v := ?hv142) (by rfl) ?hy142 ?hr142
     case hy142 =>
      intro w hSw
      try dsimp only at hSw
      go_simp
      try (with_reducible rfl)
     try simp only [Act.put, List.setIfInBounds_toArray, List.set_cons_zero, List.set_cons_succ]
     refine SeqH.take (v := ?hv143) (by rfl) ?hy143 ?hr143
     case hy143 =>
      intro w hSw
      try dsimp only at hSw
      go_simp
      try (with_reducible rfl)
     try simp only [Act.put, List.setIfInBounds_toArray, List.set_cons_zero, List.set_cons_succ]
     refine SeqH.take (v := ?hv144) (by rfl) ?hy144 ?hr144
     case hy144 =>
      intro w hSw
      try dsimp only at hSw
      go_simp
      try (with_reducible rfl)
     try simp only [Act.put, List.setIfInBounds_toArray, List.set_cons_zero, List.set_cons_succ]
     refine SeqH.take (v := ?hv145) (by rfl) ?hy145 ?hr145
     case hy145 =>
      intro w hSw
      try dsimp only at hSw
      go_simp
      try (with_reducible rfl)
     try simp only [Act.put, List.setIfInBounds_toArray, List.set_cons_zero, List.set_cons_succ]
     refine SeqH.take (v := ?hv146) (by rfl) ?hy146 ?hr146
     case hy146 =>
      intro w hSw
      try dsimp only at hSw
      go_simp
      try (with_reducible rfl)
     try simp only [Act.put, List.setIfInBounds_toArray, List.set_cons_zero, List.set_cons_succ]
     refine SeqH.take (v := ?hv147) (by rfl) ?hy147 ?hr147
     case hy147 =>
      intro w hSw
      try dsimp only at hSw
      go_simp
      try (with_reducible rfl)
     try simp only [Act.put, List.setIfInBounds_toArray, List.set_cons_zero, List.set_cons_succ]
     refine SeqH.take (v := ?hv148) (by rfl) ?hy148 ?hr148
     case hy148 =>
      intro w hSw
      try dsimp only at hSw
      go_simp
      try (with_reducible rfl)
     try simp only [Act.put, List.setIfInBounds_toArray, List.set_cons_zero, List.set_cons_succ]
     refine SeqH.take (v := ?hv149) (by rfl) ?hy149 ?hr149
     case hy149 =>
      intro w hSw
      try dsimp only at hSw
      go_simp
      try (with_reducible rfl)
     try simp only [Act.put, List.setIfInBounds_toArray, List.set_cons_zero, List.set_cons_succ]
     refine SeqH.take (v := ?hv150) (by rfl) ?hy150 ?hr150
     case hy150 =>
      intro w hSw
      try dsimp only at hSw
      go_simp
      try (with_reducible rfl)
     try simp only [Act.put, List.setIfInBounds_toArray, List.set_cons_zero, List.set_cons_succ]
     refine SeqH.take (v := ?hv151) (by rfl) ?hy151 ?hr151
     case hy151 =>
      intro w hSw
      try dsimp only at hSw
      go_simp
      try (with_reducible rfl)
     try simp only [Act.put, List.setIfInBounds_toArray, List.set_cons_zero, List.set_cons_succ]
     refine SeqH.take (v := ?hv152) (by rfl) ?hy152 ?hr152
     case hy152 =>
      intro w hSw
      try dsimp only at hSw
      go_simp
      try (with_reducible rfl)
     try simp only [Act.put, List.setIfInBounds_toArray, List.set_cons_zero, List.set_cons_succ]
     refine SeqH.take (v := ?hv153) (by rfl) ?hy153 ?hr153
     case hy153 =>
      intro w hSw
      try dsimp only at hSw
      go_simp
      try (with_reducible rfl)
     try simp only [Act.put, List.setIfInBounds_toArray, List.set_cons_zero, List.set_cons_succ]
     refine SeqH.take (v := ?hv154) (by rfl) ?hy154 ?hr154
     case hy154 =>
      intro w hSw
      try dsimp only at hSw
      go_simp
      try (with_reducible rfl)
     try simp only [Act.put, List.setIfInBounds_toArray, List.set_cons_zero, List.set_cons_succ]
     refine SeqH.take (v := ?hv155) (by rfl) ?hy155 ?hr155
     case hy155 =>
      intro w hSw
      try dsimp only at hSw
      go_simp
      try (with_reducible rfl)
     try simp only [Act.put, List.setIfInBounds_toArray, List.set_cons_zero, List.set_cons_succ]
     refine SeqH.take (v := ?hv156) (by rfl) ?hy156 ?hr156
     case hy156 =>
      intro w hSw
      try dsimp only at hSw
      go_simp
      try (with_reducible rfl)
     try simp only [Act.put, List.setIfInBounds_toArray, List.set_cons_zero, List.set_cons_succ]
     refine SeqH.call (fun K hK => ?_)
     go_simp
     refine ((unhide HZ) _).mono ?_
     rintro e W ⟨rfl, rfl⟩
     go_wp2_with fail
     refine hK.out _ _ ?_ (fun hHeld => ?_)
     · exact hHeld
     clear hK K
     try simp only [Act.put, List.setIfInBounds_toArray, List.set_cons_zero, List.set_cons_succ]
     refine SeqH.take (v := ?hv157) (by rfl) ?hy157 ?hr157
     case hy157 =>
      intro w hSw
      try dsimp only at hSw
      go_simp
      try (with_reducible rfl)
     try simp only [Act.put, List.setIfInBounds_toArray, List.set_cons_zero, List.set_cons_succ]
     refine SeqH.take (v := ?hv158) (by rfl) ?hy158 ?hr158
     case hy158 =>
      intro w hSw
      try dsimp only at hSw
      go_simp
      try (with_reducible rfl)
     try simp only [Act.put, List.setIfInBounds_toArray, List.set_cons_zero, List.set_cons_succ]
     refine SeqH.take (v := ?hv159) (by rfl) ?hy159 ?hr159
     case hy159 =>
      intro w hSw
      try dsimp only at hSw
      go_simp
      try (with_reducible rfl)
     try simp only [Act.put, List.setIfInBounds_toArray, List.set_cons_zero, List.set_cons_succ]
     refine SeqH.take (v := ?hv160) (by rfl) ?hy160 ?hr160
     case hy160 =>
      intro w hSw
      try dsimp only at hSw
      go_simp
      try (with_reducible rfl)
     try simp only [Act.put, List.setIfInBounds_toArray, List.set_cons_zero, List.set_cons_succ]
     refine SeqH.take (v := ?hv161) (by rfl) ?hy161 ?hr161
     case hy161 =>
      intro w hSw
      try dsimp only at hSw
      go_simp
      try (with_reducible rfl)
     try simp only [Act.put, List.setIfInBounds_toArray, List.set_cons_zero, List.set_cons_succ]
     refine SeqH.take (v := ?hv162) (by rfl) ?hy162 ?hr162
     case hy162 =>
      intro w hSw
      try dsimp only at hSw
      go_simp
      try (with_reducible rfl)
     try simp only [Act.put, List.setIfInBounds_toArray, List.set_cons_zero, List.set_cons_succ]
     refine SeqH.take (v := ?hv163) (by rfl) ?hy163 ?hr163
     case hy163 =>
      intro w hSw
      try dsimp only at hSw
      go_simp
      try (with_reducible rfl)
     try simp only [Act.put, List.setIfInBounds_toArray, List.set_cons_zero, List.set_cons_succ]
     refine SeqH.take (v := ?hv164) (by rfl) ?hy164 ?hr164
     case hy164 =>
      intro w hSw
      try dsimp only at hSw
      go_simp
      try (with_reducible rfl)
     try simp only [Act.put, List.setIfInBounds_toArray, List.set_cons_zero, List.set_cons_succ]
     refine SeqH.take (v := ?hv165) (by rfl) ?hy165 ?hr165
     case hy165 =>
      intro w hSw
      try dsimp only at hSw
      go_simp
      try (with_reducible rfl)
     try simp only [Act.put, List.setIfInBounds_toArray, List.set_cons_zero, List.set_cons_succ]
     refine SeqH.take (v := ?hv166) (by rfl) ?hy166 ?hr166
     case hy166 =>
      intro w hSw
      try dsimp only at hSw
      go_simp
      try (with_reducible rfl)
     try simp only [Act.put, List.setIfInBounds_toArray, List.set_cons_zero, List.set_cons_succ]
     refine SeqH.take (v := ?hv167) (by rfl) ?hy167 ?hr167
     case hy167 =>
      intro w hSw
      try dsimp only at hSw
      go_simp
      try (with_reducible rfl)
     try simp only [Act.put, List.setIfInBounds_toArray, List.set_cons_zero, List.set_cons_succ]
     refine SeqH.take (v := ?hv168) (by rfl) ?hy168 ?hr168
     case hy168 =>
      intro w hSw
      try dsimp only at hSw
      go_simp
      try (with_reducible rfl)
     try simp only [Act.put, List.setIfInBounds_toArray, List.set_cons_zero, List.set_cons_succ]
     refine SeqH.take (v := ?hv169) (by rfl) ?hy169 ?hr169
     case hy169 =>
      intro w hSw
      try dsimp only at hSw
      go_simp
      try (with_reducible rfl)
     try simp only [Act.put, List.setIfInBounds_toArray, List.set_cons_zero, List.set_cons_succ]
     refine SeqH.call (fun K hK => ?_)
     go_simp
     refine (compareEdges_any (px, py) (x, y) _).mono ?_
     rintro e W3 ⟨rfl, bb3⟩
     have hB3 := Below.chain (a := wE) (And.left hHeld) bb3
     go_wp2_with fail
     refine hK.out _ _ ?_ (fun hHeld => ?_)
     · exact (unhide BY) _ hB3
     clear hK K
     try simp only [Act.put, List.setIfInBounds_toArray, List.set_cons_zero, List.set_cons_succ]
     refine SeqH.take (v := ?hv170) (by rfl) ?hy170 ?hr170
     case hy170 =>
      intro w hSw
      try dsimp only at hSw
      go_simp
      try (with_reducible rfl)
     try simp only [Act.put, List.setIfInBounds_toArray, List.set_cons_zero, List.set_cons_succ]
     refine SeqH.take (v := ?hv171) (by rfl) ?hy171 ?hr171
     case hy171 =>
      intro w hSw
      try dsimp only at hSw
      go_simp
      try (with_reducible rfl)
     try simp only [Act.put, List.setIfInBounds_toArray, List.set_cons_zero, List.set_cons_succ]
     refine SeqH.take (v := ?hv172) (by rfl) ?hy172 ?hr172
     case hy172 =>
      intro w hSw
      try dsimp only at hSw
      go_simp
      try (with_reducible rfl)
     try simp only [Act.put, List.setIfInBounds_toArray, List.set_cons_zero, List.set_cons_succ]
     refine SeqH.done (NoPanic.normal ?_)
     go_wp2
     go_meet
     exact ⟨by rw [EK.out]; exact congrArg Value.bool (geq_less _ _), hB3⟩
    case rest =>
     obtain ⟨rfl, hbc⟩ := hcut
     obtain ⟨wc, hwc⟩ : ∃ z, z = wOf hbc := ⟨_, rfl⟩
     unfold wOf at hwc
     subst hwc
     have hbc0 : Below w0.heap.size w0 wc := hbE0.trans (hbc.mono (by omega))
     obtain ⟨r, hr⟩ : ∃ r, edgeOk xs.length es k = r := ⟨_, rfl⟩
     rw [hr]
     have HK := Lib.hid hr
     clear hr
     cases r
     · go_wp2
       go_ret
       exact ⟨ret_bool (okG_no hkl HK.out).symm, hb0.trans (hbc0.mono (by omega))⟩
     · go_wp2
       go_roundw
       case rel =>
        refine ⟨k + 1, by go_num, by omega, hbc0, fun j hj => ?_⟩
        rcases Nat.lt_succ_iff_lt_or_eq.1 hj with h | rfl
        · exact hq.out j h
        · exact HK.out
       case measure => simp [intOf]; omega
  · have hcol := areColors_any a c xs wr (hx.below hb1)
    have HC := hide hcol
    have HQ : Hid (okG xs es = (colorsOk xs && decide (es.length ≤ 512))) := okG_yes (fun j hj => hq.out j (by omega))
    clear hcol
    generalize hr : colorsOk xs = r at HC HQ
    clear hr
    go_wp2_with fail
    refine (unhide HC).mono ?_
    rintro e w1 ⟨rfl, rfl⟩
    cases r
    · go_wp2
      go_ret
      exact ⟨ret_bool (by rw [HQ.out]; rfl), hb1⟩
    · by_cases h5 : (es.length : Int) ≤ 512
      · go_wp2
        go_ret
        exact ⟨ret_bool (by rw [HQ.out]; simp; omega), hb1⟩
      · go_wp2
        go_ret
        exact ⟨ret_bool (by rw [HQ.out]; simp; omega), hb1⟩
end Go.Proofs.YtgfcbmflnldicaaDoor
namespace Go.Proofs.YtgfcbmflnldicaaDoor
open Go.RowKit
theorem implVG_any (a : Option Addr) (c : Nat) (xs : List Int) (ra : Option Addr) (rc : Nat) (es : List (Int × Int)) (w : World) (hx : Rd w a xs) (hes : RdE w ra es) :
    Calls Tryd.prog 15 #[.agg #[.slice a xs.length c, .slice ra es.length rc]] w fun e w' => e = .returned (.bool (okG xs es)) ∧ Below w.heap.size w w' :=
 implValidGraph_any a ra c rc xs es w hx hes
end Go.Proofs.YtgfcbmflnldicaaDoor
