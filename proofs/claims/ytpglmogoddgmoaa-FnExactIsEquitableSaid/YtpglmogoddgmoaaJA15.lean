/-
  Texts joined.
-/
import Derived.Test.YtpglmogoddgmoaaJA1
import Derived.Test.YtpglmogoddgmoaaJA3
import Derived.Test.YtpglmogoddgmoaaJA5
import Derived.Test.YtpglmogoddgmoaaJA6
import Derived.Test.YtpglmogoddgmoaaJA7
set_option linter.unusedVariables false
set_option linter.unusedSimpArgs false
set_option maxRecDepth 100000
set_option maxHeartbeats 40000000
namespace Go.Proofs.Ytpglmogoddgmoaa
open Go.RowKit
attribute [local go_sem ↓] Go.wp_at_zero Go.wp_at_succ
theorem geq_less (e f : Int × Int) : decide (0 ≤ cmpE e f) = !lessE e f := by
 unfold lessE
 rw [Bool.eq_iff_iff]; simp
theorem implValidGraph_any (a ra : Option Addr) (c rc : Nat) (xs : List Int) (es : List (Int × Int)) (w : World) (hx : Rd w a xs) (hes : RdE w ra es) :
    Calls Try.prog 104 #[.agg #[.slice a xs.length c, .slice ra es.length rc]] w fun e w' => e = .returned (.bool (okG xs es)) ∧ Below w.heap.size w w' := by
 have hxl := hx.len
 have hel := hes.len
 obtain ⟨w0, hw0⟩ : ∃ w0, w0 = w.alloc (.cells #[.slice a xs.length c, .slice ra es.length rc] 74) := ⟨_, rfl⟩
 have hb0 : Below w.heap.size w w0 := by rw [hw0]; exact (Below.refl _ _).alloc (Nat.le_refl _) _
 have kA : Blk w0 w.heap.size 74 #[.slice a xs.length c, .slice ra es.length rc] := by rw [hw0]; exact Blk.new _ _ _ rfl
 have s0 : w0.heap.size = w.heap.size + 1 := by rw [hw0]; simp
 have f0 : w0.cell? ⟨w.heap.size, 0, none⟩ = some (.slice a xs.length c) := kA.cell 0
 have f1 : w0.cell? ⟨w.heap.size, 1, none⟩ = some (.slice ra es.length rc) := kA.cell 1
 rw [hw0] at f0 f1
 have HW := Lib.hid hw0
 clear hw0
 go_enter Try.func104, Try.ntmps104
 go_wp2_with fail
 rw [← HW.out] at f0 f1 ⊢
 go_loopw [8] (fun i wr => ∃ (k : Nat), i = .int .i64 k ∧ k ≤ es.length ∧ Below w0.heap.size w0 wr ∧ Hid (∀ j, j < k → edgeOk xs.length es j = true)) (fun i _ => es.length - (intOf i).toNat)
 case atStart => exact ⟨0, rfl, by omega, Below.refl _ _, fun j hj => by omega⟩
 case round =>
  obtain ⟨k, rfl, hk, hb, hq⟩ := hrel
  have sr := hb.size
  have hb1 := hb0.trans (hb.mono (by omega))
  have kr := kA.below hb kA.lt
  clear f0 f1
  have f0 : wr.cell? ⟨w.heap.size, 0, none⟩ = some (.slice a xs.length c) := kr.cell 0
  have f1 : wr.cell? ⟨w.heap.size, 1, none⟩ = some (.slice ra es.length rc) := kr.cell 1
  have HB := Lib.hid hb
  by_cases hkl : k < es.length
  · obtain ⟨b1, o1, rfl, hbb, hcx⟩ := hes.at_ (by omega)
    have hx1 := (hb1.cell (p := ⟨b1, o1 + k * 2, none⟩) hbb).trans (hcx k hkl).1
    have hx2 := (hb1.cell (p := ⟨b1, o1 + k * 2 + 1, none⟩) hbb).trans (hcx k hkl).2
    obtain ⟨x, hxx⟩ : ∃ z, z = (nthE es k).1 := ⟨_, rfl⟩
    obtain ⟨y, hyy⟩ : ∃ z, z = (nthE es k).2 := ⟨_, rfl⟩
    rw [← hxx] at hx1
    rw [← hyy] at hx2
    have HX : Hid (nthE es k = (x, y)) := by show _ = _; rw [hxx, hyy]
    obtain ⟨wE, hwE⟩ : ∃ wE, wE = wr.alloc (.cells #[.int .i64 x, .int .i64 y] 161) := ⟨_, rfl⟩
    have hbE : Below wr.heap.size wr wE := by rw [hwE]; exact (Below.refl _ _).alloc (Nat.le_refl _) _
    have hbE0 : Below w0.heap.size w0 wE := hb.trans (hbE.mono sr)
    have hbEw := hb0.trans (hbE0.mono (by omega))
    have sE : wE.heap.size = wr.heap.size + 1 := by rw [hwE]; simp
    have kE : Blk wE wr.heap.size 161 #[.int .i64 x, .int .i64 y] := by rw [hwE]; exact Blk.new _ _ _ rfl
    have krE := kA.below hbE0 kA.lt
    have hp : k ≠ 0 → wE.cell? ⟨b1, o1 + (k - 1) * 2, none⟩ = some (.int .i64 (nthE es (k - 1)).1) ∧ wE.cell? ⟨b1, o1 + (k - 1) * 2 + 1, none⟩ = some (.int .i64 (nthE es (k - 1)).2) := fun _ =>
     ⟨(hbEw.cell hbb).trans (hcx (k - 1) (by omega)).1, (hbEw.cell hbb).trans (hcx (k - 1) (by omega)).2⟩
    have HWE := Lib.hid hwE
    have HP := hide hp
    clear hwE hp hcx hes hx hb hxx hyy
    go_upto_region 4 with fail
    rw [← HWE.out]
    have e0 : wE.cell? ⟨wr.heap.size, 0, none⟩ = some (.int .i64 x) := kE.cell 0
    have e1 : wE.cell? ⟨wr.heap.size, 1, none⟩ = some (.int .i64 y) := kE.cell 1
    have g0 : wE.cell? ⟨w.heap.size, 0, none⟩ = some (.slice a xs.length c) := krE.cell 0
    have g1 : wE.cell? ⟨w.heap.size, 1, none⟩ = some (.slice (some ⟨b1, o1, none⟩) es.length rc) := krE.cell 1
    go_cut [45] (fun v wx => v = .bool (!edgeOk xs.length es k) ∧ Below wE.heap.size wE wx)
    case first =>
     have key : ∀ W : World, Below wE.heap.size wE W → (Below wE.heap.size wE W ∧ W.cell? ⟨wr.heap.size, 0, none⟩ = some (.int .i64 x) ∧ W.cell? ⟨wr.heap.size, 1, none⟩ = some (.int .i64 y) ∧ W.cell? ⟨w.heap.size, 0, none⟩ = some (.slice a xs.length c) ∧ W.cell? ⟨w.heap.size, 1, none⟩ = some (.slice (some ⟨b1, o1, none⟩) es.length rc)) := fun W h => ⟨h, (h.cell kE.lt).trans e0, (h.cell kE.lt).trans e1, (h.cell krE.lt).trans g0, (h.cell krE.lt).trans g1⟩
     have BX := hide key
     have hZ := fun W => size_any a xs.length c W
     have HZ := hide hZ
     clear hZ
     by_cases d1 : 0 ≤ x
     case neg =>
      have EK := Lib.hid (edgeOk_no' HX.out (n := (xs.length : Int)) (by omega))
      have q1 : decide (x < 0) = true := decide_eq_true (by omega)
      refine wp_region_noPanic ?_
      refine wp_region_seq (S := (fun W => Below wE.heap.size wE W ∧ W.cell? ⟨wr.heap.size, 0, none⟩ = some (.int .i64 x) ∧ W.cell? ⟨wr.heap.size, 1, none⟩ = some (.int .i64 y) ∧ W.cell? ⟨w.heap.size, 0, none⟩ = some (.slice a xs.length c) ∧ W.cell? ⟨w.heap.size, 1, none⟩ = some (.slice (some ⟨b1, o1, none⟩) es.length rc))) [true, true, true, true, true, true, true, true, true, true, true, true, true, true, true, false, true, true, true, true, true, true, true, true, true, true, true, true, true, false, true, true, true] (by kernel_rfl) (by kernel_rfl) (by kernel_rfl) rfl (fun _ _ _ _ _ h => h) ?_ (fun hHeld => ?_)
      · exact (unhide BX) _ (Below.refl _ _).drew
      simp only [List.toList_toArray]
      refine SeqH.take (v := ?hv77) (by rfl) ?hy77 ?hr77
      case hy77 =>
       intro w hSw
       try dsimp only at hSw
       go_simp
       try (with_reducible rfl)
      try simp only [Act.put, List.setIfInBounds_toArray, List.set_cons_zero, List.set_cons_succ]
      refine SeqH.take (v := ?hv78) (by rfl) ?hy78 ?hr78
      case hy78 =>
       intro w hSw
       try dsimp only at hSw
       go_simp
       try (with_reducible rfl)
      try simp only [Act.put, List.setIfInBounds_toArray, List.set_cons_zero, List.set_cons_succ]
      refine SeqH.take (v := ?hv79) (by rfl) ?hy79 ?hr79
      case hy79 =>
       intro w hSw
       try dsimp only at hSw
       go_simp
       try (with_reducible rfl)
      try simp only [Act.put, List.setIfInBounds_toArray, List.set_cons_zero, List.set_cons_succ]
      refine SeqH.take (v := ?hv80) (by rfl) ?hy80 ?hr80
      case hy80 =>
       intro w hSw
       try dsimp only at hSw
       go_simp
       try (with_reducible rfl)
      try simp only [Act.put, List.setIfInBounds_toArray, List.set_cons_zero, List.set_cons_succ]
      refine SeqH.skip (by rfl) ?_
      try simp only [Act.put, List.setIfInBounds_toArray, List.set_cons_zero, List.set_cons_succ]
      refine SeqH.skip (by rfl) ?_
      try simp only [Act.put, List.setIfInBounds_toArray, List.set_cons_zero, List.set_cons_succ]
      refine SeqH.skip (by rfl) ?_
      try simp only [Act.put, List.setIfInBounds_toArray, List.set_cons_zero, List.set_cons_succ]
      refine SeqH.skip (by rfl) ?_
      try simp only [Act.put, List.setIfInBounds_toArray, List.set_cons_zero, List.set_cons_succ]
      refine SeqH.skip (by rfl) ?_
      try simp only [Act.put, List.setIfInBounds_toArray, List.set_cons_zero, List.set_cons_succ]
      refine SeqH.take (v := ?hv81) (by rfl) ?hy81 ?hr81
      case hy81 =>
       intro w hSw
       try dsimp only at hSw
       go_simp
       try (with_reducible rfl)
      try simp only [Act.put, List.setIfInBounds_toArray, List.set_cons_zero, List.set_cons_succ]
      refine SeqH.take (v := ?hv82) (by rfl) ?hy82 ?hr82
      case hy82 =>
       intro w hSw
       try dsimp only at hSw
       go_simp
       try (with_reducible rfl)
      try simp only [Act.put, List.setIfInBounds_toArray, List.set_cons_zero, List.set_cons_succ]
      refine SeqH.skip (by rfl) ?_
      try simp only [Act.put, List.setIfInBounds_toArray, List.set_cons_zero, List.set_cons_succ]
      refine SeqH.skip (by rfl) ?_
      try simp only [Act.put, List.setIfInBounds_toArray, List.set_cons_zero, List.set_cons_succ]
      refine SeqH.skip (by rfl) ?_
      try simp only [Act.put, List.setIfInBounds_toArray, List.set_cons_zero, List.set_cons_succ]
      refine SeqH.skip (by rfl) ?_
      try simp only [Act.put, List.setIfInBounds_toArray, List.set_cons_zero, List.set_cons_succ]
      refine SeqH.call (fun K hK => ?_)
      go_simp
      skip
      refine hK.out _ _ ?_ (fun hHeld => ?_)
      · exact hHeld
      clear hK K
      try simp only [Act.put, List.setIfInBounds_toArray, List.set_cons_zero, List.set_cons_succ]
      refine SeqH.skip (by rfl) ?_
      try simp only [Act.put, List.setIfInBounds_toArray, List.set_cons_zero, List.set_cons_succ]
      refine SeqH.take (v := ?hv83) (by rfl) ?hy83 ?hr83
      case hy83 =>
       intro w hSw
       try dsimp only at hSw
       go_simp
       try (with_reducible rfl)
      try simp only [Act.put, List.setIfInBounds_toArray, List.set_cons_zero, List.set_cons_succ]
      refine SeqH.take (v := ?hv84) (by rfl) ?hy84 ?hr84
      case hy84 =>
       intro w hSw
       try dsimp only at hSw
       go_simp
       try (with_reducible rfl)
      try simp only [Act.put, List.setIfInBounds_toArray, List.set_cons_zero, List.set_cons_succ]
      refine SeqH.skip (by rfl) ?_
      try simp only [Act.put, List.setIfInBounds_toArray, List.set_cons_zero, List.set_cons_succ]
      refine SeqH.skip (by rfl) ?_
      try simp only [Act.put, List.setIfInBounds_toArray, List.set_cons_zero, List.set_cons_succ]
      refine SeqH.skip (by rfl) ?_
      try simp only [Act.put, List.setIfInBounds_toArray, List.set_cons_zero, List.set_cons_succ]
      refine SeqH.skip (by rfl) ?_
      try simp only [Act.put, List.setIfInBounds_toArray, List.set_cons_zero, List.set_cons_succ]
      refine SeqH.skip (by rfl) ?_
      try simp only [Act.put, List.setIfInBounds_toArray, List.set_cons_zero, List.set_cons_succ]
      refine SeqH.skip (by rfl) ?_
      try simp only [Act.put, List.setIfInBounds_toArray, List.set_cons_zero, List.set_cons_succ]
      refine SeqH.skip (by rfl) ?_
      try simp only [Act.put, List.setIfInBounds_toArray, List.set_cons_zero, List.set_cons_succ]
      refine SeqH.skip (by rfl) ?_
      try simp only [Act.put, List.setIfInBounds_toArray, List.set_cons_zero, List.set_cons_succ]
      refine SeqH.skip (by rfl) ?_
      try simp only [Act.put, List.setIfInBounds_toArray, List.set_cons_zero, List.set_cons_succ]
      refine SeqH.skip (by rfl) ?_
      try simp only [Act.put, List.setIfInBounds_toArray, List.set_cons_zero, List.set_cons_succ]
      refine SeqH.call (fun K hK => ?_)
      go_simp
      skip
      refine hK.out _ _ ?_ (fun hHeld => ?_)
      · exact hHeld
      clear hK K
      try simp only [Act.put, List.setIfInBounds_toArray, List.set_cons_zero, List.set_cons_succ]
      refine SeqH.skip (by rfl) ?_
      try simp only [Act.put, List.setIfInBounds_toArray, List.set_cons_zero, List.set_cons_succ]
      refine SeqH.skip (by rfl) ?_
      try simp only [Act.put, List.setIfInBounds_toArray, List.set_cons_zero, List.set_cons_succ]
      refine SeqH.take (v := ?hv85) (by rfl) ?hy85 ?hr85
      case hy85 =>
       intro w hSw
       try dsimp only at hSw
       go_simp
       try (with_reducible rfl)
      try simp only [Act.put, List.setIfInBounds_toArray, List.set_cons_zero, List.set_cons_succ]
      refine SeqH.done (NoPanic.normal ?_)
      go_wp2
      go_meet
      exact ⟨by rw [EK.out]; rfl, (And.left hHeld)⟩
     have q1 : decide (x < 0) = false := by rw [decide_eq_false_iff_not]; omega
     by_cases d3 : x < y
     case neg =>
      have EK := Lib.hid (edgeOk_no' HX.out (n := (xs.length : Int)) (by omega))
      have q2 : decide (y ≤ x) = true := decide_eq_true (by omega)
      refine wp_region_noPanic ?_
      refine wp_region_seq (S := (fun W => Below wE.heap.size wE W ∧ W.cell? ⟨wr.heap.size, 0, none⟩ = some (.int .i64 x) ∧ W.cell? ⟨wr.heap.size, 1, none⟩ = some (.int .i64 y) ∧ W.cell? ⟨w.heap.size, 0, none⟩ = some (.slice a xs.length c) ∧ W.cell? ⟨w.heap.size, 1, none⟩ = some (.slice (some ⟨b1, o1, none⟩) es.length rc))) [true, true, true, true, true, true, true, true, true, true, true, true, true, true, true, false, true, true, true, true, true, true, true, true, true, true, true, true, true, false, true, true, true] (by kernel_rfl) (by kernel_rfl) (by kernel_rfl) rfl (fun _ _ _ _ _ h => h) ?_ (fun hHeld => ?_)
      · exact (unhide BX) _ (Below.refl _ _).drew
      simp only [List.toList_toArray]
      refine SeqH.take (v := ?hv86) (by rfl) ?hy86 ?hr86
      case hy86 =>
       intro w hSw
       try dsimp only at hSw
       go_simp
       try (with_reducible rfl)
      try simp only [Act.put, List.setIfInBounds_toArray, List.set_cons_zero, List.set_cons_succ]
      refine SeqH.take (v := ?hv87) (by rfl) ?hy87 ?hr87
      case hy87 =>
       intro w hSw
       try dsimp only at hSw
       go_simp
       try (with_reducible rfl)
      try simp only [Act.put, List.setIfInBounds_toArray, List.set_cons_zero, List.set_cons_succ]
      refine SeqH.take (v := ?hv88) (by rfl) ?hy88 ?hr88
      case hy88 =>
       intro w hSw
       try dsimp only at hSw
       go_simp
       try (with_reducible rfl)
      try simp only [Act.put, List.setIfInBounds_toArray, List.set_cons_zero, List.set_cons_succ]
      refine SeqH.take (v := ?hv89) (by rfl) ?hy89 ?hr89
      case hy89 =>
       intro w hSw
       try dsimp only at hSw
       go_simp
       try (with_reducible rfl)
      try simp only [Act.put, List.setIfInBounds_toArray, List.set_cons_zero, List.set_cons_succ]
      refine SeqH.take (v := ?hv90) (by rfl) ?hy90 ?hr90
      case hy90 =>
       intro w hSw
       try dsimp only at hSw
       go_simp
       try (with_reducible rfl)
      try simp only [Act.put, List.setIfInBounds_toArray, List.set_cons_zero, List.set_cons_succ]
      refine SeqH.take (v := ?hv91) (by rfl) ?hy91 ?hr91
      case hy91 =>
       intro w hSw
       try dsimp only at hSw
       go_simp
       try (with_reducible rfl)
      try simp only [Act.put, List.setIfInBounds_toArray, List.set_cons_zero, List.set_cons_succ]
      refine SeqH.take (v := ?hv92) (by rfl) ?hy92 ?hr92
      case hy92 =>
       intro w hSw
       try dsimp only at hSw
       go_simp
       try (with_reducible rfl)
      try simp only [Act.put, List.setIfInBounds_toArray, List.set_cons_zero, List.set_cons_succ]
      refine SeqH.take (v := ?hv93) (by rfl) ?hy93 ?hr93
      case hy93 =>
       intro w hSw
       try dsimp only at hSw
       go_simp
       try (with_reducible rfl)
      try simp only [Act.put, List.setIfInBounds_toArray, List.set_cons_zero, List.set_cons_succ]
      refine SeqH.take (v := ?hv94) (by rfl) ?hy94 ?hr94
      case hy94 =>
       intro w hSw
       try dsimp only at hSw
       go_simp
       try (with_reducible rfl)
      try simp only [Act.put, List.setIfInBounds_toArray, List.set_cons_zero, List.set_cons_succ]
      refine SeqH.take (v := ?hv95) (by rfl) ?hy95 ?hr95
      case hy95 =>
       intro w hSw
       try dsimp only at hSw
       go_simp
       try (with_reducible rfl)
      try simp only [Act.put, List.setIfInBounds_toArray, List.set_cons_zero, List.set_cons_succ]
      refine SeqH.take (v := ?hv96) (by rfl) ?hy96 ?hr96
      case hy96 =>
       intro w hSw
       try dsimp only at hSw
       go_simp
       try (with_reducible rfl)
      try simp only [Act.put, List.setIfInBounds_toArray, List.set_cons_zero, List.set_cons_succ]
      refine SeqH.skip (by rfl) ?_
      try simp only [Act.put, List.setIfInBounds_toArray, List.set_cons_zero, List.set_cons_succ]
      refine SeqH.skip (by rfl) ?_
      try simp only [Act.put, List.setIfInBounds_toArray, List.set_cons_zero, List.set_cons_succ]
      refine SeqH.skip (by rfl) ?_
      try simp only [Act.put, List.setIfInBounds_toArray, List.set_cons_zero, List.set_cons_succ]
      refine SeqH.skip (by rfl) ?_
      try simp only [Act.put, List.setIfInBounds_toArray, List.set_cons_zero, List.set_cons_succ]
      refine SeqH.call (fun K hK => ?_)
      go_simp
      skip
      refine hK.out _ _ ?_ (fun hHeld => ?_)
      · exact hHeld
      clear hK K
      try simp only [Act.put, List.setIfInBounds_toArray, List.set_cons_zero, List.set_cons_succ]
      refine SeqH.skip (by rfl) ?_
      try simp only [Act.put, List.setIfInBounds_toArray, List.set_cons_zero, List.set_cons_succ]
      refine SeqH.take (v := ?hv97) (by rfl) ?hy97 ?hr97
      case hy97 =>
       intro w hSw
       try dsimp only at hSw
       go_simp
       try (with_reducible rfl)
      try simp only [Act.put, List.setIfInBounds_toArray, List.set_cons_zero, List.set_cons_succ]
      refine SeqH.take (v := ?hv98) (by rfl) ?hy98 ?hr98
      case hy98 =>
       intro w hSw
       try dsimp only at hSw
       go_simp
       try (with_reducible rfl)
      try simp only [Act.put, List.setIfInBounds_toArray, List.set_cons_zero, List.set_cons_succ]
      refine SeqH.skip (by rfl) ?_
      try simp only [Act.put, List.setIfInBounds_toArray, List.set_cons_zero, List.set_cons_succ]
      refine SeqH.skip (by rfl) ?_
      try simp only [Act.put, List.setIfInBounds_toArray, List.set_cons_zero, List.set_cons_succ]
      refine SeqH.skip (by rfl) ?_
      try simp only [Act.put, List.setIfInBounds_toArray, List.set_cons_zero, List.set_cons_succ]
      refine SeqH.skip (by rfl) ?_
      try simp only [Act.put, List.setIfInBounds_toArray, List.set_cons_zero, List.set_cons_succ]
      refine SeqH.skip (by rfl) ?_
      try simp only [Act.put, List.setIfInBounds_toArray, List.set_cons_zero, List.set_cons_succ]
      refine SeqH.skip (by rfl) ?_
      try simp only [Act.put, List.setIfInBounds_toArray, List.set_cons_zero, List.set_cons_succ]
      refine SeqH.skip (by rfl) ?_
      try simp only [Act.put, List.setIfInBounds_toArray, List.set_cons_zero, List.set_cons_succ]
      refine SeqH.skip (by rfl) ?_
      try simp only [Act.put, List.setIfInBounds_toArray, List.set_cons_zero, List.set_cons_succ]
      refine SeqH.skip (by rfl) ?_
      try simp only [Act.put, List.setIfInBounds_toArray, List.set_cons_zero, List.set_cons_succ]
      refine SeqH.skip (by rfl) ?_
      try simp only [Act.put, List.setIfInBounds_toArray, List.set_cons_zero, List.set_cons_succ]
      refine SeqH.call (fun K hK => ?_)
      go_simp
      skip
      refine hK.out _ _ ?_ (fun hHeld => ?_)
      · exact hHeld
      clear hK K
      try simp only [Act.put, List.setIfInBounds_toArray, List.set_cons_zero, List.set_cons_succ]
      refine SeqH.skip (by rfl) ?_
      try simp only [Act.put, List.setIfInBounds_toArray, List.set_cons_zero, List.set_cons_succ]
      refine SeqH.skip (by rfl) ?_
      try simp only [Act.put, List.setIfInBounds_toArray, List.set_cons_zero, List.set_cons_succ]
      refine SeqH.take (v := ?hv99) (by rfl) ?hy99 ?hr99
      case hy99 =>
       intro w hSw
       try dsimp only at hSw
       go_simp
       try (with_reducible rfl)
      try simp only [Act.put, List.setIfInBounds_toArray, List.set_cons_zero, List.set_cons_succ]
      refine SeqH.done (NoPanic.normal ?_)
      go_wp2
      go_meet
      exact ⟨by rw [EK.out]; rfl, (And.left hHeld)⟩
     have q2 : decide (y ≤ x) = false := by rw [decide_eq_false_iff_not]; omega
     by_cases d4 : y < (xs.length : Int)
     case neg =>
      have EK := Lib.hid (edgeOk_no' HX.out (n := (xs.length : Int)) (by omega))
      have q3 : decide ((xs.length : Int) ≤ y) = true := decide_eq_true (by omega)
      refine wp_region_noPanic ?_
      refine wp_region_seq (S := (fun W => Below wE.heap.size wE W ∧ W.cell? ⟨wr.heap.size, 0, none⟩ = some (.int .i64 x) ∧ W.cell? ⟨wr.heap.size, 1, none⟩ = some (.int .i64 y) ∧ W.cell? ⟨w.heap.size, 0, none⟩ = some (.slice a xs.length c) ∧ W.cell? ⟨w.heap.size, 1, none⟩ = some (.slice (some ⟨b1, o1, none⟩) es.length rc))) [true, true, true, true, true, true, true, true, true, true, true, true, true, true, true, false, true, true, true, true, true, true, true, true, true, true, true, true, true, false, true, true, true] (by kernel_rfl) (by kernel_rfl) (by kernel_rfl) rfl (fun _ _ _ _ _ h => h) ?_ (fun hHeld => ?_)
      · exact (unhide BX) _ (Below.refl _ _).drew
      simp only [List.toList_toArray]
      refine SeqH.take (v := ?hv100) (by rfl) ?hy100 ?hr100
      case hy100 =>
       intro w hSw
       try dsimp only at hSw
       go_simp
       try (with_reducible rfl)
      try simp only [Act.put, List.setIfInBounds_toArray, List.set_cons_zero, List.set_cons_succ]
      refine SeqH.take (v := ?hv101) (by rfl) ?hy101 ?hr101
      case hy101 =>
       intro w hSw
       try dsimp only at hSw
       go_simp
       try (with_reducible rfl)
      try simp only [Act.put, List.setIfInBounds_toArray, List.set_cons_zero, List.set_cons_succ]
      refine SeqH.take (v := ?hv102) (by rfl) ?hy102 ?hr102
      case hy102 =>
       intro w hSw
       try dsimp only at hSw
       go_simp
       try (with_reducible rfl)
      try simp only [Act.put, List.setIfInBounds_toArray, List.set_cons_zero, List.set_cons_succ]
      refine SeqH.take (v := ?hv103) (by rfl) ?hy103 ?hr103
      case hy103 =>
       intro w hSw
       try dsimp only at hSw
       go_simp
       try (with_reducible rfl)
      try simp only [Act.put, List.setIfInBounds_toArray, List.set_cons_zero, List.set_cons_succ]
      refine SeqH.take (v := ?hv104) (by rfl) ?hy104 ?hr104
      case hy104 =>
       intro w hSw
       try dsimp only at hSw
       go_simp
       try (with_reducible rfl)
      try simp only [Act.put, List.setIfInBounds_toArray, List.set_cons_zero, List.set_cons_succ]
      refine SeqH.take (v := ?hv105) (by rfl) ?hy105 ?hr105
      case hy105 =>
       intro w hSw
       try dsimp only at hSw
       go_simp
       try (with_reducible rfl)
      try simp only [Act.put, List.setIfInBounds_toArray, List.set_cons_zero, List.set_cons_succ]
      refine SeqH.take (v := ?hv106) (by rfl) ?hy106 ?hr106
      case hy106 =>
       intro w hSw
       try dsimp only at hSw
       go_simp
       try (with_reducible rfl)
      try simp only [Act.put, List.setIfInBounds_toArray, List.set_cons_zero, List.set_cons_succ]
      refine SeqH.take (v := ?hv107) (by rfl) ?hy107 ?hr107
      case hy107 =>
       intro w hSw
       try dsimp only at hSw
       go_simp
       try (with_reducible rfl)
      try simp only [Act.put, List.setIfInBounds_toArray, List.set_cons_zero, List.set_cons_succ]
      refine SeqH.take (v := ?hv108) (by rfl) ?hy108 ?hr108
      case hy108 =>
       intro w hSw
       try dsimp only at hSw
       go_simp
       try (with_reducible rfl)
      try simp only [Act.put, List.setIfInBounds_toArray, List.set_cons_zero, List.set_cons_succ]
      refine SeqH.take (v := ?hv109) (by rfl) ?hy109 ?hr109
      case hy109 =>
       intro w hSw
       try dsimp only at hSw
       go_simp
       try (with_reducible rfl)
      try simp only [Act.put, List.setIfInBounds_toArray, List.set_cons_zero, List.set_cons_succ]
      refine SeqH.take (v := ?hv110) (by rfl) ?hy110 ?hr110
      case hy110 =>
       intro w hSw
       try dsimp only at hSw
       go_simp
       try (with_reducible rfl)
      try simp only [Act.put, List.setIfInBounds_toArray, List.set_cons_zero, List.set_cons_succ]
      refine SeqH.take (v := ?hv111) (by rfl) ?hy111 ?hr111
      case hy111 =>
       intro w hSw
       try dsimp only at hSw
       go_simp
       try (with_reducible rfl)
      try simp only [Act.put, List.setIfInBounds_toArray, List.set_cons_zero, List.set_cons_succ]
      refine SeqH.take (v := ?hv112) (by rfl) ?hy112 ?hr112
      case hy112 =>
       intro w hSw
       try dsimp only at hSw
       go_simp
       try (with_reducible rfl)
      try simp only [Act.put, List.setIfInBounds_toArray, List.set_cons_zero, List.set_cons_succ]
      refine SeqH.take (v := ?hv113) (by rfl) ?hy113 ?hr113
      case hy113 =>
       intro w hSw
       try dsimp only at hSw
       go_simp
       try (with_reducible rfl)
      try simp only [Act.put, List.setIfInBounds_toArray, List.set_cons_zero, List.set_cons_succ]
      refine SeqH.take (v := ?hv114) (by rfl) ?hy114 ?hr114
      case hy114 =>
       intro w hSw
       try dsimp only at hSw
       go_simp
       try (with_reducible rfl)
      try simp only [Act.put, List.setIfInBounds_toArray, List.set_cons_zero, List.set_cons_succ]
      refine SeqH.call (fun K hK => ?_)
      go_simp
      refine ((unhide HZ) _).mono ?_
      rintro e W ⟨rfl, rfl⟩
      go_wp2_with fail
      refine hK.out _ _ ?_ (fun hHeld => ?_)
      · exact hHeld
      clear hK K
      try simp only [Act.put, List.setIfInBounds_toArray, List.set_cons_zero, List.set_cons_succ]
      refine SeqH.take (v := ?hv115) (by rfl) ?hy115 ?hr115
      case hy115 =>
       intro w hSw
       try dsimp only at hSw
       go_simp
       try (with_reducible rfl)
      try simp only [Act.put, List.setIfInBounds_toArray, List.set_cons_zero, List.set_cons_succ]
      refine SeqH.take (v := ?hv116) (by rfl) ?hy116 ?hr116
      case hy116 =>
       intro w hSw
       try dsimp only at hSw
       go_simp
       try (with_reducible rfl)
      try simp only [Act.put, List.setIfInBounds_toArray, List.set_cons_zero, List.set_cons_succ]
      refine SeqH.take (v := ?hv117) (by rfl) ?hy117 ?hr117
      case hy117 =>
       intro w hSw
       try dsimp only at hSw
       go_simp
       try (with_reducible rfl)
      try simp only [Act.put, List.setIfInBounds_toArray, List.set_cons_zero, List.set_cons_succ]
      refine SeqH.skip (by rfl) ?_
      try simp only [Act.put, List.setIfInBounds_toArray, List.set_cons_zero, List.set_cons_succ]
      refine SeqH.skip (by rfl) ?_
      try simp only [Act.put, List.setIfInBounds_toArray, List.set_cons_zero, List.set_cons_succ]
      refine SeqH.skip (by rfl) ?_
      try simp only [Act.put, List.setIfInBounds_toArray, List.set_cons_zero, List.set_cons_succ]
      refine SeqH.skip (by rfl) ?_
      try simp only [Act.put, List.setIfInBounds_toArray, List.set_cons_zero, List.set_cons_succ]
      refine SeqH.skip (by rfl) ?_
      try simp only [Act.put, List.setIfInBounds_toArray, List.set_cons_zero, List.set_cons_succ]
      refine SeqH.skip (by rfl) ?_
      try simp only [Act.put, List.setIfInBounds_toArray, List.set_cons_zero, List.set_cons_succ]
      refine SeqH.skip (by rfl) ?_
      try simp only [Act.put, List.setIfInBounds_toArray, List.set_cons_zero, List.set_cons_succ]
      refine SeqH.skip (by rfl) ?_
      try simp only [Act.put, List.setIfInBounds_toArray, List.set_cons_zero, List.set_cons_succ]
      refine SeqH.skip (by rfl) ?_
      try simp only [Act.put, List.setIfInBounds_toArray, List.set_cons_zero, List.set_cons_succ]
      refine SeqH.skip (by rfl) ?_
      try simp only [Act.put, List.setIfInBounds_toArray, List.set_cons_zero, List.set_cons_succ]
      refine SeqH.call (fun K hK => ?_)
      go_simp
      skip
      refine hK.out _ _ ?_ (fun hHeld => ?_)
      · exact hHeld
      clear hK K
      try simp only [Act.put, List.setIfInBounds_toArray, List.set_cons_zero, List.set_cons_succ]
      refine SeqH.skip (by rfl) ?_
      try simp only [Act.put, List.setIfInBounds_toArray, List.set_cons_zero, List.set_cons_succ]
      refine SeqH.skip (by rfl) ?_
      try simp only [Act.put, List.setIfInBounds_toArray, List.set_cons_zero, List.set_cons_succ]
      refine SeqH.take (v := ?hv118) (by rfl) ?hy118 ?hr118
      case hy118 =>
       intro w hSw
       try dsimp only at hSw
       go_simp
       try (with_reducible rfl)
      try simp only [Act.put, List.setIfInBounds_toArray, List.set_cons_zero, List.set_cons_succ]
      refine SeqH.done (NoPanic.normal ?_)
      go_wp2
      go_meet
      exact ⟨by rw [EK.out]; rfl, (And.left hHeld)⟩
     have q3 : decide ((xs.length : Int) ≤ y) = false := by rw [decide_eq_false_iff_not]; omega
     by_cases k0 : k = 0
     case pos =>
      subst k0
      have EK := Lib.hid (edgeOk_zero' HX.out (n := (xs.length : Int)) (by omega) (by omega) (by omega))
      have q5 : decide ((0 : Int) < ((0 : Nat) : Int)) = false := rfl
      refine wp_region_noPanic ?_
      refine wp_region_seq (S := (fun W => Below wE.heap.size wE W ∧ W.cell? ⟨wr.heap.size, 0, none⟩ = some (.int .i64 x) ∧ W.cell? ⟨wr.heap.size, 1, none⟩ = some (.int .i64 y) ∧ W.cell? ⟨w.heap.size, 0, none⟩ = some (.slice a xs.length c) ∧ W.cell? ⟨w.heap.size, 1, none⟩ = some (.slice (some ⟨b1, o1, none⟩) es.length rc))) [true, true, true, true, true, true, true, true, true, true, true, true, true, true, true, false, true, true, true, true, true, true, true, true, true, true, true, true, true, false, true, true, true] (by kernel_rfl) (by kernel_rfl) (by kernel_rfl) rfl (fun _ _ _ _ _ h => h) ?_ (fun hHeld => ?_)
      · exact (unhide BX) _ (Below.refl _ _).drew
      simp only [List.toList_toArray]
      refine SeqH.take (v := ?hv119) (by rfl) ?hy119 ?hr119
      case hy119 =>
       intro w hSw
       try dsimp only at hSw
       go_simp
       try (with_reducible rfl)
      try simp only [Act.put, List.setIfInBounds_toArray, List.set_cons_zero, List.set_cons_succ]
      refine SeqH.take (v := ?hv120) (by rfl) ?hy120 ?hr120
      case hy120 =>
       intro w hSw
       try dsimp only at hSw
       go_simp
       try (with_reducible rfl)
      try simp only [Act.put, List.setIfInBounds_toArray, List.set_cons_zero, List.set_cons_succ]
      refine SeqH.take (v := ?hv121) (by rfl) ?hy121 ?hr121
      case hy121 =>
       intro w hSw
       try dsimp only at hSw
       go_simp
       try (with_reducible rfl)
      try simp only [Act.put, List.setIfInBounds_toArray, List.set_cons_zero, List.set_cons_succ]
      refine SeqH.take (v := ?hv122) (by rfl) ?hy122 ?hr122
      case hy122 =>
       intro w hSw
       try dsimp only at hSw
       go_simp
       try (with_reducible rfl)
      try simp only [Act.put, List.setIfInBounds_toArray, List.set_cons_zero, List.set_cons_succ]
      refine SeqH.take (v := ?hv123) (by rfl) ?hy123 ?hr123
      case hy123 =>
       intro w hSw
       try dsimp only at hSw
       go_simp
       try (with_reducible rfl)
      try simp only [Act.put, List.setIfInBounds_toArray, List.set_cons_zero, List.set_cons_succ]
      refine SeqH.take (v := ?hv124) (by rfl) ?hy124 ?hr124
      case hy124 =>
       intro w hSw
       try dsimp only at hSw
       go_simp
       try (with_reducible rfl)
      try simp only [Act.put, List.setIfInBounds_toArray, List.set_cons_zero, List.set_cons_succ]
      refine SeqH.take (v := ?hv125) (by rfl) ?hy125 ?hr125
      case hy125 =>
       intro w hSw
       try dsimp only at hSw
       go_simp
       try (with_reducible rfl)
      try simp only [Act.put, List.setIfInBounds_toArray, List.set_cons_zero, List.set_cons_succ]
      refine SeqH.take (v := ?hv126) (by rfl) ?hy126 ?hr126
      case hy126 =>
       intro w hSw
       try dsimp only at hSw
       go_simp
       try (with_reducible rfl)
      try simp only [Act.put, List.setIfInBounds_toArray, List.set_cons_zero, List.set_cons_succ]
      refine SeqH.take (v := ?hv127) (by rfl) ?hy127 ?hr127
      case hy127 =>
       intro w hSw
       try dsimp only at hSw
       go_simp
       try (with_reducible rfl)
      try simp only [Act.put, List.setIfInBounds_toArray, List.set_cons_zero, List.set_cons_succ]
      refine SeqH.take (v := ?hv128) (by rfl) ?hy128 ?hr128
      case hy128 =>
       intro w hSw
       try dsimp only at hSw
       go_simp
       try (with_reducible rfl)
      try simp only [Act.put, List.setIfInBounds_toArray, List.set_cons_zero, List.set_cons_succ]
      refine SeqH.take (v := ?hv129) (by rfl) ?hy129 ?hr129
      case hy129 =>
       intro w hSw
       try dsimp only at hSw
       go_simp
       try (with_reducible rfl)
      try simp only [Act.put, List.setIfInBounds_toArray, List.set_cons_zero, List.set_cons_succ]
      refine SeqH.take (v := ?hv130) (by rfl) ?hy130 ?hr130
      case hy130 =>
       intro w hSw
       try dsimp only at hSw
       go_simp
       try (with_reducible rfl)
      try simp only [Act.put, List.setIfInBounds_toArray, List.set_cons_zero, List.set_cons_succ]
      refine SeqH.take (v := ?hv131) (by rfl) ?hy131 ?hr131
      case hy131 =>
       intro w hSw
       try dsimp only at hSw
       go_simp
       try (with_reducible rfl)
      try simp only [Act.put, List.setIfInBounds_toArray, List.set_cons_zero, List.set_cons_succ]
      refine SeqH.take (v := ?hv132) (by rfl) ?hy132 ?hr132
      case hy132 =>
       intro w hSw
       try dsimp only at hSw
       go_simp
       try (with_reducible rfl)
      try simp only [Act.put, List.setIfInBounds_toArray, List.set_cons_zero, List.set_cons_succ]
      refine SeqH.take (v := ?hv133) (by rfl) ?hy133 ?hr133
      case hy133 =>
       intro w hSw
       try dsimp only at hSw
       go_simp
       try (with_reducible rfl)
      try simp only [Act.put, List.setIfInBounds_toArray, List.set_cons_zero, List.set_cons_succ]
      refine SeqH.call (fun K hK => ?_)
      go_simp
      refine ((unhide HZ) _).mono ?_
      rintro e W ⟨rfl, rfl⟩
      go_wp2_with fail
      refine hK.out _ _ ?_ (fun hHeld => ?_)
      · exact hHeld
      clear hK K
      try simp only [Act.put, List.setIfInBounds_toArray, List.set_cons_zero, List.set_cons_succ]
      refine SeqH.take (v := ?hv134) (by rfl) ?hy134 ?hr134
      case hy134 =>
       intro w hSw
       try dsimp only at hSw
       go_simp
       try (with_reducible rfl)
      try simp only [Act.put, List.setIfInBounds_toArray, List.set_cons_zero, List.set_cons_succ]
      refine SeqH.take (v := ?hv135) (by rfl) ?hy135 ?hr135
      case hy135 =>
       intro w hSw
       try dsimp only at hSw
       go_simp
       try (with_reducible rfl)
      try simp only [Act.put, List.setIfInBounds_toArray, List.set_cons_zero, List.set_cons_succ]
      refine SeqH.take (v := ?hv136) (by rfl) ?hy136 ?hr136
      case hy136 =>
       intro w hSw
       try dsimp only at hSw
       go_simp
       try (with_reducible rfl)
      try simp only [Act.put, List.setIfInBounds_toArray, List.set_cons_zero, List.set_cons_succ]
      refine SeqH.take (v := ?hv137) (by rfl) ?hy137 ?hr137
      case hy137 =>
       intro w hSw
       try dsimp only at hSw
       go_simp
       try (with_reducible rfl)
      try simp only [Act.put, List.setIfInBounds_toArray, List.set_cons_zero, List.set_cons_succ]
      refine SeqH.take (v := ?hv138) (by rfl) ?hy138 ?hr138
      case hy138 =>
       intro w hSw
       try dsimp only at hSw
       go_simp
       try (with_reducible rfl)
      try simp only [Act.put, List.setIfInBounds_toArray, List.set_cons_zero, List.set_cons_succ]
      refine SeqH.take (v := ?hv139) (by rfl) ?hy139 ?hr139
      case hy139 =>
       intro w hSw
       try dsimp only at hSw
       go_simp
       try (with_reducible rfl)
      try simp only [Act.put, List.setIfInBounds_toArray, List.set_cons_zero, List.set_cons_succ]
      refine SeqH.skip (by rfl) ?_
      try simp only [Act.put, List.setIfInBounds_toArray, List.set_cons_zero, List.set_cons_succ]
      refine SeqH.skip (by rfl) ?_
      try simp only [Act.put, List.setIfInBounds_toArray, List.set_cons_zero, List.set_cons_succ]
      refine SeqH.skip (by rfl) ?_
      try simp only [Act.put, List.setIfInBounds_toArray, List.set_cons_zero, List.set_cons_succ]
      refine SeqH.skip (by rfl) ?_
      try simp only [Act.put, List.setIfInBounds_toArray, List.set_cons_zero, List.set_cons_succ]
      refine SeqH.skip (by rfl) ?_
      try simp only [Act.put, List.setIfInBounds_toArray, List.set_cons_zero, List.set_cons_succ]
      refine SeqH.skip (by rfl) ?_
      try simp only [Act.put, List.setIfInBounds_toArray, List.set_cons_zero, List.set_cons_succ]
      refine SeqH.skip (by rfl) ?_
      try simp only [Act.put, List.setIfInBounds_toArray, List.set_cons_zero, List.set_cons_succ]
      refine SeqH.call (fun K hK => ?_)
      go_simp
      skip
      refine hK.out _ _ ?_ (fun hHeld => ?_)
      · exact hHeld
      clear hK K
      try simp only [Act.put, List.setIfInBounds_toArray, List.set_cons_zero, List.set_cons_succ]
      refine SeqH.skip (by rfl) ?_
      try simp only [Act.put, List.setIfInBounds_toArray, List.set_cons_zero, List.set_cons_succ]
      refine SeqH.take (v := ?hv140) (by rfl) ?hy140 ?hr140
      case hy140 =>
       intro w hSw
       try dsimp only at hSw
       go_simp
       try (with_reducible rfl)
      try simp only [Act.put, List.setIfInBounds_toArray, List.set_cons_zero, List.set_cons_succ]
      refine SeqH.take (v := ?hv141) (by rfl) ?hy141 ?hr141
      case hy141 =>
       intro w hSw
       try dsimp only at hSw
       go_simp
       try (with_reducible rfl)
      try simp only [Act.put, List.setIfInBounds_toArray, List.set_cons_zero, List.set_cons_succ]
      refine SeqH.done (NoPanic.normal ?_)
      go_wp2
      go_meet
      exact ⟨by rw [EK.out]; rfl, (And.left hHeld)⟩
     obtain ⟨m, rfl⟩ : ∃ m, k = m + 1 := ⟨k - 1, by omega⟩
     obtain ⟨hq0, hq1⟩ := (unhide HP) k0
     have hek := edgeOk_less' HX.out (n := (xs.length : Int)) k0 (by omega) (by omega) (by omega)
     simp only [Nat.add_sub_cancel] at hq0 hq1 hek
     obtain ⟨px, hpx⟩ : ∃ z, z = (nthE es m).1 := ⟨_, rfl⟩
     obtain ⟨py, hpy⟩ : ∃ z, z = (nthE es m).2 := ⟨_, rfl⟩
     rw [← hpx] at hq0
     rw [← hpy] at hq1
     have hpe : nthE es m = (px, py) := by rw [hpx, hpy]
     rw [hpe] at hek
     have EK := Lib.hid hek
     have key2 : ∀ W : World, Below wE.heap.size wE W → (Below wE.heap.size wE W ∧ W.cell? ⟨wr.heap.size, 0, none⟩ = some (.int .i64 x) ∧ W.cell? ⟨wr.heap.size, 1, none⟩ = some (.int .i64 y) ∧ W.cell? ⟨w.heap.size, 0, none⟩ = some (.slice a xs.length c) ∧ W.cell? ⟨w.heap.size, 1, none⟩ = some (.slice (some ⟨b1, o1, none⟩) es.length rc) ∧ W.cell? ⟨b1, o1 + m * 2, none⟩ = some (.int .i64 px) ∧ W.cell? ⟨b1, o1 + m * 2 + 1, none⟩ = some (.int .i64 py)) := fun W h => ⟨h, (h.cell kE.lt).trans e0, (h.cell kE.lt).trans e1, (h.cell krE.lt).trans g0, (h.cell krE.lt).trans g1, (h.cell (World.block_lt_of_cell? wE _ hq0)).trans hq0, (h.cell (World.block_lt_of_cell? wE _ hq1)).trans hq1⟩
     have BY := hide key2
     clear key2 hq0 hq1 HP hek k0 hpx hpy hpe
     have hw3 : IntKind.i64.wrap (m : Int) = (m : Int) := IntWalk.i64_in _ (by omega)
     have hml : m < es.length := by omega
     have q5 : decide ((0 : Int) < ((m + 1 : Nat) : Int)) = true := decide_eq_true (by omega)
     have q6 : decide ((0 : Int) < (m : Int) + 1) = true := decide_eq_true (by omega)
     refine wp_region_noPanic ?_
     refine wp_region_seq (S := (fun W => Below wE.heap.size wE W ∧ W.cell? ⟨wr.heap.size, 0, none⟩ = some (.int .i64 x) ∧ W.cell? ⟨wr.heap.size, 1, none⟩ = some (.int .i64 y) ∧ W.cell? ⟨w.heap.size, 0, none⟩ = some (.slice a xs.length c) ∧ W.cell? ⟨w.heap.size, 1, none⟩ = some (.slice (some ⟨b1, o1, none⟩) es.length rc) ∧ W.cell? ⟨b1, o1 + m * 2, none⟩ = some (.int .i64 px) ∧ W.cell? ⟨b1, o1 + m * 2 + 1, none⟩ = some (.int .i64 py))) [true, true, true, true, true, true, true, true, true, true, true, true, true, true, true, false, true, true, true, true, true, true, true, true, true, true, true, true, true, false, true, true, true] (by kernel_rfl) (by kernel_rfl) (by kernel_rfl) rfl (fun _ _ _ _ _ h => h) ?_ (fun hHeld => ?_)
     · exact (unhide BY) _ (Below.refl _ _).drew
     simp only [List.toList_toArray]
     refine SeqH.take (v := ?hv142) (by rfl) ?hy142 ?hr142
     case hy142 =>
      intro w hSw
      try dsimp only at hSw
      go_simp
      try (with_reducible rfl)
     try simp only [Act.put, List.setIfInBounds_toArray, List.set_cons_zero, List.set_cons_succ]
     refine SeqH.take (v := ?hv143) (by rfl) ?hy143 ?hr143
     case hy143 =>
      intro w hSw
      try dsimp only at hSw
      go_simp
      try (with_reducible rfl)
     try simp only [Act.put, List.setIfInBounds_toArray, List.set_cons_zero, List.set_cons_succ]
     refine SeqH.take (v := ?hv144) (by rfl) ?hy144 ?hr144
     case hy144 =>
      intro w hSw
      try dsimp only at hSw
      go_simp
      try (with_reducible rfl)
     try simp only [Act.put, List.setIfInBounds_toArray, List.set_cons_zero, List.set_cons_succ]
     refine SeqH.take (v := ?hv145) (by rfl) ?hy145 ?hr145
     case hy145 =>
      intro w hSw
      try dsimp only at hSw
      go_simp
      try (with_reducible rfl)
     try simp only [Act.put, List.setIfInBounds_toArray, List.set_cons_zero, List.set_cons_succ]
     refine SeqH.take (v := ?hv146) (by rfl) ?hy146 ?hr146
     case hy146 =>
      intro w hSw
      try dsimp only at hSw
      go_simp
      try (with_reducible rfl)
     try simp only [Act.put, List.setIfInBounds_toArray, List.set_cons_zero, List.set_cons_succ]
     refine SeqH.take (v := ?hv147) (by rfl) ?hy147 ?hr147
     case hy147 =>
      intro w hSw
      try dsimp only at hSw
      go_simp
      try (with_reducible rfl)
     try simp only [Act.put, List.setIfInBounds_toArray, List.set_cons_zero, List.set_cons_succ]
     refine SeqH.take (v := ?hv148) (by rfl) ?hy148 ?hr148
     case hy148 =>
      intro w hSw
      try dsimp only at hSw
      go_simp
      try (with_reducible rfl)
     try simp only [Act.put, List.setIfInBounds_toArray, List.set_cons_zero, List.set_cons_succ]
     refine SeqH.take (v := ?hv149) (by rfl) ?hy149 ?hr149
     case hy149 =>
      intro w hSw
      try dsimp only at hSw
      go_simp
      try (with_reducible rfl)
     try simp only [Act.put, List.setIfInBounds_toArray, List.set_cons_zero, List.set_cons_succ]
     refine SeqH.take (v := ?hv150) (by rfl) ?hy150 ?hr150
     case hy150 =>
      intro w hSw
      try dsimp only at hSw
      go_simp
      try (with_reducible rfl)
     try simp only [Act.put, List.setIfInBounds_toArray, List.set_cons_zero, List.set_cons_succ]
     refine SeqH.take (v := ?hv151) (by rfl) ?hy151 ?hr151
     case hy151 =>
      intro w hSw
      try dsimp only at hSw
      go_simp
      try (with_reducible rfl)
     try simp only [Act.put, List.setIfInBounds_toArray, List.set_cons_zero, List.set_cons_succ]
     refine SeqH.take (v := ?hv152) (by rfl) ?hy152 ?hr152
     case hy152 =>
      intro w hSw
      try dsimp only at hSw
      go_simp
      try (with_reducible rfl)
     try simp only [Act.put, List.setIfInBounds_toArray, List.set_cons_zero, List.set_cons_succ]
     refine SeqH.take (v := ?hv153) (by rfl) ?hy153 ?hr153
     case hy153 =>
      intro w hSw
      try dsimp only at hSw
      go_simp
      try (with_reducible rfl)
     try simp only [Act.put, List.setIfInBounds_toArray, List.set_cons_zero, List.set_cons_succ]
     refine SeqH.take (v := ?hv154) (by rfl) ?hy154 ?hr154
     case hy154 =>
      intro w hSw
      try dsimp only at hSw
      go_simp
      try (with_reducible rfl)
     try simp only [Act.put, List.setIfInBounds_toArray, List.set_cons_zero, List.set_cons_succ]
     refine SeqH.take (v := ?hv155) (by rfl) ?hy155 ?hr155
     case hy155 =>
      intro w hSw
      try dsimp only at hSw
      go_simp
      try (with_reducible rfl)
     try simp only [Act.put, List.setIfInBounds_toArray, List.set_cons_zero, List.set_cons_succ]
     refine SeqH.take (v := ?hv156) (by rfl) ?hy156 ?hr156
     case hy156 =>
      intro w hSw
      try dsimp only at hSw
      go_simp
      try (with_reducible rfl)
     try simp only [Act.put, List.setIfInBounds_toArray, List.set_cons_zero, List.set_cons_succ]
     refine SeqH.call (fun K hK => ?_)
     go_simp
     refine ((unhide HZ) _).mono ?_
     rintro e W ⟨rfl, rfl⟩
     go_wp2_with fail
     refine hK.out _ _ ?_ (fun hHeld => ?_)
     · exact hHeld
     clear hK K
     try simp only [Act.put, List.setIfInBounds_toArray, List.set_cons_zero, List.set_cons_succ]
     refine SeqH.take (v := ?hv157) (by rfl) ?hy157 ?hr157
     case hy157 =>
      intro w hSw
      try dsimp only at hSw
      go_simp
      try (with_reducible rfl)
     try simp only [Act.put, List.setIfInBounds_toArray, List.set_cons_zero, List.set_cons_succ]
     refine SeqH.take (v := ?hv158) (by rfl) ?hy158 ?hr158
     case hy158 =>
      intro w hSw
      try dsimp only at hSw
      go_simp
      try (with_reducible rfl)
     try simp only [Act.put, List.setIfInBounds_toArray, List.set_cons_zero, List.set_cons_succ]
     refine SeqH.take (v := ?hv159) (by rfl) ?hy159 ?hr159
     case hy159 =>
      intro w hSw
      try dsimp only at hSw
      go_simp
      try (with_reducible rfl)
     try simp only [Act.put, List.setIfInBounds_toArray, List.set_cons_zero, List.set_cons_succ]
     refine SeqH.take (v := ?hv160) (by rfl) ?hy160 ?hr160
     case hy160 =>
      intro w hSw
      try dsimp only at hSw
      go_simp
      try (with_reducible rfl)
     try simp only [Act.put, List.setIfInBounds_toArray, List.set_cons_zero, List.set_cons_succ]
     refine SeqH.take (v := ?hv161) (by rfl) ?hy161 ?hr161
     case hy161 =>
      intro w hSw
      try dsimp only at hSw
      go_simp
      try (with_reducible rfl)
     try simp only [Act.put, List.setIfInBounds_toArray, List.set_cons_zero, List.set_cons_succ]
     refine SeqH.take (v := ?hv162) (by rfl) ?hy162 ?hr162
     case hy162 =>
      intro w hSw
      try dsimp only at hSw
      go_simp
      try (with_reducible rfl)
     try simp only [Act.put, List.setIfInBounds_toArray, List.set_cons_zero, List.set_cons_succ]
     refine SeqH.take (v := ?hv163) (by rfl) ?hy163 ?hr163
     case hy163 =>
      intro w hSw
      try dsimp only at hSw
      go_simp
      try (with_reducible rfl)
     try simp only [Act.put, List.setIfInBounds_toArray, List.set_cons_zero, List.set_cons_succ]
     refine SeqH.take (v := ?hv164) (by rfl) ?hy164 ?hr164
     case hy164 =>
      intro w hSw
      try dsimp only at hSw
      go_simp
      try (with_reducible rfl)
     try simp only [Act.put, List.setIfInBounds_toArray, List.set_cons_zero, List.set_cons_succ]
     refine SeqH.take (v := ?hv165) (by rfl) ?hy165 ?hr165
     case hy165 =>
      intro w hSw
      try dsimp only at hSw
      go_simp
      try (with_reducible rfl)
     try simp only [Act.put, List.setIfInBounds_toArray, List.set_cons_zero, List.set_cons_succ]
     refine SeqH.take (v := ?hv166) (by rfl) ?hy166 ?hr166
     case hy166 =>
      intro w hSw
      try dsimp only at hSw
      go_simp
      try (with_reducible rfl)
     try simp only [Act.put, List.setIfInBounds_toArray, List.set_cons_zero, List.set_cons_succ]
     refine SeqH.take (v := ?hv167) (by rfl) ?hy167 ?hr167
     case hy167 =>
      intro w hSw
      try dsimp only at hSw
      go_simp
      try (with_reducible rfl)
     try simp only [Act.put, List.setIfInBounds_toArray, List.set_cons_zero, List.set_cons_succ]
     refine SeqH.take (v := ?hv168) (by rfl) ?hy168 ?hr168
     case hy168 =>
      intro w hSw
      try dsimp only at hSw
      go_simp
      try (with_reducible rfl)
     try simp only [Act.put, List.setIfInBounds_toArray, List.set_cons_zero, List.set_cons_succ]
     refine SeqH.take (v := ?hv169) (by rfl) ?hy169 ?hr169
     case hy169 =>
      intro w hSw
      try dsimp only at hSw
      go_simp
      try (with_reducible rfl)
     try simp only [Act.put, List.setIfInBounds_toArray, List.set_cons_zero, List.set_cons_succ]
     refine SeqH.call (fun K hK => ?_)
     go_simp
     refine (compareEdges_any (px, py) (x, y) _).mono ?_
     rintro e W3 ⟨rfl, bb3⟩
     have hB3 := Below.chain (a := wE) (And.left hHeld) bb3
     go_wp2_with fail
     refine hK.out _ _ ?_ (fun hHeld => ?_)
     · exact (unhide BY) _ hB3
     clear hK K
     try simp only [Act.put, List.setIfInBounds_toArray, List.set_cons_zero, List.set_cons_succ]
     refine SeqH.take (v := ?hv170) (by rfl) ?hy170 ?hr170
     case hy170 =>
      intro w hSw
      try dsimp only at hSw
      go_simp
      try (with_reducible rfl)
     try simp only [Act.put, List.setIfInBounds_toArray, List.set_cons_zero, List.set_cons_succ]
     refine SeqH.take (v := ?hv171) (by rfl) ?hy171 ?hr171
     case hy171 =>
      intro w hSw
      try dsimp only at hSw
      go_simp
      try (with_reducible rfl)
     try simp only [Act.put, List.setIfInBounds_toArray, List.set_cons_zero, List.set_cons_succ]
     refine SeqH.take (v := ?hv172) (by rfl) ?hy172 ?hr172
     case hy172 =>
      intro w hSw
      try dsimp only at hSw
      go_simp
      try (with_reducible rfl)
     try simp only [Act.put, List.setIfInBounds_toArray, List.set_cons_zero, List.set_cons_succ]
     refine SeqH.done (NoPanic.normal ?_)
     go_wp2
     go_meet
     exact ⟨by rw [EK.out]; exact congrArg Value.bool (geq_less _ _), hB3⟩
    case rest =>
     obtain ⟨rfl, hbc⟩ := hcut
     obtain ⟨wc, hwc⟩ : ∃ z, z = wOf hbc := ⟨_, rfl⟩
     unfold wOf at hwc
     subst hwc
     have hbc0 : Below w0.heap.size w0 wc := hbE0.trans (hbc.mono (by omega))
     obtain ⟨r, hr⟩ : ∃ r, edgeOk xs.length es k = r := ⟨_, rfl⟩
     rw [hr]
     have HK := Lib.hid hr
     clear hr
     cases r
     · go_wp2
       go_ret
       exact ⟨ret_bool (okG_no hkl HK.out).symm, hb0.trans (hbc0.mono (by omega))⟩
     · go_wp2
       go_roundw
       case rel =>
        refine ⟨k + 1, by go_num, by omega, hbc0, fun j hj => ?_⟩
        rcases Nat.lt_succ_iff_lt_or_eq.1 hj with h | rfl
        · exact hq.out j h
        · exact HK.out
       case measure => simp [intOf]; omega
  · have hcol := areColors_any a c xs wr (hx.below hb1)
    have HC := hide hcol
    have HQ : Hid (okG xs es = (colorsOk xs && decide (es.length ≤ 512))) := okG_yes (fun j hj => hq.out j (by omega))
    clear hcol
    generalize hr : colorsOk xs = r at HC HQ
    clear hr
    go_wp2_with fail
    refine (unhide HC).mono ?_
    rintro e w1 ⟨rfl, rfl⟩
    cases r
    · go_wp2
      go_ret
      exact ⟨ret_bool (by rw [HQ.out]; rfl), hb1⟩
    · by_cases h5 : (es.length : Int) ≤ 512
      · go_wp2
        go_ret
        exact ⟨ret_bool (by rw [HQ.out]; simp; omega), hb1⟩
      · go_wp2
        go_ret
        exact ⟨ret_bool (by rw [HQ.out]; simp; omega), hb1⟩
end Go.Proofs.Ytpglmogoddgmoaa
namespace Go.Proofs.Ytpglmogoddgmoaa
def NOk (N : List (List Int)) : Prop := ∀ v, v < N.length → ∀ x ∈ nthL N v, 0 ≤ x ∧ x < N.length
theorem near_ok (n : Nat) (T : Nat → Nat → Bool) : NOk (nearA n T n) := fun v hv x hx => by
 rw [nearA_len] at hv ⊢
 rw [nearA_nth T hv] at hx
 obtain ⟨b, hb, _, rfl⟩ := mem_nearT.1 hx
 omega
end Go.Proofs.Ytpglmogoddgmoaa
namespace Go.Proofs.Ytpglmogoddgmoaa
open Go.RowKit
attribute [local go_sem ↓] Go.wp_at_zero Go.wp_at_succ
def OfSt (w : World) (B g : Nat) (v1 : Value) (xs : List Int) (es : List (Int × Int)) : Prop := ∃ u, Blk w g 74 #[v1, u] ∧ Own w B v1 xs ∧ OwnE w B u es
section
variable {w w' : World} {B g : Nat} {v u : Value} {xs : List Int} {es : List (Int × Int)} {cs : Array Value}
theorem Blk.grownG {t : TypeId} {row : Option Nat} (k : Blk w g t cs) (hg : w.grownBy w' row) (hne : row ≠ some g) : Blk w' g t cs := (hg.block g k.lt (fun e => hne e.symm)).trans k
theorem OwnE.ne_blk (h : OwnE w B v es) (k : Blk w g 74 cs) : v.ownBlock ≠ some g := by
 rcases h.2.2 with ⟨rfl, _⟩ | ⟨g', cap, cur, rfl, _, hg, _⟩
 · simp [Value.ownBlock]
 · intro e
   simp only [Value.ownBlock, Option.some.injEq] at e
   subst e
   have k : w.heap[g']? = some (.cells cs 74 (0, 0)) := k
   rw [hg] at k
   injection k with h1
   injection h1 with _ h2
   exact absurd h2 (by decide)
theorem Own.ne_blk (h : Own w B v xs) (k : Blk w g 74 cs) : v.ownBlock ≠ some g := by
 rcases h.2.2 with ⟨rfl, _⟩ | ⟨g', cap, cur, rfl, _, hg, _⟩
 · simp [Value.ownBlock]
 · intro e
   simp only [Value.ownBlock, Option.some.injEq] at e
   subst e
   have k : w.heap[g']? = some (.cells cs 74 (0, 0)) := k
   rw [hg] at k
   injection k with h1
   injection h1 with _ h2
   exact absurd h2 (by decide)
theorem Own.ne_edges {B' : Nat} (o : Own w B v xs) (h : OwnE w B' u es) : v.ownBlock = none ∨ v.ownBlock ≠ u.ownBlock := by
 rcases h.ne_ints o with e | e
 · rw [e]
   rcases Classical.em (v.ownBlock = none) with h2 | h2
   · exact .inl h2
   · exact .inr h2
 · exact .inr fun e2 => e e2.symm
theorem OfSt.below (h : OfSt w B g v xs es) (hb : Below w.heap.size w w') : OfSt w' B g v xs es := by
 obtain ⟨u, k, o, e⟩ := h
 exact ⟨u, k.below hb k.lt, o.below hb (Nat.le_refl _), e.below hb (Nat.le_refl _)⟩
theorem OfSt.push {w1 w2 : World} {u' : Value} {e : Int × Int} (k : Blk w g 74 #[v, u]) (o : Own w B v xs) (oe : OwnE w B u es) (hb : Below w.heap.size w w1) (hg : w1.grownBy w2 u.ownBlock) (o2 : OwnE w2 B u' (es ++ [e])) :
    w2.cell? ⟨g, 1, none⟩ = some u ∧ w2.frozen? ⟨g, 1, none⟩ = false ∧ OfSt (w2.setCell ⟨g, 1, none⟩ u') B g v xs (es ++ [e]) := by
 have k1 := k.below hb k.lt
 have o1 := o.below hb (Nat.le_refl _)
 have e1 := oe.below hb (Nat.le_refl _)
 have k2 := k1.grownG hg (e1.ne_blk k1)
 have o3 := o1.grow hg (o1.ne_edges e1)
 have k3 := k2.set_ 1 u'
 have gs := grownBy_setC w2 g 1 u'
 refine ⟨k2.cell 1, k2.frozen 1, u', ?_, o3.grow gs (.inr (o3.ne_blk k2)), o2.grow gs (.inr (o2.ne_blk k2))⟩
 simpa using k3
end
end Go.Proofs.Ytpglmogoddgmoaa
