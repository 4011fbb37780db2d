/-
  Walks: SimplexCode of the program. Printed by gen_ham.py. Printed by gen_ham.py.
-/
import Derived.BigQuiet
import Derived.BigRegion
import Derived.ChangeOld
import Derived.Deep.DeepCutAuto
import Derived.Deep.DeepMust
import Derived.Deep.DrawnRows
import Derived.Deep.Draws
import Derived.Deep.OwnRows
import Derived.Deep.QuietTactic
import Derived.Deep.RegionHeld3
import Derived.Deep.Slices
import Derived.IntWalk
import Derived.Laws.Rows
import Derived.Lib.Hide
import Derived.Maps.AppendAt
import Derived.OpenShut
import Derived.OwnWalk
import Derived.ProofKit
import Derived.ShutString
import Derived.StillTailTactics
import Derived.Test.YtcblhjhabhjbkaaProg
import Derived.Test.YtcblhjhabhjbkaaRows
import Derived.WalkKit
import Derived.WalkLawsBesides
import Derived.WalkSpells
import Derived.Test.YtcblhjhabhjbkaaZ61
set_option linter.unusedVariables false
set_option linter.unusedSimpArgs false
namespace Go.Proofs.Ytcblhjhabhjbkaa
open Go.RowKit
attribute [local go_sem ↓] Go.wp_at_zero Go.wp_at_succ
set_option maxRecDepth 100000 in
set_option maxHeartbeats 3200000 in
theorem implSC_any (q r : Int) (w : World) : Calls Try.prog 32 #[.int .i64 q, .int .i64 r] w (ResC w (simRes q r)) := by
  obtain ⟨W0, hHW⟩ : ∃ z, z = w.alloc (.cells #[.int .i64 0, .int .i64 0, .slice none 0 0, .slice none 0 0] 31) := ⟨_, rfl⟩
  have b0 : Below w.heap.size w W0 := by rw [hHW]; exact (Below.refl _ _).alloc (Nat.le_refl _) _
  have kr : Blk W0 w.heap.size 31 #[.int .i64 0, .int .i64 0, .slice none 0 0, .slice none 0 0] := by rw [hHW]; exact Blk.new _ _ _ rfl
  have sk0 : w.heap.size < W0.heap.size := kr.lt
  have HW := Lib.hid hHW
  clear hHW
  generalize hR : simRes q r = rr
  cases hk : (isField q && colsOk q r) with
  | false =>
    have HN := Lib.hid (show rr = (0, 0, [], [], 2) by rw [← hR, simRes, hk]; rfl)
    have hV := checked_no q r W0 hk
    have HV := hide hV
    clear hV hk hR
    go_enter Try.func32, Try.ntmps32
    go_upto_region 1 with fail
    rw [← HW.out]
    go_wp2_with fail
    refine (unhide HV).mono ?_
    rintro e w1 ⟨rfl, b1⟩
    obtain ⟨W1, hHF⟩ : ∃ z, z = w1.alloc (.cells #[.int .i64 0, .int .i64 0, .slice none 0 0] 29) := ⟨_, rfl⟩
    have bF : Below w1.heap.size w1 W1 := by rw [hHF]; exact (Below.refl _ _).alloc (Nat.le_refl _) _
    have kF : Blk W1 w1.heap.size 29 #[.int .i64 0, .int .i64 0, .slice none 0 0] := by rw [hHF]; exact Blk.new _ _ _ rfl
    have HF := Lib.hid hHF
    clear hHF
    have c1x := Below.chain b1 bF
    have kr2 := kr.below c1x kr.lt
    go_upto_region 2 with fail
    rw [← HF.out]
    have r0 := kr2.cell 0
    have r1 := kr2.cell 1
    have r2 := kr2.cell 2
    have r3 := kr2.cell 3
    have s0 := kr2.frozen 0
    have s1 := kr2.frozen 1
    have s2 := kr2.frozen 2
    have s3 := kr2.frozen 3
    go_wp2
    refine bodyPost_ret (results_cell_tmp_row rfl _ _ w.heap.size 31 #[.int .i64 0, .int .i64 0, .slice none 0 0, .slice none 0 0] _ rfl (kr2.b4.store _ _ _ _) Try.underlying31 rfl (by kernel_rfl)) rfl ?_
    rw [HN.out]
    exact ⟨_, _, rfl, OwnC.nil _ _, Below.set4 (b0.trans (c1x.mono (Nat.le_of_lt sk0))) (Nat.le_refl _) _ _ _ _⟩
  | true =>
    obtain ⟨hf, hc⟩ : isField q = true ∧ colsOk q r = true := by rw [Bool.and_eq_true] at hk; exact hk
    obtain ⟨hr2, hr4, hC3, hC32, hCM⟩ := hcols_bd hf hc
    have hG := fdOf_good hf
    have ok := hG.ok
    obtain ⟨n2, n64⟩ := ok.n_bd
    have hV := checked_yes q r W0 hf hc
    have hRR : rr = mkC (fdOf q) (form (fdOf q) (cols (hcols q r) r.toNat) (hcols q r).length) := by rw [← hR, simRes, hk]; rfl
    have hr0 := (colsOk_true hc).1
    obtain ⟨R, rfl⟩ := Int.eq_ofNat_of_zero_le (show 0 ≤ r by omega)
    clear hk hc hR hr0 hf
    rw [Int.toNat_natCast] at *
    generalize fdOf q = F at *
    generalize hcols q R = C at *
    have hl : ∀ xs ∈ C, xs.length = R := fun xs h => (hCM xs h).1
    have hT := fun a c W (h : Rd W a F.poly) => tablesOf_any F a c W h ok
    have hCO := fun a d W (h : RdS W a C) => columnsOf_any a d C R W h hl (by omega) (by omega)
    have hMM := cols_Mat ok hCM
    have hMl := cols_len C R
    obtain ⟨M, hM⟩ : ∃ M, M = cols C R := ⟨_, rfl⟩
    rw [← hM] at hCO hMM hMl hRR
    have hNS := fun tv a d W hT (hy : RdS W a M) => nullSpace_any F tv a d M C.length W hT hG hy (by omega) hMM (by omega) (by omega)
    obtain ⟨N, hN⟩ : ∃ N, N = form F M C.length := ⟨_, rfl⟩
    have hCD := fun a c b d W (hx : Rd W a F.poly) (hy : RdS W b M) => codeOf_all F a c b d M C.length W hx hG hy hMM
    rw [← hN] at hCD hRR
    have HT := hide hT
    have HCO := hide hCO
    have HNS := hide hNS
    have HCD := hide hCD
    have HRR := Lib.hid hRR
    have HV := hide hV
    clear hT hCO hNS hCD hRR hV hMM hM hN hl hCM hMl
    go_enter Try.func32, Try.ntmps32
    go_upto_region 1 with fail
    rw [← HW.out]
    go_wp2_with fail
    refine (unhide HV).mono ?_
    rintro e w1 ⟨v1, u1, rfl, o1, q1, b1⟩
    obtain ⟨a1, c1, rfl, _, _⟩ := o1.form
    obtain ⟨au, cu, rfl, _⟩ := q1.form
    obtain ⟨W1, hHF⟩ : ∃ z, z = w1.alloc (.cells #[.int .i64 F.p, .int .i64 F.k, .slice a1 F.poly.length c1] 29) := ⟨_, rfl⟩
    have bF : Below w1.heap.size w1 W1 := by rw [hHF]; exact (Below.refl _ _).alloc (Nat.le_refl _) _
    have kF : Blk W1 w1.heap.size 29 #[.int .i64 F.p, .int .i64 F.k, .slice a1 F.poly.length c1] := by rw [hHF]; exact Blk.new _ _ _ rfl
    have HF := Lib.hid hHF
    clear hHF
    have c1x := Below.chain b1 bF
    have z1 := b1.size
    have zF := kF.lt
    have hH0 : HamH w W0.heap.size w1.heap.size F a1 c1 au cu C W1 := ⟨b0.trans (c1x.mono (Nat.le_of_lt sk0)), ⟨sk0, c1x.size, zF, by omega⟩, kF, o1.below bF (Nat.le_refl _), q1.below bF (Nat.le_refl _), (kr.below c1x kr.lt).b4⟩
    have BX := hide (show ∀ W, HamH w W0.heap.size w1.heap.size F a1 c1 au cu C W → (HamH w W0.heap.size w1.heap.size F a1 c1 au cu C W ∧ W.cell? ⟨w1.heap.size, 0, none⟩ = some (.int .i64 F.p) ∧ W.cell? ⟨w1.heap.size, 1, none⟩ = some (.int .i64 F.k) ∧ W.cell? ⟨w1.heap.size, 2, none⟩ = some (.slice a1 F.poly.length c1)) from fun W h => ⟨h, h.kF.cell 0, h.kF.cell 1, h.kF.cell 2⟩)
    have hH1 := hH0.next (Below.refl _ _).drew
    clear b1 bF kF o1 q1 c1x
    go_upto_region 4 with fail
    rw [← HF.out]
    refine wp_region_noPanic ?_
    refine wp_region_ord (S := (fun W => HamH w W0.heap.size w1.heap.size F a1 c1 au cu C W ∧ W.cell? ⟨w1.heap.size, 0, none⟩ = some (.int .i64 F.p) ∧ W.cell? ⟨w1.heap.size, 1, none⟩ = some (.int .i64 F.k) ∧ W.cell? ⟨w1.heap.size, 2, none⟩ = some (.slice a1 F.poly.length c1))) [(true, 0), (true, 1), (true, 2), (false, 3), (false, 4), (true, 5), (true, 6), (false, 7), (true, 8)] (by kernel_rfl) (by kernel_rfl) (by kernel_rfl) rfl (fun _ _ _ _ _ h => h) ?_ (fun hHeld => ?_)
    · exact (unhide BX) _ hH1
    refine SeqO.take (by rfl) (v := ?hv10) (by rfl) ?hy10 ?hr10
    case hy10 =>
      intro w hSw
      try dsimp only at hSw
      go_simp
      try (with_reducible rfl)
    try simp only [Act.put, List.setIfInBounds_toArray, List.set_cons_zero, List.set_cons_succ]
    refine SeqO.take (by rfl) (v := ?hv11) (by rfl) ?hy11 ?hr11
    case hy11 =>
      intro w hSw
      try dsimp only at hSw
      go_simp
      try (with_reducible rfl)
    try simp only [Act.put, List.setIfInBounds_toArray, List.set_cons_zero, List.set_cons_succ]
    refine SeqO.take (by rfl) (v := ?hv12) (by rfl) ?hy12 ?hr12
    case hy12 =>
      intro w hSw
      try dsimp only at hSw
      go_simp
      try (with_reducible rfl)
    try simp only [Act.put, List.setIfInBounds_toArray, List.set_cons_zero, List.set_cons_succ]
    refine SeqO.call (by rfl) (fun K hK => ?_)
    go_simp
    refine (unhide HCO _ _ _ hH1.co.rd).mono ?_
    rintro e w3 ⟨u, rfl, o3, b3⟩
    obtain ⟨ay, cy, rfl, r4⟩ := o3.form
    have hB4 := hH1.next b3
    go_wp2_with fail
    refine hK.out _ _ ?_ (fun hHeld => ?_)
    · exact (unhide BX) _ hB4
    clear hK K
    try simp only [Act.put, List.setIfInBounds_toArray, List.set_cons_zero, List.set_cons_succ]
    refine SeqO.call (by rfl) (fun K hK => ?_)
    go_simp
    refine (unhide HCD _ _ ay cy _ hB4.po.rd r4).mono ?_
    rintro e w5 ⟨v5, u5, rfl, o5, b5⟩
    have hB5 := hB4.next b5
    obtain ⟨qq, hqq⟩ : ∃ qq, qq = mkC F N := ⟨_, rfl⟩
    rw [← hqq] at o5 ⊢
    obtain ⟨rp, rd, rx, ry, rz⟩ := qq
    simp only [] at o5 ⊢
    obtain ⟨a5, c5, p5, d5, rfl, rfl, _, _⟩ := o5.form
    have HQ := Lib.hid hqq
    clear hqq
    obtain ⟨x0, x1, x2, x3, kr5⟩ := hB5.kr
    have r0 := kr5.cell 0
    have r1 := kr5.cell 1
    have r2 := kr5.cell 2
    have r3' := kr5.cell 3
    have s0 := kr5.frozen 0
    have s1 := kr5.frozen 1
    have s2 := kr5.frozen 2
    have s3 := kr5.frozen 3
    have hB6 := hB5.store
    have z4 := b5.size
    go_wp2_with fail
    refine hK.out _ _ ?_ (fun hHeld => ?_)
    · exact (unhide BX) _ hB5
    clear hK K
    try simp only [Act.put, List.setIfInBounds_toArray, List.set_cons_zero, List.set_cons_succ]
    refine SeqO.take (by rfl) (v := ?hv13) (by rfl) ?hy13 ?hr13
    case hy13 =>
      intro w hSw
      try dsimp only at hSw
      go_simp
      try (with_reducible rfl)
    try simp only [Act.put, List.setIfInBounds_toArray, List.set_cons_zero, List.set_cons_succ]
    refine SeqO.take (by rfl) (v := ?hv14) (by rfl) ?hy14 ?hr14
    case hy14 =>
      intro w hSw
      try dsimp only at hSw
      go_simp
      try (with_reducible rfl)
    try simp only [Act.put, List.setIfInBounds_toArray, List.set_cons_zero, List.set_cons_succ]
    refine SeqO.call (by rfl) (fun K hK => ?_)
    go_simp

    refine hK.out _ _ ?_ (fun hHeld => ?_)
    · exact (unhide BX) _ (hB6 _ _ _ _)
    clear hK K
    try simp only [Act.put, List.setIfInBounds_toArray, List.set_cons_zero, List.set_cons_succ]
    refine SeqO.take (by rfl) (v := ?hv15) (by rfl) ?hy15 ?hr15
    case hy15 =>
      intro w hSw
      try dsimp only at hSw
      go_simp
      try (with_reducible rfl)
    try simp only [Act.put, List.setIfInBounds_toArray, List.set_cons_zero, List.set_cons_succ]
    refine SeqO.done (NoPanic.normal ?_)
    have hlt := hB4.lt
    go_wp2
    refine bodyPost_ret (results_cell_tmp_row rfl _ _ w.heap.size 31 #[.int .i64 rp, .int .i64 rd, .slice a5 rx.length c5, .slice p5 ry.length d5] _ rfl (kr5.b4.store _ _ _ _) Try.underlying31 rfl (by kernel_rfl)) rfl ?_
    rw [HRR.out, ← HQ.out]
    refine ⟨_, _, rfl, ?_, Below.set4 hB5.bel (Nat.le_refl _) _ _ _ _⟩
    exact ((((o5.storeBelow (by show w.heap.size < _; omega) _).storeBelow (by show w.heap.size < _; omega) _).storeBelow (by show w.heap.size < _; omega) _).storeBelow (by show w.heap.size < _; omega) _).mono (by omega)
end Go.Proofs.Ytcblhjhabhjbkaa

