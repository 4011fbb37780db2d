/-
  Texts joined.
-/
import Derived.Test.YtkiljcbejmiioaaGreatLK1
import Derived.Test.YtkiljcbejmiioaaGreatLK3
import Derived.Test.YtkiljcbejmiioaaGreatLK5
import Derived.Test.YtkiljcbejmiioaaGreatLK6
import Derived.Test.YtkiljcbejmiioaaGreatLK7
import Derived.Test.YtkiljcbejmiioaaGreatLK14
import Derived.Test.YtkiljcbejmiioaaGreatLK15
set_option linter.unusedVariables false
set_option linter.unusedSimpArgs false
set_option maxRecDepth 100000
set_option maxHeartbeats 40000000
namespace Go.Proofs.YtkiljcbejmiioaaGreat
open Go.RowKit
attribute [local go_sem ↓] Go.wp_at_zero Go.wp_at_succ
def okC (p d : Int) (xs : List Int) (m : List (List Int)) : Bool :=
 okM p d xs m && (decide (m.length ≤ 8) && (decide (capTo (fdR p d xs).n 4096 m.length ≤ 4096) && decide (form (fdR p d xs) m (nthL m 0).length = m)))
structure GC (F : FD) (n : Nat) (m : List (List Int)) : Prop where
 good : F.Good
 m1 : 1 ≤ m.length
 m8 : m.length ≤ 8
 n1 : 1 ≤ n
 n32 : n ≤ 32
 hn : (nthL m 0).length = n
 mat : F.Mat n m
 cap : capTo F.n 4096 m.length ≤ 4096
 fix : form F m n = m
theorem okC_gc {p d : Int} {xs : List Int} {m : List (List Int)} (h : okC p d xs m = true) : ∃ F n, p = F.p ∧ d = (F.k : Int) ∧ xs = F.poly ∧ GC F n m := by
 rw [okC, Bool.and_eq_true, Bool.and_eq_true, Bool.and_eq_true, decide_eq_true_eq, decide_eq_true_eq, decide_eq_true_eq] at h
 obtain ⟨a, b, c, d⟩ := h
 obtain ⟨F, hG, rfl, rfl, rfl, m1, _, n1, n32, hM⟩ := okM_true a
 rw [fdR_eq] at c d
 exact ⟨F, _, rfl, rfl, rfl, hG, m1, b, n1, n32, rfl, hM, c, d⟩
def PC (w : World) (g : Nat) (p d : Int) (a : Option Addr) (c : Nat) (xs : List Int) (ra : Option Addr) (rc : Nat) (m : List (List Int)) : Prop :=
 PR w g p d a c xs ∧ w.cell? ⟨g, 3, none⟩ = some (.slice ra m.length rc) ∧ RdS w ra m
section
variable {w w' : World} {g : Nat} {p d : Int} {a : Option Addr} {c : Nat} {xs : List Int} {ra : Option Addr} {rc : Nat} {m : List (List Int)}
theorem PC.below (h : PC w g p d a c xs ra rc m) (hb : Below w.heap.size w w') : PC w' g p d a c xs ra rc m :=
 ⟨h.1.below hb, (hb.cell (p := ⟨g, 3, none⟩) h.1.lt).trans h.2.1, h.2.2.below hb⟩
theorem PC.row0 (h : PC w g p d a c xs ra rc m) (h0 : 0 < m.length) : ∃ gb ob ai ci, ra = some ⟨gb, ob, none⟩ ∧ w.cell? ⟨gb, ob, none⟩ = some (.slice ai (nthL m 0).length ci) ∧ gb < w.heap.size := by
 obtain ⟨gb, ob, e, hb, hc⟩ := h.2.2.at_ h0
 obtain ⟨ai, ci, hc1, _⟩ := hc 0 h0
 exact ⟨gb, ob, ai, ci, e, hc1, hb⟩
end
theorem l18Ok_any (g : Nat) (p d : Int) (a : Option Addr) (c : Nat) (xs : List Int) (ra : Option Addr) (rc : Nat) (m : List (List Int)) (w : World) (hC : PC w g p d a c xs ra rc m) : Calls Tryz.prog 32 #[.pointer (some ⟨g, 0, none⟩)] w fun e w' => e = .returned (.bool (okC p d xs m)) ∧ Below w.heap.size w w' := by
 have hml := hC.2.2.len
 have hV := fun W (hW : Below w.heap.size w W) => l17Ok_any g p d a c xs ra rc m W (hC.below hW).1 (hC.below hW).2.2
 obtain ⟨k0, hk0⟩ : ∃ k0, k0 = okM p d xs m := ⟨_, rfl⟩
 rw [← hk0] at hV
 have HV := hide hV
 have HC := hide hC
 clear hV
 cases k0 with
 | false =>
  have HN := Lib.hid (show okC p d xs m = false by rw [okC, ← hk0]; rfl)
  have boxes : ∀ W, Below w.heap.size w W → (Below w.heap.size w W ∧ W.cell? ⟨g, 3, none⟩ = some (.slice ra m.length rc)) := fun W h => ⟨h, (hC.below h).2.1⟩
  have BX := hide boxes
  clear hk0 hC boxes
  go_enter Tryz.func32, Tryz.ntmps32
  go_upto_region 1 with fail
  refine wp_region_noPanic ?_
  refine wp_region_seq (S := (fun W => Below w.heap.size w W ∧ W.cell? ⟨g, 3, none⟩ = some (.slice ra m.length rc))) [true, true, true, true, true, true, true, false, true, true, true, true, true, true, true, true, true, true, true, true, true, true, true, true, true, true, true] (by kernel_rfl) (by kernel_rfl) (by kernel_rfl) rfl (fun _ _ _ _ _ h => h) ?_ (fun hHeld => ?_)
  · exact (unhide BX) _ (Below.refl _ _).drew
  simp only [List.toList_toArray]
  refine SeqH.take (v := ?hv1) (by rfl) ?hy1 ?hr1
  case hy1 =>
   intro w hSw
   try dsimp only at hSw
   go_simp
   try (with_reducible rfl)
  try simp only [Act.put, List.setIfInBounds_toArray, List.set_cons_zero, List.set_cons_succ]
  refine SeqH.take (v := ?hv2) (by rfl) ?hy2 ?hr2
  case hy2 =>
   intro w hSw
   try dsimp only at hSw
   go_simp
   try (with_reducible rfl)
  try simp only [Act.put, List.setIfInBounds_toArray, List.set_cons_zero, List.set_cons_succ]
  refine SeqH.take (v := ?hv3) (by rfl) ?hy3 ?hr3
  case hy3 =>
   intro w hSw
   try dsimp only at hSw
   go_simp
   try (with_reducible rfl)
  try simp only [Act.put, List.setIfInBounds_toArray, List.set_cons_zero, List.set_cons_succ]
  refine SeqH.take (v := ?hv4) (by rfl) ?hy4 ?hr4
  case hy4 =>
   intro w hSw
   try dsimp only at hSw
   go_simp
   try (with_reducible rfl)
  try simp only [Act.put, List.setIfInBounds_toArray, List.set_cons_zero, List.set_cons_succ]
  refine SeqH.take (v := ?hv5) (by rfl) ?hy5 ?hr5
  case hy5 =>
   intro w hSw
   try dsimp only at hSw
   go_simp
   try (with_reducible rfl)
  try simp only [Act.put, List.setIfInBounds_toArray, List.set_cons_zero, List.set_cons_succ]
  refine SeqH.take (v := ?hv6) (by rfl) ?hy6 ?hr6
  case hy6 =>
   intro w hSw
   try dsimp only at hSw
   go_simp
   try (with_reducible rfl)
  try simp only [Act.put, List.setIfInBounds_toArray, List.set_cons_zero, List.set_cons_succ]
  refine SeqH.take (v := ?hv7) (by rfl) ?hy7 ?hr7
  case hy7 =>
   intro w hSw
   try dsimp only at hSw
   go_simp
   try (with_reducible rfl)
  try simp only [Act.put, List.setIfInBounds_toArray, List.set_cons_zero, List.set_cons_succ]
  refine SeqH.call (fun K hK => ?_)
  go_simp
  refine (unhide HV _ (And.left hHeld)).mono ?_
  rintro e w1 ⟨rfl, b1⟩
  have hB1 := Below.chain (a := w) (And.left hHeld) b1
  go_wp2_with fail
  refine hK.out _ _ ?_ (fun hHeld => ?_)
  · exact (unhide BX) _ hB1
  clear hK K
  try simp only [Act.put, List.setIfInBounds_toArray, List.set_cons_zero, List.set_cons_succ]
  refine SeqH.take (v := ?hv8) (by rfl) ?hy8 ?hr8
  case hy8 =>
   intro w hSw
   try dsimp only at hSw
   go_simp
   try (with_reducible rfl)
  try simp only [Act.put, List.setIfInBounds_toArray, List.set_cons_zero, List.set_cons_succ]
  refine SeqH.take (v := ?hv9) (by rfl) ?hy9 ?hr9
  case hy9 =>
   intro w hSw
   try dsimp only at hSw
   go_simp
   try (with_reducible rfl)
  try simp only [Act.put, List.setIfInBounds_toArray, List.set_cons_zero, List.set_cons_succ]
  refine SeqH.skip (by rfl) ?_
  try simp only [Act.put, List.setIfInBounds_toArray, List.set_cons_zero, List.set_cons_succ]
  refine SeqH.skip (by rfl) ?_
  try simp only [Act.put, List.setIfInBounds_toArray, List.set_cons_zero, List.set_cons_succ]
  refine SeqH.skip (by rfl) ?_
  try simp only [Act.put, List.setIfInBounds_toArray, List.set_cons_zero, List.set_cons_succ]
  refine SeqH.skip (by rfl) ?_
  try simp only [Act.put, List.setIfInBounds_toArray, List.set_cons_zero, List.set_cons_succ]
  refine SeqH.skip (by rfl) ?_
  try simp only [Act.put, List.setIfInBounds_toArray, List.set_cons_zero, List.set_cons_succ]
  refine SeqH.skip (by rfl) ?_
  try simp only [Act.put, List.setIfInBounds_toArray, List.set_cons_zero, List.set_cons_succ]
  refine SeqH.skip (by rfl) ?_
  try simp only [Act.put, List.setIfInBounds_toArray, List.set_cons_zero, List.set_cons_succ]
  refine SeqH.skip (by rfl) ?_
  try simp only [Act.put, List.setIfInBounds_toArray, List.set_cons_zero, List.set_cons_succ]
  refine SeqH.take (v := ?hv10) (by rfl) ?hy10 ?hr10
  case hy10 =>
   intro w hSw
   try dsimp only at hSw
   go_simp
   try (with_reducible rfl)
  try simp only [Act.put, List.setIfInBounds_toArray, List.set_cons_zero, List.set_cons_succ]
  refine SeqH.take (v := ?hv11) (by rfl) ?hy11 ?hr11
  case hy11 =>
   intro w hSw
   try dsimp only at hSw
   go_simp
   try (with_reducible rfl)
  try simp only [Act.put, List.setIfInBounds_toArray, List.set_cons_zero, List.set_cons_succ]
  refine SeqH.skip (by rfl) ?_
  try simp only [Act.put, List.setIfInBounds_toArray, List.set_cons_zero, List.set_cons_succ]
  refine SeqH.skip (by rfl) ?_
  try simp only [Act.put, List.setIfInBounds_toArray, List.set_cons_zero, List.set_cons_succ]
  refine SeqH.skip (by rfl) ?_
  try simp only [Act.put, List.setIfInBounds_toArray, List.set_cons_zero, List.set_cons_succ]
  refine SeqH.skip (by rfl) ?_
  try simp only [Act.put, List.setIfInBounds_toArray, List.set_cons_zero, List.set_cons_succ]
  refine SeqH.skip (by rfl) ?_
  try simp only [Act.put, List.setIfInBounds_toArray, List.set_cons_zero, List.set_cons_succ]
  refine SeqH.skip (by rfl) ?_
  try simp only [Act.put, List.setIfInBounds_toArray, List.set_cons_zero, List.set_cons_succ]
  refine SeqH.take (v := ?hv12) (by rfl) ?hy12 ?hr12
  case hy12 =>
   intro w hSw
   try dsimp only at hSw
   go_simp
   try (with_reducible rfl)
  try simp only [Act.put, List.setIfInBounds_toArray, List.set_cons_zero, List.set_cons_succ]
  refine SeqH.done (NoPanic.normal ?_)
  go_wp2
  go_ret
  exact ⟨ret_bool (by rw [HN.out]), hB1⟩
 | true =>
  obtain ⟨F, hG, rfl, rfl, rfl, hm1, hm32, hn1, hn32, hM⟩ := okM_true hk0.symm
  have ok := hG.ok
  obtain ⟨n2, n64⟩ := ok.n_bd
  have hO : okC F.p F.k F.poly m = (decide (m.length ≤ 8) && (decide (capTo F.n 4096 m.length ≤ 4096) && decide (form F m (nthL m 0).length = m))) := by rw [okC, ← hk0, fdR_eq]; rfl
  have HO := Lib.hid hO
  clear hO hk0
  obtain ⟨gb, ob, ai, ci, rfl, hr0, hgb⟩ := hC.row0 (by omega)
  obtain ⟨n, hn⟩ : ∃ n, n = (nthL m 0).length := ⟨_, rfl⟩
  rw [← hn] at hn1 hn32 hM hr0
  have HNN := Lib.hid hn
  have hn33 : decide ((32 : Int) < (n : Int)) = false := by rw [decide_eq_false_iff_not]; omega
  have boxes : ∀ W, Below w.heap.size w W → (Below w.heap.size w W ∧ W.cell? ⟨g, 3, none⟩ = some (.slice (some ⟨gb, ob, none⟩) m.length rc) ∧ W.cell? ⟨gb, ob, none⟩ = some (.slice ai n ci)) := fun W h => ⟨h, (hC.below h).2.1, (h.cell (p := ⟨gb, ob, none⟩) hgb).trans hr0⟩
  have BX := hide boxes
  have HM := hide hM
  clear hn boxes hr0 hM hC
  by_cases h8 : m.length ≤ 8
  ·
   have h8' : decide ((8 : Int) < (m.length : Int)) = false := by rw [decide_eq_false_iff_not]; omega
   have hm0 : 0 < m.length := by omega
   have hCn := fun W => l18Count_any F.n m.length W (by omega) (by omega) (by omega)
   rw [Int.toNat_natCast] at hCn
   have hS := fun W h => l03Size_qt g F W h ok
   have HS := hide hS
   clear hS
   by_cases hcap : capTo F.n 4096 m.length ≤ 4096
   ·
    have e : (cnt F.n m.length == 0) = false := by
     have := capTo_pos (b := (F.n : Int)) (l := 4096) (by omega) m.length
     rw [cnt, if_pos hcap, beq_eq_false_iff_ne]; omega
    obtain ⟨x, hx⟩ : ∃ x, x = cnt F.n m.length := ⟨_, rfl⟩
    rw [← hx] at hCn e
    have HCN := hide hCn
    have HCAP := hide hcap
    clear hCn hx hcap
    go_enter Tryz.func32, Tryz.ntmps32
    go_upto_region 1 with fail
    go_region_held3 (fun W => Below w.heap.size w W ∧ W.cell? ⟨g, 3, none⟩ = some (.slice (some ⟨gb, ob, none⟩) m.length rc) ∧ W.cell? ⟨gb, ob, none⟩ = some (.slice ai n ci))
     (first | exact (unhide BX) _ (Below.refl _ _) | exact (unhide BX) _ (Below.refl _ _).drew | exact (unhide BX) _ (by assumption))
     (first
      | (go_at_call 78; refine (unhide HV _ ?_).mono ?_; exact (And.left (by assumption)); rintro e w1 ⟨rfl, b1⟩; have hB1 := Below.chain (a := w) (And.left (by assumption)) b1))
    have C1 := (unhide HC).below hB1
    have hc3 := C1.2.1
    have HPF := hide C1.1.pf
    have HRM := hide C1.2.2
    clear C1
    go_upto_region 3 with fail
    go_quiet ((first | (go_at_call 80; exact Calls.quiet_of (unhide HS _ ((unhide HPF).below (Below.drewn _)))) | (go_at_call 79; exact Calls.quiet_of_same ((unhide HCN _).mono fun _ _ h => ⟨h.1, h.2.symm⟩))))
    obtain ⟨w2, hw2⟩ : ∃ z, z = w1.drewN nq := ⟨_, rfl⟩
    have b2 : Below w1.heap.size w1 w2 := by rw [hw2]; exact Below.drewn _
    rw [← hw2]
    clear hw2
    have hB2 := hB1.trans (b2.mono hB1.size)
    have C2 := (unhide HC).below hB2
    have hFm := fun W h1 h2 => l17Form_any g F (some ⟨gb, ob, none⟩) rc m n W h1 hG h2 (by omega) (unhide HM)
    have HFM := hide hFm
    have HP2 := hide C2.1.pf
    have HR2 := hide C2.2.2
    clear hFm hc3 HPF HRM C2
    obtain ⟨fm, hfm⟩ : ∃ fm, fm = form F m n := ⟨_, rfl⟩
    have HFMM := Lib.hid hfm
    have boxes : ∀ W, Below w2.heap.size w2 W → (Below w2.heap.size w2 W ∧ W.cell? ⟨g, 3, none⟩ = some (.slice (some ⟨gb, ob, none⟩) m.length rc)) := fun W h => ⟨h, ((unhide HC).below (hB2.trans (h.mono hB2.size))).2.1⟩
    have BX2 := hide boxes
    clear boxes hfm
    go_upto_region 5 with fail
    go_region_held3 (fun W => Below w2.heap.size w2 W ∧ W.cell? ⟨g, 3, none⟩ = some (.slice (some ⟨gb, ob, none⟩) m.length rc))
     (first | exact (unhide BX2) _ (Below.refl _ _) | exact (unhide BX2) _ (Below.refl _ _).drew | exact (unhide BX2) _ (by assumption))
     (first
      | (go_at_call 82; refine (unhide HFM _ ?_ ?_).mono ?_; exact (unhide HP2).below (And.left (by assumption)); exact (unhide HR2).below (And.left (by assumption)); rintro e W3 ⟨v3, rfl, o3, b3⟩; rw [← HFMM.out] at o3; obtain ⟨a3, c3, rfl, r3⟩ := o3.form; have hB3 := Below.chain (a := w2) (And.left (by assumption)) b3)
      | (go_at_call 81; refine (l10Same_any a3 (some ⟨gb, ob, none⟩) c3 rc fm m _ r3 ((unhide HR2).below hB3)).mono ?_; rintro e W4 ⟨rfl, q4⟩; have hB4 := Below.chain hB3 (q4.below _)))
    go_wp2
    go_ret
    refine ⟨ret_bool ?_, hB2.trans (hB4.mono hB2.size)⟩
    rw [HO.out, ← HNN.out, ← HFMM.out]
    simp [h8, unhide HCAP]
   ·
    have HN := Lib.hid (show okC F.p F.k F.poly m = false by rw [HO.out]; simp [hcap])
    rw [cnt, if_neg hcap] at hCn
    have HCN := hide hCn
    clear hCn hcap
    go_enter Tryz.func32, Tryz.ntmps32
    go_upto_region 1 with fail
    go_region_held3 (fun W => Below w.heap.size w W ∧ W.cell? ⟨g, 3, none⟩ = some (.slice (some ⟨gb, ob, none⟩) m.length rc) ∧ W.cell? ⟨gb, ob, none⟩ = some (.slice ai n ci))
     (first | exact (unhide BX) _ (Below.refl _ _) | exact (unhide BX) _ (Below.refl _ _).drew | exact (unhide BX) _ (by assumption))
     (first
      | (go_at_call 78; refine (unhide HV _ ?_).mono ?_; exact (And.left (by assumption)); rintro e w1 ⟨rfl, b1⟩; have hB1 := Below.chain (a := w) (And.left (by assumption)) b1))
    have C1 := (unhide HC).below hB1
    have hc3 := C1.2.1
    have HPF := hide C1.1.pf
    have HRM := hide C1.2.2
    clear C1
    go_upto_region 3 with fail
    go_quiet ((first | (go_at_call 80; exact Calls.quiet_of (unhide HS _ ((unhide HPF).below (Below.drewn _)))) | (go_at_call 79; exact Calls.quiet_of_same ((unhide HCN _).mono fun _ _ h => ⟨h.1, h.2.symm⟩))))
    obtain ⟨w2, hw2⟩ : ∃ z, z = w1.drewN nq := ⟨_, rfl⟩
    have b2 : Below w1.heap.size w1 w2 := by rw [hw2]; exact Below.drewn _
    rw [← hw2]
    clear hw2
    have hB2 := hB1.trans (b2.mono hB1.size)
    go_wp2
    go_ret
    exact ⟨ret_bool (by rw [HN.out]), hB2⟩
  ·
   have HN := Lib.hid (show okC F.p F.k F.poly m = false by rw [HO.out]; simp [h8])
   have h8' : decide ((8 : Int) < (m.length : Int)) = true := by rw [decide_eq_true_iff]; omega
   have hm0 : 0 < m.length := by omega
   clear h8
   go_enter Tryz.func32, Tryz.ntmps32
   go_upto_region 1 with fail
   go_region_held3 (fun W => Below w.heap.size w W ∧ W.cell? ⟨g, 3, none⟩ = some (.slice (some ⟨gb, ob, none⟩) m.length rc) ∧ W.cell? ⟨gb, ob, none⟩ = some (.slice ai n ci))
    (first | exact (unhide BX) _ (Below.refl _ _) | exact (unhide BX) _ (Below.refl _ _).drew | exact (unhide BX) _ (by assumption))
    (first
     | (go_at_call 78; refine (unhide HV _ ?_).mono ?_; exact (And.left (by assumption)); rintro e w1 ⟨rfl, b1⟩; have hB1 := Below.chain (a := w) (And.left (by assumption)) b1))
   go_wp2
   go_ret
   exact ⟨ret_bool (by rw [HN.out]), hB1⟩
theorem specVC_any (p d : Int) (a : Option Addr) (c : Nat) (xs : List Int) (ra : Option Addr) (rc : Nat) (m : List (List Int)) (w : World) (hx : Rd w a xs) (hm : RdS w ra m) : Calls Tryz.prog 15 #[.agg #[.int .i64 p, .int .i64 d, .slice a xs.length c, .slice ra m.length rc]] w fun e w' => e = .returned (.bool (okC p d xs m)) ∧ Below w.heap.size w w' := by
 obtain ⟨W0, hHW⟩ : ∃ z, z = w.alloc (.cells #[.int .i64 p, .int .i64 d, .slice a xs.length c, .slice ra m.length rc] 36) := ⟨_, rfl⟩
 have b0 : Below w.heap.size w W0 := by rw [hHW]; exact (Below.refl _ _).alloc (Nat.le_refl _) _
 have k0 : Blk W0 w.heap.size 36 #[.int .i64 p, .int .i64 d, .slice a xs.length c, .slice ra m.length rc] := by rw [hHW]; exact Blk.new _ _ _ rfl
 have sk0 : w.heap.size < W0.heap.size := k0.lt
 have HW := Lib.hid hHW
 clear hHW
 have hC : PC W0 w.heap.size p d a c xs ra rc m := ⟨⟨k0.cell 0, k0.cell 1, k0.cell 2, hx.below b0⟩, k0.cell 3, hm.below b0⟩
 have hV := l18Ok_any w.heap.size p d a c xs ra rc m W0 hC
 generalize okC p d xs m = r at hV
 have HV := hide hV
 clear hV
 go_enter Tryz.func15, Tryz.ntmps15
 go_wp2_with fail
 rw [← HW.out]
 refine (unhide HV).mono ?_
 rintro e w1 ⟨rfl, b1⟩
 go_wp2
 go_ret
 exact ⟨rfl, b0.trans (b1.mono (Nat.le_of_lt sk0))⟩
theorem implVC_any (p d : Int) (a : Option Addr) (c : Nat) (xs : List Int) (ra : Option Addr) (rc : Nat) (m : List (List Int)) (w : World) (hx : Rd w a xs) (hm : RdS w ra m) (ed : I64 d) : Calls Tryz.prog 37 #[.agg #[.int .i64 p, .int .i64 d, .slice a xs.length c, .slice ra m.length rc]] w fun e w' => e = .returned (.bool (okC p d xs m)) ∧ Below w.heap.size w w' := by
 obtain ⟨W0, hHW⟩ : ∃ z, z = w.alloc (.cells #[.int .i64 p, .int .i64 d, .slice a xs.length c, .slice ra m.length rc] 36) := ⟨_, rfl⟩
 have b0 : Below w.heap.size w W0 := by rw [hHW]; exact (Below.refl _ _).alloc (Nat.le_refl _) _
 have k0 : Blk W0 w.heap.size 36 #[.int .i64 p, .int .i64 d, .slice a xs.length c, .slice ra m.length rc] := by rw [hHW]; exact Blk.new _ _ _ rfl
 have sk0 : w.heap.size < W0.heap.size := k0.lt
 have HW := Lib.hid hHW
 clear hHW
 have hml := hm.len
 have hx0 := hx.below b0
 have hm0 := hm.below b0
 have hV := fun W (hW : Below W0.heap.size W0 W) => validMatrix_any p d a c xs ra rc m W (hx0.below hW) (hm0.below hW) ed
 obtain ⟨k1, hk1⟩ : ∃ k1, k1 = okM p d xs m := ⟨_, rfl⟩
 rw [← hk1] at hV
 have HV := hide hV
 have boxes : ∀ W, Below W0.heap.size W0 W → (Below W0.heap.size W0 W ∧ W.cell? ⟨w.heap.size, 0, none⟩ = some (.int .i64 p) ∧ W.cell? ⟨w.heap.size, 1, none⟩ = some (.int .i64 d) ∧ W.cell? ⟨w.heap.size, 2, none⟩ = some (.slice a xs.length c) ∧ W.cell? ⟨w.heap.size, 3, none⟩ = some (.slice ra m.length rc)) := fun W h => ⟨h, (k0.below h k0.lt).cell 0, (k0.below h k0.lt).cell 1, (k0.below h k0.lt).cell 2, (k0.below h k0.lt).cell 3⟩
 have BX := hide boxes
 clear hV boxes
 cases k1 with
 | false =>
  have HN := Lib.hid (show okC p d xs m = false by rw [okC, ← hk1]; rfl)
  clear hk1
  go_enter Tryz.func37, Tryz.ntmps37
  go_upto_region 1 with fail
  rw [← HW.out]
  refine wp_region_noPanic ?_
  refine wp_region_seq (S := (fun W => Below W0.heap.size W0 W ∧ W.cell? ⟨w.heap.size, 0, none⟩ = some (.int .i64 p) ∧ W.cell? ⟨w.heap.size, 1, none⟩ = some (.int .i64 d) ∧ W.cell? ⟨w.heap.size, 2, none⟩ = some (.slice a xs.length c) ∧ W.cell? ⟨w.heap.size, 3, none⟩ = some (.slice ra m.length rc))) [true, true, true, true, false, true, true, true, true, true, true, true, true, true, true, true, true, true, true, true, true, true] (by kernel_rfl) (by kernel_rfl) (by kernel_rfl) rfl (fun _ _ _ _ _ h => h) ?_ (fun hHeld => ?_)
  · exact (unhide BX) _ (Below.refl _ _).drew
  simp only [List.toList_toArray]
  refine SeqH.take (v := ?hv13) (by rfl) ?hy13 ?hr13
  case hy13 =>
   intro w hSw
   try dsimp only at hSw
   go_simp
   try (with_reducible rfl)
  try simp only [Act.put, List.setIfInBounds_toArray, List.set_cons_zero, List.set_cons_succ]
  refine SeqH.take (v := ?hv14) (by rfl) ?hy14 ?hr14
  case hy14 =>
   intro w hSw
   try dsimp only at hSw
   go_simp
   try (with_reducible rfl)
  try simp only [Act.put, List.setIfInBounds_toArray, List.set_cons_zero, List.set_cons_succ]
  refine SeqH.take (v := ?hv15) (by rfl) ?hy15 ?hr15
  case hy15 =>
   intro w hSw
   try dsimp only at hSw
   go_simp
   try (with_reducible rfl)
  try simp only [Act.put, List.setIfInBounds_toArray, List.set_cons_zero, List.set_cons_succ]
  refine SeqH.take (v := ?hv16) (by rfl) ?hy16 ?hr16
  case hy16 =>
   intro w hSw
   try dsimp only at hSw
   go_simp
   try (with_reducible rfl)
  try simp only [Act.put, List.setIfInBounds_toArray, List.set_cons_zero, List.set_cons_succ]
  refine SeqH.call (fun K hK => ?_)
  go_simp
  refine (unhide HV _ (And.left hHeld)).mono ?_
  rintro e w1 ⟨rfl, b1⟩
  have hB1 := Below.chain (a := W0) (And.left hHeld) b1
  go_wp2_with fail
  refine hK.out _ _ ?_ (fun hHeld => ?_)
  · exact (unhide BX) _ hB1
  clear hK K
  try simp only [Act.put, List.setIfInBounds_toArray, List.set_cons_zero, List.set_cons_succ]
  refine SeqH.take (v := ?hv17) (by rfl) ?hy17 ?hr17
  case hy17 =>
   intro w hSw
   try dsimp only at hSw
   go_simp
   try (with_reducible rfl)
  try simp only [Act.put, List.setIfInBounds_toArray, List.set_cons_zero, List.set_cons_succ]
  refine SeqH.take (v := ?hv18) (by rfl) ?hy18 ?hr18
  case hy18 =>
   intro w hSw
   try dsimp only at hSw
   go_simp
   try (with_reducible rfl)
  try simp only [Act.put, List.setIfInBounds_toArray, List.set_cons_zero, List.set_cons_succ]
  refine SeqH.skip (by rfl) ?_
  try simp only [Act.put, List.setIfInBounds_toArray, List.set_cons_zero, List.set_cons_succ]
  refine SeqH.skip (by rfl) ?_
  try simp only [Act.put, List.setIfInBounds_toArray, List.set_cons_zero, List.set_cons_succ]
  refine SeqH.skip (by rfl) ?_
  try simp only [Act.put, List.setIfInBounds_toArray, List.set_cons_zero, List.set_cons_succ]
  refine SeqH.skip (by rfl) ?_
  try simp only [Act.put, List.setIfInBounds_toArray, List.set_cons_zero, List.set_cons_succ]
  refine SeqH.take (v := ?hv19) (by rfl) ?hy19 ?hr19
  case hy19 =>
   intro w hSw
   try dsimp only at hSw
   go_simp
   try (with_reducible rfl)
  try simp only [Act.put, List.setIfInBounds_toArray, List.set_cons_zero, List.set_cons_succ]
  refine SeqH.take (v := ?hv20) (by rfl) ?hy20 ?hr20
  case hy20 =>
   intro w hSw
   try dsimp only at hSw
   go_simp
   try (with_reducible rfl)
  try simp only [Act.put, List.setIfInBounds_toArray, List.set_cons_zero, List.set_cons_succ]
  refine SeqH.skip (by rfl) ?_
  try simp only [Act.put, List.setIfInBounds_toArray, List.set_cons_zero, List.set_cons_succ]
  refine SeqH.skip (by rfl) ?_
  try simp only [Act.put, List.setIfInBounds_toArray, List.set_cons_zero, List.set_cons_succ]
  refine SeqH.skip (by rfl) ?_
  try simp only [Act.put, List.setIfInBounds_toArray, List.set_cons_zero, List.set_cons_succ]
  refine SeqH.skip (by rfl) ?_
  try simp only [Act.put, List.setIfInBounds_toArray, List.set_cons_zero, List.set_cons_succ]
  refine SeqH.skip (by rfl) ?_
  try simp only [Act.put, List.setIfInBounds_toArray, List.set_cons_zero, List.set_cons_succ]
  refine SeqH.skip (by rfl) ?_
  try simp only [Act.put, List.setIfInBounds_toArray, List.set_cons_zero, List.set_cons_succ]
  refine SeqH.skip (by rfl) ?_
  try simp only [Act.put, List.setIfInBounds_toArray, List.set_cons_zero, List.set_cons_succ]
  refine SeqH.skip (by rfl) ?_
  try simp only [Act.put, List.setIfInBounds_toArray, List.set_cons_zero, List.set_cons_succ]
  refine SeqH.take (v := ?hv21) (by rfl) ?hy21 ?hr21
  case hy21 =>
   intro w hSw
   try dsimp only at hSw
   go_simp
   try (with_reducible rfl)
  try simp only [Act.put, List.setIfInBounds_toArray, List.set_cons_zero, List.set_cons_succ]
  refine SeqH.done (NoPanic.normal ?_)
  go_wp2
  go_ret
  exact ⟨ret_bool (by rw [HN.out]), b0.trans (hB1.mono (Nat.le_of_lt sk0))⟩
 | true =>
  obtain ⟨F, hG, rfl, rfl, rfl, hm1, hm32, hn1, hn32, hM⟩ := okM_true hk1.symm
  have ok := hG.ok
  obtain ⟨n2, n64⟩ := ok.n_bd
  have hO : okC F.p F.k F.poly m = (decide (m.length ≤ 8) && (decide (capTo F.n 4096 m.length ≤ 4096) && decide (form F m (nthL m 0).length = m))) := by rw [okC, ← hk1, fdR_eq]; rfl
  have HO := Lib.hid hO
  obtain ⟨n, hn⟩ : ∃ n, n = (nthL m 0).length := ⟨_, rfl⟩
  rw [← hn] at hn1 hn32 hM
  have HNN := Lib.hid hn
  have HM := hide hM
  clear hO hk1 hn hM
  by_cases h8 : m.length ≤ 8
  ·
   have h8' : decide ((8 : Int) < (m.length : Int)) = false := by rw [decide_eq_false_iff_not]; omega
   have hFS := fun W => fieldSize_any F a c W ok
   have hPU := fun W => powerUpTo_any F.n m.length 4096 W (by omega) (by omega) (by omega) (by omega) (by omega)
   rw [Int.toNat_natCast] at hPU
   have HFS := hide hFS
   obtain ⟨q, hq⟩ : ∃ q, q = capTo F.n 4096 m.length := ⟨_, rfl⟩
   rw [← hq] at hPU
   have HPU := hide hPU
   have HQ := Lib.hid hq
   clear hFS hPU hq
   by_cases hcap : q ≤ 4096
   ·
    have hcap' : decide (4096 < q) = false := by rw [decide_eq_false_iff_not]; omega
    have hT := fun W h => tablesOf_any F a c W h ok
    have hRd := fun tv W h1 h2 => reduce_any F tv ra rc m n W h1 hG h2 (by omega) (unhide HM)
    have HT := hide hT
    obtain ⟨fm, hfm⟩ : ∃ fm, fm = form F m n := ⟨_, rfl⟩
    rw [← hfm] at hRd
    have HRD := hide hRd
    have HFMM := Lib.hid hfm
    clear hT hRd hfm
    go_enter Tryz.func37, Tryz.ntmps37
    go_upto_region 1 with fail
    rw [← HW.out]
    go_region_held3 (fun W => Below W0.heap.size W0 W ∧ W.cell? ⟨w.heap.size, 0, none⟩ = some (.int .i64 F.p) ∧ W.cell? ⟨w.heap.size, 1, none⟩ = some (.int .i64 F.k) ∧ W.cell? ⟨w.heap.size, 2, none⟩ = some (.slice a F.poly.length c) ∧ W.cell? ⟨w.heap.size, 3, none⟩ = some (.slice ra m.length rc))
     (first | exact (unhide BX) _ (Below.refl _ _) | exact (unhide BX) _ (Below.refl _ _).drew | exact (unhide BX) _ (by assumption))
     (first
      | (go_at_call 89; refine (unhide HV _ ?_).mono ?_; exact (And.left (by assumption)); rintro e w1 ⟨rfl, b1⟩; have hB1 := Below.chain (a := W0) (And.left (by assumption)) b1)
      | (go_at_call 68; refine (unhide HFS _).mono ?_; rintro e w2 ⟨rfl, b2⟩; have hB2 := Below.chain hB1 b2)
      | (go_at_call 76; refine (sizeS_any _ _ _ _).mono ?_; rintro e w3 ⟨rfl, rfl⟩)
      | (go_at_call 63; refine (unhide HPU _).mono ?_; rintro e w4 ⟨rfl, rfl⟩))
    have hB2' := hB2
    go_upto_region 3 with fail
    go_region_held3 (fun W => Below W0.heap.size W0 W ∧ W.cell? ⟨w.heap.size, 0, none⟩ = some (.int .i64 F.p) ∧ W.cell? ⟨w.heap.size, 1, none⟩ = some (.int .i64 F.k) ∧ W.cell? ⟨w.heap.size, 2, none⟩ = some (.slice a F.poly.length c) ∧ W.cell? ⟨w.heap.size, 3, none⟩ = some (.slice ra m.length rc))
     (first | exact (unhide BX) _ hB2 | exact (unhide BX) _ hB2.drew | exact (unhide BX) _ (by assumption))
     (first
      | (go_at_call 27; refine (unhide HT _ ?_).mono ?_; exact hx0.below (And.left (by assumption)); rintro e w5 ⟨tv, rfl, T5, b5⟩; have hB5 := Below.chain (a := W0) (And.left (by assumption)) b5)
      | (go_at_call 28; refine (unhide HRD _ _ T5 (hm0.below hB5)).mono ?_; rintro e w6 ⟨v6, u6, d6, rfl, o6, _, b6⟩; obtain ⟨a6, c6, rfl, r6⟩ := o6.form; have hB6 := Below.chain hB5 b6))
    have k6 := k0.below hB6 k0.lt
    have f3 := k6.cell 3
    have hS := areSame_any a6 ra c6 rc fm m w6 r6 (hm0.below hB6)
    have HS := hide hS
    clear hS
    go_wp2_with fail
    refine (unhide HS).mono ?_
    rintro e w7 ⟨rfl, q7⟩
    go_wp2
    go_ret
    refine ⟨ret_bool ?_, b0.trans ((hB6.trans ((q7.below _).mono hB6.size)).mono (Nat.le_of_lt sk0))⟩
    rw [HO.out, ← HNN.out, ← HFMM.out, ← HQ.out]
    simp [h8, hcap]
   ·
    have HN := Lib.hid (show okC F.p F.k F.poly m = false by rw [HO.out, ← HQ.out]; simp [hcap])
    have hcap' : decide (4096 < q) = true := by rw [decide_eq_true_iff]; omega
    go_enter Tryz.func37, Tryz.ntmps37
    go_upto_region 1 with fail
    rw [← HW.out]
    go_region_held3 (fun W => Below W0.heap.size W0 W ∧ W.cell? ⟨w.heap.size, 0, none⟩ = some (.int .i64 F.p) ∧ W.cell? ⟨w.heap.size, 1, none⟩ = some (.int .i64 F.k) ∧ W.cell? ⟨w.heap.size, 2, none⟩ = some (.slice a F.poly.length c) ∧ W.cell? ⟨w.heap.size, 3, none⟩ = some (.slice ra m.length rc))
     (first | exact (unhide BX) _ (Below.refl _ _) | exact (unhide BX) _ (Below.refl _ _).drew | exact (unhide BX) _ (by assumption))
     (first
      | (go_at_call 89; refine (unhide HV _ ?_).mono ?_; exact (And.left (by assumption)); rintro e w1 ⟨rfl, b1⟩; have hB1 := Below.chain (a := W0) (And.left (by assumption)) b1)
      | (go_at_call 68; refine (unhide HFS _).mono ?_; rintro e w2 ⟨rfl, b2⟩; have hB2 := Below.chain hB1 b2)
      | (go_at_call 76; refine (sizeS_any _ _ _ _).mono ?_; rintro e w3 ⟨rfl, rfl⟩)
      | (go_at_call 63; refine (unhide HPU _).mono ?_; rintro e w4 ⟨rfl, rfl⟩))
    go_wp2
    go_ret
    exact ⟨ret_bool (by rw [HN.out]), b0.trans (hB2.mono (Nat.le_of_lt sk0))⟩
  ·
   have HN := Lib.hid (show okC F.p F.k F.poly m = false by rw [HO.out]; simp [h8])
   have h8' : decide ((8 : Int) < (m.length : Int)) = true := by rw [decide_eq_true_iff]; omega
   go_enter Tryz.func37, Tryz.ntmps37
   go_upto_region 1 with fail
   rw [← HW.out]
   refine wp_region_noPanic ?_
   refine wp_region_seq (S := (fun W => Below W0.heap.size W0 W ∧ W.cell? ⟨w.heap.size, 0, none⟩ = some (.int .i64 F.p) ∧ W.cell? ⟨w.heap.size, 1, none⟩ = some (.int .i64 F.k) ∧ W.cell? ⟨w.heap.size, 2, none⟩ = some (.slice a F.poly.length c) ∧ W.cell? ⟨w.heap.size, 3, none⟩ = some (.slice ra m.length rc))) [true, true, true, true, false, true, true, true, true, true, true, true, true, true, true, true, true, true, true, true, true, true] (by kernel_rfl) (by kernel_rfl) (by kernel_rfl) rfl (fun _ _ _ _ _ h => h) ?_ (fun hHeld => ?_)
   · exact (unhide BX) _ (Below.refl _ _).drew
   simp only [List.toList_toArray]
   refine SeqH.take (v := ?hv22) (by rfl) ?hy22 ?hr22
   case hy22 =>
    intro w hSw
    try dsimp only at hSw
    go_simp
    try (with_reducible rfl)
   try simp only [Act.put, List.setIfInBounds_toArray, List.set_cons_zero, List.set_cons_succ]
   refine SeqH.take (v := ?hv23) (by rfl) ?hy23 ?hr23
   case hy23 =>
    intro w hSw
    try dsimp only at hSw
    go_simp
    try (with_reducible rfl)
   try simp only [Act.put, List.setIfInBounds_toArray, List.set_cons_zero, List.set_cons_succ]
   refine SeqH.take (v := ?hv24) (by rfl) ?hy24 ?hr24
   case hy24 =>
    intro w hSw
    try dsimp only at hSw
    go_simp
    try (with_reducible rfl)
   try simp only [Act.put, List.setIfInBounds_toArray, List.set_cons_zero, List.set_cons_succ]
   refine SeqH.take (v := ?hv25) (by rfl) ?hy25 ?hr25
   case hy25 =>
    intro w hSw
    try dsimp only at hSw
    go_simp
    try (with_reducible rfl)
   try simp only [Act.put, List.setIfInBounds_toArray, List.set_cons_zero, List.set_cons_succ]
   refine SeqH.call (fun K hK => ?_)
   go_simp
   refine (unhide HV _ (And.left hHeld)).mono ?_
   rintro e w1 ⟨rfl, b1⟩
   have hB1 := Below.chain (a := W0) (And.left hHeld) b1
   go_wp2_with fail
   refine hK.out _ _ ?_ (fun hHeld => ?_)
   · exact (unhide BX) _ hB1
   clear hK K
   try simp only [Act.put, List.setIfInBounds_toArray, List.set_cons_zero, List.set_cons_succ]
   refine SeqH.take (v := ?hv26) (by rfl) ?hy26 ?hr26
   case hy26 =>
    intro w hSw
    try dsimp only at hSw
    go_simp
    try (with_reducible rfl)
   try simp only [Act.put, List.setIfInBounds_toArray, List.set_cons_zero, List.set_cons_succ]
   refine SeqH.take (v := ?hv27) (by rfl) ?hy27 ?hr27
   case hy27 =>
    intro w hSw
    try dsimp only at hSw
    go_simp
    try (with_reducible rfl)
   try simp only [Act.put, List.setIfInBounds_toArray, List.set_cons_zero, List.set_cons_succ]
   refine SeqH.take (v := ?hv28) (by rfl) ?hy28 ?hr28
   case hy28 =>
    intro w hSw
    try dsimp only at hSw
    go_simp
    try (with_reducible rfl)
   try simp only [Act.put, List.setIfInBounds_toArray, List.set_cons_zero, List.set_cons_succ]
   refine SeqH.take (v := ?hv29) (by rfl) ?hy29 ?hr29
   case hy29 =>
    intro w hSw
    try dsimp only at hSw
    go_simp
    try (with_reducible rfl)
   try simp only [Act.put, List.setIfInBounds_toArray, List.set_cons_zero, List.set_cons_succ]
   refine SeqH.take (v := ?hv30) (by rfl) ?hy30 ?hr30
   case hy30 =>
    intro w hSw
    try dsimp only at hSw
    go_simp
    try (with_reducible rfl)
   try simp only [Act.put, List.setIfInBounds_toArray, List.set_cons_zero, List.set_cons_succ]
   refine SeqH.take (v := ?hv31) (by rfl) ?hy31 ?hr31
   case hy31 =>
    intro w hSw
    try dsimp only at hSw
    go_simp
    try (with_reducible rfl)
   try simp only [Act.put, List.setIfInBounds_toArray, List.set_cons_zero, List.set_cons_succ]
   refine SeqH.take (v := ?hv32) (by rfl) ?hy32 ?hr32
   case hy32 =>
    intro w hSw
    try dsimp only at hSw
    go_simp
    try (with_reducible rfl)
   try simp only [Act.put, List.setIfInBounds_toArray, List.set_cons_zero, List.set_cons_succ]
   refine SeqH.take (v := ?hv33) (by rfl) ?hy33 ?hr33
   case hy33 =>
    intro w hSw
    try dsimp only at hSw
    go_simp
    try (with_reducible rfl)
   try simp only [Act.put, List.setIfInBounds_toArray, List.set_cons_zero, List.set_cons_succ]
   refine SeqH.skip (by rfl) ?_
   try simp only [Act.put, List.setIfInBounds_toArray, List.set_cons_zero, List.set_cons_succ]
   refine SeqH.skip (by rfl) ?_
   try simp only [Act.put, List.setIfInBounds_toArray, List.set_cons_zero, List.set_cons_succ]
   refine SeqH.skip (by rfl) ?_
   try simp only [Act.put, List.setIfInBounds_toArray, List.set_cons_zero, List.set_cons_succ]
   refine SeqH.skip (by rfl) ?_
   try simp only [Act.put, List.setIfInBounds_toArray, List.set_cons_zero, List.set_cons_succ]
   refine SeqH.skip (by rfl) ?_
   try simp only [Act.put, List.setIfInBounds_toArray, List.set_cons_zero, List.set_cons_succ]
   refine SeqH.skip (by rfl) ?_
   try simp only [Act.put, List.setIfInBounds_toArray, List.set_cons_zero, List.set_cons_succ]
   refine SeqH.skip (by rfl) ?_
   try simp only [Act.put, List.setIfInBounds_toArray, List.set_cons_zero, List.set_cons_succ]
   refine SeqH.skip (by rfl) ?_
   try simp only [Act.put, List.setIfInBounds_toArray, List.set_cons_zero, List.set_cons_succ]
   refine SeqH.take (v := ?hv34) (by rfl) ?hy34 ?hr34
   case hy34 =>
    intro w hSw
    try dsimp only at hSw
    go_simp
    try (with_reducible rfl)
   try simp only [Act.put, List.setIfInBounds_toArray, List.set_cons_zero, List.set_cons_succ]
   refine SeqH.done (NoPanic.normal ?_)
   go_wp2
   go_ret
   exact ⟨ret_bool (by rw [HN.out]), b0.trans (hB1.mono (Nat.le_of_lt sk0))⟩
end Go.Proofs.YtkiljcbejmiioaaGreat
namespace Go.Proofs.YtkiljcbejmiioaaGreat
open Go.RowKit
section
variable {F : FD}
theorem encTo_sum (ok : F.Ok) (n : Nat) (rows : List (List Int)) (msg : List Int) (k : Nat) {i : Nat} (hi : i < n) : nth (encTo F n rows msg k) i = F.sum (fun j => F.mul (nth msg j) (nth (nthL rows j) i)) k := by
 induction k with
 | zero => rw [encTo, zeros_nth]; rfl
 | succ k ih =>
  rw [encTo, addTo_nth F _ _ _ _ (by rw [encTo_len]; exact Nat.le_refl _), if_pos hi, ih]
  rfl
theorem encTo_piv (ok : F.Ok) {n : Nat} {rows : List (List Int)} {pv : List Nat} (h : Ech F n rows pv) {msg : List Int} (hm : ∀ c ∈ msg, 0 ≤ c ∧ c < F.n) {l : Nat} (hl : l < rows.length) : nth (encTo F n rows msg rows.length) (pv.getD l 0) = nth msg l := by
 have hlp : l < pv.length := by rw [h.len]; exact hl
 have hel : F.el (nth msg l) := by
  rcases Nat.lt_or_ge l msg.length with hh | hh
  · exact (el_n ok).2 (hm _ (nth_mem hh))
  · rw [nth_big hh]; exact zero_el ok
 rw [encTo_sum ok n rows msg _ (h.lt l hlp), sum_one ok (l := l) hl (mul_el ok _ _) (fun j hj hne => by rw [h.one j l (by rw [h.len]; exact hj) hlp, if_neg hne, mul_zero_all ok])]
 rw [h.one l l hlp hlp, if_pos rfl, mul_comm' ok, one_mul' ok hel]
end
def wtTo (xs : List Int) : Nat → Nat
 | 0 => 0
 | k + 1 => if nth xs k = 0 then wtTo xs k else wtTo xs k + 1
def wt (xs : List Int) : Nat := wtTo xs xs.length
theorem wtTo_le (xs : List Int) (k : Nat) : wtTo xs k ≤ k := by
 induction k with
 | zero => exact Nat.le_refl _
 | succ k ih => rw [wtTo]; split <;> omega
theorem wtTo_pos {xs : List Int} {k i : Nat} (hi : i < k) (h : nth xs i ≠ 0) : 1 ≤ wtTo xs k := by
 induction k with
 | zero => omega
 | succ k ih =>
  rw [wtTo]
  by_cases e : i = k
  · subst e; rw [if_neg h]; omega
  · have := ih (by omega)
    split <;> omega
def cntW (words : List (List Int)) (n : Nat) : Nat → List Int
 | 0 => zeros (n + 1)
 | k + 1 => (cntW words n k).set (wt (nthL words k)) (nth (cntW words n k) (wt (nthL words k)) + 1)
theorem cntW_len (words : List (List Int)) (n k : Nat) : (cntW words n k).length = n + 1 := by
 induction k with
 | zero => exact zeros_len _
 | succ k ih => rw [cntW, List.length_set, ih]
theorem cntW_bd (words : List (List Int)) (n k i : Nat) : 0 ≤ nth (cntW words n k) i ∧ nth (cntW words n k) i ≤ k := by
 induction k generalizing i with
 | zero => rw [cntW, zeros_nth]; omega
 | succ k ih =>
  rw [cntW]
  by_cases e : wt (nthL words k) = i
  · subst e
    by_cases hl : wt (nthL words k) < (cntW words n k).length
    · rw [nth_set_same hl]
      have := ih (wt (nthL words k))
      omega
    · rw [nth_big (by rw [List.length_set]; omega)]; omega
  · rw [nth_set_ne e]
    have := ih i
    omega
theorem cntW_pos {words : List (List Int)} {n k j : Nat} (hj : j < k) (hn : wt (nthL words j) ≤ n) : 1 ≤ nth (cntW words n k) (wt (nthL words j)) := by
 induction k with
 | zero => omega
 | succ k ih =>
  rw [cntW]
  by_cases e : wt (nthL words k) = wt (nthL words j)
  · rw [e, nth_set_same (by rw [cntW_len]; omega)]
    have := (cntW_bd words n k (wt (nthL words j))).1
    omega
  · rw [nth_set_ne e]
    by_cases e2 : j = k
    · exact absurd (by rw [e2]) e
    · exact ih (by omega)
def leastD (counts : List Int) : Nat := ((List.range counts.length).find? (fun d => decide (1 ≤ d) && (nth counts d != 0))).getD 0
theorem leastD_hit {counts : List Int} {d : Nat} (h1 : 1 ≤ d) (h2 : d < counts.length) (h3 : nth counts d ≠ 0) (h4 : ∀ j, 1 ≤ j → j < d → nth counts j = 0) : leastD counts = d := by
 have : (List.range counts.length).find? (fun d => decide (1 ≤ d) && (nth counts d != 0)) = some d := by
  rw [List.find?_range_eq_some]
  refine ⟨by simp [h1, h3], List.mem_range.2 h2, fun j hj => ?_⟩
  by_cases h : 1 ≤ j
  · simp [h4 j h hj]
  · simp [h]
 rw [leastD, this]; rfl
theorem hig_nth {j q k i : Nat} (hi : i < k) : nth (hig j q k) i = (j : Int) / (q : Int) ^ (k - 1 - i) % (q : Int) := by
 have h : nth (dig (j : Int) (q : Int) k).reverse i = nth (dig (j : Int) (q : Int) k) ((dig (j : Int) (q : Int) k).length - 1 - i) := by
  simp only [nth, List.getD_eq_getElem?_getD]
  rw [List.getElem?_reverse (by rw [dig_len]; exact hi)]
 rw [hig, h, dig_len, dig_nth _ _ (by omega)]
theorem GC.some_word {F : FD} {n : Nat} {m : List (List Int)} (h : GC F n m) : ∃ j, j < F.n ^ m.length ∧ 1 ≤ wt (nthL (wordsTo F n m m.length) j) ∧ wt (nthL (wordsTo F n m m.length) j) ≤ n := by
 have ok := h.good.ok
 obtain ⟨n2, n64⟩ := ok.n_bd
 obtain ⟨pv, _, hE, _⟩ := form_ech h.good h.mat
 rw [h.fix] at hE
 have hm := h.m1
 have hj : 1 < F.n ^ m.length := Nat.one_lt_pow (by omega) (by omega)
 refine ⟨1, hj, ?_, ?_⟩
 · rw [wordsTo_nth F n m hj, wt, encTo_len]
   refine wtTo_pos (i := pv.getD (m.length - 1) 0) (hE.lt _ (by rw [hE.len]; omega)) ?_
   rw [encTo_piv ok hE (hig_el 1 (by omega) _) (by omega), hig_nth (by omega), show m.length - 1 - (m.length - 1) = 0 by omega]
   simp only [Int.pow_zero, Int.ediv_one]
   rw [Int.emod_eq_of_lt (by omega) (by omega)]
   omega
 · have := wtTo_le (nthL (wordsTo F n m m.length) 1) (nthL (wordsTo F n m m.length) 1).length
   rw [wordsTo_nth F n m hj, encTo_len] at this
   rw [wordsTo_nth F n m hj, wt, encTo_len]
   exact this
end Go.Proofs.YtkiljcbejmiioaaGreat
namespace Go.Proofs.YtkiljcbejmiioaaGreat
open Go.RowKit
attribute [local go_sem ↓] Go.wp_at_zero Go.wp_at_succ
theorem encode_any (F : FD) (tv : Value) (ra : Option Addr) (rc : Nat) (rows : List (List Int)) (b : Option Addr) (cb : Nat) (msg : List Int) (n : Nat) (w : World) (hT : Tabs w F tv) (hG : F.Good) (hx : RdS w ra rows) (hy : Rd w b msg) (h0 : 0 < rows.length) (hM : F.Mat n rows) (hn1 : 1 ≤ n) (hn : n ≤ 32) (hl : msg.length ≤ rows.length) (hm : ∀ x ∈ msg, 0 ≤ x ∧ x < F.n) : Calls Tryz.prog 47 #[tv, .slice ra rows.length rc, .slice b msg.length cb] w fun e w' => ∃ v, e = .returned v ∧ Own w' w.heap.size v (encTo F n rows msg msg.length) ∧ Below w.heap.size w w' := by
 have hT0 := hT
 obtain ⟨aA, cA, aS, cS, aM, cM, aI, cI, rfl, _, _, _, _⟩ := hT
 have ok := hG.ok
 obtain ⟨n2, n64⟩ := ok.n_bd
 have hxl := hx.len
 have hyl := hy.len
 have hmk := fun W => run_make_row' (P := Tryz.prog) 28 2 (.int .i64 0) 8 Tryz.underlying28 Tryz.info_i64 rfl .i64 .i64 n (by omega) (by omega) W
 obtain ⟨W0, hHW⟩ : ∃ z, z = w.alloc (.cells #[.int .i64 F.n, .slice aA F.n cA, .slice aS F.n cS, .slice aM F.n cM, .slice aI F.n cI] 60) := ⟨_, rfl⟩
 have b0 : Below w.heap.size w W0 := by rw [hHW]; exact (Below.refl _ _).alloc (Nat.le_refl _) _
 have kT : Blk W0 w.heap.size 60 #[.int .i64 F.n, .slice aA F.n cA, .slice aS F.n cS, .slice aM F.n cM, .slice aI F.n cI] := by rw [hHW]; exact Blk.new _ _ _ rfl
 have skT : w.heap.size < W0.heap.size := kT.lt
 have HW := Lib.hid hHW
 clear hHW
 obtain ⟨gb, ob, rfl, hgb, hcc⟩ := (hx.below b0).at_ h0
 obtain ⟨ai0, ci0, h00, _⟩ := hcc 0 h0
 rw [Nat.add_zero, (Mat_nth hM h0).1] at h00
 have HCC := hide hcc
 have HX := hide hx
 have HY := hide hy
 have HMM := hide hM
 have HMS := hide hm
 have HT := hide hT0
 clear hcc hx hy hM hm hT0
 go_enter Tryz.func47, Tryz.ntmps47
 go_upto_region 1 with fail
 rw [← HW.out]
 go_upto_region 2 with fail
 obtain ⟨W1, hW1⟩ : ∃ z, z = W0.alloc (.cells (madeCells #[.int .i64 0] n) 2) := ⟨_, rfl⟩
 have oz : Own W1 W0.heap.size (.slice (some ⟨W0.heap.size, 0, none⟩) n n) (zeros n) := by rw [hW1]; exact Own.zeros W0 (Nat.le_refl _) (by omega)
 have bz : Below W0.heap.size W0 W1 := by rw [hW1]; exact (Below.refl _ _).alloc (Nat.le_refl _) _
 have sz : W0.heap.size < W1.heap.size := by rw [hW1]; simp
 rw [← hW1]
 clear hW1
 have kT1 := kT.below bz kT.lt
 have OZ := Lib.hid oz
 clear oz hmk
 go_wp2_with fail
 go_loopw [17] (fun iv wr => ∃ k : Nat, iv = .int .i64 k ∧ k ≤ msg.length ∧ Hid (Own wr W0.heap.size (.slice (some ⟨W0.heap.size, 0, none⟩) n n) (encTo F n rows msg k)) ∧ Hid (W1.grownBy wr (some W0.heap.size))) (fun iv _ => msg.length - (intOf iv).toNat)
 case atStart => exact ⟨0, rfl, Nat.zero_le _, OZ, hide (grown_refl _ _)⟩
 case round =>
  obtain ⟨k, rfl, hk, ho, hg⟩ := hrel
  have hbg : Below W0.heap.size W0 wr := bz.grown hg.out (by omega) (fun q hq => by injection hq; omega)
  have hbw : Below w.heap.size w wr := b0.trans (hbg.mono (Nat.le_of_lt skT))
  by_cases hkl : k < msg.length
  · have kTr := kT1.grown hg.out (by intro e; injection e; omega)
    obtain ⟨gm, om, rfl, _, hcm⟩ := ((unhide HY).below hbw).at_ (by omega)
    have hc1 := hcm k hkl
    have hxr := unhide HMS _ (nth_mem hkl)
    obtain ⟨ai, ci, hr1, hrr⟩ := unhide HCC k (by omega)
    have hmk := Mat_nth (unhide HMM) (show k < rows.length by omega)
    rw [hmk.1] at hr1
    have hr1w : wr.cell? ⟨gb, ob + k, none⟩ = some (.slice ai n ci) := (hbg.cell (p := ⟨gb, ob + k, none⟩) hgb).trans hr1
    obtain ⟨x, hxx⟩ : ∃ x, x = nth msg k := ⟨_, rfl⟩
    rw [← hxx] at hc1 hxr
    have hat : Calls Tryz.prog 73 #[.agg #[.int .i64 F.n, .slice aA F.n cA, .slice aS F.n cS, .slice aM F.n cM, .slice aI F.n cI], .slice (some ⟨W0.heap.size, 0, none⟩) n n, .slice ai n ci, .int .i64 x] wr.drew fun e w' => e = .returned (.tuple #[]) ∧ Own w' W0.heap.size (.slice (some ⟨W0.heap.size, 0, none⟩) n n) (addTo F (encTo F n rows msg k) (nthL rows k) x n) ∧ wr.drew.grownBy w' (some W0.heap.size) := by
     have hel := encTo_len F n rows msg k
     have h := addTimes_any F _ w wr.drew W0.heap.size W0.heap.size n ai ci (encTo F n rows msg k) (nthL rows k) x ok (unhide HT) hbw.drew (Nat.le_of_lt skT) (by rw [hel]; exact ho.out.drewN 1) ((hrr.below hbg).drewN 1) (fun p hp => by
      obtain ⟨b2, o2, e2, hb2, _⟩ := hrr.at_ (by rw [hmk.1]; omega)
      rw [hp] at e2
      injection e2 with e2
      rw [e2]
      show b2 ≠ W0.heap.size
      omega) (by rw [hel, hmk.1]) hxr.1 hxr.2 (encTo_el ok n rows msg k) hmk.2
     rw [hel, hmk.1] at h
     exact h
    have HAT := hide hat
    have HST := Lib.hid (show encTo F n rows msg (k + 1) = addTo F (encTo F n rows msg k) (nthL rows k) x n by rw [encTo, hxx])
    have f0 := kTr.cell 0
    have f1 := kTr.cell 1
    have f2 := kTr.cell 2
    have f3 := kTr.cell 3
    have f4 := kTr.cell 4
    have hkr : k < rows.length := by omega
    clear hat hxx hmk hcm hrr hr1
    go_wp2_with fail
    go_still_tail 7, (by kernel_rfl)
    change wpList _ _ _ _ _ wr.drew
    go_wp2_with fail
    refine (unhide HAT).mono ?_
    rintro e w5 ⟨rfl, o5, g5⟩
    go_wp2_with fail
    go_roundw
    case rel =>
     refine ⟨k + 1, by go_num, by omega, ?_, hide (grown_trans_row (grown_trans_row hg.out (grown_drew1 wr _)) g5)⟩
     show Own _ _ _ _
     rw [HST.out]
     exact o5
    case measure => simp only [intOf]; omega
  · have hke : k = msg.length := by omega
    have HE := Lib.hid hke
    clear hke
    go_wp2_with fail
    go_ret
    exact ⟨_, rfl, by have h := ho.out; rw [HE.out] at h; exact h.mono (Nat.le_of_lt skT), hbw⟩
end Go.Proofs.YtkiljcbejmiioaaGreat
namespace Go.Proofs.YtkiljcbejmiioaaGreat
open Go.RowKit
attribute [local go_sem ↓] Go.wp_at_zero Go.wp_at_succ
theorem elems_iff {q : Int} {xs : List Int} (h : elems q xs = true) : ∀ x ∈ xs, 0 ≤ x ∧ x < q := by
 exact elems_true.1 h
end Go.Proofs.YtkiljcbejmiioaaGreat
namespace Go.Proofs.YtkiljcbejmiioaaGreat
open Go.RowKit
attribute [local go_sem ↓] Go.wp_at_zero Go.wp_at_succ
theorem highFirst_any (j q k : Nat) (w : World) (hj : (j : Int) ≤ 9223372036854775807) (hq : 1 ≤ q) (hq2 : q ≤ 1000000) (hk0 : 1 ≤ k) (hk : k ≤ 1000000) :
    Calls Tryz.prog 132 #[.int .i64 j, .int .i64 q, .int .i64 k] w fun e w' => ∃ v, e = .returned v ∧ Own w' w.heap.size v (hig j q k) ∧ Below w.heap.size w w' := by
 have hd := fun W => digitsOf_any j q k W (by omega) (by omega) (by omega) (by omega) hk
 have HD := hide hd
 clear hd
 go_enter Tryz.func132, Tryz.ntmps132
 go_wp2_with fail
 refine (unhide HD _).mono ?_
 rintro e w1 ⟨v1, rfl, o1, b1⟩
 obtain ⟨g1, c1, rfl, q1, z1, cc1, cd1⟩ := o1.at_len (dig_len _ _ _) hk0
 have hr := reverse_any g1 c1 w.heap.size (dig j q k) w1 (by rw [dig_len]; exact o1)
 rw [dig_len] at hr
 have HR := hide hr
 clear hr
 go_wp2_with fail
 refine (unhide HR).mono ?_
 rintro e w2 ⟨rfl, o2, b2⟩
 go_wp2
 go_ret
 exact ⟨_, rfl, o2, b1.trans b2⟩
def wordsUp (F : FD) (n : Nat) (rows : List (List Int)) (k j : Nat) : List (List Int) := (List.range j).map fun i => encTo F n rows (hig i F.n k) k
theorem wordsUp_len (F : FD) (n : Nat) (rows : List (List Int)) (k j : Nat) : (wordsUp F n rows k j).length = j := by simp [wordsUp]
theorem wordsUp_succ (F : FD) (n : Nat) (rows : List (List Int)) (k j : Nat) : wordsUp F n rows k (j + 1) = wordsUp F n rows k j ++ [encTo F n rows (hig j F.n k) k] := by simp [wordsUp, List.range_succ]
theorem GC.cap_eq {F : FD} {n : Nat} {m : List (List Int)} (h : GC F n m) : capTo F.n 4096 m.length = ((F.n ^ m.length : Nat) : Int) ∧ F.n ^ m.length ≤ 4096 := by
 have h1 := cap_exact' h.cap
 have h2 := h.cap
 rw [h1] at h2
 have e : ((F.n : Int)) ^ m.length = ((F.n ^ m.length : Nat) : Int) := (Int.natCast_pow _ _).symm
 rw [e] at h1 h2
 exact ⟨h1, Int.ofNat_le.1 h2⟩
theorem wordsOf_any (F : FD) (ap : Option Addr) (cp : Nat) (ra : Option Addr) (rc : Nat) (m : List (List Int)) (n : Nat) (w : World) (hR : Rd w ap F.poly) (hm : RdS w ra m) (hC : GC F n m) :
    Calls Tryz.prog 91 #[.agg #[.int .i64 F.p, .int .i64 F.k, .slice ap F.poly.length cp, .slice ra m.length rc]] w fun e w' => ∃ v, e = .returned v ∧ OwnS w' w.heap.size v (wordsTo F n m m.length) ∧ Below w.heap.size w w' := by
 have hml := hm.len
 have hG := hC.good
 have ok := hG.ok
 obtain ⟨n2, n64⟩ := ok.n_bd
 have hm1 := hC.m1
 have hm8 := hC.m8
 obtain ⟨hcap, hQ⟩ := hC.cap_eq
 obtain ⟨W0, hHW⟩ : ∃ z, z = w.alloc (.cells #[.int .i64 F.p, .int .i64 F.k, .slice ap F.poly.length cp, .slice ra m.length rc] 36) := ⟨_, rfl⟩
 have b0 : Below w.heap.size w W0 := by rw [hHW]; exact (Below.refl _ _).alloc (Nat.le_refl _) _
 have k0 : Blk W0 w.heap.size 36 #[.int .i64 F.p, .int .i64 F.k, .slice ap F.poly.length cp, .slice ra m.length rc] := by rw [hHW]; exact Blk.new _ _ _ rfl
 have sk0 : w.heap.size < W0.heap.size := k0.lt
 have HW := Lib.hid hHW
 clear hHW
 have hT := tablesOf_any F ap cp W0 (hR.below b0) ok
 have HT := hide hT
 clear hT
 have f0 := k0.cell 0
 have f1 := k0.cell 1
 have f2 := k0.cell 2
 go_enter Tryz.func91, Tryz.ntmps91
 go_upto_region 1 with fail
 rw [← HW.out]
 go_wp2_with fail
 refine (unhide HT).mono ?_
 rintro e w1 ⟨tv, rfl, t1, b1⟩
 obtain ⟨aA, cA, aS, cS, aM, cM, aI, cI, rfl, t1A, t1S, t1M, t1I⟩ := t1
 obtain ⟨W1, hH1⟩ : ∃ z, z = w1.alloc (.cells #[.int .i64 F.n, .slice aA F.n cA, .slice aS F.n cS, .slice aM F.n cM, .slice aI F.n cI] 60) := ⟨_, rfl⟩
 have b1x : Below w1.heap.size w1 W1 := by rw [hH1]; exact (Below.refl _ _).alloc (Nat.le_refl _) _
 have kT : Blk W1 w1.heap.size 60 #[.int .i64 F.n, .slice aA F.n cA, .slice aS F.n cS, .slice aM F.n cM, .slice aI F.n cI] := by rw [hH1]; exact Blk.new _ _ _ rfl
 have H1 := Lib.hid hH1
 clear hH1
 have t2 : Tabs W1 F (.agg #[.int .i64 F.n, .slice aA F.n cA, .slice aS F.n cS, .slice aM F.n cM, .slice aI F.n cI]) := ⟨aA, cA, aS, cS, aM, cM, aI, cI, rfl, t1A.below b1x, t1S.below b1x, t1M.below b1x, t1I.below b1x⟩
 have c1 := Below.chain b1 b1x
 have k1 := k0.below c1 k0.lt
 have z1 := c1.size
 have bw1 : Below w.heap.size w W1 := b0.trans (c1.mono (Nat.le_of_lt sk0))
 have zw := bw1.size
 have hHF := fun (j : Nat) (hj : j < F.n ^ m.length) W => highFirst_any j F.n m.length W (by omega) (by omega) (by omega) (by omega) (by omega)
 have hEN := fun (j : Nat) (b : Option Addr) (cb : Nat) W (hy : Rd W b (hig j F.n m.length)) (hB : Below W1.heap.size W1 W) => encode_any F _ ra rc m b cb (hig j F.n m.length) n W (t2.below hB) hG ((hm.below bw1).below hB) hy hm1 hC.mat hC.n1 hC.n32 (by rw [hig_len]; exact Nat.le_refl _) (hig_el j (by omega) _)
 have hPW := fun W => powerUpTo_any F.n m.length 4096 W (by omega) (by omega) (by omega) (by omega) (by omega)
 rw [Int.toNat_natCast, hcap] at hPW
 have hWT : wordsTo F n m m.length = wordsUp F n m m.length (F.n ^ m.length) := rfl
 have hEL := fun j => encTo_len F n m (hig j F.n m.length) m.length
 obtain ⟨Q, hQQ⟩ : ∃ Q, Q = F.n ^ m.length := ⟨_, rfl⟩
 rw [← hQQ] at hHF hPW hWT hQ
 have HHF := hide hHF
 have HEN := hide hEN
 have HPW := hide hPW
 have HWT := Lib.hid hWT
 clear hHF hEN hPW hWT hQQ hcap t1A t1S t1M t1I f0 f1 f2
 have f3 := k1.cell 3
 have g0 := kT.cell 0
 have g1 := kT.cell 1
 have g2 := kT.cell 2
 have g3 := kT.cell 3
 have g4 := kT.cell 4
 have BX := hide (show ∀ W, Below W1.heap.size W1 W → (Below W1.heap.size W1 W ∧ W.cell? ⟨w.heap.size, 3, none⟩ = some (.slice ra m.length rc) ∧ W.cell? ⟨w1.heap.size, 0, none⟩ = some (.int .i64 F.n) ∧ W.cell? ⟨w1.heap.size, 1, none⟩ = some (.slice aA F.n cA) ∧ W.cell? ⟨w1.heap.size, 2, none⟩ = some (.slice aS F.n cS) ∧ W.cell? ⟨w1.heap.size, 3, none⟩ = some (.slice aM F.n cM) ∧ W.cell? ⟨w1.heap.size, 4, none⟩ = some (.slice aI F.n cI)) from fun W h => ⟨h, (k1.below h k1.lt).cell 3, (kT.below h kT.lt).cell 0, (kT.below h kT.lt).cell 1, (kT.below h kT.lt).cell 2, (kT.below h kT.lt).cell 3, (kT.below h kT.lt).cell 4⟩)
 go_upto_region 2 with fail
 rw [← H1.out]
 go_wp2_with fail
 refine (sizeS_any _ _ _ _).mono ?_
 rintro e w2 ⟨rfl, rfl⟩
 go_wp2_with fail
 refine (unhide HPW _).mono ?_
 rintro e w2 ⟨rfl, rfl⟩
 go_wp2_with fail
 go_loopw [5, 17] (fun v iv wr => ∃ j : Nat, iv = .int .i64 j ∧ j ≤ Q ∧ Hid (OwnS wr W1.heap.size v (wordsUp F n m m.length j)) ∧ Below W1.heap.size W1 wr) (fun _ iv _ => Q - (intOf iv).toNat)
 case atStart => exact ⟨0, rfl, Nat.zero_le _, OwnS.nil _ _, Below.refl _ _⟩
 case round =>
  obtain ⟨j, rfl, hj, ho, hb⟩ := hrel
  have hsz := hb.size
  by_cases hjq : j < Q
  · have hf := unhide HHF j hjq
    have he := unhide HEN j
    have hst := wordsUp_succ F n m m.length j
    have hel := hEL j
    obtain ⟨msg, hmsg⟩ : ∃ msg, msg = hig j F.n m.length := ⟨_, rfl⟩
    have hmsgl : msg.length = m.length := by rw [hmsg, hig_len]
    obtain ⟨wd, hwd⟩ : ∃ wd, wd = encTo F n m msg m.length := ⟨_, rfl⟩
    rw [← hmsg] at hf he hst hel
    rw [hmsgl] at he
    rw [← hwd] at hst he hel
    have HF := hide hf
    have HE := hide he
    have HST := Lib.hid hst
    have HML := Lib.hid hmsgl
    have hlen : (wordsUp F n m m.length j).length + 1 ≤ 1073741824 := by rw [wordsUp_len]; omega
    clear hf he hst hmsg hmsgl hwd hel
    go_upto_region 7 with fail
    go_region_held3 (fun W => Below W1.heap.size W1 W ∧ W.cell? ⟨w.heap.size, 3, none⟩ = some (.slice ra m.length rc) ∧ W.cell? ⟨w1.heap.size, 0, none⟩ = some (.int .i64 F.n) ∧ W.cell? ⟨w1.heap.size, 1, none⟩ = some (.slice aA F.n cA) ∧ W.cell? ⟨w1.heap.size, 2, none⟩ = some (.slice aS F.n cS) ∧ W.cell? ⟨w1.heap.size, 3, none⟩ = some (.slice aM F.n cM) ∧ W.cell? ⟨w1.heap.size, 4, none⟩ = some (.slice aI F.n cI))
     (first | exact (unhide BX) _ hb | exact (unhide BX) _ (hb.drew) | exact (unhide BX) _ (by assumption) | exact (unhide BX) _ hB4 | exact (unhide BX) _ (hB3.alloc hZ3 _))
     (first
      | (go_at_call 132; refine (unhide HF _).mono ?_; rintro e w2 ⟨v2, rfl, o2, b2⟩; obtain ⟨a2, c2, rfl, r2, _⟩ := o2.form; rw [HML.out]; have hB2 := Below.chain (a := W1) (And.left (by assumption)) b2)
      | (go_at_call 47; refine (unhide HE _ _ _ r2 hB2).mono ?_; rintro e w3 ⟨v3, rfl, o3, b3⟩; obtain ⟨a3, c3, rfl, _, _⟩ := o3.form; have hB3 := Below.chain hB2 b3; have hZ3 := hB3.size; have hQ2 := b2.size; have hQ3 := b3.size; have q3 := ((ho.out.drewN 1).toH.belw b2 (Nat.le_refl _)).belw b3 hQ2; have p3 := o3.mono hQ2)
      | (refine step_append_row rfl (.tmp 20) (.tmp 30) rfl rfl (q3.belw ((Below.refl _ _).alloc (Nat.le_refl _) _) (Nat.le_trans hQ2 hQ3)) _ rfl ((Blk.new w3 28 #[.slice a3 wd.length c3] rfl).cell 0) (p3.alloc _) hsz (alloc_le (Nat.le_trans hQ2 hQ3) _) hlen ?_; intro v4 W4 o4 g4 _; have hB4 := Below.stepS (hB3.alloc hZ3 _) g4 (q3.belw ((Below.refl _ _).alloc (Nat.le_refl _) _) (Nat.le_trans hQ2 hQ3)).own (Nat.le_refl _) (alloc_le hZ3 _)))
    have hb4 := hB4
    clear hB4 hB3 hB2
    go_wp2
    go_roundw
    case rel => exact ⟨j + 1, by go_num, by omega, by show OwnS _ _ _ _; rw [HST.out]; exact o4, hb4⟩
    case measure => simp only [intOf]; omega
  · have hke : j = Q := by omega
    have HE := Lib.hid hke
    clear hke
    go_wp2
    go_ret
    exact ⟨_, rfl, by have o := ho.out; rw [HE.out, ← HWT.out] at o; exact o.mono zw, bw1.trans (hb.mono zw)⟩
end Go.Proofs.YtkiljcbejmiioaaGreat
namespace Go.Proofs.YtkiljcbejmiioaaGreat
open Go.RowKit
attribute [local go_sem ↓] Go.wp_at_zero Go.wp_at_succ
def plusF (F : FD) (xs ys : List Int) : Int → Int → Int := fun _ i => F.add (nth xs i.toNat) (nth ys i.toNat)
theorem plus_row (F : FD) (xs ys : List Int) : rowF (plusF F xs ys) xs.length 0 = plus F xs ys := by
 rw [rowF, plus]
 rfl
theorem l18Plus_any (g : Nat) (F : FD) (a b : Option Addr) (c d : Nat) (xs ys : List Int) (n : Nat) (w : World) (hF : PF w g F) (ok : F.Ok) (hx : Rd w a xs) (hy : Rd w b ys) (hxl : xs.length = n) (hyl : ys.length = n) (hn1 : 1 ≤ n) (hn : n ≤ 1000) (hm : ∀ x ∈ xs, 0 ≤ x ∧ x < F.n) (hm2 : ∀ y ∈ ys, 0 ≤ y ∧ y < F.n) :
    Calls Tryz.prog 98 #[.pointer (some ⟨g, 0, none⟩), .slice a n c, .slice b n d] w fun e w' => ∃ v, e = .returned v ∧ Own w' w.heap.size v (plus F xs ys) ∧ Below w.heap.size w w' := by
 obtain ⟨n2, n64⟩ := ok.n_bd
 have hpr := plus_row F xs ys
 rw [hxl] at hpr
 have hmk := fun W => run_make_row' (P := Tryz.prog) 28 2 (.int .i64 0) 8 Tryz.underlying28 Tryz.info_i64 rfl .i64 .i64 n (by omega) (by omega) W
 obtain ⟨gx, ox, rfl, hgx, hcx⟩ := hx.at_ (by omega)
 obtain ⟨gy, oy, rfl, hgy, hcy⟩ := hy.at_ (by omega)
 have HCX := hide hcx
 have HCY := hide hcy
 have HX := hide hm
 have HY := hide hm2
 have HF := hide hF
 have HPR := Lib.hid hpr
 have HXL := Lib.hid hxl
 have HYL := Lib.hid hyl
 clear hcx hcy hx hy hm hm2 hF hpr hxl hyl
 go_enter Tryz.func98, Tryz.ntmps98
 go_upto_region 2 with fail
 obtain ⟨W1, hW1⟩ : ∃ z, z = w.alloc (.cells (madeCells #[.int .i64 0] n) 2) := ⟨_, rfl⟩
 have oz : Own W1 w.heap.size (.slice (some ⟨w.heap.size, 0, none⟩) n n) (zeros n) := by rw [hW1]; exact Own.zeros w (Nat.le_refl _) (by omega)
 have bz : Below w.heap.size w W1 := by rw [hW1]; exact (Below.refl _ _).alloc (Nat.le_refl _) _
 rw [← hW1]
 clear hW1
 have OZ := Lib.hid oz
 clear oz hmk
 go_wp2_with fail
 go_loopw [8] (fun iv wr => ∃ k : Nat, iv = .int .i64 k ∧ k ≤ n ∧ Hid (Own wr w.heap.size (.slice (some ⟨w.heap.size, 0, none⟩) n n) (rowTo (plusF F xs ys) n 0 k)) ∧ Below w.heap.size w wr) (fun iv _ => n - (intOf iv).toNat)
 case atStart => exact ⟨0, rfl, Nat.zero_le _, OZ, bz⟩
 case round =>
  obtain ⟨k, rfl, hk, ho, hb⟩ := hrel
  by_cases hkn : k < n
  · have hsz := hb.size
    have hrl := rowTo_len (plusF F xs ys) n 0 k
    have c36 := ho.out.cell (j := k) (by rw [hrl]; exact hkn)
    rw [rowTo_nth (plusF F xs ys) n 0 k hk k hkn, if_neg (by omega)] at c36
    have f36 := ho.out.frozen k
    have hG1 : w.heap.size < wr.heap.size := World.block_lt_of_cell? wr _ c36
    have hxr := unhide HX _ (nth_mem (k := k) (by rw [HXL.out]; exact hkn))
    have hyr := unhide HY _ (nth_mem (k := k) (by rw [HYL.out]; exact hkn))
    have cx := unhide HCX k (by rw [HXL.out]; exact hkn)
    have cy := unhide HCY k (by rw [HYL.out]; exact hkn)
    have hst : rowTo (plusF F xs ys) n 0 (k + 1) = (rowTo (plusF F xs ys) n 0 k).set k (F.add (nth xs k) (nth ys k)) := by rw [rowTo]; rfl
    obtain ⟨x, hX⟩ : ∃ x, x = nth xs k := ⟨_, rfl⟩
    obtain ⟨y, hY⟩ : ∃ y, y = nth ys k := ⟨_, rfl⟩
    rw [← hX] at cx hxr hst
    rw [← hY] at cy hyr hst
    have cx := (hb.cell (p := ⟨gx, ox + k, none⟩) hgx).trans cx
    have cy := (hb.cell (p := ⟨gy, oy + k, none⟩) hgy).trans cy
    clear hX hY hrl
    by_cases hy0 : y = 0
    · have hbe : (y == 0) = true := by rw [hy0]; rfl
      have hadd : F.add x y = x := by rw [hy0]; exact add_zero' ok ((el_n ok).2 hxr)
      rw [hadd] at hst
      have HST := Lib.hid hst
      clear hst hy0 hadd
      go_wp2_with fail
      go_roundw
      case rel =>
       have hs := ho.out.set k x
       refine ⟨k + 1, by go_num, by omega, ?_, hb.grown hs.2 (by omega) (fun q hq => by injection hq; omega)⟩
       show Own _ _ _ _
       rw [HST.out]
       exact hs.1
      case measure => simp only [intOf]; omega
    · have hbe : (y == 0) = false := by rw [beq_eq_false_iff_ne]; exact hy0
      have hsum := fun W (h : Below wr.heap.size wr W) => (l03Sum_any g F x y 1 W ((unhide HF).below (hb.trans (h.mono hsz))) ok hxr.1 (by omega) hyr.1 (by omega) (by omega) (by omega)).mono fun e w' q => And.intro q.1 (Below.chain h q.2)
      change ∀ W, Below wr.heap.size wr W → Calls Tryz.prog 44 #[.pointer (some ⟨g, 0, none⟩), .int .i64 x, .int .i64 y, .int .i64 1] W fun r w' => r = .returned (.int .i64 (F.add x y)) ∧ Below wr.heap.size wr w' at hsum
      obtain ⟨D, hD⟩ : ∃ D, D = F.add x y := ⟨_, rfl⟩
      rw [← hD] at hsum hst
      have later : ∀ W, Below wr.heap.size wr W → (W.cell? ⟨w.heap.size, k, none⟩ = some (.int .i64 0) ∧ W.frozen? ⟨w.heap.size, k, none⟩ = false) := fun W h => ⟨(h.cell (p := ⟨w.heap.size, k, none⟩) hG1).trans c36, (ho.out.below h (Nat.le_refl _)).frozen k⟩
      have LT := hide later
      have HSUM := hide hsum
      have HST := Lib.hid hst
      clear hD hsum hst later hy0
      go_upto_region 7 with fail
      go_region_with (first
       | (go_at_call 44; refine (unhide HSUM _ ?_).mono ?_; first | exact Below.refl _ _ | exact (Below.refl _ _).drew; rintro e W2 ⟨rfl, b2⟩; have d37 := (unhide LT _ b2).1; have f37 := (unhide LT _ b2).2))
      all_goals
       go_wp2
       go_roundw
       case rel =>
        have hs := (ho.out.below b2 (Nat.le_refl _)).set k D
        refine ⟨k + 1, by go_num, by omega, ?_, (hb.trans (b2.mono hsz)).grown hs.2 (by have := b2.size; omega) (fun q hq => by injection hq; omega)⟩
        show Own _ _ _ _
        rw [HST.out]
        exact hs.1
       case measure => simp only [intOf]; omega
  · have hke : k = n := by omega
    have HE := Lib.hid hke
    clear hke
    go_wp2_with fail
    go_ret
    exact ⟨_, rfl, by have h := ho.out; rw [HE.out, rowTo_all, HPR.out] at h; exact h, hb⟩
theorem OwnS.single {w : World} {B : Nat} {r : Value} {xs : List Int} (h : Own w B r xs) (hB : B ≤ w.heap.size) : OwnS (w.alloc (.cells #[r] 28)) B (.slice (some ⟨w.heap.size, 0, none⟩) 1 1) [xs] := by
 refine ⟨by simp, [r], ⟨by simp, .inr ⟨w.heap.size, 1, #[r], rfl, hB, heap_alloc_new w _, Nat.le_refl _, by unfold maxLen; omega, by simp, rfl⟩⟩, rfl, fun i x hx => ?_, fun i j x y k hij hx hy => ?_⟩
 · have hi := (List.getElem?_eq_some_iff.1 hx).1
   simp at hi
   subst hi
   simp at hx
   subst hx
   exact h.alloc _
 · have hi := (List.getElem?_eq_some_iff.1 hx).1
   have hj := (List.getElem?_eq_some_iff.1 hy).1
   simp at hi hj
   omega
def multTo (F : FD) (row : List Int) (x : Nat) : List (List Int) := (List.range x).map fun (y : Nat) => scale F y row
theorem multTo_len (F : FD) (row : List Int) (x : Nat) : (multTo F row x).length = x := by simp [multTo]
theorem multTo_succ (F : FD) (row : List Int) (x : Nat) : multTo F row (x + 1) = multTo F row x ++ [scale F x row] := by simp [multTo, List.range_succ]
theorem multTo_nth (F : FD) (row : List Int) {x y : Nat} (h : y < x) : nthL (multTo F row x) y = scale F y row := by simp [multTo, nthL, h]
def nextTo (F : FD) (n : Nat) (wds : List (List Int)) (row : List Int) (k : Nat) : List (List Int) := (wds.take k).flatMap fun wd => (List.range F.n).map fun (x : Nat) => addTo F wd row x n
def nextIn (F : FD) (n : Nat) (wds : List (List Int)) (row : List Int) (k x : Nat) : List (List Int) := nextTo F n wds row k ++ (List.range x).map fun (y : Nat) => addTo F (nthL wds k) row y n
theorem nextTo_len (F : FD) (n : Nat) (wds : List (List Int)) (row : List Int) {k : Nat} (hk : k ≤ wds.length) : (nextTo F n wds row k).length = k * F.n := by
 induction k with
 | zero => simp [nextTo]
 | succ k ih =>
  have ih := ih (by omega)
  rw [nextTo] at ih ⊢
  rw [take_nthL (by omega), List.flatMap_append, List.length_append, ih]
  simp [Nat.succ_mul]
theorem nextIn_len (F : FD) (n : Nat) (wds : List (List Int)) (row : List Int) {k x : Nat} (hk : k ≤ wds.length) : (nextIn F n wds row k x).length = k * F.n + x := by
 rw [nextIn, List.length_append, nextTo_len F n wds row hk]
 simp
theorem nextIn_succ (F : FD) (n : Nat) (wds : List (List Int)) (row : List Int) (k x : Nat) : nextIn F n wds row k (x + 1) = nextIn F n wds row k x ++ [addTo F (nthL wds k) row x n] := by simp [nextIn, List.range_succ]
theorem nextIn_all (F : FD) (n : Nat) (wds : List (List Int)) (row : List Int) {k : Nat} (hk : k < wds.length) : nextIn F n wds row k F.n = nextTo F n wds row (k + 1) := by
 rw [nextIn, nextTo, nextTo, take_nthL hk, List.flatMap_append]
 simp
theorem l18Words_any (g : Nat) (F : FD) (ra : Option Addr) (rc : Nat) (m : List (List Int)) (n : Nat) (w : World) (hF : PF w g F) (hc3 : w.cell? ⟨g, 3, none⟩ = some (.slice ra m.length rc)) (hm : RdS w ra m) (hC : GC F n m) :
    Calls Tryz.prog 42 #[.pointer (some ⟨g, 0, none⟩)] w fun e w' => ∃ v, e = .returned v ∧ OwnS w' w.heap.size v (wordsTo F n m m.length) ∧ Below w.heap.size w w' := by
 have hml := hm.len
 have hG := hC.good
 have ok := hG.ok
 obtain ⟨n2, n64⟩ := ok.n_bd
 have hm1 := hC.m1
 have hm8 := hC.m8
 have hn1 := hC.n1
 have hn32 := hC.n32
 obtain ⟨_, hQ⟩ := hC.cap_eq
 have hglt : g < w.heap.size := World.block_lt_of_cell? w _ hc3
 have hmk := fun W => run_make_row' (P := Tryz.prog) 28 2 (.int .i64 0) 8 Tryz.underlying28 Tryz.info_i64 rfl .i64 .i64 n (by omega) (by omega) W
 have hle : ∀ i, i ≤ m.length → F.n ^ i ≤ 4096 := fun i hi => Nat.le_trans (Nat.pow_le_pow_right (by omega) hi) hQ
 have HLE := hide hle
 have hMat := hC.mat
 obtain ⟨gb, ob, rfl, hgb, hcc⟩ := hm.at_ hm1
 obtain ⟨ai0, ci0, h00, _⟩ := hcc 0 hm1
 rw [Nat.add_zero, (Mat_nth hMat hm1).1] at h00
 have hsz1 := fun W (h : Below w.heap.size w W) => l03Size_qt g F W (hF.below h) ok
 have HSZ := hide hsz1
 have HCC := hide hcc
 have HMM := hide hMat
 have HF := hide hF
 have HQ := hide hQ
 clear hcc hm hMat hF hle hsz1 hQ
 go_enter Tryz.func42, Tryz.ntmps42
 go_upto_region 2 with fail
 obtain ⟨W1, hW1⟩ : ∃ z, z = (w.alloc (.cells (madeCells #[.int .i64 0] n) 2)).alloc (.cells #[.slice (some ⟨w.heap.size, 0, none⟩) n n] 28) := ⟨_, rfl⟩
 have oz : OwnS W1 w.heap.size (.slice (some ⟨w.heap.size + 1, 0, none⟩) 1 1) [zeros n] := by
  rw [hW1]
  have h := OwnS.single (Own.zeros w (Nat.le_refl _) (n := n) (by omega)) (by simp)
  have e : (w.alloc (.cells (madeCells #[.int .i64 0] n) 2)).heap.size = w.heap.size + 1 := by simp
  rw [e] at h
  exact h
 have bz : Below w.heap.size w W1 := by rw [hW1]; exact ((Below.refl _ _).alloc (Nat.le_refl _) _).alloc (by simp) _
 have HW1 := Lib.hid hW1
 have w0 : wordsTo F n m 0 = [zeros n] := rfl
 have W0 := Lib.hid w0
 have OZ := Lib.hid oz
 clear w0 oz hmk
 rw [← HW1.out]
 clear hW1
 go_wp2_with fail
 refine (unhide HSZ W1 bz).mono ?_
 rintro e w2 ⟨rfl, q2⟩
 have b2 := bz.trans (q2.below _)
 have oz2 := OZ.out.below (q2.below _) (Nat.le_refl _)
 have OZ2 := Lib.hid oz2
 clear oz2 OZ
 go_wp2_with fail
 go_loopw [3, 5] (fun v iv wr => ∃ i : Nat, iv = .int .i64 i ∧ i ≤ m.length ∧ Hid (OwnS wr w.heap.size v (wordsTo F n m i)) ∧ Below w.heap.size w wr) (fun _ iv _ => m.length - (intOf iv).toNat)
 case atStart => exact ⟨0, rfl, Nat.zero_le _, by show OwnS _ _ _ _; rw [W0.out]; exact OZ2.out, b2⟩
 case round =>
  obtain ⟨i, rfl, hi, ho, hb⟩ := hrel
  rename World => wo
  have hsz := hb.size
  have c3 := (hb.cell (p := ⟨g, 3, none⟩) hglt).trans hc3
  by_cases him : i < m.length
  · obtain ⟨ai, ci, hri, hrr⟩ := unhide HCC i him
    have hmt := Mat_nth (unhide HMM) him
    have hws := wordsTo_succ F n m i
    have hwl := wordsTo_len F n m i
    have hle1 := unhide HLE i hi
    have hwe : ∀ wd ∈ wordsTo F n m i, wd.length = n ∧ ∀ x ∈ wd, 0 ≤ x ∧ x < F.n := by
     intro wd h
     rw [wordsTo, List.mem_map] at h
     obtain ⟨j, _, rfl⟩ := h
     exact ⟨encTo_len _ _ _ _ _, encTo_el ok _ _ _ _⟩
    have hwp : 0 < (wordsTo F n m i).length := by rw [hwl]; exact Nat.pow_pos (by omega)
    rw [← hwl] at hle1
    have hwn := nextTo_len F n (wordsTo F n m i) (nthL m i) (Nat.le_refl _)
    have hwf : wordsTo F n m (i + 1) = nextTo F n (wordsTo F n m i) (nthL m i) (wordsTo F n m i).length := by rw [nextTo, List.take_length, hws]
    obtain ⟨row, hrow⟩ : ∃ row, row = nthL m i := ⟨_, rfl⟩
    obtain ⟨wds, hwds⟩ : ∃ wds, wds = wordsTo F n m i := ⟨_, rfl⟩
    rw [← hrow] at hri hrr hmt hwf hwn
    rw [← hwds] at ho hwe hwp hle1 hwf hwn
    rw [hmt.1] at hri
    have hri := (hb.cell (p := ⟨gb, ob + i, none⟩) hgb).trans hri
    have HWF := Lib.hid hwf
    have HMT := hide hmt
    have HWE := hide hwe
    obtain ⟨aw, cw, rfl, rw0⟩ := ho.out.form
    obtain ⟨gw, ow, rfl, hgw, hcw⟩ := rw0.at_ hwp
    have HCW := hide hcw
    have hsc := fun (x : Nat) (hx : x < F.n) W (h : Below w.heap.size w W) => l17Scale_any g F ai ci row x W ((unhide HF).below h) ok (hrr.below h) (by omega) (by omega) hmt.2
    rw [hmt.1] at hsc
    have HSC := hide hsc
    clear hrow hwds hws hwl hwe hwf hwn hmt hcw hsc ho rw0 hrr
    go_wp2_with fail
    go_loopw [6, 7] (fun v xv wr => ∃ x : Nat, xv = .int .i64 x ∧ x ≤ F.n ∧ Hid (OwnS wr wo.heap.size v (multTo F row x)) ∧ Below wo.heap.size wo wr) (fun _ xv _ => F.n - (intOf xv).toNat)
    case atStart => exact ⟨0, rfl, Nat.zero_le _, OwnS.empty wo (Nat.le_refl _), (Below.refl _ _).alloc (Nat.le_refl _) _⟩
    case round =>
     obtain ⟨x, rfl, hx, ho2, hb2⟩ := hrel
     have hsz2 := hb2.size
     by_cases hxn : x < F.n
     · have hbx : Below w.heap.size w wr := hb.trans (hb2.mono hsz)
       have hs := fun W (h : Below wo.heap.size wo W) => unhide HSC x hxn W (hb.trans (h.mono hsz))
       have hst := multTo_succ F row x
       have hlen : (multTo F row x).length + 1 ≤ 1073741824 := by rw [multTo_len]; omega
       have hscl : (scale F x row).length = n := by rw [scale_len, (unhide HMT).1]
       obtain ⟨sr, hsr⟩ : ∃ sr, sr = scale F x row := ⟨_, rfl⟩
       rw [← hsr] at hs hst hscl
       have BX := hide (show ∀ W, Below wo.heap.size wo W → (Below wo.heap.size wo W ∧ W.cell? ⟨g, 3, none⟩ = some (.slice (some ⟨gb, ob, none⟩) m.length rc) ∧ W.cell? ⟨gb, ob + i, none⟩ = some (.slice ai n ci)) from fun W h => ⟨h, (h.cell (p := ⟨g, 3, none⟩) (by have := hb.size; show g < _; omega)).trans c3, (h.cell (p := ⟨gb, ob + i, none⟩) (by have := hb.size; show gb < _; omega)).trans hri⟩)
       have HS := hide hs
       have HST := Lib.hid hst
       have HSL := Lib.hid hscl
       clear hsr hs hst hscl
       go_upto_region 10 with fail
       refine wp_region_noPanic ?_
       refine wp_region_seq (S := (fun W => Below wo.heap.size wo W ∧ W.cell? ⟨g, 3, none⟩ = some (.slice (some ⟨gb, ob, none⟩) m.length rc) ∧ W.cell? ⟨gb, ob + i, none⟩ = some (.slice ai n ci))) [true, true, true, true, true, true, true, true, true, true, true, true, false, false, false, true] (by kernel_rfl) (by kernel_rfl) (by kernel_rfl) rfl (fun _ _ _ _ _ h => h) ?_ (fun hHeld => ?_)
       · exact (unhide BX) _ hb2.drew
       simp only [List.toList_toArray]
       refine SeqH.take (v := ?hv1) (by rfl) ?hy1 ?hr1
       case hy1 =>
        intro w hSw
        try dsimp only at hSw
        go_simp
        try (with_reducible rfl)
       try simp only [Act.put, List.setIfInBounds_toArray, List.set_cons_zero, List.set_cons_succ]
       refine SeqH.take (v := ?hv2) (by rfl) ?hy2 ?hr2
       case hy2 =>
        intro w hSw
        try dsimp only at hSw
        go_simp
        try (with_reducible rfl)
       try simp only [Act.put, List.setIfInBounds_toArray, List.set_cons_zero, List.set_cons_succ]
       refine SeqH.take (v := ?hv3) (by rfl) ?hy3 ?hr3
       case hy3 =>
        intro w hSw
        try dsimp only at hSw
        go_simp
        try (with_reducible rfl)
       try simp only [Act.put, List.setIfInBounds_toArray, List.set_cons_zero, List.set_cons_succ]
       refine SeqH.take (v := ?hv4) (by rfl) ?hy4 ?hr4
       case hy4 =>
        intro w hSw
        try dsimp only at hSw
        go_simp
        try (with_reducible rfl)
       try simp only [Act.put, List.setIfInBounds_toArray, List.set_cons_zero, List.set_cons_succ]
       refine SeqH.take (v := ?hv5) (by rfl) ?hy5 ?hr5
       case hy5 =>
        intro w hSw
        try dsimp only at hSw
        go_simp
        try (with_reducible rfl)
       try simp only [Act.put, List.setIfInBounds_toArray, List.set_cons_zero, List.set_cons_succ]
       refine SeqH.take (v := ?hv6) (by rfl) ?hy6 ?hr6
       case hy6 =>
        intro w hSw
        try dsimp only at hSw
        go_simp
        try (with_reducible rfl)
       try simp only [Act.put, List.setIfInBounds_toArray, List.set_cons_zero, List.set_cons_succ]
       refine SeqH.take (v := ?hv7) (by rfl) ?hy7 ?hr7
       case hy7 =>
        intro w hSw
        try dsimp only at hSw
        go_simp
        try (with_reducible rfl)
       try simp only [Act.put, List.setIfInBounds_toArray, List.set_cons_zero, List.set_cons_succ]
       refine SeqH.take (v := ?hv8) (by rfl) ?hy8 ?hr8
       case hy8 =>
        intro w hSw
        try dsimp only at hSw
        go_simp
        try (with_reducible rfl)
       try simp only [Act.put, List.setIfInBounds_toArray, List.set_cons_zero, List.set_cons_succ]
       refine SeqH.take (v := ?hv9) (by rfl) ?hy9 ?hr9
       case hy9 =>
        intro w hSw
        try dsimp only at hSw
        go_simp
        try (with_reducible rfl)
       try simp only [Act.put, List.setIfInBounds_toArray, List.set_cons_zero, List.set_cons_succ]
       refine SeqH.take (v := ?hv10) (by rfl) ?hy10 ?hr10
       case hy10 =>
        intro w hSw
        try dsimp only at hSw
        go_simp
        try (with_reducible rfl)
       try simp only [Act.put, List.setIfInBounds_toArray, List.set_cons_zero, List.set_cons_succ]
       refine SeqH.take (v := ?hv11) (by rfl) ?hy11 ?hr11
       case hy11 =>
        intro w hSw
        try dsimp only at hSw
        go_simp
        try (with_reducible rfl)
       try simp only [Act.put, List.setIfInBounds_toArray, List.set_cons_zero, List.set_cons_succ]
       refine SeqH.take (v := ?hv12) (by rfl) ?hy12 ?hr12
       case hy12 =>
        intro w hSw
        try dsimp only at hSw
        go_simp
        try (with_reducible rfl)
       try simp only [Act.put, List.setIfInBounds_toArray, List.set_cons_zero, List.set_cons_succ]
       refine SeqH.call (fun K hK => ?_)
       go_simp
       refine (unhide HS _ (And.left hHeld)).mono ?_
       rintro e w3 ⟨v3, rfl, o3, b3⟩
       obtain ⟨a3, c3x, rfl, _, _⟩ := o3.form
       rw [HSL.out] at o3 ⊢
       have hB3 := Below.chain (a := wo) (And.left hHeld) b3
       have hZ3 := hB3.size
       have hQ3 := b3.size
       have q3 := (ho2.out.drewN 1).toH.belw b3 (Nat.le_refl _)
       go_wp2_with fail
       refine hK.out _ _ ?_ (fun hHeld => ?_)
       · exact (unhide BX) _ hB3
       clear hK K
       try simp only [Act.put, List.setIfInBounds_toArray, List.set_cons_zero, List.set_cons_succ]
       refine SeqH.call (fun K hK => ?_)
       go_simp
       refine hK.out _ _ ?_ (fun hHeld => ?_)
       · exact (unhide BX) _ (hB3.alloc hZ3 _)
       clear hK K
       try simp only [Act.put, List.setIfInBounds_toArray, List.set_cons_zero, List.set_cons_succ]
       refine SeqH.call (fun K hK => ?_)
       refine step_append_row rfl (.tmp 39) (.tmp 52) rfl rfl (q3.belw ((Below.refl _ _).alloc (Nat.le_refl _) _) hQ3) _ rfl ((Blk.new w3 28 #[.slice a3 n c3x] rfl).cell 0) (o3.alloc _) hsz2 (alloc_le hQ3 _) hlen ?_
       intro v4 W4 o4 g4 _
       have hB4 := Below.stepS (hB3.alloc hZ3 _) g4 (q3.belw ((Below.refl _ _).alloc (Nat.le_refl _) _) hQ3).own (Nat.le_refl _) (alloc_le hZ3 _)
       refine hK.out _ _ ?_ (fun hHeld => ?_)
       · exact (unhide BX) _ hB4
       clear hK K
       try simp only [Act.put, List.setIfInBounds_toArray, List.set_cons_zero, List.set_cons_succ]
       refine SeqH.take (v := ?hv13) (by rfl) ?hy13 ?hr13
       case hy13 =>
        intro w hSw
        try dsimp only at hSw
        go_simp
        try (with_reducible rfl)
       try simp only [Act.put, List.setIfInBounds_toArray, List.set_cons_zero, List.set_cons_succ]
       refine SeqH.done (NoPanic.normal ?_)
       go_wp2
       go_roundw
       case rel => exact ⟨x + 1, by go_num, by omega, by show OwnS _ _ _ _; rw [HST.out]; exact o4, hB4⟩
       case measure => simp only [intOf]; omega
     · have hke : x = F.n := by omega
       have HE := Lib.hid hke
       clear hke
       have om := ho2.out
       rw [HE.out] at om
       obtain ⟨am, cm, rfl, rm⟩ := om.form
       have hml2 := multTo_len F row F.n
       obtain ⟨gm, omm, rfl, hgm, hcm⟩ := rm.at_ (by rw [hml2]; omega)
       rw [hml2]
       have hbx : Below w.heap.size w wr := hb.trans (hb2.mono hsz)
       have hcm2 : ∀ x, x < F.n → ∃ ax cx, wr.cell? ⟨gm, omm + x, none⟩ = some (.slice ax n cx) ∧ Rd wr ax (scale F x row) := fun x hx => by
        obtain ⟨ax, cx, h1, h2⟩ := hcm x (by rw [hml2]; exact hx)
        rw [multTo_nth F row hx] at h1 h2
        rw [scale_len, (unhide HMT).1] at h1
        exact ⟨ax, cx, h1, h2⟩
       have hcw2 : ∀ k, k < wds.length → ∃ ax cx, wr.cell? ⟨gw, ow + k, none⟩ = some (.slice ax n cx) ∧ Rd wr ax (nthL wds k) := fun k hk => by
        obtain ⟨ax, cx, h1, h2⟩ := unhide HCW k hk
        rw [(unhide HWE _ (nthL_mem hk)).1] at h1
        exact ⟨ax, cx, (hb2.cell (p := ⟨gw, ow + k, none⟩) hgw).trans h1, h2.below hb2⟩
       have hgw2 : gw < wr.heap.size := by omega
       have hPL : ∀ (k x : Nat) (_ : k < wds.length) (_ : x < F.n) (a b : Option Addr) (c d : Nat) W, Below wr.heap.size wr W → Rd W a (nthL wds k) → Rd W b (scale F x row) → Calls Tryz.prog 98 #[.pointer (some ⟨g, 0, none⟩), .slice a n c, .slice b n d] W fun e w' => ∃ v, e = .returned v ∧ Own w' W.heap.size v (addTo F (nthL wds k) row x n) ∧ Below W.heap.size W w' := fun k x hk hx a b c d W hB r1 r2 => by
        have hw := unhide HWE _ (nthL_mem hk)
        have h := l18Plus_any g F a b c d (nthL wds k) (scale F x row) n W ((unhide HF).below (hbx.trans (hB.mono (by have := hbx.size; omega)))) ok r1 r2 hw.1 (by rw [scale_len, (unhide HMT).1]) hn1 (by omega) hw.2 (scale_el ok _ _)
        rw [plus_scale F (by rw [(unhide HMT).1, hw.1]), hw.1] at h
        exact h
       have hNA : ∀ k, k < wds.length → nextIn F n wds row k F.n = nextTo F n wds row (k + 1) := fun k hk => nextIn_all F n wds row hk
       have HCM := hide hcm2
       have HCW2 := hide hcw2
       have HPL := hide hPL
       have HNA := hide hNA
       clear om rm hml2 hcm hcm2 hcw2 hPL hNA ho2
       rename World => wm
       have hsm := hb2.size
       go_wp2_with fail
       go_loopw [8, 9] (fun v kv wr => ∃ k : Nat, kv = .int .i64 k ∧ k ≤ wds.length ∧ Hid (OwnS wr wm.heap.size v (nextTo F n wds row k)) ∧ Below wm.heap.size wm wr) (fun _ kv _ => wds.length - (intOf kv).toNat)
       case atStart => exact ⟨0, rfl, Nat.zero_le _, OwnS.empty wm (Nat.le_refl _), (Below.refl _ _).alloc (Nat.le_refl _) _⟩
       case round =>
        obtain ⟨k, rfl, hk, ho3, hb3⟩ := hrel
        rename World => wk
        have hsz3 := hb3.size
        by_cases hkl : k < wds.length
        · have hn0 : nextIn F n wds row k 0 = nextTo F n wds row k := by rw [nextIn]; simp
          have ho4 := ho3.out
          rw [← hn0] at ho4
          have HO4 := Lib.hid ho4
          clear ho4 hn0 ho3
          obtain ⟨aw, cw2, hw1, hwr⟩ := unhide HCW2 k hkl
          have HWR := hide hwr
          clear hwr
          go_wp2_with fail
          go_loopw [8, 10] (fun v xv wr => ∃ x : Nat, xv = .int .i64 x ∧ x ≤ F.n ∧ Hid (OwnS wr wm.heap.size v (nextIn F n wds row k x)) ∧ Below wm.heap.size wm wr) (fun _ xv _ => F.n - (intOf xv).toNat)
          case atStart => exact ⟨0, rfl, Nat.zero_le _, HO4, hb3⟩
          case round =>
           obtain ⟨x, rfl, hx, ho5, hb5⟩ := hrel
           have hsz5 := hb5.size
           by_cases hxn : x < F.n
           · obtain ⟨ax, cx, hm1, hmr⟩ := unhide HCM x hxn
             have hp := unhide HPL k x hkl hxn aw ax cw2 cx
             have hst := nextIn_succ F n wds row k x
             have hlen : (nextIn F n wds row k x).length + 1 ≤ 1073741824 := by
              rw [nextIn_len F n wds row (by omega)]
              have : k * F.n ≤ 4096 * 64 := Nat.mul_le_mul (by omega) n64
              omega
             have hwl : (addTo F (nthL wds k) row x n).length = n := by rw [addTo_len, (unhide HWE _ (nthL_mem hkl)).1]
             obtain ⟨nw, hnw⟩ : ∃ nw, nw = addTo F (nthL wds k) row x n := ⟨_, rfl⟩
             rw [← hnw] at hp hst hwl
             have hp2 := fun W (h : Below wm.heap.size wm W) => hp W h ((unhide HWR).below h) (hmr.below h)
             have BX := hide (show ∀ W, Below wm.heap.size wm W → (Below wm.heap.size wm W ∧ W.cell? ⟨gw, ow + k, none⟩ = some (.slice aw n cw2) ∧ W.cell? ⟨gm, omm + x, none⟩ = some (.slice ax n cx)) from fun W h => ⟨h, (h.cell (p := ⟨gw, ow + k, none⟩) hgw2).trans hw1, (h.cell (p := ⟨gm, omm + x, none⟩) hgm).trans hm1⟩)
             have HP := hide hp2
             have HST := Lib.hid hst
             have HWL := Lib.hid hwl
             clear hp hp2 hst hnw hmr hwl
             go_upto_region 18 with fail
             refine wp_region_noPanic ?_
             refine wp_region_seq (S := (fun W => Below wm.heap.size wm W ∧ W.cell? ⟨gw, ow + k, none⟩ = some (.slice aw n cw2) ∧ W.cell? ⟨gm, omm + x, none⟩ = some (.slice ax n cx))) [true, true, true, true, true, true, true, true, true, true, true, true, false, false, false, true] (by kernel_rfl) (by kernel_rfl) (by kernel_rfl) rfl (fun _ _ _ _ _ h => h) ?_ (fun hHeld => ?_)
             · exact (unhide BX) _ hb5.drew
             simp only [List.toList_toArray]
             refine SeqH.take (v := ?hv14) (by rfl) ?hy14 ?hr14
             case hy14 =>
              intro w hSw
              try dsimp only at hSw
              go_simp
              try (with_reducible rfl)
             try simp only [Act.put, List.setIfInBounds_toArray, List.set_cons_zero, List.set_cons_succ]
             refine SeqH.take (v := ?hv15) (by rfl) ?hy15 ?hr15
             case hy15 =>
              intro w hSw
              try dsimp only at hSw
              go_simp
              try (with_reducible rfl)
             try simp only [Act.put, List.setIfInBounds_toArray, List.set_cons_zero, List.set_cons_succ]
             refine SeqH.take (v := ?hv16) (by rfl) ?hy16 ?hr16
             case hy16 =>
              intro w hSw
              try dsimp only at hSw
              go_simp
              try (with_reducible rfl)
             try simp only [Act.put, List.setIfInBounds_toArray, List.set_cons_zero, List.set_cons_succ]
             refine SeqH.take (v := ?hv17) (by rfl) ?hy17 ?hr17
             case hy17 =>
              intro w hSw
              try dsimp only at hSw
              go_simp
              try (with_reducible rfl)
             try simp only [Act.put, List.setIfInBounds_toArray, List.set_cons_zero, List.set_cons_succ]
             refine SeqH.take (v := ?hv18) (by rfl) ?hy18 ?hr18
             case hy18 =>
              intro w hSw
              try dsimp only at hSw
              go_simp
              try (with_reducible rfl)
             try simp only [Act.put, List.setIfInBounds_toArray, List.set_cons_zero, List.set_cons_succ]
             refine SeqH.take (v := ?hv19) (by rfl) ?hy19 ?hr19
             case hy19 =>
              intro w hSw
              try dsimp only at hSw
              go_simp
              try (with_reducible rfl)
             try simp only [Act.put, List.setIfInBounds_toArray, List.set_cons_zero, List.set_cons_succ]
             refine SeqH.take (v := ?hv20) (by rfl) ?hy20 ?hr20
             case hy20 =>
              intro w hSw
              try dsimp only at hSw
              go_simp
              try (with_reducible rfl)
             try simp only [Act.put, List.setIfInBounds_toArray, List.set_cons_zero, List.set_cons_succ]
             refine SeqH.take (v := ?hv21) (by rfl) ?hy21 ?hr21
             case hy21 =>
              intro w hSw
              try dsimp only at hSw
              go_simp
              try (with_reducible rfl)
             try simp only [Act.put, List.setIfInBounds_toArray, List.set_cons_zero, List.set_cons_succ]
             refine SeqH.take (v := ?hv22) (by rfl) ?hy22 ?hr22
             case hy22 =>
              intro w hSw
              try dsimp only at hSw
              go_simp
              try (with_reducible rfl)
             try simp only [Act.put, List.setIfInBounds_toArray, List.set_cons_zero, List.set_cons_succ]
             refine SeqH.take (v := ?hv23) (by rfl) ?hy23 ?hr23
             case hy23 =>
              intro w hSw
              try dsimp only at hSw
              go_simp
              try (with_reducible rfl)
             try simp only [Act.put, List.setIfInBounds_toArray, List.set_cons_zero, List.set_cons_succ]
             refine SeqH.take (v := ?hv24) (by rfl) ?hy24 ?hr24
             case hy24 =>
              intro w hSw
              try dsimp only at hSw
              go_simp
              try (with_reducible rfl)
             try simp only [Act.put, List.setIfInBounds_toArray, List.set_cons_zero, List.set_cons_succ]
             refine SeqH.take (v := ?hv25) (by rfl) ?hy25 ?hr25
             case hy25 =>
              intro w hSw
              try dsimp only at hSw
              go_simp
              try (with_reducible rfl)
             try simp only [Act.put, List.setIfInBounds_toArray, List.set_cons_zero, List.set_cons_succ]
             refine SeqH.call (fun K hK => ?_)
             go_simp
             refine (unhide HP _ (And.left hHeld)).mono ?_
             rintro e w3 ⟨v3, rfl, o3, b3⟩
             obtain ⟨a3, c3x, rfl, _, _⟩ := o3.form
             rw [HWL.out] at o3 ⊢
             have hB3 := Below.chain (a := wm) (And.left hHeld) b3
             have hZ3 := hB3.size
             have hQ3 := b3.size
             have q3 := (ho5.out.drewN 1).toH.belw b3 (Nat.le_refl _)
             go_wp2_with fail
             refine hK.out _ _ ?_ (fun hHeld => ?_)
             · exact (unhide BX) _ hB3
             clear hK K
             try simp only [Act.put, List.setIfInBounds_toArray, List.set_cons_zero, List.set_cons_succ]
             refine SeqH.call (fun K hK => ?_)
             go_simp
             refine hK.out _ _ ?_ (fun hHeld => ?_)
             · exact (unhide BX) _ (hB3.alloc hZ3 _)
             clear hK K
             try simp only [Act.put, List.setIfInBounds_toArray, List.set_cons_zero, List.set_cons_succ]
             refine SeqH.call (fun K hK => ?_)
             refine step_append_row rfl (.tmp 66) (.tmp 79) rfl rfl (q3.belw ((Below.refl _ _).alloc (Nat.le_refl _) _) hQ3) _ rfl ((Blk.new w3 28 #[.slice a3 n c3x] rfl).cell 0) (o3.alloc _) hsz5 (alloc_le hQ3 _) hlen ?_
             intro v4 W4 o4 g4 _
             have hB4 := Below.stepS (hB3.alloc hZ3 _) g4 (q3.belw ((Below.refl _ _).alloc (Nat.le_refl _) _) hQ3).own (Nat.le_refl _) (alloc_le hZ3 _)
             refine hK.out _ _ ?_ (fun hHeld => ?_)
             · exact (unhide BX) _ hB4
             clear hK K
             try simp only [Act.put, List.setIfInBounds_toArray, List.set_cons_zero, List.set_cons_succ]
             refine SeqH.take (v := ?hv26) (by rfl) ?hy26 ?hr26
             case hy26 =>
              intro w hSw
              try dsimp only at hSw
              go_simp
              try (with_reducible rfl)
             try simp only [Act.put, List.setIfInBounds_toArray, List.set_cons_zero, List.set_cons_succ]
             refine SeqH.done (NoPanic.normal ?_)
             go_wp2
             go_roundw
             case rel => exact ⟨x + 1, by go_num, by omega, by show OwnS _ _ _ _; rw [HST.out]; exact o4, hB4⟩
             case measure => simp only [intOf]; omega
           · have hke : x = F.n := by omega
             have HE := Lib.hid hke
             clear hke
             go_wp2
             go_roundw
             case rel =>
              refine ⟨k + 1, by go_num, by omega, ?_, hb5⟩
              show OwnS _ _ _ _
              have o := ho5.out
              rw [HE.out, unhide HNA k hkl] at o
              exact o
             case measure => simp only [intOf]; omega
        · have hke : k = wds.length := by omega
          have HE := Lib.hid hke
          clear hke
          go_wp2
          go_roundw
          case rel =>
           refine ⟨i + 1, by go_num, by omega, ?_, hbx.trans (hb3.mono (by have := hbx.size; omega))⟩
           show OwnS _ _ _ _
           rw [HWF.out]
           have o := ho3.out
           rw [HE.out] at o
           exact o.mono (by have := hbx.size; omega)
          case measure => simp only [intOf]; omega
  · have hke : i = m.length := by omega
    have HE := Lib.hid hke
    clear hke
    go_wp2
    go_ret
    exact ⟨_, rfl, by have o := ho.out; rw [HE.out] at o; exact o, hb⟩
end Go.Proofs.YtkiljcbejmiioaaGreat
namespace Go.Proofs.YtkiljcbejmiioaaGreat
open Go.RowKit
attribute [local go_sem ↓] Go.wp_at_zero Go.wp_at_succ
theorem weightOf_any (a : Option Addr) (c : Nat) (xs : List Int) (w : World) (hx : Rd w a xs) :
    Calls Tryz.prog 92 #[.slice a xs.length c] w fun e w' => e = .returned (.int .i64 (wt xs : Nat)) ∧ w = w' := by
 have hxl := hx.len
 go_enter Tryz.func92, Tryz.ntmps92
 go_wp2
 go_loopw [3, 8] (fun nv iv wr => ∃ (k y : Nat), iv = .int .i64 k ∧ nv = .int .i64 y ∧ k ≤ xs.length ∧ y ≤ k ∧ Hid (y = wtTo xs k) ∧ w = wr) (fun _ iv _ => xs.length - (intOf iv).toNat)
 case atStart => exact ⟨0, 0, rfl, rfl, Nat.zero_le _, Nat.le_refl _, rfl, rfl⟩
 case round =>
  obtain ⟨k, y, rfl, rfl, hk, hyk, hY, rfl⟩ := hrel
  by_cases hkl : k < xs.length
  · obtain ⟨b1, o1, rfl, _, hc⟩ := hx.at_ (by omega)
    have h1 := hc k hkl
    have hst : wtTo xs (k + 1) = if nth xs k = 0 then wtTo xs k else wtTo xs k + 1 := rfl
    obtain ⟨u, hu⟩ : ∃ u, u = nth xs k := ⟨_, rfl⟩
    rw [← hu] at h1 hst
    have HST := Lib.hid hst
    clear hc hu hst
    by_cases hn : u = 0
    · have hbn : (u != 0) = false := by rw [bne_eq_false_iff_eq]; exact hn
      have HN := Lib.hid hn
      clear hn
      go_wp2
      go_roundw
      case rel => exact ⟨k + 1, y, by go_num, rfl, by omega, by omega, by show _ = _; rw [HST.out, if_pos HN.out, hY.out], trivial⟩
      case measure => simp [intOf]; omega
    · have hbn : (u != 0) = true := by rw [bne_iff_ne]; exact hn
      have HN := hide hn
      clear hn
      go_wp2
      go_roundw
      case rel => exact ⟨k + 1, y + 1, by go_num, by go_num, by omega, by omega, by show _ = _; rw [HST.out, if_neg (unhide HN), hY.out], trivial⟩
      case measure => simp [intOf]; omega
  · have hke : k = xs.length := by omega
    have HE := Lib.hid hke
    clear hke
    go_wp2
    go_ret
    exact ⟨ret_int (by rw [hY.out, HE.out, wt]), rfl⟩
theorem l18Weight_any (a : Option Addr) (c : Nat) (xs : List Int) (w : World) (hx : Rd w a xs) :
    Calls Tryz.prog 88 #[.slice a xs.length c] w fun e w' => e = .returned (.int .i64 (wt xs : Nat)) ∧ w = w' := by
 have hxl := hx.len
 go_enter Tryz.func88, Tryz.ntmps88
 go_wp2
 go_loopw [3, 4] (fun nv iv wr => ∃ (k y : Nat), iv = .int .i64 k ∧ nv = .int .i64 y ∧ k ≤ xs.length ∧ y ≤ k ∧ Hid (y = wtTo xs k) ∧ w = wr) (fun _ iv _ => xs.length - (intOf iv).toNat)
 case atStart => exact ⟨0, 0, rfl, rfl, Nat.zero_le _, Nat.le_refl _, rfl, rfl⟩
 case round =>
  obtain ⟨k, y, rfl, rfl, hk, hyk, hY, rfl⟩ := hrel
  by_cases hkl : k < xs.length
  · obtain ⟨b1, o1, rfl, _, hc⟩ := hx.at_ (by omega)
    have h1 := hc k hkl
    have hst : wtTo xs (k + 1) = if nth xs k = 0 then wtTo xs k else wtTo xs k + 1 := rfl
    obtain ⟨u, hu⟩ : ∃ u, u = nth xs k := ⟨_, rfl⟩
    rw [← hu] at h1 hst
    have HST := Lib.hid hst
    clear hc hu hst
    by_cases hn : u = 0
    · have hbn : (u != 0) = false := by rw [bne_eq_false_iff_eq]; exact hn
      have HN := Lib.hid hn
      clear hn
      go_wp2
      go_roundw
      case rel => exact ⟨k + 1, y, by go_num, rfl, by omega, by omega, by show _ = _; rw [HST.out, if_pos HN.out, hY.out], trivial⟩
      case measure => simp [intOf]; omega
    · have hbn : (u != 0) = true := by rw [bne_iff_ne]; exact hn
      have HN := hide hn
      clear hn
      go_wp2
      go_roundw
      case rel => exact ⟨k + 1, y + 1, by go_num, by go_num, by omega, by omega, by show _ = _; rw [HST.out, if_neg (unhide HN), hY.out], trivial⟩
      case measure => simp [intOf]; omega
  · have hke : k = xs.length := by omega
    have HE := Lib.hid hke
    clear hke
    go_wp2
    go_ret
    exact ⟨ret_int (by rw [hY.out, HE.out, wt]), rfl⟩
theorem lengthOf_any (p d : Int) (a : Option Addr) (k c : Nat) (ra : Option Addr) (rc : Nat) (m : List (List Int)) (w : World) (hm : RdS w ra m) (h0 : 0 < m.length) :
    Calls Tryz.prog 39 #[.agg #[.int .i64 p, .int .i64 d, .slice a k c, .slice ra m.length rc]] w fun e w' => e = .returned (.int .i64 ((nthL m 0).length : Nat)) ∧ Below w.heap.size w w' := by
 obtain ⟨gb, ob, rfl, hgb, hcc⟩ := hm.at_ h0
 obtain ⟨ai, ci, h1, _⟩ := hcc 0 h0
 rw [Nat.add_zero] at h1
 obtain ⟨N, hN⟩ : ∃ N, N = (nthL m 0).length := ⟨_, rfl⟩
 rw [← hN] at h1 ⊢
 obtain ⟨W0, hHW⟩ : ∃ z, z = w.alloc (.cells #[.int .i64 p, .int .i64 d, .slice a k c, .slice (some ⟨gb, ob, none⟩) m.length rc] 36) := ⟨_, rfl⟩
 have b0 : Below w.heap.size w W0 := by rw [hHW]; exact (Below.refl _ _).alloc (Nat.le_refl _) _
 have k0 : Blk W0 w.heap.size 36 #[.int .i64 p, .int .i64 d, .slice a k c, .slice (some ⟨gb, ob, none⟩) m.length rc] := by rw [hHW]; exact Blk.new _ _ _ rfl
 have h1 := (b0.cell (p := ⟨gb, ob, none⟩) hgb).trans h1
 have f3 := k0.cell 3
 have HW := Lib.hid hHW
 clear hHW hN hcc hm
 go_enter Tryz.func39, Tryz.ntmps39
 go_upto_region 1 with fail
 rw [← HW.out]
 go_wp2_with fail
 refine (size_any _ _ _ _).mono ?_
 rintro e w1 ⟨rfl, rfl⟩
 go_wp2
 go_ret
 exact ⟨rfl, b0⟩
def wts (F : FD) (n : Nat) (m : List (List Int)) : List Int := cntW (wordsTo F n m m.length) n (wordsTo F n m m.length).length
theorem wordsTo_el {F : FD} (ok : F.Ok) (n : Nat) (m : List (List Int)) {k : Nat} (hk : k < (wordsTo F n m m.length).length) : (nthL (wordsTo F n m m.length) k).length = n ∧ wt (nthL (wordsTo F n m m.length) k) ≤ n ∧ ∀ x ∈ nthL (wordsTo F n m m.length) k, 0 ≤ x ∧ x < F.n := by
 rw [wordsTo_len] at hk
 rw [wordsTo_nth F n m hk]
 have h1 := encTo_len F n m (hig k F.n m.length) m.length
 have h2 := wtTo_le (encTo F n m (hig k F.n m.length) m.length) (encTo F n m (hig k F.n m.length) m.length).length
 refine ⟨h1, ?_, encTo_el ok _ _ _ _⟩
 rw [wt]
 omega
theorem l18Weights_any (g : Nat) (F : FD) (ra : Option Addr) (rc : Nat) (m : List (List Int)) (n : Nat) (w : World) (hF : PF w g F) (hc3 : w.cell? ⟨g, 3, none⟩ = some (.slice ra m.length rc)) (hm : RdS w ra m) (hC : GC F n m) :
    Calls Tryz.prog 36 #[.pointer (some ⟨g, 0, none⟩)] w fun e w' => ∃ v, e = .returned v ∧ Own w' w.heap.size v (wts F n m) ∧ Below w.heap.size w w' := by
 have hm1 := hC.m1
 have hn32 := hC.n32
 have hml := hm.len
 have ok := hC.good.ok
 obtain ⟨_, hQ⟩ := hC.cap_eq
 rw [← wordsTo_len F n m m.length] at hQ
 have hglt : g < w.heap.size := World.block_lt_of_cell? w _ hc3
 obtain ⟨gb, ob, rfl, hgb, hcc⟩ := hm.at_ hm1
 obtain ⟨ai0, ci0, h00, _⟩ := hcc 0 hm1
 rw [Nat.add_zero, hC.hn] at h00
 have hWO := fun W (h : Below w.heap.size w W) => l18Words_any g F (some ⟨gb, ob, none⟩) rc m n W (hF.below h) ((h.cell (p := ⟨g, 3, none⟩) hglt).trans hc3) (hm.below h) hC
 have hel := fun k hk => wordsTo_el ok n m (k := k) hk
 have hwt : wts F n m = cntW (wordsTo F n m m.length) n (wordsTo F n m m.length).length := rfl
 obtain ⟨wds, hwds⟩ : ∃ wds, wds = wordsTo F n m m.length := ⟨_, rfl⟩
 rw [← hwds] at hWO hel hwt hQ
 have hmk := fun W => run_make_row' (P := Tryz.prog) 28 2 (.int .i64 0) 8 Tryz.underlying28 Tryz.info_i64 rfl .i64 .i64 (n + 1) (by omega) (by omega) W
 have hcast : ((n + 1 : Nat) : Int) = (n : Int) + 1 := by omega
 rw [hcast] at hmk
 have HWO := hide hWO
 have HEL := hide hel
 have HWT := Lib.hid hwt
 clear hWO hel hwt hwds hm hcc hF
 go_enter Tryz.func36, Tryz.ntmps36
 go_upto_region 2 with fail
 obtain ⟨W2, hW2⟩ : ∃ z, z = w.alloc (.cells (madeCells #[.int .i64 0] (n + 1)) 2) := ⟨_, rfl⟩
 have oz : Own W2 w.heap.size (.slice (some ⟨w.heap.size, 0, none⟩) (n + 1) (n + 1)) (zeros (n + 1)) := by rw [hW2]; exact Own.zeros w (Nat.le_refl _) (by omega)
 have bz : Below w.heap.size w W2 := by rw [hW2]; exact (Below.refl _ _).alloc (Nat.le_refl _) _
 rw [← hW2]
 clear hW2
 have OZ := Lib.hid oz
 have g12 := bz.size
 have g13 : w.heap.size < W2.heap.size := World.block_lt_of_cell? W2 _ (oz.cell (j := 0) (by rw [zeros_len]; omega))
 clear oz hmk
 go_wp2_with fail
 refine (unhide HWO W2 bz).mono ?_
 rintro e w3 ⟨v3, rfl, o3, b3⟩
 obtain ⟨av, cv, rfl, _⟩ := o3.form
 have OZ3 := Lib.hid (OZ.out.below b3 (Nat.le_refl _))
 have OH := Lib.hid o3.toH
 have bw3 := bz.trans (b3.mono bz.size)
 have z3 := b3.size
 clear o3 OZ
 go_wp2_with fail
 go_loopw [5] (fun iv wr => ∃ k : Nat, iv = .int .i64 k ∧ k ≤ wds.length ∧ Hid (Own wr w.heap.size (.slice (some ⟨w.heap.size, 0, none⟩) (n + 1) (n + 1)) (cntW wds n k)) ∧ Hid (w3.grownBy wr (some w.heap.size))) (fun iv _ => wds.length - (intOf iv).toNat)
 case atStart => exact ⟨0, rfl, Nat.zero_le _, OZ3.out, grown_refl _ _⟩
 case round =>
  obtain ⟨k, rfl, hk, ho, hg⟩ := hrel
  by_cases hkl : k < wds.length
  · have rw0 := (OH.out.kp ((Kp.refl w3 _ _).grown hg.out (fun q hq => by injection hq; omega) (Nat.le_refl _))).rd
    obtain ⟨gw, ow, rfl, _, hcw⟩ := rw0.at_ (by omega)
    obtain ⟨aw, cw, h1, hr⟩ := hcw k hkl
    have hel := unhide HEL k hkl
    have hst : cntW wds n (k + 1) = (cntW wds n k).set (wt (nthL wds k)) (nth (cntW wds n k) (wt (nthL wds k)) + 1) := rfl
    obtain ⟨wd, hwd⟩ : ∃ wd, wd = nthL wds k := ⟨_, rfl⟩
    rw [← hwd] at h1 hr hel hst
    have hwo := l18Weight_any aw cw wd wr hr
    obtain ⟨t, ht⟩ : ∃ t, t = wt wd := ⟨_, rfl⟩
    rw [← ht] at hwo hel hst
    have htn := hel.2.1
    have hcl := cntW_len wds n k
    have cc := ho.out.cell (j := t) (by omega)
    have cf := ho.out.frozen t
    have hbd := cntW_bd wds n k t
    obtain ⟨x, hx⟩ : ∃ x, x = nth (cntW wds n k) t := ⟨_, rfl⟩
    rw [← hx] at cc hbd hst
    have HWE := hide hwo
    have HST := Lib.hid hst
    have hk2 : k ≤ 4096 := by omega
    clear hwo hst hx ht hwd hel hcl hcw hr rw0
    go_wp2_with fail
    refine (unhide HWE).mono ?_
    rintro e w4 ⟨rfl, rfl⟩
    go_wp2
    go_roundw
    case rel =>
     have hs := ho.out.set t (x + 1)
     refine ⟨k + 1, by go_num, by omega, ?_, hide (grown_trans_row hg.out hs.2)⟩
     show Own _ _ _ _
     rw [HST.out]
     exact hs.1
    case measure => simp only [intOf]; omega
  · have hke : k = wds.length := by omega
    have HE := Lib.hid hke
    clear hke
    go_wp2
    go_ret
    refine ⟨_, rfl, ?_, ?_⟩
    · have o := ho.out
      rw [HE.out, ← HWT.out] at o
      exact o.mono (by omega)
    · exact bw3.grown hg.out bw3.size (fun q hq => by injection hq; omega)
end Go.Proofs.YtkiljcbejmiioaaGreat
namespace Go.Proofs.YtkiljcbejmiioaaGreat
open Go.RowKit
attribute [local go_sem ↓] Go.wp_at_zero Go.wp_at_succ
def ResLL (w : World) (r : List (List Int)) (e : Ending) (w' : World) : Prop := ∃ v, e = .returned v ∧ OwnS w' w.heap.size v r ∧ Below w.heap.size w w'
noncomputable def woRes (p d : Int) (xs : List Int) (m : List (List Int)) : List (List Int) := if okC p d xs m = true then wordsTo (fdR p d xs) (nthL m 0).length m m.length else []
theorem specWO_any (p d : Int) (a : Option Addr) (c : Nat) (xs : List Int) (ra : Option Addr) (rc : Nat) (m : List (List Int)) (w : World) (hx : Rd w a xs) (hm : RdS w ra m) : Calls Tryz.prog 16 #[.agg #[.int .i64 p, .int .i64 d, .slice a xs.length c, .slice ra m.length rc]] w (ResLL w (woRes p d xs m)) := by
 have hml := hm.len
 generalize hR : woRes p d xs m = r
 obtain ⟨W0, hHW⟩ : ∃ z, z = w.alloc (.cells #[.int .i64 p, .int .i64 d, .slice a xs.length c, .slice ra m.length rc] 36) := ⟨_, rfl⟩
 have b0 : Below w.heap.size w W0 := by rw [hHW]; exact (Below.refl _ _).alloc (Nat.le_refl _) _
 have k0 : Blk W0 w.heap.size 36 #[.int .i64 p, .int .i64 d, .slice a xs.length c, .slice ra m.length rc] := by rw [hHW]; exact Blk.new _ _ _ rfl
 have sk0 : w.heap.size < W0.heap.size := k0.lt
 have HW := Lib.hid hHW
 clear hHW
 have hC0 : PC W0 w.heap.size p d a c xs ra rc m := ⟨⟨k0.cell 0, k0.cell 1, k0.cell 2, hx.below b0⟩, k0.cell 3, hm.below b0⟩
 have hV := l18Ok_any w.heap.size p d a c xs ra rc m W0 hC0
 cases hk : okC p d xs m with
 | false =>
  have HN := Lib.hid (show r = [] by rw [← hR, woRes, hk]; rfl)
  rw [hk] at hV
  have HV := hide hV
  clear hV hk hR hC0
  have f0 := k0.cell 0
  have f1 := k0.cell 1
  have f2 := k0.cell 2
  have f3 := k0.cell 3
  go_enter Tryz.func16, Tryz.ntmps16
  go_upto_region 1 with fail
  rw [← HW.out]
  go_wp2_with fail
  refine (unhide HV).mono ?_
  rintro e w1 ⟨rfl, b1⟩
  have k1 := k0.below b1 k0.lt
  clear f0 f1 f2 f3
  have f0 := k1.cell 0
  have f1 := k1.cell 1
  have f2 := k1.cell 2
  have f3 := k1.cell 3
  have bb1 := b0.trans (b1.mono (Nat.le_of_lt sk0))
  go_wp2
  go_ret
  exact ⟨_, rfl, by rw [HN.out]; exact OwnS.nil _ _, bb1⟩
 | true =>
  obtain ⟨F, n, rfl, rfl, rfl, hC⟩ := okC_gc hk
  have ok := hC.good.ok
  obtain ⟨n2, n64⟩ := ok.n_bd
  have hm1 := hC.m1
  have hm0 : 0 < m.length := by omega
  have hm8 := hC.m8
  have hn1 := hC.n1
  have hn32 := hC.n32
  rw [hk] at hV
  have HV := hide hV
  have hRR : r = wordsTo F n m m.length := by rw [← hR, woRes, hk, fdR_eq, hC.hn]; rfl
  clear hV hk hR
  have hW := fun W (h : Below W0.heap.size W0 W) => l18Words_any w.heap.size F ra rc m n W (hC0.below h).1.pf (hC0.below h).2.1 (hC0.below h).2.2 hC
  have HWW := hide hW
  have HRR := Lib.hid hRR
  clear hW hRR hC0 hC
  have f0 := k0.cell 0
  have f1 := k0.cell 1
  have f2 := k0.cell 2
  have f3 := k0.cell 3
  go_enter Tryz.func16, Tryz.ntmps16
  go_upto_region 1 with fail
  rw [← HW.out]
  go_wp2_with fail
  refine (unhide HV).mono ?_
  rintro e w1 ⟨rfl, b1⟩
  have k1 := k0.below b1 k0.lt
  clear f0 f1 f2 f3
  have f0 := k1.cell 0
  have f1 := k1.cell 1
  have f2 := k1.cell 2
  have f3 := k1.cell 3
  have bb1 := b0.trans (b1.mono (Nat.le_of_lt sk0))
  go_wp2_with fail
  refine (unhide HWW w1 b1).mono ?_
  rintro e w2 ⟨v, rfl, o2, b2⟩
  go_wp2
  go_ret
  exact ⟨_, rfl, by rw [HRR.out]; exact o2.mono bb1.size, bb1.trans (b2.mono bb1.size)⟩
end Go.Proofs.YtkiljcbejmiioaaGreat
namespace Go.Proofs.YtkiljcbejmiioaaGreat
open Go.RowKit
attribute [local go_sem ↓] Go.wp_at_zero Go.wp_at_succ
def distC (F : FD) (n : Nat) (m : List (List Int)) : Nat := leastD (wts F n m)
noncomputable def distRes (p d : Int) (xs : List Int) (m : List (List Int)) : Int × Int := if okC p d xs m = true then ((distC (fdR p d xs) (nthL m 0).length m : Int), 0) else (0, 1)
def ResI (w : World) (r : Int × Int) (e : Ending) (w' : World) : Prop := e = .returned (.tuple #[.int .i64 r.1, .int .i64 r.2]) ∧ Below w.heap.size w w'
theorem wts_len (F : FD) (n : Nat) (m : List (List Int)) : (wts F n m).length = n + 1 := cntW_len _ _ _
theorem GC.some_wt {F : FD} {n : Nat} {m : List (List Int)} (h : GC F n m) : ∃ d : Nat, 1 ≤ d ∧ d ≤ n ∧ nth (wts F n m) d ≠ 0 := by
 obtain ⟨j, h1, h2, h3⟩ := h.some_word
 refine ⟨_, h2, h3, ?_⟩
 have := cntW_pos (words := wordsTo F n m m.length) (n := n) (k := (wordsTo F n m m.length).length) (j := j) (by rw [wordsTo_len]; exact h1) h3
 rw [wts]
 omega
theorem specDI_any (p d : Int) (a : Option Addr) (c : Nat) (xs : List Int) (ra : Option Addr) (rc : Nat) (m : List (List Int)) (w : World) (hx : Rd w a xs) (hm : RdS w ra m) : Calls Tryz.prog 11 #[.agg #[.int .i64 p, .int .i64 d, .slice a xs.length c, .slice ra m.length rc]] w (ResI w (distRes p d xs m)) := by
 have hml := hm.len
 generalize hR : distRes p d xs m = r
 obtain ⟨W0, hHW⟩ : ∃ z, z = w.alloc (.cells #[.int .i64 p, .int .i64 d, .slice a xs.length c, .slice ra m.length rc] 36) := ⟨_, rfl⟩
 have b0 : Below w.heap.size w W0 := by rw [hHW]; exact (Below.refl _ _).alloc (Nat.le_refl _) _
 have k0 : Blk W0 w.heap.size 36 #[.int .i64 p, .int .i64 d, .slice a xs.length c, .slice ra m.length rc] := by rw [hHW]; exact Blk.new _ _ _ rfl
 have sk0 : w.heap.size < W0.heap.size := k0.lt
 have HW := Lib.hid hHW
 clear hHW
 have hC0 : PC W0 w.heap.size p d a c xs ra rc m := ⟨⟨k0.cell 0, k0.cell 1, k0.cell 2, hx.below b0⟩, k0.cell 3, hm.below b0⟩
 have hV := l18Ok_any w.heap.size p d a c xs ra rc m W0 hC0
 cases hk : okC p d xs m with
 | false =>
  have HN := Lib.hid (show r = (0, 1) by rw [← hR, distRes, hk]; rfl)
  rw [hk] at hV
  have HV := hide hV
  clear hV hk hR hC0
  have f0 := k0.cell 0
  have f1 := k0.cell 1
  have f2 := k0.cell 2
  have f3 := k0.cell 3
  go_enter Tryz.func11, Tryz.ntmps11
  go_upto_region 1 with fail
  rw [← HW.out]
  go_wp2_with fail
  refine (unhide HV).mono ?_
  rintro e w1 ⟨rfl, b1⟩
  have k1 := k0.below b1 k0.lt
  clear f0 f1 f2 f3
  have f0 := k1.cell 0
  have f1 := k1.cell 1
  have f2 := k1.cell 2
  have f3 := k1.cell 3
  have bb1 := b0.trans (b1.mono (Nat.le_of_lt sk0))
  go_wp2
  go_ret2
  rw [HN.out]
  exact ⟨rfl, bb1⟩
 | true =>
  obtain ⟨F, n, rfl, rfl, rfl, hC⟩ := okC_gc hk
  have ok := hC.good.ok
  obtain ⟨n2, n64⟩ := ok.n_bd
  have hm1 := hC.m1
  have hm0 : 0 < m.length := by omega
  have hm8 := hC.m8
  have hn1 := hC.n1
  have hn32 := hC.n32
  rw [hk] at hV
  have HV := hide hV
  have hRR : r = ((distC F n m : Int), 0) := by rw [← hR, distRes, hk, fdR_eq, hC.hn]; rfl
  clear hV hk hR
  have hW := fun W (h : Below W0.heap.size W0 W) => l18Weights_any w.heap.size F ra rc m n W (hC0.below h).1.pf (hC0.below h).2.1 (hC0.below h).2.2 hC
  clear hC0
  obtain ⟨d0, hd1, hd2, hd3⟩ := hC.some_wt
  have hwl := wts_len F n m
  have hdc : distC F n m = leastD (wts F n m) := rfl
  obtain ⟨cs, hcs⟩ : ∃ cs, cs = wts F n m := ⟨_, rfl⟩
  rw [← hcs] at hW hd3 hwl hdc
  rw [hdc] at hRR
  have HWW := hide hW
  have HRR := Lib.hid hRR
  have HD3 := hide hd3
  have HWL := Lib.hid hwl
  clear hW hRR hC hcs hd3 hwl hdc
  have f0 := k0.cell 0
  have f1 := k0.cell 1
  have f2 := k0.cell 2
  have f3 := k0.cell 3
  go_enter Tryz.func11, Tryz.ntmps11
  go_upto_region 1 with fail
  rw [← HW.out]
  go_wp2_with fail
  refine (unhide HV).mono ?_
  rintro e w1 ⟨rfl, b1⟩
  have k1 := k0.below b1 k0.lt
  clear f0 f1 f2 f3
  have f0 := k1.cell 0
  have f1 := k1.cell 1
  have f2 := k1.cell 2
  have f3 := k1.cell 3
  have bb1 := b0.trans (b1.mono (Nat.le_of_lt sk0))
  go_wp2_with fail
  refine (unhide HWW w1 b1).mono ?_
  rintro e w2 ⟨v, rfl, o2, b2⟩
  obtain ⟨av, cv, rfl, r2, _⟩ := o2.form
  have bb2 := bb1.trans (b2.mono bb1.size)
  have R2 := hide r2
  have hcl : cs.length ≤ 33 := by rw [HWL.out]; omega
  clear o2 r2
  go_wp2_with fail
  go_loopw [5] (fun dv wr => ∃ d1 : Nat, dv = .int .i64 d1 ∧ 1 ≤ d1 ∧ d1 ≤ d0 ∧ Hid (∀ j, 1 ≤ j → j < d1 → nth cs j = 0) ∧ w2 = wr) (fun dv _ => d0 - (intOf dv).toNat)
  case atStart => exact ⟨1, rfl, Nat.le_refl _, hd1, fun j h1 h2 => by omega, rfl⟩
  case round =>
   obtain ⟨d1, rfl, h1, h2, hz, rfl⟩ := hrel
   have hlt : d1 < cs.length := by rw [HWL.out]; omega
   obtain ⟨g1, o1, rfl, _, hc⟩ := (unhide R2).at_ (by omega)
   have hc1 := hc d1 hlt
   obtain ⟨u, hu⟩ : ∃ u, u = nth cs d1 := ⟨_, rfl⟩
   rw [← hu] at hc1
   have HU := Lib.hid hu
   clear hc hu
   by_cases hn : u = 0
   · have hbn : (u == 0) = true := by rw [hn]; rfl
     have HN := Lib.hid hn
     clear hn
     have hne : d1 ≠ d0 := fun e => unhide HD3 (by rw [← e, ← HU.out, HN.out])
     go_wp2
     go_roundw
     case rel =>
      refine ⟨d1 + 1, by go_num, by omega, by omega, fun j a1 a2 => ?_, trivial⟩
      by_cases e : j = d1
      · rw [e, ← HU.out, HN.out]
      · exact hz.out j a1 (by omega)
     case measure => simp only [intOf]; omega
   · have hbn : (u == 0) = false := by rw [beq_eq_false_iff_ne]; exact hn
     have HN := hide hn
     clear hn
     have hld : leastD cs = d1 := leastD_hit h1 hlt (by rw [← HU.out]; exact unhide HN) hz.out
     have HLD := Lib.hid hld
     clear hld
     go_wp2
     go_ret2
     rw [HRR.out]
     show ResI w ((leastD cs : Int), 0) _ _
     rw [HLD.out]
     exact ⟨rfl, bb2⟩
end Go.Proofs.YtkiljcbejmiioaaGreat
namespace Go.Proofs.YtkiljcbejmiioaaGreat
open Go.RowKit
attribute [local go_sem ↓] Go.wp_at_zero Go.wp_at_succ
theorem leastD_ok {cs : List Int} {d0 : Nat} (h1 : 1 ≤ d0) (h2 : d0 < cs.length) (h3 : nth cs d0 ≠ 0) : 1 ≤ leastD cs ∧ leastD cs ≤ d0 ∧ nth cs (leastD cs) ≠ 0 ∧ ∀ j, 1 ≤ j → j < leastD cs → nth cs j = 0 := by
 cases h : (List.range cs.length).find? (fun d => decide (1 ≤ d) && (nth cs d != 0)) with
 | none =>
  rw [List.find?_eq_none] at h
  have := h d0 (List.mem_range.2 h2)
  simp [h1, h3] at this
 | some d =>
  have e : leastD cs = d := by rw [leastD, h]; rfl
  rw [List.find?_range_eq_some] at h
  obtain ⟨a, b, c⟩ := h
  simp only [Bool.and_eq_true, decide_eq_true_eq, bne_iff_ne] at a
  have hz : ∀ j, 1 ≤ j → j < d → nth cs j = 0 := fun j j1 j2 => by
   have := c j j2
   simp only [Bool.not_eq_true', Bool.and_eq_false_iff, decide_eq_false_iff_not, bne_eq_false_iff_eq] at this
   rcases this with h | h
   · exact absurd j1 h
   · exact h
  rw [e]
  refine ⟨a.1, ?_, a.2, hz⟩
  rcases Nat.lt_or_ge d0 d with hh | hh
  · exact absurd (hz d0 h1 hh) h3
  · exact hh
theorem GC.dist {F : FD} {n : Nat} {m : List (List Int)} (h : GC F n m) : 1 ≤ distC F n m ∧ distC F n m ≤ n := by
 obtain ⟨d0, h1, h2, h3⟩ := h.some_wt
 have := leastD_ok h1 (by rw [wts_len]; omega) h3
 exact ⟨this.1, by have := this.2.1; rw [distC]; omega⟩
end Go.Proofs.YtkiljcbejmiioaaGreat
namespace Go.Proofs.YtkiljcbejmiioaaGreat
open Go.RowKit
attribute [local go_sem ↓] Go.wp_at_zero Go.wp_at_succ
def hasV (F : FD) (n : Nat) (m : List (List Int)) (v : List Int) : Bool := if v.length = n ∧ elems F.n v = true then decide ((form F (m ++ [v]) n).length = m.length) else false
def hasRes (p d : Int) (xs : List Int) (m : List (List Int)) (v : List Int) : Bool := okC p d xs m && hasV (fdR p d xs) (nthL m 0).length m v
end Go.Proofs.YtkiljcbejmiioaaGreat
namespace Go.Proofs.YtkiljcbejmiioaaGreat
open Go.RowKit
section
variable {F : FD} {n : Nat} {m : List (List Int)}
def wf (v : Nat → Int) (k : Nat) : Nat := (List.range k).countP fun i => v i != 0
theorem GC.ech (h : GC F n m) : ∃ pv, Ech F n m pv := by
 obtain ⟨pv, _, hE, _⟩ := form_ech h.good h.mat
 rw [h.fix] at hE
 exact ⟨pv, hE⟩
theorem encTo_sp (ok : F.Ok) {A : List (List Int)} (hM : F.Mat n A) {msg : List Int} (hm : ∀ c ∈ msg, 0 ≤ c ∧ c < F.n) {k : Nat} (hk : k ≤ A.length) : Sp F A (nth (encTo F n A msg k)) := by
 induction k with
 | zero =>
  rw [encTo, show nth (zeros n) = fun _ => 0 from by funext i; exact zeros_nth n i]
  exact .zero
 | succ k ih =>
  have hc : F.el (nth msg k) := by
   rcases Nat.lt_or_ge k msg.length with hh | hh
   · exact (el_n ok).2 (hm _ (nth_mem hh))
   · rw [nth_big hh]; exact zero_el ok
  have h := (ih (by omega)).step (j := k) (by omega) hc
  have e : (fun i => F.add (nth (encTo F n A msg k) i) (F.mul (nth msg k) (nth (nthL A k) i))) = nth (encTo F n A msg (k + 1)) := by
   funext i
   rcases Nat.lt_or_ge i n with hi | hi
   · rw [encTo, addTo_nth F _ _ _ _ (by rw [encTo_len]; exact Nat.le_refl _), if_pos hi]
   · rw [nth_big (xs := encTo F n A msg (k + 1)) (by rw [encTo_len]; exact hi), nth_big (xs := encTo F n A msg k) (by rw [encTo_len]; exact hi), nth_big (xs := nthL A k) (by rw [(Mat_nth hM (i := k) (by omega)).1]; exact hi), mul_zero_all ok, add_zero' ok (zero_el ok)]
  rw [e] at h
  exact h
theorem Ech.enc (ok : F.Ok) {pv : List Nat} (hE : Ech F n m pv) {v : List Int} (hl : v.length = n) (hs : Sp F m (nth v)) : v = encTo F n m (pv.map (nth v)) m.length := by
 refine eq_of_nth (by rw [encTo_len, hl]) fun i hi => ?_
 rw [hl] at hi
 rw [encTo_sum ok n m _ _ hi, hE.coord ok hs i]
 refine sum_congr fun j hj => ?_
 have hj' : j < pv.length := by rw [hE.len]; exact hj
 rw [nth_lt (xs := pv.map (nth v)) (by rw [List.length_map]; exact hj'), List.getElem_map, List.getD_eq_getElem?_getD, List.getElem?_eq_getElem hj']
 rfl
theorem hig_all (ok : F.Ok) {k : Nat} {msg : List Int} (hl : msg.length = k) (he : ∀ c ∈ msg, 0 ≤ c ∧ c < F.n) : ∃ t, t < F.n ^ k ∧ hig t F.n k = msg := by
 have hn : (0 : Int) < F.n := by have := ok.n_bd; omega
 have hr : ∀ c ∈ msg.reverse, 0 ≤ c ∧ c < F.n := fun c hc => he c (List.mem_reverse.1 hc)
 have h := num_bound hn hr
 rw [List.length_reverse, hl] at h
 obtain ⟨t, ht⟩ := Int.eq_ofNat_of_zero_le h.1
 refine ⟨t, ?_, ?_⟩
 · have h2 := h.2
   rw [ht, ← Int.natCast_pow] at h2
   exact Int.ofNat_lt.1 h2
 · rw [hig, ← ht, dig_num hn hr (by rw [List.length_reverse, hl]), List.reverse_reverse]
theorem GC.word_sp (h : GC F n m) {j : Nat} (hj : j < F.n ^ m.length) : (nthL (wordsTo F n m m.length) j).length = n ∧ (∀ x ∈ nthL (wordsTo F n m m.length) j, 0 ≤ x ∧ x < F.n) ∧ Sp F m (nth (nthL (wordsTo F n m m.length) j)) := by
 have ok := h.good.ok
 obtain ⟨n2, _⟩ := ok.n_bd
 rw [wordsTo_nth F n m hj]
 exact ⟨encTo_len _ _ _ _ _, encTo_el ok _ _ _ _, encTo_sp ok h.mat (hig_el j (by omega) _) (Nat.le_refl _)⟩
theorem GC.sp_word (h : GC F n m) {v : List Int} (hl : v.length = n) (hs : Sp F m (nth v)) : ∃ j, j < F.n ^ m.length ∧ nthL (wordsTo F n m m.length) j = v := by
 have ok := h.good.ok
 obtain ⟨pv, hE⟩ := h.ech
 have he := hE.enc ok hl hs
 obtain ⟨t, ht, e⟩ := hig_all ok (k := m.length) (msg := pv.map (nth v)) (by rw [List.length_map, hE.len]) fun c hc => by
  obtain ⟨i, _, rfl⟩ := List.mem_map.1 hc
  exact (el_n ok).1 (hs.el ok i)
 exact ⟨t, ht, by rw [wordsTo_nth F n m ht, e, ← he]⟩
theorem cntW_count (words : List (List Int)) {n d : Nat} (hd : d ≤ n) (k : Nat) : nth (cntW words n k) d = (((List.range k).countP fun j => wt (nthL words j) == d : Nat) : Int) := by
 induction k with
 | zero => rw [cntW, zeros_nth]; rfl
 | succ k ih =>
  rw [cntW, List.range_succ, List.countP_append]
  by_cases e : wt (nthL words k) = d
  · rw [e, nth_set_same (by rw [cntW_len]; omega), ih]
    simp [e]
  · rw [nth_set_ne e, ih]
    simp [e]
theorem GC.wts_count (_h : GC F n m) {d : Nat} (hd : d ≤ n) : nth (wts F n m) d = (((List.range (F.n ^ m.length)).countP fun j => wt (nthL (wordsTo F n m m.length) j) == d : Nat) : Int) := by
 rw [wts, cntW_count _ hd, wordsTo_len]
theorem GC.dist_spec (h : GC F n m) : (∃ v, v.length = n ∧ Sp F m (nth v) ∧ wt v = distC F n m) ∧ ∀ v, v.length = n → Sp F m (nth v) → 1 ≤ wt v → distC F n m ≤ wt v := by
 have ok := h.good.ok
 obtain ⟨d0, h1, h2, h3⟩ := h.some_wt
 have hl := leastD_ok h1 (by rw [wts_len]; omega) h3
 rw [← show distC F n m = leastD (wts F n m) from rfl] at hl
 constructor
 · have h4 := hl.2.2.1
   rw [h.wts_count (by omega)] at h4
   have h5 : 0 < (List.range (F.n ^ m.length)).countP fun j => wt (nthL (wordsTo F n m m.length) j) == distC F n m := by omega
   obtain ⟨j, hj, hw⟩ := List.countP_pos_iff.1 h5
   have hj' := List.mem_range.1 hj
   have hs := h.word_sp hj'
   exact ⟨_, hs.1, hs.2.2, by simpa using hw⟩
 · intro v hv hs hw
   obtain ⟨j, hj, e⟩ := h.sp_word hv hs
   have hle : wt v ≤ n := by rw [wt, hv]; exact wtTo_le _ _
   rcases Nat.lt_or_ge (wt v) (distC F n m) with hlt | hge
   · have h4 := hl.2.2.2 (wt v) hw hlt
     rw [h.wts_count hle] at h4
     have h5 : 0 < (List.range (F.n ^ m.length)).countP fun j => wt (nthL (wordsTo F n m m.length) j) == wt v := List.countP_pos_iff.2 ⟨j, List.mem_range.2 hj, by rw [e]; simp⟩
     omega
   · exact hge
theorem hasV_iff (h : GC F n m) {v : List Int} : hasV F n m v = true ↔ v.length = n ∧ (∀ x ∈ v, 0 ≤ x ∧ x < F.n) ∧ Sp F m (nth v) := by
 rw [hasV]
 by_cases e : v.length = n ∧ elems F.n v = true
 · have hv : v.length = n ∧ ∀ x ∈ v, 0 ≤ x ∧ x < F.n := ⟨e.1, fun x hx => elems_true.1 e.2 x hx⟩
   have hr := rank_iff h.good h.mat hv
   rw [h.fix] at hr
   rw [if_pos e, decide_eq_true_eq, hr]
   exact ⟨fun h => ⟨hv.1, hv.2, h⟩, fun h => h.2.2⟩
 · rw [if_neg e]
   refine ⟨fun h => by simp at h, fun h => absurd ⟨h.1, elems_true.2 h.2.1⟩ e⟩
end
end Go.Proofs.YtkiljcbejmiioaaGreat
