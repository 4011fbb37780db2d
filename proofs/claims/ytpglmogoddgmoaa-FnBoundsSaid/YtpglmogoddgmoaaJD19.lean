/-
  Texts joined.
-/
import Derived.Test.YtpglmogoddgmoaaJD1
import Derived.Test.YtpglmogoddgmoaaJD4
import Derived.Test.YtpglmogoddgmoaaJD6
import Derived.Test.YtpglmogoddgmoaaJD7
import Derived.Test.YtpglmogoddgmoaaJD9
import Derived.Test.YtpglmogoddgmoaaJD14
import Derived.Test.YtpglmogoddgmoaaJD16
import Derived.Test.YtpglmogoddgmoaaJD17
import Derived.Test.YtpglmogoddgmoaaJD18
set_option linter.unusedVariables false
set_option linter.unusedSimpArgs false
set_option maxRecDepth 100000
set_option maxHeartbeats 40000000
namespace Go.Proofs.Ytpglmogoddgmoaa
open Go.RowKit
attribute [local go_sem ↓] Go.wp_at_zero Go.wp_at_succ
def fdR (p d : Int) (xs : List Int) : FD := ⟨p, d.toNat, xs⟩
theorem fdR_eq (F : FD) : fdR F.p F.k F.poly = F := by cases F; simp [fdR]
end Go.Proofs.Ytpglmogoddgmoaa
namespace Go.Proofs.Ytpglmogoddgmoaa
open Go.RowKit
attribute [local go_sem ↓] Go.wp_at_zero Go.wp_at_succ
def okC (p d : Int) (xs : List Int) (m : List (List Int)) : Bool :=
 okM p d xs m && (decide (m.length ≤ 8) && (decide (capTo (fdR p d xs).n 4096 m.length ≤ 4096) && decide (form (fdR p d xs) m (nthL m 0).length = m)))
structure GC (F : FD) (n : Nat) (m : List (List Int)) : Prop where
 good : F.Good
 m1 : 1 ≤ m.length
 m8 : m.length ≤ 8
 n1 : 1 ≤ n
 n32 : n ≤ 32
 hn : (nthL m 0).length = n
 mat : F.Mat n m
 cap : capTo F.n 4096 m.length ≤ 4096
 fix : form F m n = m
theorem okC_gc {p d : Int} {xs : List Int} {m : List (List Int)} (h : okC p d xs m = true) : ∃ F n, p = F.p ∧ d = (F.k : Int) ∧ xs = F.poly ∧ GC F n m := by
 rw [okC, Bool.and_eq_true, Bool.and_eq_true, Bool.and_eq_true, decide_eq_true_eq, decide_eq_true_eq, decide_eq_true_eq] at h
 obtain ⟨a, b, c, d⟩ := h
 obtain ⟨F, hG, rfl, rfl, rfl, m1, _, n1, n32, hM⟩ := okM_true a
 rw [fdR_eq] at c d
 exact ⟨F, _, rfl, rfl, rfl, hG, m1, b, n1, n32, rfl, hM, c, d⟩
def PC (w : World) (g : Nat) (p d : Int) (a : Option Addr) (c : Nat) (xs : List Int) (ra : Option Addr) (rc : Nat) (m : List (List Int)) : Prop :=
 PR w g p d a c xs ∧ w.cell? ⟨g, 3, none⟩ = some (.slice ra m.length rc) ∧ RdS w ra m
section
variable {w w' : World} {g : Nat} {p d : Int} {a : Option Addr} {c : Nat} {xs : List Int} {ra : Option Addr} {rc : Nat} {m : List (List Int)}
theorem PC.below (h : PC w g p d a c xs ra rc m) (hb : Below w.heap.size w w') : PC w' g p d a c xs ra rc m :=
 ⟨h.1.below hb, (hb.cell (p := ⟨g, 3, none⟩) h.1.lt).trans h.2.1, h.2.2.below hb⟩
theorem PC.row0 (h : PC w g p d a c xs ra rc m) (h0 : 0 < m.length) : ∃ gb ob ai ci, ra = some ⟨gb, ob, none⟩ ∧ w.cell? ⟨gb, ob, none⟩ = some (.slice ai (nthL m 0).length ci) ∧ gb < w.heap.size := by
 obtain ⟨gb, ob, e, hb, hc⟩ := h.2.2.at_ h0
 obtain ⟨ai, ci, hc1, _⟩ := hc 0 h0
 exact ⟨gb, ob, ai, ci, e, hc1, hb⟩
end
theorem l18Ok_any (g : Nat) (p d : Int) (a : Option Addr) (c : Nat) (xs : List Int) (ra : Option Addr) (rc : Nat) (m : List (List Int)) (w : World) (hC : PC w g p d a c xs ra rc m) : Calls Try.prog 85 #[.pointer (some ⟨g, 0, none⟩)] w fun e w' => e = .returned (.bool (okC p d xs m)) ∧ Below w.heap.size w w' := by
 have hml := hC.2.2.len
 have hV := fun W (hW : Below w.heap.size w W) => l17Ok_any g p d a c xs ra rc m W (hC.below hW).1 (hC.below hW).2.2
 obtain ⟨k0, hk0⟩ : ∃ k0, k0 = okM p d xs m := ⟨_, rfl⟩
 rw [← hk0] at hV
 have HV := hide hV
 have HC := hide hC
 clear hV
 cases k0 with
 | false =>
  have HN := Lib.hid (show okC p d xs m = false by rw [okC, ← hk0]; rfl)
  have boxes : ∀ W, Below w.heap.size w W → (Below w.heap.size w W ∧ W.cell? ⟨g, 3, none⟩ = some (.slice ra m.length rc)) := fun W h => ⟨h, (hC.below h).2.1⟩
  have BX := hide boxes
  clear hk0 hC boxes
  go_enter Try.func85, Try.ntmps85
  go_upto_region 1 with fail
  refine wp_region_noPanic ?_
  refine wp_region_seq (S := (fun W => Below w.heap.size w W ∧ W.cell? ⟨g, 3, none⟩ = some (.slice ra m.length rc))) [true, true, true, true, true, true, true, false, true, true, true, true, true, true, true, true, true, true, true, true, true, true, true, true, true, true, true] (by kernel_rfl) (by kernel_rfl) (by kernel_rfl) rfl (fun _ _ _ _ _ h => h) ?_ (fun hHeld => ?_)
  · exact (unhide BX) _ (Below.refl _ _).drew
  simp only [List.toList_toArray]
  refine SeqH.take (v := ?hv1) (by rfl) ?hy1 ?hr1
  case hy1 =>
   intro w hSw
   try dsimp only at hSw
   go_simp
   try (with_reducible rfl)
  try simp only [Act.put, List.setIfInBounds_toArray, List.set_cons_zero, List.set_cons_succ]
  refine SeqH.take (v := ?hv2) (by rfl) ?hy2 ?hr2
  case hy2 =>
   intro w hSw
   try dsimp only at hSw
   go_simp
   try (with_reducible rfl)
  try simp only [Act.put, List.setIfInBounds_toArray, List.set_cons_zero, List.set_cons_succ]
  refine SeqH.take (v := ?hv3) (by rfl) ?hy3 ?hr3
  case hy3 =>
   intro w hSw
   try dsimp only at hSw
   go_simp
   try (with_reducible rfl)
  try simp only [Act.put, List.setIfInBounds_toArray, List.set_cons_zero, List.set_cons_succ]
  refine SeqH.take (v := ?hv4) (by rfl) ?hy4 ?hr4
  case hy4 =>
   intro w hSw
   try dsimp only at hSw
   go_simp
   try (with_reducible rfl)
  try simp only [Act.put, List.setIfInBounds_toArray, List.set_cons_zero, List.set_cons_succ]
  refine SeqH.take (v := ?hv5) (by rfl) ?hy5 ?hr5
  case hy5 =>
   intro w hSw
   try dsimp only at hSw
   go_simp
   try (with_reducible rfl)
  try simp only [Act.put, List.setIfInBounds_toArray, List.set_cons_zero, List.set_cons_succ]
  refine SeqH.take (v := ?hv6) (by rfl) ?hy6 ?hr6
  case hy6 =>
   intro w hSw
   try dsimp only at hSw
   go_simp
   try (with_reducible rfl)
  try simp only [Act.put, List.setIfInBounds_toArray, List.set_cons_zero, List.set_cons_succ]
  refine SeqH.take (v := ?hv7) (by rfl) ?hy7 ?hr7
  case hy7 =>
   intro w hSw
   try dsimp only at hSw
   go_simp
   try (with_reducible rfl)
  try simp only [Act.put, List.setIfInBounds_toArray, List.set_cons_zero, List.set_cons_succ]
  refine SeqH.call (fun K hK => ?_)
  go_simp
  refine (unhide HV _ (And.left hHeld)).mono ?_
  rintro e w1 ⟨rfl, b1⟩
  have hB1 := Below.chain (a := w) (And.left hHeld) b1
  go_wp2_with fail
  refine hK.out _ _ ?_ (fun hHeld => ?_)
  · exact (unhide BX) _ hB1
  clear hK K
  try simp only [Act.put, List.setIfInBounds_toArray, List.set_cons_zero, List.set_cons_succ]
  refine SeqH.take (v := ?hv8) (by rfl) ?hy8 ?hr8
  case hy8 =>
   intro w hSw
   try dsimp only at hSw
   go_simp
   try (with_reducible rfl)
  try simp only [Act.put, List.setIfInBounds_toArray, List.set_cons_zero, List.set_cons_succ]
  refine SeqH.take (v := ?hv9) (by rfl) ?hy9 ?hr9
  case hy9 =>
   intro w hSw
   try dsimp only at hSw
   go_simp
   try (with_reducible rfl)
  try simp only [Act.put, List.setIfInBounds_toArray, List.set_cons_zero, List.set_cons_succ]
  refine SeqH.skip (by rfl) ?_
  try simp only [Act.put, List.setIfInBounds_toArray, List.set_cons_zero, List.set_cons_succ]
  refine SeqH.skip (by rfl) ?_
  try simp only [Act.put, List.setIfInBounds_toArray, List.set_cons_zero, List.set_cons_succ]
  refine SeqH.skip (by rfl) ?_
  try simp only [Act.put, List.setIfInBounds_toArray, List.set_cons_zero, List.set_cons_succ]
  refine SeqH.skip (by rfl) ?_
  try simp only [Act.put, List.setIfInBounds_toArray, List.set_cons_zero, List.set_cons_succ]
  refine SeqH.skip (by rfl) ?_
  try simp only [Act.put, List.setIfInBounds_toArray, List.set_cons_zero, List.set_cons_succ]
  refine SeqH.skip (by rfl) ?_
  try simp only [Act.put, List.setIfInBounds_toArray, List.set_cons_zero, List.set_cons_succ]
  refine SeqH.skip (by rfl) ?_
  try simp only [Act.put, List.setIfInBounds_toArray, List.set_cons_zero, List.set_cons_succ]
  refine SeqH.skip (by rfl) ?_
  try simp only [Act.put, List.setIfInBounds_toArray, List.set_cons_zero, List.set_cons_succ]
  refine SeqH.take (v := ?hv10) (by rfl) ?hy10 ?hr10
  case hy10 =>
   intro w hSw
   try dsimp only at hSw
   go_simp
   try (with_reducible rfl)
  try simp only [Act.put, List.setIfInBounds_toArray, List.set_cons_zero, List.set_cons_succ]
  refine SeqH.take (v := ?hv11) (by rfl) ?hy11 ?hr11
  case hy11 =>
   intro w hSw
   try dsimp only at hSw
   go_simp
   try (with_reducible rfl)
  try simp only [Act.put, List.setIfInBounds_toArray, List.set_cons_zero, List.set_cons_succ]
  refine SeqH.skip (by rfl) ?_
  try simp only [Act.put, List.setIfInBounds_toArray, List.set_cons_zero, List.set_cons_succ]
  refine SeqH.skip (by rfl) ?_
  try simp only [Act.put, List.setIfInBounds_toArray, List.set_cons_zero, List.set_cons_succ]
  refine SeqH.skip (by rfl) ?_
  try simp only [Act.put, List.setIfInBounds_toArray, List.set_cons_zero, List.set_cons_succ]
  refine SeqH.skip (by rfl) ?_
  try simp only [Act.put, List.setIfInBounds_toArray, List.set_cons_zero, List.set_cons_succ]
  refine SeqH.skip (by rfl) ?_
  try simp only [Act.put, List.setIfInBounds_toArray, List.set_cons_zero, List.set_cons_succ]
  refine SeqH.skip (by rfl) ?_
  try simp only [Act.put, List.setIfInBounds_toArray, List.set_cons_zero, List.set_cons_succ]
  refine SeqH.take (v := ?hv12) (by rfl) ?hy12 ?hr12
  case hy12 =>
   intro w hSw
   try dsimp only at hSw
   go_simp
   try (with_reducible rfl)
  try simp only [Act.put, List.setIfInBounds_toArray, List.set_cons_zero, List.set_cons_succ]
  refine SeqH.done (NoPanic.normal ?_)
  go_wp2
  go_ret
  exact ⟨ret_bool (by rw [HN.out]), hB1⟩
 | true =>
  obtain ⟨F, hG, rfl, rfl, rfl, hm1, hm32, hn1, hn32, hM⟩ := okM_true hk0.symm
  have ok := hG.ok
  obtain ⟨n2, n64⟩ := ok.n_bd
  have hO : okC F.p F.k F.poly m = (decide (m.length ≤ 8) && (decide (capTo F.n 4096 m.length ≤ 4096) && decide (form F m (nthL m 0).length = m))) := by rw [okC, ← hk0, fdR_eq]; rfl
  have HO := Lib.hid hO
  clear hO hk0
  obtain ⟨gb, ob, ai, ci, rfl, hr0, hgb⟩ := hC.row0 (by omega)
  obtain ⟨n, hn⟩ : ∃ n, n = (nthL m 0).length := ⟨_, rfl⟩
  rw [← hn] at hn1 hn32 hM hr0
  have HNN := Lib.hid hn
  have hn33 : decide ((32 : Int) < (n : Int)) = false := by rw [decide_eq_false_iff_not]; omega
  have boxes : ∀ W, Below w.heap.size w W → (Below w.heap.size w W ∧ W.cell? ⟨g, 3, none⟩ = some (.slice (some ⟨gb, ob, none⟩) m.length rc) ∧ W.cell? ⟨gb, ob, none⟩ = some (.slice ai n ci)) := fun W h => ⟨h, (hC.below h).2.1, (h.cell (p := ⟨gb, ob, none⟩) hgb).trans hr0⟩
  have BX := hide boxes
  have HM := hide hM
  clear hn boxes hr0 hM hC
  by_cases h8 : m.length ≤ 8
  ·
   have h8' : decide ((8 : Int) < (m.length : Int)) = false := by rw [decide_eq_false_iff_not]; omega
   have hm0 : 0 < m.length := by omega
   have hCn := fun W => l18Count_any F.n m.length W (by omega) (by omega) (by omega)
   rw [Int.toNat_natCast] at hCn
   have hS := fun W h => l03Size_qt g F W h ok
   have HS := hide hS
   clear hS
   by_cases hcap : capTo F.n 4096 m.length ≤ 4096
   ·
    have e : (cnt F.n m.length == 0) = false := by
     have := capTo_pos (b := (F.n : Int)) (l := 4096) (by omega) m.length
     rw [cnt, if_pos hcap, beq_eq_false_iff_ne]; omega
    obtain ⟨x, hx⟩ : ∃ x, x = cnt F.n m.length := ⟨_, rfl⟩
    rw [← hx] at hCn e
    have HCN := hide hCn
    have HCAP := hide hcap
    clear hCn hx hcap
    go_enter Try.func85, Try.ntmps85
    go_upto_region 1 with fail
    go_region_held3 (fun W => Below w.heap.size w W ∧ W.cell? ⟨g, 3, none⟩ = some (.slice (some ⟨gb, ob, none⟩) m.length rc) ∧ W.cell? ⟨gb, ob, none⟩ = some (.slice ai n ci))
     (first | exact (unhide BX) _ (Below.refl _ _) | exact (unhide BX) _ (Below.refl _ _).drew | exact (unhide BX) _ (by assumption))
     (first
      | (go_at_call 67; refine (unhide HV _ ?_).mono ?_; exact (And.left (by assumption)); rintro e w1 ⟨rfl, b1⟩; have hB1 := Below.chain (a := w) (And.left (by assumption)) b1))
    have C1 := (unhide HC).below hB1
    have hc3 := C1.2.1
    have HPF := hide C1.1.pf
    have HRM := hide C1.2.2
    clear C1
    go_upto_region 3 with fail
    go_quiet ((first | (go_at_call 115; exact Calls.quiet_of (unhide HS _ ((unhide HPF).below (Below.drewn _)))) | (go_at_call 153; exact Calls.quiet_of_same ((unhide HCN _).mono fun _ _ h => ⟨h.1, h.2.symm⟩))))
    obtain ⟨w2, hw2⟩ : ∃ z, z = w1.drewN nq := ⟨_, rfl⟩
    have b2 : Below w1.heap.size w1 w2 := by rw [hw2]; exact Below.drewn _
    rw [← hw2]
    clear hw2
    have hB2 := hB1.trans (b2.mono hB1.size)
    have C2 := (unhide HC).below hB2
    have hFm := fun W h1 h2 => l17Form_any g F (some ⟨gb, ob, none⟩) rc m n W h1 hG h2 (by omega) (unhide HM)
    have HFM := hide hFm
    have HP2 := hide C2.1.pf
    have HR2 := hide C2.2.2
    clear hFm hc3 HPF HRM C2
    obtain ⟨fm, hfm⟩ : ∃ fm, fm = form F m n := ⟨_, rfl⟩
    have HFMM := Lib.hid hfm
    have boxes : ∀ W, Below w2.heap.size w2 W → (Below w2.heap.size w2 W ∧ W.cell? ⟨g, 3, none⟩ = some (.slice (some ⟨gb, ob, none⟩) m.length rc)) := fun W h => ⟨h, ((unhide HC).below (hB2.trans (h.mono hB2.size))).2.1⟩
    have BX2 := hide boxes
    clear boxes hfm
    go_upto_region 5 with fail
    go_region_held3 (fun W => Below w2.heap.size w2 W ∧ W.cell? ⟨g, 3, none⟩ = some (.slice (some ⟨gb, ob, none⟩) m.length rc))
     (first | exact (unhide BX2) _ (Below.refl _ _) | exact (unhide BX2) _ (Below.refl _ _).drew | exact (unhide BX2) _ (by assumption))
     (first
      | (go_at_call 140; refine (unhide HFM _ ?_ ?_).mono ?_; exact (unhide HP2).below (And.left (by assumption)); exact (unhide HR2).below (And.left (by assumption)); rintro e W3 ⟨v3, rfl, o3, b3⟩; rw [← HFMM.out] at o3; obtain ⟨a3, c3, rfl, r3⟩ := o3.form; have hB3 := Below.chain (a := w2) (And.left (by assumption)) b3)
      | (go_at_call 154; refine (l10Same_any a3 (some ⟨gb, ob, none⟩) c3 rc fm m _ r3 ((unhide HR2).below hB3)).mono ?_; rintro e W4 ⟨rfl, q4⟩; have hB4 := Below.chain hB3 (q4.below _)))
    go_wp2
    go_ret
    refine ⟨ret_bool ?_, hB2.trans (hB4.mono hB2.size)⟩
    rw [HO.out, ← HNN.out, ← HFMM.out]
    simp [h8, unhide HCAP]
   ·
    have HN := Lib.hid (show okC F.p F.k F.poly m = false by rw [HO.out]; simp [hcap])
    rw [cnt, if_neg hcap] at hCn
    have HCN := hide hCn
    clear hCn hcap
    go_enter Try.func85, Try.ntmps85
    go_upto_region 1 with fail
    go_region_held3 (fun W => Below w.heap.size w W ∧ W.cell? ⟨g, 3, none⟩ = some (.slice (some ⟨gb, ob, none⟩) m.length rc) ∧ W.cell? ⟨gb, ob, none⟩ = some (.slice ai n ci))
     (first | exact (unhide BX) _ (Below.refl _ _) | exact (unhide BX) _ (Below.refl _ _).drew | exact (unhide BX) _ (by assumption))
     (first
      | (go_at_call 67; refine (unhide HV _ ?_).mono ?_; exact (And.left (by assumption)); rintro e w1 ⟨rfl, b1⟩; have hB1 := Below.chain (a := w) (And.left (by assumption)) b1))
    have C1 := (unhide HC).below hB1
    have hc3 := C1.2.1
    have HPF := hide C1.1.pf
    have HRM := hide C1.2.2
    clear C1
    go_upto_region 3 with fail
    go_quiet ((first | (go_at_call 115; exact Calls.quiet_of (unhide HS _ ((unhide HPF).below (Below.drewn _)))) | (go_at_call 153; exact Calls.quiet_of_same ((unhide HCN _).mono fun _ _ h => ⟨h.1, h.2.symm⟩))))
    obtain ⟨w2, hw2⟩ : ∃ z, z = w1.drewN nq := ⟨_, rfl⟩
    have b2 : Below w1.heap.size w1 w2 := by rw [hw2]; exact Below.drewn _
    rw [← hw2]
    clear hw2
    have hB2 := hB1.trans (b2.mono hB1.size)
    go_wp2
    go_ret
    exact ⟨ret_bool (by rw [HN.out]), hB2⟩
  ·
   have HN := Lib.hid (show okC F.p F.k F.poly m = false by rw [HO.out]; simp [h8])
   have h8' : decide ((8 : Int) < (m.length : Int)) = true := by rw [decide_eq_true_iff]; omega
   have hm0 : 0 < m.length := by omega
   clear h8
   go_enter Try.func85, Try.ntmps85
   go_upto_region 1 with fail
   go_region_held3 (fun W => Below w.heap.size w W ∧ W.cell? ⟨g, 3, none⟩ = some (.slice (some ⟨gb, ob, none⟩) m.length rc) ∧ W.cell? ⟨gb, ob, none⟩ = some (.slice ai n ci))
    (first | exact (unhide BX) _ (Below.refl _ _) | exact (unhide BX) _ (Below.refl _ _).drew | exact (unhide BX) _ (by assumption))
    (first
     | (go_at_call 67; refine (unhide HV _ ?_).mono ?_; exact (And.left (by assumption)); rintro e w1 ⟨rfl, b1⟩; have hB1 := Below.chain (a := w) (And.left (by assumption)) b1))
   go_wp2
   go_ret
   exact ⟨ret_bool (by rw [HN.out]), hB1⟩
theorem specVC_any (p d : Int) (a : Option Addr) (c : Nat) (xs : List Int) (ra : Option Addr) (rc : Nat) (m : List (List Int)) (w : World) (hx : Rd w a xs) (hm : RdS w ra m) : Calls Try.prog 33 #[.agg #[.int .i64 p, .int .i64 d, .slice a xs.length c, .slice ra m.length rc]] w fun e w' => e = .returned (.bool (okC p d xs m)) ∧ Below w.heap.size w w' := by
 obtain ⟨W0, hHW⟩ : ∃ z, z = w.alloc (.cells #[.int .i64 p, .int .i64 d, .slice a xs.length c, .slice ra m.length rc] 55) := ⟨_, rfl⟩
 have b0 : Below w.heap.size w W0 := by rw [hHW]; exact (Below.refl _ _).alloc (Nat.le_refl _) _
 have k0 : Blk W0 w.heap.size 55 #[.int .i64 p, .int .i64 d, .slice a xs.length c, .slice ra m.length rc] := by rw [hHW]; exact Blk.new _ _ _ rfl
 have sk0 : w.heap.size < W0.heap.size := k0.lt
 have HW := Lib.hid hHW
 clear hHW
 have hC : PC W0 w.heap.size p d a c xs ra rc m := ⟨⟨k0.cell 0, k0.cell 1, k0.cell 2, hx.below b0⟩, k0.cell 3, hm.below b0⟩
 have hV := l18Ok_any w.heap.size p d a c xs ra rc m W0 hC
 generalize okC p d xs m = r at hV
 have HV := hide hV
 clear hV
 go_enter Try.func33, Try.ntmps33
 go_wp2_with fail
 rw [← HW.out]
 refine (unhide HV).mono ?_
 rintro e w1 ⟨rfl, b1⟩
 go_wp2
 go_ret
 exact ⟨rfl, b0.trans (b1.mono (Nat.le_of_lt sk0))⟩
theorem implVC_any (p d : Int) (a : Option Addr) (c : Nat) (xs : List Int) (ra : Option Addr) (rc : Nat) (m : List (List Int)) (w : World) (hx : Rd w a xs) (hm : RdS w ra m) (ed : I64 d) : Calls Try.prog 83 #[.agg #[.int .i64 p, .int .i64 d, .slice a xs.length c, .slice ra m.length rc]] w fun e w' => e = .returned (.bool (okC p d xs m)) ∧ Below w.heap.size w w' := by
 obtain ⟨W0, hHW⟩ : ∃ z, z = w.alloc (.cells #[.int .i64 p, .int .i64 d, .slice a xs.length c, .slice ra m.length rc] 55) := ⟨_, rfl⟩
 have b0 : Below w.heap.size w W0 := by rw [hHW]; exact (Below.refl _ _).alloc (Nat.le_refl _) _
 have k0 : Blk W0 w.heap.size 55 #[.int .i64 p, .int .i64 d, .slice a xs.length c, .slice ra m.length rc] := by rw [hHW]; exact Blk.new _ _ _ rfl
 have sk0 : w.heap.size < W0.heap.size := k0.lt
 have HW := Lib.hid hHW
 clear hHW
 have hml := hm.len
 have hx0 := hx.below b0
 have hm0 := hm.below b0
 have hV := fun W (hW : Below W0.heap.size W0 W) => validMatrix_any p d a c xs ra rc m W (hx0.below hW) (hm0.below hW) ed
 obtain ⟨k1, hk1⟩ : ∃ k1, k1 = okM p d xs m := ⟨_, rfl⟩
 rw [← hk1] at hV
 have HV := hide hV
 have boxes : ∀ W, Below W0.heap.size W0 W → (Below W0.heap.size W0 W ∧ W.cell? ⟨w.heap.size, 0, none⟩ = some (.int .i64 p) ∧ W.cell? ⟨w.heap.size, 1, none⟩ = some (.int .i64 d) ∧ W.cell? ⟨w.heap.size, 2, none⟩ = some (.slice a xs.length c) ∧ W.cell? ⟨w.heap.size, 3, none⟩ = some (.slice ra m.length rc)) := fun W h => ⟨h, (k0.below h k0.lt).cell 0, (k0.below h k0.lt).cell 1, (k0.below h k0.lt).cell 2, (k0.below h k0.lt).cell 3⟩
 have BX := hide boxes
 clear hV boxes
 cases k1 with
 | false =>
  have HN := Lib.hid (show okC p d xs m = false by rw [okC, ← hk1]; rfl)
  clear hk1
  go_enter Try.func83, Try.ntmps83
  go_upto_region 1 with fail
  rw [← HW.out]
  refine wp_region_noPanic ?_
  refine wp_region_seq (S := (fun W => Below W0.heap.size W0 W ∧ W.cell? ⟨w.heap.size, 0, none⟩ = some (.int .i64 p) ∧ W.cell? ⟨w.heap.size, 1, none⟩ = some (.int .i64 d) ∧ W.cell? ⟨w.heap.size, 2, none⟩ = some (.slice a xs.length c) ∧ W.cell? ⟨w.heap.size, 3, none⟩ = some (.slice ra m.length rc))) [true, true, true, true, false, true, true, true, true, true, true, true, true, true, true, true, true, true, true, true, true, true] (by kernel_rfl) (by kernel_rfl) (by kernel_rfl) rfl (fun _ _ _ _ _ h => h) ?_ (fun hHeld => ?_)
  · exact (unhide BX) _ (Below.refl _ _).drew
  simp only [List.toList_toArray]
  refine SeqH.take (v := ?hv13) (by rfl) ?hy13 ?hr13
  case hy13 =>
   intro w hSw
   try dsimp only at hSw
   go_simp
   try (with_reducible rfl)
  try simp only [Act.put, List.setIfInBounds_toArray, List.set_cons_zero, List.set_cons_succ]
  refine SeqH.take (v := ?hv14) (by rfl) ?hy14 ?hr14
  case hy14 =>
   intro w hSw
   try dsimp only at hSw
   go_simp
   try (with_reducible rfl)
  try simp only [Act.put, List.setIfInBounds_toArray, List.set_cons_zero, List.set_cons_succ]
  refine SeqH.take (v := ?hv15) (by rfl) ?hy15 ?hr15
  case hy15 =>
   intro w hSw
   try dsimp only at hSw
   go_simp
   try (with_reducible rfl)
  try simp only [Act.put, List.setIfInBounds_toArray, List.set_cons_zero, List.set_cons_succ]
  refine SeqH.take (v := ?hv16) (by rfl) ?hy16 ?hr16
  case hy16 =>
   intro w hSw
   try dsimp only at hSw
   go_simp
   try (with_reducible rfl)
  try simp only [Act.put, List.setIfInBounds_toArray, List.set_cons_zero, List.set_cons_succ]
  refine SeqH.call (fun K hK => ?_)
  go_simp
  refine (unhide HV _ (And.left hHeld)).mono ?_
  rintro e w1 ⟨rfl, b1⟩
  have hB1 := Below.chain (a := W0) (And.left hHeld) b1
  go_wp2_with fail
  refine hK.out _ _ ?_ (fun hHeld => ?_)
  · exact (unhide BX) _ hB1
  clear hK K
  try simp only [Act.put, List.setIfInBounds_toArray, List.set_cons_zero, List.set_cons_succ]
  refine SeqH.take (v := ?hv17) (by rfl) ?hy17 ?hr17
  case hy17 =>
   intro w hSw
   try dsimp only at hSw
   go_simp
   try (with_reducible rfl)
  try simp only [Act.put, List.setIfInBounds_toArray, List.set_cons_zero, List.set_cons_succ]
  refine SeqH.take (v := ?hv18) (by rfl) ?hy18 ?hr18
  case hy18 =>
   intro w hSw
   try dsimp only at hSw
   go_simp
   try (with_reducible rfl)
  try simp only [Act.put, List.setIfInBounds_toArray, List.set_cons_zero, List.set_cons_succ]
  refine SeqH.skip (by rfl) ?_
  try simp only [Act.put, List.setIfInBounds_toArray, List.set_cons_zero, List.set_cons_succ]
  refine SeqH.skip (by rfl) ?_
  try simp only [Act.put, List.setIfInBounds_toArray, List.set_cons_zero, List.set_cons_succ]
  refine SeqH.skip (by rfl) ?_
  try simp only [Act.put, List.setIfInBounds_toArray, List.set_cons_zero, List.set_cons_succ]
  refine SeqH.skip (by rfl) ?_
  try simp only [Act.put, List.setIfInBounds_toArray, List.set_cons_zero, List.set_cons_succ]
  refine SeqH.take (v := ?hv19) (by rfl) ?hy19 ?hr19
  case hy19 =>
   intro w hSw
   try dsimp only at hSw
   go_simp
   try (with_reducible rfl)
  try simp only [Act.put, List.setIfInBounds_toArray, List.set_cons_zero, List.set_cons_succ]
  refine SeqH.take (v := ?hv20) (by rfl) ?hy20 ?hr20
  case hy20 =>
   intro w hSw
   try dsimp only at hSw
   go_simp
   try (with_reducible rfl)
  try simp only [Act.put, List.setIfInBounds_toArray, List.set_cons_zero, List.set_cons_succ]
  refine SeqH.skip (by rfl) ?_
  try simp only [Act.put, List.setIfInBounds_toArray, List.set_cons_zero, List.set_cons_succ]
  refine SeqH.skip (by rfl) ?_
  try simp only [Act.put, List.setIfInBounds_toArray, List.set_cons_zero, List.set_cons_succ]
  refine SeqH.skip (by rfl) ?_
  try simp only [Act.put, List.setIfInBounds_toArray, List.set_cons_zero, List.set_cons_succ]
  refine SeqH.skip (by rfl) ?_
  try simp only [Act.put, List.setIfInBounds_toArray, List.set_cons_zero, List.set_cons_succ]
  refine SeqH.skip (by rfl) ?_
  try simp only [Act.put, List.setIfInBounds_toArray, List.set_cons_zero, List.set_cons_succ]
  refine SeqH.skip (by rfl) ?_
  try simp only [Act.put, List.setIfInBounds_toArray, List.set_cons_zero, List.set_cons_succ]
  refine SeqH.skip (by rfl) ?_
  try simp only [Act.put, List.setIfInBounds_toArray, List.set_cons_zero, List.set_cons_succ]
  refine SeqH.skip (by rfl) ?_
  try simp only [Act.put, List.setIfInBounds_toArray, List.set_cons_zero, List.set_cons_succ]
  refine SeqH.take (v := ?hv21) (by rfl) ?hy21 ?hr21
  case hy21 =>
   intro w hSw
   try dsimp only at hSw
   go_simp
   try (with_reducible rfl)
  try simp only [Act.put, List.setIfInBounds_toArray, List.set_cons_zero, List.set_cons_succ]
  refine SeqH.done (NoPanic.normal ?_)
  go_wp2
  go_ret
  exact ⟨ret_bool (by rw [HN.out]), b0.trans (hB1.mono (Nat.le_of_lt sk0))⟩
 | true =>
  obtain ⟨F, hG, rfl, rfl, rfl, hm1, hm32, hn1, hn32, hM⟩ := okM_true hk1.symm
  have ok := hG.ok
  obtain ⟨n2, n64⟩ := ok.n_bd
  have hO : okC F.p F.k F.poly m = (decide (m.length ≤ 8) && (decide (capTo F.n 4096 m.length ≤ 4096) && decide (form F m (nthL m 0).length = m))) := by rw [okC, ← hk1, fdR_eq]; rfl
  have HO := Lib.hid hO
  obtain ⟨n, hn⟩ : ∃ n, n = (nthL m 0).length := ⟨_, rfl⟩
  rw [← hn] at hn1 hn32 hM
  have HNN := Lib.hid hn
  have HM := hide hM
  clear hO hk1 hn hM
  by_cases h8 : m.length ≤ 8
  ·
   have h8' : decide ((8 : Int) < (m.length : Int)) = false := by rw [decide_eq_false_iff_not]; omega
   have hFS := fun W => fieldSize_any F a c W ok
   have hPU := fun W => powerUpTo_any F.n m.length 4096 W (by omega) (by omega) (by omega) (by omega) (by omega)
   rw [Int.toNat_natCast] at hPU
   have HFS := hide hFS
   obtain ⟨q, hq⟩ : ∃ q, q = capTo F.n 4096 m.length := ⟨_, rfl⟩
   rw [← hq] at hPU
   have HPU := hide hPU
   have HQ := Lib.hid hq
   clear hFS hPU hq
   by_cases hcap : q ≤ 4096
   ·
    have hcap' : decide (4096 < q) = false := by rw [decide_eq_false_iff_not]; omega
    have hT := fun W h => tablesOf_any F a c W h ok
    have hRd := fun tv W h1 h2 => reduce_any F tv ra rc m n W h1 hG h2 (by omega) (unhide HM)
    have HT := hide hT
    obtain ⟨fm, hfm⟩ : ∃ fm, fm = form F m n := ⟨_, rfl⟩
    rw [← hfm] at hRd
    have HRD := hide hRd
    have HFMM := Lib.hid hfm
    clear hT hRd hfm
    go_enter Try.func83, Try.ntmps83
    go_upto_region 1 with fail
    rw [← HW.out]
    go_region_held3 (fun W => Below W0.heap.size W0 W ∧ W.cell? ⟨w.heap.size, 0, none⟩ = some (.int .i64 F.p) ∧ W.cell? ⟨w.heap.size, 1, none⟩ = some (.int .i64 F.k) ∧ W.cell? ⟨w.heap.size, 2, none⟩ = some (.slice a F.poly.length c) ∧ W.cell? ⟨w.heap.size, 3, none⟩ = some (.slice ra m.length rc))
     (first | exact (unhide BX) _ (Below.refl _ _) | exact (unhide BX) _ (Below.refl _ _).drew | exact (unhide BX) _ (by assumption))
     (first
      | (go_at_call 56; refine (unhide HV _ ?_).mono ?_; exact (And.left (by assumption)); rintro e w1 ⟨rfl, b1⟩; have hB1 := Below.chain (a := W0) (And.left (by assumption)) b1)
      | (go_at_call 65; refine (unhide HFS _).mono ?_; rintro e w2 ⟨rfl, b2⟩; have hB2 := Below.chain hB1 b2)
      | (go_at_call 116; refine (sizeS_any _ _ _ _).mono ?_; rintro e w3 ⟨rfl, rfl⟩)
      | (go_at_call 88; refine (unhide HPU _).mono ?_; rintro e w4 ⟨rfl, rfl⟩))
    have hB2' := hB2
    go_upto_region 3 with fail
    go_region_held3 (fun W => Below W0.heap.size W0 W ∧ W.cell? ⟨w.heap.size, 0, none⟩ = some (.int .i64 F.p) ∧ W.cell? ⟨w.heap.size, 1, none⟩ = some (.int .i64 F.k) ∧ W.cell? ⟨w.heap.size, 2, none⟩ = some (.slice a F.poly.length c) ∧ W.cell? ⟨w.heap.size, 3, none⟩ = some (.slice ra m.length rc))
     (first | exact (unhide BX) _ hB2 | exact (unhide BX) _ hB2.drew | exact (unhide BX) _ (by assumption))
     (first
      | (go_at_call 57; refine (unhide HT _ ?_).mono ?_; exact hx0.below (And.left (by assumption)); rintro e w5 ⟨tv, rfl, T5, b5⟩; have hB5 := Below.chain (a := W0) (And.left (by assumption)) b5)
      | (go_at_call 58; refine (unhide HRD _ _ T5 (hm0.below hB5)).mono ?_; rintro e w6 ⟨v6, u6, d6, rfl, o6, _, b6⟩; obtain ⟨a6, c6, rfl, r6⟩ := o6.form; have hB6 := Below.chain hB5 b6))
    have k6 := k0.below hB6 k0.lt
    have f3 := k6.cell 3
    have hS := areSame_any a6 ra c6 rc fm m w6 r6 (hm0.below hB6)
    have HS := hide hS
    clear hS
    go_wp2_with fail
    refine (unhide HS).mono ?_
    rintro e w7 ⟨rfl, q7⟩
    go_wp2
    go_ret
    refine ⟨ret_bool ?_, b0.trans ((hB6.trans ((q7.below _).mono hB6.size)).mono (Nat.le_of_lt sk0))⟩
    rw [HO.out, ← HNN.out, ← HFMM.out, ← HQ.out]
    simp [h8, hcap]
   ·
    have HN := Lib.hid (show okC F.p F.k F.poly m = false by rw [HO.out, ← HQ.out]; simp [hcap])
    have hcap' : decide (4096 < q) = true := by rw [decide_eq_true_iff]; omega
    go_enter Try.func83, Try.ntmps83
    go_upto_region 1 with fail
    rw [← HW.out]
    go_region_held3 (fun W => Below W0.heap.size W0 W ∧ W.cell? ⟨w.heap.size, 0, none⟩ = some (.int .i64 F.p) ∧ W.cell? ⟨w.heap.size, 1, none⟩ = some (.int .i64 F.k) ∧ W.cell? ⟨w.heap.size, 2, none⟩ = some (.slice a F.poly.length c) ∧ W.cell? ⟨w.heap.size, 3, none⟩ = some (.slice ra m.length rc))
     (first | exact (unhide BX) _ (Below.refl _ _) | exact (unhide BX) _ (Below.refl _ _).drew | exact (unhide BX) _ (by assumption))
     (first
      | (go_at_call 56; refine (unhide HV _ ?_).mono ?_; exact (And.left (by assumption)); rintro e w1 ⟨rfl, b1⟩; have hB1 := Below.chain (a := W0) (And.left (by assumption)) b1)
      | (go_at_call 65; refine (unhide HFS _).mono ?_; rintro e w2 ⟨rfl, b2⟩; have hB2 := Below.chain hB1 b2)
      | (go_at_call 116; refine (sizeS_any _ _ _ _).mono ?_; rintro e w3 ⟨rfl, rfl⟩)
      | (go_at_call 88; refine (unhide HPU _).mono ?_; rintro e w4 ⟨rfl, rfl⟩))
    go_wp2
    go_ret
    exact ⟨ret_bool (by rw [HN.out]), b0.trans (hB2.mono (Nat.le_of_lt sk0))⟩
  ·
   have HN := Lib.hid (show okC F.p F.k F.poly m = false by rw [HO.out]; simp [h8])
   have h8' : decide ((8 : Int) < (m.length : Int)) = true := by rw [decide_eq_true_iff]; omega
   go_enter Try.func83, Try.ntmps83
   go_upto_region 1 with fail
   rw [← HW.out]
   refine wp_region_noPanic ?_
   refine wp_region_seq (S := (fun W => Below W0.heap.size W0 W ∧ W.cell? ⟨w.heap.size, 0, none⟩ = some (.int .i64 F.p) ∧ W.cell? ⟨w.heap.size, 1, none⟩ = some (.int .i64 F.k) ∧ W.cell? ⟨w.heap.size, 2, none⟩ = some (.slice a F.poly.length c) ∧ W.cell? ⟨w.heap.size, 3, none⟩ = some (.slice ra m.length rc))) [true, true, true, true, false, true, true, true, true, true, true, true, true, true, true, true, true, true, true, true, true, true] (by kernel_rfl) (by kernel_rfl) (by kernel_rfl) rfl (fun _ _ _ _ _ h => h) ?_ (fun hHeld => ?_)
   · exact (unhide BX) _ (Below.refl _ _).drew
   simp only [List.toList_toArray]
   refine SeqH.take (v := ?hv22) (by rfl) ?hy22 ?hr22
   case hy22 =>
    intro w hSw
    try dsimp only at hSw
    go_simp
    try (with_reducible rfl)
   try simp only [Act.put, List.setIfInBounds_toArray, List.set_cons_zero, List.set_cons_succ]
   refine SeqH.take (v := ?hv23) (by rfl) ?hy23 ?hr23
   case hy23 =>
    intro w hSw
    try dsimp only at hSw
    go_simp
    try (with_reducible rfl)
   try simp only [Act.put, List.setIfInBounds_toArray, List.set_cons_zero, List.set_cons_succ]
   refine SeqH.take (v := ?hv24) (by rfl) ?hy24 ?hr24
   case hy24 =>
    intro w hSw
    try dsimp only at hSw
    go_simp
    try (with_reducible rfl)
   try simp only [Act.put, List.setIfInBounds_toArray, List.set_cons_zero, List.set_cons_succ]
   refine SeqH.take (v := ?hv25) (by rfl) ?hy25 ?hr25
   case hy25 =>
    intro w hSw
    try dsimp only at hSw
    go_simp
    try (with_reducible rfl)
   try simp only [Act.put, List.setIfInBounds_toArray, List.set_cons_zero, List.set_cons_succ]
   refine SeqH.call (fun K hK => ?_)
   go_simp
   refine (unhide HV _ (And.left hHeld)).mono ?_
   rintro e w1 ⟨rfl, b1⟩
   have hB1 := Below.chain (a := W0) (And.left hHeld) b1
   go_wp2_with fail
   refine hK.out _ _ ?_ (fun hHeld => ?_)
   · exact (unhide BX) _ hB1
   clear hK K
   try simp only [Act.put, List.setIfInBounds_toArray, List.set_cons_zero, List.set_cons_succ]
   refine SeqH.take (v := ?hv26) (by rfl) ?hy26 ?hr26
   case hy26 =>
    intro w hSw
    try dsimp only at hSw
    go_simp
    try (with_reducible rfl)
   try simp only [Act.put, List.setIfInBounds_toArray, List.set_cons_zero, List.set_cons_succ]
   refine SeqH.take (v := ?hv27) (by rfl) ?hy27 ?hr27
   case hy27 =>
    intro w hSw
    try dsimp only at hSw
    go_simp
    try (with_reducible rfl)
   try simp only [Act.put, List.setIfInBounds_toArray, List.set_cons_zero, List.set_cons_succ]
   refine SeqH.take (v := ?hv28) (by rfl) ?hy28 ?hr28
   case hy28 =>
    intro w hSw
    try dsimp only at hSw
    go_simp
    try (with_reducible rfl)
   try simp only [Act.put, List.setIfInBounds_toArray, List.set_cons_zero, List.set_cons_succ]
   refine SeqH.take (v := ?hv29) (by rfl) ?hy29 ?hr29
   case hy29 =>
    intro w hSw
    try dsimp only at hSw
    go_simp
    try (with_reducible rfl)
   try simp only [Act.put, List.setIfInBounds_toArray, List.set_cons_zero, List.set_cons_succ]
   refine SeqH.take (v := ?hv30) (by rfl) ?hy30 ?hr30
   case hy30 =>
    intro w hSw
    try dsimp only at hSw
    go_simp
    try (with_reducible rfl)
   try simp only [Act.put, List.setIfInBounds_toArray, List.set_cons_zero, List.set_cons_succ]
   refine SeqH.take (v := ?hv31) (by rfl) ?hy31 ?hr31
   case hy31 =>
    intro w hSw
    try dsimp only at hSw
    go_simp
    try (with_reducible rfl)
   try simp only [Act.put, List.setIfInBounds_toArray, List.set_cons_zero, List.set_cons_succ]
   refine SeqH.take (v := ?hv32) (by rfl) ?hy32 ?hr32
   case hy32 =>
    intro w hSw
    try dsimp only at hSw
    go_simp
    try (with_reducible rfl)
   try simp only [Act.put, List.setIfInBounds_toArray, List.set_cons_zero, List.set_cons_succ]
   refine SeqH.take (v := ?hv33) (by rfl) ?hy33 ?hr33
   case hy33 =>
    intro w hSw
    try dsimp only at hSw
    go_simp
    try (with_reducible rfl)
   try simp only [Act.put, List.setIfInBounds_toArray, List.set_cons_zero, List.set_cons_succ]
   refine SeqH.skip (by rfl) ?_
   try simp only [Act.put, List.setIfInBounds_toArray, List.set_cons_zero, List.set_cons_succ]
   refine SeqH.skip (by rfl) ?_
   try simp only [Act.put, List.setIfInBounds_toArray, List.set_cons_zero, List.set_cons_succ]
   refine SeqH.skip (by rfl) ?_
   try simp only [Act.put, List.setIfInBounds_toArray, List.set_cons_zero, List.set_cons_succ]
   refine SeqH.skip (by rfl) ?_
   try simp only [Act.put, List.setIfInBounds_toArray, List.set_cons_zero, List.set_cons_succ]
   refine SeqH.skip (by rfl) ?_
   try simp only [Act.put, List.setIfInBounds_toArray, List.set_cons_zero, List.set_cons_succ]
   refine SeqH.skip (by rfl) ?_
   try simp only [Act.put, List.setIfInBounds_toArray, List.set_cons_zero, List.set_cons_succ]
   refine SeqH.skip (by rfl) ?_
   try simp only [Act.put, List.setIfInBounds_toArray, List.set_cons_zero, List.set_cons_succ]
   refine SeqH.skip (by rfl) ?_
   try simp only [Act.put, List.setIfInBounds_toArray, List.set_cons_zero, List.set_cons_succ]
   refine SeqH.take (v := ?hv34) (by rfl) ?hy34 ?hr34
   case hy34 =>
    intro w hSw
    try dsimp only at hSw
    go_simp
    try (with_reducible rfl)
   try simp only [Act.put, List.setIfInBounds_toArray, List.set_cons_zero, List.set_cons_succ]
   refine SeqH.done (NoPanic.normal ?_)
   go_wp2
   go_ret
   exact ⟨ret_bool (by rw [HN.out]), b0.trans (hB1.mono (Nat.le_of_lt sk0))⟩
end Go.Proofs.Ytpglmogoddgmoaa
namespace Go.Proofs.Ytpglmogoddgmoaa
open Go.RowKit
section
variable {F : FD} {n : Nat} {m A : List (List Int)}
theorem FD.Good.okF (h : F.Good) : okF F.p F.k F.poly = true := by
 have ok := h.ok
 have hk := ok.k1
 have hk6 := ok.k6
 simp only [Go.Proofs.Ytpglmogoddgmoaa.okF, Bool.and_eq_true, inB_true, beq_iff_eq, List.all_eq_true]
 refine ⟨⟨ok.p2, ok.p64⟩, ⟨by omega, by omega⟩, by rw [ok.len]; omega, by rw [Int.toNat_natCast]; exact ok.one, by rw [Int.toNat_natCast, h.spl], fun x hx => ?_, ok.irr⟩
 have := ok.inR x hx
 exact ⟨this.1, by omega⟩
theorem GC.okC (h : GC F n m) : okC F.p F.k F.poly m = true := by
 have hM := h.mat
 rw [Go.Proofs.Ytpglmogoddgmoaa.okC, Bool.and_eq_true, Bool.and_eq_true, Bool.and_eq_true, decide_eq_true_eq, decide_eq_true_eq, decide_eq_true_eq, fdR_eq]
 refine ⟨?_, h.m8, h.cap, by rw [h.hn]; exact h.fix⟩
 rw [okM, Bool.and_eq_true]
 refine ⟨h.good.okF, ?_⟩
 rw [okR_true]
 refine ⟨h.m1, by have := h.m8; omega, by rw [h.hn]; exact h.n1, by rw [h.hn]; exact h.n32, fun r hr => ?_⟩
 rw [h.hn, Int.toNat_natCast, h.good.ok.n_eq]
 exact ⟨(hM r hr).1, elems_true.2 (hM r hr).2⟩
theorem mkC_gc (hG : F.Good) (hM : F.Mat n A) (n1 : 1 ≤ n) (n32 : n ≤ 32) (h : (mkC F (form F A n)).2.2.2.2 = 0) : GC F n (form F A n) ∧ mkC F (form F A n) = (F.p, (F.k : Int), F.poly, form F A n, 0) := by
 obtain ⟨pv, _, hE, _⟩ := form_ech hG hM
 rw [mkC] at h ⊢
 by_cases h0 : (form F A n).length = 0
 · rw [if_pos h0] at h; simp at h
 · rw [if_neg h0] at h ⊢
   by_cases h1 : 8 < (form F A n).length ∨ 4096 < capTo F.n 4096 (form F A n).length
   · rw [if_pos h1] at h; simp at h
   · rw [if_neg h1]
     exact ⟨⟨hG, by omega, by omega, n1, n32, (Mat_nth hE.mat (by omega)).1, hE.mat, by omega, (form_fix hG hE).1⟩, rfl⟩
theorem capTo_mono {b l : Int} (hb : 1 ≤ b) (hl : 0 ≤ l) : ∀ {i j : Nat}, i ≤ j → capTo b l j ≤ l → capTo b l i ≤ l := by
 intro i j hij h
 rcases Classical.em (capTo b l i ≤ l) with h1 | h1
 · exact h1
 · rw [capTo_stop h1 j hij] at h; exact h
end
end Go.Proofs.Ytpglmogoddgmoaa
namespace Go.Proofs.Ytpglmogoddgmoaa
open Go.RowKit
attribute [local go_sem ↓] Go.wp_at_zero Go.wp_at_succ
theorem cap9 : ∀ q : Nat, q < 10 → ∀ k : Nat, k < 4 → capTo q 4096 k ≤ 4096 := by decide
theorem cap2 : ∀ k : Nat, k < 6 → capTo 2 4096 k ≤ 4096 := by decide
theorem set_Mat {F : FD} (ok : F.Ok) {n : Nat} {A : List (List Int)} (hM : F.Mat n A) (h0 : 0 < A.length) (x : Nat) : F.Mat n (A.set 0 ((nthL A 0).set x 1)) := fun r hr => by
 rcases List.mem_or_eq_of_mem_set hr with h | h
 · exact hM r h
 · have h1 := Mat_nth hM h0
   obtain ⟨n2, _⟩ := ok.n_bd
   rw [h]
   refine ⟨by rw [List.length_set, h1.1], fun y hy => ?_⟩
   rcases List.mem_or_eq_of_mem_set hy with h2 | h2
   · exact h1.2 y h2
   · rw [h2]; omega
theorem drawn_gc {F : FD} (hG : F.Good) {n x : Nat} {A : List (List Int)} (hM : F.Mat n A) (h0 : 0 < A.length) (hx : x < n) (n32 : n ≤ 32) (h8 : A.length ≤ 8) (hc : capTo F.n 4096 A.length ≤ 4096) :
    GC F n (form F (A.set 0 ((nthL A 0).set x 1)) n) ∧ mkC F (form F (A.set 0 ((nthL A 0).set x 1)) n) = (F.p, (F.k : Int), F.poly, form F (A.set 0 ((nthL A 0).set x 1)) n, 0) := by
 have ok := hG.ok
 have hM' := set_Mat ok hM h0 x
 obtain ⟨n2, _⟩ := ok.n_bd
 refine mkC_gc hG hM' (by omega) n32 ?_
 have hle : (form F (A.set 0 ((nthL A 0).set x 1)) n).length ≤ A.length := by
  rw [form_len]
  have := red_piv F (A.set 0 ((nthL A 0).set x 1)) n
  rwa [List.length_set] at this
 have hne : (form F (A.set 0 ((nthL A 0).set x 1)) n).length ≠ 0 := fun e => by
  obtain ⟨_, _, _, hs⟩ := form_ech hG hM'
  have h1 := (hs _).2 (Sp.row ok hM' (j := 0) (by rw [List.length_set]; exact h0))
  have h2 : ∀ v, Sp F (form F (A.set 0 ((nthL A 0).set x 1)) n) v → ∀ i, v i = 0 := fun v hv => by
   cases hv with
   | zero => exact fun _ => rfl
   | step h hj hc => omega
  have h3 := h2 _ h1 x
  rw [nthL_set_same h0, nth_set_same (by rw [(Mat_nth hM h0).1]; exact hx)] at h3
  omega
 have hcap := capTo_mono (b := F.n) (l := 4096) (by omega) (by omega) hle hc
 rw [mkC, if_neg hne, if_neg (by omega)]
theorem OwnS.ne_row {w : World} {B B' gA g0 n c m d : Nat} {A : List (List Int)} {xs : List Int} (h : OwnS w B (.slice (some ⟨gA, 0, none⟩) n c) A) (o : Own w B' (.slice (some ⟨g0, 0, none⟩) m d) xs) : gA ≠ g0 := fun e => by
 obtain ⟨_, vs, ⟨_, hr⟩, _⟩ := h
 obtain ⟨_, ⟨_, ho⟩⟩ := o
 rcases hr with ⟨e1, _⟩ | ⟨g1, cap1, cur1, e1, _, hg1, _⟩
 · cases e1
 · rcases ho with ⟨e2, _⟩ | ⟨g2, cap2, cur2, e2, _, hg2, _⟩
   · cases e2
   · injection e1 with e1 _ _
     injection e1 with e1
     injection e1 with e1 _
     injection e2 with e2 _ _
     injection e2 with e2
     injection e2 with e2 _
     rw [← e1, e, e2, hg2] at hg1
     injection hg1 with hg1
     injection hg1 with _ h3 _
     exact absurd h3 (by decide)
theorem OwnS.set4 {w : World} {B g : Nat} {v : Value} {xss : List (List Int)} (h : OwnS w B v xss) (hg : g < B) (a b c d : Value) : OwnS ((((w.setCell ⟨g, 0, none⟩ a).setCell ⟨g, 1, none⟩ b).setCell ⟨g, 2, none⟩ c).setCell ⟨g, 3, none⟩ d) B v xss := by
 have key : ∀ (W : World) (i : Nat) (x : Value), Kp W (W.setCell ⟨g, i, none⟩ x) B W.heap.size := fun W i x => ⟨by simp, fun q h1 _ => Below.heap_setCell W _ _ q (by show q ≠ g; omega)⟩
 exact ((((((((h.toH.kp (key _ _ _)).own).toH.kp (key _ _ _)).own).toH.kp (key _ _ _)).own).toH.kp (key _ _ _)).own)
def CodeD (w : World) (e : Ending) (w' : World) : Prop :=
 ∃ (F : FD) (n : Nat) (m : List (List Int)) (v u : Value), e = .returned (.agg #[.int .i64 F.p, .int .i64 F.k, v, u]) ∧ GC F n m ∧ Own w' w.heap.size v F.poly ∧ OwnS w' w.heap.size u m
theorem l18Draw_src (g T : Nat) (w : World) (h : Src w g T) (hT : T ≤ 1000000) :
    Calls Try.prog 147 #[.pointer (some ⟨g, 0, none⟩)] w fun e w' => CodeD w e w' ∧ Mk w w' g (g + 1) ∧ Src w' g (T + 100000) := by
 obtain ⟨W0, hW0⟩ : ∃ W0, W0 = w.alloc (.cells #[.int .i64 0, .int .i64 0, .slice none 0 0, .slice none 0 0] 55) := ⟨_, rfl⟩
 have b0 : Below w.heap.size w W0 := by rw [hW0]; exact (Below.refl _ _).alloc (Nat.le_refl _) _
 have k0 : Blk W0 w.heap.size 55 #[.int .i64 0, .int .i64 0, .slice none 0 0, .slice none 0 0] := by rw [hW0]; exact Blk.new _ _ _ rfl
 have z0 : w.heap.size < W0.heap.size := k0.lt
 have hlt := h.lt
 have HB := hide (h.below b0)
 have HW := Lib.hid hW0
 have m0 : Mk w W0 g (g + 1) := Mk.alloc b0 (by omega)
 clear hW0 h
 go_enter Try.func147, Try.ntmps147
 go_upto_region 1 with fail
 rw [← HW.out]
 go_wp2_with fail
 refine (drawField_any g T W0 (unhide HB) (by omega)).mono ?_
 rintro e w1 ⟨v1, F, rfl, hG, hn9, o1, s1, m1⟩
 have ok := hG.ok
 obtain ⟨n2, n64⟩ := ok.n_bd
 obtain ⟨a1, c1, rfl, r1, _⟩ := o1.form
 obtain ⟨W1, hW1⟩ : ∃ z, z = w1.alloc (.cells #[.int .i64 F.p, .int .i64 F.k, .slice a1 F.poly.length c1] 26) := ⟨_, rfl⟩
 have b1 : Below w1.heap.size w1 W1 := by rw [hW1]; exact (Below.refl _ _).alloc (Nat.le_refl _) _
 have kF : Blk W1 w1.heap.size 26 #[.int .i64 F.p, .int .i64 F.k, .slice a1 F.poly.length c1] := by rw [hW1]; exact Blk.new _ _ _ rfl
 have z1 := m1.size
 have zF := kF.lt
 have k1 := (k0.kp (m1.kp (.inr (by omega)) k0.lt)).below b1 (by omega)
 have mW := (m0.trans m1).new (b1.mono (by omega)) (by omega)
 have sW := s1.below b1
 have oF := o1.below b1 (Nat.le_refl _)
 have hPF : ∀ w', Mk W1 w' g (g + 1) → PF w' w1.heap.size F := fun w' m => by
  have k := kF.kp (m.kp (.inr (by omega)) kF.lt)
  exact ⟨k.cell 0, k.cell 1, a1, c1, k.cell 2, (oF.mk m (by omega)).rd⟩
 have HPF := hide hPF
 have HW1 := Lib.hid hW1
 have hp2 := ok.p2
 have hp64 := ok.p64
 have hk6 := ok.k6
 clear hW1 hPF o1 s1 r1 m0 m1 b1 k0
 go_upto_region 2 with fail
 rw [← HW1.out]
 go_wp2_with fail
 refine (pick_any g (T + 2) 3 W1 sW (by omega)).mono ?_
 rintro e w2 ⟨x2, rfl, hx2, _, s2, m2⟩
 have hK2 : x2 ≤ 2 := by omega
 go_wp2_with fail
 refine (pick_any g (T + 2 + 2) 5 w2 s2 (by omega)).mono ?_
 rintro e w3 ⟨x3, rfl, hx3, _, s3, m3⟩
 have hN3 : x3 ≤ 4 := by omega
 have m13 := m2.trans m3
 have k3 := kF.kp (m13.kp (.inr (by omega)) kF.lt)
 have e0 := k3.cell 0
 have e1 := k3.cell 1
 clear hx2 hx3 s2 m2 m3 k3
 by_cases hp : F.p = 2
 · by_cases hk1 : (F.k : Int) = 1
   · have hfn : F.n = 2 := by
       have h := ok.n_eq
       have : F.k = 1 := by omega
       rw [this, hp] at h
       simp at h
       omega
     have hpe : (F.p == 2) = true := by rw [hp]; rfl
     have hke : ((F.k : Int) == 1) = true := by rw [hk1]; rfl
     go_wp2_with fail
     refine (one_any g (T + 2 + 2 + 2) 2 w3 s3 (by omega)).mono ?_
     rintro e w4 ⟨b, rfl, s4, m4⟩
     have m14 := m13.trans m4
     cases b with
     | true =>
      go_wp2_with fail
      refine (pick_any g (T + 2 + 2 + 2 + 2) 3 w4 s4 (by omega)).mono ?_
      rintro e w5 ⟨x5, rfl, hx5, _, s5, m5⟩
      have hK5 : x5 ≤ 2 := by omega
      go_wp2_with fail
      refine (pick_any g (T + 2 + 2 + 2 + 2 + 2) 6 w5 s5 (by omega)).mono ?_
      rintro e w6 ⟨x6, rfl, hx6, _, s6, m6⟩
      have hN6 : x6 ≤ 5 := by omega
      have m16 := (m14.trans m5).trans m6
      obtain ⟨K, hKe⟩ : ∃ K : Nat, K = 1 + x2 + x5 := ⟨_, rfl⟩
      obtain ⟨N, hNe⟩ : ∃ N : Nat, N = 1 + x2 + x5 + 1 + x6 := ⟨_, rfl⟩
      have hKi : (K : Int) = 1 + (x2 : Int) + (x5 : Int) := by omega
      have hNi : (N : Int) = 1 + (x2 : Int) + (x5 : Int) + 1 + (x6 : Int) := by omega
      have hK1 : 1 ≤ K := by omega
      have hK8 : K ≤ 5 := by omega
      have hKN : K ≤ N := by omega
      have hN32 : N ≤ 20 := by omega
      have hcap : capTo F.n 4096 K ≤ 4096 := by rw [hfn]; exact cap2 K (by omega)
      go_upto_region 7 with fail
      try clear hfn
      try clear hke
      try clear hpe
      try clear hk1
      try clear hp
      go_wp2_with fail
      have hdr := drawRows_any g (T + 100) w1.heap.size F N K w6 (s6.mono (by omega)) (by omega) (by omega) (by omega) (fun w' m => unhide HPF _ (m16.trans m)) ok
      rw [hKi, hNi] at hdr
      refine hdr.mono ?_
      rintro e wR ⟨vr, A, rfl, hAl, hAM, oA, sA, mA⟩
      have mR := m16.trans mA
      have zR := mR.size
      have z6 := m16.size
      obtain ⟨gA, cA, rfl, hgA, hgA', _, _⟩ := oA.at_ (by omega)
      have hM0 := Mat_nth hAM (i := 0) (by omega)
      obtain ⟨a0, c0, o0, hcell0, _⟩ := oA.row (i := 0) (by omega)
      rw [hM0.1] at o0 hcell0
      obtain ⟨g0, c0', e0', hg0, _, _, _⟩ := o0.at_len hM0.1 (by omega)
      injection e0' with ea _ ec
      subst ea
      subst ec
      have hc0 := hcell0 gA 0 _ _ rfl
      rw [Nat.add_zero] at hc0
      have hneA := oA.ne_row o0
      have boxes : ∀ W, Mk wR W g (g + 1) → W.cell? ⟨gA, 0, none⟩ = some (.slice (some ⟨g0, 0, none⟩) N c0) := fun W m => (cell_block ((m.kp (lo' := gA) (hi' := gA + 1) (by omega) (by omega)).2 gA (Nat.le_refl _) (by omega)) _).trans hc0
      have BX := hide boxes
      have hAp : 0 < A.length := by omega
      have hA5 : A.length ≤ 5 := by omega
      have hcapA : capTo F.n 4096 A.length ≤ 4096 := by rw [hAl]; exact hcap
      have HNI := Lib.hid hNi
      have hpk := pick_any g (T + 100 + 5000 * K) N wR.drew (sA.below (Below.drewn 1)) (by omega)
      rw [hNi] at hpk
      have hdw : Mk wR wR.drew g (g + 1) := Mk.alloc (Below.drewn 1) (by omega)
      have HPK := hide hpk
      have HOA := hide oA
      have HAM := hide hAM
      have HM0 := hide hM0
      clear boxes hpk oA hAM hM0 o0 hcell0 hc0 e0 e1 hdr hAl hKe hKi hNe hNi hcap
      go_upto_region 8 with fail
      refine wp_region_noPanic ?_
      refine wp_region_ord (S := (fun W => W.cell? ⟨gA, 0, none⟩ = some (.slice (some ⟨g0, 0, none⟩) N c0))) [(true, 0), (true, 1), (true, 2), (true, 3), (true, 4), (false, 5), (true, 6), (false, 7)] (by kernel_rfl) (by kernel_rfl) (by kernel_rfl) rfl (fun _ _ _ _ _ h => h) ?_ (fun hHeld => ?_)
      · exact (unhide BX) _ hdw
      refine SeqO.take (by rfl) (v := ?hv1) (by rfl) ?hy1 ?hr1
      case hy1 =>
       intro w hSw
       try dsimp only at hSw
       go_simp
       try (with_reducible rfl)
      try simp only [Act.put, List.setIfInBounds_toArray, List.set_cons_zero, List.set_cons_succ]
      refine SeqO.take (by rfl) (v := ?hv2) (by rfl) ?hy2 ?hr2
      case hy2 =>
       intro w hSw
       try dsimp only at hSw
       go_simp
       try (with_reducible rfl)
      try simp only [Act.put, List.setIfInBounds_toArray, List.set_cons_zero, List.set_cons_succ]
      refine SeqO.take (by rfl) (v := ?hv3) (by rfl) ?hy3 ?hr3
      case hy3 =>
       intro w hSw
       try dsimp only at hSw
       go_simp
       try (with_reducible rfl)
      try simp only [Act.put, List.setIfInBounds_toArray, List.set_cons_zero, List.set_cons_succ]
      refine SeqO.take (by rfl) (v := ?hv4) (by rfl) ?hy4 ?hr4
      case hy4 =>
       intro w hSw
       try dsimp only at hSw
       go_simp
       try (with_reducible rfl)
      try simp only [Act.put, List.setIfInBounds_toArray, List.set_cons_zero, List.set_cons_succ]
      refine SeqO.take (by rfl) (v := ?hv5) (by rfl) ?hy5 ?hr5
      case hy5 =>
       intro w hSw
       try dsimp only at hSw
       go_simp
       try (with_reducible rfl)
      try simp only [Act.put, List.setIfInBounds_toArray, List.set_cons_zero, List.set_cons_succ]
      refine SeqO.call (by rfl) (fun K hK => ?_)
      go_simp
      refine (unhide HPK).mono ?_
      rintro e w8 ⟨x8, rfl, hx8, _, s8, m8⟩
      have hx8N : x8 < N := by have := HNI.out; omega
      have m8d := hdw.trans m8
      have oA8 := (unhide HOA).mk m8d (by omega)
      obtain ⟨a08, c08, o08, hcell8, hput⟩ := oA8.row (i := 0) hAp
      have hc8 := hcell8 gA 0 _ _ rfl
      rw [Nat.add_zero, (unhide BX) _ m8d] at hc8
      injection hc8 with hc8
      injection hc8 with ha8 hl8 hcc8
      subst ha8
      subst hcc8
      rw [← hl8] at o08 hput
      clear hl8
      have cx := o08.cell (j := x8) (by rw [(unhide HM0).1]; exact hx8N)
      have fx := o08.frozen x8
      refine hK.out _ _ ?_ (fun hHeld => ?_)
      · exact (unhide BX) _ m8d
      clear hK K
      try simp only [Act.put, List.setIfInBounds_toArray, List.set_cons_zero, List.set_cons_succ]
      refine SeqO.take (by rfl) (v := ?hv6) (by rfl) ?hy6 ?hr6
      case hy6 =>
       intro w hSw
       try dsimp only at hSw
       go_simp
       try (with_reducible rfl)
      try simp only [Act.put, List.setIfInBounds_toArray, List.set_cons_zero, List.set_cons_succ]
      refine SeqO.call (by rfl) (fun K hK => ?_)
      go_simp
      skip
      refine hK.out _ _ ?_ (fun hHeld => ?_)
      · exact (cell_block (Below.heap_setCell w8 _ _ gA hneA) _).trans ((unhide BX) _ m8d)
      clear hK K
      try simp only [Act.put, List.setIfInBounds_toArray, List.set_cons_zero, List.set_cons_succ]
      refine SeqO.done (NoPanic.normal ?_)
      have hst := o08.set x8 1
      have oN := hput _ ((nthL A 0).set x8 1) hst.1 (by rw [List.length_set]; exact (unhide HM0).1) hst.2
      have m9 := (mR.trans m8d).own hst.2 (by omega) (by omega)
      have s9 := s8.keep (B := w.heap.size) ((Below.refl w.heap.size w8).grown hst.2 (by have := (mR.trans m8d).size; omega) (fun q hq => by injection hq; omega)) hlt
      have hb9 := hst.2
      obtain ⟨w9, h9⟩ : ∃ z, z = w8.setCell ⟨g0, x8, none⟩ (.int .i64 1) := ⟨_, rfl⟩
      rw [← h9] at oN m9 hb9 s9 ⊢
      have hz9 := m9.size
      have hAM' := set_Mat ok (unhide HAM) hAp x8
      obtain ⟨hC, hmk⟩ := drawn_gc hG (unhide HAM) hAp hx8N (by omega) (by omega) hcapA
      have hfo := l17Form_any w1.heap.size F (some ⟨gA, 0, none⟩) cA _ N w9 (unhide HPF _ m9) hG oN.rd (by rw [List.length_set]; exact hAp) hAM'
      rw [List.length_set] at hfo
      generalize form F (A.set 0 ((nthL A 0).set x8 1)) N = m at hC hmk hfo
      have HFO := hide hfo
      have HC := hide hC
      have HMK := Lib.hid hmk
      clear h9 oN hfo hC hmk hput hst o08 hcell8 oA8 cx fx hAM' hb9
      go_wp2_with fail
      refine (unhide HFO).mono ?_
      rintro e w10 ⟨v10, rfl, o10, b10⟩
      obtain ⟨ra, rc, rfl, _⟩ := o10.form
      have m10 := m9.new (b10.mono hz9) (by omega)
      have hmake := l18Make_any w9.heap.size w1.heap.size F ra rc m w10 (unhide HPF _ m10) ok o10 b10.size
      rw [HMK.out] at hmake
      have HMA := hide hmake
      clear hmake o10
      go_wp2_with fail
      refine (unhide HMA).mono ?_
      rintro e w11 ⟨v11, u11, rfl, o11, q11, b11⟩
      have o11 : Own w11 w9.heap.size v11 F.poly := o11
      have q11 : OwnS w11 w9.heap.size u11 m := q11
      obtain ⟨a11, c11, rfl, _⟩ := o11.form
      obtain ⟨ra11, rc11, rfl, _⟩ := q11.form
      obtain ⟨W12, h12⟩ : ∃ z, z = w11.alloc (.cells #[.int .i64 F.p, .int .i64 F.k, .slice a11 F.poly.length c11, .slice ra11 m.length rc11] 55) := ⟨_, rfl⟩
      have b12 : Below w11.heap.size w11 W12 := by rw [h12]; exact (Below.refl _ _).alloc (Nat.le_refl _) _
      have kC : Blk W12 w11.heap.size 55 #[.int .i64 F.p, .int .i64 F.k, .slice a11 F.poly.length c11, .slice ra11 m.length rc11] := by rw [h12]; exact Blk.new _ _ _ rfl
      have z11 := b11.size
      have z10 := b10.size
      have bb := Below.chain b11 b12
      have m12 := m10.new (bb.mono (by omega)) (by omega)
      have kR := k1.kp (m12.kp (lo' := w.heap.size) (hi' := w.heap.size + 1) (.inr (by omega)) k1.lt)
      have o12 := o11.below b12 (Nat.le_refl _)
      have q12 := q11.below b12 (Nat.le_refl _)
      have s12 := s9.keep (Below.chain b10 bb) (by omega)
      have HS12 := Lib.hid s12
      clear s8 s9 s12
      have e0 := kC.cell 0
      have e1 := kC.cell 1
      have e2 := kC.cell 2
      have e3 := kC.cell 3
      have f0 := kR.cell 0
      have f1 := kR.cell 1
      have f2 := kR.cell 2
      have f3 := kR.cell 3
      have g0 := kR.frozen 0
      have g1 := kR.frozen 1
      have g2 := kR.frozen 2
      have g3 := kR.frozen 3
      have H12 := Lib.hid h12
      clear h12 o11 q11
      go_upto_region 10 with fail
      rw [← H12.out]
      go_wp2
      refine bodyPost_ret (results_cell_row rfl _ _ w.heap.size 55 #[.int .i64 F.p, .int .i64 F.k, .slice a11 F.poly.length c11, .slice ra11 m.length rc11] (0, 0) _ rfl (kR.b4.store _ _ _ _) Try.underlying55 rfl (by kernel_rfl)) rfl ⟨⟨F, N, m, _, _, rfl, unhide HC, ?_, ?_⟩, (mW.trans m12).new (Below.set4 (Below.refl _ _) (Nat.le_refl _) _ _ _ _) (by omega), (HS12.out.keep (B := w.heap.size) (Below.set4 (Below.refl _ _) (Nat.le_refl _) _ _ _ _) hlt).mono (by omega)⟩
      · have hs : w.heap.size < w9.heap.size := by omega
        exact ((((o12.storeBelow hs _).storeBelow hs _).storeBelow hs _).storeBelow hs _).mono (Nat.le_of_lt hs)
      · exact (q12.set4 (by omega) _ _ _ _).mono (by omega)
     | false =>
      obtain ⟨K, hKe⟩ : ∃ K : Nat, K = 1 + x2 := ⟨_, rfl⟩
      obtain ⟨N, hNe⟩ : ∃ N : Nat, N = 1 + x2 + x3 := ⟨_, rfl⟩
      have hKi : (K : Int) = 1 + (x2 : Int) := by omega
      have hNi : (N : Int) = 1 + (x2 : Int) + (x3 : Int) := by omega
      have hK1 : 1 ≤ K := by omega
      have hK8 : K ≤ 5 := by omega
      have hKN : K ≤ N := by omega
      have hN32 : N ≤ 20 := by omega
      have hcap : capTo F.n 4096 K ≤ 4096 := cap9 F.n (by omega) K (by omega)
      go_upto_region 7 with fail
      try clear hfn
      try clear hke
      try clear hpe
      try clear hk1
      try clear hp
      go_wp2_with fail
      have hdr := drawRows_any g (T + 100) w1.heap.size F N K w4 (s4.mono (by omega)) (by omega) (by omega) (by omega) (fun w' m => unhide HPF _ (m14.trans m)) ok
      rw [hKi, hNi] at hdr
      refine hdr.mono ?_
      rintro e wR ⟨vr, A, rfl, hAl, hAM, oA, sA, mA⟩
      have mR := m14.trans mA
      have zR := mR.size
      have z6 := m14.size
      obtain ⟨gA, cA, rfl, hgA, hgA', _, _⟩ := oA.at_ (by omega)
      have hM0 := Mat_nth hAM (i := 0) (by omega)
      obtain ⟨a0, c0, o0, hcell0, _⟩ := oA.row (i := 0) (by omega)
      rw [hM0.1] at o0 hcell0
      obtain ⟨g0, c0', e0', hg0, _, _, _⟩ := o0.at_len hM0.1 (by omega)
      injection e0' with ea _ ec
      subst ea
      subst ec
      have hc0 := hcell0 gA 0 _ _ rfl
      rw [Nat.add_zero] at hc0
      have hneA := oA.ne_row o0
      have boxes : ∀ W, Mk wR W g (g + 1) → W.cell? ⟨gA, 0, none⟩ = some (.slice (some ⟨g0, 0, none⟩) N c0) := fun W m => (cell_block ((m.kp (lo' := gA) (hi' := gA + 1) (by omega) (by omega)).2 gA (Nat.le_refl _) (by omega)) _).trans hc0
      have BX := hide boxes
      have hAp : 0 < A.length := by omega
      have hA5 : A.length ≤ 5 := by omega
      have hcapA : capTo F.n 4096 A.length ≤ 4096 := by rw [hAl]; exact hcap
      have HNI := Lib.hid hNi
      have hpk := pick_any g (T + 100 + 5000 * K) N wR.drew (sA.below (Below.drewn 1)) (by omega)
      rw [hNi] at hpk
      have hdw : Mk wR wR.drew g (g + 1) := Mk.alloc (Below.drewn 1) (by omega)
      have HPK := hide hpk
      have HOA := hide oA
      have HAM := hide hAM
      have HM0 := hide hM0
      clear boxes hpk oA hAM hM0 o0 hcell0 hc0 e0 e1 hdr hAl hKe hKi hNe hNi hcap
      go_upto_region 8 with fail
      refine wp_region_noPanic ?_
      refine wp_region_ord (S := (fun W => W.cell? ⟨gA, 0, none⟩ = some (.slice (some ⟨g0, 0, none⟩) N c0))) [(true, 0), (true, 1), (true, 2), (true, 3), (true, 4), (false, 5), (true, 6), (false, 7)] (by kernel_rfl) (by kernel_rfl) (by kernel_rfl) rfl (fun _ _ _ _ _ h => h) ?_ (fun hHeld => ?_)
      · exact (unhide BX) _ hdw
      refine SeqO.take (by rfl) (v := ?hv7) (by rfl) ?hy7 ?hr7
      case hy7 =>
       intro w hSw
       try dsimp only at hSw
       go_simp
       try (with_reducible rfl)
      try simp only [Act.put, List.setIfInBounds_toArray, List.set_cons_zero, List.set_cons_succ]
      refine SeqO.take (by rfl) (v := ?hv8) (by rfl) ?hy8 ?hr8
      case hy8 =>
       intro w hSw
       try dsimp only at hSw
       go_simp
       try (with_reducible rfl)
      try simp only [Act.put, List.setIfInBounds_toArray, List.set_cons_zero, List.set_cons_succ]
      refine SeqO.take (by rfl) (v := ?hv9) (by rfl) ?hy9 ?hr9
      case hy9 =>
       intro w hSw
       try dsimp only at hSw
       go_simp
       try (with_reducible rfl)
      try simp only [Act.put, List.setIfInBounds_toArray, List.set_cons_zero, List.set_cons_succ]
      refine SeqO.take (by rfl) (v := ?hv10) (by rfl) ?hy10 ?hr10
      case hy10 =>
       intro w hSw
       try dsimp only at hSw
       go_simp
       try (with_reducible rfl)
      try simp only [Act.put, List.setIfInBounds_toArray, List.set_cons_zero, List.set_cons_succ]
      refine SeqO.take (by rfl) (v := ?hv11) (by rfl) ?hy11 ?hr11
      case hy11 =>
       intro w hSw
       try dsimp only at hSw
       go_simp
       try (with_reducible rfl)
      try simp only [Act.put, List.setIfInBounds_toArray, List.set_cons_zero, List.set_cons_succ]
      refine SeqO.call (by rfl) (fun K hK => ?_)
      go_simp
      refine (unhide HPK).mono ?_
      rintro e w8 ⟨x8, rfl, hx8, _, s8, m8⟩
      have hx8N : x8 < N := by have := HNI.out; omega
      have m8d := hdw.trans m8
      have oA8 := (unhide HOA).mk m8d (by omega)
      obtain ⟨a08, c08, o08, hcell8, hput⟩ := oA8.row (i := 0) hAp
      have hc8 := hcell8 gA 0 _ _ rfl
      rw [Nat.add_zero, (unhide BX) _ m8d] at hc8
      injection hc8 with hc8
      injection hc8 with ha8 hl8 hcc8
      subst ha8
      subst hcc8
      rw [← hl8] at o08 hput
      clear hl8
      have cx := o08.cell (j := x8) (by rw [(unhide HM0).1]; exact hx8N)
      have fx := o08.frozen x8
      refine hK.out _ _ ?_ (fun hHeld => ?_)
      · exact (unhide BX) _ m8d
      clear hK K
      try simp only [Act.put, List.setIfInBounds_toArray, List.set_cons_zero, List.set_cons_succ]
      refine SeqO.take (by rfl) (v := ?hv12) (by rfl) ?hy12 ?hr12
      case hy12 =>
       intro w hSw
       try dsimp only at hSw
       go_simp
       try (with_reducible rfl)
      try simp only [Act.put, List.setIfInBounds_toArray, List.set_cons_zero, List.set_cons_succ]
      refine SeqO.call (by rfl) (fun K hK => ?_)
      go_simp
      skip
      refine hK.out _ _ ?_ (fun hHeld => ?_)
      · exact (cell_block (Below.heap_setCell w8 _ _ gA hneA) _).trans ((unhide BX) _ m8d)
      clear hK K
      try simp only [Act.put, List.setIfInBounds_toArray, List.set_cons_zero, List.set_cons_succ]
      refine SeqO.done (NoPanic.normal ?_)
      have hst := o08.set x8 1
      have oN := hput _ ((nthL A 0).set x8 1) hst.1 (by rw [List.length_set]; exact (unhide HM0).1) hst.2
      have m9 := (mR.trans m8d).own hst.2 (by omega) (by omega)
      have s9 := s8.keep (B := w.heap.size) ((Below.refl w.heap.size w8).grown hst.2 (by have := (mR.trans m8d).size; omega) (fun q hq => by injection hq; omega)) hlt
      have hb9 := hst.2
      obtain ⟨w9, h9⟩ : ∃ z, z = w8.setCell ⟨g0, x8, none⟩ (.int .i64 1) := ⟨_, rfl⟩
      rw [← h9] at oN m9 hb9 s9 ⊢
      have hz9 := m9.size
      have hAM' := set_Mat ok (unhide HAM) hAp x8
      obtain ⟨hC, hmk⟩ := drawn_gc hG (unhide HAM) hAp hx8N (by omega) (by omega) hcapA
      have hfo := l17Form_any w1.heap.size F (some ⟨gA, 0, none⟩) cA _ N w9 (unhide HPF _ m9) hG oN.rd (by rw [List.length_set]; exact hAp) hAM'
      rw [List.length_set] at hfo
      generalize form F (A.set 0 ((nthL A 0).set x8 1)) N = m at hC hmk hfo
      have HFO := hide hfo
      have HC := hide hC
      have HMK := Lib.hid hmk
      clear h9 oN hfo hC hmk hput hst o08 hcell8 oA8 cx fx hAM' hb9
      go_wp2_with fail
      refine (unhide HFO).mono ?_
      rintro e w10 ⟨v10, rfl, o10, b10⟩
      obtain ⟨ra, rc, rfl, _⟩ := o10.form
      have m10 := m9.new (b10.mono hz9) (by omega)
      have hmake := l18Make_any w9.heap.size w1.heap.size F ra rc m w10 (unhide HPF _ m10) ok o10 b10.size
      rw [HMK.out] at hmake
      have HMA := hide hmake
      clear hmake o10
      go_wp2_with fail
      refine (unhide HMA).mono ?_
      rintro e w11 ⟨v11, u11, rfl, o11, q11, b11⟩
      have o11 : Own w11 w9.heap.size v11 F.poly := o11
      have q11 : OwnS w11 w9.heap.size u11 m := q11
      obtain ⟨a11, c11, rfl, _⟩ := o11.form
      obtain ⟨ra11, rc11, rfl, _⟩ := q11.form
      obtain ⟨W12, h12⟩ : ∃ z, z = w11.alloc (.cells #[.int .i64 F.p, .int .i64 F.k, .slice a11 F.poly.length c11, .slice ra11 m.length rc11] 55) := ⟨_, rfl⟩
      have b12 : Below w11.heap.size w11 W12 := by rw [h12]; exact (Below.refl _ _).alloc (Nat.le_refl _) _
      have kC : Blk W12 w11.heap.size 55 #[.int .i64 F.p, .int .i64 F.k, .slice a11 F.poly.length c11, .slice ra11 m.length rc11] := by rw [h12]; exact Blk.new _ _ _ rfl
      have z11 := b11.size
      have z10 := b10.size
      have bb := Below.chain b11 b12
      have m12 := m10.new (bb.mono (by omega)) (by omega)
      have kR := k1.kp (m12.kp (lo' := w.heap.size) (hi' := w.heap.size + 1) (.inr (by omega)) k1.lt)
      have o12 := o11.below b12 (Nat.le_refl _)
      have q12 := q11.below b12 (Nat.le_refl _)
      have s12 := s9.keep (Below.chain b10 bb) (by omega)
      have HS12 := Lib.hid s12
      clear s8 s9 s12
      have e0 := kC.cell 0
      have e1 := kC.cell 1
      have e2 := kC.cell 2
      have e3 := kC.cell 3
      have f0 := kR.cell 0
      have f1 := kR.cell 1
      have f2 := kR.cell 2
      have f3 := kR.cell 3
      have g0 := kR.frozen 0
      have g1 := kR.frozen 1
      have g2 := kR.frozen 2
      have g3 := kR.frozen 3
      have H12 := Lib.hid h12
      clear h12 o11 q11
      go_upto_region 10 with fail
      rw [← H12.out]
      go_wp2
      refine bodyPost_ret (results_cell_row rfl _ _ w.heap.size 55 #[.int .i64 F.p, .int .i64 F.k, .slice a11 F.poly.length c11, .slice ra11 m.length rc11] (0, 0) _ rfl (kR.b4.store _ _ _ _) Try.underlying55 rfl (by kernel_rfl)) rfl ⟨⟨F, N, m, _, _, rfl, unhide HC, ?_, ?_⟩, (mW.trans m12).new (Below.set4 (Below.refl _ _) (Nat.le_refl _) _ _ _ _) (by omega), (HS12.out.keep (B := w.heap.size) (Below.set4 (Below.refl _ _) (Nat.le_refl _) _ _ _ _) hlt).mono (by omega)⟩
      · have hs : w.heap.size < w9.heap.size := by omega
        exact ((((o12.storeBelow hs _).storeBelow hs _).storeBelow hs _).storeBelow hs _).mono (Nat.le_of_lt hs)
      · exact (q12.set4 (by omega) _ _ _ _).mono (by omega)
   · have hpe : (F.p == 2) = true := by rw [hp]; rfl
     have hke : ((F.k : Int) == 1) = false := by rw [beq_eq_false_iff_ne]; exact hk1
     obtain ⟨K, hKe⟩ : ∃ K : Nat, K = 1 + x2 := ⟨_, rfl⟩
     obtain ⟨N, hNe⟩ : ∃ N : Nat, N = 1 + x2 + x3 := ⟨_, rfl⟩
     have hKi : (K : Int) = 1 + (x2 : Int) := by omega
     have hNi : (N : Int) = 1 + (x2 : Int) + (x3 : Int) := by omega
     have hK1 : 1 ≤ K := by omega
     have hK8 : K ≤ 5 := by omega
     have hKN : K ≤ N := by omega
     have hN32 : N ≤ 20 := by omega
     have hcap : capTo F.n 4096 K ≤ 4096 := cap9 F.n (by omega) K (by omega)
     go_upto_region 7 with fail
     try clear hfn
     try clear hke
     try clear hpe
     try clear hk1
     try clear hp
     go_wp2_with fail
     have hdr := drawRows_any g (T + 100) w1.heap.size F N K w3 (s3.mono (by omega)) (by omega) (by omega) (by omega) (fun w' m => unhide HPF _ (m13.trans m)) ok
     rw [hKi, hNi] at hdr
     refine hdr.mono ?_
     rintro e wR ⟨vr, A, rfl, hAl, hAM, oA, sA, mA⟩
     have mR := m13.trans mA
     have zR := mR.size
     have z6 := m13.size
     obtain ⟨gA, cA, rfl, hgA, hgA', _, _⟩ := oA.at_ (by omega)
     have hM0 := Mat_nth hAM (i := 0) (by omega)
     obtain ⟨a0, c0, o0, hcell0, _⟩ := oA.row (i := 0) (by omega)
     rw [hM0.1] at o0 hcell0
     obtain ⟨g0, c0', e0', hg0, _, _, _⟩ := o0.at_len hM0.1 (by omega)
     injection e0' with ea _ ec
     subst ea
     subst ec
     have hc0 := hcell0 gA 0 _ _ rfl
     rw [Nat.add_zero] at hc0
     have hneA := oA.ne_row o0
     have boxes : ∀ W, Mk wR W g (g + 1) → W.cell? ⟨gA, 0, none⟩ = some (.slice (some ⟨g0, 0, none⟩) N c0) := fun W m => (cell_block ((m.kp (lo' := gA) (hi' := gA + 1) (by omega) (by omega)).2 gA (Nat.le_refl _) (by omega)) _).trans hc0
     have BX := hide boxes
     have hAp : 0 < A.length := by omega
     have hA5 : A.length ≤ 5 := by omega
     have hcapA : capTo F.n 4096 A.length ≤ 4096 := by rw [hAl]; exact hcap
     have HNI := Lib.hid hNi
     have hpk := pick_any g (T + 100 + 5000 * K) N wR.drew (sA.below (Below.drewn 1)) (by omega)
     rw [hNi] at hpk
     have hdw : Mk wR wR.drew g (g + 1) := Mk.alloc (Below.drewn 1) (by omega)
     have HPK := hide hpk
     have HOA := hide oA
     have HAM := hide hAM
     have HM0 := hide hM0
     clear boxes hpk oA hAM hM0 o0 hcell0 hc0 e0 e1 hdr hAl hKe hKi hNe hNi hcap
     go_upto_region 8 with fail
     refine wp_region_noPanic ?_
     refine wp_region_ord (S := (fun W => W.cell? ⟨gA, 0, none⟩ = some (.slice (some ⟨g0, 0, none⟩) N c0))) [(true, 0), (true, 1), (true, 2), (true, 3), (true, 4), (false, 5), (true, 6), (false, 7)] (by kernel_rfl) (by kernel_rfl) (by kernel_rfl) rfl (fun _ _ _ _ _ h => h) ?_ (fun hHeld => ?_)
     · exact (unhide BX) _ hdw
     refine SeqO.take (by rfl) (v := ?hv13) (by rfl) ?hy13 ?hr13
     case hy13 =>
      intro w hSw
      try dsimp only at hSw
      go_simp
      try (with_reducible rfl)
     try simp only [Act.put, List.setIfInBounds_toArray, List.set_cons_zero, List.set_cons_succ]
     refine SeqO.take (by rfl) (v := ?hv14) (by rfl) ?hy14 ?hr14
     case hy14 =>
      intro w hSw
      try dsimp only at hSw
      go_simp
      try (with_reducible rfl)
     try simp only [Act.put, List.setIfInBounds_toArray, List.set_cons_zero, List.set_cons_succ]
     refine SeqO.take (by rfl) (v := ?hv15) (by rfl) ?hy15 ?hr15
     case hy15 =>
      intro w hSw
      try dsimp only at hSw
      go_simp
      try (with_reducible rfl)
     try simp only [Act.put, List.setIfInBounds_toArray, List.set_cons_zero, List.set_cons_succ]
     refine SeqO.take (by rfl) (v := ?hv16) (by rfl) ?hy16 ?hr16
     case hy16 =>
      intro w hSw
      try dsimp only at hSw
      go_simp
      try (with_reducible rfl)
     try simp only [Act.put, List.setIfInBounds_toArray, List.set_cons_zero, List.set_cons_succ]
     refine SeqO.take (by rfl) (v := ?hv17) (by rfl) ?hy17 ?hr17
     case hy17 =>
      intro w hSw
      try dsimp only at hSw
      go_simp
      try (with_reducible rfl)
     try simp only [Act.put, List.setIfInBounds_toArray, List.set_cons_zero, List.set_cons_succ]
     refine SeqO.call (by rfl) (fun K hK => ?_)
     go_simp
     refine (unhide HPK).mono ?_
     rintro e w8 ⟨x8, rfl, hx8, _, s8, m8⟩
     have hx8N : x8 < N := by have := HNI.out; omega
     have m8d := hdw.trans m8
     have oA8 := (unhide HOA).mk m8d (by omega)
     obtain ⟨a08, c08, o08, hcell8, hput⟩ := oA8.row (i := 0) hAp
     have hc8 := hcell8 gA 0 _ _ rfl
     rw [Nat.add_zero, (unhide BX) _ m8d] at hc8
     injection hc8 with hc8
     injection hc8 with ha8 hl8 hcc8
     subst ha8
     subst hcc8
     rw [← hl8] at o08 hput
     clear hl8
     have cx := o08.cell (j := x8) (by rw [(unhide HM0).1]; exact hx8N)
     have fx := o08.frozen x8
     refine hK.out _ _ ?_ (fun hHeld => ?_)
     · exact (unhide BX) _ m8d
     clear hK K
     try simp only [Act.put, List.setIfInBounds_toArray, List.set_cons_zero, List.set_cons_succ]
     refine SeqO.take (by rfl) (v := ?hv18) (by rfl) ?hy18 ?hr18
     case hy18 =>
      intro w hSw
      try dsimp only at hSw
      go_simp
      try (with_reducible rfl)
     try simp only [Act.put, List.setIfInBounds_toArray, List.set_cons_zero, List.set_cons_succ]
     refine SeqO.call (by rfl) (fun K hK => ?_)
     go_simp
     skip
     refine hK.out _ _ ?_ (fun hHeld => ?_)
     · exact (cell_block (Below.heap_setCell w8 _ _ gA hneA) _).trans ((unhide BX) _ m8d)
     clear hK K
     try simp only [Act.put, List.setIfInBounds_toArray, List.set_cons_zero, List.set_cons_succ]
     refine SeqO.done (NoPanic.normal ?_)
     have hst := o08.set x8 1
     have oN := hput _ ((nthL A 0).set x8 1) hst.1 (by rw [List.length_set]; exact (unhide HM0).1) hst.2
     have m9 := (mR.trans m8d).own hst.2 (by omega) (by omega)
     have s9 := s8.keep (B := w.heap.size) ((Below.refl w.heap.size w8).grown hst.2 (by have := (mR.trans m8d).size; omega) (fun q hq => by injection hq; omega)) hlt
     have hb9 := hst.2
     obtain ⟨w9, h9⟩ : ∃ z, z = w8.setCell ⟨g0, x8, none⟩ (.int .i64 1) := ⟨_, rfl⟩
     rw [← h9] at oN m9 hb9 s9 ⊢
     have hz9 := m9.size
     have hAM' := set_Mat ok (unhide HAM) hAp x8
     obtain ⟨hC, hmk⟩ := drawn_gc hG (unhide HAM) hAp hx8N (by omega) (by omega) hcapA
     have hfo := l17Form_any w1.heap.size F (some ⟨gA, 0, none⟩) cA _ N w9 (unhide HPF _ m9) hG oN.rd (by rw [List.length_set]; exact hAp) hAM'
     rw [List.length_set] at hfo
     generalize form F (A.set 0 ((nthL A 0).set x8 1)) N = m at hC hmk hfo
     have HFO := hide hfo
     have HC := hide hC
     have HMK := Lib.hid hmk
     clear h9 oN hfo hC hmk hput hst o08 hcell8 oA8 cx fx hAM' hb9
     go_wp2_with fail
     refine (unhide HFO).mono ?_
     rintro e w10 ⟨v10, rfl, o10, b10⟩
     obtain ⟨ra, rc, rfl, _⟩ := o10.form
     have m10 := m9.new (b10.mono hz9) (by omega)
     have hmake := l18Make_any w9.heap.size w1.heap.size F ra rc m w10 (unhide HPF _ m10) ok o10 b10.size
     rw [HMK.out] at hmake
     have HMA := hide hmake
     clear hmake o10
     go_wp2_with fail
     refine (unhide HMA).mono ?_
     rintro e w11 ⟨v11, u11, rfl, o11, q11, b11⟩
     have o11 : Own w11 w9.heap.size v11 F.poly := o11
     have q11 : OwnS w11 w9.heap.size u11 m := q11
     obtain ⟨a11, c11, rfl, _⟩ := o11.form
     obtain ⟨ra11, rc11, rfl, _⟩ := q11.form
     obtain ⟨W12, h12⟩ : ∃ z, z = w11.alloc (.cells #[.int .i64 F.p, .int .i64 F.k, .slice a11 F.poly.length c11, .slice ra11 m.length rc11] 55) := ⟨_, rfl⟩
     have b12 : Below w11.heap.size w11 W12 := by rw [h12]; exact (Below.refl _ _).alloc (Nat.le_refl _) _
     have kC : Blk W12 w11.heap.size 55 #[.int .i64 F.p, .int .i64 F.k, .slice a11 F.poly.length c11, .slice ra11 m.length rc11] := by rw [h12]; exact Blk.new _ _ _ rfl
     have z11 := b11.size
     have z10 := b10.size
     have bb := Below.chain b11 b12
     have m12 := m10.new (bb.mono (by omega)) (by omega)
     have kR := k1.kp (m12.kp (lo' := w.heap.size) (hi' := w.heap.size + 1) (.inr (by omega)) k1.lt)
     have o12 := o11.below b12 (Nat.le_refl _)
     have q12 := q11.below b12 (Nat.le_refl _)
     have s12 := s9.keep (Below.chain b10 bb) (by omega)
     have HS12 := Lib.hid s12
     clear s8 s9 s12
     have e0 := kC.cell 0
     have e1 := kC.cell 1
     have e2 := kC.cell 2
     have e3 := kC.cell 3
     have f0 := kR.cell 0
     have f1 := kR.cell 1
     have f2 := kR.cell 2
     have f3 := kR.cell 3
     have g0 := kR.frozen 0
     have g1 := kR.frozen 1
     have g2 := kR.frozen 2
     have g3 := kR.frozen 3
     have H12 := Lib.hid h12
     clear h12 o11 q11
     go_upto_region 10 with fail
     rw [← H12.out]
     go_wp2
     refine bodyPost_ret (results_cell_row rfl _ _ w.heap.size 55 #[.int .i64 F.p, .int .i64 F.k, .slice a11 F.poly.length c11, .slice ra11 m.length rc11] (0, 0) _ rfl (kR.b4.store _ _ _ _) Try.underlying55 rfl (by kernel_rfl)) rfl ⟨⟨F, N, m, _, _, rfl, unhide HC, ?_, ?_⟩, (mW.trans m12).new (Below.set4 (Below.refl _ _) (Nat.le_refl _) _ _ _ _) (by omega), (HS12.out.keep (B := w.heap.size) (Below.set4 (Below.refl _ _) (Nat.le_refl _) _ _ _ _) hlt).mono (by omega)⟩
     · have hs : w.heap.size < w9.heap.size := by omega
       exact ((((o12.storeBelow hs _).storeBelow hs _).storeBelow hs _).storeBelow hs _).mono (Nat.le_of_lt hs)
     · exact (q12.set4 (by omega) _ _ _ _).mono (by omega)
 · have hpe : (F.p == 2) = false := by rw [beq_eq_false_iff_ne]; exact hp
   obtain ⟨K, hKe⟩ : ∃ K : Nat, K = 1 + x2 := ⟨_, rfl⟩
   obtain ⟨N, hNe⟩ : ∃ N : Nat, N = 1 + x2 + x3 := ⟨_, rfl⟩
   have hKi : (K : Int) = 1 + (x2 : Int) := by omega
   have hNi : (N : Int) = 1 + (x2 : Int) + (x3 : Int) := by omega
   have hK1 : 1 ≤ K := by omega
   have hK8 : K ≤ 5 := by omega
   have hKN : K ≤ N := by omega
   have hN32 : N ≤ 20 := by omega
   have hcap : capTo F.n 4096 K ≤ 4096 := cap9 F.n (by omega) K (by omega)
   go_upto_region 7 with fail
   try clear hfn
   try clear hke
   try clear hpe
   try clear hk1
   try clear hp
   go_wp2_with fail
   have hdr := drawRows_any g (T + 100) w1.heap.size F N K w3 (s3.mono (by omega)) (by omega) (by omega) (by omega) (fun w' m => unhide HPF _ (m13.trans m)) ok
   rw [hKi, hNi] at hdr
   refine hdr.mono ?_
   rintro e wR ⟨vr, A, rfl, hAl, hAM, oA, sA, mA⟩
   have mR := m13.trans mA
   have zR := mR.size
   have z6 := m13.size
   obtain ⟨gA, cA, rfl, hgA, hgA', _, _⟩ := oA.at_ (by omega)
   have hM0 := Mat_nth hAM (i := 0) (by omega)
   obtain ⟨a0, c0, o0, hcell0, _⟩ := oA.row (i := 0) (by omega)
   rw [hM0.1] at o0 hcell0
   obtain ⟨g0, c0', e0', hg0, _, _, _⟩ := o0.at_len hM0.1 (by omega)
   injection e0' with ea _ ec
   subst ea
   subst ec
   have hc0 := hcell0 gA 0 _ _ rfl
   rw [Nat.add_zero] at hc0
   have hneA := oA.ne_row o0
   have boxes : ∀ W, Mk wR W g (g + 1) → W.cell? ⟨gA, 0, none⟩ = some (.slice (some ⟨g0, 0, none⟩) N c0) := fun W m => (cell_block ((m.kp (lo' := gA) (hi' := gA + 1) (by omega) (by omega)).2 gA (Nat.le_refl _) (by omega)) _).trans hc0
   have BX := hide boxes
   have hAp : 0 < A.length := by omega
   have hA5 : A.length ≤ 5 := by omega
   have hcapA : capTo F.n 4096 A.length ≤ 4096 := by rw [hAl]; exact hcap
   have HNI := Lib.hid hNi
   have hpk := pick_any g (T + 100 + 5000 * K) N wR.drew (sA.below (Below.drewn 1)) (by omega)
   rw [hNi] at hpk
   have hdw : Mk wR wR.drew g (g + 1) := Mk.alloc (Below.drewn 1) (by omega)
   have HPK := hide hpk
   have HOA := hide oA
   have HAM := hide hAM
   have HM0 := hide hM0
   clear boxes hpk oA hAM hM0 o0 hcell0 hc0 e0 e1 hdr hAl hKe hKi hNe hNi hcap
   go_upto_region 8 with fail
   refine wp_region_noPanic ?_
   refine wp_region_ord (S := (fun W => W.cell? ⟨gA, 0, none⟩ = some (.slice (some ⟨g0, 0, none⟩) N c0))) [(true, 0), (true, 1), (true, 2), (true, 3), (true, 4), (false, 5), (true, 6), (false, 7)] (by kernel_rfl) (by kernel_rfl) (by kernel_rfl) rfl (fun _ _ _ _ _ h => h) ?_ (fun hHeld => ?_)
   · exact (unhide BX) _ hdw
   refine SeqO.take (by rfl) (v := ?hv19) (by rfl) ?hy19 ?hr19
   case hy19 =>
    intro w hSw
    try dsimp only at hSw
    go_simp
    try (with_reducible rfl)
   try simp only [Act.put, List.setIfInBounds_toArray, List.set_cons_zero, List.set_cons_succ]
   refine SeqO.take (by rfl) (v := ?hv20) (by rfl) ?hy20 ?hr20
   case hy20 =>
    intro w hSw
    try dsimp only at hSw
    go_simp
    try (with_reducible rfl)
   try simp only [Act.put, List.setIfInBounds_toArray, List.set_cons_zero, List.set_cons_succ]
   refine SeqO.take (by rfl) (v := ?hv21) (by rfl) ?hy21 ?hr21
   case hy21 =>
    intro w hSw
    try dsimp only at hSw
    go_simp
    try (with_reducible rfl)
   try simp only [Act.put, List.setIfInBounds_toArray, List.set_cons_zero, List.set_cons_succ]
   refine SeqO.take (by rfl) (v := ?hv22) (by rfl) ?hy22 ?hr22
   case hy22 =>
    intro w hSw
    try dsimp only at hSw
    go_simp
    try (with_reducible rfl)
   try simp only [Act.put, List.setIfInBounds_toArray, List.set_cons_zero, List.set_cons_succ]
   refine SeqO.take (by rfl) (v := ?hv23) (by rfl) ?hy23 ?hr23
   case hy23 =>
    intro w hSw
    try dsimp only at hSw
    go_simp
    try (with_reducible rfl)
   try simp only [Act.put, List.setIfInBounds_toArray, List.set_cons_zero, List.set_cons_succ]
   refine SeqO.call (by rfl) (fun K hK => ?_)
   go_simp
   refine (unhide HPK).mono ?_
   rintro e w8 ⟨x8, rfl, hx8, _, s8, m8⟩
   have hx8N : x8 < N := by have := HNI.out; omega
   have m8d := hdw.trans m8
   have oA8 := (unhide HOA).mk m8d (by omega)
   obtain ⟨a08, c08, o08, hcell8, hput⟩ := oA8.row (i := 0) hAp
   have hc8 := hcell8 gA 0 _ _ rfl
   rw [Nat.add_zero, (unhide BX) _ m8d] at hc8
   injection hc8 with hc8
   injection hc8 with ha8 hl8 hcc8
   subst ha8
   subst hcc8
   rw [← hl8] at o08 hput
   clear hl8
   have cx := o08.cell (j := x8) (by rw [(unhide HM0).1]; exact hx8N)
   have fx := o08.frozen x8
   refine hK.out _ _ ?_ (fun hHeld => ?_)
   · exact (unhide BX) _ m8d
   clear hK K
   try simp only [Act.put, List.setIfInBounds_toArray, List.set_cons_zero, List.set_cons_succ]
   refine SeqO.take (by rfl) (v := ?hv24) (by rfl) ?hy24 ?hr24
   case hy24 =>
    intro w hSw
    try dsimp only at hSw
    go_simp
    try (with_reducible rfl)
   try simp only [Act.put, List.setIfInBounds_toArray, List.set_cons_zero, List.set_cons_succ]
   refine SeqO.call (by rfl) (fun K hK => ?_)
   go_simp
   skip
   refine hK.out _ _ ?_ (fun hHeld => ?_)
   · exact (cell_block (Below.heap_setCell w8 _ _ gA hneA) _).trans ((unhide BX) _ m8d)
   clear hK K
   try simp only [Act.put, List.setIfInBounds_toArray, List.set_cons_zero, List.set_cons_succ]
   refine SeqO.done (NoPanic.normal ?_)
   have hst := o08.set x8 1
   have oN := hput _ ((nthL A 0).set x8 1) hst.1 (by rw [List.length_set]; exact (unhide HM0).1) hst.2
   have m9 := (mR.trans m8d).own hst.2 (by omega) (by omega)
   have s9 := s8.keep (B := w.heap.size) ((Below.refl w.heap.size w8).grown hst.2 (by have := (mR.trans m8d).size; omega) (fun q hq => by injection hq; omega)) hlt
   have hb9 := hst.2
   obtain ⟨w9, h9⟩ : ∃ z, z = w8.setCell ⟨g0, x8, none⟩ (.int .i64 1) := ⟨_, rfl⟩
   rw [← h9] at oN m9 hb9 s9 ⊢
   have hz9 := m9.size
   have hAM' := set_Mat ok (unhide HAM) hAp x8
   obtain ⟨hC, hmk⟩ := drawn_gc hG (unhide HAM) hAp hx8N (by omega) (by omega) hcapA
   have hfo := l17Form_any w1.heap.size F (some ⟨gA, 0, none⟩) cA _ N w9 (unhide HPF _ m9) hG oN.rd (by rw [List.length_set]; exact hAp) hAM'
   rw [List.length_set] at hfo
   generalize form F (A.set 0 ((nthL A 0).set x8 1)) N = m at hC hmk hfo
   have HFO := hide hfo
   have HC := hide hC
   have HMK := Lib.hid hmk
   clear h9 oN hfo hC hmk hput hst o08 hcell8 oA8 cx fx hAM' hb9
   go_wp2_with fail
   refine (unhide HFO).mono ?_
   rintro e w10 ⟨v10, rfl, o10, b10⟩
   obtain ⟨ra, rc, rfl, _⟩ := o10.form
   have m10 := m9.new (b10.mono hz9) (by omega)
   have hmake := l18Make_any w9.heap.size w1.heap.size F ra rc m w10 (unhide HPF _ m10) ok o10 b10.size
   rw [HMK.out] at hmake
   have HMA := hide hmake
   clear hmake o10
   go_wp2_with fail
   refine (unhide HMA).mono ?_
   rintro e w11 ⟨v11, u11, rfl, o11, q11, b11⟩
   have o11 : Own w11 w9.heap.size v11 F.poly := o11
   have q11 : OwnS w11 w9.heap.size u11 m := q11
   obtain ⟨a11, c11, rfl, _⟩ := o11.form
   obtain ⟨ra11, rc11, rfl, _⟩ := q11.form
   obtain ⟨W12, h12⟩ : ∃ z, z = w11.alloc (.cells #[.int .i64 F.p, .int .i64 F.k, .slice a11 F.poly.length c11, .slice ra11 m.length rc11] 55) := ⟨_, rfl⟩
   have b12 : Below w11.heap.size w11 W12 := by rw [h12]; exact (Below.refl _ _).alloc (Nat.le_refl _) _
   have kC : Blk W12 w11.heap.size 55 #[.int .i64 F.p, .int .i64 F.k, .slice a11 F.poly.length c11, .slice ra11 m.length rc11] := by rw [h12]; exact Blk.new _ _ _ rfl
   have z11 := b11.size
   have z10 := b10.size
   have bb := Below.chain b11 b12
   have m12 := m10.new (bb.mono (by omega)) (by omega)
   have kR := k1.kp (m12.kp (lo' := w.heap.size) (hi' := w.heap.size + 1) (.inr (by omega)) k1.lt)
   have o12 := o11.below b12 (Nat.le_refl _)
   have q12 := q11.below b12 (Nat.le_refl _)
   have s12 := s9.keep (Below.chain b10 bb) (by omega)
   have HS12 := Lib.hid s12
   clear s8 s9 s12
   have e0 := kC.cell 0
   have e1 := kC.cell 1
   have e2 := kC.cell 2
   have e3 := kC.cell 3
   have f0 := kR.cell 0
   have f1 := kR.cell 1
   have f2 := kR.cell 2
   have f3 := kR.cell 3
   have g0 := kR.frozen 0
   have g1 := kR.frozen 1
   have g2 := kR.frozen 2
   have g3 := kR.frozen 3
   have H12 := Lib.hid h12
   clear h12 o11 q11
   go_upto_region 10 with fail
   rw [← H12.out]
   go_wp2
   refine bodyPost_ret (results_cell_row rfl _ _ w.heap.size 55 #[.int .i64 F.p, .int .i64 F.k, .slice a11 F.poly.length c11, .slice ra11 m.length rc11] (0, 0) _ rfl (kR.b4.store _ _ _ _) Try.underlying55 rfl (by kernel_rfl)) rfl ⟨⟨F, N, m, _, _, rfl, unhide HC, ?_, ?_⟩, (mW.trans m12).new (Below.set4 (Below.refl _ _) (Nat.le_refl _) _ _ _ _) (by omega), (HS12.out.keep (B := w.heap.size) (Below.set4 (Below.refl _ _) (Nat.le_refl _) _ _ _ _) hlt).mono (by omega)⟩
   · have hs : w.heap.size < w9.heap.size := by omega
     exact ((((o12.storeBelow hs _).storeBelow hs _).storeBelow hs _).storeBelow hs _).mono (Nat.le_of_lt hs)
   · exact (q12.set4 (by omega) _ _ _ _).mono (by omega)
end Go.Proofs.Ytpglmogoddgmoaa
namespace Go.Proofs.Ytpglmogoddgmoaa
open Go.RowKit
attribute [local go_sem ↓] Go.wp_at_zero Go.wp_at_succ
theorem encode_any (F : FD) (tv : Value) (ra : Option Addr) (rc : Nat) (rows : List (List Int)) (b : Option Addr) (cb : Nat) (msg : List Int) (n : Nat) (w : World) (hT : Tabs w F tv) (hG : F.Good) (hx : RdS w ra rows) (hy : Rd w b msg) (h0 : 0 < rows.length) (hM : F.Mat n rows) (hn1 : 1 ≤ n) (hn : n ≤ 32) (hl : msg.length ≤ rows.length) (hm : ∀ x ∈ msg, 0 ≤ x ∧ x < F.n) : Calls Try.prog 188 #[tv, .slice ra rows.length rc, .slice b msg.length cb] w fun e w' => ∃ v, e = .returned v ∧ Own w' w.heap.size v (encTo F n rows msg msg.length) ∧ Below w.heap.size w w' := by
 have hT0 := hT
 obtain ⟨aA, cA, aS, cS, aM, cM, aI, cI, rfl, _, _, _, _⟩ := hT
 have ok := hG.ok
 obtain ⟨n2, n64⟩ := ok.n_bd
 have hxl := hx.len
 have hyl := hy.len
 have hmk := fun W => run_make_row' (P := Try.prog) 24 2 (.int .i64 0) 8 Try.underlying24 Try.info_i64 rfl .i64 .i64 n (by omega) (by omega) W
 obtain ⟨W0, hHW⟩ : ∃ z, z = w.alloc (.cells #[.int .i64 F.n, .slice aA F.n cA, .slice aS F.n cS, .slice aM F.n cM, .slice aI F.n cI] 89) := ⟨_, rfl⟩
 have b0 : Below w.heap.size w W0 := by rw [hHW]; exact (Below.refl _ _).alloc (Nat.le_refl _) _
 have kT : Blk W0 w.heap.size 89 #[.int .i64 F.n, .slice aA F.n cA, .slice aS F.n cS, .slice aM F.n cM, .slice aI F.n cI] := by rw [hHW]; exact Blk.new _ _ _ rfl
 have skT : w.heap.size < W0.heap.size := kT.lt
 have HW := Lib.hid hHW
 clear hHW
 obtain ⟨gb, ob, rfl, hgb, hcc⟩ := (hx.below b0).at_ h0
 obtain ⟨ai0, ci0, h00, _⟩ := hcc 0 h0
 rw [Nat.add_zero, (Mat_nth hM h0).1] at h00
 have HCC := hide hcc
 have HX := hide hx
 have HY := hide hy
 have HMM := hide hM
 have HMS := hide hm
 have HT := hide hT0
 clear hcc hx hy hM hm hT0
 go_enter Try.func188, Try.ntmps188
 go_upto_region 1 with fail
 rw [← HW.out]
 go_upto_region 2 with fail
 obtain ⟨W1, hW1⟩ : ∃ z, z = W0.alloc (.cells (madeCells #[.int .i64 0] n) 2) := ⟨_, rfl⟩
 have oz : Own W1 W0.heap.size (.slice (some ⟨W0.heap.size, 0, none⟩) n n) (zeros n) := by rw [hW1]; exact Own.zeros W0 (Nat.le_refl _) (by omega)
 have bz : Below W0.heap.size W0 W1 := by rw [hW1]; exact (Below.refl _ _).alloc (Nat.le_refl _) _
 have sz : W0.heap.size < W1.heap.size := by rw [hW1]; simp
 rw [← hW1]
 clear hW1
 have kT1 := kT.below bz kT.lt
 have OZ := Lib.hid oz
 clear oz hmk
 go_wp2_with fail
 go_loopw [17] (fun iv wr => ∃ k : Nat, iv = .int .i64 k ∧ k ≤ msg.length ∧ Hid (Own wr W0.heap.size (.slice (some ⟨W0.heap.size, 0, none⟩) n n) (encTo F n rows msg k)) ∧ Hid (W1.grownBy wr (some W0.heap.size))) (fun iv _ => msg.length - (intOf iv).toNat)
 case atStart => exact ⟨0, rfl, Nat.zero_le _, OZ, hide (grown_refl _ _)⟩
 case round =>
  obtain ⟨k, rfl, hk, ho, hg⟩ := hrel
  have hbg : Below W0.heap.size W0 wr := bz.grown hg.out (by omega) (fun q hq => by injection hq; omega)
  have hbw : Below w.heap.size w wr := b0.trans (hbg.mono (Nat.le_of_lt skT))
  by_cases hkl : k < msg.length
  · have kTr := kT1.grown hg.out (by intro e; injection e; omega)
    obtain ⟨gm, om, rfl, _, hcm⟩ := ((unhide HY).below hbw).at_ (by omega)
    have hc1 := hcm k hkl
    have hxr := unhide HMS _ (nth_mem hkl)
    obtain ⟨ai, ci, hr1, hrr⟩ := unhide HCC k (by omega)
    have hmk := Mat_nth (unhide HMM) (show k < rows.length by omega)
    rw [hmk.1] at hr1
    have hr1w : wr.cell? ⟨gb, ob + k, none⟩ = some (.slice ai n ci) := (hbg.cell (p := ⟨gb, ob + k, none⟩) hgb).trans hr1
    obtain ⟨x, hxx⟩ : ∃ x, x = nth msg k := ⟨_, rfl⟩
    rw [← hxx] at hc1 hxr
    have hat : Calls Try.prog 123 #[.agg #[.int .i64 F.n, .slice aA F.n cA, .slice aS F.n cS, .slice aM F.n cM, .slice aI F.n cI], .slice (some ⟨W0.heap.size, 0, none⟩) n n, .slice ai n ci, .int .i64 x] wr.drew fun e w' => e = .returned (.tuple #[]) ∧ Own w' W0.heap.size (.slice (some ⟨W0.heap.size, 0, none⟩) n n) (addTo F (encTo F n rows msg k) (nthL rows k) x n) ∧ wr.drew.grownBy w' (some W0.heap.size) := by
     have hel := encTo_len F n rows msg k
     have h := addTimes_any F _ w wr.drew W0.heap.size W0.heap.size n ai ci (encTo F n rows msg k) (nthL rows k) x ok (unhide HT) hbw.drew (Nat.le_of_lt skT) (by rw [hel]; exact ho.out.drewN 1) ((hrr.below hbg).drewN 1) (fun p hp => by
      obtain ⟨b2, o2, e2, hb2, _⟩ := hrr.at_ (by rw [hmk.1]; omega)
      rw [hp] at e2
      injection e2 with e2
      rw [e2]
      show b2 ≠ W0.heap.size
      omega) (by rw [hel, hmk.1]) hxr.1 hxr.2 (encTo_el ok n rows msg k) hmk.2
     rw [hel, hmk.1] at h
     exact h
    have HAT := hide hat
    have HST := Lib.hid (show encTo F n rows msg (k + 1) = addTo F (encTo F n rows msg k) (nthL rows k) x n by rw [encTo, hxx])
    have f0 := kTr.cell 0
    have f1 := kTr.cell 1
    have f2 := kTr.cell 2
    have f3 := kTr.cell 3
    have f4 := kTr.cell 4
    have hkr : k < rows.length := by omega
    clear hat hxx hmk hcm hrr hr1
    go_wp2_with fail
    go_still_tail 7, (by kernel_rfl)
    change wpList _ _ _ _ _ wr.drew
    go_wp2_with fail
    refine (unhide HAT).mono ?_
    rintro e w5 ⟨rfl, o5, g5⟩
    go_wp2_with fail
    go_roundw
    case rel =>
     refine ⟨k + 1, by go_num, by omega, ?_, hide (grown_trans_row (grown_trans_row hg.out (grown_drew1 wr _)) g5)⟩
     show Own _ _ _ _
     rw [HST.out]
     exact o5
    case measure => simp only [intOf]; omega
  · have hke : k = msg.length := by omega
    have HE := Lib.hid hke
    clear hke
    go_wp2_with fail
    go_ret
    exact ⟨_, rfl, by have h := ho.out; rw [HE.out] at h; exact h.mono (Nat.le_of_lt skT), hbw⟩
end Go.Proofs.Ytpglmogoddgmoaa
namespace Go.Proofs.Ytpglmogoddgmoaa
open Go.RowKit
section
variable {F : FD}
theorem encTo_sum (ok : F.Ok) (n : Nat) (rows : List (List Int)) (msg : List Int) (k : Nat) {i : Nat} (hi : i < n) : nth (encTo F n rows msg k) i = F.sum (fun j => F.mul (nth msg j) (nth (nthL rows j) i)) k := by
 induction k with
 | zero => rw [encTo, zeros_nth]; rfl
 | succ k ih =>
  rw [encTo, addTo_nth F _ _ _ _ (by rw [encTo_len]; exact Nat.le_refl _), if_pos hi, ih]
  rfl
theorem encTo_piv (ok : F.Ok) {n : Nat} {rows : List (List Int)} {pv : List Nat} (h : Ech F n rows pv) {msg : List Int} (hm : ∀ c ∈ msg, 0 ≤ c ∧ c < F.n) {l : Nat} (hl : l < rows.length) : nth (encTo F n rows msg rows.length) (pv.getD l 0) = nth msg l := by
 have hlp : l < pv.length := by rw [h.len]; exact hl
 have hel : F.el (nth msg l) := by
  rcases Nat.lt_or_ge l msg.length with hh | hh
  · exact (el_n ok).2 (hm _ (nth_mem hh))
  · rw [nth_big hh]; exact zero_el ok
 rw [encTo_sum ok n rows msg _ (h.lt l hlp), sum_one ok (l := l) hl (mul_el ok _ _) (fun j hj hne => by rw [h.one j l (by rw [h.len]; exact hj) hlp, if_neg hne, mul_zero_all ok])]
 rw [h.one l l hlp hlp, if_pos rfl, mul_comm' ok, one_mul' ok hel]
end
def wtTo (xs : List Int) : Nat → Nat
 | 0 => 0
 | k + 1 => if nth xs k = 0 then wtTo xs k else wtTo xs k + 1
def wt (xs : List Int) : Nat := wtTo xs xs.length
theorem wtTo_le (xs : List Int) (k : Nat) : wtTo xs k ≤ k := by
 induction k with
 | zero => exact Nat.le_refl _
 | succ k ih => rw [wtTo]; split <;> omega
theorem wtTo_pos {xs : List Int} {k i : Nat} (hi : i < k) (h : nth xs i ≠ 0) : 1 ≤ wtTo xs k := by
 induction k with
 | zero => omega
 | succ k ih =>
  rw [wtTo]
  by_cases e : i = k
  · subst e; rw [if_neg h]; omega
  · have := ih (by omega)
    split <;> omega
def cntW (words : List (List Int)) (n : Nat) : Nat → List Int
 | 0 => zeros (n + 1)
 | k + 1 => (cntW words n k).set (wt (nthL words k)) (nth (cntW words n k) (wt (nthL words k)) + 1)
theorem cntW_len (words : List (List Int)) (n k : Nat) : (cntW words n k).length = n + 1 := by
 induction k with
 | zero => exact zeros_len _
 | succ k ih => rw [cntW, List.length_set, ih]
theorem cntW_bd (words : List (List Int)) (n k i : Nat) : 0 ≤ nth (cntW words n k) i ∧ nth (cntW words n k) i ≤ k := by
 induction k generalizing i with
 | zero => rw [cntW, zeros_nth]; omega
 | succ k ih =>
  rw [cntW]
  by_cases e : wt (nthL words k) = i
  · subst e
    by_cases hl : wt (nthL words k) < (cntW words n k).length
    · rw [nth_set_same hl]
      have := ih (wt (nthL words k))
      omega
    · rw [nth_big (by rw [List.length_set]; omega)]; omega
  · rw [nth_set_ne e]
    have := ih i
    omega
theorem cntW_pos {words : List (List Int)} {n k j : Nat} (hj : j < k) (hn : wt (nthL words j) ≤ n) : 1 ≤ nth (cntW words n k) (wt (nthL words j)) := by
 induction k with
 | zero => omega
 | succ k ih =>
  rw [cntW]
  by_cases e : wt (nthL words k) = wt (nthL words j)
  · rw [e, nth_set_same (by rw [cntW_len]; omega)]
    have := (cntW_bd words n k (wt (nthL words j))).1
    omega
  · rw [nth_set_ne e]
    by_cases e2 : j = k
    · exact absurd (by rw [e2]) e
    · exact ih (by omega)
def leastD (counts : List Int) : Nat := ((List.range counts.length).find? (fun d => decide (1 ≤ d) && (nth counts d != 0))).getD 0
theorem leastD_hit {counts : List Int} {d : Nat} (h1 : 1 ≤ d) (h2 : d < counts.length) (h3 : nth counts d ≠ 0) (h4 : ∀ j, 1 ≤ j → j < d → nth counts j = 0) : leastD counts = d := by
 have : (List.range counts.length).find? (fun d => decide (1 ≤ d) && (nth counts d != 0)) = some d := by
  rw [List.find?_range_eq_some]
  refine ⟨by simp [h1, h3], List.mem_range.2 h2, fun j hj => ?_⟩
  by_cases h : 1 ≤ j
  · simp [h4 j h hj]
  · simp [h]
 rw [leastD, this]; rfl
theorem hig_nth {j q k i : Nat} (hi : i < k) : nth (hig j q k) i = (j : Int) / (q : Int) ^ (k - 1 - i) % (q : Int) := by
 have h : nth (dig (j : Int) (q : Int) k).reverse i = nth (dig (j : Int) (q : Int) k) ((dig (j : Int) (q : Int) k).length - 1 - i) := by
  simp only [nth, List.getD_eq_getElem?_getD]
  rw [List.getElem?_reverse (by rw [dig_len]; exact hi)]
 rw [hig, h, dig_len, dig_nth _ _ (by omega)]
theorem GC.some_word {F : FD} {n : Nat} {m : List (List Int)} (h : GC F n m) : ∃ j, j < F.n ^ m.length ∧ 1 ≤ wt (nthL (wordsTo F n m m.length) j) ∧ wt (nthL (wordsTo F n m m.length) j) ≤ n := by
 have ok := h.good.ok
 obtain ⟨n2, n64⟩ := ok.n_bd
 obtain ⟨pv, _, hE, _⟩ := form_ech h.good h.mat
 rw [h.fix] at hE
 have hm := h.m1
 have hj : 1 < F.n ^ m.length := Nat.one_lt_pow (by omega) (by omega)
 refine ⟨1, hj, ?_, ?_⟩
 · rw [wordsTo_nth F n m hj, wt, encTo_len]
   refine wtTo_pos (i := pv.getD (m.length - 1) 0) (hE.lt _ (by rw [hE.len]; omega)) ?_
   rw [encTo_piv ok hE (hig_el 1 (by omega) _) (by omega), hig_nth (by omega), show m.length - 1 - (m.length - 1) = 0 by omega]
   simp only [Int.pow_zero, Int.ediv_one]
   rw [Int.emod_eq_of_lt (by omega) (by omega)]
   omega
 · have := wtTo_le (nthL (wordsTo F n m m.length) 1) (nthL (wordsTo F n m m.length) 1).length
   rw [wordsTo_nth F n m hj, encTo_len] at this
   rw [wordsTo_nth F n m hj, wt, encTo_len]
   exact this
end Go.Proofs.Ytpglmogoddgmoaa
namespace Go.Proofs.Ytpglmogoddgmoaa
open Go.RowKit
attribute [local go_sem ↓] Go.wp_at_zero Go.wp_at_succ
theorem highFirst_any (j q k : Nat) (w : World) (hj : (j : Int) ≤ 9223372036854775807) (hq : 1 ≤ q) (hq2 : q ≤ 1000000) (hk0 : 1 ≤ k) (hk : k ≤ 1000000) :
    Calls Try.prog 189 #[.int .i64 j, .int .i64 q, .int .i64 k] w fun e w' => ∃ v, e = .returned v ∧ Own w' w.heap.size v (hig j q k) ∧ Below w.heap.size w w' := by
 have hd := fun W => digitsOf_any j q k W (by omega) (by omega) (by omega) (by omega) hk
 have HD := hide hd
 clear hd
 go_enter Try.func189, Try.ntmps189
 go_wp2_with fail
 refine (unhide HD _).mono ?_
 rintro e w1 ⟨v1, rfl, o1, b1⟩
 obtain ⟨g1, c1, rfl, q1, z1, cc1, cd1⟩ := o1.at_len (dig_len _ _ _) hk0
 have hr := reverse_any g1 c1 w.heap.size (dig j q k) w1 (by rw [dig_len]; exact o1)
 rw [dig_len] at hr
 have HR := hide hr
 clear hr
 go_wp2_with fail
 refine (unhide HR).mono ?_
 rintro e w2 ⟨rfl, o2, b2⟩
 go_wp2
 go_ret
 exact ⟨_, rfl, o2, b1.trans b2⟩
def wordsUp (F : FD) (n : Nat) (rows : List (List Int)) (k j : Nat) : List (List Int) := (List.range j).map fun i => encTo F n rows (hig i F.n k) k
theorem wordsUp_len (F : FD) (n : Nat) (rows : List (List Int)) (k j : Nat) : (wordsUp F n rows k j).length = j := by simp [wordsUp]
theorem wordsUp_succ (F : FD) (n : Nat) (rows : List (List Int)) (k j : Nat) : wordsUp F n rows k (j + 1) = wordsUp F n rows k j ++ [encTo F n rows (hig j F.n k) k] := by simp [wordsUp, List.range_succ]
theorem GC.cap_eq {F : FD} {n : Nat} {m : List (List Int)} (h : GC F n m) : capTo F.n 4096 m.length = ((F.n ^ m.length : Nat) : Int) ∧ F.n ^ m.length ≤ 4096 := by
 have h1 := cap_exact' h.cap
 have h2 := h.cap
 rw [h1] at h2
 have e : ((F.n : Int)) ^ m.length = ((F.n ^ m.length : Nat) : Int) := (Int.natCast_pow _ _).symm
 rw [e] at h1 h2
 exact ⟨h1, Int.ofNat_le.1 h2⟩
theorem wordsOf_any (F : FD) (ap : Option Addr) (cp : Nat) (ra : Option Addr) (rc : Nat) (m : List (List Int)) (n : Nat) (w : World) (hR : Rd w ap F.poly) (hm : RdS w ra m) (hC : GC F n m) :
    Calls Try.prog 151 #[.agg #[.int .i64 F.p, .int .i64 F.k, .slice ap F.poly.length cp, .slice ra m.length rc]] w fun e w' => ∃ v, e = .returned v ∧ OwnS w' w.heap.size v (wordsTo F n m m.length) ∧ Below w.heap.size w w' := by
 have hml := hm.len
 have hG := hC.good
 have ok := hG.ok
 obtain ⟨n2, n64⟩ := ok.n_bd
 have hm1 := hC.m1
 have hm8 := hC.m8
 obtain ⟨hcap, hQ⟩ := hC.cap_eq
 obtain ⟨W0, hHW⟩ : ∃ z, z = w.alloc (.cells #[.int .i64 F.p, .int .i64 F.k, .slice ap F.poly.length cp, .slice ra m.length rc] 55) := ⟨_, rfl⟩
 have b0 : Below w.heap.size w W0 := by rw [hHW]; exact (Below.refl _ _).alloc (Nat.le_refl _) _
 have k0 : Blk W0 w.heap.size 55 #[.int .i64 F.p, .int .i64 F.k, .slice ap F.poly.length cp, .slice ra m.length rc] := by rw [hHW]; exact Blk.new _ _ _ rfl
 have sk0 : w.heap.size < W0.heap.size := k0.lt
 have HW := Lib.hid hHW
 clear hHW
 have hT := tablesOf_any F ap cp W0 (hR.below b0) ok
 have HT := hide hT
 clear hT
 have f0 := k0.cell 0
 have f1 := k0.cell 1
 have f2 := k0.cell 2
 go_enter Try.func151, Try.ntmps151
 go_upto_region 1 with fail
 rw [← HW.out]
 go_wp2_with fail
 refine (unhide HT).mono ?_
 rintro e w1 ⟨tv, rfl, t1, b1⟩
 obtain ⟨aA, cA, aS, cS, aM, cM, aI, cI, rfl, t1A, t1S, t1M, t1I⟩ := t1
 obtain ⟨W1, hH1⟩ : ∃ z, z = w1.alloc (.cells #[.int .i64 F.n, .slice aA F.n cA, .slice aS F.n cS, .slice aM F.n cM, .slice aI F.n cI] 89) := ⟨_, rfl⟩
 have b1x : Below w1.heap.size w1 W1 := by rw [hH1]; exact (Below.refl _ _).alloc (Nat.le_refl _) _
 have kT : Blk W1 w1.heap.size 89 #[.int .i64 F.n, .slice aA F.n cA, .slice aS F.n cS, .slice aM F.n cM, .slice aI F.n cI] := by rw [hH1]; exact Blk.new _ _ _ rfl
 have H1 := Lib.hid hH1
 clear hH1
 have t2 : Tabs W1 F (.agg #[.int .i64 F.n, .slice aA F.n cA, .slice aS F.n cS, .slice aM F.n cM, .slice aI F.n cI]) := ⟨aA, cA, aS, cS, aM, cM, aI, cI, rfl, t1A.below b1x, t1S.below b1x, t1M.below b1x, t1I.below b1x⟩
 have c1 := Below.chain b1 b1x
 have k1 := k0.below c1 k0.lt
 have z1 := c1.size
 have bw1 : Below w.heap.size w W1 := b0.trans (c1.mono (Nat.le_of_lt sk0))
 have zw := bw1.size
 have hHF := fun (j : Nat) (hj : j < F.n ^ m.length) W => highFirst_any j F.n m.length W (by omega) (by omega) (by omega) (by omega) (by omega)
 have hEN := fun (j : Nat) (b : Option Addr) (cb : Nat) W (hy : Rd W b (hig j F.n m.length)) (hB : Below W1.heap.size W1 W) => encode_any F _ ra rc m b cb (hig j F.n m.length) n W (t2.below hB) hG ((hm.below bw1).below hB) hy hm1 hC.mat hC.n1 hC.n32 (by rw [hig_len]; exact Nat.le_refl _) (hig_el j (by omega) _)
 have hPW := fun W => powerUpTo_any F.n m.length 4096 W (by omega) (by omega) (by omega) (by omega) (by omega)
 rw [Int.toNat_natCast, hcap] at hPW
 have hWT : wordsTo F n m m.length = wordsUp F n m m.length (F.n ^ m.length) := rfl
 have hEL := fun j => encTo_len F n m (hig j F.n m.length) m.length
 obtain ⟨Q, hQQ⟩ : ∃ Q, Q = F.n ^ m.length := ⟨_, rfl⟩
 rw [← hQQ] at hHF hPW hWT hQ
 have HHF := hide hHF
 have HEN := hide hEN
 have HPW := hide hPW
 have HWT := Lib.hid hWT
 clear hHF hEN hPW hWT hQQ hcap t1A t1S t1M t1I f0 f1 f2
 have f3 := k1.cell 3
 have g0 := kT.cell 0
 have g1 := kT.cell 1
 have g2 := kT.cell 2
 have g3 := kT.cell 3
 have g4 := kT.cell 4
 have BX := hide (show ∀ W, Below W1.heap.size W1 W → (Below W1.heap.size W1 W ∧ W.cell? ⟨w.heap.size, 3, none⟩ = some (.slice ra m.length rc) ∧ W.cell? ⟨w1.heap.size, 0, none⟩ = some (.int .i64 F.n) ∧ W.cell? ⟨w1.heap.size, 1, none⟩ = some (.slice aA F.n cA) ∧ W.cell? ⟨w1.heap.size, 2, none⟩ = some (.slice aS F.n cS) ∧ W.cell? ⟨w1.heap.size, 3, none⟩ = some (.slice aM F.n cM) ∧ W.cell? ⟨w1.heap.size, 4, none⟩ = some (.slice aI F.n cI)) from fun W h => ⟨h, (k1.below h k1.lt).cell 3, (kT.below h kT.lt).cell 0, (kT.below h kT.lt).cell 1, (kT.below h kT.lt).cell 2, (kT.below h kT.lt).cell 3, (kT.below h kT.lt).cell 4⟩)
 go_upto_region 2 with fail
 rw [← H1.out]
 go_wp2_with fail
 refine (sizeS_any _ _ _ _).mono ?_
 rintro e w2 ⟨rfl, rfl⟩
 go_wp2_with fail
 refine (unhide HPW _).mono ?_
 rintro e w2 ⟨rfl, rfl⟩
 go_wp2_with fail
 go_loopw [5, 17] (fun v iv wr => ∃ j : Nat, iv = .int .i64 j ∧ j ≤ Q ∧ Hid (OwnS wr W1.heap.size v (wordsUp F n m m.length j)) ∧ Below W1.heap.size W1 wr) (fun _ iv _ => Q - (intOf iv).toNat)
 case atStart => exact ⟨0, rfl, Nat.zero_le _, OwnS.nil _ _, Below.refl _ _⟩
 case round =>
  obtain ⟨j, rfl, hj, ho, hb⟩ := hrel
  have hsz := hb.size
  by_cases hjq : j < Q
  · have hf := unhide HHF j hjq
    have he := unhide HEN j
    have hst := wordsUp_succ F n m m.length j
    have hel := hEL j
    obtain ⟨msg, hmsg⟩ : ∃ msg, msg = hig j F.n m.length := ⟨_, rfl⟩
    have hmsgl : msg.length = m.length := by rw [hmsg, hig_len]
    obtain ⟨wd, hwd⟩ : ∃ wd, wd = encTo F n m msg m.length := ⟨_, rfl⟩
    rw [← hmsg] at hf he hst hel
    rw [hmsgl] at he
    rw [← hwd] at hst he hel
    have HF := hide hf
    have HE := hide he
    have HST := Lib.hid hst
    have HML := Lib.hid hmsgl
    have hlen : (wordsUp F n m m.length j).length + 1 ≤ 1073741824 := by rw [wordsUp_len]; omega
    clear hf he hst hmsg hmsgl hwd hel
    go_upto_region 7 with fail
    go_region_held3 (fun W => Below W1.heap.size W1 W ∧ W.cell? ⟨w.heap.size, 3, none⟩ = some (.slice ra m.length rc) ∧ W.cell? ⟨w1.heap.size, 0, none⟩ = some (.int .i64 F.n) ∧ W.cell? ⟨w1.heap.size, 1, none⟩ = some (.slice aA F.n cA) ∧ W.cell? ⟨w1.heap.size, 2, none⟩ = some (.slice aS F.n cS) ∧ W.cell? ⟨w1.heap.size, 3, none⟩ = some (.slice aM F.n cM) ∧ W.cell? ⟨w1.heap.size, 4, none⟩ = some (.slice aI F.n cI))
     (first | exact (unhide BX) _ hb | exact (unhide BX) _ (hb.drew) | exact (unhide BX) _ (by assumption) | exact (unhide BX) _ hB4 | exact (unhide BX) _ (hB3.alloc hZ3 _))
     (first
      | (go_at_call 189; refine (unhide HF _).mono ?_; rintro e w2 ⟨v2, rfl, o2, b2⟩; obtain ⟨a2, c2, rfl, r2, _⟩ := o2.form; rw [HML.out]; have hB2 := Below.chain (a := W1) (And.left (by assumption)) b2)
      | (go_at_call 188; refine (unhide HE _ _ _ r2 hB2).mono ?_; rintro e w3 ⟨v3, rfl, o3, b3⟩; obtain ⟨a3, c3, rfl, _, _⟩ := o3.form; have hB3 := Below.chain hB2 b3; have hZ3 := hB3.size; have hQ2 := b2.size; have hQ3 := b3.size; have q3 := ((ho.out.drewN 1).toH.belw b2 (Nat.le_refl _)).belw b3 hQ2; have p3 := o3.mono hQ2)
      | (refine step_append_row rfl (.tmp 20) (.tmp 30) rfl rfl (q3.belw ((Below.refl _ _).alloc (Nat.le_refl _) _) (Nat.le_trans hQ2 hQ3)) _ rfl ((Blk.new w3 24 #[.slice a3 wd.length c3] rfl).cell 0) (p3.alloc _) hsz (alloc_le (Nat.le_trans hQ2 hQ3) _) hlen ?_; intro v4 W4 o4 g4 _; have hB4 := Below.stepS (hB3.alloc hZ3 _) g4 (q3.belw ((Below.refl _ _).alloc (Nat.le_refl _) _) (Nat.le_trans hQ2 hQ3)).own (Nat.le_refl _) (alloc_le hZ3 _)))
    have hb4 := hB4
    clear hB4 hB3 hB2
    go_wp2
    go_roundw
    case rel => exact ⟨j + 1, by go_num, by omega, by show OwnS _ _ _ _; rw [HST.out]; exact o4, hb4⟩
    case measure => simp only [intOf]; omega
  · have hke : j = Q := by omega
    have HE := Lib.hid hke
    clear hke
    go_wp2
    go_ret
    exact ⟨_, rfl, by have o := ho.out; rw [HE.out, ← HWT.out] at o; exact o.mono zw, bw1.trans (hb.mono zw)⟩
end Go.Proofs.Ytpglmogoddgmoaa
namespace Go.Proofs.Ytpglmogoddgmoaa
open Go.RowKit
attribute [local go_sem ↓] Go.wp_at_zero Go.wp_at_succ
theorem weightOf_any (a : Option Addr) (c : Nat) (xs : List Int) (w : World) (hx : Rd w a xs) :
    Calls Try.prog 152 #[.slice a xs.length c] w fun e w' => e = .returned (.int .i64 (wt xs : Nat)) ∧ w = w' := by
 have hxl := hx.len
 go_enter Try.func152, Try.ntmps152
 go_wp2
 go_loopw [3, 8] (fun nv iv wr => ∃ (k y : Nat), iv = .int .i64 k ∧ nv = .int .i64 y ∧ k ≤ xs.length ∧ y ≤ k ∧ Hid (y = wtTo xs k) ∧ w = wr) (fun _ iv _ => xs.length - (intOf iv).toNat)
 case atStart => exact ⟨0, 0, rfl, rfl, Nat.zero_le _, Nat.le_refl _, rfl, rfl⟩
 case round =>
  obtain ⟨k, y, rfl, rfl, hk, hyk, hY, rfl⟩ := hrel
  by_cases hkl : k < xs.length
  · obtain ⟨b1, o1, rfl, _, hc⟩ := hx.at_ (by omega)
    have h1 := hc k hkl
    have hst : wtTo xs (k + 1) = if nth xs k = 0 then wtTo xs k else wtTo xs k + 1 := rfl
    obtain ⟨u, hu⟩ : ∃ u, u = nth xs k := ⟨_, rfl⟩
    rw [← hu] at h1 hst
    have HST := Lib.hid hst
    clear hc hu hst
    by_cases hn : u = 0
    · have hbn : (u != 0) = false := by rw [bne_eq_false_iff_eq]; exact hn
      have HN := Lib.hid hn
      clear hn
      go_wp2
      go_roundw
      case rel => exact ⟨k + 1, y, by go_num, rfl, by omega, by omega, by show _ = _; rw [HST.out, if_pos HN.out, hY.out], trivial⟩
      case measure => simp [intOf]; omega
    · have hbn : (u != 0) = true := by rw [bne_iff_ne]; exact hn
      have HN := hide hn
      clear hn
      go_wp2
      go_roundw
      case rel => exact ⟨k + 1, y + 1, by go_num, by go_num, by omega, by omega, by show _ = _; rw [HST.out, if_neg (unhide HN), hY.out], trivial⟩
      case measure => simp [intOf]; omega
  · have hke : k = xs.length := by omega
    have HE := Lib.hid hke
    clear hke
    go_wp2
    go_ret
    exact ⟨ret_int (by rw [hY.out, HE.out, wt]), rfl⟩
theorem lengthOf_any (p d : Int) (a : Option Addr) (k c : Nat) (ra : Option Addr) (rc : Nat) (m : List (List Int)) (w : World) (hm : RdS w ra m) (h0 : 0 < m.length) :
    Calls Try.prog 150 #[.agg #[.int .i64 p, .int .i64 d, .slice a k c, .slice ra m.length rc]] w fun e w' => e = .returned (.int .i64 ((nthL m 0).length : Nat)) ∧ Below w.heap.size w w' := by
 obtain ⟨gb, ob, rfl, hgb, hcc⟩ := hm.at_ h0
 obtain ⟨ai, ci, h1, _⟩ := hcc 0 h0
 rw [Nat.add_zero] at h1
 obtain ⟨N, hN⟩ : ∃ N, N = (nthL m 0).length := ⟨_, rfl⟩
 rw [← hN] at h1 ⊢
 obtain ⟨W0, hHW⟩ : ∃ z, z = w.alloc (.cells #[.int .i64 p, .int .i64 d, .slice a k c, .slice (some ⟨gb, ob, none⟩) m.length rc] 55) := ⟨_, rfl⟩
 have b0 : Below w.heap.size w W0 := by rw [hHW]; exact (Below.refl _ _).alloc (Nat.le_refl _) _
 have k0 : Blk W0 w.heap.size 55 #[.int .i64 p, .int .i64 d, .slice a k c, .slice (some ⟨gb, ob, none⟩) m.length rc] := by rw [hHW]; exact Blk.new _ _ _ rfl
 have h1 := (b0.cell (p := ⟨gb, ob, none⟩) hgb).trans h1
 have f3 := k0.cell 3
 have HW := Lib.hid hHW
 clear hHW hN hcc hm
 go_enter Try.func150, Try.ntmps150
 go_upto_region 1 with fail
 rw [← HW.out]
 go_wp2_with fail
 refine (size_any _ _ _ _).mono ?_
 rintro e w1 ⟨rfl, rfl⟩
 go_wp2
 go_ret
 exact ⟨rfl, b0⟩
def wts (F : FD) (n : Nat) (m : List (List Int)) : List Int := cntW (wordsTo F n m m.length) n (wordsTo F n m m.length).length
theorem wordsTo_el {F : FD} (ok : F.Ok) (n : Nat) (m : List (List Int)) {k : Nat} (hk : k < (wordsTo F n m m.length).length) : (nthL (wordsTo F n m m.length) k).length = n ∧ wt (nthL (wordsTo F n m m.length) k) ≤ n ∧ ∀ x ∈ nthL (wordsTo F n m m.length) k, 0 ≤ x ∧ x < F.n := by
 rw [wordsTo_len] at hk
 rw [wordsTo_nth F n m hk]
 have h1 := encTo_len F n m (hig k F.n m.length) m.length
 have h2 := wtTo_le (encTo F n m (hig k F.n m.length) m.length) (encTo F n m (hig k F.n m.length) m.length).length
 refine ⟨h1, ?_, encTo_el ok _ _ _ _⟩
 rw [wt]
 omega
theorem weightsOf_any (F : FD) (ap : Option Addr) (cp : Nat) (ra : Option Addr) (rc : Nat) (m : List (List Int)) (n : Nat) (w : World) (hR : Rd w ap F.poly) (hm : RdS w ra m) (hC : GC F n m) :
    Calls Try.prog 84 #[.agg #[.int .i64 F.p, .int .i64 F.k, .slice ap F.poly.length cp, .slice ra m.length rc]] w fun e w' => ∃ v, e = .returned v ∧ Own w' w.heap.size v (wts F n m) ∧ Below w.heap.size w w' := by
 have hm1 := hC.m1
 have hn32 := hC.n32
 have ok := hC.good.ok
 obtain ⟨_, hQ⟩ := hC.cap_eq
 rw [← wordsTo_len F n m m.length] at hQ
 obtain ⟨W0, hHW⟩ : ∃ z, z = w.alloc (.cells #[.int .i64 F.p, .int .i64 F.k, .slice ap F.poly.length cp, .slice ra m.length rc] 55) := ⟨_, rfl⟩
 have b0 : Below w.heap.size w W0 := by rw [hHW]; exact (Below.refl _ _).alloc (Nat.le_refl _) _
 have k0 : Blk W0 w.heap.size 55 #[.int .i64 F.p, .int .i64 F.k, .slice ap F.poly.length cp, .slice ra m.length rc] := by rw [hHW]; exact Blk.new _ _ _ rfl
 have sk0 : w.heap.size < W0.heap.size := k0.lt
 have HW := Lib.hid hHW
 clear hHW
 have hL := lengthOf_any F.p F.k ap F.poly.length cp ra rc m W0 (hm.below b0) hm1
 rw [hC.hn] at hL
 have hWO := fun W (h : Below w.heap.size w W) => wordsOf_any F ap cp ra rc m n W (hR.below h) (hm.below h) hC
 have hel := fun k hk => wordsTo_el ok n m (k := k) hk
 have hwt : wts F n m = cntW (wordsTo F n m m.length) n (wordsTo F n m m.length).length := rfl
 obtain ⟨wds, hwds⟩ : ∃ wds, wds = wordsTo F n m m.length := ⟨_, rfl⟩
 rw [← hwds] at hWO hel hwt hQ
 have hmk := fun W => run_make_row' (P := Try.prog) 24 2 (.int .i64 0) 8 Try.underlying24 Try.info_i64 rfl .i64 .i64 (n + 1) (by omega) (by omega) W
 have hcast : ((n + 1 : Nat) : Int) = (n : Int) + 1 := by omega
 have HL := hide hL
 have HWO := hide hWO
 have HEL := hide hel
 have HWT := Lib.hid hwt
 clear hL hWO hel hwt hwds hm hR
 have f0 := k0.cell 0
 have f1 := k0.cell 1
 have f2 := k0.cell 2
 have f3 := k0.cell 3
 go_enter Try.func84, Try.ntmps84
 go_upto_region 1 with fail
 rw [← HW.out]
 go_wp2_with fail
 refine (unhide HL).mono ?_
 rintro e w1 ⟨rfl, b1⟩
 have k1 := k0.below b1 k0.lt
 have bw1 := b0.trans (b1.mono (Nat.le_of_lt sk0))
 clear f0 f1 f2 f3
 rw [hcast] at hmk
 go_upto_region 2 with fail
 obtain ⟨W2, hW2⟩ : ∃ z, z = w1.alloc (.cells (madeCells #[.int .i64 0] (n + 1)) 2) := ⟨_, rfl⟩
 have oz : Own W2 w1.heap.size (.slice (some ⟨w1.heap.size, 0, none⟩) (n + 1) (n + 1)) (zeros (n + 1)) := by rw [hW2]; exact Own.zeros w1 (Nat.le_refl _) (by omega)
 have bz : Below w1.heap.size w1 W2 := by rw [hW2]; exact (Below.refl _ _).alloc (Nat.le_refl _) _
 rw [← hW2]
 clear hW2
 have OZ := Lib.hid oz
 have g12 := bz.size
 have g13 : w1.heap.size < W2.heap.size := World.block_lt_of_cell? W2 _ (oz.cell (j := 0) (by rw [zeros_len]; omega))
 have c12 := bw1.trans (bz.mono bw1.size)
 have z1 := bw1.size
 have k2 := k1.below bz k1.lt
 have f0 := k2.cell 0
 have f1 := k2.cell 1
 have f2 := k2.cell 2
 have f3 := k2.cell 3
 clear oz hmk
 go_wp2_with fail
 refine (unhide HWO W2 c12).mono ?_
 rintro e w3 ⟨v3, rfl, o3, b3⟩
 obtain ⟨av, cv, rfl, _⟩ := o3.form
 have OZ3 := Lib.hid (OZ.out.below b3 (Nat.le_refl _))
 have OH := Lib.hid o3.toH
 have bw3 := c12.trans (b3.mono c12.size)
 have z3 := b3.size
 clear o3 OZ f0 f1 f2 f3
 go_wp2_with fail
 go_loopw [13] (fun iv wr => ∃ k : Nat, iv = .int .i64 k ∧ k ≤ wds.length ∧ Hid (Own wr w1.heap.size (.slice (some ⟨w1.heap.size, 0, none⟩) (n + 1) (n + 1)) (cntW wds n k)) ∧ Hid (w3.grownBy wr (some w1.heap.size))) (fun iv _ => wds.length - (intOf iv).toNat)
 case atStart => exact ⟨0, rfl, Nat.zero_le _, OZ3.out, grown_refl _ _⟩
 case round =>
  obtain ⟨k, rfl, hk, ho, hg⟩ := hrel
  by_cases hkl : k < wds.length
  · have rw0 := (OH.out.kp ((Kp.refl w3 _ _).grown hg.out (fun q hq => by injection hq; omega) (Nat.le_refl _))).rd
    obtain ⟨gw, ow, rfl, _, hcw⟩ := rw0.at_ (by omega)
    obtain ⟨aw, cw, h1, hr⟩ := hcw k hkl
    have hel := unhide HEL k hkl
    have hst : cntW wds n (k + 1) = (cntW wds n k).set (wt (nthL wds k)) (nth (cntW wds n k) (wt (nthL wds k)) + 1) := rfl
    obtain ⟨wd, hwd⟩ : ∃ wd, wd = nthL wds k := ⟨_, rfl⟩
    rw [← hwd] at h1 hr hel hst
    have hwo := weightOf_any aw cw wd wr hr
    obtain ⟨t, ht⟩ : ∃ t, t = wt wd := ⟨_, rfl⟩
    rw [← ht] at hwo hel hst
    have htn := hel.2.1
    have hcl := cntW_len wds n k
    have cc := ho.out.cell (j := t) (by omega)
    have cf := ho.out.frozen t
    have hbd := cntW_bd wds n k t
    obtain ⟨x, hx⟩ : ∃ x, x = nth (cntW wds n k) t := ⟨_, rfl⟩
    rw [← hx] at cc hbd hst
    have HWE := hide hwo
    have HST := Lib.hid hst
    have hk2 : k ≤ 4096 := by omega
    clear hwo hst hx ht hwd hel hcl hcw hr rw0
    go_wp2_with fail
    refine (unhide HWE).mono ?_
    rintro e w4 ⟨rfl, rfl⟩
    go_wp2
    go_roundw
    case rel =>
     have hs := ho.out.set t (x + 1)
     refine ⟨k + 1, by go_num, by omega, ?_, hide (grown_trans_row hg.out hs.2)⟩
     show Own _ _ _ _
     rw [HST.out]
     exact hs.1
    case measure => simp only [intOf]; omega
  · have hke : k = wds.length := by omega
    have HE := Lib.hid hke
    clear hke
    go_wp2
    go_ret
    refine ⟨_, rfl, ?_, ?_⟩
    · have o := ho.out
      rw [HE.out, ← HWT.out] at o
      exact o.mono (by omega)
    · exact bw3.grown hg.out bw3.size (fun q hq => by injection hq; omega)
end Go.Proofs.Ytpglmogoddgmoaa
namespace Go.Proofs.Ytpglmogoddgmoaa
open Go.RowKit
attribute [local go_sem ↓] Go.wp_at_zero Go.wp_at_succ
def distC (F : FD) (n : Nat) (m : List (List Int)) : Nat := leastD (wts F n m)
noncomputable def distRes (p d : Int) (xs : List Int) (m : List (List Int)) : Int × Int := if okC p d xs m = true then ((distC (fdR p d xs) (nthL m 0).length m : Int), 0) else (0, 1)
def ResI (w : World) (r : Int × Int) (e : Ending) (w' : World) : Prop := e = .returned (.tuple #[.int .i64 r.1, .int .i64 r.2]) ∧ Below w.heap.size w w'
theorem wts_len (F : FD) (n : Nat) (m : List (List Int)) : (wts F n m).length = n + 1 := cntW_len _ _ _
theorem GC.some_wt {F : FD} {n : Nat} {m : List (List Int)} (h : GC F n m) : ∃ d : Nat, 1 ≤ d ∧ d ≤ n ∧ nth (wts F n m) d ≠ 0 := by
 obtain ⟨j, h1, h2, h3⟩ := h.some_word
 refine ⟨_, h2, h3, ?_⟩
 have := cntW_pos (words := wordsTo F n m m.length) (n := n) (k := (wordsTo F n m m.length).length) (j := j) (by rw [wordsTo_len]; exact h1) h3
 rw [wts]
 omega
theorem implDI_any (p d : Int) (a : Option Addr) (c : Nat) (xs : List Int) (ra : Option Addr) (rc : Nat) (m : List (List Int)) (w : World) (hx : Rd w a xs) (hm : RdS w ra m) (ed : I64 d) : Calls Try.prog 32 #[.agg #[.int .i64 p, .int .i64 d, .slice a xs.length c, .slice ra m.length rc]] w (ResI w (distRes p d xs m)) := by
 have hml := hm.len
 generalize hR : distRes p d xs m = r
 obtain ⟨W0, hHW⟩ : ∃ z, z = w.alloc (.cells #[.int .i64 p, .int .i64 d, .slice a xs.length c, .slice ra m.length rc] 55) := ⟨_, rfl⟩
 have b0 : Below w.heap.size w W0 := by rw [hHW]; exact (Below.refl _ _).alloc (Nat.le_refl _) _
 have k0 : Blk W0 w.heap.size 55 #[.int .i64 p, .int .i64 d, .slice a xs.length c, .slice ra m.length rc] := by rw [hHW]; exact Blk.new _ _ _ rfl
 have sk0 : w.heap.size < W0.heap.size := k0.lt
 have HW := Lib.hid hHW
 clear hHW
 have hV := implVC_any p d a c xs ra rc m W0 (hx.below b0) (hm.below b0) ed
 cases hk : okC p d xs m with
 | false =>
  have HN := Lib.hid (show r = (0, 1) by rw [← hR, distRes, hk]; rfl)
  rw [hk] at hV
  have HV := hide hV
  clear hV hk hR
  have f0 := k0.cell 0
  have f1 := k0.cell 1
  have f2 := k0.cell 2
  have f3 := k0.cell 3
  go_enter Try.func32, Try.ntmps32
  go_upto_region 1 with fail
  rw [← HW.out]
  go_wp2_with fail
  refine (unhide HV).mono ?_
  rintro e w1 ⟨rfl, b1⟩
  have k1 := k0.below b1 k0.lt
  clear f0 f1 f2 f3
  have f0 := k1.cell 0
  have f1 := k1.cell 1
  have f2 := k1.cell 2
  have f3 := k1.cell 3
  have bb1 := b0.trans (b1.mono (Nat.le_of_lt sk0))
  go_wp2
  go_ret2
  rw [HN.out]
  exact ⟨rfl, bb1⟩
 | true =>
  obtain ⟨F, n, rfl, rfl, rfl, hC⟩ := okC_gc hk
  have ok := hC.good.ok
  obtain ⟨n2, n64⟩ := ok.n_bd
  have hm1 := hC.m1
  have hm0 : 0 < m.length := by omega
  have hm8 := hC.m8
  have hn1 := hC.n1
  have hn32 := hC.n32
  rw [hk] at hV
  have HV := hide hV
  have hRR : r = ((distC F n m : Int), 0) := by rw [← hR, distRes, hk, fdR_eq, hC.hn]; rfl
  clear hV hk hR
  have hW := fun W (h : Below W0.heap.size W0 W) => weightsOf_any F a c ra rc m n W ((hx.below b0).below h) ((hm.below b0).below h) hC
  obtain ⟨d0, hd1, hd2, hd3⟩ := hC.some_wt
  have hwl := wts_len F n m
  have hdc : distC F n m = leastD (wts F n m) := rfl
  obtain ⟨cs, hcs⟩ : ∃ cs, cs = wts F n m := ⟨_, rfl⟩
  rw [← hcs] at hW hd3 hwl hdc
  rw [hdc] at hRR
  have HWW := hide hW
  have HRR := Lib.hid hRR
  have HD3 := hide hd3
  have HWL := Lib.hid hwl
  clear hW hRR hC hcs hd3 hwl hdc
  have f0 := k0.cell 0
  have f1 := k0.cell 1
  have f2 := k0.cell 2
  have f3 := k0.cell 3
  go_enter Try.func32, Try.ntmps32
  go_upto_region 1 with fail
  rw [← HW.out]
  go_wp2_with fail
  refine (unhide HV).mono ?_
  rintro e w1 ⟨rfl, b1⟩
  have k1 := k0.below b1 k0.lt
  clear f0 f1 f2 f3
  have f0 := k1.cell 0
  have f1 := k1.cell 1
  have f2 := k1.cell 2
  have f3 := k1.cell 3
  have bb1 := b0.trans (b1.mono (Nat.le_of_lt sk0))
  go_wp2_with fail
  refine (unhide HWW w1 b1).mono ?_
  rintro e w2 ⟨v, rfl, o2, b2⟩
  obtain ⟨av, cv, rfl, r2, _⟩ := o2.form
  have bb2 := bb1.trans (b2.mono bb1.size)
  have R2 := hide r2
  have hcl : cs.length ≤ 33 := by rw [HWL.out]; omega
  clear o2 r2
  go_wp2_with fail
  go_loopw [5] (fun dv wr => ∃ d1 : Nat, dv = .int .i64 d1 ∧ 1 ≤ d1 ∧ d1 ≤ d0 ∧ Hid (∀ j, 1 ≤ j → j < d1 → nth cs j = 0) ∧ w2 = wr) (fun dv _ => d0 - (intOf dv).toNat)
  case atStart => exact ⟨1, rfl, Nat.le_refl _, hd1, fun j h1 h2 => by omega, rfl⟩
  case round =>
   obtain ⟨d1, rfl, h1, h2, hz, rfl⟩ := hrel
   have hlt : d1 < cs.length := by rw [HWL.out]; omega
   obtain ⟨g1, o1, rfl, _, hc⟩ := (unhide R2).at_ (by omega)
   have hc1 := hc d1 hlt
   obtain ⟨u, hu⟩ : ∃ u, u = nth cs d1 := ⟨_, rfl⟩
   rw [← hu] at hc1
   have HU := Lib.hid hu
   clear hc hu
   by_cases hn : u = 0
   · have hbn : (u == 0) = true := by rw [hn]; rfl
     have HN := Lib.hid hn
     clear hn
     have hne : d1 ≠ d0 := fun e => unhide HD3 (by rw [← e, ← HU.out, HN.out])
     go_wp2
     go_roundw
     case rel =>
      refine ⟨d1 + 1, by go_num, by omega, by omega, fun j a1 a2 => ?_, trivial⟩
      by_cases e : j = d1
      · rw [e, ← HU.out, HN.out]
      · exact hz.out j a1 (by omega)
     case measure => simp only [intOf]; omega
   · have hbn : (u == 0) = false := by rw [beq_eq_false_iff_ne]; exact hn
     have HN := hide hn
     clear hn
     have hld : leastD cs = d1 := leastD_hit h1 hlt (by rw [← HU.out]; exact unhide HN) hz.out
     have HLD := Lib.hid hld
     clear hld
     go_wp2
     go_ret2
     rw [HRR.out]
     show ResI w ((leastD cs : Int), 0) _ _
     rw [HLD.out]
     exact ⟨rfl, bb2⟩
end Go.Proofs.Ytpglmogoddgmoaa
