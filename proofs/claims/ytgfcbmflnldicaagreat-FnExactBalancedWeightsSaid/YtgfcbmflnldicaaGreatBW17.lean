/-
  Texts joined.
-/
import Derived.Test.YtgfcbmflnldicaaGreatBW1
import Derived.Test.YtgfcbmflnldicaaGreatBW3
import Derived.Test.YtgfcbmflnldicaaGreatBW5
import Derived.Test.YtgfcbmflnldicaaGreatBW6
import Derived.Test.YtgfcbmflnldicaaGreatBW7
import Derived.Test.YtgfcbmflnldicaaGreatBW9
import Derived.Test.YtgfcbmflnldicaaGreatBW10
import Derived.Test.YtgfcbmflnldicaaGreatBW15
import Derived.Test.YtgfcbmflnldicaaGreatBW16
set_option linter.unusedVariables false
set_option linter.unusedSimpArgs false
set_option maxRecDepth 100000
set_option maxHeartbeats 40000000
namespace Go.Proofs.YtgfcbmflnldicaaGreat
open Go.RowKit
attribute [local go_sem ↓] Go.wp_at_zero Go.wp_at_succ
def fdR (p d : Int) (xs : List Int) : FD := ⟨p, d.toNat, xs⟩
theorem fdR_eq (F : FD) : fdR F.p F.k F.poly = F := by cases F; simp [fdR]
end Go.Proofs.YtgfcbmflnldicaaGreat
namespace Go.Proofs.YtgfcbmflnldicaaGreat
open Go.RowKit
attribute [local go_sem ↓] Go.wp_at_zero Go.wp_at_succ
def okC (p d : Int) (xs : List Int) (m : List (List Int)) : Bool :=
 okM p d xs m && (decide (m.length ≤ 8) && (decide (capTo (fdR p d xs).n 4096 m.length ≤ 4096) && decide (form (fdR p d xs) m (nthL m 0).length = m)))
structure GC (F : FD) (n : Nat) (m : List (List Int)) : Prop where
 good : F.Good
 m1 : 1 ≤ m.length
 m8 : m.length ≤ 8
 n1 : 1 ≤ n
 n32 : n ≤ 32
 hn : (nthL m 0).length = n
 mat : F.Mat n m
 cap : capTo F.n 4096 m.length ≤ 4096
 fix : form F m n = m
theorem okC_gc {p d : Int} {xs : List Int} {m : List (List Int)} (h : okC p d xs m = true) : ∃ F n, p = F.p ∧ d = (F.k : Int) ∧ xs = F.poly ∧ GC F n m := by
 rw [okC, Bool.and_eq_true, Bool.and_eq_true, Bool.and_eq_true, decide_eq_true_eq, decide_eq_true_eq, decide_eq_true_eq] at h
 obtain ⟨a, b, c, d⟩ := h
 obtain ⟨F, hG, rfl, rfl, rfl, m1, _, n1, n32, hM⟩ := okM_true a
 rw [fdR_eq] at c d
 exact ⟨F, _, rfl, rfl, rfl, hG, m1, b, n1, n32, rfl, hM, c, d⟩
def PC (w : World) (g : Nat) (p d : Int) (a : Option Addr) (c : Nat) (xs : List Int) (ra : Option Addr) (rc : Nat) (m : List (List Int)) : Prop :=
 PR w g p d a c xs ∧ w.cell? ⟨g, 3, none⟩ = some (.slice ra m.length rc) ∧ RdS w ra m
section
variable {w w' : World} {g : Nat} {p d : Int} {a : Option Addr} {c : Nat} {xs : List Int} {ra : Option Addr} {rc : Nat} {m : List (List Int)}
theorem PC.below (h : PC w g p d a c xs ra rc m) (hb : Below w.heap.size w w') : PC w' g p d a c xs ra rc m :=
 ⟨h.1.below hb, (hb.cell (p := ⟨g, 3, none⟩) h.1.lt).trans h.2.1, h.2.2.below hb⟩
theorem PC.row0 (h : PC w g p d a c xs ra rc m) (h0 : 0 < m.length) : ∃ gb ob ai ci, ra = some ⟨gb, ob, none⟩ ∧ w.cell? ⟨gb, ob, none⟩ = some (.slice ai (nthL m 0).length ci) ∧ gb < w.heap.size := by
 obtain ⟨gb, ob, e, hb, hc⟩ := h.2.2.at_ h0
 obtain ⟨ai, ci, hc1, _⟩ := hc 0 h0
 exact ⟨gb, ob, ai, ci, e, hc1, hb⟩
end
theorem l18Ok_any (g : Nat) (p d : Int) (a : Option Addr) (c : Nat) (xs : List Int) (ra : Option Addr) (rc : Nat) (m : List (List Int)) (w : World) (hC : PC w g p d a c xs ra rc m) : Calls Tryz.prog 74 #[.pointer (some ⟨g, 0, none⟩)] w fun e w' => e = .returned (.bool (okC p d xs m)) ∧ Below w.heap.size w w' := by
 have hml := hC.2.2.len
 have hV := fun W (hW : Below w.heap.size w W) => l17Ok_any g p d a c xs ra rc m W (hC.below hW).1 (hC.below hW).2.2
 obtain ⟨k0, hk0⟩ : ∃ k0, k0 = okM p d xs m := ⟨_, rfl⟩
 rw [← hk0] at hV
 have HV := hide hV
 have HC := hide hC
 clear hV
 cases k0 with
 | false =>
  have HN := Lib.hid (show okC p d xs m = false by rw [okC, ← hk0]; rfl)
  have boxes : ∀ W, Below w.heap.size w W → (Below w.heap.size w W ∧ W.cell? ⟨g, 3, none⟩ = some (.slice ra m.length rc)) := fun W h => ⟨h, (hC.below h).2.1⟩
  have BX := hide boxes
  clear hk0 hC boxes
  go_enter Tryz.func74, Tryz.ntmps74
  go_upto_region 1 with fail
  refine wp_region_noPanic ?_
  refine wp_region_seq (S := (fun W => Below w.heap.size w W ∧ W.cell? ⟨g, 3, none⟩ = some (.slice ra m.length rc))) [true, true, true, true, true, true, true, false, true, true, true, true, true, true, true, true, true, true, true, true, true, true, true, true, true, true, true] (by kernel_rfl) (by kernel_rfl) (by kernel_rfl) rfl (fun _ _ _ _ _ h => h) ?_ (fun hHeld => ?_)
  · exact (unhide BX) _ (Below.refl _ _).drew
  simp only [List.toList_toArray]
  refine SeqH.take (v := ?hv1) (by rfl) ?hy1 ?hr1
  case hy1 =>
   intro w hSw
   try dsimp only at hSw
   go_simp
   try (with_reducible rfl)
  try simp only [Act.put, List.setIfInBounds_toArray, List.set_cons_zero, List.set_cons_succ]
  refine SeqH.take (v := ?hv2) (by rfl) ?hy2 ?hr2
  case hy2 =>
   intro w hSw
   try dsimp only at hSw
   go_simp
   try (with_reducible rfl)
  try simp only [Act.put, List.setIfInBounds_toArray, List.set_cons_zero, List.set_cons_succ]
  refine SeqH.take (v := ?hv3) (by rfl) ?hy3 ?hr3
  case hy3 =>
   intro w hSw
   try dsimp only at hSw
   go_simp
   try (with_reducible rfl)
  try simp only [Act.put, List.setIfInBounds_toArray, List.set_cons_zero, List.set_cons_succ]
  refine SeqH.take (v := ?hv4) (by rfl) ?hy4 ?hr4
  case hy4 =>
   intro w hSw
   try dsimp only at hSw
   go_simp
   try (with_reducible rfl)
  try simp only [Act.put, List.setIfInBounds_toArray, List.set_cons_zero, List.set_cons_succ]
  refine SeqH.take (v := ?hv5) (by rfl) ?hy5 ?hr5
  case hy5 =>
   intro w hSw
   try dsimp only at hSw
   go_simp
   try (with_reducible rfl)
  try simp only [Act.put, List.setIfInBounds_toArray, List.set_cons_zero, List.set_cons_succ]
  refine SeqH.take (v := ?hv6) (by rfl) ?hy6 ?hr6
  case hy6 =>
   intro w hSw
   try dsimp only at hSw
   go_simp
   try (with_reducible rfl)
  try simp only [Act.put, List.setIfInBounds_toArray, List.set_cons_zero, List.set_cons_succ]
  refine SeqH.take (v := ?hv7) (by rfl) ?hy7 ?hr7
  case hy7 =>
   intro w hSw
   try dsimp only at hSw
   go_simp
   try (with_reducible rfl)
  try simp only [Act.put, List.setIfInBounds_toArray, List.set_cons_zero, List.set_cons_succ]
  refine SeqH.call (fun K hK => ?_)
  go_simp
  refine (unhide HV _ (And.left hHeld)).mono ?_
  rintro e w1 ⟨rfl, b1⟩
  have hB1 := Below.chain (a := w) (And.left hHeld) b1
  go_wp2_with fail
  refine hK.out _ _ ?_ (fun hHeld => ?_)
  · exact (unhide BX) _ hB1
  clear hK K
  try simp only [Act.put, List.setIfInBounds_toArray, List.set_cons_zero, List.set_cons_succ]
  refine SeqH.take (v := ?hv8) (by rfl) ?hy8 ?hr8
  case hy8 =>
   intro w hSw
   try dsimp only at hSw
   go_simp
   try (with_reducible rfl)
  try simp only [Act.put, List.setIfInBounds_toArray, List.set_cons_zero, List.set_cons_succ]
  refine SeqH.take (v := ?hv9) (by rfl) ?hy9 ?hr9
  case hy9 =>
   intro w hSw
   try dsimp only at hSw
   go_simp
   try (with_reducible rfl)
  try simp only [Act.put, List.setIfInBounds_toArray, List.set_cons_zero, List.set_cons_succ]
  refine SeqH.skip (by rfl) ?_
  try simp only [Act.put, List.setIfInBounds_toArray, List.set_cons_zero, List.set_cons_succ]
  refine SeqH.skip (by rfl) ?_
  try simp only [Act.put, List.setIfInBounds_toArray, List.set_cons_zero, List.set_cons_succ]
  refine SeqH.skip (by rfl) ?_
  try simp only [Act.put, List.setIfInBounds_toArray, List.set_cons_zero, List.set_cons_succ]
  refine SeqH.skip (by rfl) ?_
  try simp only [Act.put, List.setIfInBounds_toArray, List.set_cons_zero, List.set_cons_succ]
  refine SeqH.skip (by rfl) ?_
  try simp only [Act.put, List.setIfInBounds_toArray, List.set_cons_zero, List.set_cons_succ]
  refine SeqH.skip (by rfl) ?_
  try simp only [Act.put, List.setIfInBounds_toArray, List.set_cons_zero, List.set_cons_succ]
  refine SeqH.skip (by rfl) ?_
  try simp only [Act.put, List.setIfInBounds_toArray, List.set_cons_zero, List.set_cons_succ]
  refine SeqH.skip (by rfl) ?_
  try simp only [Act.put, List.setIfInBounds_toArray, List.set_cons_zero, List.set_cons_succ]
  refine SeqH.take (v := ?hv10) (by rfl) ?hy10 ?hr10
  case hy10 =>
   intro w hSw
   try dsimp only at hSw
   go_simp
   try (with_reducible rfl)
  try simp only [Act.put, List.setIfInBounds_toArray, List.set_cons_zero, List.set_cons_succ]
  refine SeqH.take (v := ?hv11) (by rfl) ?hy11 ?hr11
  case hy11 =>
   intro w hSw
   try dsimp only at hSw
   go_simp
   try (with_reducible rfl)
  try simp only [Act.put, List.setIfInBounds_toArray, List.set_cons_zero, List.set_cons_succ]
  refine SeqH.skip (by rfl) ?_
  try simp only [Act.put, List.setIfInBounds_toArray, List.set_cons_zero, List.set_cons_succ]
  refine SeqH.skip (by rfl) ?_
  try simp only [Act.put, List.setIfInBounds_toArray, List.set_cons_zero, List.set_cons_succ]
  refine SeqH.skip (by rfl) ?_
  try simp only [Act.put, List.setIfInBounds_toArray, List.set_cons_zero, List.set_cons_succ]
  refine SeqH.skip (by rfl) ?_
  try simp only [Act.put, List.setIfInBounds_toArray, List.set_cons_zero, List.set_cons_succ]
  refine SeqH.skip (by rfl) ?_
  try simp only [Act.put, List.setIfInBounds_toArray, List.set_cons_zero, List.set_cons_succ]
  refine SeqH.skip (by rfl) ?_
  try simp only [Act.put, List.setIfInBounds_toArray, List.set_cons_zero, List.set_cons_succ]
  refine SeqH.take (v := ?hv12) (by rfl) ?hy12 ?hr12
  case hy12 =>
   intro w hSw
   try dsimp only at hSw
   go_simp
   try (with_reducible rfl)
  try simp only [Act.put, List.setIfInBounds_toArray, List.set_cons_zero, List.set_cons_succ]
  refine SeqH.done (NoPanic.normal ?_)
  go_wp2
  go_ret
  exact ⟨ret_bool (by rw [HN.out]), hB1⟩
 | true =>
  obtain ⟨F, hG, rfl, rfl, rfl, hm1, hm32, hn1, hn32, hM⟩ := okM_true hk0.symm
  have ok := hG.ok
  obtain ⟨n2, n64⟩ := ok.n_bd
  have hO : okC F.p F.k F.poly m = (decide (m.length ≤ 8) && (decide (capTo F.n 4096 m.length ≤ 4096) && decide (form F m (nthL m 0).length = m))) := by rw [okC, ← hk0, fdR_eq]; rfl
  have HO := Lib.hid hO
  clear hO hk0
  obtain ⟨gb, ob, ai, ci, rfl, hr0, hgb⟩ := hC.row0 (by omega)
  obtain ⟨n, hn⟩ : ∃ n, n = (nthL m 0).length := ⟨_, rfl⟩
  rw [← hn] at hn1 hn32 hM hr0
  have HNN := Lib.hid hn
  have hn33 : decide ((32 : Int) < (n : Int)) = false := by rw [decide_eq_false_iff_not]; omega
  have boxes : ∀ W, Below w.heap.size w W → (Below w.heap.size w W ∧ W.cell? ⟨g, 3, none⟩ = some (.slice (some ⟨gb, ob, none⟩) m.length rc) ∧ W.cell? ⟨gb, ob, none⟩ = some (.slice ai n ci)) := fun W h => ⟨h, (hC.below h).2.1, (h.cell (p := ⟨gb, ob, none⟩) hgb).trans hr0⟩
  have BX := hide boxes
  have HM := hide hM
  clear hn boxes hr0 hM hC
  by_cases h8 : m.length ≤ 8
  ·
   have h8' : decide ((8 : Int) < (m.length : Int)) = false := by rw [decide_eq_false_iff_not]; omega
   have hm0 : 0 < m.length := by omega
   have hCn := fun W => l18Count_any F.n m.length W (by omega) (by omega) (by omega)
   rw [Int.toNat_natCast] at hCn
   have hS := fun W h => l03Size_qt g F W h ok
   have HS := hide hS
   clear hS
   by_cases hcap : capTo F.n 4096 m.length ≤ 4096
   ·
    have e : (cnt F.n m.length == 0) = false := by
     have := capTo_pos (b := (F.n : Int)) (l := 4096) (by omega) m.length
     rw [cnt, if_pos hcap, beq_eq_false_iff_ne]; omega
    obtain ⟨x, hx⟩ : ∃ x, x = cnt F.n m.length := ⟨_, rfl⟩
    rw [← hx] at hCn e
    have HCN := hide hCn
    have HCAP := hide hcap
    clear hCn hx hcap
    go_enter Tryz.func74, Tryz.ntmps74
    go_upto_region 1 with fail
    go_region_held3 (fun W => Below w.heap.size w W ∧ W.cell? ⟨g, 3, none⟩ = some (.slice (some ⟨gb, ob, none⟩) m.length rc) ∧ W.cell? ⟨gb, ob, none⟩ = some (.slice ai n ci))
     (first | exact (unhide BX) _ (Below.refl _ _) | exact (unhide BX) _ (Below.refl _ _).drew | exact (unhide BX) _ (by assumption))
     (first
      | (go_at_call 133; refine (unhide HV _ ?_).mono ?_; exact (And.left (by assumption)); rintro e w1 ⟨rfl, b1⟩; have hB1 := Below.chain (a := w) (And.left (by assumption)) b1))
    have C1 := (unhide HC).below hB1
    have hc3 := C1.2.1
    have HPF := hide C1.1.pf
    have HRM := hide C1.2.2
    clear C1
    go_upto_region 3 with fail
    go_quiet ((first | (go_at_call 135; exact Calls.quiet_of (unhide HS _ ((unhide HPF).below (Below.drewn _)))) | (go_at_call 134; exact Calls.quiet_of_same ((unhide HCN _).mono fun _ _ h => ⟨h.1, h.2.symm⟩))))
    obtain ⟨w2, hw2⟩ : ∃ z, z = w1.drewN nq := ⟨_, rfl⟩
    have b2 : Below w1.heap.size w1 w2 := by rw [hw2]; exact Below.drewn _
    rw [← hw2]
    clear hw2
    have hB2 := hB1.trans (b2.mono hB1.size)
    have C2 := (unhide HC).below hB2
    have hFm := fun W h1 h2 => l17Form_any g F (some ⟨gb, ob, none⟩) rc m n W h1 hG h2 (by omega) (unhide HM)
    have HFM := hide hFm
    have HP2 := hide C2.1.pf
    have HR2 := hide C2.2.2
    clear hFm hc3 HPF HRM C2
    obtain ⟨fm, hfm⟩ : ∃ fm, fm = form F m n := ⟨_, rfl⟩
    have HFMM := Lib.hid hfm
    have boxes : ∀ W, Below w2.heap.size w2 W → (Below w2.heap.size w2 W ∧ W.cell? ⟨g, 3, none⟩ = some (.slice (some ⟨gb, ob, none⟩) m.length rc)) := fun W h => ⟨h, ((unhide HC).below (hB2.trans (h.mono hB2.size))).2.1⟩
    have BX2 := hide boxes
    clear boxes hfm
    go_upto_region 5 with fail
    go_region_held3 (fun W => Below w2.heap.size w2 W ∧ W.cell? ⟨g, 3, none⟩ = some (.slice (some ⟨gb, ob, none⟩) m.length rc))
     (first | exact (unhide BX2) _ (Below.refl _ _) | exact (unhide BX2) _ (Below.refl _ _).drew | exact (unhide BX2) _ (by assumption))
     (first
      | (go_at_call 137; refine (unhide HFM _ ?_ ?_).mono ?_; exact (unhide HP2).below (And.left (by assumption)); exact (unhide HR2).below (And.left (by assumption)); rintro e W3 ⟨v3, rfl, o3, b3⟩; rw [← HFMM.out] at o3; obtain ⟨a3, c3, rfl, r3⟩ := o3.form; have hB3 := Below.chain (a := w2) (And.left (by assumption)) b3)
      | (go_at_call 136; refine (l10Same_any a3 (some ⟨gb, ob, none⟩) c3 rc fm m _ r3 ((unhide HR2).below hB3)).mono ?_; rintro e W4 ⟨rfl, q4⟩; have hB4 := Below.chain hB3 (q4.below _)))
    go_wp2
    go_ret
    refine ⟨ret_bool ?_, hB2.trans (hB4.mono hB2.size)⟩
    rw [HO.out, ← HNN.out, ← HFMM.out]
    simp [h8, unhide HCAP]
   ·
    have HN := Lib.hid (show okC F.p F.k F.poly m = false by rw [HO.out]; simp [hcap])
    rw [cnt, if_neg hcap] at hCn
    have HCN := hide hCn
    clear hCn hcap
    go_enter Tryz.func74, Tryz.ntmps74
    go_upto_region 1 with fail
    go_region_held3 (fun W => Below w.heap.size w W ∧ W.cell? ⟨g, 3, none⟩ = some (.slice (some ⟨gb, ob, none⟩) m.length rc) ∧ W.cell? ⟨gb, ob, none⟩ = some (.slice ai n ci))
     (first | exact (unhide BX) _ (Below.refl _ _) | exact (unhide BX) _ (Below.refl _ _).drew | exact (unhide BX) _ (by assumption))
     (first
      | (go_at_call 133; refine (unhide HV _ ?_).mono ?_; exact (And.left (by assumption)); rintro e w1 ⟨rfl, b1⟩; have hB1 := Below.chain (a := w) (And.left (by assumption)) b1))
    have C1 := (unhide HC).below hB1
    have hc3 := C1.2.1
    have HPF := hide C1.1.pf
    have HRM := hide C1.2.2
    clear C1
    go_upto_region 3 with fail
    go_quiet ((first | (go_at_call 135; exact Calls.quiet_of (unhide HS _ ((unhide HPF).below (Below.drewn _)))) | (go_at_call 134; exact Calls.quiet_of_same ((unhide HCN _).mono fun _ _ h => ⟨h.1, h.2.symm⟩))))
    obtain ⟨w2, hw2⟩ : ∃ z, z = w1.drewN nq := ⟨_, rfl⟩
    have b2 : Below w1.heap.size w1 w2 := by rw [hw2]; exact Below.drewn _
    rw [← hw2]
    clear hw2
    have hB2 := hB1.trans (b2.mono hB1.size)
    go_wp2
    go_ret
    exact ⟨ret_bool (by rw [HN.out]), hB2⟩
  ·
   have HN := Lib.hid (show okC F.p F.k F.poly m = false by rw [HO.out]; simp [h8])
   have h8' : decide ((8 : Int) < (m.length : Int)) = true := by rw [decide_eq_true_iff]; omega
   have hm0 : 0 < m.length := by omega
   clear h8
   go_enter Tryz.func74, Tryz.ntmps74
   go_upto_region 1 with fail
   go_region_held3 (fun W => Below w.heap.size w W ∧ W.cell? ⟨g, 3, none⟩ = some (.slice (some ⟨gb, ob, none⟩) m.length rc) ∧ W.cell? ⟨gb, ob, none⟩ = some (.slice ai n ci))
    (first | exact (unhide BX) _ (Below.refl _ _) | exact (unhide BX) _ (Below.refl _ _).drew | exact (unhide BX) _ (by assumption))
    (first
     | (go_at_call 133; refine (unhide HV _ ?_).mono ?_; exact (And.left (by assumption)); rintro e w1 ⟨rfl, b1⟩; have hB1 := Below.chain (a := w) (And.left (by assumption)) b1))
   go_wp2
   go_ret
   exact ⟨ret_bool (by rw [HN.out]), hB1⟩
theorem implVC_any (p d : Int) (a : Option Addr) (c : Nat) (xs : List Int) (ra : Option Addr) (rc : Nat) (m : List (List Int)) (w : World) (hx : Rd w a xs) (hm : RdS w ra m) (ed : I64 d) : Calls Tryz.prog 76 #[.agg #[.int .i64 p, .int .i64 d, .slice a xs.length c, .slice ra m.length rc]] w fun e w' => e = .returned (.bool (okC p d xs m)) ∧ Below w.heap.size w w' := by
 obtain ⟨W0, hHW⟩ : ∃ z, z = w.alloc (.cells #[.int .i64 p, .int .i64 d, .slice a xs.length c, .slice ra m.length rc] 52) := ⟨_, rfl⟩
 have b0 : Below w.heap.size w W0 := by rw [hHW]; exact (Below.refl _ _).alloc (Nat.le_refl _) _
 have k0 : Blk W0 w.heap.size 52 #[.int .i64 p, .int .i64 d, .slice a xs.length c, .slice ra m.length rc] := by rw [hHW]; exact Blk.new _ _ _ rfl
 have sk0 : w.heap.size < W0.heap.size := k0.lt
 have HW := Lib.hid hHW
 clear hHW
 have hml := hm.len
 have hx0 := hx.below b0
 have hm0 := hm.below b0
 have hV := fun W (hW : Below W0.heap.size W0 W) => validMatrix_any p d a c xs ra rc m W (hx0.below hW) (hm0.below hW) ed
 obtain ⟨k1, hk1⟩ : ∃ k1, k1 = okM p d xs m := ⟨_, rfl⟩
 rw [← hk1] at hV
 have HV := hide hV
 have boxes : ∀ W, Below W0.heap.size W0 W → (Below W0.heap.size W0 W ∧ W.cell? ⟨w.heap.size, 0, none⟩ = some (.int .i64 p) ∧ W.cell? ⟨w.heap.size, 1, none⟩ = some (.int .i64 d) ∧ W.cell? ⟨w.heap.size, 2, none⟩ = some (.slice a xs.length c) ∧ W.cell? ⟨w.heap.size, 3, none⟩ = some (.slice ra m.length rc)) := fun W h => ⟨h, (k0.below h k0.lt).cell 0, (k0.below h k0.lt).cell 1, (k0.below h k0.lt).cell 2, (k0.below h k0.lt).cell 3⟩
 have BX := hide boxes
 clear hV boxes
 cases k1 with
 | false =>
  have HN := Lib.hid (show okC p d xs m = false by rw [okC, ← hk1]; rfl)
  clear hk1
  go_enter Tryz.func76, Tryz.ntmps76
  go_upto_region 1 with fail
  rw [← HW.out]
  refine wp_region_noPanic ?_
  refine wp_region_seq (S := (fun W => Below W0.heap.size W0 W ∧ W.cell? ⟨w.heap.size, 0, none⟩ = some (.int .i64 p) ∧ W.cell? ⟨w.heap.size, 1, none⟩ = some (.int .i64 d) ∧ W.cell? ⟨w.heap.size, 2, none⟩ = some (.slice a xs.length c) ∧ W.cell? ⟨w.heap.size, 3, none⟩ = some (.slice ra m.length rc))) [true, true, true, true, false, true, true, true, true, true, true, true, true, true, true, true, true, true, true, true, true, true] (by kernel_rfl) (by kernel_rfl) (by kernel_rfl) rfl (fun _ _ _ _ _ h => h) ?_ (fun hHeld => ?_)
  · exact (unhide BX) _ (Below.refl _ _).drew
  simp only [List.toList_toArray]
  refine SeqH.take (v := ?hv13) (by rfl) ?hy13 ?hr13
  case hy13 =>
   intro w hSw
   try dsimp only at hSw
   go_simp
   try (with_reducible rfl)
  try simp only [Act.put, List.setIfInBounds_toArray, List.set_cons_zero, List.set_cons_succ]
  refine SeqH.take (v := ?hv14) (by rfl) ?hy14 ?hr14
  case hy14 =>
   intro w hSw
   try dsimp only at hSw
   go_simp
   try (with_reducible rfl)
  try simp only [Act.put, List.setIfInBounds_toArray, List.set_cons_zero, List.set_cons_succ]
  refine SeqH.take (v := ?hv15) (by rfl) ?hy15 ?hr15
  case hy15 =>
   intro w hSw
   try dsimp only at hSw
   go_simp
   try (with_reducible rfl)
  try simp only [Act.put, List.setIfInBounds_toArray, List.set_cons_zero, List.set_cons_succ]
  refine SeqH.take (v := ?hv16) (by rfl) ?hy16 ?hr16
  case hy16 =>
   intro w hSw
   try dsimp only at hSw
   go_simp
   try (with_reducible rfl)
  try simp only [Act.put, List.setIfInBounds_toArray, List.set_cons_zero, List.set_cons_succ]
  refine SeqH.call (fun K hK => ?_)
  go_simp
  refine (unhide HV _ (And.left hHeld)).mono ?_
  rintro e w1 ⟨rfl, b1⟩
  have hB1 := Below.chain (a := W0) (And.left hHeld) b1
  go_wp2_with fail
  refine hK.out _ _ ?_ (fun hHeld => ?_)
  · exact (unhide BX) _ hB1
  clear hK K
  try simp only [Act.put, List.setIfInBounds_toArray, List.set_cons_zero, List.set_cons_succ]
  refine SeqH.take (v := ?hv17) (by rfl) ?hy17 ?hr17
  case hy17 =>
   intro w hSw
   try dsimp only at hSw
   go_simp
   try (with_reducible rfl)
  try simp only [Act.put, List.setIfInBounds_toArray, List.set_cons_zero, List.set_cons_succ]
  refine SeqH.take (v := ?hv18) (by rfl) ?hy18 ?hr18
  case hy18 =>
   intro w hSw
   try dsimp only at hSw
   go_simp
   try (with_reducible rfl)
  try simp only [Act.put, List.setIfInBounds_toArray, List.set_cons_zero, List.set_cons_succ]
  refine SeqH.skip (by rfl) ?_
  try simp only [Act.put, List.setIfInBounds_toArray, List.set_cons_zero, List.set_cons_succ]
  refine SeqH.skip (by rfl) ?_
  try simp only [Act.put, List.setIfInBounds_toArray, List.set_cons_zero, List.set_cons_succ]
  refine SeqH.skip (by rfl) ?_
  try simp only [Act.put, List.setIfInBounds_toArray, List.set_cons_zero, List.set_cons_succ]
  refine SeqH.skip (by rfl) ?_
  try simp only [Act.put, List.setIfInBounds_toArray, List.set_cons_zero, List.set_cons_succ]
  refine SeqH.take (v := ?hv19) (by rfl) ?hy19 ?hr19
  case hy19 =>
   intro w hSw
   try dsimp only at hSw
   go_simp
   try (with_reducible rfl)
  try simp only [Act.put, List.setIfInBounds_toArray, List.set_cons_zero, List.set_cons_succ]
  refine SeqH.take (v := ?hv20) (by rfl) ?hy20 ?hr20
  case hy20 =>
   intro w hSw
   try dsimp only at hSw
   go_simp
   try (with_reducible rfl)
  try simp only [Act.put, List.setIfInBounds_toArray, List.set_cons_zero, List.set_cons_succ]
  refine SeqH.skip (by rfl) ?_
  try simp only [Act.put, List.setIfInBounds_toArray, List.set_cons_zero, List.set_cons_succ]
  refine SeqH.skip (by rfl) ?_
  try simp only [Act.put, List.setIfInBounds_toArray, List.set_cons_zero, List.set_cons_succ]
  refine SeqH.skip (by rfl) ?_
  try simp only [Act.put, List.setIfInBounds_toArray, List.set_cons_zero, List.set_cons_succ]
  refine SeqH.skip (by rfl) ?_
  try simp only [Act.put, List.setIfInBounds_toArray, List.set_cons_zero, List.set_cons_succ]
  refine SeqH.skip (by rfl) ?_
  try simp only [Act.put, List.setIfInBounds_toArray, List.set_cons_zero, List.set_cons_succ]
  refine SeqH.skip (by rfl) ?_
  try simp only [Act.put, List.setIfInBounds_toArray, List.set_cons_zero, List.set_cons_succ]
  refine SeqH.skip (by rfl) ?_
  try simp only [Act.put, List.setIfInBounds_toArray, List.set_cons_zero, List.set_cons_succ]
  refine SeqH.skip (by rfl) ?_
  try simp only [Act.put, List.setIfInBounds_toArray, List.set_cons_zero, List.set_cons_succ]
  refine SeqH.take (v := ?hv21) (by rfl) ?hy21 ?hr21
  case hy21 =>
   intro w hSw
   try dsimp only at hSw
   go_simp
   try (with_reducible rfl)
  try simp only [Act.put, List.setIfInBounds_toArray, List.set_cons_zero, List.set_cons_succ]
  refine SeqH.done (NoPanic.normal ?_)
  go_wp2
  go_ret
  exact ⟨ret_bool (by rw [HN.out]), b0.trans (hB1.mono (Nat.le_of_lt sk0))⟩
 | true =>
  obtain ⟨F, hG, rfl, rfl, rfl, hm1, hm32, hn1, hn32, hM⟩ := okM_true hk1.symm
  have ok := hG.ok
  obtain ⟨n2, n64⟩ := ok.n_bd
  have hO : okC F.p F.k F.poly m = (decide (m.length ≤ 8) && (decide (capTo F.n 4096 m.length ≤ 4096) && decide (form F m (nthL m 0).length = m))) := by rw [okC, ← hk1, fdR_eq]; rfl
  have HO := Lib.hid hO
  obtain ⟨n, hn⟩ : ∃ n, n = (nthL m 0).length := ⟨_, rfl⟩
  rw [← hn] at hn1 hn32 hM
  have HNN := Lib.hid hn
  have HM := hide hM
  clear hO hk1 hn hM
  by_cases h8 : m.length ≤ 8
  ·
   have h8' : decide ((8 : Int) < (m.length : Int)) = false := by rw [decide_eq_false_iff_not]; omega
   have hFS := fun W => fieldSize_any F a c W ok
   have hPU := fun W => powerUpTo_any F.n m.length 4096 W (by omega) (by omega) (by omega) (by omega) (by omega)
   rw [Int.toNat_natCast] at hPU
   have HFS := hide hFS
   obtain ⟨q, hq⟩ : ∃ q, q = capTo F.n 4096 m.length := ⟨_, rfl⟩
   rw [← hq] at hPU
   have HPU := hide hPU
   have HQ := Lib.hid hq
   clear hFS hPU hq
   by_cases hcap : q ≤ 4096
   ·
    have hcap' : decide (4096 < q) = false := by rw [decide_eq_false_iff_not]; omega
    have hT := fun W h => tablesOf_any F a c W h ok
    have hRd := fun tv W h1 h2 => reduce_any F tv ra rc m n W h1 hG h2 (by omega) (unhide HM)
    have HT := hide hT
    obtain ⟨fm, hfm⟩ : ∃ fm, fm = form F m n := ⟨_, rfl⟩
    rw [← hfm] at hRd
    have HRD := hide hRd
    have HFMM := Lib.hid hfm
    clear hT hRd hfm
    go_enter Tryz.func76, Tryz.ntmps76
    go_upto_region 1 with fail
    rw [← HW.out]
    go_region_held3 (fun W => Below W0.heap.size W0 W ∧ W.cell? ⟨w.heap.size, 0, none⟩ = some (.int .i64 F.p) ∧ W.cell? ⟨w.heap.size, 1, none⟩ = some (.int .i64 F.k) ∧ W.cell? ⟨w.heap.size, 2, none⟩ = some (.slice a F.poly.length c) ∧ W.cell? ⟨w.heap.size, 3, none⟩ = some (.slice ra m.length rc))
     (first | exact (unhide BX) _ (Below.refl _ _) | exact (unhide BX) _ (Below.refl _ _).drew | exact (unhide BX) _ (by assumption))
     (first
      | (go_at_call 140; refine (unhide HV _ ?_).mono ?_; exact (And.left (by assumption)); rintro e w1 ⟨rfl, b1⟩; have hB1 := Below.chain (a := W0) (And.left (by assumption)) b1)
      | (go_at_call 142; refine (unhide HFS _).mono ?_; rintro e w2 ⟨rfl, b2⟩; have hB2 := Below.chain hB1 b2)
      | (go_at_call 143; refine (sizeS_any _ _ _ _).mono ?_; rintro e w3 ⟨rfl, rfl⟩)
      | (go_at_call 141; refine (unhide HPU _).mono ?_; rintro e w4 ⟨rfl, rfl⟩))
    have hB2' := hB2
    go_upto_region 3 with fail
    go_region_held3 (fun W => Below W0.heap.size W0 W ∧ W.cell? ⟨w.heap.size, 0, none⟩ = some (.int .i64 F.p) ∧ W.cell? ⟨w.heap.size, 1, none⟩ = some (.int .i64 F.k) ∧ W.cell? ⟨w.heap.size, 2, none⟩ = some (.slice a F.poly.length c) ∧ W.cell? ⟨w.heap.size, 3, none⟩ = some (.slice ra m.length rc))
     (first | exact (unhide BX) _ hB2 | exact (unhide BX) _ hB2.drew | exact (unhide BX) _ (by assumption))
     (first
      | (go_at_call 84; refine (unhide HT _ ?_).mono ?_; exact hx0.below (And.left (by assumption)); rintro e w5 ⟨tv, rfl, T5, b5⟩; have hB5 := Below.chain (a := W0) (And.left (by assumption)) b5)
      | (go_at_call 85; refine (unhide HRD _ _ T5 (hm0.below hB5)).mono ?_; rintro e w6 ⟨v6, u6, d6, rfl, o6, _, b6⟩; obtain ⟨a6, c6, rfl, r6⟩ := o6.form; have hB6 := Below.chain hB5 b6))
    have k6 := k0.below hB6 k0.lt
    have f3 := k6.cell 3
    have hS := areSame_any a6 ra c6 rc fm m w6 r6 (hm0.below hB6)
    have HS := hide hS
    clear hS
    go_wp2_with fail
    refine (unhide HS).mono ?_
    rintro e w7 ⟨rfl, q7⟩
    go_wp2
    go_ret
    refine ⟨ret_bool ?_, b0.trans ((hB6.trans ((q7.below _).mono hB6.size)).mono (Nat.le_of_lt sk0))⟩
    rw [HO.out, ← HNN.out, ← HFMM.out, ← HQ.out]
    simp [h8, hcap]
   ·
    have HN := Lib.hid (show okC F.p F.k F.poly m = false by rw [HO.out, ← HQ.out]; simp [hcap])
    have hcap' : decide (4096 < q) = true := by rw [decide_eq_true_iff]; omega
    go_enter Tryz.func76, Tryz.ntmps76
    go_upto_region 1 with fail
    rw [← HW.out]
    go_region_held3 (fun W => Below W0.heap.size W0 W ∧ W.cell? ⟨w.heap.size, 0, none⟩ = some (.int .i64 F.p) ∧ W.cell? ⟨w.heap.size, 1, none⟩ = some (.int .i64 F.k) ∧ W.cell? ⟨w.heap.size, 2, none⟩ = some (.slice a F.poly.length c) ∧ W.cell? ⟨w.heap.size, 3, none⟩ = some (.slice ra m.length rc))
     (first | exact (unhide BX) _ (Below.refl _ _) | exact (unhide BX) _ (Below.refl _ _).drew | exact (unhide BX) _ (by assumption))
     (first
      | (go_at_call 140; refine (unhide HV _ ?_).mono ?_; exact (And.left (by assumption)); rintro e w1 ⟨rfl, b1⟩; have hB1 := Below.chain (a := W0) (And.left (by assumption)) b1)
      | (go_at_call 142; refine (unhide HFS _).mono ?_; rintro e w2 ⟨rfl, b2⟩; have hB2 := Below.chain hB1 b2)
      | (go_at_call 143; refine (sizeS_any _ _ _ _).mono ?_; rintro e w3 ⟨rfl, rfl⟩)
      | (go_at_call 141; refine (unhide HPU _).mono ?_; rintro e w4 ⟨rfl, rfl⟩))
    go_wp2
    go_ret
    exact ⟨ret_bool (by rw [HN.out]), b0.trans (hB2.mono (Nat.le_of_lt sk0))⟩
  ·
   have HN := Lib.hid (show okC F.p F.k F.poly m = false by rw [HO.out]; simp [h8])
   have h8' : decide ((8 : Int) < (m.length : Int)) = true := by rw [decide_eq_true_iff]; omega
   go_enter Tryz.func76, Tryz.ntmps76
   go_upto_region 1 with fail
   rw [← HW.out]
   refine wp_region_noPanic ?_
   refine wp_region_seq (S := (fun W => Below W0.heap.size W0 W ∧ W.cell? ⟨w.heap.size, 0, none⟩ = some (.int .i64 F.p) ∧ W.cell? ⟨w.heap.size, 1, none⟩ = some (.int .i64 F.k) ∧ W.cell? ⟨w.heap.size, 2, none⟩ = some (.slice a F.poly.length c) ∧ W.cell? ⟨w.heap.size, 3, none⟩ = some (.slice ra m.length rc))) [true, true, true, true, false, true, true, true, true, true, true, true, true, true, true, true, true, true, true, true, true, true] (by kernel_rfl) (by kernel_rfl) (by kernel_rfl) rfl (fun _ _ _ _ _ h => h) ?_ (fun hHeld => ?_)
   · exact (unhide BX) _ (Below.refl _ _).drew
   simp only [List.toList_toArray]
   refine SeqH.take (v := ?hv22) (by rfl) ?hy22 ?hr22
   case hy22 =>
    intro w hSw
    try dsimp only at hSw
    go_simp
    try (with_reducible rfl)
   try simp only [Act.put, List.setIfInBounds_toArray, List.set_cons_zero, List.set_cons_succ]
   refine SeqH.take (v := ?hv23) (by rfl) ?hy23 ?hr23
   case hy23 =>
    intro w hSw
    try dsimp only at hSw
    go_simp
    try (with_reducible rfl)
   try simp only [Act.put, List.setIfInBounds_toArray, List.set_cons_zero, List.set_cons_succ]
   refine SeqH.take (v := ?hv24) (by rfl) ?hy24 ?hr24
   case hy24 =>
    intro w hSw
    try dsimp only at hSw
    go_simp
    try (with_reducible rfl)
   try simp only [Act.put, List.setIfInBounds_toArray, List.set_cons_zero, List.set_cons_succ]
   refine SeqH.take (v := ?hv25) (by rfl) ?hy25 ?hr25
   case hy25 =>
    intro w hSw
    try dsimp only at hSw
    go_simp
    try (with_reducible rfl)
   try simp only [Act.put, List.setIfInBounds_toArray, List.set_cons_zero, List.set_cons_succ]
   refine SeqH.call (fun K hK => ?_)
   go_simp
   refine (unhide HV _ (And.left hHeld)).mono ?_
   rintro e w1 ⟨rfl, b1⟩
   have hB1 := Below.chain (a := W0) (And.left hHeld) b1
   go_wp2_with fail
   refine hK.out _ _ ?_ (fun hHeld => ?_)
   · exact (unhide BX) _ hB1
   clear hK K
   try simp only [Act.put, List.setIfInBounds_toArray, List.set_cons_zero, List.set_cons_succ]
   refine SeqH.take (v := ?hv26) (by rfl) ?hy26 ?hr26
   case hy26 =>
    intro w hSw
    try dsimp only at hSw
    go_simp
    try (with_reducible rfl)
   try simp only [Act.put, List.setIfInBounds_toArray, List.set_cons_zero, List.set_cons_succ]
   refine SeqH.take (v := ?hv27) (by rfl) ?hy27 ?hr27
   case hy27 =>
    intro w hSw
    try dsimp only at hSw
    go_simp
    try (with_reducible rfl)
   try simp only [Act.put, List.setIfInBounds_toArray, List.set_cons_zero, List.set_cons_succ]
   refine SeqH.take (v := ?hv28) (by rfl) ?hy28 ?hr28
   case hy28 =>
    intro w hSw
    try dsimp only at hSw
    go_simp
    try (with_reducible rfl)
   try simp only [Act.put, List.setIfInBounds_toArray, List.set_cons_zero, List.set_cons_succ]
   refine SeqH.take (v := ?hv29) (by rfl) ?hy29 ?hr29
   case hy29 =>
    intro w hSw
    try dsimp only at hSw
    go_simp
    try (with_reducible rfl)
   try simp only [Act.put, List.setIfInBounds_toArray, List.set_cons_zero, List.set_cons_succ]
   refine SeqH.take (v := ?hv30) (by rfl) ?hy30 ?hr30
   case hy30 =>
    intro w hSw
    try dsimp only at hSw
    go_simp
    try (with_reducible rfl)
   try simp only [Act.put, List.setIfInBounds_toArray, List.set_cons_zero, List.set_cons_succ]
   refine SeqH.take (v := ?hv31) (by rfl) ?hy31 ?hr31
   case hy31 =>
    intro w hSw
    try dsimp only at hSw
    go_simp
    try (with_reducible rfl)
   try simp only [Act.put, List.setIfInBounds_toArray, List.set_cons_zero, List.set_cons_succ]
   refine SeqH.take (v := ?hv32) (by rfl) ?hy32 ?hr32
   case hy32 =>
    intro w hSw
    try dsimp only at hSw
    go_simp
    try (with_reducible rfl)
   try simp only [Act.put, List.setIfInBounds_toArray, List.set_cons_zero, List.set_cons_succ]
   refine SeqH.take (v := ?hv33) (by rfl) ?hy33 ?hr33
   case hy33 =>
    intro w hSw
    try dsimp only at hSw
    go_simp
    try (with_reducible rfl)
   try simp only [Act.put, List.setIfInBounds_toArray, List.set_cons_zero, List.set_cons_succ]
   refine SeqH.skip (by rfl) ?_
   try simp only [Act.put, List.setIfInBounds_toArray, List.set_cons_zero, List.set_cons_succ]
   refine SeqH.skip (by rfl) ?_
   try simp only [Act.put, List.setIfInBounds_toArray, List.set_cons_zero, List.set_cons_succ]
   refine SeqH.skip (by rfl) ?_
   try simp only [Act.put, List.setIfInBounds_toArray, List.set_cons_zero, List.set_cons_succ]
   refine SeqH.skip (by rfl) ?_
   try simp only [Act.put, List.setIfInBounds_toArray, List.set_cons_zero, List.set_cons_succ]
   refine SeqH.skip (by rfl) ?_
   try simp only [Act.put, List.setIfInBounds_toArray, List.set_cons_zero, List.set_cons_succ]
   refine SeqH.skip (by rfl) ?_
   try simp only [Act.put, List.setIfInBounds_toArray, List.set_cons_zero, List.set_cons_succ]
   refine SeqH.skip (by rfl) ?_
   try simp only [Act.put, List.setIfInBounds_toArray, List.set_cons_zero, List.set_cons_succ]
   refine SeqH.skip (by rfl) ?_
   try simp only [Act.put, List.setIfInBounds_toArray, List.set_cons_zero, List.set_cons_succ]
   refine SeqH.take (v := ?hv34) (by rfl) ?hy34 ?hr34
   case hy34 =>
    intro w hSw
    try dsimp only at hSw
    go_simp
    try (with_reducible rfl)
   try simp only [Act.put, List.setIfInBounds_toArray, List.set_cons_zero, List.set_cons_succ]
   refine SeqH.done (NoPanic.normal ?_)
   go_wp2
   go_ret
   exact ⟨ret_bool (by rw [HN.out]), b0.trans (hB1.mono (Nat.le_of_lt sk0))⟩
end Go.Proofs.YtgfcbmflnldicaaGreat
namespace Go.Proofs.YtgfcbmflnldicaaGreat
open Go.RowKit
attribute [local go_sem ↓] Go.wp_at_zero Go.wp_at_succ
theorem encode_any (F : FD) (tv : Value) (ra : Option Addr) (rc : Nat) (rows : List (List Int)) (b : Option Addr) (cb : Nat) (msg : List Int) (n : Nat) (w : World) (hT : Tabs w F tv) (hG : F.Good) (hx : RdS w ra rows) (hy : Rd w b msg) (h0 : 0 < rows.length) (hM : F.Mat n rows) (hn1 : 1 ≤ n) (hn : n ≤ 32) (hl : msg.length ≤ rows.length) (hm : ∀ x ∈ msg, 0 ≤ x ∧ x < F.n) : Calls Tryz.prog 100 #[tv, .slice ra rows.length rc, .slice b msg.length cb] w fun e w' => ∃ v, e = .returned v ∧ Own w' w.heap.size v (encTo F n rows msg msg.length) ∧ Below w.heap.size w w' := by
 have hT0 := hT
 obtain ⟨aA, cA, aS, cS, aM, cM, aI, cI, rfl, _, _, _, _⟩ := hT
 have ok := hG.ok
 obtain ⟨n2, n64⟩ := ok.n_bd
 have hxl := hx.len
 have hyl := hy.len
 have hmk := fun W => run_make_row' (P := Tryz.prog) 24 2 (.int .i64 0) 8 Tryz.underlying24 Tryz.info_i64 rfl .i64 .i64 n (by omega) (by omega) W
 obtain ⟨W0, hHW⟩ : ∃ z, z = w.alloc (.cells #[.int .i64 F.n, .slice aA F.n cA, .slice aS F.n cS, .slice aM F.n cM, .slice aI F.n cI] 117) := ⟨_, rfl⟩
 have b0 : Below w.heap.size w W0 := by rw [hHW]; exact (Below.refl _ _).alloc (Nat.le_refl _) _
 have kT : Blk W0 w.heap.size 117 #[.int .i64 F.n, .slice aA F.n cA, .slice aS F.n cS, .slice aM F.n cM, .slice aI F.n cI] := by rw [hHW]; exact Blk.new _ _ _ rfl
 have skT : w.heap.size < W0.heap.size := kT.lt
 have HW := Lib.hid hHW
 clear hHW
 obtain ⟨gb, ob, rfl, hgb, hcc⟩ := (hx.below b0).at_ h0
 obtain ⟨ai0, ci0, h00, _⟩ := hcc 0 h0
 rw [Nat.add_zero, (Mat_nth hM h0).1] at h00
 have HCC := hide hcc
 have HX := hide hx
 have HY := hide hy
 have HMM := hide hM
 have HMS := hide hm
 have HT := hide hT0
 clear hcc hx hy hM hm hT0
 go_enter Tryz.func100, Tryz.ntmps100
 go_upto_region 1 with fail
 rw [← HW.out]
 go_upto_region 2 with fail
 obtain ⟨W1, hW1⟩ : ∃ z, z = W0.alloc (.cells (madeCells #[.int .i64 0] n) 2) := ⟨_, rfl⟩
 have oz : Own W1 W0.heap.size (.slice (some ⟨W0.heap.size, 0, none⟩) n n) (zeros n) := by rw [hW1]; exact Own.zeros W0 (Nat.le_refl _) (by omega)
 have bz : Below W0.heap.size W0 W1 := by rw [hW1]; exact (Below.refl _ _).alloc (Nat.le_refl _) _
 have sz : W0.heap.size < W1.heap.size := by rw [hW1]; simp
 rw [← hW1]
 clear hW1
 have kT1 := kT.below bz kT.lt
 have OZ := Lib.hid oz
 clear oz hmk
 go_wp2_with fail
 go_loopw [17] (fun iv wr => ∃ k : Nat, iv = .int .i64 k ∧ k ≤ msg.length ∧ Hid (Own wr W0.heap.size (.slice (some ⟨W0.heap.size, 0, none⟩) n n) (encTo F n rows msg k)) ∧ Hid (W1.grownBy wr (some W0.heap.size))) (fun iv _ => msg.length - (intOf iv).toNat)
 case atStart => exact ⟨0, rfl, Nat.zero_le _, OZ, hide (grown_refl _ _)⟩
 case round =>
  obtain ⟨k, rfl, hk, ho, hg⟩ := hrel
  have hbg : Below W0.heap.size W0 wr := bz.grown hg.out (by omega) (fun q hq => by injection hq; omega)
  have hbw : Below w.heap.size w wr := b0.trans (hbg.mono (Nat.le_of_lt skT))
  by_cases hkl : k < msg.length
  · have kTr := kT1.grown hg.out (by intro e; injection e; omega)
    obtain ⟨gm, om, rfl, _, hcm⟩ := ((unhide HY).below hbw).at_ (by omega)
    have hc1 := hcm k hkl
    have hxr := unhide HMS _ (nth_mem hkl)
    obtain ⟨ai, ci, hr1, hrr⟩ := unhide HCC k (by omega)
    have hmk := Mat_nth (unhide HMM) (show k < rows.length by omega)
    rw [hmk.1] at hr1
    have hr1w : wr.cell? ⟨gb, ob + k, none⟩ = some (.slice ai n ci) := (hbg.cell (p := ⟨gb, ob + k, none⟩) hgb).trans hr1
    obtain ⟨x, hxx⟩ : ∃ x, x = nth msg k := ⟨_, rfl⟩
    rw [← hxx] at hc1 hxr
    have hat : Calls Tryz.prog 162 #[.agg #[.int .i64 F.n, .slice aA F.n cA, .slice aS F.n cS, .slice aM F.n cM, .slice aI F.n cI], .slice (some ⟨W0.heap.size, 0, none⟩) n n, .slice ai n ci, .int .i64 x] wr.drew fun e w' => e = .returned (.tuple #[]) ∧ Own w' W0.heap.size (.slice (some ⟨W0.heap.size, 0, none⟩) n n) (addTo F (encTo F n rows msg k) (nthL rows k) x n) ∧ wr.drew.grownBy w' (some W0.heap.size) := by
     have hel := encTo_len F n rows msg k
     have h := addTimes_any F _ w wr.drew W0.heap.size W0.heap.size n ai ci (encTo F n rows msg k) (nthL rows k) x ok (unhide HT) hbw.drew (Nat.le_of_lt skT) (by rw [hel]; exact ho.out.drewN 1) ((hrr.below hbg).drewN 1) (fun p hp => by
      obtain ⟨b2, o2, e2, hb2, _⟩ := hrr.at_ (by rw [hmk.1]; omega)
      rw [hp] at e2
      injection e2 with e2
      rw [e2]
      show b2 ≠ W0.heap.size
      omega) (by rw [hel, hmk.1]) hxr.1 hxr.2 (encTo_el ok n rows msg k) hmk.2
     rw [hel, hmk.1] at h
     exact h
    have HAT := hide hat
    have HST := Lib.hid (show encTo F n rows msg (k + 1) = addTo F (encTo F n rows msg k) (nthL rows k) x n by rw [encTo, hxx])
    have f0 := kTr.cell 0
    have f1 := kTr.cell 1
    have f2 := kTr.cell 2
    have f3 := kTr.cell 3
    have f4 := kTr.cell 4
    have hkr : k < rows.length := by omega
    clear hat hxx hmk hcm hrr hr1
    go_wp2_with fail
    go_still_tail 7, (by kernel_rfl)
    change wpList _ _ _ _ _ wr.drew
    go_wp2_with fail
    refine (unhide HAT).mono ?_
    rintro e w5 ⟨rfl, o5, g5⟩
    go_wp2_with fail
    go_roundw
    case rel =>
     refine ⟨k + 1, by go_num, by omega, ?_, hide (grown_trans_row (grown_trans_row hg.out (grown_drew1 wr _)) g5)⟩
     show Own _ _ _ _
     rw [HST.out]
     exact o5
    case measure => simp only [intOf]; omega
  · have hke : k = msg.length := by omega
    have HE := Lib.hid hke
    clear hke
    go_wp2_with fail
    go_ret
    exact ⟨_, rfl, by have h := ho.out; rw [HE.out] at h; exact h.mono (Nat.le_of_lt skT), hbw⟩
end Go.Proofs.YtgfcbmflnldicaaGreat
namespace Go.Proofs.YtgfcbmflnldicaaGreat
open Go.RowKit
section
variable {F : FD}
theorem encTo_sum (ok : F.Ok) (n : Nat) (rows : List (List Int)) (msg : List Int) (k : Nat) {i : Nat} (hi : i < n) : nth (encTo F n rows msg k) i = F.sum (fun j => F.mul (nth msg j) (nth (nthL rows j) i)) k := by
 induction k with
 | zero => rw [encTo, zeros_nth]; rfl
 | succ k ih =>
  rw [encTo, addTo_nth F _ _ _ _ (by rw [encTo_len]; exact Nat.le_refl _), if_pos hi, ih]
  rfl
end
def wtTo (xs : List Int) : Nat → Nat
 | 0 => 0
 | k + 1 => if nth xs k = 0 then wtTo xs k else wtTo xs k + 1
def wt (xs : List Int) : Nat := wtTo xs xs.length
end Go.Proofs.YtgfcbmflnldicaaGreat
namespace Go.Proofs.YtgfcbmflnldicaaGreat
open Go.RowKit
attribute [local go_sem ↓] Go.wp_at_zero Go.wp_at_succ
theorem highFirst_any (j q k : Nat) (w : World) (hj : (j : Int) ≤ 9223372036854775807) (hq : 1 ≤ q) (hq2 : q ≤ 1000000) (hk0 : 1 ≤ k) (hk : k ≤ 1000000) :
    Calls Tryz.prog 217 #[.int .i64 j, .int .i64 q, .int .i64 k] w fun e w' => ∃ v, e = .returned v ∧ Own w' w.heap.size v (hig j q k) ∧ Below w.heap.size w w' := by
 have hd := fun W => digitsOf_any j q k W (by omega) (by omega) (by omega) (by omega) hk
 have HD := hide hd
 clear hd
 go_enter Tryz.func217, Tryz.ntmps217
 go_wp2_with fail
 refine (unhide HD _).mono ?_
 rintro e w1 ⟨v1, rfl, o1, b1⟩
 obtain ⟨g1, c1, rfl, q1, z1, cc1, cd1⟩ := o1.at_len (dig_len _ _ _) hk0
 have hr := reverse_any g1 c1 w.heap.size (dig j q k) w1 (by rw [dig_len]; exact o1)
 rw [dig_len] at hr
 have HR := hide hr
 clear hr
 go_wp2_with fail
 refine (unhide HR).mono ?_
 rintro e w2 ⟨rfl, o2, b2⟩
 go_wp2
 go_ret
 exact ⟨_, rfl, o2, b1.trans b2⟩
def wordsUp (F : FD) (n : Nat) (rows : List (List Int)) (k j : Nat) : List (List Int) := (List.range j).map fun i => encTo F n rows (hig i F.n k) k
theorem wordsUp_len (F : FD) (n : Nat) (rows : List (List Int)) (k j : Nat) : (wordsUp F n rows k j).length = j := by simp [wordsUp]
theorem wordsUp_succ (F : FD) (n : Nat) (rows : List (List Int)) (k j : Nat) : wordsUp F n rows k (j + 1) = wordsUp F n rows k j ++ [encTo F n rows (hig j F.n k) k] := by simp [wordsUp, List.range_succ]
theorem GC.cap_eq {F : FD} {n : Nat} {m : List (List Int)} (h : GC F n m) : capTo F.n 4096 m.length = ((F.n ^ m.length : Nat) : Int) ∧ F.n ^ m.length ≤ 4096 := by
 have h1 := cap_exact' h.cap
 have h2 := h.cap
 rw [h1] at h2
 have e : ((F.n : Int)) ^ m.length = ((F.n ^ m.length : Nat) : Int) := (Int.natCast_pow _ _).symm
 rw [e] at h1 h2
 exact ⟨h1, Int.ofNat_le.1 h2⟩
theorem wordsOf_any (F : FD) (ap : Option Addr) (cp : Nat) (ra : Option Addr) (rc : Nat) (m : List (List Int)) (n : Nat) (w : World) (hR : Rd w ap F.poly) (hm : RdS w ra m) (hC : GC F n m) :
    Calls Tryz.prog 169 #[.agg #[.int .i64 F.p, .int .i64 F.k, .slice ap F.poly.length cp, .slice ra m.length rc]] w fun e w' => ∃ v, e = .returned v ∧ OwnS w' w.heap.size v (wordsTo F n m m.length) ∧ Below w.heap.size w w' := by
 have hml := hm.len
 have hG := hC.good
 have ok := hG.ok
 obtain ⟨n2, n64⟩ := ok.n_bd
 have hm1 := hC.m1
 have hm8 := hC.m8
 obtain ⟨hcap, hQ⟩ := hC.cap_eq
 obtain ⟨W0, hHW⟩ : ∃ z, z = w.alloc (.cells #[.int .i64 F.p, .int .i64 F.k, .slice ap F.poly.length cp, .slice ra m.length rc] 52) := ⟨_, rfl⟩
 have b0 : Below w.heap.size w W0 := by rw [hHW]; exact (Below.refl _ _).alloc (Nat.le_refl _) _
 have k0 : Blk W0 w.heap.size 52 #[.int .i64 F.p, .int .i64 F.k, .slice ap F.poly.length cp, .slice ra m.length rc] := by rw [hHW]; exact Blk.new _ _ _ rfl
 have sk0 : w.heap.size < W0.heap.size := k0.lt
 have HW := Lib.hid hHW
 clear hHW
 have hT := tablesOf_any F ap cp W0 (hR.below b0) ok
 have HT := hide hT
 clear hT
 have f0 := k0.cell 0
 have f1 := k0.cell 1
 have f2 := k0.cell 2
 go_enter Tryz.func169, Tryz.ntmps169
 go_upto_region 1 with fail
 rw [← HW.out]
 go_wp2_with fail
 refine (unhide HT).mono ?_
 rintro e w1 ⟨tv, rfl, t1, b1⟩
 obtain ⟨aA, cA, aS, cS, aM, cM, aI, cI, rfl, t1A, t1S, t1M, t1I⟩ := t1
 obtain ⟨W1, hH1⟩ : ∃ z, z = w1.alloc (.cells #[.int .i64 F.n, .slice aA F.n cA, .slice aS F.n cS, .slice aM F.n cM, .slice aI F.n cI] 117) := ⟨_, rfl⟩
 have b1x : Below w1.heap.size w1 W1 := by rw [hH1]; exact (Below.refl _ _).alloc (Nat.le_refl _) _
 have kT : Blk W1 w1.heap.size 117 #[.int .i64 F.n, .slice aA F.n cA, .slice aS F.n cS, .slice aM F.n cM, .slice aI F.n cI] := by rw [hH1]; exact Blk.new _ _ _ rfl
 have H1 := Lib.hid hH1
 clear hH1
 have t2 : Tabs W1 F (.agg #[.int .i64 F.n, .slice aA F.n cA, .slice aS F.n cS, .slice aM F.n cM, .slice aI F.n cI]) := ⟨aA, cA, aS, cS, aM, cM, aI, cI, rfl, t1A.below b1x, t1S.below b1x, t1M.below b1x, t1I.below b1x⟩
 have c1 := Below.chain b1 b1x
 have k1 := k0.below c1 k0.lt
 have z1 := c1.size
 have bw1 : Below w.heap.size w W1 := b0.trans (c1.mono (Nat.le_of_lt sk0))
 have zw := bw1.size
 have hHF := fun (j : Nat) (hj : j < F.n ^ m.length) W => highFirst_any j F.n m.length W (by omega) (by omega) (by omega) (by omega) (by omega)
 have hEN := fun (j : Nat) (b : Option Addr) (cb : Nat) W (hy : Rd W b (hig j F.n m.length)) (hB : Below W1.heap.size W1 W) => encode_any F _ ra rc m b cb (hig j F.n m.length) n W (t2.below hB) hG ((hm.below bw1).below hB) hy hm1 hC.mat hC.n1 hC.n32 (by rw [hig_len]; exact Nat.le_refl _) (hig_el j (by omega) _)
 have hPW := fun W => powerUpTo_any F.n m.length 4096 W (by omega) (by omega) (by omega) (by omega) (by omega)
 rw [Int.toNat_natCast, hcap] at hPW
 have hWT : wordsTo F n m m.length = wordsUp F n m m.length (F.n ^ m.length) := rfl
 have hEL := fun j => encTo_len F n m (hig j F.n m.length) m.length
 obtain ⟨Q, hQQ⟩ : ∃ Q, Q = F.n ^ m.length := ⟨_, rfl⟩
 rw [← hQQ] at hHF hPW hWT hQ
 have HHF := hide hHF
 have HEN := hide hEN
 have HPW := hide hPW
 have HWT := Lib.hid hWT
 clear hHF hEN hPW hWT hQQ hcap t1A t1S t1M t1I f0 f1 f2
 have f3 := k1.cell 3
 have g0 := kT.cell 0
 have g1 := kT.cell 1
 have g2 := kT.cell 2
 have g3 := kT.cell 3
 have g4 := kT.cell 4
 have BX := hide (show ∀ W, Below W1.heap.size W1 W → (Below W1.heap.size W1 W ∧ W.cell? ⟨w.heap.size, 3, none⟩ = some (.slice ra m.length rc) ∧ W.cell? ⟨w1.heap.size, 0, none⟩ = some (.int .i64 F.n) ∧ W.cell? ⟨w1.heap.size, 1, none⟩ = some (.slice aA F.n cA) ∧ W.cell? ⟨w1.heap.size, 2, none⟩ = some (.slice aS F.n cS) ∧ W.cell? ⟨w1.heap.size, 3, none⟩ = some (.slice aM F.n cM) ∧ W.cell? ⟨w1.heap.size, 4, none⟩ = some (.slice aI F.n cI)) from fun W h => ⟨h, (k1.below h k1.lt).cell 3, (kT.below h kT.lt).cell 0, (kT.below h kT.lt).cell 1, (kT.below h kT.lt).cell 2, (kT.below h kT.lt).cell 3, (kT.below h kT.lt).cell 4⟩)
 go_upto_region 2 with fail
 rw [← H1.out]
 go_wp2_with fail
 refine (sizeS_any _ _ _ _).mono ?_
 rintro e w2 ⟨rfl, rfl⟩
 go_wp2_with fail
 refine (unhide HPW _).mono ?_
 rintro e w2 ⟨rfl, rfl⟩
 go_wp2_with fail
 go_loopw [5, 17] (fun v iv wr => ∃ j : Nat, iv = .int .i64 j ∧ j ≤ Q ∧ Hid (OwnS wr W1.heap.size v (wordsUp F n m m.length j)) ∧ Below W1.heap.size W1 wr) (fun _ iv _ => Q - (intOf iv).toNat)
 case atStart => exact ⟨0, rfl, Nat.zero_le _, OwnS.nil _ _, Below.refl _ _⟩
 case round =>
  obtain ⟨j, rfl, hj, ho, hb⟩ := hrel
  have hsz := hb.size
  by_cases hjq : j < Q
  · have hf := unhide HHF j hjq
    have he := unhide HEN j
    have hst := wordsUp_succ F n m m.length j
    have hel := hEL j
    obtain ⟨msg, hmsg⟩ : ∃ msg, msg = hig j F.n m.length := ⟨_, rfl⟩
    have hmsgl : msg.length = m.length := by rw [hmsg, hig_len]
    obtain ⟨wd, hwd⟩ : ∃ wd, wd = encTo F n m msg m.length := ⟨_, rfl⟩
    rw [← hmsg] at hf he hst hel
    rw [hmsgl] at he
    rw [← hwd] at hst he hel
    have HF := hide hf
    have HE := hide he
    have HST := Lib.hid hst
    have HML := Lib.hid hmsgl
    have hlen : (wordsUp F n m m.length j).length + 1 ≤ 1073741824 := by rw [wordsUp_len]; omega
    clear hf he hst hmsg hmsgl hwd hel
    go_upto_region 7 with fail
    go_region_held3 (fun W => Below W1.heap.size W1 W ∧ W.cell? ⟨w.heap.size, 3, none⟩ = some (.slice ra m.length rc) ∧ W.cell? ⟨w1.heap.size, 0, none⟩ = some (.int .i64 F.n) ∧ W.cell? ⟨w1.heap.size, 1, none⟩ = some (.slice aA F.n cA) ∧ W.cell? ⟨w1.heap.size, 2, none⟩ = some (.slice aS F.n cS) ∧ W.cell? ⟨w1.heap.size, 3, none⟩ = some (.slice aM F.n cM) ∧ W.cell? ⟨w1.heap.size, 4, none⟩ = some (.slice aI F.n cI))
     (first | exact (unhide BX) _ hb | exact (unhide BX) _ (hb.drew) | exact (unhide BX) _ (by assumption) | exact (unhide BX) _ hB4 | exact (unhide BX) _ (hB3.alloc hZ3 _))
     (first
      | (go_at_call 217; refine (unhide HF _).mono ?_; rintro e w2 ⟨v2, rfl, o2, b2⟩; obtain ⟨a2, c2, rfl, r2, _⟩ := o2.form; rw [HML.out]; have hB2 := Below.chain (a := W1) (And.left (by assumption)) b2)
      | (go_at_call 100; refine (unhide HE _ _ _ r2 hB2).mono ?_; rintro e w3 ⟨v3, rfl, o3, b3⟩; obtain ⟨a3, c3, rfl, _, _⟩ := o3.form; have hB3 := Below.chain hB2 b3; have hZ3 := hB3.size; have hQ2 := b2.size; have hQ3 := b3.size; have q3 := ((ho.out.drewN 1).toH.belw b2 (Nat.le_refl _)).belw b3 hQ2; have p3 := o3.mono hQ2)
      | (refine step_append_row rfl (.tmp 20) (.tmp 30) rfl rfl (q3.belw ((Below.refl _ _).alloc (Nat.le_refl _) _) (Nat.le_trans hQ2 hQ3)) _ rfl ((Blk.new w3 24 #[.slice a3 wd.length c3] rfl).cell 0) (p3.alloc _) hsz (alloc_le (Nat.le_trans hQ2 hQ3) _) hlen ?_; intro v4 W4 o4 g4 _; have hB4 := Below.stepS (hB3.alloc hZ3 _) g4 (q3.belw ((Below.refl _ _).alloc (Nat.le_refl _) _) (Nat.le_trans hQ2 hQ3)).own (Nat.le_refl _) (alloc_le hZ3 _)))
    have hb4 := hB4
    clear hB4 hB3 hB2
    go_wp2
    go_roundw
    case rel => exact ⟨j + 1, by go_num, by omega, by show OwnS _ _ _ _; rw [HST.out]; exact o4, hb4⟩
    case measure => simp only [intOf]; omega
  · have hke : j = Q := by omega
    have HE := Lib.hid hke
    clear hke
    go_wp2
    go_ret
    exact ⟨_, rfl, by have o := ho.out; rw [HE.out, ← HWT.out] at o; exact o.mono zw, bw1.trans (hb.mono zw)⟩
end Go.Proofs.YtgfcbmflnldicaaGreat
namespace Go.Proofs.YtgfcbmflnldicaaGreat
open Go.RowKit
attribute [local go_sem ↓] Go.wp_at_zero Go.wp_at_succ
def plusF (F : FD) (xs ys : List Int) : Int → Int → Int := fun _ i => F.add (nth xs i.toNat) (nth ys i.toNat)
theorem plus_row (F : FD) (xs ys : List Int) : rowF (plusF F xs ys) xs.length 0 = plus F xs ys := by
 rw [rowF, plus]
 rfl
theorem l18Plus_any (g : Nat) (F : FD) (a b : Option Addr) (c d : Nat) (xs ys : List Int) (n : Nat) (w : World) (hF : PF w g F) (ok : F.Ok) (hx : Rd w a xs) (hy : Rd w b ys) (hxl : xs.length = n) (hyl : ys.length = n) (hn1 : 1 ≤ n) (hn : n ≤ 1000) (hm : ∀ x ∈ xs, 0 ≤ x ∧ x < F.n) (hm2 : ∀ y ∈ ys, 0 ≤ y ∧ y < F.n) :
    Calls Tryz.prog 173 #[.pointer (some ⟨g, 0, none⟩), .slice a n c, .slice b n d] w fun e w' => ∃ v, e = .returned v ∧ Own w' w.heap.size v (plus F xs ys) ∧ Below w.heap.size w w' := by
 obtain ⟨n2, n64⟩ := ok.n_bd
 have hpr := plus_row F xs ys
 rw [hxl] at hpr
 have hmk := fun W => run_make_row' (P := Tryz.prog) 24 2 (.int .i64 0) 8 Tryz.underlying24 Tryz.info_i64 rfl .i64 .i64 n (by omega) (by omega) W
 obtain ⟨gx, ox, rfl, hgx, hcx⟩ := hx.at_ (by omega)
 obtain ⟨gy, oy, rfl, hgy, hcy⟩ := hy.at_ (by omega)
 have HCX := hide hcx
 have HCY := hide hcy
 have HX := hide hm
 have HY := hide hm2
 have HF := hide hF
 have HPR := Lib.hid hpr
 have HXL := Lib.hid hxl
 have HYL := Lib.hid hyl
 clear hcx hcy hx hy hm hm2 hF hpr hxl hyl
 go_enter Tryz.func173, Tryz.ntmps173
 go_upto_region 2 with fail
 obtain ⟨W1, hW1⟩ : ∃ z, z = w.alloc (.cells (madeCells #[.int .i64 0] n) 2) := ⟨_, rfl⟩
 have oz : Own W1 w.heap.size (.slice (some ⟨w.heap.size, 0, none⟩) n n) (zeros n) := by rw [hW1]; exact Own.zeros w (Nat.le_refl _) (by omega)
 have bz : Below w.heap.size w W1 := by rw [hW1]; exact (Below.refl _ _).alloc (Nat.le_refl _) _
 rw [← hW1]
 clear hW1
 have OZ := Lib.hid oz
 clear oz hmk
 go_wp2_with fail
 go_loopw [8] (fun iv wr => ∃ k : Nat, iv = .int .i64 k ∧ k ≤ n ∧ Hid (Own wr w.heap.size (.slice (some ⟨w.heap.size, 0, none⟩) n n) (rowTo (plusF F xs ys) n 0 k)) ∧ Below w.heap.size w wr) (fun iv _ => n - (intOf iv).toNat)
 case atStart => exact ⟨0, rfl, Nat.zero_le _, OZ, bz⟩
 case round =>
  obtain ⟨k, rfl, hk, ho, hb⟩ := hrel
  by_cases hkn : k < n
  · have hsz := hb.size
    have hrl := rowTo_len (plusF F xs ys) n 0 k
    have c36 := ho.out.cell (j := k) (by rw [hrl]; exact hkn)
    rw [rowTo_nth (plusF F xs ys) n 0 k hk k hkn, if_neg (by omega)] at c36
    have f36 := ho.out.frozen k
    have hG1 : w.heap.size < wr.heap.size := World.block_lt_of_cell? wr _ c36
    have hxr := unhide HX _ (nth_mem (k := k) (by rw [HXL.out]; exact hkn))
    have hyr := unhide HY _ (nth_mem (k := k) (by rw [HYL.out]; exact hkn))
    have cx := unhide HCX k (by rw [HXL.out]; exact hkn)
    have cy := unhide HCY k (by rw [HYL.out]; exact hkn)
    have hst : rowTo (plusF F xs ys) n 0 (k + 1) = (rowTo (plusF F xs ys) n 0 k).set k (F.add (nth xs k) (nth ys k)) := by rw [rowTo]; rfl
    obtain ⟨x, hX⟩ : ∃ x, x = nth xs k := ⟨_, rfl⟩
    obtain ⟨y, hY⟩ : ∃ y, y = nth ys k := ⟨_, rfl⟩
    rw [← hX] at cx hxr hst
    rw [← hY] at cy hyr hst
    have cx := (hb.cell (p := ⟨gx, ox + k, none⟩) hgx).trans cx
    have cy := (hb.cell (p := ⟨gy, oy + k, none⟩) hgy).trans cy
    clear hX hY hrl
    by_cases hy0 : y = 0
    · have hbe : (y == 0) = true := by rw [hy0]; rfl
      have hadd : F.add x y = x := by rw [hy0]; exact add_zero' ok ((el_n ok).2 hxr)
      rw [hadd] at hst
      have HST := Lib.hid hst
      clear hst hy0 hadd
      go_wp2_with fail
      go_roundw
      case rel =>
       have hs := ho.out.set k x
       refine ⟨k + 1, by go_num, by omega, ?_, hb.grown hs.2 (by omega) (fun q hq => by injection hq; omega)⟩
       show Own _ _ _ _
       rw [HST.out]
       exact hs.1
      case measure => simp only [intOf]; omega
    · have hbe : (y == 0) = false := by rw [beq_eq_false_iff_ne]; exact hy0
      have hsum := fun W (h : Below wr.heap.size wr W) => (l03Sum_any g F x y 1 W ((unhide HF).below (hb.trans (h.mono hsz))) ok hxr.1 (by omega) hyr.1 (by omega) (by omega) (by omega)).mono fun e w' q => And.intro q.1 (Below.chain h q.2)
      change ∀ W, Below wr.heap.size wr W → Calls Tryz.prog 97 #[.pointer (some ⟨g, 0, none⟩), .int .i64 x, .int .i64 y, .int .i64 1] W fun r w' => r = .returned (.int .i64 (F.add x y)) ∧ Below wr.heap.size wr w' at hsum
      obtain ⟨D, hD⟩ : ∃ D, D = F.add x y := ⟨_, rfl⟩
      rw [← hD] at hsum hst
      have later : ∀ W, Below wr.heap.size wr W → (W.cell? ⟨w.heap.size, k, none⟩ = some (.int .i64 0) ∧ W.frozen? ⟨w.heap.size, k, none⟩ = false) := fun W h => ⟨(h.cell (p := ⟨w.heap.size, k, none⟩) hG1).trans c36, (ho.out.below h (Nat.le_refl _)).frozen k⟩
      have LT := hide later
      have HSUM := hide hsum
      have HST := Lib.hid hst
      clear hD hsum hst later hy0
      go_upto_region 7 with fail
      go_region_with (first
       | (go_at_call 97; refine (unhide HSUM _ ?_).mono ?_; first | exact Below.refl _ _ | exact (Below.refl _ _).drew; rintro e W2 ⟨rfl, b2⟩; have d37 := (unhide LT _ b2).1; have f37 := (unhide LT _ b2).2))
      all_goals
       go_wp2
       go_roundw
       case rel =>
        have hs := (ho.out.below b2 (Nat.le_refl _)).set k D
        refine ⟨k + 1, by go_num, by omega, ?_, (hb.trans (b2.mono hsz)).grown hs.2 (by have := b2.size; omega) (fun q hq => by injection hq; omega)⟩
        show Own _ _ _ _
        rw [HST.out]
        exact hs.1
       case measure => simp only [intOf]; omega
  · have hke : k = n := by omega
    have HE := Lib.hid hke
    clear hke
    go_wp2_with fail
    go_ret
    exact ⟨_, rfl, by have h := ho.out; rw [HE.out, rowTo_all, HPR.out] at h; exact h, hb⟩
theorem OwnS.single {w : World} {B : Nat} {r : Value} {xs : List Int} (h : Own w B r xs) (hB : B ≤ w.heap.size) : OwnS (w.alloc (.cells #[r] 24)) B (.slice (some ⟨w.heap.size, 0, none⟩) 1 1) [xs] := by
 refine ⟨by simp, [r], ⟨by simp, .inr ⟨w.heap.size, 1, #[r], rfl, hB, heap_alloc_new w _, Nat.le_refl _, by unfold maxLen; omega, by simp, rfl⟩⟩, rfl, fun i x hx => ?_, fun i j x y k hij hx hy => ?_⟩
 · have hi := (List.getElem?_eq_some_iff.1 hx).1
   simp at hi
   subst hi
   simp at hx
   subst hx
   exact h.alloc _
 · have hi := (List.getElem?_eq_some_iff.1 hx).1
   have hj := (List.getElem?_eq_some_iff.1 hy).1
   simp at hi hj
   omega
def multTo (F : FD) (row : List Int) (x : Nat) : List (List Int) := (List.range x).map fun (y : Nat) => scale F y row
theorem multTo_len (F : FD) (row : List Int) (x : Nat) : (multTo F row x).length = x := by simp [multTo]
theorem multTo_succ (F : FD) (row : List Int) (x : Nat) : multTo F row (x + 1) = multTo F row x ++ [scale F x row] := by simp [multTo, List.range_succ]
theorem multTo_nth (F : FD) (row : List Int) {x y : Nat} (h : y < x) : nthL (multTo F row x) y = scale F y row := by simp [multTo, nthL, h]
def nextTo (F : FD) (n : Nat) (wds : List (List Int)) (row : List Int) (k : Nat) : List (List Int) := (wds.take k).flatMap fun wd => (List.range F.n).map fun (x : Nat) => addTo F wd row x n
def nextIn (F : FD) (n : Nat) (wds : List (List Int)) (row : List Int) (k x : Nat) : List (List Int) := nextTo F n wds row k ++ (List.range x).map fun (y : Nat) => addTo F (nthL wds k) row y n
theorem nextTo_len (F : FD) (n : Nat) (wds : List (List Int)) (row : List Int) {k : Nat} (hk : k ≤ wds.length) : (nextTo F n wds row k).length = k * F.n := by
 induction k with
 | zero => simp [nextTo]
 | succ k ih =>
  have ih := ih (by omega)
  rw [nextTo] at ih ⊢
  rw [take_nthL (by omega), List.flatMap_append, List.length_append, ih]
  simp [Nat.succ_mul]
theorem nextIn_len (F : FD) (n : Nat) (wds : List (List Int)) (row : List Int) {k x : Nat} (hk : k ≤ wds.length) : (nextIn F n wds row k x).length = k * F.n + x := by
 rw [nextIn, List.length_append, nextTo_len F n wds row hk]
 simp
theorem nextIn_succ (F : FD) (n : Nat) (wds : List (List Int)) (row : List Int) (k x : Nat) : nextIn F n wds row k (x + 1) = nextIn F n wds row k x ++ [addTo F (nthL wds k) row x n] := by simp [nextIn, List.range_succ]
theorem nextIn_all (F : FD) (n : Nat) (wds : List (List Int)) (row : List Int) {k : Nat} (hk : k < wds.length) : nextIn F n wds row k F.n = nextTo F n wds row (k + 1) := by
 rw [nextIn, nextTo, nextTo, take_nthL hk, List.flatMap_append]
 simp
theorem l18Words_any (g : Nat) (F : FD) (ra : Option Addr) (rc : Nat) (m : List (List Int)) (n : Nat) (w : World) (hF : PF w g F) (hc3 : w.cell? ⟨g, 3, none⟩ = some (.slice ra m.length rc)) (hm : RdS w ra m) (hC : GC F n m) :
    Calls Tryz.prog 95 #[.pointer (some ⟨g, 0, none⟩)] w fun e w' => ∃ v, e = .returned v ∧ OwnS w' w.heap.size v (wordsTo F n m m.length) ∧ Below w.heap.size w w' := by
 have hml := hm.len
 have hG := hC.good
 have ok := hG.ok
 obtain ⟨n2, n64⟩ := ok.n_bd
 have hm1 := hC.m1
 have hm8 := hC.m8
 have hn1 := hC.n1
 have hn32 := hC.n32
 obtain ⟨_, hQ⟩ := hC.cap_eq
 have hglt : g < w.heap.size := World.block_lt_of_cell? w _ hc3
 have hmk := fun W => run_make_row' (P := Tryz.prog) 24 2 (.int .i64 0) 8 Tryz.underlying24 Tryz.info_i64 rfl .i64 .i64 n (by omega) (by omega) W
 have hle : ∀ i, i ≤ m.length → F.n ^ i ≤ 4096 := fun i hi => Nat.le_trans (Nat.pow_le_pow_right (by omega) hi) hQ
 have HLE := hide hle
 have hMat := hC.mat
 obtain ⟨gb, ob, rfl, hgb, hcc⟩ := hm.at_ hm1
 obtain ⟨ai0, ci0, h00, _⟩ := hcc 0 hm1
 rw [Nat.add_zero, (Mat_nth hMat hm1).1] at h00
 have hsz1 := fun W (h : Below w.heap.size w W) => l03Size_qt g F W (hF.below h) ok
 have HSZ := hide hsz1
 have HCC := hide hcc
 have HMM := hide hMat
 have HF := hide hF
 have HQ := hide hQ
 clear hcc hm hMat hF hle hsz1 hQ
 go_enter Tryz.func95, Tryz.ntmps95
 go_upto_region 2 with fail
 obtain ⟨W1, hW1⟩ : ∃ z, z = (w.alloc (.cells (madeCells #[.int .i64 0] n) 2)).alloc (.cells #[.slice (some ⟨w.heap.size, 0, none⟩) n n] 24) := ⟨_, rfl⟩
 have oz : OwnS W1 w.heap.size (.slice (some ⟨w.heap.size + 1, 0, none⟩) 1 1) [zeros n] := by
  rw [hW1]
  have h := OwnS.single (Own.zeros w (Nat.le_refl _) (n := n) (by omega)) (by simp)
  have e : (w.alloc (.cells (madeCells #[.int .i64 0] n) 2)).heap.size = w.heap.size + 1 := by simp
  rw [e] at h
  exact h
 have bz : Below w.heap.size w W1 := by rw [hW1]; exact ((Below.refl _ _).alloc (Nat.le_refl _) _).alloc (by simp) _
 have HW1 := Lib.hid hW1
 have w0 : wordsTo F n m 0 = [zeros n] := rfl
 have W0 := Lib.hid w0
 have OZ := Lib.hid oz
 clear w0 oz hmk
 rw [← HW1.out]
 clear hW1
 go_wp2_with fail
 refine (unhide HSZ W1 bz).mono ?_
 rintro e w2 ⟨rfl, q2⟩
 have b2 := bz.trans (q2.below _)
 have oz2 := OZ.out.below (q2.below _) (Nat.le_refl _)
 have OZ2 := Lib.hid oz2
 clear oz2 OZ
 go_wp2_with fail
 go_loopw [3, 5] (fun v iv wr => ∃ i : Nat, iv = .int .i64 i ∧ i ≤ m.length ∧ Hid (OwnS wr w.heap.size v (wordsTo F n m i)) ∧ Below w.heap.size w wr) (fun _ iv _ => m.length - (intOf iv).toNat)
 case atStart => exact ⟨0, rfl, Nat.zero_le _, by show OwnS _ _ _ _; rw [W0.out]; exact OZ2.out, b2⟩
 case round =>
  obtain ⟨i, rfl, hi, ho, hb⟩ := hrel
  rename World => wo
  have hsz := hb.size
  have c3 := (hb.cell (p := ⟨g, 3, none⟩) hglt).trans hc3
  by_cases him : i < m.length
  · obtain ⟨ai, ci, hri, hrr⟩ := unhide HCC i him
    have hmt := Mat_nth (unhide HMM) him
    have hws := wordsTo_succ F n m i
    have hwl := wordsTo_len F n m i
    have hle1 := unhide HLE i hi
    have hwe : ∀ wd ∈ wordsTo F n m i, wd.length = n ∧ ∀ x ∈ wd, 0 ≤ x ∧ x < F.n := by
     intro wd h
     rw [wordsTo, List.mem_map] at h
     obtain ⟨j, _, rfl⟩ := h
     exact ⟨encTo_len _ _ _ _ _, encTo_el ok _ _ _ _⟩
    have hwp : 0 < (wordsTo F n m i).length := by rw [hwl]; exact Nat.pow_pos (by omega)
    rw [← hwl] at hle1
    have hwn := nextTo_len F n (wordsTo F n m i) (nthL m i) (Nat.le_refl _)
    have hwf : wordsTo F n m (i + 1) = nextTo F n (wordsTo F n m i) (nthL m i) (wordsTo F n m i).length := by rw [nextTo, List.take_length, hws]
    obtain ⟨row, hrow⟩ : ∃ row, row = nthL m i := ⟨_, rfl⟩
    obtain ⟨wds, hwds⟩ : ∃ wds, wds = wordsTo F n m i := ⟨_, rfl⟩
    rw [← hrow] at hri hrr hmt hwf hwn
    rw [← hwds] at ho hwe hwp hle1 hwf hwn
    rw [hmt.1] at hri
    have hri := (hb.cell (p := ⟨gb, ob + i, none⟩) hgb).trans hri
    have HWF := Lib.hid hwf
    have HMT := hide hmt
    have HWE := hide hwe
    obtain ⟨aw, cw, rfl, rw0⟩ := ho.out.form
    obtain ⟨gw, ow, rfl, hgw, hcw⟩ := rw0.at_ hwp
    have HCW := hide hcw
    have hsc := fun (x : Nat) (hx : x < F.n) W (h : Below w.heap.size w W) => l17Scale_any g F ai ci row x W ((unhide HF).below h) ok (hrr.below h) (by omega) (by omega) hmt.2
    rw [hmt.1] at hsc
    have HSC := hide hsc
    clear hrow hwds hws hwl hwe hwf hwn hmt hcw hsc ho rw0 hrr
    go_wp2_with fail
    go_loopw [6, 7] (fun v xv wr => ∃ x : Nat, xv = .int .i64 x ∧ x ≤ F.n ∧ Hid (OwnS wr wo.heap.size v (multTo F row x)) ∧ Below wo.heap.size wo wr) (fun _ xv _ => F.n - (intOf xv).toNat)
    case atStart => exact ⟨0, rfl, Nat.zero_le _, OwnS.empty wo (Nat.le_refl _), (Below.refl _ _).alloc (Nat.le_refl _) _⟩
    case round =>
     obtain ⟨x, rfl, hx, ho2, hb2⟩ := hrel
     have hsz2 := hb2.size
     by_cases hxn : x < F.n
     · have hbx : Below w.heap.size w wr := hb.trans (hb2.mono hsz)
       have hs := fun W (h : Below wo.heap.size wo W) => unhide HSC x hxn W (hb.trans (h.mono hsz))
       have hst := multTo_succ F row x
       have hlen : (multTo F row x).length + 1 ≤ 1073741824 := by rw [multTo_len]; omega
       have hscl : (scale F x row).length = n := by rw [scale_len, (unhide HMT).1]
       obtain ⟨sr, hsr⟩ : ∃ sr, sr = scale F x row := ⟨_, rfl⟩
       rw [← hsr] at hs hst hscl
       have BX := hide (show ∀ W, Below wo.heap.size wo W → (Below wo.heap.size wo W ∧ W.cell? ⟨g, 3, none⟩ = some (.slice (some ⟨gb, ob, none⟩) m.length rc) ∧ W.cell? ⟨gb, ob + i, none⟩ = some (.slice ai n ci)) from fun W h => ⟨h, (h.cell (p := ⟨g, 3, none⟩) (by have := hb.size; show g < _; omega)).trans c3, (h.cell (p := ⟨gb, ob + i, none⟩) (by have := hb.size; show gb < _; omega)).trans hri⟩)
       have HS := hide hs
       have HST := Lib.hid hst
       have HSL := Lib.hid hscl
       clear hsr hs hst hscl
       go_upto_region 10 with fail
       refine wp_region_noPanic ?_
       refine wp_region_seq (S := (fun W => Below wo.heap.size wo W ∧ W.cell? ⟨g, 3, none⟩ = some (.slice (some ⟨gb, ob, none⟩) m.length rc) ∧ W.cell? ⟨gb, ob + i, none⟩ = some (.slice ai n ci))) [true, true, true, true, true, true, true, true, true, true, true, true, false, false, false, true] (by kernel_rfl) (by kernel_rfl) (by kernel_rfl) rfl (fun _ _ _ _ _ h => h) ?_ (fun hHeld => ?_)
       · exact (unhide BX) _ hb2.drew
       simp only [List.toList_toArray]
       refine SeqH.take (v := ?hv1) (by rfl) ?hy1 ?hr1
       case hy1 =>
        intro w hSw
        try dsimp only at hSw
        go_simp
        try (with_reducible rfl)
       try simp only [Act.put, List.setIfInBounds_toArray, List.set_cons_zero, List.set_cons_succ]
       refine SeqH.take (v := ?hv2) (by rfl) ?hy2 ?hr2
       case hy2 =>
        intro w hSw
        try dsimp only at hSw
        go_simp
        try (with_reducible rfl)
       try simp only [Act.put, List.setIfInBounds_toArray, List.set_cons_zero, List.set_cons_succ]
       refine SeqH.take (v := ?hv3) (by rfl) ?hy3 ?hr3
       case hy3 =>
        intro w hSw
        try dsimp only at hSw
        go_simp
        try (with_reducible rfl)
       try simp only [Act.put, List.setIfInBounds_toArray, List.set_cons_zero, List.set_cons_succ]
       refine SeqH.take (v := ?hv4) (by rfl) ?hy4 ?hr4
       case hy4 =>
        intro w hSw
        try dsimp only at hSw
        go_simp
        try (with_reducible rfl)
       try simp only [Act.put, List.setIfInBounds_toArray, List.set_cons_zero, List.set_cons_succ]
       refine SeqH.take (v := ?hv5) (by rfl) ?hy5 ?hr5
       case hy5 =>
        intro w hSw
        try dsimp only at hSw
        go_simp
        try (with_reducible rfl)
       try simp only [Act.put, List.setIfInBounds_toArray, List.set_cons_zero, List.set_cons_succ]
       refine SeqH.take (v := ?hv6) (by rfl) ?hy6 ?hr6
       case hy6 =>
        intro w hSw
        try dsimp only at hSw
        go_simp
        try (with_reducible rfl)
       try simp only [Act.put, List.setIfInBounds_toArray, List.set_cons_zero, List.set_cons_succ]
       refine SeqH.take (v := ?hv7) (by rfl) ?hy7 ?hr7
       case hy7 =>
        intro w hSw
        try dsimp only at hSw
        go_simp
        try (with_reducible rfl)
       try simp only [Act.put, List.setIfInBounds_toArray, List.set_cons_zero, List.set_cons_succ]
       refine SeqH.take (v := ?hv8) (by rfl) ?hy8 ?hr8
       case hy8 =>
        intro w hSw
        try dsimp only at hSw
        go_simp
        try (with_reducible rfl)
       try simp only [Act.put, List.setIfInBounds_toArray, List.set_cons_zero, List.set_cons_succ]
       refine SeqH.take (v := ?hv9) (by rfl) ?hy9 ?hr9
       case hy9 =>
        intro w hSw
        try dsimp only at hSw
        go_simp
        try (with_reducible rfl)
       try simp only [Act.put, List.setIfInBounds_toArray, List.set_cons_zero, List.set_cons_succ]
       refine SeqH.take (v := ?hv10) (by rfl) ?hy10 ?hr10
       case hy10 =>
        intro w hSw
        try dsimp only at hSw
        go_simp
        try (with_reducible rfl)
       try simp only [Act.put, List.setIfInBounds_toArray, List.set_cons_zero, List.set_cons_succ]
       refine SeqH.take (v := ?hv11) (by rfl) ?hy11 ?hr11
       case hy11 =>
        intro w hSw
        try dsimp only at hSw
        go_simp
        try (with_reducible rfl)
       try simp only [Act.put, List.setIfInBounds_toArray, List.set_cons_zero, List.set_cons_succ]
       refine SeqH.take (v := ?hv12) (by rfl) ?hy12 ?hr12
       case hy12 =>
        intro w hSw
        try dsimp only at hSw
        go_simp
        try (with_reducible rfl)
       try simp only [Act.put, List.setIfInBounds_toArray, List.set_cons_zero, List.set_cons_succ]
       refine SeqH.call (fun K hK => ?_)
       go_simp
       refine (unhide HS _ (And.left hHeld)).mono ?_
       rintro e w3 ⟨v3, rfl, o3, b3⟩
       obtain ⟨a3, c3x, rfl, _, _⟩ := o3.form
       rw [HSL.out] at o3 ⊢
       have hB3 := Below.chain (a := wo) (And.left hHeld) b3
       have hZ3 := hB3.size
       have hQ3 := b3.size
       have q3 := (ho2.out.drewN 1).toH.belw b3 (Nat.le_refl _)
       go_wp2_with fail
       refine hK.out _ _ ?_ (fun hHeld => ?_)
       · exact (unhide BX) _ hB3
       clear hK K
       try simp only [Act.put, List.setIfInBounds_toArray, List.set_cons_zero, List.set_cons_succ]
       refine SeqH.call (fun K hK => ?_)
       go_simp
       refine hK.out _ _ ?_ (fun hHeld => ?_)
       · exact (unhide BX) _ (hB3.alloc hZ3 _)
       clear hK K
       try simp only [Act.put, List.setIfInBounds_toArray, List.set_cons_zero, List.set_cons_succ]
       refine SeqH.call (fun K hK => ?_)
       refine step_append_row rfl (.tmp 39) (.tmp 52) rfl rfl (q3.belw ((Below.refl _ _).alloc (Nat.le_refl _) _) hQ3) _ rfl ((Blk.new w3 24 #[.slice a3 n c3x] rfl).cell 0) (o3.alloc _) hsz2 (alloc_le hQ3 _) hlen ?_
       intro v4 W4 o4 g4 _
       have hB4 := Below.stepS (hB3.alloc hZ3 _) g4 (q3.belw ((Below.refl _ _).alloc (Nat.le_refl _) _) hQ3).own (Nat.le_refl _) (alloc_le hZ3 _)
       refine hK.out _ _ ?_ (fun hHeld => ?_)
       · exact (unhide BX) _ hB4
       clear hK K
       try simp only [Act.put, List.setIfInBounds_toArray, List.set_cons_zero, List.set_cons_succ]
       refine SeqH.take (v := ?hv13) (by rfl) ?hy13 ?hr13
       case hy13 =>
        intro w hSw
        try dsimp only at hSw
        go_simp
        try (with_reducible rfl)
       try simp only [Act.put, List.setIfInBounds_toArray, List.set_cons_zero, List.set_cons_succ]
       refine SeqH.done (NoPanic.normal ?_)
       go_wp2
       go_roundw
       case rel => exact ⟨x + 1, by go_num, by omega, by show OwnS _ _ _ _; rw [HST.out]; exact o4, hB4⟩
       case measure => simp only [intOf]; omega
     · have hke : x = F.n := by omega
       have HE := Lib.hid hke
       clear hke
       have om := ho2.out
       rw [HE.out] at om
       obtain ⟨am, cm, rfl, rm⟩ := om.form
       have hml2 := multTo_len F row F.n
       obtain ⟨gm, omm, rfl, hgm, hcm⟩ := rm.at_ (by rw [hml2]; omega)
       rw [hml2]
       have hbx : Below w.heap.size w wr := hb.trans (hb2.mono hsz)
       have hcm2 : ∀ x, x < F.n → ∃ ax cx, wr.cell? ⟨gm, omm + x, none⟩ = some (.slice ax n cx) ∧ Rd wr ax (scale F x row) := fun x hx => by
        obtain ⟨ax, cx, h1, h2⟩ := hcm x (by rw [hml2]; exact hx)
        rw [multTo_nth F row hx] at h1 h2
        rw [scale_len, (unhide HMT).1] at h1
        exact ⟨ax, cx, h1, h2⟩
       have hcw2 : ∀ k, k < wds.length → ∃ ax cx, wr.cell? ⟨gw, ow + k, none⟩ = some (.slice ax n cx) ∧ Rd wr ax (nthL wds k) := fun k hk => by
        obtain ⟨ax, cx, h1, h2⟩ := unhide HCW k hk
        rw [(unhide HWE _ (nthL_mem hk)).1] at h1
        exact ⟨ax, cx, (hb2.cell (p := ⟨gw, ow + k, none⟩) hgw).trans h1, h2.below hb2⟩
       have hgw2 : gw < wr.heap.size := by omega
       have hPL : ∀ (k x : Nat) (_ : k < wds.length) (_ : x < F.n) (a b : Option Addr) (c d : Nat) W, Below wr.heap.size wr W → Rd W a (nthL wds k) → Rd W b (scale F x row) → Calls Tryz.prog 173 #[.pointer (some ⟨g, 0, none⟩), .slice a n c, .slice b n d] W fun e w' => ∃ v, e = .returned v ∧ Own w' W.heap.size v (addTo F (nthL wds k) row x n) ∧ Below W.heap.size W w' := fun k x hk hx a b c d W hB r1 r2 => by
        have hw := unhide HWE _ (nthL_mem hk)
        have h := l18Plus_any g F a b c d (nthL wds k) (scale F x row) n W ((unhide HF).below (hbx.trans (hB.mono (by have := hbx.size; omega)))) ok r1 r2 hw.1 (by rw [scale_len, (unhide HMT).1]) hn1 (by omega) hw.2 (scale_el ok _ _)
        rw [plus_scale F (by rw [(unhide HMT).1, hw.1]), hw.1] at h
        exact h
       have hNA : ∀ k, k < wds.length → nextIn F n wds row k F.n = nextTo F n wds row (k + 1) := fun k hk => nextIn_all F n wds row hk
       have HCM := hide hcm2
       have HCW2 := hide hcw2
       have HPL := hide hPL
       have HNA := hide hNA
       clear om rm hml2 hcm hcm2 hcw2 hPL hNA ho2
       rename World => wm
       have hsm := hb2.size
       go_wp2_with fail
       go_loopw [8, 9] (fun v kv wr => ∃ k : Nat, kv = .int .i64 k ∧ k ≤ wds.length ∧ Hid (OwnS wr wm.heap.size v (nextTo F n wds row k)) ∧ Below wm.heap.size wm wr) (fun _ kv _ => wds.length - (intOf kv).toNat)
       case atStart => exact ⟨0, rfl, Nat.zero_le _, OwnS.empty wm (Nat.le_refl _), (Below.refl _ _).alloc (Nat.le_refl _) _⟩
       case round =>
        obtain ⟨k, rfl, hk, ho3, hb3⟩ := hrel
        rename World => wk
        have hsz3 := hb3.size
        by_cases hkl : k < wds.length
        · have hn0 : nextIn F n wds row k 0 = nextTo F n wds row k := by rw [nextIn]; simp
          have ho4 := ho3.out
          rw [← hn0] at ho4
          have HO4 := Lib.hid ho4
          clear ho4 hn0 ho3
          obtain ⟨aw, cw2, hw1, hwr⟩ := unhide HCW2 k hkl
          have HWR := hide hwr
          clear hwr
          go_wp2_with fail
          go_loopw [8, 10] (fun v xv wr => ∃ x : Nat, xv = .int .i64 x ∧ x ≤ F.n ∧ Hid (OwnS wr wm.heap.size v (nextIn F n wds row k x)) ∧ Below wm.heap.size wm wr) (fun _ xv _ => F.n - (intOf xv).toNat)
          case atStart => exact ⟨0, rfl, Nat.zero_le _, HO4, hb3⟩
          case round =>
           obtain ⟨x, rfl, hx, ho5, hb5⟩ := hrel
           have hsz5 := hb5.size
           by_cases hxn : x < F.n
           · obtain ⟨ax, cx, hm1, hmr⟩ := unhide HCM x hxn
             have hp := unhide HPL k x hkl hxn aw ax cw2 cx
             have hst := nextIn_succ F n wds row k x
             have hlen : (nextIn F n wds row k x).length + 1 ≤ 1073741824 := by
              rw [nextIn_len F n wds row (by omega)]
              have : k * F.n ≤ 4096 * 64 := Nat.mul_le_mul (by omega) n64
              omega
             have hwl : (addTo F (nthL wds k) row x n).length = n := by rw [addTo_len, (unhide HWE _ (nthL_mem hkl)).1]
             obtain ⟨nw, hnw⟩ : ∃ nw, nw = addTo F (nthL wds k) row x n := ⟨_, rfl⟩
             rw [← hnw] at hp hst hwl
             have hp2 := fun W (h : Below wm.heap.size wm W) => hp W h ((unhide HWR).below h) (hmr.below h)
             have BX := hide (show ∀ W, Below wm.heap.size wm W → (Below wm.heap.size wm W ∧ W.cell? ⟨gw, ow + k, none⟩ = some (.slice aw n cw2) ∧ W.cell? ⟨gm, omm + x, none⟩ = some (.slice ax n cx)) from fun W h => ⟨h, (h.cell (p := ⟨gw, ow + k, none⟩) hgw2).trans hw1, (h.cell (p := ⟨gm, omm + x, none⟩) hgm).trans hm1⟩)
             have HP := hide hp2
             have HST := Lib.hid hst
             have HWL := Lib.hid hwl
             clear hp hp2 hst hnw hmr hwl
             go_upto_region 18 with fail
             refine wp_region_noPanic ?_
             refine wp_region_seq (S := (fun W => Below wm.heap.size wm W ∧ W.cell? ⟨gw, ow + k, none⟩ = some (.slice aw n cw2) ∧ W.cell? ⟨gm, omm + x, none⟩ = some (.slice ax n cx))) [true, true, true, true, true, true, true, true, true, true, true, true, false, false, false, true] (by kernel_rfl) (by kernel_rfl) (by kernel_rfl) rfl (fun _ _ _ _ _ h => h) ?_ (fun hHeld => ?_)
             · exact (unhide BX) _ hb5.drew
             simp only [List.toList_toArray]
             refine SeqH.take (v := ?hv14) (by rfl) ?hy14 ?hr14
             case hy14 =>
              intro w hSw
              try dsimp only at hSw
              go_simp
              try (with_reducible rfl)
             try simp only [Act.put, List.setIfInBounds_toArray, List.set_cons_zero, List.set_cons_succ]
             refine SeqH.take (v := ?hv15) (by rfl) ?hy15 ?hr15
             case hy15 =>
              intro w hSw
              try dsimp only at hSw
              go_simp
              try (with_reducible rfl)
             try simp only [Act.put, List.setIfInBounds_toArray, List.set_cons_zero, List.set_cons_succ]
             refine SeqH.take (v := ?hv16) (by rfl) ?hy16 ?hr16
             case hy16 =>
              intro w hSw
              try dsimp only at hSw
              go_simp
              try (with_reducible rfl)
             try simp only [Act.put, List.setIfInBounds_toArray, List.set_cons_zero, List.set_cons_succ]
             refine SeqH.take (v := ?hv17) (by rfl) ?hy17 ?hr17
             case hy17 =>
              intro w hSw
              try dsimp only at hSw
              go_simp
              try (with_reducible rfl)
             try simp only [Act.put, List.setIfInBounds_toArray, List.set_cons_zero, List.set_cons_succ]
             refine SeqH.take (v := ?hv18) (by rfl) ?hy18 ?hr18
             case hy18 =>
              intro w hSw
              try dsimp only at hSw
              go_simp
              try (with_reducible rfl)
             try simp only [Act.put, List.setIfInBounds_toArray, List.set_cons_zero, List.set_cons_succ]
             refine SeqH.take (v := ?hv19) (by rfl) ?hy19 ?hr19
             case hy19 =>
              intro w hSw
              try dsimp only at hSw
              go_simp
              try (with_reducible rfl)
             try simp only [Act.put, List.setIfInBounds_toArray, List.set_cons_zero, List.set_cons_succ]
             refine SeqH.take (v := ?hv20) (by rfl) ?hy20 ?hr20
             case hy20 =>
              intro w hSw
              try dsimp only at hSw
              go_simp
              try (with_reducible rfl)
             try simp only [Act.put, List.setIfInBounds_toArray, List.set_cons_zero, List.set_cons_succ]
             refine SeqH.take (v := ?hv21) (by rfl) ?hy21 ?hr21
             case hy21 =>
              intro w hSw
              try dsimp only at hSw
              go_simp
              try (with_reducible rfl)
             try simp only [Act.put, List.setIfInBounds_toArray, List.set_cons_zero, List.set_cons_succ]
             refine SeqH.take (v := ?hv22) (by rfl) ?hy22 ?hr22
             case hy22 =>
              intro w hSw
              try dsimp only at hSw
              go_simp
              try (with_reducible rfl)
             try simp only [Act.put, List.setIfInBounds_toArray, List.set_cons_zero, List.set_cons_succ]
             refine SeqH.take (v := ?hv23) (by rfl) ?hy23 ?hr23
             case hy23 =>
              intro w hSw
              try dsimp only at hSw
              go_simp
              try (with_reducible rfl)
             try simp only [Act.put, List.setIfInBounds_toArray, List.set_cons_zero, List.set_cons_succ]
             refine SeqH.take (v := ?hv24) (by rfl) ?hy24 ?hr24
             case hy24 =>
              intro w hSw
              try dsimp only at hSw
              go_simp
              try (with_reducible rfl)
             try simp only [Act.put, List.setIfInBounds_toArray, List.set_cons_zero, List.set_cons_succ]
             refine SeqH.take (v := ?hv25) (by rfl) ?hy25 ?hr25
             case hy25 =>
              intro w hSw
              try dsimp only at hSw
              go_simp
              try (with_reducible rfl)
             try simp only [Act.put, List.setIfInBounds_toArray, List.set_cons_zero, List.set_cons_succ]
             refine SeqH.call (fun K hK => ?_)
             go_simp
             refine (unhide HP _ (And.left hHeld)).mono ?_
             rintro e w3 ⟨v3, rfl, o3, b3⟩
             obtain ⟨a3, c3x, rfl, _, _⟩ := o3.form
             rw [HWL.out] at o3 ⊢
             have hB3 := Below.chain (a := wm) (And.left hHeld) b3
             have hZ3 := hB3.size
             have hQ3 := b3.size
             have q3 := (ho5.out.drewN 1).toH.belw b3 (Nat.le_refl _)
             go_wp2_with fail
             refine hK.out _ _ ?_ (fun hHeld => ?_)
             · exact (unhide BX) _ hB3
             clear hK K
             try simp only [Act.put, List.setIfInBounds_toArray, List.set_cons_zero, List.set_cons_succ]
             refine SeqH.call (fun K hK => ?_)
             go_simp
             refine hK.out _ _ ?_ (fun hHeld => ?_)
             · exact (unhide BX) _ (hB3.alloc hZ3 _)
             clear hK K
             try simp only [Act.put, List.setIfInBounds_toArray, List.set_cons_zero, List.set_cons_succ]
             refine SeqH.call (fun K hK => ?_)
             refine step_append_row rfl (.tmp 66) (.tmp 79) rfl rfl (q3.belw ((Below.refl _ _).alloc (Nat.le_refl _) _) hQ3) _ rfl ((Blk.new w3 24 #[.slice a3 n c3x] rfl).cell 0) (o3.alloc _) hsz5 (alloc_le hQ3 _) hlen ?_
             intro v4 W4 o4 g4 _
             have hB4 := Below.stepS (hB3.alloc hZ3 _) g4 (q3.belw ((Below.refl _ _).alloc (Nat.le_refl _) _) hQ3).own (Nat.le_refl _) (alloc_le hZ3 _)
             refine hK.out _ _ ?_ (fun hHeld => ?_)
             · exact (unhide BX) _ hB4
             clear hK K
             try simp only [Act.put, List.setIfInBounds_toArray, List.set_cons_zero, List.set_cons_succ]
             refine SeqH.take (v := ?hv26) (by rfl) ?hy26 ?hr26
             case hy26 =>
              intro w hSw
              try dsimp only at hSw
              go_simp
              try (with_reducible rfl)
             try simp only [Act.put, List.setIfInBounds_toArray, List.set_cons_zero, List.set_cons_succ]
             refine SeqH.done (NoPanic.normal ?_)
             go_wp2
             go_roundw
             case rel => exact ⟨x + 1, by go_num, by omega, by show OwnS _ _ _ _; rw [HST.out]; exact o4, hB4⟩
             case measure => simp only [intOf]; omega
           · have hke : x = F.n := by omega
             have HE := Lib.hid hke
             clear hke
             go_wp2
             go_roundw
             case rel =>
              refine ⟨k + 1, by go_num, by omega, ?_, hb5⟩
              show OwnS _ _ _ _
              have o := ho5.out
              rw [HE.out, unhide HNA k hkl] at o
              exact o
             case measure => simp only [intOf]; omega
        · have hke : k = wds.length := by omega
          have HE := Lib.hid hke
          clear hke
          go_wp2
          go_roundw
          case rel =>
           refine ⟨i + 1, by go_num, by omega, ?_, hbx.trans (hb3.mono (by have := hbx.size; omega))⟩
           show OwnS _ _ _ _
           rw [HWF.out]
           have o := ho3.out
           rw [HE.out] at o
           exact o.mono (by have := hbx.size; omega)
          case measure => simp only [intOf]; omega
  · have hke : i = m.length := by omega
    have HE := Lib.hid hke
    clear hke
    go_wp2
    go_ret
    exact ⟨_, rfl, by have o := ho.out; rw [HE.out] at o; exact o, hb⟩
end Go.Proofs.YtgfcbmflnldicaaGreat
namespace Go.Proofs.YtgfcbmflnldicaaGreat
open Go.RowKit
attribute [local go_sem ↓] Go.wp_at_zero Go.wp_at_succ
theorem weightOf_any (a : Option Addr) (c : Nat) (xs : List Int) (w : World) (hx : Rd w a xs) :
    Calls Tryz.prog 170 #[.slice a xs.length c] w fun e w' => e = .returned (.int .i64 (wt xs : Nat)) ∧ w = w' := by
 have hxl := hx.len
 go_enter Tryz.func170, Tryz.ntmps170
 go_wp2
 go_loopw [3, 8] (fun nv iv wr => ∃ (k y : Nat), iv = .int .i64 k ∧ nv = .int .i64 y ∧ k ≤ xs.length ∧ y ≤ k ∧ Hid (y = wtTo xs k) ∧ w = wr) (fun _ iv _ => xs.length - (intOf iv).toNat)
 case atStart => exact ⟨0, 0, rfl, rfl, Nat.zero_le _, Nat.le_refl _, rfl, rfl⟩
 case round =>
  obtain ⟨k, y, rfl, rfl, hk, hyk, hY, rfl⟩ := hrel
  by_cases hkl : k < xs.length
  · obtain ⟨b1, o1, rfl, _, hc⟩ := hx.at_ (by omega)
    have h1 := hc k hkl
    have hst : wtTo xs (k + 1) = if nth xs k = 0 then wtTo xs k else wtTo xs k + 1 := rfl
    obtain ⟨u, hu⟩ : ∃ u, u = nth xs k := ⟨_, rfl⟩
    rw [← hu] at h1 hst
    have HST := Lib.hid hst
    clear hc hu hst
    by_cases hn : u = 0
    · have hbn : (u != 0) = false := by rw [bne_eq_false_iff_eq]; exact hn
      have HN := Lib.hid hn
      clear hn
      go_wp2
      go_roundw
      case rel => exact ⟨k + 1, y, by go_num, rfl, by omega, by omega, by show _ = _; rw [HST.out, if_pos HN.out, hY.out], trivial⟩
      case measure => simp [intOf]; omega
    · have hbn : (u != 0) = true := by rw [bne_iff_ne]; exact hn
      have HN := hide hn
      clear hn
      go_wp2
      go_roundw
      case rel => exact ⟨k + 1, y + 1, by go_num, by go_num, by omega, by omega, by show _ = _; rw [HST.out, if_neg (unhide HN), hY.out], trivial⟩
      case measure => simp [intOf]; omega
  · have hke : k = xs.length := by omega
    have HE := Lib.hid hke
    clear hke
    go_wp2
    go_ret
    exact ⟨ret_int (by rw [hY.out, HE.out, wt]), rfl⟩
theorem l18Weight_any (a : Option Addr) (c : Nat) (xs : List Int) (w : World) (hx : Rd w a xs) :
    Calls Tryz.prog 126 #[.slice a xs.length c] w fun e w' => e = .returned (.int .i64 (wt xs : Nat)) ∧ w = w' := by
 have hxl := hx.len
 go_enter Tryz.func126, Tryz.ntmps126
 go_wp2
 go_loopw [3, 4] (fun nv iv wr => ∃ (k y : Nat), iv = .int .i64 k ∧ nv = .int .i64 y ∧ k ≤ xs.length ∧ y ≤ k ∧ Hid (y = wtTo xs k) ∧ w = wr) (fun _ iv _ => xs.length - (intOf iv).toNat)
 case atStart => exact ⟨0, 0, rfl, rfl, Nat.zero_le _, Nat.le_refl _, rfl, rfl⟩
 case round =>
  obtain ⟨k, y, rfl, rfl, hk, hyk, hY, rfl⟩ := hrel
  by_cases hkl : k < xs.length
  · obtain ⟨b1, o1, rfl, _, hc⟩ := hx.at_ (by omega)
    have h1 := hc k hkl
    have hst : wtTo xs (k + 1) = if nth xs k = 0 then wtTo xs k else wtTo xs k + 1 := rfl
    obtain ⟨u, hu⟩ : ∃ u, u = nth xs k := ⟨_, rfl⟩
    rw [← hu] at h1 hst
    have HST := Lib.hid hst
    clear hc hu hst
    by_cases hn : u = 0
    · have hbn : (u != 0) = false := by rw [bne_eq_false_iff_eq]; exact hn
      have HN := Lib.hid hn
      clear hn
      go_wp2
      go_roundw
      case rel => exact ⟨k + 1, y, by go_num, rfl, by omega, by omega, by show _ = _; rw [HST.out, if_pos HN.out, hY.out], trivial⟩
      case measure => simp [intOf]; omega
    · have hbn : (u != 0) = true := by rw [bne_iff_ne]; exact hn
      have HN := hide hn
      clear hn
      go_wp2
      go_roundw
      case rel => exact ⟨k + 1, y + 1, by go_num, by go_num, by omega, by omega, by show _ = _; rw [HST.out, if_neg (unhide HN), hY.out], trivial⟩
      case measure => simp [intOf]; omega
  · have hke : k = xs.length := by omega
    have HE := Lib.hid hke
    clear hke
    go_wp2
    go_ret
    exact ⟨ret_int (by rw [hY.out, HE.out, wt]), rfl⟩
theorem lengthOf_any (p d : Int) (a : Option Addr) (k c : Nat) (ra : Option Addr) (rc : Nat) (m : List (List Int)) (w : World) (hm : RdS w ra m) (h0 : 0 < m.length) :
    Calls Tryz.prog 68 #[.agg #[.int .i64 p, .int .i64 d, .slice a k c, .slice ra m.length rc]] w fun e w' => e = .returned (.int .i64 ((nthL m 0).length : Nat)) ∧ Below w.heap.size w w' := by
 obtain ⟨gb, ob, rfl, hgb, hcc⟩ := hm.at_ h0
 obtain ⟨ai, ci, h1, _⟩ := hcc 0 h0
 rw [Nat.add_zero] at h1
 obtain ⟨N, hN⟩ : ∃ N, N = (nthL m 0).length := ⟨_, rfl⟩
 rw [← hN] at h1 ⊢
 obtain ⟨W0, hHW⟩ : ∃ z, z = w.alloc (.cells #[.int .i64 p, .int .i64 d, .slice a k c, .slice (some ⟨gb, ob, none⟩) m.length rc] 52) := ⟨_, rfl⟩
 have b0 : Below w.heap.size w W0 := by rw [hHW]; exact (Below.refl _ _).alloc (Nat.le_refl _) _
 have k0 : Blk W0 w.heap.size 52 #[.int .i64 p, .int .i64 d, .slice a k c, .slice (some ⟨gb, ob, none⟩) m.length rc] := by rw [hHW]; exact Blk.new _ _ _ rfl
 have h1 := (b0.cell (p := ⟨gb, ob, none⟩) hgb).trans h1
 have f3 := k0.cell 3
 have HW := Lib.hid hHW
 clear hHW hN hcc hm
 go_enter Tryz.func68, Tryz.ntmps68
 go_upto_region 1 with fail
 rw [← HW.out]
 go_wp2_with fail
 refine (size_any _ _ _ _).mono ?_
 rintro e w1 ⟨rfl, rfl⟩
 go_wp2
 go_ret
 exact ⟨rfl, b0⟩
end Go.Proofs.YtgfcbmflnldicaaGreat
namespace Go.Proofs.YtgfcbmflnldicaaGreat
open Go.RowKit
attribute [local go_sem ↓] Go.wp_at_zero Go.wp_at_succ
theorem below_drewN {B : Nat} {a w : World} (h : Below B a w) (k : Nat) : Below B a (w.drewN k) := h.trans (Qt.below ⟨k, rfl⟩ _)
end Go.Proofs.YtgfcbmflnldicaaGreat
namespace Go.Proofs.YtgfcbmflnldicaaGreat
open Go.RowKit
attribute [local go_sem ↓] Go.wp_at_zero Go.wp_at_succ
def ResLLi (w : World) (r : List (List Int) × Int) (e : Ending) (w' : World) : Prop := ∃ v, e = .returned (.tuple #[v, .int .i64 r.2]) ∧ OwnS w' w.heap.size v r.1 ∧ Below w.heap.size w w'
end Go.Proofs.YtgfcbmflnldicaaGreat
namespace Go.Proofs.YtgfcbmflnldicaaGreat
open Go.RowKit
section
variable {F : FD} {n : Nat} {m : List (List Int)}
def wf (v : Nat → Int) (k : Nat) : Nat := (List.range k).countP fun i => v i != 0
theorem encTo_sp (ok : F.Ok) {A : List (List Int)} (hM : F.Mat n A) {msg : List Int} (hm : ∀ c ∈ msg, 0 ≤ c ∧ c < F.n) {k : Nat} (hk : k ≤ A.length) : Sp F A (nth (encTo F n A msg k)) := by
 induction k with
 | zero =>
  rw [encTo, show nth (zeros n) = fun _ => 0 from by funext i; exact zeros_nth n i]
  exact .zero
 | succ k ih =>
  have hc : F.el (nth msg k) := by
   rcases Nat.lt_or_ge k msg.length with hh | hh
   · exact (el_n ok).2 (hm _ (nth_mem hh))
   · rw [nth_big hh]; exact zero_el ok
  have h := (ih (by omega)).step (j := k) (by omega) hc
  have e : (fun i => F.add (nth (encTo F n A msg k) i) (F.mul (nth msg k) (nth (nthL A k) i))) = nth (encTo F n A msg (k + 1)) := by
   funext i
   rcases Nat.lt_or_ge i n with hi | hi
   · rw [encTo, addTo_nth F _ _ _ _ (by rw [encTo_len]; exact Nat.le_refl _), if_pos hi]
   · rw [nth_big (xs := encTo F n A msg (k + 1)) (by rw [encTo_len]; exact hi), nth_big (xs := encTo F n A msg k) (by rw [encTo_len]; exact hi), nth_big (xs := nthL A k) (by rw [(Mat_nth hM (i := k) (by omega)).1]; exact hi), mul_zero_all ok, add_zero' ok (zero_el ok)]
  rw [e] at h
  exact h
theorem Ech.enc (ok : F.Ok) {pv : List Nat} (hE : Ech F n m pv) {v : List Int} (hl : v.length = n) (hs : Sp F m (nth v)) : v = encTo F n m (pv.map (nth v)) m.length := by
 refine eq_of_nth (by rw [encTo_len, hl]) fun i hi => ?_
 rw [hl] at hi
 rw [encTo_sum ok n m _ _ hi, hE.coord ok hs i]
 refine sum_congr fun j hj => ?_
 have hj' : j < pv.length := by rw [hE.len]; exact hj
 rw [nth_lt (xs := pv.map (nth v)) (by rw [List.length_map]; exact hj'), List.getElem_map, List.getD_eq_getElem?_getD, List.getElem?_eq_getElem hj']
 rfl
theorem GC.word_sp (h : GC F n m) {j : Nat} (hj : j < F.n ^ m.length) : (nthL (wordsTo F n m m.length) j).length = n ∧ (∀ x ∈ nthL (wordsTo F n m m.length) j, 0 ≤ x ∧ x < F.n) ∧ Sp F m (nth (nthL (wordsTo F n m m.length) j)) := by
 have ok := h.good.ok
 obtain ⟨n2, _⟩ := ok.n_bd
 rw [wordsTo_nth F n m hj]
 exact ⟨encTo_len _ _ _ _ _, encTo_el ok _ _ _ _, encTo_sp ok h.mat (hig_el j (by omega) _) (Nat.le_refl _)⟩
end
end Go.Proofs.YtgfcbmflnldicaaGreat
