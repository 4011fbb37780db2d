/-
  Texts joined.
-/
import Derived.Test.YtgmgpcaahanmiaaY4
import Derived.Test.YtgmgpcaahanmiaaY13
import Derived.Test.YtgmgpcaahanmiaaY14
set_option linter.unusedVariables false
set_option linter.unusedSimpArgs false
set_option maxRecDepth 100000
set_option maxHeartbeats 40000000
namespace Go.Proofs.Ytgmgpcaahanmiaa
open Go.RowKit
attribute [local go_sem ↓] Go.wp_at_zero Go.wp_at_succ
def okC (p d : Int) (xs : List Int) (m : List (List Int)) : Bool :=
 okM p d xs m && (decide (m.length ≤ 8) && (decide (capTo (fdR p d xs).n 4096 m.length ≤ 4096) && decide (form (fdR p d xs) m (nthL m 0).length = m)))
structure GC (F : FD) (n : Nat) (m : List (List Int)) : Prop where
 good : F.Good
 m1 : 1 ≤ m.length
 m8 : m.length ≤ 8
 n1 : 1 ≤ n
 n32 : n ≤ 32
 hn : (nthL m 0).length = n
 mat : F.Mat n m
 cap : capTo F.n 4096 m.length ≤ 4096
 fix : form F m n = m
theorem okC_gc {p d : Int} {xs : List Int} {m : List (List Int)} (h : okC p d xs m = true) : ∃ F n, p = F.p ∧ d = (F.k : Int) ∧ xs = F.poly ∧ GC F n m := by
 rw [okC, Bool.and_eq_true, Bool.and_eq_true, Bool.and_eq_true, decide_eq_true_eq, decide_eq_true_eq, decide_eq_true_eq] at h
 obtain ⟨a, b, c, d⟩ := h
 obtain ⟨F, hG, rfl, rfl, rfl, m1, _, n1, n32, hM⟩ := okM_true a
 rw [fdR_eq] at c d
 exact ⟨F, _, rfl, rfl, rfl, hG, m1, b, n1, n32, rfl, hM, c, d⟩
def PC (w : World) (g : Nat) (p d : Int) (a : Option Addr) (c : Nat) (xs : List Int) (ra : Option Addr) (rc : Nat) (m : List (List Int)) : Prop :=
 PR w g p d a c xs ∧ w.cell? ⟨g, 3, none⟩ = some (.slice ra m.length rc) ∧ RdS w ra m
section
variable {w w' : World} {g : Nat} {p d : Int} {a : Option Addr} {c : Nat} {xs : List Int} {ra : Option Addr} {rc : Nat} {m : List (List Int)}
theorem PC.below (h : PC w g p d a c xs ra rc m) (hb : Below w.heap.size w w') : PC w' g p d a c xs ra rc m :=
 ⟨h.1.below hb, (hb.cell (p := ⟨g, 3, none⟩) h.1.lt).trans h.2.1, h.2.2.below hb⟩
theorem PC.row0 (h : PC w g p d a c xs ra rc m) (h0 : 0 < m.length) : ∃ gb ob ai ci, ra = some ⟨gb, ob, none⟩ ∧ w.cell? ⟨gb, ob, none⟩ = some (.slice ai (nthL m 0).length ci) ∧ gb < w.heap.size := by
 obtain ⟨gb, ob, e, hb, hc⟩ := h.2.2.at_ h0
 obtain ⟨ai, ci, hc1, _⟩ := hc 0 h0
 exact ⟨gb, ob, ai, ci, e, hc1, hb⟩
end
theorem l18Ok_any (g : Nat) (p d : Int) (a : Option Addr) (c : Nat) (xs : List Int) (ra : Option Addr) (rc : Nat) (m : List (List Int)) (w : World) (hC : PC w g p d a c xs ra rc m) : Calls Try.prog 122 #[.pointer (some ⟨g, 0, none⟩)] w fun e w' => e = .returned (.bool (okC p d xs m)) ∧ Below w.heap.size w w' := by
 have hml := hC.2.2.len
 have hV := fun W (hW : Below w.heap.size w W) => l17Ok_any g p d a c xs ra rc m W (hC.below hW).1 (hC.below hW).2.2
 obtain ⟨k0, hk0⟩ : ∃ k0, k0 = okM p d xs m := ⟨_, rfl⟩
 rw [← hk0] at hV
 have HV := hide hV
 have HC := hide hC
 clear hV
 cases k0 with
 | false =>
  have HN := Lib.hid (show okC p d xs m = false by rw [okC, ← hk0]; rfl)
  have boxes : ∀ W, Below w.heap.size w W → (Below w.heap.size w W ∧ W.cell? ⟨g, 3, none⟩ = some (.slice ra m.length rc)) := fun W h => ⟨h, (hC.below h).2.1⟩
  have BX := hide boxes
  clear hk0 hC boxes
  go_enter Try.func122, Try.ntmps122
  go_upto_region 1 with fail
  refine wp_region_noPanic ?_
  refine wp_region_seq (S := (fun W => Below w.heap.size w W ∧ W.cell? ⟨g, 3, none⟩ = some (.slice ra m.length rc))) [true, true, true, true, true, true, true, false, true, true, true, true, true, true, true, true, true, true, true, true, true, true, true, true, true, true, true] (by kernel_rfl) (by kernel_rfl) (by kernel_rfl) rfl (fun _ _ _ _ _ h => h) ?_ (fun hHeld => ?_)
  · exact (unhide BX) _ (Below.refl _ _).drew
  simp only [List.toList_toArray]
  refine SeqH.take (v := ?hv1) (by rfl) ?hy1 ?hr1
  case hy1 =>
   intro w hSw
   try dsimp only at hSw
   go_simp
   try (with_reducible rfl)
  try simp only [Act.put, List.setIfInBounds_toArray, List.set_cons_zero, List.set_cons_succ]
  refine SeqH.take (v := ?hv2) (by rfl) ?hy2 ?hr2
  case hy2 =>
   intro w hSw
   try dsimp only at hSw
   go_simp
   try (with_reducible rfl)
  try simp only [Act.put, List.setIfInBounds_toArray, List.set_cons_zero, List.set_cons_succ]
  refine SeqH.take (v := ?hv3) (by rfl) ?hy3 ?hr3
  case hy3 =>
   intro w hSw
   try dsimp only at hSw
   go_simp
   try (with_reducible rfl)
  try simp only [Act.put, List.setIfInBounds_toArray, List.set_cons_zero, List.set_cons_succ]
  refine SeqH.take (v := ?hv4) (by rfl) ?hy4 ?hr4
  case hy4 =>
   intro w hSw
   try dsimp only at hSw
   go_simp
   try (with_reducible rfl)
  try simp only [Act.put, List.setIfInBounds_toArray, List.set_cons_zero, List.set_cons_succ]
  refine SeqH.take (v := ?hv5) (by rfl) ?hy5 ?hr5
  case hy5 =>
   intro w hSw
   try dsimp only at hSw
   go_simp
   try (with_reducible rfl)
  try simp only [Act.put, List.setIfInBounds_toArray, List.set_cons_zero, List.set_cons_succ]
  refine SeqH.take (v := ?hv6) (by rfl) ?hy6 ?hr6
  case hy6 =>
   intro w hSw
   try dsimp only at hSw
   go_simp
   try (with_reducible rfl)
  try simp only [Act.put, List.setIfInBounds_toArray, List.set_cons_zero, List.set_cons_succ]
  refine SeqH.take (v := ?hv7) (by rfl) ?hy7 ?hr7
  case hy7 =>
   intro w hSw
   try dsimp only at hSw
   go_simp
   try (with_reducible rfl)
  try simp only [Act.put, List.setIfInBounds_toArray, List.set_cons_zero, List.set_cons_succ]
  refine SeqH.call (fun K hK => ?_)
  go_simp
  refine (unhide HV _ (And.left hHeld)).mono ?_
  rintro e w1 ⟨rfl, b1⟩
  have hB1 := Below.chain (a := w) (And.left hHeld) b1
  go_wp2_with fail
  refine hK.out _ _ ?_ (fun hHeld => ?_)
  · exact (unhide BX) _ hB1
  clear hK K
  try simp only [Act.put, List.setIfInBounds_toArray, List.set_cons_zero, List.set_cons_succ]
  refine SeqH.take (v := ?hv8) (by rfl) ?hy8 ?hr8
  case hy8 =>
   intro w hSw
   try dsimp only at hSw
   go_simp
   try (with_reducible rfl)
  try simp only [Act.put, List.setIfInBounds_toArray, List.set_cons_zero, List.set_cons_succ]
  refine SeqH.take (v := ?hv9) (by rfl) ?hy9 ?hr9
  case hy9 =>
   intro w hSw
   try dsimp only at hSw
   go_simp
   try (with_reducible rfl)
  try simp only [Act.put, List.setIfInBounds_toArray, List.set_cons_zero, List.set_cons_succ]
  refine SeqH.skip (by rfl) ?_
  try simp only [Act.put, List.setIfInBounds_toArray, List.set_cons_zero, List.set_cons_succ]
  refine SeqH.skip (by rfl) ?_
  try simp only [Act.put, List.setIfInBounds_toArray, List.set_cons_zero, List.set_cons_succ]
  refine SeqH.skip (by rfl) ?_
  try simp only [Act.put, List.setIfInBounds_toArray, List.set_cons_zero, List.set_cons_succ]
  refine SeqH.skip (by rfl) ?_
  try simp only [Act.put, List.setIfInBounds_toArray, List.set_cons_zero, List.set_cons_succ]
  refine SeqH.skip (by rfl) ?_
  try simp only [Act.put, List.setIfInBounds_toArray, List.set_cons_zero, List.set_cons_succ]
  refine SeqH.skip (by rfl) ?_
  try simp only [Act.put, List.setIfInBounds_toArray, List.set_cons_zero, List.set_cons_succ]
  refine SeqH.skip (by rfl) ?_
  try simp only [Act.put, List.setIfInBounds_toArray, List.set_cons_zero, List.set_cons_succ]
  refine SeqH.skip (by rfl) ?_
  try simp only [Act.put, List.setIfInBounds_toArray, List.set_cons_zero, List.set_cons_succ]
  refine SeqH.take (v := ?hv10) (by rfl) ?hy10 ?hr10
  case hy10 =>
   intro w hSw
   try dsimp only at hSw
   go_simp
   try (with_reducible rfl)
  try simp only [Act.put, List.setIfInBounds_toArray, List.set_cons_zero, List.set_cons_succ]
  refine SeqH.take (v := ?hv11) (by rfl) ?hy11 ?hr11
  case hy11 =>
   intro w hSw
   try dsimp only at hSw
   go_simp
   try (with_reducible rfl)
  try simp only [Act.put, List.setIfInBounds_toArray, List.set_cons_zero, List.set_cons_succ]
  refine SeqH.skip (by rfl) ?_
  try simp only [Act.put, List.setIfInBounds_toArray, List.set_cons_zero, List.set_cons_succ]
  refine SeqH.skip (by rfl) ?_
  try simp only [Act.put, List.setIfInBounds_toArray, List.set_cons_zero, List.set_cons_succ]
  refine SeqH.skip (by rfl) ?_
  try simp only [Act.put, List.setIfInBounds_toArray, List.set_cons_zero, List.set_cons_succ]
  refine SeqH.skip (by rfl) ?_
  try simp only [Act.put, List.setIfInBounds_toArray, List.set_cons_zero, List.set_cons_succ]
  refine SeqH.skip (by rfl) ?_
  try simp only [Act.put, List.setIfInBounds_toArray, List.set_cons_zero, List.set_cons_succ]
  refine SeqH.skip (by rfl) ?_
  try simp only [Act.put, List.setIfInBounds_toArray, List.set_cons_zero, List.set_cons_succ]
  refine SeqH.take (v := ?hv12) (by rfl) ?hy12 ?hr12
  case hy12 =>
   intro w hSw
   try dsimp only at hSw
   go_simp
   try (with_reducible rfl)
  try simp only [Act.put, List.setIfInBounds_toArray, List.set_cons_zero, List.set_cons_succ]
  refine SeqH.done (NoPanic.normal ?_)
  go_wp2
  go_ret
  exact ⟨ret_bool (by rw [HN.out]), hB1⟩
 | true =>
  obtain ⟨F, hG, rfl, rfl, rfl, hm1, hm32, hn1, hn32, hM⟩ := okM_true hk0.symm
  have ok := hG.ok
  obtain ⟨n2, n64⟩ := ok.n_bd
  have hO : okC F.p F.k F.poly m = (decide (m.length ≤ 8) && (decide (capTo F.n 4096 m.length ≤ 4096) && decide (form F m (nthL m 0).length = m))) := by rw [okC, ← hk0, fdR_eq]; rfl
  have HO := Lib.hid hO
  clear hO hk0
  obtain ⟨gb, ob, ai, ci, rfl, hr0, hgb⟩ := hC.row0 (by omega)
  obtain ⟨n, hn⟩ : ∃ n, n = (nthL m 0).length := ⟨_, rfl⟩
  rw [← hn] at hn1 hn32 hM hr0
  have HNN := Lib.hid hn
  have hn33 : decide ((32 : Int) < (n : Int)) = false := by rw [decide_eq_false_iff_not]; omega
  have boxes : ∀ W, Below w.heap.size w W → (Below w.heap.size w W ∧ W.cell? ⟨g, 3, none⟩ = some (.slice (some ⟨gb, ob, none⟩) m.length rc) ∧ W.cell? ⟨gb, ob, none⟩ = some (.slice ai n ci)) := fun W h => ⟨h, (hC.below h).2.1, (h.cell (p := ⟨gb, ob, none⟩) hgb).trans hr0⟩
  have BX := hide boxes
  have HM := hide hM
  clear hn boxes hr0 hM hC
  by_cases h8 : m.length ≤ 8
  ·
   have h8' : decide ((8 : Int) < (m.length : Int)) = false := by rw [decide_eq_false_iff_not]; omega
   have hm0 : 0 < m.length := by omega
   have hCn := fun W => l18Count_any F.n m.length W (by omega) (by omega) (by omega)
   rw [Int.toNat_natCast] at hCn
   have hS := fun W h => l03Size_qt g F W h ok
   have HS := hide hS
   clear hS
   by_cases hcap : capTo F.n 4096 m.length ≤ 4096
   ·
    have e : (cnt F.n m.length == 0) = false := by
     have := capTo_pos (b := (F.n : Int)) (l := 4096) (by omega) m.length
     rw [cnt, if_pos hcap, beq_eq_false_iff_ne]; omega
    obtain ⟨x, hx⟩ : ∃ x, x = cnt F.n m.length := ⟨_, rfl⟩
    rw [← hx] at hCn e
    have HCN := hide hCn
    have HCAP := hide hcap
    clear hCn hx hcap
    go_enter Try.func122, Try.ntmps122
    go_upto_region 1 with fail
    go_region_held3 (fun W => Below w.heap.size w W ∧ W.cell? ⟨g, 3, none⟩ = some (.slice (some ⟨gb, ob, none⟩) m.length rc) ∧ W.cell? ⟨gb, ob, none⟩ = some (.slice ai n ci))
     (first | exact (unhide BX) _ (Below.refl _ _) | exact (unhide BX) _ (Below.refl _ _).drew | exact (unhide BX) _ (by assumption))
     (first
      | (go_at_call 196; refine (unhide HV _ ?_).mono ?_; exact (And.left (by assumption)); rintro e w1 ⟨rfl, b1⟩; have hB1 := Below.chain (a := w) (And.left (by assumption)) b1))
    have C1 := (unhide HC).below hB1
    have hc3 := C1.2.1
    have HPF := hide C1.1.pf
    have HRM := hide C1.2.2
    clear C1
    go_upto_region 3 with fail
    go_quiet ((first | (go_at_call 198; exact Calls.quiet_of (unhide HS _ ((unhide HPF).below (Below.drewn _)))) | (go_at_call 197; exact Calls.quiet_of_same ((unhide HCN _).mono fun _ _ h => ⟨h.1, h.2.symm⟩))))
    obtain ⟨w2, hw2⟩ : ∃ z, z = w1.drewN nq := ⟨_, rfl⟩
    have b2 : Below w1.heap.size w1 w2 := by rw [hw2]; exact Below.drewn _
    rw [← hw2]
    clear hw2
    have hB2 := hB1.trans (b2.mono hB1.size)
    have C2 := (unhide HC).below hB2
    have hFm := fun W h1 h2 => l17Form_any g F (some ⟨gb, ob, none⟩) rc m n W h1 hG h2 (by omega) (unhide HM)
    have HFM := hide hFm
    have HP2 := hide C2.1.pf
    have HR2 := hide C2.2.2
    clear hFm hc3 HPF HRM C2
    obtain ⟨fm, hfm⟩ : ∃ fm, fm = form F m n := ⟨_, rfl⟩
    have HFMM := Lib.hid hfm
    have boxes : ∀ W, Below w2.heap.size w2 W → (Below w2.heap.size w2 W ∧ W.cell? ⟨g, 3, none⟩ = some (.slice (some ⟨gb, ob, none⟩) m.length rc)) := fun W h => ⟨h, ((unhide HC).below (hB2.trans (h.mono hB2.size))).2.1⟩
    have BX2 := hide boxes
    clear boxes hfm
    go_upto_region 5 with fail
    go_region_held3 (fun W => Below w2.heap.size w2 W ∧ W.cell? ⟨g, 3, none⟩ = some (.slice (some ⟨gb, ob, none⟩) m.length rc))
     (first | exact (unhide BX2) _ (Below.refl _ _) | exact (unhide BX2) _ (Below.refl _ _).drew | exact (unhide BX2) _ (by assumption))
     (first
      | (go_at_call 195; refine (unhide HFM _ ?_ ?_).mono ?_; exact (unhide HP2).below (And.left (by assumption)); exact (unhide HR2).below (And.left (by assumption)); rintro e W3 ⟨v3, rfl, o3, b3⟩; rw [← HFMM.out] at o3; obtain ⟨a3, c3, rfl, r3⟩ := o3.form; have hB3 := Below.chain (a := w2) (And.left (by assumption)) b3)
      | (go_at_call 126; refine (l10Same_any a3 (some ⟨gb, ob, none⟩) c3 rc fm m _ r3 ((unhide HR2).below hB3)).mono ?_; rintro e W4 ⟨rfl, q4⟩; have hB4 := Below.chain hB3 (q4.below _)))
    go_wp2
    go_ret
    refine ⟨ret_bool ?_, hB2.trans (hB4.mono hB2.size)⟩
    rw [HO.out, ← HNN.out, ← HFMM.out]
    simp [h8, unhide HCAP]
   ·
    have HN := Lib.hid (show okC F.p F.k F.poly m = false by rw [HO.out]; simp [hcap])
    rw [cnt, if_neg hcap] at hCn
    have HCN := hide hCn
    clear hCn hcap
    go_enter Try.func122, Try.ntmps122
    go_upto_region 1 with fail
    go_region_held3 (fun W => Below w.heap.size w W ∧ W.cell? ⟨g, 3, none⟩ = some (.slice (some ⟨gb, ob, none⟩) m.length rc) ∧ W.cell? ⟨gb, ob, none⟩ = some (.slice ai n ci))
     (first | exact (unhide BX) _ (Below.refl _ _) | exact (unhide BX) _ (Below.refl _ _).drew | exact (unhide BX) _ (by assumption))
     (first
      | (go_at_call 196; refine (unhide HV _ ?_).mono ?_; exact (And.left (by assumption)); rintro e w1 ⟨rfl, b1⟩; have hB1 := Below.chain (a := w) (And.left (by assumption)) b1))
    have C1 := (unhide HC).below hB1
    have hc3 := C1.2.1
    have HPF := hide C1.1.pf
    have HRM := hide C1.2.2
    clear C1
    go_upto_region 3 with fail
    go_quiet ((first | (go_at_call 198; exact Calls.quiet_of (unhide HS _ ((unhide HPF).below (Below.drewn _)))) | (go_at_call 197; exact Calls.quiet_of_same ((unhide HCN _).mono fun _ _ h => ⟨h.1, h.2.symm⟩))))
    obtain ⟨w2, hw2⟩ : ∃ z, z = w1.drewN nq := ⟨_, rfl⟩
    have b2 : Below w1.heap.size w1 w2 := by rw [hw2]; exact Below.drewn _
    rw [← hw2]
    clear hw2
    have hB2 := hB1.trans (b2.mono hB1.size)
    go_wp2
    go_ret
    exact ⟨ret_bool (by rw [HN.out]), hB2⟩
  ·
   have HN := Lib.hid (show okC F.p F.k F.poly m = false by rw [HO.out]; simp [h8])
   have h8' : decide ((8 : Int) < (m.length : Int)) = true := by rw [decide_eq_true_iff]; omega
   have hm0 : 0 < m.length := by omega
   clear h8
   go_enter Try.func122, Try.ntmps122
   go_upto_region 1 with fail
   go_region_held3 (fun W => Below w.heap.size w W ∧ W.cell? ⟨g, 3, none⟩ = some (.slice (some ⟨gb, ob, none⟩) m.length rc) ∧ W.cell? ⟨gb, ob, none⟩ = some (.slice ai n ci))
    (first | exact (unhide BX) _ (Below.refl _ _) | exact (unhide BX) _ (Below.refl _ _).drew | exact (unhide BX) _ (by assumption))
    (first
     | (go_at_call 196; refine (unhide HV _ ?_).mono ?_; exact (And.left (by assumption)); rintro e w1 ⟨rfl, b1⟩; have hB1 := Below.chain (a := w) (And.left (by assumption)) b1))
   go_wp2
   go_ret
   exact ⟨ret_bool (by rw [HN.out]), hB1⟩
theorem specVC_any (p d : Int) (a : Option Addr) (c : Nat) (xs : List Int) (ra : Option Addr) (rc : Nat) (m : List (List Int)) (w : World) (hx : Rd w a xs) (hm : RdS w ra m) : Calls Try.prog 55 #[.agg #[.int .i64 p, .int .i64 d, .slice a xs.length c, .slice ra m.length rc]] w fun e w' => e = .returned (.bool (okC p d xs m)) ∧ Below w.heap.size w w' := by
 obtain ⟨W0, hHW⟩ : ∃ z, z = w.alloc (.cells #[.int .i64 p, .int .i64 d, .slice a xs.length c, .slice ra m.length rc] 37) := ⟨_, rfl⟩
 have b0 : Below w.heap.size w W0 := by rw [hHW]; exact (Below.refl _ _).alloc (Nat.le_refl _) _
 have k0 : Blk W0 w.heap.size 37 #[.int .i64 p, .int .i64 d, .slice a xs.length c, .slice ra m.length rc] := by rw [hHW]; exact Blk.new _ _ _ rfl
 have sk0 : w.heap.size < W0.heap.size := k0.lt
 have HW := Lib.hid hHW
 clear hHW
 have hC : PC W0 w.heap.size p d a c xs ra rc m := ⟨⟨k0.cell 0, k0.cell 1, k0.cell 2, hx.below b0⟩, k0.cell 3, hm.below b0⟩
 have hV := l18Ok_any w.heap.size p d a c xs ra rc m W0 hC
 generalize okC p d xs m = r at hV
 have HV := hide hV
 clear hV
 go_enter Try.func55, Try.ntmps55
 go_wp2_with fail
 rw [← HW.out]
 refine (unhide HV).mono ?_
 rintro e w1 ⟨rfl, b1⟩
 go_wp2
 go_ret
 exact ⟨rfl, b0.trans (b1.mono (Nat.le_of_lt sk0))⟩
theorem implVC_any (p d : Int) (a : Option Addr) (c : Nat) (xs : List Int) (ra : Option Addr) (rc : Nat) (m : List (List Int)) (w : World) (hx : Rd w a xs) (hm : RdS w ra m) (ed : I64 d) : Calls Try.prog 103 #[.agg #[.int .i64 p, .int .i64 d, .slice a xs.length c, .slice ra m.length rc]] w fun e w' => e = .returned (.bool (okC p d xs m)) ∧ Below w.heap.size w w' := by
 obtain ⟨W0, hHW⟩ : ∃ z, z = w.alloc (.cells #[.int .i64 p, .int .i64 d, .slice a xs.length c, .slice ra m.length rc] 37) := ⟨_, rfl⟩
 have b0 : Below w.heap.size w W0 := by rw [hHW]; exact (Below.refl _ _).alloc (Nat.le_refl _) _
 have k0 : Blk W0 w.heap.size 37 #[.int .i64 p, .int .i64 d, .slice a xs.length c, .slice ra m.length rc] := by rw [hHW]; exact Blk.new _ _ _ rfl
 have sk0 : w.heap.size < W0.heap.size := k0.lt
 have HW := Lib.hid hHW
 clear hHW
 have hml := hm.len
 have hx0 := hx.below b0
 have hm0 := hm.below b0
 have hV := fun W (hW : Below W0.heap.size W0 W) => validMatrix_any p d a c xs ra rc m W (hx0.below hW) (hm0.below hW) ed
 obtain ⟨k1, hk1⟩ : ∃ k1, k1 = okM p d xs m := ⟨_, rfl⟩
 rw [← hk1] at hV
 have HV := hide hV
 have boxes : ∀ W, Below W0.heap.size W0 W → (Below W0.heap.size W0 W ∧ W.cell? ⟨w.heap.size, 0, none⟩ = some (.int .i64 p) ∧ W.cell? ⟨w.heap.size, 1, none⟩ = some (.int .i64 d) ∧ W.cell? ⟨w.heap.size, 2, none⟩ = some (.slice a xs.length c) ∧ W.cell? ⟨w.heap.size, 3, none⟩ = some (.slice ra m.length rc)) := fun W h => ⟨h, (k0.below h k0.lt).cell 0, (k0.below h k0.lt).cell 1, (k0.below h k0.lt).cell 2, (k0.below h k0.lt).cell 3⟩
 have BX := hide boxes
 clear hV boxes
 cases k1 with
 | false =>
  have HN := Lib.hid (show okC p d xs m = false by rw [okC, ← hk1]; rfl)
  clear hk1
  go_enter Try.func103, Try.ntmps103
  go_upto_region 1 with fail
  rw [← HW.out]
  refine wp_region_noPanic ?_
  refine wp_region_seq (S := (fun W => Below W0.heap.size W0 W ∧ W.cell? ⟨w.heap.size, 0, none⟩ = some (.int .i64 p) ∧ W.cell? ⟨w.heap.size, 1, none⟩ = some (.int .i64 d) ∧ W.cell? ⟨w.heap.size, 2, none⟩ = some (.slice a xs.length c) ∧ W.cell? ⟨w.heap.size, 3, none⟩ = some (.slice ra m.length rc))) [true, true, true, true, false, true, true, true, true, true, true, true, true, true, true, true, true, true, true, true, true, true] (by kernel_rfl) (by kernel_rfl) (by kernel_rfl) rfl (fun _ _ _ _ _ h => h) ?_ (fun hHeld => ?_)
  · exact (unhide BX) _ (Below.refl _ _).drew
  simp only [List.toList_toArray]
  refine SeqH.take (v := ?hv13) (by rfl) ?hy13 ?hr13
  case hy13 =>
   intro w hSw
   try dsimp only at hSw
   go_simp
   try (with_reducible rfl)
  try simp only [Act.put, List.setIfInBounds_toArray, List.set_cons_zero, List.set_cons_succ]
  refine SeqH.take (v := ?hv14) (by rfl) ?hy14 ?hr14
  case hy14 =>
   intro w hSw
   try dsimp only at hSw
   go_simp
   try (with_reducible rfl)
  try simp only [Act.put, List.setIfInBounds_toArray, List.set_cons_zero, List.set_cons_succ]
  refine SeqH.take (v := ?hv15) (by rfl) ?hy15 ?hr15
  case hy15 =>
   intro w hSw
   try dsimp only at hSw
   go_simp
   try (with_reducible rfl)
  try simp only [Act.put, List.setIfInBounds_toArray, List.set_cons_zero, List.set_cons_succ]
  refine SeqH.take (v := ?hv16) (by rfl) ?hy16 ?hr16
  case hy16 =>
   intro w hSw
   try dsimp only at hSw
   go_simp
   try (with_reducible rfl)
  try simp only [Act.put, List.setIfInBounds_toArray, List.set_cons_zero, List.set_cons_succ]
  refine SeqH.call (fun K hK => ?_)
  go_simp
  refine (unhide HV _ (And.left hHeld)).mono ?_
  rintro e w1 ⟨rfl, b1⟩
  have hB1 := Below.chain (a := W0) (And.left hHeld) b1
  go_wp2_with fail
  refine hK.out _ _ ?_ (fun hHeld => ?_)
  · exact (unhide BX) _ hB1
  clear hK K
  try simp only [Act.put, List.setIfInBounds_toArray, List.set_cons_zero, List.set_cons_succ]
  refine SeqH.take (v := ?hv17) (by rfl) ?hy17 ?hr17
  case hy17 =>
   intro w hSw
   try dsimp only at hSw
   go_simp
   try (with_reducible rfl)
  try simp only [Act.put, List.setIfInBounds_toArray, List.set_cons_zero, List.set_cons_succ]
  refine SeqH.take (v := ?hv18) (by rfl) ?hy18 ?hr18
  case hy18 =>
   intro w hSw
   try dsimp only at hSw
   go_simp
   try (with_reducible rfl)
  try simp only [Act.put, List.setIfInBounds_toArray, List.set_cons_zero, List.set_cons_succ]
  refine SeqH.skip (by rfl) ?_
  try simp only [Act.put, List.setIfInBounds_toArray, List.set_cons_zero, List.set_cons_succ]
  refine SeqH.skip (by rfl) ?_
  try simp only [Act.put, List.setIfInBounds_toArray, List.set_cons_zero, List.set_cons_succ]
  refine SeqH.skip (by rfl) ?_
  try simp only [Act.put, List.setIfInBounds_toArray, List.set_cons_zero, List.set_cons_succ]
  refine SeqH.skip (by rfl) ?_
  try simp only [Act.put, List.setIfInBounds_toArray, List.set_cons_zero, List.set_cons_succ]
  refine SeqH.take (v := ?hv19) (by rfl) ?hy19 ?hr19
  case hy19 =>
   intro w hSw
   try dsimp only at hSw
   go_simp
   try (with_reducible rfl)
  try simp only [Act.put, List.setIfInBounds_toArray, List.set_cons_zero, List.set_cons_succ]
  refine SeqH.take (v := ?hv20) (by rfl) ?hy20 ?hr20
  case hy20 =>
   intro w hSw
   try dsimp only at hSw
   go_simp
   try (with_reducible rfl)
  try simp only [Act.put, List.setIfInBounds_toArray, List.set_cons_zero, List.set_cons_succ]
  refine SeqH.skip (by rfl) ?_
  try simp only [Act.put, List.setIfInBounds_toArray, List.set_cons_zero, List.set_cons_succ]
  refine SeqH.skip (by rfl) ?_
  try simp only [Act.put, List.setIfInBounds_toArray, List.set_cons_zero, List.set_cons_succ]
  refine SeqH.skip (by rfl) ?_
  try simp only [Act.put, List.setIfInBounds_toArray, List.set_cons_zero, List.set_cons_succ]
  refine SeqH.skip (by rfl) ?_
  try simp only [Act.put, List.setIfInBounds_toArray, List.set_cons_zero, List.set_cons_succ]
  refine SeqH.skip (by rfl) ?_
  try simp only [Act.put, List.setIfInBounds_toArray, List.set_cons_zero, List.set_cons_succ]
  refine SeqH.skip (by rfl) ?_
  try simp only [Act.put, List.setIfInBounds_toArray, List.set_cons_zero, List.set_cons_succ]
  refine SeqH.skip (by rfl) ?_
  try simp only [Act.put, List.setIfInBounds_toArray, List.set_cons_zero, List.set_cons_succ]
  refine SeqH.skip (by rfl) ?_
  try simp only [Act.put, List.setIfInBounds_toArray, List.set_cons_zero, List.set_cons_succ]
  refine SeqH.take (v := ?hv21) (by rfl) ?hy21 ?hr21
  case hy21 =>
   intro w hSw
   try dsimp only at hSw
   go_simp
   try (with_reducible rfl)
  try simp only [Act.put, List.setIfInBounds_toArray, List.set_cons_zero, List.set_cons_succ]
  refine SeqH.done (NoPanic.normal ?_)
  go_wp2
  go_ret
  exact ⟨ret_bool (by rw [HN.out]), b0.trans (hB1.mono (Nat.le_of_lt sk0))⟩
 | true =>
  obtain ⟨F, hG, rfl, rfl, rfl, hm1, hm32, hn1, hn32, hM⟩ := okM_true hk1.symm
  have ok := hG.ok
  obtain ⟨n2, n64⟩ := ok.n_bd
  have hO : okC F.p F.k F.poly m = (decide (m.length ≤ 8) && (decide (capTo F.n 4096 m.length ≤ 4096) && decide (form F m (nthL m 0).length = m))) := by rw [okC, ← hk1, fdR_eq]; rfl
  have HO := Lib.hid hO
  obtain ⟨n, hn⟩ : ∃ n, n = (nthL m 0).length := ⟨_, rfl⟩
  rw [← hn] at hn1 hn32 hM
  have HNN := Lib.hid hn
  have HM := hide hM
  clear hO hk1 hn hM
  by_cases h8 : m.length ≤ 8
  ·
   have h8' : decide ((8 : Int) < (m.length : Int)) = false := by rw [decide_eq_false_iff_not]; omega
   have hFS := fun W => fieldSize_any F a c W ok
   have hPU := fun W => powerUpTo_any F.n m.length 4096 W (by omega) (by omega) (by omega) (by omega) (by omega)
   rw [Int.toNat_natCast] at hPU
   have HFS := hide hFS
   obtain ⟨q, hq⟩ : ∃ q, q = capTo F.n 4096 m.length := ⟨_, rfl⟩
   rw [← hq] at hPU
   have HPU := hide hPU
   have HQ := Lib.hid hq
   clear hFS hPU hq
   by_cases hcap : q ≤ 4096
   ·
    have hcap' : decide (4096 < q) = false := by rw [decide_eq_false_iff_not]; omega
    have hT := fun W h => tablesOf_any F a c W h ok
    have hRd := fun tv W h1 h2 => reduce_any F tv ra rc m n W h1 hG h2 (by omega) (unhide HM)
    have HT := hide hT
    obtain ⟨fm, hfm⟩ : ∃ fm, fm = form F m n := ⟨_, rfl⟩
    rw [← hfm] at hRd
    have HRD := hide hRd
    have HFMM := Lib.hid hfm
    clear hT hRd hfm
    go_enter Try.func103, Try.ntmps103
    go_upto_region 1 with fail
    rw [← HW.out]
    go_region_held3 (fun W => Below W0.heap.size W0 W ∧ W.cell? ⟨w.heap.size, 0, none⟩ = some (.int .i64 F.p) ∧ W.cell? ⟨w.heap.size, 1, none⟩ = some (.int .i64 F.k) ∧ W.cell? ⟨w.heap.size, 2, none⟩ = some (.slice a F.poly.length c) ∧ W.cell? ⟨w.heap.size, 3, none⟩ = some (.slice ra m.length rc))
     (first | exact (unhide BX) _ (Below.refl _ _) | exact (unhide BX) _ (Below.refl _ _).drew | exact (unhide BX) _ (by assumption))
     (first
      | (go_at_call 182; refine (unhide HV _ ?_).mono ?_; exact (And.left (by assumption)); rintro e w1 ⟨rfl, b1⟩; have hB1 := Below.chain (a := W0) (And.left (by assumption)) b1)
      | (go_at_call 117; refine (unhide HFS _).mono ?_; rintro e w2 ⟨rfl, b2⟩; have hB2 := Below.chain hB1 b2)
      | (go_at_call 109; refine (sizeS_any _ _ _ _).mono ?_; rintro e w3 ⟨rfl, rfl⟩)
      | (go_at_call 113; refine (unhide HPU _).mono ?_; rintro e w4 ⟨rfl, rfl⟩))
    have hB2' := hB2
    go_upto_region 3 with fail
    go_region_held3 (fun W => Below W0.heap.size W0 W ∧ W.cell? ⟨w.heap.size, 0, none⟩ = some (.int .i64 F.p) ∧ W.cell? ⟨w.heap.size, 1, none⟩ = some (.int .i64 F.k) ∧ W.cell? ⟨w.heap.size, 2, none⟩ = some (.slice a F.poly.length c) ∧ W.cell? ⟨w.heap.size, 3, none⟩ = some (.slice ra m.length rc))
     (first | exact (unhide BX) _ hB2 | exact (unhide BX) _ hB2.drew | exact (unhide BX) _ (by assumption))
     (first
      | (go_at_call 89; refine (unhide HT _ ?_).mono ?_; exact hx0.below (And.left (by assumption)); rintro e w5 ⟨tv, rfl, T5, b5⟩; have hB5 := Below.chain (a := W0) (And.left (by assumption)) b5)
      | (go_at_call 155; refine (unhide HRD _ _ T5 (hm0.below hB5)).mono ?_; rintro e w6 ⟨v6, u6, d6, rfl, o6, _, b6⟩; obtain ⟨a6, c6, rfl, r6⟩ := o6.form; have hB6 := Below.chain hB5 b6))
    have k6 := k0.below hB6 k0.lt
    have f3 := k6.cell 3
    have hS := areSame_any a6 ra c6 rc fm m w6 r6 (hm0.below hB6)
    have HS := hide hS
    clear hS
    go_wp2_with fail
    refine (unhide HS).mono ?_
    rintro e w7 ⟨rfl, q7⟩
    go_wp2
    go_ret
    refine ⟨ret_bool ?_, b0.trans ((hB6.trans ((q7.below _).mono hB6.size)).mono (Nat.le_of_lt sk0))⟩
    rw [HO.out, ← HNN.out, ← HFMM.out, ← HQ.out]
    simp [h8, hcap]
   ·
    have HN := Lib.hid (show okC F.p F.k F.poly m = false by rw [HO.out, ← HQ.out]; simp [hcap])
    have hcap' : decide (4096 < q) = true := by rw [decide_eq_true_iff]; omega
    go_enter Try.func103, Try.ntmps103
    go_upto_region 1 with fail
    rw [← HW.out]
    go_region_held3 (fun W => Below W0.heap.size W0 W ∧ W.cell? ⟨w.heap.size, 0, none⟩ = some (.int .i64 F.p) ∧ W.cell? ⟨w.heap.size, 1, none⟩ = some (.int .i64 F.k) ∧ W.cell? ⟨w.heap.size, 2, none⟩ = some (.slice a F.poly.length c) ∧ W.cell? ⟨w.heap.size, 3, none⟩ = some (.slice ra m.length rc))
     (first | exact (unhide BX) _ (Below.refl _ _) | exact (unhide BX) _ (Below.refl _ _).drew | exact (unhide BX) _ (by assumption))
     (first
      | (go_at_call 182; refine (unhide HV _ ?_).mono ?_; exact (And.left (by assumption)); rintro e w1 ⟨rfl, b1⟩; have hB1 := Below.chain (a := W0) (And.left (by assumption)) b1)
      | (go_at_call 117; refine (unhide HFS _).mono ?_; rintro e w2 ⟨rfl, b2⟩; have hB2 := Below.chain hB1 b2)
      | (go_at_call 109; refine (sizeS_any _ _ _ _).mono ?_; rintro e w3 ⟨rfl, rfl⟩)
      | (go_at_call 113; refine (unhide HPU _).mono ?_; rintro e w4 ⟨rfl, rfl⟩))
    go_wp2
    go_ret
    exact ⟨ret_bool (by rw [HN.out]), b0.trans (hB2.mono (Nat.le_of_lt sk0))⟩
  ·
   have HN := Lib.hid (show okC F.p F.k F.poly m = false by rw [HO.out]; simp [h8])
   have h8' : decide ((8 : Int) < (m.length : Int)) = true := by rw [decide_eq_true_iff]; omega
   go_enter Try.func103, Try.ntmps103
   go_upto_region 1 with fail
   rw [← HW.out]
   refine wp_region_noPanic ?_
   refine wp_region_seq (S := (fun W => Below W0.heap.size W0 W ∧ W.cell? ⟨w.heap.size, 0, none⟩ = some (.int .i64 F.p) ∧ W.cell? ⟨w.heap.size, 1, none⟩ = some (.int .i64 F.k) ∧ W.cell? ⟨w.heap.size, 2, none⟩ = some (.slice a F.poly.length c) ∧ W.cell? ⟨w.heap.size, 3, none⟩ = some (.slice ra m.length rc))) [true, true, true, true, false, true, true, true, true, true, true, true, true, true, true, true, true, true, true, true, true, true] (by kernel_rfl) (by kernel_rfl) (by kernel_rfl) rfl (fun _ _ _ _ _ h => h) ?_ (fun hHeld => ?_)
   · exact (unhide BX) _ (Below.refl _ _).drew
   simp only [List.toList_toArray]
   refine SeqH.take (v := ?hv22) (by rfl) ?hy22 ?hr22
   case hy22 =>
    intro w hSw
    try dsimp only at hSw
    go_simp
    try (with_reducible rfl)
   try simp only [Act.put, List.setIfInBounds_toArray, List.set_cons_zero, List.set_cons_succ]
   refine SeqH.take (v := ?hv23) (by rfl) ?hy23 ?hr23
   case hy23 =>
    intro w hSw
    try dsimp only at hSw
    go_simp
    try (with_reducible rfl)
   try simp only [Act.put, List.setIfInBounds_toArray, List.set_cons_zero, List.set_cons_succ]
   refine SeqH.take (v := ?hv24) (by rfl) ?hy24 ?hr24
   case hy24 =>
    intro w hSw
    try dsimp only at hSw
    go_simp
    try (with_reducible rfl)
   try simp only [Act.put, List.setIfInBounds_toArray, List.set_cons_zero, List.set_cons_succ]
   refine SeqH.take (v := ?hv25) (by rfl) ?hy25 ?hr25
   case hy25 =>
    intro w hSw
    try dsimp only at hSw
    go_simp
    try (with_reducible rfl)
   try simp only [Act.put, List.setIfInBounds_toArray, List.set_cons_zero, List.set_cons_succ]
   refine SeqH.call (fun K hK => ?_)
   go_simp
   refine (unhide HV _ (And.left hHeld)).mono ?_
   rintro e w1 ⟨rfl, b1⟩
   have hB1 := Below.chain (a := W0) (And.left hHeld) b1
   go_wp2_with fail
   refine hK.out _ _ ?_ (fun hHeld => ?_)
   · exact (unhide BX) _ hB1
   clear hK K
   try simp only [Act.put, List.setIfInBounds_toArray, List.set_cons_zero, List.set_cons_succ]
   refine SeqH.take (v := ?hv26) (by rfl) ?hy26 ?hr26
   case hy26 =>
    intro w hSw
    try dsimp only at hSw
    go_simp
    try (with_reducible rfl)
   try simp only [Act.put, List.setIfInBounds_toArray, List.set_cons_zero, List.set_cons_succ]
   refine SeqH.take (v := ?hv27) (by rfl) ?hy27 ?hr27
   case hy27 =>
    intro w hSw
    try dsimp only at hSw
    go_simp
    try (with_reducible rfl)
   try simp only [Act.put, List.setIfInBounds_toArray, List.set_cons_zero, List.set_cons_succ]
   refine SeqH.take (v := ?hv28) (by rfl) ?hy28 ?hr28
   case hy28 =>
    intro w hSw
    try dsimp only at hSw
    go_simp
    try (with_reducible rfl)
   try simp only [Act.put, List.setIfInBounds_toArray, List.set_cons_zero, List.set_cons_succ]
   refine SeqH.take (v := ?hv29) (by rfl) ?hy29 ?hr29
   case hy29 =>
    intro w hSw
    try dsimp only at hSw
    go_simp
    try (with_reducible rfl)
   try simp only [Act.put, List.setIfInBounds_toArray, List.set_cons_zero, List.set_cons_succ]
   refine SeqH.take (v := ?hv30) (by rfl) ?hy30 ?hr30
   case hy30 =>
    intro w hSw
    try dsimp only at hSw
    go_simp
    try (with_reducible rfl)
   try simp only [Act.put, List.setIfInBounds_toArray, List.set_cons_zero, List.set_cons_succ]
   refine SeqH.take (v := ?hv31) (by rfl) ?hy31 ?hr31
   case hy31 =>
    intro w hSw
    try dsimp only at hSw
    go_simp
    try (with_reducible rfl)
   try simp only [Act.put, List.setIfInBounds_toArray, List.set_cons_zero, List.set_cons_succ]
   refine SeqH.take (v := ?hv32) (by rfl) ?hy32 ?hr32
   case hy32 =>
    intro w hSw
    try dsimp only at hSw
    go_simp
    try (with_reducible rfl)
   try simp only [Act.put, List.setIfInBounds_toArray, List.set_cons_zero, List.set_cons_succ]
   refine SeqH.take (v := ?hv33) (by rfl) ?hy33 ?hr33
   case hy33 =>
    intro w hSw
    try dsimp only at hSw
    go_simp
    try (with_reducible rfl)
   try simp only [Act.put, List.setIfInBounds_toArray, List.set_cons_zero, List.set_cons_succ]
   refine SeqH.skip (by rfl) ?_
   try simp only [Act.put, List.setIfInBounds_toArray, List.set_cons_zero, List.set_cons_succ]
   refine SeqH.skip (by rfl) ?_
   try simp only [Act.put, List.setIfInBounds_toArray, List.set_cons_zero, List.set_cons_succ]
   refine SeqH.skip (by rfl) ?_
   try simp only [Act.put, List.setIfInBounds_toArray, List.set_cons_zero, List.set_cons_succ]
   refine SeqH.skip (by rfl) ?_
   try simp only [Act.put, List.setIfInBounds_toArray, List.set_cons_zero, List.set_cons_succ]
   refine SeqH.skip (by rfl) ?_
   try simp only [Act.put, List.setIfInBounds_toArray, List.set_cons_zero, List.set_cons_succ]
   refine SeqH.skip (by rfl) ?_
   try simp only [Act.put, List.setIfInBounds_toArray, List.set_cons_zero, List.set_cons_succ]
   refine SeqH.skip (by rfl) ?_
   try simp only [Act.put, List.setIfInBounds_toArray, List.set_cons_zero, List.set_cons_succ]
   refine SeqH.skip (by rfl) ?_
   try simp only [Act.put, List.setIfInBounds_toArray, List.set_cons_zero, List.set_cons_succ]
   refine SeqH.take (v := ?hv34) (by rfl) ?hy34 ?hr34
   case hy34 =>
    intro w hSw
    try dsimp only at hSw
    go_simp
    try (with_reducible rfl)
   try simp only [Act.put, List.setIfInBounds_toArray, List.set_cons_zero, List.set_cons_succ]
   refine SeqH.done (NoPanic.normal ?_)
   go_wp2
   go_ret
   exact ⟨ret_bool (by rw [HN.out]), b0.trans (hB1.mono (Nat.le_of_lt sk0))⟩
end Go.Proofs.Ytgmgpcaahanmiaa
