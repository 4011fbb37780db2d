/-
  Texts joined.
-/
import Derived.Test.YtgmgpcaahanmiaaM1
import Derived.Test.YtgmgpcaahanmiaaM3
import Derived.Test.YtgmgpcaahanmiaaM5
import Derived.Test.YtgmgpcaahanmiaaM6
import Derived.Test.YtgmgpcaahanmiaaM7
import Derived.Test.YtgmgpcaahanmiaaM14
import Derived.Test.YtgmgpcaahanmiaaM15
set_option linter.unusedVariables false
set_option linter.unusedSimpArgs false
set_option maxRecDepth 100000
set_option maxHeartbeats 40000000
namespace Go.Proofs.Ytgmgpcaahanmiaa
open Go.RowKit
attribute [local go_sem ↓] Go.wp_at_zero Go.wp_at_succ
def okC (p d : Int) (xs : List Int) (m : List (List Int)) : Bool :=
 okM p d xs m && (decide (m.length ≤ 8) && (decide (capTo (fdR p d xs).n 4096 m.length ≤ 4096) && decide (form (fdR p d xs) m (nthL m 0).length = m)))
structure GC (F : FD) (n : Nat) (m : List (List Int)) : Prop where
 good : F.Good
 m1 : 1 ≤ m.length
 m8 : m.length ≤ 8
 n1 : 1 ≤ n
 n32 : n ≤ 32
 hn : (nthL m 0).length = n
 mat : F.Mat n m
 cap : capTo F.n 4096 m.length ≤ 4096
 fix : form F m n = m
theorem okC_gc {p d : Int} {xs : List Int} {m : List (List Int)} (h : okC p d xs m = true) : ∃ F n, p = F.p ∧ d = (F.k : Int) ∧ xs = F.poly ∧ GC F n m := by
 rw [okC, Bool.and_eq_true, Bool.and_eq_true, Bool.and_eq_true, decide_eq_true_eq, decide_eq_true_eq, decide_eq_true_eq] at h
 obtain ⟨a, b, c, d⟩ := h
 obtain ⟨F, hG, rfl, rfl, rfl, m1, _, n1, n32, hM⟩ := okM_true a
 rw [fdR_eq] at c d
 exact ⟨F, _, rfl, rfl, rfl, hG, m1, b, n1, n32, rfl, hM, c, d⟩
def PC (w : World) (g : Nat) (p d : Int) (a : Option Addr) (c : Nat) (xs : List Int) (ra : Option Addr) (rc : Nat) (m : List (List Int)) : Prop :=
 PR w g p d a c xs ∧ w.cell? ⟨g, 3, none⟩ = some (.slice ra m.length rc) ∧ RdS w ra m
section
variable {w w' : World} {g : Nat} {p d : Int} {a : Option Addr} {c : Nat} {xs : List Int} {ra : Option Addr} {rc : Nat} {m : List (List Int)}
theorem PC.below (h : PC w g p d a c xs ra rc m) (hb : Below w.heap.size w w') : PC w' g p d a c xs ra rc m :=
 ⟨h.1.below hb, (hb.cell (p := ⟨g, 3, none⟩) h.1.lt).trans h.2.1, h.2.2.below hb⟩
end
theorem implVC_any (p d : Int) (a : Option Addr) (c : Nat) (xs : List Int) (ra : Option Addr) (rc : Nat) (m : List (List Int)) (w : World) (hx : Rd w a xs) (hm : RdS w ra m) (ed : I64 d) : Calls Try.prog 103 #[.agg #[.int .i64 p, .int .i64 d, .slice a xs.length c, .slice ra m.length rc]] w fun e w' => e = .returned (.bool (okC p d xs m)) ∧ Below w.heap.size w w' := by
 obtain ⟨W0, hHW⟩ : ∃ z, z = w.alloc (.cells #[.int .i64 p, .int .i64 d, .slice a xs.length c, .slice ra m.length rc] 37) := ⟨_, rfl⟩
 have b0 : Below w.heap.size w W0 := by rw [hHW]; exact (Below.refl _ _).alloc (Nat.le_refl _) _
 have k0 : Blk W0 w.heap.size 37 #[.int .i64 p, .int .i64 d, .slice a xs.length c, .slice ra m.length rc] := by rw [hHW]; exact Blk.new _ _ _ rfl
 have sk0 : w.heap.size < W0.heap.size := k0.lt
 have HW := Lib.hid hHW
 clear hHW
 have hml := hm.len
 have hx0 := hx.below b0
 have hm0 := hm.below b0
 have hV := fun W (hW : Below W0.heap.size W0 W) => validMatrix_any p d a c xs ra rc m W (hx0.below hW) (hm0.below hW) ed
 obtain ⟨k1, hk1⟩ : ∃ k1, k1 = okM p d xs m := ⟨_, rfl⟩
 rw [← hk1] at hV
 have HV := hide hV
 have boxes : ∀ W, Below W0.heap.size W0 W → (Below W0.heap.size W0 W ∧ W.cell? ⟨w.heap.size, 0, none⟩ = some (.int .i64 p) ∧ W.cell? ⟨w.heap.size, 1, none⟩ = some (.int .i64 d) ∧ W.cell? ⟨w.heap.size, 2, none⟩ = some (.slice a xs.length c) ∧ W.cell? ⟨w.heap.size, 3, none⟩ = some (.slice ra m.length rc)) := fun W h => ⟨h, (k0.below h k0.lt).cell 0, (k0.below h k0.lt).cell 1, (k0.below h k0.lt).cell 2, (k0.below h k0.lt).cell 3⟩
 have BX := hide boxes
 clear hV boxes
 cases k1 with
 | false =>
  have HN := Lib.hid (show okC p d xs m = false by rw [okC, ← hk1]; rfl)
  clear hk1
  go_enter Try.func103, Try.ntmps103
  go_upto_region 1 with fail
  rw [← HW.out]
  refine wp_region_noPanic ?_
  refine wp_region_seq (S := (fun W => Below W0.heap.size W0 W ∧ W.cell? ⟨w.heap.size, 0, none⟩ = some (.int .i64 p) ∧ W.cell? ⟨w.heap.size, 1, none⟩ = some (.int .i64 d) ∧ W.cell? ⟨w.heap.size, 2, none⟩ = some (.slice a xs.length c) ∧ W.cell? ⟨w.heap.size, 3, none⟩ = some (.slice ra m.length rc))) [true, true, true, true, false, true, true, true, true, true, true, true, true, true, true, true, true, true, true, true, true, true] (by kernel_rfl) (by kernel_rfl) (by kernel_rfl) rfl (fun _ _ _ _ _ h => h) ?_ (fun hHeld => ?_)
  · exact (unhide BX) _ (Below.refl _ _).drew
  simp only [List.toList_toArray]
  refine SeqH.take (v := ?hv13) (by rfl) ?hy13 ?hr13
  case hy13 =>
   intro w hSw
   try dsimp only at hSw
   go_simp
   try (with_reducible rfl)
  try simp only [Act.put, List.setIfInBounds_toArray, List.set_cons_zero, List.set_cons_succ]
  refine SeqH.take (v := ?hv14) (by rfl) ?hy14 ?hr14
  case hy14 =>
   intro w hSw
   try dsimp only at hSw
   go_simp
   try (with_reducible rfl)
  try simp only [Act.put, List.setIfInBounds_toArray, List.set_cons_zero, List.set_cons_succ]
  refine SeqH.take (v := ?hv15) (by rfl) ?hy15 ?hr15
  case hy15 =>
   intro w hSw
   try dsimp only at hSw
   go_simp
   try (with_reducible rfl)
  try simp only [Act.put, List.setIfInBounds_toArray, List.set_cons_zero, List.set_cons_succ]
  refine SeqH.take (v := ?hv16) (by rfl) ?hy16 ?hr16
  case hy16 =>
   intro w hSw
   try dsimp only at hSw
   go_simp
   try (with_reducible rfl)
  try simp only [Act.put, List.setIfInBounds_toArray, List.set_cons_zero, List.set_cons_succ]
  refine SeqH.call (fun K hK => ?_)
  go_simp
  refine (unhide HV _ (And.left hHeld)).mono ?_
  rintro e w1 ⟨rfl, b1⟩
  have hB1 := Below.chain (a := W0) (And.left hHeld) b1
  go_wp2_with fail
  refine hK.out _ _ ?_ (fun hHeld => ?_)
  · exact (unhide BX) _ hB1
  clear hK K
  try simp only [Act.put, List.setIfInBounds_toArray, List.set_cons_zero, List.set_cons_succ]
  refine SeqH.take (v := ?hv17) (by rfl) ?hy17 ?hr17
  case hy17 =>
   intro w hSw
   try dsimp only at hSw
   go_simp
   try (with_reducible rfl)
  try simp only [Act.put, List.setIfInBounds_toArray, List.set_cons_zero, List.set_cons_succ]
  refine SeqH.take (v := ?hv18) (by rfl) ?hy18 ?hr18
  case hy18 =>
   intro w hSw
   try dsimp only at hSw
   go_simp
   try (with_reducible rfl)
  try simp only [Act.put, List.setIfInBounds_toArray, List.set_cons_zero, List.set_cons_succ]
  refine SeqH.skip (by rfl) ?_
  try simp only [Act.put, List.setIfInBounds_toArray, List.set_cons_zero, List.set_cons_succ]
  refine SeqH.skip (by rfl) ?_
  try simp only [Act.put, List.setIfInBounds_toArray, List.set_cons_zero, List.set_cons_succ]
  refine SeqH.skip (by rfl) ?_
  try simp only [Act.put, List.setIfInBounds_toArray, List.set_cons_zero, List.set_cons_succ]
  refine SeqH.skip (by rfl) ?_
  try simp only [Act.put, List.setIfInBounds_toArray, List.set_cons_zero, List.set_cons_succ]
  refine SeqH.take (v := ?hv19) (by rfl) ?hy19 ?hr19
  case hy19 =>
   intro w hSw
   try dsimp only at hSw
   go_simp
   try (with_reducible rfl)
  try simp only [Act.put, List.setIfInBounds_toArray, List.set_cons_zero, List.set_cons_succ]
  refine SeqH.take (v := ?hv20) (by rfl) ?hy20 ?hr20
  case hy20 =>
   intro w hSw
   try dsimp only at hSw
   go_simp
   try (with_reducible rfl)
  try simp only [Act.put, List.setIfInBounds_toArray, List.set_cons_zero, List.set_cons_succ]
  refine SeqH.skip (by rfl) ?_
  try simp only [Act.put, List.setIfInBounds_toArray, List.set_cons_zero, List.set_cons_succ]
  refine SeqH.skip (by rfl) ?_
  try simp only [Act.put, List.setIfInBounds_toArray, List.set_cons_zero, List.set_cons_succ]
  refine SeqH.skip (by rfl) ?_
  try simp only [Act.put, List.setIfInBounds_toArray, List.set_cons_zero, List.set_cons_succ]
  refine SeqH.skip (by rfl) ?_
  try simp only [Act.put, List.setIfInBounds_toArray, List.set_cons_zero, List.set_cons_succ]
  refine SeqH.skip (by rfl) ?_
  try simp only [Act.put, List.setIfInBounds_toArray, List.set_cons_zero, List.set_cons_succ]
  refine SeqH.skip (by rfl) ?_
  try simp only [Act.put, List.setIfInBounds_toArray, List.set_cons_zero, List.set_cons_succ]
  refine SeqH.skip (by rfl) ?_
  try simp only [Act.put, List.setIfInBounds_toArray, List.set_cons_zero, List.set_cons_succ]
  refine SeqH.skip (by rfl) ?_
  try simp only [Act.put, List.setIfInBounds_toArray, List.set_cons_zero, List.set_cons_succ]
  refine SeqH.take (v := ?hv21) (by rfl) ?hy21 ?hr21
  case hy21 =>
   intro w hSw
   try dsimp only at hSw
   go_simp
   try (with_reducible rfl)
  try simp only [Act.put, List.setIfInBounds_toArray, List.set_cons_zero, List.set_cons_succ]
  refine SeqH.done (NoPanic.normal ?_)
  go_wp2
  go_ret
  exact ⟨ret_bool (by rw [HN.out]), b0.trans (hB1.mono (Nat.le_of_lt sk0))⟩
 | true =>
  obtain ⟨F, hG, rfl, rfl, rfl, hm1, hm32, hn1, hn32, hM⟩ := okM_true hk1.symm
  have ok := hG.ok
  obtain ⟨n2, n64⟩ := ok.n_bd
  have hO : okC F.p F.k F.poly m = (decide (m.length ≤ 8) && (decide (capTo F.n 4096 m.length ≤ 4096) && decide (form F m (nthL m 0).length = m))) := by rw [okC, ← hk1, fdR_eq]; rfl
  have HO := Lib.hid hO
  obtain ⟨n, hn⟩ : ∃ n, n = (nthL m 0).length := ⟨_, rfl⟩
  rw [← hn] at hn1 hn32 hM
  have HNN := Lib.hid hn
  have HM := hide hM
  clear hO hk1 hn hM
  by_cases h8 : m.length ≤ 8
  ·
   have h8' : decide ((8 : Int) < (m.length : Int)) = false := by rw [decide_eq_false_iff_not]; omega
   have hFS := fun W => fieldSize_any F a c W ok
   have hPU := fun W => powerUpTo_any F.n m.length 4096 W (by omega) (by omega) (by omega) (by omega) (by omega)
   rw [Int.toNat_natCast] at hPU
   have HFS := hide hFS
   obtain ⟨q, hq⟩ : ∃ q, q = capTo F.n 4096 m.length := ⟨_, rfl⟩
   rw [← hq] at hPU
   have HPU := hide hPU
   have HQ := Lib.hid hq
   clear hFS hPU hq
   by_cases hcap : q ≤ 4096
   ·
    have hcap' : decide (4096 < q) = false := by rw [decide_eq_false_iff_not]; omega
    have hT := fun W h => tablesOf_any F a c W h ok
    have hRd := fun tv W h1 h2 => reduce_any F tv ra rc m n W h1 hG h2 (by omega) (unhide HM)
    have HT := hide hT
    obtain ⟨fm, hfm⟩ : ∃ fm, fm = form F m n := ⟨_, rfl⟩
    rw [← hfm] at hRd
    have HRD := hide hRd
    have HFMM := Lib.hid hfm
    clear hT hRd hfm
    go_enter Try.func103, Try.ntmps103
    go_upto_region 1 with fail
    rw [← HW.out]
    go_region_held3 (fun W => Below W0.heap.size W0 W ∧ W.cell? ⟨w.heap.size, 0, none⟩ = some (.int .i64 F.p) ∧ W.cell? ⟨w.heap.size, 1, none⟩ = some (.int .i64 F.k) ∧ W.cell? ⟨w.heap.size, 2, none⟩ = some (.slice a F.poly.length c) ∧ W.cell? ⟨w.heap.size, 3, none⟩ = some (.slice ra m.length rc))
     (first | exact (unhide BX) _ (Below.refl _ _) | exact (unhide BX) _ (Below.refl _ _).drew | exact (unhide BX) _ (by assumption))
     (first
      | (go_at_call 182; refine (unhide HV _ ?_).mono ?_; exact (And.left (by assumption)); rintro e w1 ⟨rfl, b1⟩; have hB1 := Below.chain (a := W0) (And.left (by assumption)) b1)
      | (go_at_call 117; refine (unhide HFS _).mono ?_; rintro e w2 ⟨rfl, b2⟩; have hB2 := Below.chain hB1 b2)
      | (go_at_call 109; refine (sizeS_any _ _ _ _).mono ?_; rintro e w3 ⟨rfl, rfl⟩)
      | (go_at_call 113; refine (unhide HPU _).mono ?_; rintro e w4 ⟨rfl, rfl⟩))
    have hB2' := hB2
    go_upto_region 3 with fail
    go_region_held3 (fun W => Below W0.heap.size W0 W ∧ W.cell? ⟨w.heap.size, 0, none⟩ = some (.int .i64 F.p) ∧ W.cell? ⟨w.heap.size, 1, none⟩ = some (.int .i64 F.k) ∧ W.cell? ⟨w.heap.size, 2, none⟩ = some (.slice a F.poly.length c) ∧ W.cell? ⟨w.heap.size, 3, none⟩ = some (.slice ra m.length rc))
     (first | exact (unhide BX) _ hB2 | exact (unhide BX) _ hB2.drew | exact (unhide BX) _ (by assumption))
     (first
      | (go_at_call 89; refine (unhide HT _ ?_).mono ?_; exact hx0.below (And.left (by assumption)); rintro e w5 ⟨tv, rfl, T5, b5⟩; have hB5 := Below.chain (a := W0) (And.left (by assumption)) b5)
      | (go_at_call 155; refine (unhide HRD _ _ T5 (hm0.below hB5)).mono ?_; rintro e w6 ⟨v6, u6, d6, rfl, o6, _, b6⟩; obtain ⟨a6, c6, rfl, r6⟩ := o6.form; have hB6 := Below.chain hB5 b6))
    have k6 := k0.below hB6 k0.lt
    have f3 := k6.cell 3
    have hS := areSame_any a6 ra c6 rc fm m w6 r6 (hm0.below hB6)
    have HS := hide hS
    clear hS
    go_wp2_with fail
    refine (unhide HS).mono ?_
    rintro e w7 ⟨rfl, q7⟩
    go_wp2
    go_ret
    refine ⟨ret_bool ?_, b0.trans ((hB6.trans ((q7.below _).mono hB6.size)).mono (Nat.le_of_lt sk0))⟩
    rw [HO.out, ← HNN.out, ← HFMM.out, ← HQ.out]
    simp [h8, hcap]
   ·
    have HN := Lib.hid (show okC F.p F.k F.poly m = false by rw [HO.out, ← HQ.out]; simp [hcap])
    have hcap' : decide (4096 < q) = true := by rw [decide_eq_true_iff]; omega
    go_enter Try.func103, Try.ntmps103
    go_upto_region 1 with fail
    rw [← HW.out]
    go_region_held3 (fun W => Below W0.heap.size W0 W ∧ W.cell? ⟨w.heap.size, 0, none⟩ = some (.int .i64 F.p) ∧ W.cell? ⟨w.heap.size, 1, none⟩ = some (.int .i64 F.k) ∧ W.cell? ⟨w.heap.size, 2, none⟩ = some (.slice a F.poly.length c) ∧ W.cell? ⟨w.heap.size, 3, none⟩ = some (.slice ra m.length rc))
     (first | exact (unhide BX) _ (Below.refl _ _) | exact (unhide BX) _ (Below.refl _ _).drew | exact (unhide BX) _ (by assumption))
     (first
      | (go_at_call 182; refine (unhide HV _ ?_).mono ?_; exact (And.left (by assumption)); rintro e w1 ⟨rfl, b1⟩; have hB1 := Below.chain (a := W0) (And.left (by assumption)) b1)
      | (go_at_call 117; refine (unhide HFS _).mono ?_; rintro e w2 ⟨rfl, b2⟩; have hB2 := Below.chain hB1 b2)
      | (go_at_call 109; refine (sizeS_any _ _ _ _).mono ?_; rintro e w3 ⟨rfl, rfl⟩)
      | (go_at_call 113; refine (unhide HPU _).mono ?_; rintro e w4 ⟨rfl, rfl⟩))
    go_wp2
    go_ret
    exact ⟨ret_bool (by rw [HN.out]), b0.trans (hB2.mono (Nat.le_of_lt sk0))⟩
  ·
   have HN := Lib.hid (show okC F.p F.k F.poly m = false by rw [HO.out]; simp [h8])
   have h8' : decide ((8 : Int) < (m.length : Int)) = true := by rw [decide_eq_true_iff]; omega
   go_enter Try.func103, Try.ntmps103
   go_upto_region 1 with fail
   rw [← HW.out]
   refine wp_region_noPanic ?_
   refine wp_region_seq (S := (fun W => Below W0.heap.size W0 W ∧ W.cell? ⟨w.heap.size, 0, none⟩ = some (.int .i64 F.p) ∧ W.cell? ⟨w.heap.size, 1, none⟩ = some (.int .i64 F.k) ∧ W.cell? ⟨w.heap.size, 2, none⟩ = some (.slice a F.poly.length c) ∧ W.cell? ⟨w.heap.size, 3, none⟩ = some (.slice ra m.length rc))) [true, true, true, true, false, true, true, true, true, true, true, true, true, true, true, true, true, true, true, true, true, true] (by kernel_rfl) (by kernel_rfl) (by kernel_rfl) rfl (fun _ _ _ _ _ h => h) ?_ (fun hHeld => ?_)
   · exact (unhide BX) _ (Below.refl _ _).drew
   simp only [List.toList_toArray]
   refine SeqH.take (v := ?hv22) (by rfl) ?hy22 ?hr22
   case hy22 =>
    intro w hSw
    try dsimp only at hSw
    go_simp
    try (with_reducible rfl)
   try simp only [Act.put, List.setIfInBounds_toArray, List.set_cons_zero, List.set_cons_succ]
   refine SeqH.take (v := ?hv23) (by rfl) ?hy23 ?hr23
   case hy23 =>
    intro w hSw
    try dsimp only at hSw
    go_simp
    try (with_reducible rfl)
   try simp only [Act.put, List.setIfInBounds_toArray, List.set_cons_zero, List.set_cons_succ]
   refine SeqH.take (v := ?hv24) (by rfl) ?hy24 ?hr24
   case hy24 =>
    intro w hSw
    try dsimp only at hSw
    go_simp
    try (with_reducible rfl)
   try simp only [Act.put, List.setIfInBounds_toArray, List.set_cons_zero, List.set_cons_succ]
   refine SeqH.take (v := ?hv25) (by rfl) ?hy25 ?hr25
   case hy25 =>
    intro w hSw
    try dsimp only at hSw
    go_simp
    try (with_reducible rfl)
   try simp only [Act.put, List.setIfInBounds_toArray, List.set_cons_zero, List.set_cons_succ]
   refine SeqH.call (fun K hK => ?_)
   go_simp
   refine (unhide HV _ (And.left hHeld)).mono ?_
   rintro e w1 ⟨rfl, b1⟩
   have hB1 := Below.chain (a := W0) (And.left hHeld) b1
   go_wp2_with fail
   refine hK.out _ _ ?_ (fun hHeld => ?_)
   · exact (unhide BX) _ hB1
   clear hK K
   try simp only [Act.put, List.setIfInBounds_toArray, List.set_cons_zero, List.set_cons_succ]
   refine SeqH.take (v := ?hv26) (by rfl) ?hy26 ?hr26
   case hy26 =>
    intro w hSw
    try dsimp only at hSw
    go_simp
    try (with_reducible rfl)
   try simp only [Act.put, List.setIfInBounds_toArray, List.set_cons_zero, List.set_cons_succ]
   refine SeqH.take (v := ?hv27) (by rfl) ?hy27 ?hr27
   case hy27 =>
    intro w hSw
    try dsimp only at hSw
    go_simp
    try (with_reducible rfl)
   try simp only [Act.put, List.setIfInBounds_toArray, List.set_cons_zero, List.set_cons_succ]
   refine SeqH.take (v := ?hv28) (by rfl) ?hy28 ?hr28
   case hy28 =>
    intro w hSw
    try dsimp only at hSw
    go_simp
    try (with_reducible rfl)
   try simp only [Act.put, List.setIfInBounds_toArray, List.set_cons_zero, List.set_cons_succ]
   refine SeqH.take (v := ?hv29) (by rfl) ?hy29 ?hr29
   case hy29 =>
    intro w hSw
    try dsimp only at hSw
    go_simp
    try (with_reducible rfl)
   try simp only [Act.put, List.setIfInBounds_toArray, List.set_cons_zero, List.set_cons_succ]
   refine SeqH.take (v := ?hv30) (by rfl) ?hy30 ?hr30
   case hy30 =>
    intro w hSw
    try dsimp only at hSw
    go_simp
    try (with_reducible rfl)
   try simp only [Act.put, List.setIfInBounds_toArray, List.set_cons_zero, List.set_cons_succ]
   refine SeqH.take (v := ?hv31) (by rfl) ?hy31 ?hr31
   case hy31 =>
    intro w hSw
    try dsimp only at hSw
    go_simp
    try (with_reducible rfl)
   try simp only [Act.put, List.setIfInBounds_toArray, List.set_cons_zero, List.set_cons_succ]
   refine SeqH.take (v := ?hv32) (by rfl) ?hy32 ?hr32
   case hy32 =>
    intro w hSw
    try dsimp only at hSw
    go_simp
    try (with_reducible rfl)
   try simp only [Act.put, List.setIfInBounds_toArray, List.set_cons_zero, List.set_cons_succ]
   refine SeqH.take (v := ?hv33) (by rfl) ?hy33 ?hr33
   case hy33 =>
    intro w hSw
    try dsimp only at hSw
    go_simp
    try (with_reducible rfl)
   try simp only [Act.put, List.setIfInBounds_toArray, List.set_cons_zero, List.set_cons_succ]
   refine SeqH.skip (by rfl) ?_
   try simp only [Act.put, List.setIfInBounds_toArray, List.set_cons_zero, List.set_cons_succ]
   refine SeqH.skip (by rfl) ?_
   try simp only [Act.put, List.setIfInBounds_toArray, List.set_cons_zero, List.set_cons_succ]
   refine SeqH.skip (by rfl) ?_
   try simp only [Act.put, List.setIfInBounds_toArray, List.set_cons_zero, List.set_cons_succ]
   refine SeqH.skip (by rfl) ?_
   try simp only [Act.put, List.setIfInBounds_toArray, List.set_cons_zero, List.set_cons_succ]
   refine SeqH.skip (by rfl) ?_
   try simp only [Act.put, List.setIfInBounds_toArray, List.set_cons_zero, List.set_cons_succ]
   refine SeqH.skip (by rfl) ?_
   try simp only [Act.put, List.setIfInBounds_toArray, List.set_cons_zero, List.set_cons_succ]
   refine SeqH.skip (by rfl) ?_
   try simp only [Act.put, List.setIfInBounds_toArray, List.set_cons_zero, List.set_cons_succ]
   refine SeqH.skip (by rfl) ?_
   try simp only [Act.put, List.setIfInBounds_toArray, List.set_cons_zero, List.set_cons_succ]
   refine SeqH.take (v := ?hv34) (by rfl) ?hy34 ?hr34
   case hy34 =>
    intro w hSw
    try dsimp only at hSw
    go_simp
    try (with_reducible rfl)
   try simp only [Act.put, List.setIfInBounds_toArray, List.set_cons_zero, List.set_cons_succ]
   refine SeqH.done (NoPanic.normal ?_)
   go_wp2
   go_ret
   exact ⟨ret_bool (by rw [HN.out]), b0.trans (hB1.mono (Nat.le_of_lt sk0))⟩
end Go.Proofs.Ytgmgpcaahanmiaa
namespace Go.Proofs.Ytgmgpcaahanmiaa
open Go.RowKit
attribute [local go_sem ↓] Go.wp_at_zero Go.wp_at_succ
theorem encode_any (F : FD) (tv : Value) (ra : Option Addr) (rc : Nat) (rows : List (List Int)) (b : Option Addr) (cb : Nat) (msg : List Int) (n : Nat) (w : World) (hT : Tabs w F tv) (hG : F.Good) (hx : RdS w ra rows) (hy : Rd w b msg) (h0 : 0 < rows.length) (hM : F.Mat n rows) (hn1 : 1 ≤ n) (hn : n ≤ 32) (hl : msg.length ≤ rows.length) (hm : ∀ x ∈ msg, 0 ≤ x ∧ x < F.n) : Calls Try.prog 128 #[tv, .slice ra rows.length rc, .slice b msg.length cb] w fun e w' => ∃ v, e = .returned v ∧ Own w' w.heap.size v (encTo F n rows msg msg.length) ∧ Below w.heap.size w w' := by
 have hT0 := hT
 obtain ⟨aA, cA, aS, cS, aM, cM, aI, cI, rfl, _, _, _, _⟩ := hT
 have ok := hG.ok
 obtain ⟨n2, n64⟩ := ok.n_bd
 have hxl := hx.len
 have hyl := hy.len
 have hmk := fun W => run_make_row' (P := Try.prog) 22 2 (.int .i64 0) 8 Try.underlying22 Try.info_i64 rfl .i64 .i64 n (by omega) (by omega) W
 obtain ⟨W0, hHW⟩ : ∃ z, z = w.alloc (.cells #[.int .i64 F.n, .slice aA F.n cA, .slice aS F.n cS, .slice aM F.n cM, .slice aI F.n cI] 93) := ⟨_, rfl⟩
 have b0 : Below w.heap.size w W0 := by rw [hHW]; exact (Below.refl _ _).alloc (Nat.le_refl _) _
 have kT : Blk W0 w.heap.size 93 #[.int .i64 F.n, .slice aA F.n cA, .slice aS F.n cS, .slice aM F.n cM, .slice aI F.n cI] := by rw [hHW]; exact Blk.new _ _ _ rfl
 have skT : w.heap.size < W0.heap.size := kT.lt
 have HW := Lib.hid hHW
 clear hHW
 obtain ⟨gb, ob, rfl, hgb, hcc⟩ := (hx.below b0).at_ h0
 obtain ⟨ai0, ci0, h00, _⟩ := hcc 0 h0
 rw [Nat.add_zero, (Mat_nth hM h0).1] at h00
 have HCC := hide hcc
 have HX := hide hx
 have HY := hide hy
 have HMM := hide hM
 have HMS := hide hm
 have HT := hide hT0
 clear hcc hx hy hM hm hT0
 go_enter Try.func128, Try.ntmps128
 go_upto_region 1 with fail
 rw [← HW.out]
 go_upto_region 2 with fail
 obtain ⟨W1, hW1⟩ : ∃ z, z = W0.alloc (.cells (madeCells #[.int .i64 0] n) 2) := ⟨_, rfl⟩
 have oz : Own W1 W0.heap.size (.slice (some ⟨W0.heap.size, 0, none⟩) n n) (zeros n) := by rw [hW1]; exact Own.zeros W0 (Nat.le_refl _) (by omega)
 have bz : Below W0.heap.size W0 W1 := by rw [hW1]; exact (Below.refl _ _).alloc (Nat.le_refl _) _
 have sz : W0.heap.size < W1.heap.size := by rw [hW1]; simp
 rw [← hW1]
 clear hW1
 have kT1 := kT.below bz kT.lt
 have OZ := Lib.hid oz
 clear oz hmk
 go_wp2_with fail
 go_loopw [17] (fun iv wr => ∃ k : Nat, iv = .int .i64 k ∧ k ≤ msg.length ∧ Hid (Own wr W0.heap.size (.slice (some ⟨W0.heap.size, 0, none⟩) n n) (encTo F n rows msg k)) ∧ Hid (W1.grownBy wr (some W0.heap.size))) (fun iv _ => msg.length - (intOf iv).toNat)
 case atStart => exact ⟨0, rfl, Nat.zero_le _, OZ, hide (grown_refl _ _)⟩
 case round =>
  obtain ⟨k, rfl, hk, ho, hg⟩ := hrel
  have hbg : Below W0.heap.size W0 wr := bz.grown hg.out (by omega) (fun q hq => by injection hq; omega)
  have hbw : Below w.heap.size w wr := b0.trans (hbg.mono (Nat.le_of_lt skT))
  by_cases hkl : k < msg.length
  · have kTr := kT1.grown hg.out (by intro e; injection e; omega)
    obtain ⟨gm, om, rfl, _, hcm⟩ := ((unhide HY).below hbw).at_ (by omega)
    have hc1 := hcm k hkl
    have hxr := unhide HMS _ (nth_mem hkl)
    obtain ⟨ai, ci, hr1, hrr⟩ := unhide HCC k (by omega)
    have hmk := Mat_nth (unhide HMM) (show k < rows.length by omega)
    rw [hmk.1] at hr1
    have hr1w : wr.cell? ⟨gb, ob + k, none⟩ = some (.slice ai n ci) := (hbg.cell (p := ⟨gb, ob + k, none⟩) hgb).trans hr1
    obtain ⟨x, hxx⟩ : ∃ x, x = nth msg k := ⟨_, rfl⟩
    rw [← hxx] at hc1 hxr
    have hat : Calls Try.prog 90 #[.agg #[.int .i64 F.n, .slice aA F.n cA, .slice aS F.n cS, .slice aM F.n cM, .slice aI F.n cI], .slice (some ⟨W0.heap.size, 0, none⟩) n n, .slice ai n ci, .int .i64 x] wr.drew fun e w' => e = .returned (.tuple #[]) ∧ Own w' W0.heap.size (.slice (some ⟨W0.heap.size, 0, none⟩) n n) (addTo F (encTo F n rows msg k) (nthL rows k) x n) ∧ wr.drew.grownBy w' (some W0.heap.size) := by
     have hel := encTo_len F n rows msg k
     have h := addTimes_any F _ w wr.drew W0.heap.size W0.heap.size n ai ci (encTo F n rows msg k) (nthL rows k) x ok (unhide HT) hbw.drew (Nat.le_of_lt skT) (by rw [hel]; exact ho.out.drewN 1) ((hrr.below hbg).drewN 1) (fun p hp => by
      obtain ⟨b2, o2, e2, hb2, _⟩ := hrr.at_ (by rw [hmk.1]; omega)
      rw [hp] at e2
      injection e2 with e2
      rw [e2]
      show b2 ≠ W0.heap.size
      omega) (by rw [hel, hmk.1]) hxr.1 hxr.2 (encTo_el ok n rows msg k) hmk.2
     rw [hel, hmk.1] at h
     exact h
    have HAT := hide hat
    have HST := Lib.hid (show encTo F n rows msg (k + 1) = addTo F (encTo F n rows msg k) (nthL rows k) x n by rw [encTo, hxx])
    have f0 := kTr.cell 0
    have f1 := kTr.cell 1
    have f2 := kTr.cell 2
    have f3 := kTr.cell 3
    have f4 := kTr.cell 4
    have hkr : k < rows.length := by omega
    clear hat hxx hmk hcm hrr hr1
    go_wp2_with fail
    go_still_tail 7, (by kernel_rfl)
    change wpList _ _ _ _ _ wr.drew
    go_wp2_with fail
    refine (unhide HAT).mono ?_
    rintro e w5 ⟨rfl, o5, g5⟩
    go_wp2_with fail
    go_roundw
    case rel =>
     refine ⟨k + 1, by go_num, by omega, ?_, hide (grown_trans_row (grown_trans_row hg.out (grown_drew1 wr _)) g5)⟩
     show Own _ _ _ _
     rw [HST.out]
     exact o5
    case measure => simp only [intOf]; omega
  · have hke : k = msg.length := by omega
    have HE := Lib.hid hke
    clear hke
    go_wp2_with fail
    go_ret
    exact ⟨_, rfl, by have h := ho.out; rw [HE.out] at h; exact h.mono (Nat.le_of_lt skT), hbw⟩
end Go.Proofs.Ytgmgpcaahanmiaa
namespace Go.Proofs.Ytgmgpcaahanmiaa
open Go.RowKit
section
variable {F : FD}
theorem encTo_sum (ok : F.Ok) (n : Nat) (rows : List (List Int)) (msg : List Int) (k : Nat) {i : Nat} (hi : i < n) : nth (encTo F n rows msg k) i = F.sum (fun j => F.mul (nth msg j) (nth (nthL rows j) i)) k := by
 induction k with
 | zero => rw [encTo, zeros_nth]; rfl
 | succ k ih =>
  rw [encTo, addTo_nth F _ _ _ _ (by rw [encTo_len]; exact Nat.le_refl _), if_pos hi, ih]
  rfl
theorem encTo_piv (ok : F.Ok) {n : Nat} {rows : List (List Int)} {pv : List Nat} (h : Ech F n rows pv) {msg : List Int} (hm : ∀ c ∈ msg, 0 ≤ c ∧ c < F.n) {l : Nat} (hl : l < rows.length) : nth (encTo F n rows msg rows.length) (pv.getD l 0) = nth msg l := by
 have hlp : l < pv.length := by rw [h.len]; exact hl
 have hel : F.el (nth msg l) := by
  rcases Nat.lt_or_ge l msg.length with hh | hh
  · exact (el_n ok).2 (hm _ (nth_mem hh))
  · rw [nth_big hh]; exact zero_el ok
 rw [encTo_sum ok n rows msg _ (h.lt l hlp), sum_one ok (l := l) hl (mul_el ok _ _) (fun j hj hne => by rw [h.one j l (by rw [h.len]; exact hj) hlp, if_neg hne, mul_zero_all ok])]
 rw [h.one l l hlp hlp, if_pos rfl, mul_comm' ok, one_mul' ok hel]
end
def wtTo (xs : List Int) : Nat → Nat
 | 0 => 0
 | k + 1 => if nth xs k = 0 then wtTo xs k else wtTo xs k + 1
def wt (xs : List Int) : Nat := wtTo xs xs.length
theorem wtTo_le (xs : List Int) (k : Nat) : wtTo xs k ≤ k := by
 induction k with
 | zero => exact Nat.le_refl _
 | succ k ih => rw [wtTo]; split <;> omega
theorem wtTo_pos {xs : List Int} {k i : Nat} (hi : i < k) (h : nth xs i ≠ 0) : 1 ≤ wtTo xs k := by
 induction k with
 | zero => omega
 | succ k ih =>
  rw [wtTo]
  by_cases e : i = k
  · subst e; rw [if_neg h]; omega
  · have := ih (by omega)
    split <;> omega
def cntW (words : List (List Int)) (n : Nat) : Nat → List Int
 | 0 => zeros (n + 1)
 | k + 1 => (cntW words n k).set (wt (nthL words k)) (nth (cntW words n k) (wt (nthL words k)) + 1)
theorem cntW_len (words : List (List Int)) (n k : Nat) : (cntW words n k).length = n + 1 := by
 induction k with
 | zero => exact zeros_len _
 | succ k ih => rw [cntW, List.length_set, ih]
theorem cntW_bd (words : List (List Int)) (n k i : Nat) : 0 ≤ nth (cntW words n k) i ∧ nth (cntW words n k) i ≤ k := by
 induction k generalizing i with
 | zero => rw [cntW, zeros_nth]; omega
 | succ k ih =>
  rw [cntW]
  by_cases e : wt (nthL words k) = i
  · subst e
    by_cases hl : wt (nthL words k) < (cntW words n k).length
    · rw [nth_set_same hl]
      have := ih (wt (nthL words k))
      omega
    · rw [nth_big (by rw [List.length_set]; omega)]; omega
  · rw [nth_set_ne e]
    have := ih i
    omega
theorem cntW_pos {words : List (List Int)} {n k j : Nat} (hj : j < k) (hn : wt (nthL words j) ≤ n) : 1 ≤ nth (cntW words n k) (wt (nthL words j)) := by
 induction k with
 | zero => omega
 | succ k ih =>
  rw [cntW]
  by_cases e : wt (nthL words k) = wt (nthL words j)
  · rw [e, nth_set_same (by rw [cntW_len]; omega)]
    have := (cntW_bd words n k (wt (nthL words j))).1
    omega
  · rw [nth_set_ne e]
    by_cases e2 : j = k
    · exact absurd (by rw [e2]) e
    · exact ih (by omega)
def leastD (counts : List Int) : Nat := ((List.range counts.length).find? (fun d => decide (1 ≤ d) && (nth counts d != 0))).getD 0
theorem leastD_hit {counts : List Int} {d : Nat} (h1 : 1 ≤ d) (h2 : d < counts.length) (h3 : nth counts d ≠ 0) (h4 : ∀ j, 1 ≤ j → j < d → nth counts j = 0) : leastD counts = d := by
 have : (List.range counts.length).find? (fun d => decide (1 ≤ d) && (nth counts d != 0)) = some d := by
  rw [List.find?_range_eq_some]
  refine ⟨by simp [h1, h3], List.mem_range.2 h2, fun j hj => ?_⟩
  by_cases h : 1 ≤ j
  · simp [h4 j h hj]
  · simp [h]
 rw [leastD, this]; rfl
theorem hig_nth {j q k i : Nat} (hi : i < k) : nth (hig j q k) i = (j : Int) / (q : Int) ^ (k - 1 - i) % (q : Int) := by
 have h : nth (dig (j : Int) (q : Int) k).reverse i = nth (dig (j : Int) (q : Int) k) ((dig (j : Int) (q : Int) k).length - 1 - i) := by
  simp only [nth, List.getD_eq_getElem?_getD]
  rw [List.getElem?_reverse (by rw [dig_len]; exact hi)]
 rw [hig, h, dig_len, dig_nth _ _ (by omega)]
theorem GC.some_word {F : FD} {n : Nat} {m : List (List Int)} (h : GC F n m) : ∃ j, j < F.n ^ m.length ∧ 1 ≤ wt (nthL (wordsTo F n m m.length) j) ∧ wt (nthL (wordsTo F n m m.length) j) ≤ n := by
 have ok := h.good.ok
 obtain ⟨n2, n64⟩ := ok.n_bd
 obtain ⟨pv, _, hE, _⟩ := form_ech h.good h.mat
 rw [h.fix] at hE
 have hm := h.m1
 have hj : 1 < F.n ^ m.length := Nat.one_lt_pow (by omega) (by omega)
 refine ⟨1, hj, ?_, ?_⟩
 · rw [wordsTo_nth F n m hj, wt, encTo_len]
   refine wtTo_pos (i := pv.getD (m.length - 1) 0) (hE.lt _ (by rw [hE.len]; omega)) ?_
   rw [encTo_piv ok hE (hig_el 1 (by omega) _) (by omega), hig_nth (by omega), show m.length - 1 - (m.length - 1) = 0 by omega]
   simp only [Int.pow_zero, Int.ediv_one]
   rw [Int.emod_eq_of_lt (by omega) (by omega)]
   omega
 · have := wtTo_le (nthL (wordsTo F n m m.length) 1) (nthL (wordsTo F n m m.length) 1).length
   rw [wordsTo_nth F n m hj, encTo_len] at this
   rw [wordsTo_nth F n m hj, wt, encTo_len]
   exact this
end Go.Proofs.Ytgmgpcaahanmiaa
namespace Go.Proofs.Ytgmgpcaahanmiaa
open Go.RowKit
attribute [local go_sem ↓] Go.wp_at_zero Go.wp_at_succ
theorem highFirst_any (j q k : Nat) (w : World) (hj : (j : Int) ≤ 9223372036854775807) (hq : 1 ≤ q) (hq2 : q ≤ 1000000) (hk0 : 1 ≤ k) (hk : k ≤ 1000000) :
    Calls Try.prog 204 #[.int .i64 j, .int .i64 q, .int .i64 k] w fun e w' => ∃ v, e = .returned v ∧ Own w' w.heap.size v (hig j q k) ∧ Below w.heap.size w w' := by
 have hd := fun W => digitsOf_any j q k W (by omega) (by omega) (by omega) (by omega) hk
 have HD := hide hd
 clear hd
 go_enter Try.func204, Try.ntmps204
 go_wp2_with fail
 refine (unhide HD _).mono ?_
 rintro e w1 ⟨v1, rfl, o1, b1⟩
 obtain ⟨g1, c1, rfl, q1, z1, cc1, cd1⟩ := o1.at_len (dig_len _ _ _) hk0
 have hr := reverse_any g1 c1 w.heap.size (dig j q k) w1 (by rw [dig_len]; exact o1)
 rw [dig_len] at hr
 have HR := hide hr
 clear hr
 go_wp2_with fail
 refine (unhide HR).mono ?_
 rintro e w2 ⟨rfl, o2, b2⟩
 go_wp2
 go_ret
 exact ⟨_, rfl, o2, b1.trans b2⟩
def wordsUp (F : FD) (n : Nat) (rows : List (List Int)) (k j : Nat) : List (List Int) := (List.range j).map fun i => encTo F n rows (hig i F.n k) k
theorem wordsUp_len (F : FD) (n : Nat) (rows : List (List Int)) (k j : Nat) : (wordsUp F n rows k j).length = j := by simp [wordsUp]
theorem wordsUp_succ (F : FD) (n : Nat) (rows : List (List Int)) (k j : Nat) : wordsUp F n rows k (j + 1) = wordsUp F n rows k j ++ [encTo F n rows (hig j F.n k) k] := by simp [wordsUp, List.range_succ]
theorem GC.cap_eq {F : FD} {n : Nat} {m : List (List Int)} (h : GC F n m) : capTo F.n 4096 m.length = ((F.n ^ m.length : Nat) : Int) ∧ F.n ^ m.length ≤ 4096 := by
 have h1 := cap_exact' h.cap
 have h2 := h.cap
 rw [h1] at h2
 have e : ((F.n : Int)) ^ m.length = ((F.n ^ m.length : Nat) : Int) := (Int.natCast_pow _ _).symm
 rw [e] at h1 h2
 exact ⟨h1, Int.ofNat_le.1 h2⟩
theorem wordsOf_any (F : FD) (ap : Option Addr) (cp : Nat) (ra : Option Addr) (rc : Nat) (m : List (List Int)) (n : Nat) (w : World) (hR : Rd w ap F.poly) (hm : RdS w ra m) (hC : GC F n m) :
    Calls Try.prog 135 #[.agg #[.int .i64 F.p, .int .i64 F.k, .slice ap F.poly.length cp, .slice ra m.length rc]] w fun e w' => ∃ v, e = .returned v ∧ OwnS w' w.heap.size v (wordsTo F n m m.length) ∧ Below w.heap.size w w' := by
 have hml := hm.len
 have hG := hC.good
 have ok := hG.ok
 obtain ⟨n2, n64⟩ := ok.n_bd
 have hm1 := hC.m1
 have hm8 := hC.m8
 obtain ⟨hcap, hQ⟩ := hC.cap_eq
 obtain ⟨W0, hHW⟩ : ∃ z, z = w.alloc (.cells #[.int .i64 F.p, .int .i64 F.k, .slice ap F.poly.length cp, .slice ra m.length rc] 37) := ⟨_, rfl⟩
 have b0 : Below w.heap.size w W0 := by rw [hHW]; exact (Below.refl _ _).alloc (Nat.le_refl _) _
 have k0 : Blk W0 w.heap.size 37 #[.int .i64 F.p, .int .i64 F.k, .slice ap F.poly.length cp, .slice ra m.length rc] := by rw [hHW]; exact Blk.new _ _ _ rfl
 have sk0 : w.heap.size < W0.heap.size := k0.lt
 have HW := Lib.hid hHW
 clear hHW
 have hT := tablesOf_any F ap cp W0 (hR.below b0) ok
 have HT := hide hT
 clear hT
 have f0 := k0.cell 0
 have f1 := k0.cell 1
 have f2 := k0.cell 2
 go_enter Try.func135, Try.ntmps135
 go_upto_region 1 with fail
 rw [← HW.out]
 go_wp2_with fail
 refine (unhide HT).mono ?_
 rintro e w1 ⟨tv, rfl, t1, b1⟩
 obtain ⟨aA, cA, aS, cS, aM, cM, aI, cI, rfl, t1A, t1S, t1M, t1I⟩ := t1
 obtain ⟨W1, hH1⟩ : ∃ z, z = w1.alloc (.cells #[.int .i64 F.n, .slice aA F.n cA, .slice aS F.n cS, .slice aM F.n cM, .slice aI F.n cI] 93) := ⟨_, rfl⟩
 have b1x : Below w1.heap.size w1 W1 := by rw [hH1]; exact (Below.refl _ _).alloc (Nat.le_refl _) _
 have kT : Blk W1 w1.heap.size 93 #[.int .i64 F.n, .slice aA F.n cA, .slice aS F.n cS, .slice aM F.n cM, .slice aI F.n cI] := by rw [hH1]; exact Blk.new _ _ _ rfl
 have H1 := Lib.hid hH1
 clear hH1
 have t2 : Tabs W1 F (.agg #[.int .i64 F.n, .slice aA F.n cA, .slice aS F.n cS, .slice aM F.n cM, .slice aI F.n cI]) := ⟨aA, cA, aS, cS, aM, cM, aI, cI, rfl, t1A.below b1x, t1S.below b1x, t1M.below b1x, t1I.below b1x⟩
 have c1 := Below.chain b1 b1x
 have k1 := k0.below c1 k0.lt
 have z1 := c1.size
 have bw1 : Below w.heap.size w W1 := b0.trans (c1.mono (Nat.le_of_lt sk0))
 have zw := bw1.size
 have hHF := fun (j : Nat) (hj : j < F.n ^ m.length) W => highFirst_any j F.n m.length W (by omega) (by omega) (by omega) (by omega) (by omega)
 have hEN := fun (j : Nat) (b : Option Addr) (cb : Nat) W (hy : Rd W b (hig j F.n m.length)) (hB : Below W1.heap.size W1 W) => encode_any F _ ra rc m b cb (hig j F.n m.length) n W (t2.below hB) hG ((hm.below bw1).below hB) hy hm1 hC.mat hC.n1 hC.n32 (by rw [hig_len]; exact Nat.le_refl _) (hig_el j (by omega) _)
 have hPW := fun W => powerUpTo_any F.n m.length 4096 W (by omega) (by omega) (by omega) (by omega) (by omega)
 rw [Int.toNat_natCast, hcap] at hPW
 have hWT : wordsTo F n m m.length = wordsUp F n m m.length (F.n ^ m.length) := rfl
 have hEL := fun j => encTo_len F n m (hig j F.n m.length) m.length
 obtain ⟨Q, hQQ⟩ : ∃ Q, Q = F.n ^ m.length := ⟨_, rfl⟩
 rw [← hQQ] at hHF hPW hWT hQ
 have HHF := hide hHF
 have HEN := hide hEN
 have HPW := hide hPW
 have HWT := Lib.hid hWT
 clear hHF hEN hPW hWT hQQ hcap t1A t1S t1M t1I f0 f1 f2
 have f3 := k1.cell 3
 have g0 := kT.cell 0
 have g1 := kT.cell 1
 have g2 := kT.cell 2
 have g3 := kT.cell 3
 have g4 := kT.cell 4
 have BX := hide (show ∀ W, Below W1.heap.size W1 W → (Below W1.heap.size W1 W ∧ W.cell? ⟨w.heap.size, 3, none⟩ = some (.slice ra m.length rc) ∧ W.cell? ⟨w1.heap.size, 0, none⟩ = some (.int .i64 F.n) ∧ W.cell? ⟨w1.heap.size, 1, none⟩ = some (.slice aA F.n cA) ∧ W.cell? ⟨w1.heap.size, 2, none⟩ = some (.slice aS F.n cS) ∧ W.cell? ⟨w1.heap.size, 3, none⟩ = some (.slice aM F.n cM) ∧ W.cell? ⟨w1.heap.size, 4, none⟩ = some (.slice aI F.n cI)) from fun W h => ⟨h, (k1.below h k1.lt).cell 3, (kT.below h kT.lt).cell 0, (kT.below h kT.lt).cell 1, (kT.below h kT.lt).cell 2, (kT.below h kT.lt).cell 3, (kT.below h kT.lt).cell 4⟩)
 go_upto_region 2 with fail
 rw [← H1.out]
 go_wp2_with fail
 refine (sizeS_any _ _ _ _).mono ?_
 rintro e w2 ⟨rfl, rfl⟩
 go_wp2_with fail
 refine (unhide HPW _).mono ?_
 rintro e w2 ⟨rfl, rfl⟩
 go_wp2_with fail
 go_loopw [5, 17] (fun v iv wr => ∃ j : Nat, iv = .int .i64 j ∧ j ≤ Q ∧ Hid (OwnS wr W1.heap.size v (wordsUp F n m m.length j)) ∧ Below W1.heap.size W1 wr) (fun _ iv _ => Q - (intOf iv).toNat)
 case atStart => exact ⟨0, rfl, Nat.zero_le _, OwnS.nil _ _, Below.refl _ _⟩
 case round =>
  obtain ⟨j, rfl, hj, ho, hb⟩ := hrel
  have hsz := hb.size
  by_cases hjq : j < Q
  · have hf := unhide HHF j hjq
    have he := unhide HEN j
    have hst := wordsUp_succ F n m m.length j
    have hel := hEL j
    obtain ⟨msg, hmsg⟩ : ∃ msg, msg = hig j F.n m.length := ⟨_, rfl⟩
    have hmsgl : msg.length = m.length := by rw [hmsg, hig_len]
    obtain ⟨wd, hwd⟩ : ∃ wd, wd = encTo F n m msg m.length := ⟨_, rfl⟩
    rw [← hmsg] at hf he hst hel
    rw [hmsgl] at he
    rw [← hwd] at hst he hel
    have HF := hide hf
    have HE := hide he
    have HST := Lib.hid hst
    have HML := Lib.hid hmsgl
    have hlen : (wordsUp F n m m.length j).length + 1 ≤ 1073741824 := by rw [wordsUp_len]; omega
    clear hf he hst hmsg hmsgl hwd hel
    go_upto_region 7 with fail
    go_region_held3 (fun W => Below W1.heap.size W1 W ∧ W.cell? ⟨w.heap.size, 3, none⟩ = some (.slice ra m.length rc) ∧ W.cell? ⟨w1.heap.size, 0, none⟩ = some (.int .i64 F.n) ∧ W.cell? ⟨w1.heap.size, 1, none⟩ = some (.slice aA F.n cA) ∧ W.cell? ⟨w1.heap.size, 2, none⟩ = some (.slice aS F.n cS) ∧ W.cell? ⟨w1.heap.size, 3, none⟩ = some (.slice aM F.n cM) ∧ W.cell? ⟨w1.heap.size, 4, none⟩ = some (.slice aI F.n cI))
     (first | exact (unhide BX) _ hb | exact (unhide BX) _ (hb.drew) | exact (unhide BX) _ (by assumption) | exact (unhide BX) _ hB4 | exact (unhide BX) _ (hB3.alloc hZ3 _))
     (first
      | (go_at_call 204; refine (unhide HF _).mono ?_; rintro e w2 ⟨v2, rfl, o2, b2⟩; obtain ⟨a2, c2, rfl, r2, _⟩ := o2.form; rw [HML.out]; have hB2 := Below.chain (a := W1) (And.left (by assumption)) b2)
      | (go_at_call 128; refine (unhide HE _ _ _ r2 hB2).mono ?_; rintro e w3 ⟨v3, rfl, o3, b3⟩; obtain ⟨a3, c3, rfl, _, _⟩ := o3.form; have hB3 := Below.chain hB2 b3; have hZ3 := hB3.size; have hQ2 := b2.size; have hQ3 := b3.size; have q3 := ((ho.out.drewN 1).toH.belw b2 (Nat.le_refl _)).belw b3 hQ2; have p3 := o3.mono hQ2)
      | (refine step_append_row rfl (.tmp 20) (.tmp 30) rfl rfl (q3.belw ((Below.refl _ _).alloc (Nat.le_refl _) _) (Nat.le_trans hQ2 hQ3)) _ rfl ((Blk.new w3 22 #[.slice a3 wd.length c3] rfl).cell 0) (p3.alloc _) hsz (alloc_le (Nat.le_trans hQ2 hQ3) _) hlen ?_; intro v4 W4 o4 g4 _; have hB4 := Below.stepS (hB3.alloc hZ3 _) g4 (q3.belw ((Below.refl _ _).alloc (Nat.le_refl _) _) (Nat.le_trans hQ2 hQ3)).own (Nat.le_refl _) (alloc_le hZ3 _)))
    have hb4 := hB4
    clear hB4 hB3 hB2
    go_wp2
    go_roundw
    case rel => exact ⟨j + 1, by go_num, by omega, by show OwnS _ _ _ _; rw [HST.out]; exact o4, hb4⟩
    case measure => simp only [intOf]; omega
  · have hke : j = Q := by omega
    have HE := Lib.hid hke
    clear hke
    go_wp2
    go_ret
    exact ⟨_, rfl, by have o := ho.out; rw [HE.out, ← HWT.out] at o; exact o.mono zw, bw1.trans (hb.mono zw)⟩
end Go.Proofs.Ytgmgpcaahanmiaa
namespace Go.Proofs.Ytgmgpcaahanmiaa
open Go.RowKit
attribute [local go_sem ↓] Go.wp_at_zero Go.wp_at_succ
theorem weightOf_any (a : Option Addr) (c : Nat) (xs : List Int) (w : World) (hx : Rd w a xs) :
    Calls Try.prog 189 #[.slice a xs.length c] w fun e w' => e = .returned (.int .i64 (wt xs : Nat)) ∧ w = w' := by
 have hxl := hx.len
 go_enter Try.func189, Try.ntmps189
 go_wp2
 go_loopw [3, 8] (fun nv iv wr => ∃ (k y : Nat), iv = .int .i64 k ∧ nv = .int .i64 y ∧ k ≤ xs.length ∧ y ≤ k ∧ Hid (y = wtTo xs k) ∧ w = wr) (fun _ iv _ => xs.length - (intOf iv).toNat)
 case atStart => exact ⟨0, 0, rfl, rfl, Nat.zero_le _, Nat.le_refl _, rfl, rfl⟩
 case round =>
  obtain ⟨k, y, rfl, rfl, hk, hyk, hY, rfl⟩ := hrel
  by_cases hkl : k < xs.length
  · obtain ⟨b1, o1, rfl, _, hc⟩ := hx.at_ (by omega)
    have h1 := hc k hkl
    have hst : wtTo xs (k + 1) = if nth xs k = 0 then wtTo xs k else wtTo xs k + 1 := rfl
    obtain ⟨u, hu⟩ : ∃ u, u = nth xs k := ⟨_, rfl⟩
    rw [← hu] at h1 hst
    have HST := Lib.hid hst
    clear hc hu hst
    by_cases hn : u = 0
    · have hbn : (u != 0) = false := by rw [bne_eq_false_iff_eq]; exact hn
      have HN := Lib.hid hn
      clear hn
      go_wp2
      go_roundw
      case rel => exact ⟨k + 1, y, by go_num, rfl, by omega, by omega, by show _ = _; rw [HST.out, if_pos HN.out, hY.out], trivial⟩
      case measure => simp [intOf]; omega
    · have hbn : (u != 0) = true := by rw [bne_iff_ne]; exact hn
      have HN := hide hn
      clear hn
      go_wp2
      go_roundw
      case rel => exact ⟨k + 1, y + 1, by go_num, by go_num, by omega, by omega, by show _ = _; rw [HST.out, if_neg (unhide HN), hY.out], trivial⟩
      case measure => simp [intOf]; omega
  · have hke : k = xs.length := by omega
    have HE := Lib.hid hke
    clear hke
    go_wp2
    go_ret
    exact ⟨ret_int (by rw [hY.out, HE.out, wt]), rfl⟩
theorem lengthOf_any (p d : Int) (a : Option Addr) (k c : Nat) (ra : Option Addr) (rc : Nat) (m : List (List Int)) (w : World) (hm : RdS w ra m) (h0 : 0 < m.length) :
    Calls Try.prog 108 #[.agg #[.int .i64 p, .int .i64 d, .slice a k c, .slice ra m.length rc]] w fun e w' => e = .returned (.int .i64 ((nthL m 0).length : Nat)) ∧ Below w.heap.size w w' := by
 obtain ⟨gb, ob, rfl, hgb, hcc⟩ := hm.at_ h0
 obtain ⟨ai, ci, h1, _⟩ := hcc 0 h0
 rw [Nat.add_zero] at h1
 obtain ⟨N, hN⟩ : ∃ N, N = (nthL m 0).length := ⟨_, rfl⟩
 rw [← hN] at h1 ⊢
 obtain ⟨W0, hHW⟩ : ∃ z, z = w.alloc (.cells #[.int .i64 p, .int .i64 d, .slice a k c, .slice (some ⟨gb, ob, none⟩) m.length rc] 37) := ⟨_, rfl⟩
 have b0 : Below w.heap.size w W0 := by rw [hHW]; exact (Below.refl _ _).alloc (Nat.le_refl _) _
 have k0 : Blk W0 w.heap.size 37 #[.int .i64 p, .int .i64 d, .slice a k c, .slice (some ⟨gb, ob, none⟩) m.length rc] := by rw [hHW]; exact Blk.new _ _ _ rfl
 have h1 := (b0.cell (p := ⟨gb, ob, none⟩) hgb).trans h1
 have f3 := k0.cell 3
 have HW := Lib.hid hHW
 clear hHW hN hcc hm
 go_enter Try.func108, Try.ntmps108
 go_upto_region 1 with fail
 rw [← HW.out]
 go_wp2_with fail
 refine (size_any _ _ _ _).mono ?_
 rintro e w1 ⟨rfl, rfl⟩
 go_wp2
 go_ret
 exact ⟨rfl, b0⟩
def wts (F : FD) (n : Nat) (m : List (List Int)) : List Int := cntW (wordsTo F n m m.length) n (wordsTo F n m m.length).length
theorem wordsTo_el {F : FD} (ok : F.Ok) (n : Nat) (m : List (List Int)) {k : Nat} (hk : k < (wordsTo F n m m.length).length) : (nthL (wordsTo F n m m.length) k).length = n ∧ wt (nthL (wordsTo F n m m.length) k) ≤ n ∧ ∀ x ∈ nthL (wordsTo F n m m.length) k, 0 ≤ x ∧ x < F.n := by
 rw [wordsTo_len] at hk
 rw [wordsTo_nth F n m hk]
 have h1 := encTo_len F n m (hig k F.n m.length) m.length
 have h2 := wtTo_le (encTo F n m (hig k F.n m.length) m.length) (encTo F n m (hig k F.n m.length) m.length).length
 refine ⟨h1, ?_, encTo_el ok _ _ _ _⟩
 rw [wt]
 omega
theorem weightsOf_any (F : FD) (ap : Option Addr) (cp : Nat) (ra : Option Addr) (rc : Nat) (m : List (List Int)) (n : Nat) (w : World) (hR : Rd w ap F.poly) (hm : RdS w ra m) (hC : GC F n m) :
    Calls Try.prog 116 #[.agg #[.int .i64 F.p, .int .i64 F.k, .slice ap F.poly.length cp, .slice ra m.length rc]] w fun e w' => ∃ v, e = .returned v ∧ Own w' w.heap.size v (wts F n m) ∧ Below w.heap.size w w' := by
 have hm1 := hC.m1
 have hn32 := hC.n32
 have ok := hC.good.ok
 obtain ⟨_, hQ⟩ := hC.cap_eq
 rw [← wordsTo_len F n m m.length] at hQ
 obtain ⟨W0, hHW⟩ : ∃ z, z = w.alloc (.cells #[.int .i64 F.p, .int .i64 F.k, .slice ap F.poly.length cp, .slice ra m.length rc] 37) := ⟨_, rfl⟩
 have b0 : Below w.heap.size w W0 := by rw [hHW]; exact (Below.refl _ _).alloc (Nat.le_refl _) _
 have k0 : Blk W0 w.heap.size 37 #[.int .i64 F.p, .int .i64 F.k, .slice ap F.poly.length cp, .slice ra m.length rc] := by rw [hHW]; exact Blk.new _ _ _ rfl
 have sk0 : w.heap.size < W0.heap.size := k0.lt
 have HW := Lib.hid hHW
 clear hHW
 have hL := lengthOf_any F.p F.k ap F.poly.length cp ra rc m W0 (hm.below b0) hm1
 rw [hC.hn] at hL
 have hWO := fun W (h : Below w.heap.size w W) => wordsOf_any F ap cp ra rc m n W (hR.below h) (hm.below h) hC
 have hel := fun k hk => wordsTo_el ok n m (k := k) hk
 have hwt : wts F n m = cntW (wordsTo F n m m.length) n (wordsTo F n m m.length).length := rfl
 obtain ⟨wds, hwds⟩ : ∃ wds, wds = wordsTo F n m m.length := ⟨_, rfl⟩
 rw [← hwds] at hWO hel hwt hQ
 have hmk := fun W => run_make_row' (P := Try.prog) 22 2 (.int .i64 0) 8 Try.underlying22 Try.info_i64 rfl .i64 .i64 (n + 1) (by omega) (by omega) W
 have hcast : ((n + 1 : Nat) : Int) = (n : Int) + 1 := by omega
 have HL := hide hL
 have HWO := hide hWO
 have HEL := hide hel
 have HWT := Lib.hid hwt
 clear hL hWO hel hwt hwds hm hR
 have f0 := k0.cell 0
 have f1 := k0.cell 1
 have f2 := k0.cell 2
 have f3 := k0.cell 3
 go_enter Try.func116, Try.ntmps116
 go_upto_region 1 with fail
 rw [← HW.out]
 go_wp2_with fail
 refine (unhide HL).mono ?_
 rintro e w1 ⟨rfl, b1⟩
 have k1 := k0.below b1 k0.lt
 have bw1 := b0.trans (b1.mono (Nat.le_of_lt sk0))
 clear f0 f1 f2 f3
 rw [hcast] at hmk
 go_upto_region 2 with fail
 obtain ⟨W2, hW2⟩ : ∃ z, z = w1.alloc (.cells (madeCells #[.int .i64 0] (n + 1)) 2) := ⟨_, rfl⟩
 have oz : Own W2 w1.heap.size (.slice (some ⟨w1.heap.size, 0, none⟩) (n + 1) (n + 1)) (zeros (n + 1)) := by rw [hW2]; exact Own.zeros w1 (Nat.le_refl _) (by omega)
 have bz : Below w1.heap.size w1 W2 := by rw [hW2]; exact (Below.refl _ _).alloc (Nat.le_refl _) _
 rw [← hW2]
 clear hW2
 have OZ := Lib.hid oz
 have g12 := bz.size
 have g13 : w1.heap.size < W2.heap.size := World.block_lt_of_cell? W2 _ (oz.cell (j := 0) (by rw [zeros_len]; omega))
 have c12 := bw1.trans (bz.mono bw1.size)
 have z1 := bw1.size
 have k2 := k1.below bz k1.lt
 have f0 := k2.cell 0
 have f1 := k2.cell 1
 have f2 := k2.cell 2
 have f3 := k2.cell 3
 clear oz hmk
 go_wp2_with fail
 refine (unhide HWO W2 c12).mono ?_
 rintro e w3 ⟨v3, rfl, o3, b3⟩
 obtain ⟨av, cv, rfl, _⟩ := o3.form
 have OZ3 := Lib.hid (OZ.out.below b3 (Nat.le_refl _))
 have OH := Lib.hid o3.toH
 have bw3 := c12.trans (b3.mono c12.size)
 have z3 := b3.size
 clear o3 OZ f0 f1 f2 f3
 go_wp2_with fail
 go_loopw [13] (fun iv wr => ∃ k : Nat, iv = .int .i64 k ∧ k ≤ wds.length ∧ Hid (Own wr w1.heap.size (.slice (some ⟨w1.heap.size, 0, none⟩) (n + 1) (n + 1)) (cntW wds n k)) ∧ Hid (w3.grownBy wr (some w1.heap.size))) (fun iv _ => wds.length - (intOf iv).toNat)
 case atStart => exact ⟨0, rfl, Nat.zero_le _, OZ3.out, grown_refl _ _⟩
 case round =>
  obtain ⟨k, rfl, hk, ho, hg⟩ := hrel
  by_cases hkl : k < wds.length
  · have rw0 := (OH.out.kp ((Kp.refl w3 _ _).grown hg.out (fun q hq => by injection hq; omega) (Nat.le_refl _))).rd
    obtain ⟨gw, ow, rfl, _, hcw⟩ := rw0.at_ (by omega)
    obtain ⟨aw, cw, h1, hr⟩ := hcw k hkl
    have hel := unhide HEL k hkl
    have hst : cntW wds n (k + 1) = (cntW wds n k).set (wt (nthL wds k)) (nth (cntW wds n k) (wt (nthL wds k)) + 1) := rfl
    obtain ⟨wd, hwd⟩ : ∃ wd, wd = nthL wds k := ⟨_, rfl⟩
    rw [← hwd] at h1 hr hel hst
    have hwo := weightOf_any aw cw wd wr hr
    obtain ⟨t, ht⟩ : ∃ t, t = wt wd := ⟨_, rfl⟩
    rw [← ht] at hwo hel hst
    have htn := hel.2.1
    have hcl := cntW_len wds n k
    have cc := ho.out.cell (j := t) (by omega)
    have cf := ho.out.frozen t
    have hbd := cntW_bd wds n k t
    obtain ⟨x, hx⟩ : ∃ x, x = nth (cntW wds n k) t := ⟨_, rfl⟩
    rw [← hx] at cc hbd hst
    have HWE := hide hwo
    have HST := Lib.hid hst
    have hk2 : k ≤ 4096 := by omega
    clear hwo hst hx ht hwd hel hcl hcw hr rw0
    go_wp2_with fail
    refine (unhide HWE).mono ?_
    rintro e w4 ⟨rfl, rfl⟩
    go_wp2
    go_roundw
    case rel =>
     have hs := ho.out.set t (x + 1)
     refine ⟨k + 1, by go_num, by omega, ?_, hide (grown_trans_row hg.out hs.2)⟩
     show Own _ _ _ _
     rw [HST.out]
     exact hs.1
    case measure => simp only [intOf]; omega
  · have hke : k = wds.length := by omega
    have HE := Lib.hid hke
    clear hke
    go_wp2
    go_ret
    refine ⟨_, rfl, ?_, ?_⟩
    · have o := ho.out
      rw [HE.out, ← HWT.out] at o
      exact o.mono (by omega)
    · exact bw3.grown hg.out bw3.size (fun q hq => by injection hq; omega)
end Go.Proofs.Ytgmgpcaahanmiaa
namespace Go.Proofs.Ytgmgpcaahanmiaa
open Go.RowKit
attribute [local go_sem ↓] Go.wp_at_zero Go.wp_at_succ
def ResLL (w : World) (r : List (List Int)) (e : Ending) (w' : World) : Prop := ∃ v, e = .returned v ∧ OwnS w' w.heap.size v r ∧ Below w.heap.size w w'
noncomputable def woRes (p d : Int) (xs : List Int) (m : List (List Int)) : List (List Int) := if okC p d xs m = true then wordsTo (fdR p d xs) (nthL m 0).length m m.length else []
theorem implWO_any (p d : Int) (a : Option Addr) (c : Nat) (xs : List Int) (ra : Option Addr) (rc : Nat) (m : List (List Int)) (w : World) (hx : Rd w a xs) (hm : RdS w ra m) (ed : I64 d) : Calls Try.prog 56 #[.agg #[.int .i64 p, .int .i64 d, .slice a xs.length c, .slice ra m.length rc]] w (ResLL w (woRes p d xs m)) := by
 have hml := hm.len
 generalize hR : woRes p d xs m = r
 obtain ⟨W0, hHW⟩ : ∃ z, z = w.alloc (.cells #[.int .i64 p, .int .i64 d, .slice a xs.length c, .slice ra m.length rc] 37) := ⟨_, rfl⟩
 have b0 : Below w.heap.size w W0 := by rw [hHW]; exact (Below.refl _ _).alloc (Nat.le_refl _) _
 have k0 : Blk W0 w.heap.size 37 #[.int .i64 p, .int .i64 d, .slice a xs.length c, .slice ra m.length rc] := by rw [hHW]; exact Blk.new _ _ _ rfl
 have sk0 : w.heap.size < W0.heap.size := k0.lt
 have HW := Lib.hid hHW
 clear hHW
 have hV := implVC_any p d a c xs ra rc m W0 (hx.below b0) (hm.below b0) ed
 cases hk : okC p d xs m with
 | false =>
  have HN := Lib.hid (show r = [] by rw [← hR, woRes, hk]; rfl)
  rw [hk] at hV
  have HV := hide hV
  clear hV hk hR
  have f0 := k0.cell 0
  have f1 := k0.cell 1
  have f2 := k0.cell 2
  have f3 := k0.cell 3
  go_enter Try.func56, Try.ntmps56
  go_upto_region 1 with fail
  rw [← HW.out]
  go_wp2_with fail
  refine (unhide HV).mono ?_
  rintro e w1 ⟨rfl, b1⟩
  have k1 := k0.below b1 k0.lt
  clear f0 f1 f2 f3
  have f0 := k1.cell 0
  have f1 := k1.cell 1
  have f2 := k1.cell 2
  have f3 := k1.cell 3
  have bb1 := b0.trans (b1.mono (Nat.le_of_lt sk0))
  go_wp2
  go_ret
  exact ⟨_, rfl, by rw [HN.out]; exact OwnS.nil _ _, bb1⟩
 | true =>
  obtain ⟨F, n, rfl, rfl, rfl, hC⟩ := okC_gc hk
  have ok := hC.good.ok
  obtain ⟨n2, n64⟩ := ok.n_bd
  have hm1 := hC.m1
  have hm0 : 0 < m.length := by omega
  have hm8 := hC.m8
  have hn1 := hC.n1
  have hn32 := hC.n32
  rw [hk] at hV
  have HV := hide hV
  have hRR : r = wordsTo F n m m.length := by rw [← hR, woRes, hk, fdR_eq, hC.hn]; rfl
  clear hV hk hR
  have hW := fun W (h : Below W0.heap.size W0 W) => wordsOf_any F a c ra rc m n W ((hx.below b0).below h) ((hm.below b0).below h) hC
  have HWW := hide hW
  have HRR := Lib.hid hRR
  clear hW hRR hC
  have f0 := k0.cell 0
  have f1 := k0.cell 1
  have f2 := k0.cell 2
  have f3 := k0.cell 3
  go_enter Try.func56, Try.ntmps56
  go_upto_region 1 with fail
  rw [← HW.out]
  go_wp2_with fail
  refine (unhide HV).mono ?_
  rintro e w1 ⟨rfl, b1⟩
  have k1 := k0.below b1 k0.lt
  clear f0 f1 f2 f3
  have f0 := k1.cell 0
  have f1 := k1.cell 1
  have f2 := k1.cell 2
  have f3 := k1.cell 3
  have bb1 := b0.trans (b1.mono (Nat.le_of_lt sk0))
  go_wp2_with fail
  refine (unhide HWW w1 b1).mono ?_
  rintro e w2 ⟨v, rfl, o2, b2⟩
  go_wp2
  go_ret
  exact ⟨_, rfl, by rw [HRR.out]; exact o2.mono bb1.size, bb1.trans (b2.mono bb1.size)⟩
end Go.Proofs.Ytgmgpcaahanmiaa
namespace Go.Proofs.Ytgmgpcaahanmiaa
open Go.RowKit
attribute [local go_sem ↓] Go.wp_at_zero Go.wp_at_succ
noncomputable def wtsRes (p d : Int) (xs : List Int) (m : List (List Int)) : List Int × Int := if okC p d xs m = true then (wts (fdR p d xs) (nthL m 0).length m, 0) else ([], 1)
def distC (F : FD) (n : Nat) (m : List (List Int)) : Nat := leastD (wts F n m)
noncomputable def distRes (p d : Int) (xs : List Int) (m : List (List Int)) : Int × Int := if okC p d xs m = true then ((distC (fdR p d xs) (nthL m 0).length m : Int), 0) else (0, 1)
def ResI (w : World) (r : Int × Int) (e : Ending) (w' : World) : Prop := e = .returned (.tuple #[.int .i64 r.1, .int .i64 r.2]) ∧ Below w.heap.size w w'
theorem wts_len (F : FD) (n : Nat) (m : List (List Int)) : (wts F n m).length = n + 1 := cntW_len _ _ _
theorem GC.some_wt {F : FD} {n : Nat} {m : List (List Int)} (h : GC F n m) : ∃ d : Nat, 1 ≤ d ∧ d ≤ n ∧ nth (wts F n m) d ≠ 0 := by
 obtain ⟨j, h1, h2, h3⟩ := h.some_word
 refine ⟨_, h2, h3, ?_⟩
 have := cntW_pos (words := wordsTo F n m m.length) (n := n) (k := (wordsTo F n m m.length).length) (j := j) (by rw [wordsTo_len]; exact h1) h3
 rw [wts]
 omega
theorem implWT_any (p d : Int) (a : Option Addr) (c : Nat) (xs : List Int) (ra : Option Addr) (rc : Nat) (m : List (List Int)) (w : World) (hx : Rd w a xs) (hm : RdS w ra m) (ed : I64 d) : Calls Try.prog 33 #[.agg #[.int .i64 p, .int .i64 d, .slice a xs.length c, .slice ra m.length rc]] w (ResL w (wtsRes p d xs m)) := by
 have hml := hm.len
 generalize hR : wtsRes p d xs m = r
 obtain ⟨W0, hHW⟩ : ∃ z, z = w.alloc (.cells #[.int .i64 p, .int .i64 d, .slice a xs.length c, .slice ra m.length rc] 37) := ⟨_, rfl⟩
 have b0 : Below w.heap.size w W0 := by rw [hHW]; exact (Below.refl _ _).alloc (Nat.le_refl _) _
 have k0 : Blk W0 w.heap.size 37 #[.int .i64 p, .int .i64 d, .slice a xs.length c, .slice ra m.length rc] := by rw [hHW]; exact Blk.new _ _ _ rfl
 have sk0 : w.heap.size < W0.heap.size := k0.lt
 have HW := Lib.hid hHW
 clear hHW
 have hV := implVC_any p d a c xs ra rc m W0 (hx.below b0) (hm.below b0) ed
 cases hk : okC p d xs m with
 | false =>
  have HN := Lib.hid (show r = ([], 1) by rw [← hR, wtsRes, hk]; rfl)
  rw [hk] at hV
  have HV := hide hV
  clear hV hk hR
  have f0 := k0.cell 0
  have f1 := k0.cell 1
  have f2 := k0.cell 2
  have f3 := k0.cell 3
  go_enter Try.func33, Try.ntmps33
  go_upto_region 1 with fail
  rw [← HW.out]
  go_wp2_with fail
  refine (unhide HV).mono ?_
  rintro e w1 ⟨rfl, b1⟩
  have k1 := k0.below b1 k0.lt
  clear f0 f1 f2 f3
  have f0 := k1.cell 0
  have f1 := k1.cell 1
  have f2 := k1.cell 2
  have f3 := k1.cell 3
  have bb1 := b0.trans (b1.mono (Nat.le_of_lt sk0))
  go_wp2
  go_ret2
  rw [HN.out]
  exact ⟨_, rfl, Own.nil _ _, bb1⟩
 | true =>
  obtain ⟨F, n, rfl, rfl, rfl, hC⟩ := okC_gc hk
  have ok := hC.good.ok
  obtain ⟨n2, n64⟩ := ok.n_bd
  have hm1 := hC.m1
  have hm0 : 0 < m.length := by omega
  have hm8 := hC.m8
  have hn1 := hC.n1
  have hn32 := hC.n32
  rw [hk] at hV
  have HV := hide hV
  have hRR : r = (wts F n m, 0) := by rw [← hR, wtsRes, hk, fdR_eq, hC.hn]; rfl
  clear hV hk hR
  have hW := fun W (h : Below W0.heap.size W0 W) => weightsOf_any F a c ra rc m n W ((hx.below b0).below h) ((hm.below b0).below h) hC
  have HWW := hide hW
  have HRR := Lib.hid hRR
  clear hW hRR hC
  have f0 := k0.cell 0
  have f1 := k0.cell 1
  have f2 := k0.cell 2
  have f3 := k0.cell 3
  go_enter Try.func33, Try.ntmps33
  go_upto_region 1 with fail
  rw [← HW.out]
  go_wp2_with fail
  refine (unhide HV).mono ?_
  rintro e w1 ⟨rfl, b1⟩
  have k1 := k0.below b1 k0.lt
  clear f0 f1 f2 f3
  have f0 := k1.cell 0
  have f1 := k1.cell 1
  have f2 := k1.cell 2
  have f3 := k1.cell 3
  have bb1 := b0.trans (b1.mono (Nat.le_of_lt sk0))
  go_wp2_with fail
  refine (unhide HWW w1 b1).mono ?_
  rintro e w2 ⟨v, rfl, o2, b2⟩
  go_wp2
  go_ret2
  rw [HRR.out]
  exact ⟨_, rfl, o2.mono bb1.size, bb1.trans (b2.mono bb1.size)⟩
theorem implDI_any (p d : Int) (a : Option Addr) (c : Nat) (xs : List Int) (ra : Option Addr) (rc : Nat) (m : List (List Int)) (w : World) (hx : Rd w a xs) (hm : RdS w ra m) (ed : I64 d) : Calls Try.prog 34 #[.agg #[.int .i64 p, .int .i64 d, .slice a xs.length c, .slice ra m.length rc]] w (ResI w (distRes p d xs m)) := by
 have hml := hm.len
 generalize hR : distRes p d xs m = r
 obtain ⟨W0, hHW⟩ : ∃ z, z = w.alloc (.cells #[.int .i64 p, .int .i64 d, .slice a xs.length c, .slice ra m.length rc] 37) := ⟨_, rfl⟩
 have b0 : Below w.heap.size w W0 := by rw [hHW]; exact (Below.refl _ _).alloc (Nat.le_refl _) _
 have k0 : Blk W0 w.heap.size 37 #[.int .i64 p, .int .i64 d, .slice a xs.length c, .slice ra m.length rc] := by rw [hHW]; exact Blk.new _ _ _ rfl
 have sk0 : w.heap.size < W0.heap.size := k0.lt
 have HW := Lib.hid hHW
 clear hHW
 have hV := implVC_any p d a c xs ra rc m W0 (hx.below b0) (hm.below b0) ed
 cases hk : okC p d xs m with
 | false =>
  have HN := Lib.hid (show r = (0, 1) by rw [← hR, distRes, hk]; rfl)
  rw [hk] at hV
  have HV := hide hV
  clear hV hk hR
  have f0 := k0.cell 0
  have f1 := k0.cell 1
  have f2 := k0.cell 2
  have f3 := k0.cell 3
  go_enter Try.func34, Try.ntmps34
  go_upto_region 1 with fail
  rw [← HW.out]
  go_wp2_with fail
  refine (unhide HV).mono ?_
  rintro e w1 ⟨rfl, b1⟩
  have k1 := k0.below b1 k0.lt
  clear f0 f1 f2 f3
  have f0 := k1.cell 0
  have f1 := k1.cell 1
  have f2 := k1.cell 2
  have f3 := k1.cell 3
  have bb1 := b0.trans (b1.mono (Nat.le_of_lt sk0))
  go_wp2
  go_ret2
  rw [HN.out]
  exact ⟨rfl, bb1⟩
 | true =>
  obtain ⟨F, n, rfl, rfl, rfl, hC⟩ := okC_gc hk
  have ok := hC.good.ok
  obtain ⟨n2, n64⟩ := ok.n_bd
  have hm1 := hC.m1
  have hm0 : 0 < m.length := by omega
  have hm8 := hC.m8
  have hn1 := hC.n1
  have hn32 := hC.n32
  rw [hk] at hV
  have HV := hide hV
  have hRR : r = ((distC F n m : Int), 0) := by rw [← hR, distRes, hk, fdR_eq, hC.hn]; rfl
  clear hV hk hR
  have hW := fun W (h : Below W0.heap.size W0 W) => weightsOf_any F a c ra rc m n W ((hx.below b0).below h) ((hm.below b0).below h) hC
  obtain ⟨d0, hd1, hd2, hd3⟩ := hC.some_wt
  have hwl := wts_len F n m
  have hdc : distC F n m = leastD (wts F n m) := rfl
  obtain ⟨cs, hcs⟩ : ∃ cs, cs = wts F n m := ⟨_, rfl⟩
  rw [← hcs] at hW hd3 hwl hdc
  rw [hdc] at hRR
  have HWW := hide hW
  have HRR := Lib.hid hRR
  have HD3 := hide hd3
  have HWL := Lib.hid hwl
  clear hW hRR hC hcs hd3 hwl hdc
  have f0 := k0.cell 0
  have f1 := k0.cell 1
  have f2 := k0.cell 2
  have f3 := k0.cell 3
  go_enter Try.func34, Try.ntmps34
  go_upto_region 1 with fail
  rw [← HW.out]
  go_wp2_with fail
  refine (unhide HV).mono ?_
  rintro e w1 ⟨rfl, b1⟩
  have k1 := k0.below b1 k0.lt
  clear f0 f1 f2 f3
  have f0 := k1.cell 0
  have f1 := k1.cell 1
  have f2 := k1.cell 2
  have f3 := k1.cell 3
  have bb1 := b0.trans (b1.mono (Nat.le_of_lt sk0))
  go_wp2_with fail
  refine (unhide HWW w1 b1).mono ?_
  rintro e w2 ⟨v, rfl, o2, b2⟩
  obtain ⟨av, cv, rfl, r2, _⟩ := o2.form
  have bb2 := bb1.trans (b2.mono bb1.size)
  have R2 := hide r2
  have hcl : cs.length ≤ 33 := by rw [HWL.out]; omega
  clear o2 r2
  go_wp2_with fail
  go_loopw [5] (fun dv wr => ∃ d1 : Nat, dv = .int .i64 d1 ∧ 1 ≤ d1 ∧ d1 ≤ d0 ∧ Hid (∀ j, 1 ≤ j → j < d1 → nth cs j = 0) ∧ w2 = wr) (fun dv _ => d0 - (intOf dv).toNat)
  case atStart => exact ⟨1, rfl, Nat.le_refl _, hd1, fun j h1 h2 => by omega, rfl⟩
  case round =>
   obtain ⟨d1, rfl, h1, h2, hz, rfl⟩ := hrel
   have hlt : d1 < cs.length := by rw [HWL.out]; omega
   obtain ⟨g1, o1, rfl, _, hc⟩ := (unhide R2).at_ (by omega)
   have hc1 := hc d1 hlt
   obtain ⟨u, hu⟩ : ∃ u, u = nth cs d1 := ⟨_, rfl⟩
   rw [← hu] at hc1
   have HU := Lib.hid hu
   clear hc hu
   by_cases hn : u = 0
   · have hbn : (u == 0) = true := by rw [hn]; rfl
     have HN := Lib.hid hn
     clear hn
     have hne : d1 ≠ d0 := fun e => unhide HD3 (by rw [← e, ← HU.out, HN.out])
     go_wp2
     go_roundw
     case rel =>
      refine ⟨d1 + 1, by go_num, by omega, by omega, fun j a1 a2 => ?_, trivial⟩
      by_cases e : j = d1
      · rw [e, ← HU.out, HN.out]
      · exact hz.out j a1 (by omega)
     case measure => simp only [intOf]; omega
   · have hbn : (u == 0) = false := by rw [beq_eq_false_iff_ne]; exact hn
     have HN := hide hn
     clear hn
     have hld : leastD cs = d1 := leastD_hit h1 hlt (by rw [← HU.out]; exact unhide HN) hz.out
     have HLD := Lib.hid hld
     clear hld
     go_wp2
     go_ret2
     rw [HRR.out]
     show ResI w ((leastD cs : Int), 0) _ _
     rw [HLD.out]
     exact ⟨rfl, bb2⟩
end Go.Proofs.Ytgmgpcaahanmiaa
namespace Go.Proofs.Ytgmgpcaahanmiaa
open Go.RowKit
attribute [local go_sem ↓] Go.wp_at_zero Go.wp_at_succ
theorem leastD_ok {cs : List Int} {d0 : Nat} (h1 : 1 ≤ d0) (h2 : d0 < cs.length) (h3 : nth cs d0 ≠ 0) : 1 ≤ leastD cs ∧ leastD cs ≤ d0 ∧ nth cs (leastD cs) ≠ 0 ∧ ∀ j, 1 ≤ j → j < leastD cs → nth cs j = 0 := by
 cases h : (List.range cs.length).find? (fun d => decide (1 ≤ d) && (nth cs d != 0)) with
 | none =>
  rw [List.find?_eq_none] at h
  have := h d0 (List.mem_range.2 h2)
  simp [h1, h3] at this
 | some d =>
  have e : leastD cs = d := by rw [leastD, h]; rfl
  rw [List.find?_range_eq_some] at h
  obtain ⟨a, b, c⟩ := h
  simp only [Bool.and_eq_true, decide_eq_true_eq, bne_iff_ne] at a
  have hz : ∀ j, 1 ≤ j → j < d → nth cs j = 0 := fun j j1 j2 => by
   have := c j j2
   simp only [Bool.not_eq_true', Bool.and_eq_false_iff, decide_eq_false_iff_not, bne_eq_false_iff_eq] at this
   rcases this with h | h
   · exact absurd j1 h
   · exact h
  rw [e]
  refine ⟨a.1, ?_, a.2, hz⟩
  rcases Nat.lt_or_ge d0 d with hh | hh
  · exact absurd (hz d0 h1 hh) h3
  · exact hh
theorem GC.dist {F : FD} {n : Nat} {m : List (List Int)} (h : GC F n m) : 1 ≤ distC F n m ∧ distC F n m ≤ n := by
 obtain ⟨d0, h1, h2, h3⟩ := h.some_wt
 have := leastD_ok h1 (by rw [wts_len]; omega) h3
 exact ⟨this.1, by have := this.2.1; rw [distC]; omega⟩
end Go.Proofs.Ytgmgpcaahanmiaa
namespace Go.Proofs.Ytgmgpcaahanmiaa
open Go.RowKit
attribute [local go_sem ↓] Go.wp_at_zero Go.wp_at_succ
def dwTo (q : Int) (n : Nat) (ws : List Int) (j : Nat) : Nat → Int
 | 0 => 0
 | i + 1 => dwTo q n ws j i + nth ws i * kR q n i j
def dwL (q K : Int) (n : Nat) (ws : List Int) (k : Nat) : List Int := (List.range k).map fun j => (dwTo q n ws j (n + 1)).tdiv K
theorem dwL_len (q K : Int) (n : Nat) (ws : List Int) (k : Nat) : (dwL q K n ws k).length = k := by simp [dwL]
theorem dwL_succ (q K : Int) (n : Nat) (ws : List Int) (k : Nat) : dwL q K n ws (k + 1) = dwL q K n ws k ++ [(dwTo q n ws k (n + 1)).tdiv K] := by simp [dwL, List.range_succ]
def dwV (F : FD) (n : Nat) (m : List (List Int)) : List Int × Int := if capTo F.n LIM (n + m.length) ≤ LIM then (dwL F.n ((F.n ^ m.length : Nat) : Int) n (wts F n m) (n + 1), 0) else ([], 2)
def dwRes (p d : Int) (xs : List Int) (m : List (List Int)) : List Int × Int := if okC p d xs m = true then dwV (fdR p d xs) (nthL m 0).length m else ([], 1)
theorem mul_bd2 {x y : Int} (h0 : 0 ≤ x) (h1 : x ≤ 4096) (h2 : -33000000000000 ≤ y) (h3 : y ≤ 33000000000000) : -135168000000000000 ≤ x * y ∧ x * y ≤ 135168000000000000 := by
 have a := Int.mul_le_mul_of_nonneg_left h3 h0
 have b := Int.mul_le_mul_of_nonneg_left h2 h0
 constructor <;> omega
theorem dwTo_bd {q : Int} (hq : 2 ≤ q) {n j : Nat} (hn : n ≤ 32) (hj : j ≤ n) (hL : q ^ n ≤ LIM) {ws : List Int} (hw : ∀ i, 0 ≤ nth ws i ∧ nth ws i ≤ 4096) {i : Nat} (hi : i ≤ n + 1) : -((i : Int) * 135168000000000000) ≤ dwTo q n ws j i ∧ dwTo q n ws j i ≤ (i : Int) * 135168000000000000 := by
 induction i with
 | zero => simp [dwTo]
 | succ i ih =>
  have ih := ih (by omega)
  have k := kR_bd hq (i := i) (j := j) hn (by omega) hj hL
  have p := mul_bd2 (hw i).1 (hw i).2 k.1 k.2
  rw [dwTo]
  omega
theorem wts_bd {F : FD} {n : Nat} {m : List (List Int)} (h : GC F n m) (i : Nat) : 0 ≤ nth (wts F n m) i ∧ nth (wts F n m) i ≤ 4096 := by
 have := cntW_bd (wordsTo F n m m.length) n (wordsTo F n m m.length).length i
 have l := wordsTo_len F n m m.length
 have q := h.cap_eq.2
 rw [wts]
 omega
theorem cap_sub {q : Int} {a b : Nat} (h1 : 1 ≤ q) (h : capTo q LIM (a + b) ≤ LIM) : q ^ a ≤ LIM := by
 have h2 := capTo_anti (show a ≤ a + b by omega) h
 rwa [capTo_eq h1 h2] at h2
theorem implDW_any (p d : Int) (a : Option Addr) (c : Nat) (xs : List Int) (ra : Option Addr) (rc : Nat) (m : List (List Int)) (w : World) (hx : Rd w a xs) (hm : RdS w ra m) (ed : I64 d) : Calls Try.prog 57 #[.agg #[.int .i64 p, .int .i64 d, .slice a xs.length c, .slice ra m.length rc]] w (ResL w (dwRes p d xs m)) := by
 have hml := hm.len
 generalize hR : dwRes p d xs m = r
 obtain ⟨W0, hHW⟩ : ∃ z, z = w.alloc (.cells #[.int .i64 p, .int .i64 d, .slice a xs.length c, .slice ra m.length rc] 37) := ⟨_, rfl⟩
 have b0 : Below w.heap.size w W0 := by rw [hHW]; exact (Below.refl _ _).alloc (Nat.le_refl _) _
 have k0 : Blk W0 w.heap.size 37 #[.int .i64 p, .int .i64 d, .slice a xs.length c, .slice ra m.length rc] := by rw [hHW]; exact Blk.new _ _ _ rfl
 have sk0 : w.heap.size < W0.heap.size := k0.lt
 have HW := Lib.hid hHW
 clear hHW
 have hV := implVC_any p d a c xs ra rc m W0 (hx.below b0) (hm.below b0) ed
 cases hk : okC p d xs m with
 | false =>
  have HN := Lib.hid (show r = ([], 1) by rw [← hR, dwRes, hk]; rfl)
  rw [hk] at hV
  have HV := hide hV
  clear hV hk hR
  have f0 := k0.cell 0
  have f1 := k0.cell 1
  have f2 := k0.cell 2
  have f3 := k0.cell 3
  go_enter Try.func57, Try.ntmps57
  go_upto_region 1 with fail
  rw [← HW.out]
  go_wp2_with fail
  refine (unhide HV).mono ?_
  rintro e w1 ⟨rfl, b1⟩
  have k1 := k0.below b1 k0.lt
  clear f0 f1 f2 f3
  have f0 := k1.cell 0
  have f1 := k1.cell 1
  have f2 := k1.cell 2
  have f3 := k1.cell 3
  have bb1 := b0.trans (b1.mono (Nat.le_of_lt sk0))
  go_wp2
  go_ret2
  rw [HN.out]
  exact ⟨_, rfl, Own.nil _ _, bb1⟩
 | true =>
  obtain ⟨F, n, rfl, rfl, rfl, hC⟩ := okC_gc hk
  have ok := hC.good.ok
  obtain ⟨n2, n64⟩ := ok.n_bd
  have hm1 := hC.m1
  have hm0 : 0 < m.length := by omega
  have hm8 := hC.m8
  have hn1 := hC.n1
  have hn32 := hC.n32
  rw [hk] at hV
  have HV := hide hV
  have hRR : r = dwV F n m := by rw [← hR, dwRes, hk, fdR_eq, hC.hn]; rfl
  clear hV hk hR
  obtain ⟨hcap, hQ⟩ := hC.cap_eq
  have hq2 : (2 : Int) ≤ F.n := by omega
  have hq64 : (F.n : Int) ≤ 64 := by omega
  have hL := fun W (h : Below W0.heap.size W0 W) => lengthOf_any F.p F.k a F.poly.length c ra rc m W ((hm.below b0).below h) hm1
  rw [hC.hn] at hL
  have hFS := fun W => fieldSize_any F a c W ok
  have hPW := fun W => powerUpTo_any F.n ((n : Int) + m.length) 1000000000000 W (by omega) (by omega) (by omega) (by omega) (by omega)
  rw [show ((n : Int) + m.length).toNat = n + m.length by omega] at hPW
  change ∀ W, Calls Try.prog _ _ W (fun e w' => e = .returned (.int .i64 (capTo F.n LIM (n + m.length))) ∧ W = w') at hPW
  have hPK := fun W => powerUpTo_any F.n m.length 4096 W (by omega) (by omega) (by omega) (by omega) (by omega)
  rw [Int.toNat_natCast, hcap] at hPK
  have hWT := fun W (h : Below W0.heap.size W0 W) => weightsOf_any F a c ra rc m n W ((hx.below b0).below h) ((hm.below b0).below h) hC
  have hwb := wts_bd hC
  have hwl := wts_len F n m
  rw [dwV] at hRR
  obtain ⟨ws, hws⟩ : ∃ ws, ws = wts F n m := ⟨_, rfl⟩
  rw [← hws] at hWT hwb hwl hRR
  have hK1 : 1 ≤ F.n ^ m.length := Nat.pow_pos (by omega)
  obtain ⟨K, hK⟩ : ∃ K, K = F.n ^ m.length := ⟨_, rfl⟩
  rw [← hK] at hQ hPK hRR hK1
  have HL := hide hL
  have HFS := hide hFS
  have HPK := hide hPK
  have HWT := hide hWT
  have HWB := hide hwb
  have HWL := Lib.hid hwl
  have BX := hide (show ∀ W, Below W0.heap.size W0 W → (Below W0.heap.size W0 W ∧ W.cell? ⟨w.heap.size, 0, none⟩ = some (.int .i64 F.p) ∧ W.cell? ⟨w.heap.size, 1, none⟩ = some (.int .i64 F.k) ∧ W.cell? ⟨w.heap.size, 2, none⟩ = some (.slice a F.poly.length c) ∧ W.cell? ⟨w.heap.size, 3, none⟩ = some (.slice ra m.length rc)) from fun W h => ⟨h, (k0.below h k0.lt).cell 0, (k0.below h k0.lt).cell 1, (k0.below h k0.lt).cell 2, (k0.below h k0.lt).cell 3⟩)
  have KB := hide (show ∀ W, Below W0.heap.size W0 W → Blk W w.heap.size 37 #[.int .i64 F.p, .int .i64 F.k, .slice a F.poly.length c, .slice ra m.length rc] from fun W h => k0.below h k0.lt)
  clear hC hL hK hcap hFS hPK hWT hwb hwl hws
  by_cases hl : capTo F.n LIM (n + m.length) ≤ LIM
  ·
   rw [if_pos hl] at hRR
   have hlb : decide ((1000000000000 : Int) < capTo F.n LIM (n + m.length)) = false := by rw [decide_eq_false_iff_not]; have : capTo F.n LIM (n + m.length) ≤ 1000000000000 := hl; omega
   have hLn := cap_sub (by omega) hl
   have HLN := hide hLn
   have HRR := Lib.hid hRR
   clear hRR hl hLn
   generalize capTo F.n LIM (n + m.length) = P at hlb hPW
   have HPW := hide hPW
   clear hPW
   have f0 := k0.cell 0
   have f1 := k0.cell 1
   have f2 := k0.cell 2
   have f3 := k0.cell 3
   go_enter Try.func57, Try.ntmps57
   go_upto_region 1 with fail
   rw [← HW.out]
   go_wp2_with fail
   refine (unhide HV).mono ?_
   rintro e w1 ⟨rfl, b1⟩
   have k1 := k0.below b1 k0.lt
   clear f0 f1 f2 f3
   have f0 := k1.cell 0
   have f1 := k1.cell 1
   have f2 := k1.cell 2
   have f3 := k1.cell 3
   have bb1 := b0.trans (b1.mono (Nat.le_of_lt sk0))
   go_upto_region 3 with fail
   go_region_held3 (fun W => Below W0.heap.size W0 W ∧ W.cell? ⟨w.heap.size, 0, none⟩ = some (.int .i64 F.p) ∧ W.cell? ⟨w.heap.size, 1, none⟩ = some (.int .i64 F.k) ∧ W.cell? ⟨w.heap.size, 2, none⟩ = some (.slice a F.poly.length c) ∧ W.cell? ⟨w.heap.size, 3, none⟩ = some (.slice ra m.length rc))
    (first | exact (unhide BX) _ b1.drew | exact (unhide BX) _ (by assumption))
    (first
     | (go_at_call 108; refine (unhide HL _ ?_).mono ?_; exact And.left (by assumption); rintro e w2 ⟨rfl, b2⟩; have hB2 := Below.chain (a := W0) (And.left (by assumption)) b2)
     | (go_at_call 117; refine (unhide HFS _).mono ?_; rintro e w3 ⟨rfl, b3⟩; have hB2 := Below.chain (a := W0) (And.left (by assumption)) b3)
     | (go_at_call 109; refine (sizeS_any _ _ _ _).mono ?_; rintro e w4 ⟨rfl, rfl⟩))
   have hBB := hB2
   have k2 := unhide KB _ hB2
   clear f0 f1 f2 f3
   have f0 := k2.cell 0
   have f1 := k2.cell 1
   have f2 := k2.cell 2
   have f3 := k2.cell 3
   have bb2 := b0.trans (hBB.mono (Nat.le_of_lt sk0))
   go_wp2_with fail
   refine (unhide HPW _).mono ?_
   rintro e w5 ⟨rfl, rfl⟩
   go_wp2_with fail
   refine (unhide HWT _ hBB).mono ?_
   rintro e w5 ⟨u, rfl, o5, b5⟩
   obtain ⟨xa, xc, rfl, r5, _⟩ := o5.form
   have c5 := Below.chain hBB b5
   have bb5 := b0.trans (c5.mono (Nat.le_of_lt sk0))
   have R5 := hide r5
   have hwl33 : ws.length ≤ 33 := by rw [HWL.out]; omega
   clear o5 r5 f0 f1 f2 f3
   go_wp2_with fail
   go_loopw [8, 34] (fun v jv wr => ∃ j : Nat, jv = .int .i64 j ∧ j ≤ n + 1 ∧ Hid (Own wr w5.heap.size v (dwL F.n K n ws j)) ∧ Below w5.heap.size w5 wr) (fun _ jv _ => n + 1 - (intOf jv).toNat)
   case atStart => exact ⟨0, rfl, Nat.zero_le _, Own.nil _ _, Below.refl _ _⟩
   case round =>
    obtain ⟨j, rfl, hj, ho, hb⟩ := hrel
    rename World => wo
    have hsz := hb.size
    by_cases hjn : j < n + 1
    · have hjb : decide ((j : Int) < (n : Int) + 1) = true := by rw [decide_eq_true_eq]; omega
      go_wp2_with fail
      go_loopw [10, 39] (fun sv iv wr => ∃ (i : Nat) (o : Int), iv = .int .i64 i ∧ sv = .int .i64 o ∧ i ≤ ws.length ∧ Hid (o = dwTo F.n n ws j i) ∧ wo = wr) (fun _ iv _ => ws.length - (intOf iv).toNat)
      case atStart => exact ⟨0, 0, rfl, rfl, Nat.zero_le _, rfl, rfl⟩
      case round =>
       obtain ⟨i, o, rfl, rfl, hi, hs, rfl⟩ := hrel
       have hob := dwTo_bd (j := j) hq2 hn32 (by omega) (unhide HLN) (unhide HWB) (i := i) (by have := HWL.out; omega)
       rw [← hs.out] at hob
       by_cases hil : i < ws.length
       · obtain ⟨gx, ox, rfl, _, hcx⟩ := ((unhide R5).below hb).at_ (by omega)
         have cx := hcx i hil
         have hx := unhide HWB i
         have hin : i ≤ n := by have := HWL.out; omega
         have hk := kR_bd hq2 (i := i) (j := j) hn32 hin (by omega) (unhide HLN)
         have hkr := fun W => krawtchouk_any F.n n i j W hq2 hq64 hn32 hin (by omega) (unhide HLN)
         have hst : dwTo F.n n ws j (i + 1) = o + nth ws i * kR F.n n i j := by rw [dwTo, hs.out]
         generalize nth ws i = x at cx hx hst
         generalize kR F.n n i j = y at hk hkr hst
         obtain ⟨h1, h2⟩ := mul_bd2 hx.1 hx.2 hk.1 hk.2
         obtain ⟨h3, h4⟩ := hob
         have HKR := hide hkr
         have HST := Lib.hid hst
         clear hkr hst hs hcx
         go_wp2_with fail
         refine (unhide HKR _).mono ?_
         rintro e w6 ⟨rfl, rfl⟩
         go_wp2
         go_roundw
         case rel => exact ⟨i + 1, o + x * y, by go_num, rfl, by omega, HST.out.symm, trivial⟩
         case measure => simp only [intOf]; omega
       · have hke : i = ws.length := by omega
         have hst := dwL_succ F.n K n ws j
         have hsl := dwL_len F.n K n ws j
         rw [show n + 1 = i by have := HWL.out; omega, ← hs.out] at hst
         have HST := Lib.hid hst
         have HSL := Lib.hid hsl
         obtain ⟨h3, h4⟩ := hob
         have z6 := hb.size
         clear hke hst hsl hs
         go_wp2_with fail
         refine (unhide HPK _).mono ?_
         rintro e w6 ⟨rfl, rfl⟩
         go_wp2_with (at_builtin; refine wpList_append_ints rfl (.tmp 54) (.tmp 60) rfl w5.heap.size u8 (dwL F.n K n ws j) [o.tdiv (K : Int)] rfl (ho.out.alloc _) _ 1 1 rfl rfl (Rd.one wo (o.tdiv (K : Int)) _) (by rw [HSL.out]; simp; omega) (by simp; omega) ?_; intro v7 w7 o7 g7 _)
         go_roundw
         case rel => exact ⟨j + 1, by go_num, by omega, by show Own _ _ _ _; rw [HST.out]; exact o7, Below.step (hb.alloc z6 _) g7 (ho.out.alloc _) (Nat.le_refl _) (by simp; omega)⟩
         case measure => simp only [intOf]; omega
    · have hje : j = n + 1 := by omega
      have HE := Lib.hid hje
      clear hje
      go_wp2
      go_ret2
      rw [HRR.out]
      exact ⟨_, rfl, by have h := ho.out; rw [HE.out] at h; exact h.mono bb5.size, bb5.trans (hb.mono bb5.size)⟩
  ·
   rw [if_neg hl] at hRR
   have hlb : decide ((1000000000000 : Int) < capTo F.n LIM (n + m.length)) = true := by rw [decide_eq_true_eq]; have : ¬ capTo F.n LIM (n + m.length) ≤ 1000000000000 := hl; omega
   have HRR := Lib.hid hRR
   clear hRR hl
   generalize capTo F.n LIM (n + m.length) = P at hlb hPW
   have HPW := hide hPW
   clear hPW
   have f0 := k0.cell 0
   have f1 := k0.cell 1
   have f2 := k0.cell 2
   have f3 := k0.cell 3
   go_enter Try.func57, Try.ntmps57
   go_upto_region 1 with fail
   rw [← HW.out]
   go_wp2_with fail
   refine (unhide HV).mono ?_
   rintro e w1 ⟨rfl, b1⟩
   have k1 := k0.below b1 k0.lt
   clear f0 f1 f2 f3
   have f0 := k1.cell 0
   have f1 := k1.cell 1
   have f2 := k1.cell 2
   have f3 := k1.cell 3
   have bb1 := b0.trans (b1.mono (Nat.le_of_lt sk0))
   go_upto_region 3 with fail
   go_region_held3 (fun W => Below W0.heap.size W0 W ∧ W.cell? ⟨w.heap.size, 0, none⟩ = some (.int .i64 F.p) ∧ W.cell? ⟨w.heap.size, 1, none⟩ = some (.int .i64 F.k) ∧ W.cell? ⟨w.heap.size, 2, none⟩ = some (.slice a F.poly.length c) ∧ W.cell? ⟨w.heap.size, 3, none⟩ = some (.slice ra m.length rc))
    (first | exact (unhide BX) _ b1.drew | exact (unhide BX) _ (by assumption))
    (first
     | (go_at_call 108; refine (unhide HL _ ?_).mono ?_; exact And.left (by assumption); rintro e w2 ⟨rfl, b2⟩; have hB2 := Below.chain (a := W0) (And.left (by assumption)) b2)
     | (go_at_call 117; refine (unhide HFS _).mono ?_; rintro e w3 ⟨rfl, b3⟩; have hB2 := Below.chain (a := W0) (And.left (by assumption)) b3)
     | (go_at_call 109; refine (sizeS_any _ _ _ _).mono ?_; rintro e w4 ⟨rfl, rfl⟩))
   have hBB := hB2
   have k2 := unhide KB _ hB2
   clear f0 f1 f2 f3
   have f0 := k2.cell 0
   have f1 := k2.cell 1
   have f2 := k2.cell 2
   have f3 := k2.cell 3
   have bb2 := b0.trans (hBB.mono (Nat.le_of_lt sk0))
   go_wp2_with fail
   refine (unhide HPW _).mono ?_
   rintro e w5 ⟨rfl, rfl⟩
   go_wp2
   go_ret2
   rw [HRR.out]
   exact ⟨_, rfl, Own.nil _ _, bb2⟩
end Go.Proofs.Ytgmgpcaahanmiaa
namespace Go.Proofs.Ytgmgpcaahanmiaa
open Go.RowKit
section
variable {F : FD} {n : Nat} {m : List (List Int)}
def wf (v : Nat → Int) (k : Nat) : Nat := (List.range k).countP fun i => v i != 0
theorem wtTo_wf (xs : List Int) (k : Nat) : wtTo xs k = wf (nth xs) k := by
 induction k with
 | zero => rfl
 | succ k ih =>
  rw [wtTo, ih, wf, wf, List.range_succ, List.countP_append]
  by_cases e : nth xs k = 0
  · rw [if_pos e]; simp [e]
  · rw [if_neg e]; simp [e]
theorem wt_wf {xs : List Int} {k : Nat} (h : xs.length = k) : wt xs = wf (nth xs) k := by rw [wt, wtTo_wf, h]
theorem wf_one {v : Nat → Int} {k i : Nat} (hi : i < k) (h : v i ≠ 0) : 1 ≤ wf v k := List.countP_pos_iff.2 ⟨i, List.mem_range.2 hi, by simpa using h⟩
theorem GC.ech (h : GC F n m) : ∃ pv, Ech F n m pv := by
 obtain ⟨pv, _, hE, _⟩ := form_ech h.good h.mat
 rw [h.fix] at hE
 exact ⟨pv, hE⟩
theorem encTo_sp (ok : F.Ok) {A : List (List Int)} (hM : F.Mat n A) {msg : List Int} (hm : ∀ c ∈ msg, 0 ≤ c ∧ c < F.n) {k : Nat} (hk : k ≤ A.length) : Sp F A (nth (encTo F n A msg k)) := by
 induction k with
 | zero =>
  rw [encTo, show nth (zeros n) = fun _ => 0 from by funext i; exact zeros_nth n i]
  exact .zero
 | succ k ih =>
  have hc : F.el (nth msg k) := by
   rcases Nat.lt_or_ge k msg.length with hh | hh
   · exact (el_n ok).2 (hm _ (nth_mem hh))
   · rw [nth_big hh]; exact zero_el ok
  have h := (ih (by omega)).step (j := k) (by omega) hc
  have e : (fun i => F.add (nth (encTo F n A msg k) i) (F.mul (nth msg k) (nth (nthL A k) i))) = nth (encTo F n A msg (k + 1)) := by
   funext i
   rcases Nat.lt_or_ge i n with hi | hi
   · rw [encTo, addTo_nth F _ _ _ _ (by rw [encTo_len]; exact Nat.le_refl _), if_pos hi]
   · rw [nth_big (xs := encTo F n A msg (k + 1)) (by rw [encTo_len]; exact hi), nth_big (xs := encTo F n A msg k) (by rw [encTo_len]; exact hi), nth_big (xs := nthL A k) (by rw [(Mat_nth hM (i := k) (by omega)).1]; exact hi), mul_zero_all ok, add_zero' ok (zero_el ok)]
  rw [e] at h
  exact h
theorem Ech.enc (ok : F.Ok) {pv : List Nat} (hE : Ech F n m pv) {v : List Int} (hl : v.length = n) (hs : Sp F m (nth v)) : v = encTo F n m (pv.map (nth v)) m.length := by
 refine eq_of_nth (by rw [encTo_len, hl]) fun i hi => ?_
 rw [hl] at hi
 rw [encTo_sum ok n m _ _ hi, hE.coord ok hs i]
 refine sum_congr fun j hj => ?_
 have hj' : j < pv.length := by rw [hE.len]; exact hj
 rw [nth_lt (xs := pv.map (nth v)) (by rw [List.length_map]; exact hj'), List.getElem_map, List.getD_eq_getElem?_getD, List.getElem?_eq_getElem hj']
 rfl
theorem hig_all (ok : F.Ok) {k : Nat} {msg : List Int} (hl : msg.length = k) (he : ∀ c ∈ msg, 0 ≤ c ∧ c < F.n) : ∃ t, t < F.n ^ k ∧ hig t F.n k = msg := by
 have hn : (0 : Int) < F.n := by have := ok.n_bd; omega
 have hr : ∀ c ∈ msg.reverse, 0 ≤ c ∧ c < F.n := fun c hc => he c (List.mem_reverse.1 hc)
 have h := num_bound hn hr
 rw [List.length_reverse, hl] at h
 obtain ⟨t, ht⟩ := Int.eq_ofNat_of_zero_le h.1
 refine ⟨t, ?_, ?_⟩
 · have h2 := h.2
   rw [ht, ← Int.natCast_pow] at h2
   exact Int.ofNat_lt.1 h2
 · rw [hig, ← ht, dig_num hn hr (by rw [List.length_reverse, hl]), List.reverse_reverse]
theorem hig_inj {q k s t : Nat} (hq : 0 < q) (hs : s < q ^ k) (ht : t < q ^ k) (h : hig s q k = hig t q k) : s = t := by
 have e : dig (s : Int) q k = dig (t : Int) q k := by
  have := congrArg List.reverse h
  rwa [hig, hig, List.reverse_reverse, List.reverse_reverse] at this
 have hb : ∀ s : Nat, s < q ^ k → (s : Int) < (q : Int) ^ k := fun s hs => by rw [← Int.natCast_pow]; exact Int.ofNat_lt.2 hs
 have e2 := congrArg (num (q : Int)) e
 rw [num_dig (p := (q : Int)) (by omega) k (by omega) (hb s hs), num_dig (p := (q : Int)) (by omega) k (by omega) (hb t ht)] at e2
 exact Int.ofNat_inj.1 e2
theorem GC.word_sp (h : GC F n m) {j : Nat} (hj : j < F.n ^ m.length) : (nthL (wordsTo F n m m.length) j).length = n ∧ (∀ x ∈ nthL (wordsTo F n m m.length) j, 0 ≤ x ∧ x < F.n) ∧ Sp F m (nth (nthL (wordsTo F n m m.length) j)) := by
 have ok := h.good.ok
 obtain ⟨n2, _⟩ := ok.n_bd
 rw [wordsTo_nth F n m hj]
 exact ⟨encTo_len _ _ _ _ _, encTo_el ok _ _ _ _, encTo_sp ok h.mat (hig_el j (by omega) _) (Nat.le_refl _)⟩
theorem GC.sp_word (h : GC F n m) {v : List Int} (hl : v.length = n) (hs : Sp F m (nth v)) : ∃ j, j < F.n ^ m.length ∧ nthL (wordsTo F n m m.length) j = v := by
 have ok := h.good.ok
 obtain ⟨pv, hE⟩ := h.ech
 have he := hE.enc ok hl hs
 obtain ⟨t, ht, e⟩ := hig_all ok (k := m.length) (msg := pv.map (nth v)) (by rw [List.length_map, hE.len]) fun c hc => by
  obtain ⟨i, _, rfl⟩ := List.mem_map.1 hc
  exact (el_n ok).1 (hs.el ok i)
 exact ⟨t, ht, by rw [wordsTo_nth F n m ht, e, ← he]⟩
theorem GC.word_inj (h : GC F n m) {i j : Nat} (hi : i < F.n ^ m.length) (hj : j < F.n ^ m.length) (e : nthL (wordsTo F n m m.length) i = nthL (wordsTo F n m m.length) j) : i = j := by
 have ok := h.good.ok
 obtain ⟨n2, _⟩ := ok.n_bd
 obtain ⟨pv, hE⟩ := h.ech
 rw [wordsTo_nth F n m hi, wordsTo_nth F n m hj] at e
 refine hig_inj (by omega) hi hj (eq_of_nth (by rw [hig_len, hig_len]) fun l hl => ?_)
 rw [hig_len] at hl
 have h1 := encTo_piv ok hE (hig_el i (show 0 < F.n by omega) m.length) hl
 have h2 := encTo_piv ok hE (hig_el j (show 0 < F.n by omega) m.length) hl
 rw [← h1, e, h2]
theorem cntW_count (words : List (List Int)) {n d : Nat} (hd : d ≤ n) (k : Nat) : nth (cntW words n k) d = (((List.range k).countP fun j => wt (nthL words j) == d : Nat) : Int) := by
 induction k with
 | zero => rw [cntW, zeros_nth]; rfl
 | succ k ih =>
  rw [cntW, List.range_succ, List.countP_append]
  by_cases e : wt (nthL words k) = d
  · rw [e, nth_set_same (by rw [cntW_len]; omega), ih]
    simp [e]
  · rw [nth_set_ne e, ih]
    simp [e]
theorem GC.wts_count (_h : GC F n m) {d : Nat} (hd : d ≤ n) : nth (wts F n m) d = (((List.range (F.n ^ m.length)).countP fun j => wt (nthL (wordsTo F n m m.length) j) == d : Nat) : Int) := by
 rw [wts, cntW_count _ hd, wordsTo_len]
end
end Go.Proofs.Ytgmgpcaahanmiaa
