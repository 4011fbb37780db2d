/-
  Texts joined.
-/
import Derived.Test.YtpglmogoddgmoaaJD1
import Derived.Test.YtpglmogoddgmoaaJD4
import Derived.Test.YtpglmogoddgmoaaJD7
import Derived.Test.YtpglmogoddgmoaaJD9
import Derived.Test.YtpglmogoddgmoaaJD12
import Derived.Test.YtpglmogoddgmoaaJD16
import Derived.Test.YtpglmogoddgmoaaJD19
set_option linter.unusedVariables false
set_option linter.unusedSimpArgs false
set_option maxRecDepth 100000
set_option maxHeartbeats 40000000
namespace Go.Proofs.Ytpglmogoddgmoaa
open Go.RowKit
attribute [local go_sem ↓] Go.wp_at_zero Go.wp_at_succ
def CodeAny (w : World) (e : Ending) (w' : World) : Prop :=
 ∃ (p d : Int) (xs : List Int) (m : List (List Int)) (a : Option Addr) (c : Nat) (ra : Option Addr) (rc : Nat), e = .returned (.agg #[.int .i64 p, .int .i64 d, .slice a xs.length c, .slice ra m.length rc]) ∧ I64 d ∧ Own w' w.heap.size (.slice a xs.length c) xs ∧ OwnS w' w.heap.size (.slice ra m.length rc) m
theorem ownsRow_far {w w' : World} {B e size n : Nat} {v : Value} {vs : List Value} {g : Nat} {t : TypeId} {cs : Array Value} (h : w.ownsRow B e size v n vs) (hb : Blk w g t cs) (hne : t ≠ e) (hk : ∀ q, q ≠ g → w'.heap[q]? = w.heap[q]?) : w'.ownsRow B e size v n vs := by
 obtain ⟨h1, h2⟩ := h
 refine ⟨h1, ?_⟩
 rcases h2 with h2 | ⟨g', cap, cur, rfl, hB, hg, hr⟩
 · exact .inl h2
 · refine .inr ⟨g', cap, cur, rfl, hB, (hk g' fun e => ?_).trans hg, hr⟩
   subst e
   have hb' : w.heap[g']? = _ := hb
   rw [hb'] at hg
   injection hg with hg
   injection hg with _ h3 _
   exact hne h3
theorem OwnS.far {w w' : World} {B : Nat} {v : Value} {xss : List (List Int)} (h : OwnS w B v xss) {g : Nat} {t : TypeId} {cs : Array Value} (hb : Blk w g t cs) (h1 : t ≠ 24) (h2 : t ≠ 2) (hk : ∀ q, q ≠ g → w'.heap[q]? = w.heap[q]?) : OwnS w' B v xss := by
 obtain ⟨hl, vs, hr, hi⟩ := h
 exact ⟨hl, vs, ownsRow_far hr hb h1 hk, ⟨hi.1, fun i x hx => ⟨(hi.2.1 i x hx).1, ownsRow_far (hi.2.1 i x hx).2 hb h2 hk⟩, hi.2.2⟩⟩
theorem Own.far {w w' : World} {B : Nat} {v : Value} {xs : List Int} (h : Own w B v xs) {g : Nat} {t : TypeId} {cs : Array Value} (hb : Blk w g t cs) (h2 : t ≠ 2) (hk : ∀ q, q ≠ g → w'.heap[q]? = w.heap[q]?) : Own w' B v xs := ⟨h.1, ownsRow_far h.2 hb h2 hk⟩
theorem Own.some_set {w : World} {B r : Nat} {v : Value} {xs : List Int} (h : Own w B v xs) (y : Int) : ∃ ys, ys.length = xs.length ∧ Own (w.setCell ⟨r, 0, none⟩ (.int .i64 y)) B v ys := by
 rcases h.slice_form with ⟨rfl, rfl⟩ | ⟨g, c, rfl, _, _⟩
 · exact ⟨[], rfl, Own.nil _ _⟩
 · by_cases e : g = r
   · subst e
     exact ⟨xs.set 0 y, by simp, (h.set 0 y).1⟩
   · refine ⟨xs, rfl, ?_⟩
     have k : Kp w (w.setCell ⟨r, 0, none⟩ (.int .i64 y)) g (g + 1) := ⟨by simp, fun q h1 h2 => Below.heap_setCell w ⟨r, 0, none⟩ _ q (by show q ≠ r; omega)⟩
     refine ⟨h.1, ?_⟩
     obtain ⟨h1, h2⟩ := h.2
     refine ⟨h1, ?_⟩
     rcases h2 with h2 | ⟨g', cap, cur, e2, hB, hg, hr⟩
     · exact .inl h2
     · injection e2 with e2 _ e3
       injection e2 with e2
       injection e2 with e2 _
       subst e2
       subst e3
       exact .inr ⟨g, c, cur, rfl, hB, (k.2 g (Nat.le_refl _) (by omega)).trans hg, hr⟩
theorem l18Bent_any (g : Nat) (w : World) (h : Src w g 0) : Calls Try.prog 82 #[.pointer (some ⟨g, 0, none⟩)] w fun e w' => CodeAny w e w' ∧ Mk w w' g (g + 1) := by
 obtain ⟨W0, hW0⟩ : ∃ W0, W0 = w.alloc (.cells #[.int .i64 0, .int .i64 0, .slice none 0 0, .slice none 0 0] 55) := ⟨_, rfl⟩
 have b0 : Below w.heap.size w W0 := by rw [hW0]; exact (Below.refl _ _).alloc (Nat.le_refl _) _
 have k0 : Blk W0 w.heap.size 55 #[.int .i64 0, .int .i64 0, .slice none 0 0, .slice none 0 0] := by rw [hW0]; exact Blk.new _ _ _ rfl
 have z0 : w.heap.size < W0.heap.size := k0.lt
 have hlt := h.lt
 have HB := hide (h.below b0)
 have m0 : Mk w W0 g (g + 1) := Mk.alloc b0 (by omega)
 have HW := Lib.hid hW0
 clear hW0 h
 go_enter Try.func82, Try.ntmps82
 go_upto_region 1 with fail
 rw [← HW.out]
 go_wp2_with fail
 refine (l18Draw_src g 0 W0 (unhide HB) (by omega)).mono ?_
 rintro e w1 ⟨⟨F, n, m, v, u, rfl, hC, o1, q1⟩, m1, s1⟩
 have ok := hC.good.ok
 have hk6 := ok.k6
 have hm8 := hC.m8
 have hm1 := hC.m1
 have hm0 : 0 < m.length := by omega
 have hn0 : 0 < n := by have := hC.n1; omega
 have hn1 := hC.n1
 have hn := hC.hn
 obtain ⟨a1, c1, rfl, _, _⟩ := o1.form
 obtain ⟨gr, rc1, rfl, hgr1, hgr2⟩ := q1.at_ (by omega)
 have z1 := m1.size
 have HIN1 := hide o1.lt
 have HIN2 := hide (fun (W : World) (k : Kp w1 W W0.heap.size w1.heap.size) => q1.toH.kp k)
 have k1 := k0.kp (m1.kp (.inr (by omega)) (by omega))
 obtain ⟨W1, hW1⟩ : ∃ z, z = w1.alloc (.cells #[.int .i64 F.p, .int .i64 F.k, .slice a1 F.poly.length c1, .slice (some ⟨gr, 0, none⟩) m.length rc1] 55) := ⟨_, rfl⟩
 have b1 : Below w1.heap.size w1 W1 := by rw [hW1]; exact (Below.refl _ _).alloc (Nat.le_refl _) _
 have kC : Blk W1 w1.heap.size 55 #[.int .i64 F.p, .int .i64 F.k, .slice a1 F.poly.length c1, .slice (some ⟨gr, 0, none⟩) m.length rc1] := by rw [hW1]; exact Blk.new _ _ _ rfl
 have zC := kC.lt
 have mW := (m0.trans m1).new (b1.mono (by omega)) (by omega)
 have sW := s1.below b1
 have kW := k1.below b1 (by omega)
 have oW := o1.below b1 (Nat.le_refl _)
 have qW := q1.below b1 (Nat.le_refl _)
 have HW1 := Lib.hid hW1
 clear hW1 o1 q1 s1 m0 m1 b0 k0 k1 HB
 go_upto_region 2 with fail
 rw [← HW1.out]
 go_wp2_with fail
 refine (pick_any g (0 + 100000) 24 W1 sW (by omega)).mono ?_
 rintro e w2 ⟨x, rfl, hx, _, s2, m2⟩
 have z2 := m2.size
 have mw2 := mW.trans m2
 have kC2 := kC.kp (m2.kp (.inr (by omega)) (by omega))
 have kR2 := kW.kp (m2.kp (.inr (by omega)) (by omega))
 have o2 := oW.mk m2 (by omega)
 have q2 := qW.mk m2 (by omega)
 have kpq : Kp w1 w2 W0.heap.size w1.heap.size := (Kp.below b1 (Nat.le_refl _)).trans (m2.kp (.inr (by omega)) (by omega))
 have hpl := o2.1
 clear mW sW kW oW qW kC m2 HW1
 have hin1 : In (.slice a1 F.poly.length c1) W0.heap.size w1.heap.size := unhide HIN1
 have hin2 : OwnSH w2 W0.heap.size w1.heap.size (.slice (some ⟨gr, 0, none⟩) m.length rc1) m := unhide HIN2 _ kpq
 by_cases h0 : x = 0
 · skip
   have x0 : ((x : Int) == 0) = true := by rw [beq_iff_eq]; omega
   have hwr : IntKind.i64.wrap ((F.k : Int) + 1) = (F.k : Int) + 1 := IntWalk.i64_in _ (by omega)
   have f1 := kC2.cell 1
   have g1 := kC2.frozen 1
   clear hx
   go_upto_region 11 with fail
   obtain ⟨w3, h3⟩ : ∃ z, z = w2.setCell ⟨w1.heap.size, 1, none⟩ (.int .i64 ((F.k : Int) + 1)) := ⟨_, rfl⟩
   rw [← h3]
   have kC3 : Blk w3 w1.heap.size 55 #[.int .i64 F.p, .int .i64 ((F.k : Int) + 1), .slice a1 F.poly.length c1, .slice (some ⟨gr, 0, none⟩) m.length rc1] := by rw [h3]; exact kC2.set_ 1 _
   have kR3 : Blk w3 w.heap.size 55 #[.int .i64 0, .int .i64 0, .slice none 0 0, .slice none 0 0] := by rw [h3]; exact kR2.far (by show w.heap.size ≠ w1.heap.size; omega) _
   have kk : Kp w2 w3 W0.heap.size w1.heap.size := by rw [h3]; exact ⟨by simp, fun q h1 h2 => Below.heap_setCell w2 ⟨w1.heap.size, 1, none⟩ _ q (by show q ≠ w1.heap.size; omega)⟩
   have m3 : Mk w w3 g (g + 1) := by rw [h3]; exact mw2.new ((Below.refl _ _).setCell (p := ⟨w1.heap.size, 1, none⟩) (by show w.heap.size ≤ w1.heap.size; omega) _) (by omega)
   have o3 : Own w3 W0.heap.size (.slice a1 F.poly.length c1) F.poly := (OwnH.kp ⟨o2, hin1⟩ kk).1
   have q3 : OwnS w3 W0.heap.size (.slice (some ⟨gr, 0, none⟩) m.length rc1) m := (hin2.kp kk).own
   clear h3 f1 g1
   have f0 := kC3.cell 0
   have f1 := kC3.cell 1
   have f2 := kC3.cell 2
   have f3 := kC3.cell 3
   have e0 := kR3.cell 0
   have e1 := kR3.cell 1
   have e2 := kR3.cell 2
   have e3 := kR3.cell 3
   have g0 := kR3.frozen 0
   have g1 := kR3.frozen 1
   have g2 := kR3.frozen 2
   have g3 := kR3.frozen 3
   go_wp2
   refine bodyPost_ret (results_cell_row rfl _ _ w.heap.size 55 #[.int .i64 F.p, .int .i64 ((F.k : Int) + 1), .slice a1 F.poly.length c1, .slice (some ⟨gr, 0, none⟩) m.length rc1] (0, 0) _ rfl (kR3.b4.store _ _ _ _) Try.underlying55 rfl (by kernel_rfl)) rfl ⟨⟨F.p, ((F.k : Int) + 1), F.poly, m, _, _, _, _, rfl, ⟨by omega, by omega⟩, ?_, ?_⟩, m3.new (Below.set4 (Below.refl _ _) (Nat.le_refl _) _ _ _ _) (by omega)⟩
   · exact ((((o3.storeBelow (p := ⟨w.heap.size, 0, none⟩) z0 _).storeBelow (p := ⟨w.heap.size, 1, none⟩) z0 _).storeBelow (p := ⟨w.heap.size, 2, none⟩) z0 _).storeBelow (p := ⟨w.heap.size, 3, none⟩) z0 _).mono (Nat.le_of_lt z0)
   · exact (q3.set4 z0 _ _ _ _).mono (Nat.le_of_lt z0)
 by_cases h1 : x = 1
 · skip
   have x0 : ((x : Int) == 0) = false := by rw [beq_eq_false_iff_ne]; omega
   have x1 : ((x : Int) == 1) = true := by rw [beq_iff_eq]; omega
   obtain ⟨ra0, rc0, hr0o, hr0c, _⟩ := q2.toH.row (i := 0) (by omega)
   have d0 := hr0c _ _ _ _ rfl
   rw [Nat.zero_add] at d0
   have f3 := kC2.cell 3
   have g3 := kC2.frozen 3
   obtain ⟨row, hrow⟩ : ∃ row, row = nthL m 0 := ⟨_, rfl⟩
   rw [← hrow] at d0 hr0o
   have HR0 := hide hr0o.rd
   have BX := hide (show ∀ W, Below w2.heap.size w2 W → (Below w2.heap.size w2 W ∧ W.cell? ⟨w1.heap.size, 3, none⟩ = some (.slice (some ⟨gr, 0, none⟩) m.length rc1) ∧ W.cell? ⟨gr, 0, none⟩ = some (.slice ra0 row.length rc0)) from fun W h => ⟨h, (h.cell (p := ⟨w1.heap.size, 3, none⟩) (by show w1.heap.size < w2.heap.size; omega)).trans f3, (h.cell (p := ⟨gr, 0, none⟩) (by show gr < w2.heap.size; omega)).trans d0⟩)
   have hQH := q2.toH
   clear hrow hr0c hx d0 f3 g3
   go_upto_region 6 with fail
   refine wp_region_noPanic ?_
   refine wp_region_tree (S := (fun W => Below w2.heap.size w2 W ∧ W.cell? ⟨w1.heap.size, 3, none⟩ = some (.slice (some ⟨gr, 0, none⟩) m.length rc1) ∧ W.cell? ⟨gr, 0, none⟩ = some (.slice ra0 row.length rc0))) 8 (.take 0 (.take 1 (.take 2 (.take 3 (.take 4 (.take 5 (.call 6 (.call 7 (.last 8 (.last 9 (.last 10 .done))))))))))) (by kernel_rfl) (by kernel_rfl) (by kernel_rfl) (by decide) (fun _ _ _ _ _ h => h) ?_ (fun hHeld => ?_)
   · exact (unhide BX) _ (Below.refl _ _).drew
   refine SeqT.take (by rfl) (v := ?hv1) (by rfl) ?hy1 ?hr1
   case hy1 =>
    intro w hSw
    try dsimp only at hSw
    go_simp
    try (with_reducible rfl)
   try simp only [Act.put, List.setIfInBounds_toArray, List.set_cons_zero, List.set_cons_succ]
   refine SeqT.take (by rfl) (v := ?hv2) (by rfl) ?hy2 ?hr2
   case hy2 =>
    intro w hSw
    try dsimp only at hSw
    go_simp
    try (with_reducible rfl)
   try simp only [Act.put, List.setIfInBounds_toArray, List.set_cons_zero, List.set_cons_succ]
   refine SeqT.take (by rfl) (v := ?hv3) (by rfl) ?hy3 ?hr3
   case hy3 =>
    intro w hSw
    try dsimp only at hSw
    go_simp
    try (with_reducible rfl)
   try simp only [Act.put, List.setIfInBounds_toArray, List.set_cons_zero, List.set_cons_succ]
   refine SeqT.take (by rfl) (v := ?hv4) (by rfl) ?hy4 ?hr4
   case hy4 =>
    intro w hSw
    try dsimp only at hSw
    go_simp
    try (with_reducible rfl)
   try simp only [Act.put, List.setIfInBounds_toArray, List.set_cons_zero, List.set_cons_succ]
   refine SeqT.take (by rfl) (v := ?hv5) (by rfl) ?hy5 ?hr5
   case hy5 =>
    intro w hSw
    try dsimp only at hSw
    go_simp
    try (with_reducible rfl)
   try simp only [Act.put, List.setIfInBounds_toArray, List.set_cons_zero, List.set_cons_succ]
   refine SeqT.take (by rfl) (v := ?hv6) (by rfl) ?hy6 ?hr6
   case hy6 =>
    intro w hSw
    try dsimp only at hSw
    go_simp
    try (with_reducible rfl)
   try simp only [Act.put, List.setIfInBounds_toArray, List.set_cons_zero, List.set_cons_succ]
   refine SeqT.call (by rfl) (fun K hK => ?_)
   go_simp
   refine (l00Own_any ra0 rc0 row _ ((unhide HR0).below (And.left hHeld))).mono ?_
   rintro e w3 ⟨v3, rfl, o3, b3⟩
   have d3 := Below.chain (a := w2) (And.left hHeld) b3
   have o3 := o3.mono (And.left hHeld).size
   obtain ⟨a3, c3, rfl, _, _⟩ := o3.form
   have z3 := d3.size
   clear hHeld
   refine hK.out _ _ ?_ (fun hHeld => ?_)
   · exact (unhide BX) _ d3
   clear hK K
   try simp only [Act.put, List.setIfInBounds_toArray, List.set_cons_zero, List.set_cons_succ]
   refine SeqT.call (by rfl) (fun K hK => ?_)
   go_simp
   skip
   refine hK.out _ _ ?_ (fun hHeld => ?_)
   · exact (unhide BX) _ (d3.alloc (by omega) _)
   clear hK K
   try simp only [Act.put, List.setIfInBounds_toArray, List.set_cons_zero, List.set_cons_succ]
   refine SeqT.last (by rfl) (fun K hK => ?_)
   refine step_append_row rfl (.tmp 19) (.tmp 25) rfl rfl (hQH.belw (d3.alloc (by omega) _) (Nat.le_refl _)) _ rfl ((Blk.new w3 24 #[.slice a3 row.length c3] rfl).cell 0) (o3.alloc _) (by omega) (by simp; omega) (by omega) ?_
   intro v5 w5 o5 g5 _
   have g5 : (w3.alloc (.cells #[.slice a3 row.length c3] 24)).grownBy w5 (some gr) := g5
   obtain ⟨M, hM⟩ : ∃ M, M = m ++ [row] := ⟨_, rfl⟩
   rw [← hM] at o5
   clear hM
   have hne5 : ∀ q, q ≠ gr → q < w2.heap.size → w5.heap[q]? = w2.heap[q]? := fun q hq1 hq2 => (g5.block q (by simp; omega) (fun e => hq1 (Option.some.inj e))).trans ((d3.alloc (by omega) _).block q hq2)
   have kC5 : Blk w5 w1.heap.size 55 #[.int .i64 F.p, .int .i64 F.k, .slice a1 F.poly.length c1, .slice (some ⟨gr, 0, none⟩) m.length rc1] := (hne5 _ (by omega) (by omega)).trans kC2
   have kR5 : Blk w5 w.heap.size 55 #[.int .i64 0, .int .i64 0, .slice none 0 0, .slice none 0 0] := (hne5 _ (by omega) (by omega)).trans kR2
   have f3 := kC5.cell 3
   have g3 := kC5.frozen 3
   have mm5 : Below w.heap.size w2 w5 := Below.stepS (v := .slice (some ⟨gr, 0, none⟩) m.length rc1) ((d3.alloc (by omega) _).mono (by omega)) g5 (hQH.belw (d3.alloc (by omega) _) (Nat.le_refl _)).own (by omega) (by simp; omega)
   obtain ⟨ra5, rc5, e5, _⟩ := o5.form
   subst e5
   refine hK.out _ _ ?_
   clear hK K
   try simp only [Act.put, List.setIfInBounds_toArray, List.set_cons_zero, List.set_cons_succ]
   refine SeqT.last (by rfl) (fun K hK => ?_)
   go_simp
   skip
   refine hK.out _ _ ?_
   clear hK K
   try simp only [Act.put, List.setIfInBounds_toArray, List.set_cons_zero, List.set_cons_succ]
   refine SeqT.last (by rfl) (fun K hK => ?_)
   go_simp
   skip
   refine hK.out _ _ ?_
   clear hK K
   try simp only [Act.put, List.setIfInBounds_toArray, List.set_cons_zero, List.set_cons_succ]
   refine SeqT.done (NoPanic.normal ?_)
   clear f3 g3
   have z5 := mm5.size
   have zw5 : w2.heap.size ≤ w5.heap.size := by have := g5.size; simp at this; omega
   have hon : Own w5 W0.heap.size (.slice a1 F.poly.length c1) F.poly := Own.grow ((o2.toH.kp (Kp.below (d3.alloc (by omega) _) (Nat.le_refl _))).1) g5 (by
    rcases o2.slice_form with ⟨e, _⟩ | ⟨gp, cp, e, _, _⟩
    · exact .inl (by rw [e]; rfl)
    · refine .inr fun h => ?_
      rw [e] at h
      simp only [Value.ownBlock, Option.some.injEq] at h
      exact q2.ne_row (by rw [← e]; exact o2) h.symm)
   go_upto_region 11 with fail
   obtain ⟨w6, h6⟩ : ∃ z, z = w5.setCell ⟨w1.heap.size, 3, none⟩ (.slice ra5 M.length rc5) := ⟨_, rfl⟩
   rw [← h6]
   have kC6 : Blk w6 w1.heap.size 55 #[.int .i64 F.p, .int .i64 F.k, .slice a1 F.poly.length c1, .slice ra5 M.length rc5] := by rw [h6]; exact kC5.set_ 3 _
   have kR6 : Blk w6 w.heap.size 55 #[.int .i64 0, .int .i64 0, .slice none 0 0, .slice none 0 0] := by rw [h6]; exact kR5.far (by show w.heap.size ≠ w1.heap.size; omega) _
   have kk : ∀ (B hi : Nat), hi ≤ w1.heap.size ∨ w1.heap.size < B → Kp w5 w6 B hi := fun B hi hh => by rw [h6]; exact ⟨by simp, fun q h1 h2 => Below.heap_setCell w5 ⟨w1.heap.size, 3, none⟩ _ q (by show q ≠ w1.heap.size; omega)⟩
   have o6 : Own w6 W0.heap.size (.slice a1 F.poly.length c1) F.poly := (OwnH.kp ⟨hon, hin1⟩ (kk _ _ (.inl (Nat.le_refl _)))).1
   have m6 : Mk w w6 g (g + 1) := by rw [h6]; exact (mw2.new mm5 (by omega)).new ((Below.refl _ _).setCell (p := ⟨w1.heap.size, 3, none⟩) (by show w.heap.size ≤ w1.heap.size; omega) _) (by omega)
   have q6 : OwnS w6 W0.heap.size (.slice ra5 M.length rc5) M := o5.far kC5 (by decide) (by decide) (by rw [h6]; exact fun q hq => Below.heap_setCell w5 ⟨w1.heap.size, 3, none⟩ _ q hq)
   clear h6
   have f0 := kC6.cell 0
   have f1 := kC6.cell 1
   have f2 := kC6.cell 2
   have f3 := kC6.cell 3
   have e0 := kR6.cell 0
   have e1 := kR6.cell 1
   have e2 := kR6.cell 2
   have e3 := kR6.cell 3
   have g0 := kR6.frozen 0
   have g1 := kR6.frozen 1
   have g2 := kR6.frozen 2
   have g3 := kR6.frozen 3
   go_wp2
   refine bodyPost_ret (results_cell_row rfl _ _ w.heap.size 55 #[.int .i64 F.p, .int .i64 F.k, .slice a1 F.poly.length c1, .slice ra5 M.length rc5] (0, 0) _ rfl (kR6.b4.store _ _ _ _) Try.underlying55 rfl (by kernel_rfl)) rfl ⟨⟨F.p, F.k, F.poly, M, _, _, _, _, rfl, ⟨by omega, by omega⟩, ?_, ?_⟩, m6.new (Below.set4 (Below.refl _ _) (Nat.le_refl _) _ _ _ _) (by omega)⟩
   · exact ((((o6.storeBelow (p := ⟨w.heap.size, 0, none⟩) z0 _).storeBelow (p := ⟨w.heap.size, 1, none⟩) z0 _).storeBelow (p := ⟨w.heap.size, 2, none⟩) z0 _).storeBelow (p := ⟨w.heap.size, 3, none⟩) z0 _).mono (Nat.le_of_lt z0)
   · exact (q6.set4 z0 _ _ _ _).mono (Nat.le_of_lt z0)
 by_cases h2 : x = 2
 · skip
   have x0 : ((x : Int) == 0) = false := by rw [beq_eq_false_iff_ne]; omega
   have x1 : ((x : Int) == 1) = false := by rw [beq_eq_false_iff_ne]; omega
   have x2 : ((x : Int) == 2) = true := by rw [beq_iff_eq]; omega
   obtain ⟨ra0, rc0, hr0o, hr0c, _⟩ := q2.toH.row (i := 0) (by omega)
   have d0 := hr0c _ _ _ _ rfl
   rw [Nat.zero_add] at d0
   have f3 := kC2.cell 3
   obtain ⟨row, hrow⟩ : ∃ row, row = nthL m 0 := ⟨_, rfl⟩
   have hrl : row.length = n := by rw [hrow]; exact hn
   rw [← hrow] at d0 hr0o
   obtain ⟨r0, hra⟩ : ∃ r0, ra0 = some ⟨r0, 0, none⟩ := by
    rcases hr0o.1.slice_form with ⟨_, e⟩ | ⟨r0, c', e, _, _⟩
    · rw [e] at hrl; simp at hrl; omega
    · injection e with e1 _ _
      exact ⟨r0, e1⟩
   subst hra
   rw [hrl] at d0
   have BX := hide (show ∀ W, Mk w2 W g (g + 1) → (Mk w2 W g (g + 1) ∧ W.cell? ⟨w1.heap.size, 3, none⟩ = some (.slice (some ⟨gr, 0, none⟩) m.length rc1) ∧ W.cell? ⟨gr, 0, none⟩ = some (.slice (some ⟨r0, 0, none⟩) n rc0)) from fun W h => ⟨h, (cell_block (h.2 w1.heap.size (by omega) (by omega)) 3).trans f3, (cell_block (h.2 gr (by omega) (by omega)) 0).trans d0⟩)
   have HS2 := hide s2
   have HR0 := Lib.hid hrow
   clear hr0c hx d0 f3 hr0o hrow
   go_upto_region 8 with fail
   refine wp_region_noPanic ?_
   refine wp_region_until (S := (fun W => Mk w2 W g (g + 1) ∧ W.cell? ⟨w1.heap.size, 3, none⟩ = some (.slice (some ⟨gr, 0, none⟩) m.length rc1) ∧ W.cell? ⟨gr, 0, none⟩ = some (.slice (some ⟨r0, 0, none⟩) n rc0))) 8 [(0, 0), (0, 1), (0, 2), (0, 3), (0, 4), (1, 5), (1, 6), (0, 7), (2, 8)] (by kernel_rfl) (by kernel_rfl) (by kernel_rfl) rfl (fun _ _ _ _ _ h => h) ?_ (fun hHeld => ?_)
   · exact (unhide BX) _ ((Mk.refl _ _ _).new (Below.refl _ _).drew (by omega))
   refine SeqU.take (by rfl) (v := ?hv7) (by rfl) ?hy7 ?hr7
   case hy7 =>
    intro w hSw
    try dsimp only at hSw
    go_simp
    try (with_reducible rfl)
   try simp only [Act.put, List.setIfInBounds_toArray, List.set_cons_zero, List.set_cons_succ]
   refine SeqU.take (by rfl) (v := ?hv8) (by rfl) ?hy8 ?hr8
   case hy8 =>
    intro w hSw
    try dsimp only at hSw
    go_simp
    try (with_reducible rfl)
   try simp only [Act.put, List.setIfInBounds_toArray, List.set_cons_zero, List.set_cons_succ]
   refine SeqU.take (by rfl) (v := ?hv9) (by rfl) ?hy9 ?hr9
   case hy9 =>
    intro w hSw
    try dsimp only at hSw
    go_simp
    try (with_reducible rfl)
   try simp only [Act.put, List.setIfInBounds_toArray, List.set_cons_zero, List.set_cons_succ]
   refine SeqU.take (by rfl) (v := ?hv10) (by rfl) ?hy10 ?hr10
   case hy10 =>
    intro w hSw
    try dsimp only at hSw
    go_simp
    try (with_reducible rfl)
   try simp only [Act.put, List.setIfInBounds_toArray, List.set_cons_zero, List.set_cons_succ]
   refine SeqU.take (by rfl) (v := ?hv11) (by rfl) ?hy11 ?hr11
   case hy11 =>
    intro w hSw
    try dsimp only at hSw
    go_simp
    try (with_reducible rfl)
   try simp only [Act.put, List.setIfInBounds_toArray, List.set_cons_zero, List.set_cons_succ]
   refine SeqU.call (by rfl) (fun K hK => ?_)
   go_simp
   obtain ⟨w3, h3⟩ : ∃ z, z = (w2.alloc (.cells #[.int .i64 (-1), .int .i64 2, .int .i64 9] 2)).drew := ⟨_, rfl⟩
   rw [← h3]
   have b3 : Below w2.heap.size w2 w3 := by rw [h3]; exact ((Below.refl _ _).alloc (Nat.le_refl _) _).drew
   have r3 : Blk w3 w2.heap.size 2 #[.int .i64 (-1), .int .i64 2, .int .i64 9] := by rw [h3]; exact Blk.new w2 _ _ rfl
   have m3 : Mk w2 w3 g (g + 1) := (Mk.refl _ _ _).new b3 (by omega)
   clear h3 hHeld
   refine hK.out _ _ ?_ (fun hHeld => ?_)
   · exact (unhide BX) _ m3
   clear hK K
   try simp only [Act.put, List.setIfInBounds_toArray, List.set_cons_zero, List.set_cons_succ]
   refine SeqU.call (by rfl) (fun K hK => ?_)
   go_simp
   refine (among_any g (0 + 100000 + 2) (some ⟨w2.heap.size, 0, none⟩) 3 [-1, 2, 9] w3 ((unhide HS2).below b3) (by omega) (by decide) (fun w' mk => by
    have k := r3.kp (mk.kp (.inr (by omega)) r3.lt)
    refine ⟨by decide, fun _ => ⟨w2.heap.size, 0, rfl, fun i hi => ?_⟩⟩
    rcases (show i = 0 ∨ i = 1 ∨ i = 2 by simp at hi; omega) with rfl | rfl | rfl
    · exact k.cell 0
    · exact k.cell 1
    · exact k.cell 2)).mono ?_
   rintro e w4 ⟨iy, _, rfl, _, m4⟩
   obtain ⟨y, hy⟩ : ∃ y, y = nth [-1, 2, 9] iy := ⟨_, rfl⟩
   rw [← hy]
   have m34 := m3.trans m4
   have z34 := m34.size
   have kC4 := kC2.kp (m34.kp (.inr (by omega)) (by omega))
   have kR4 := kR2.kp (m34.kp (.inr (by omega)) (by omega))
   have o4 := o2.mk m34 (by omega)
   have q4 := q2.mk m34 (by omega)
   obtain ⟨ra0, rc4, ho4, hc4, hput⟩ := q4.toH.row (i := 0) (by omega)
   have e4 := (hc4 _ _ _ _ rfl).symm.trans ((cell_block (m34.2 gr (by omega) (by omega)) 0).trans ((unhide BX) _ (Mk.refl _ _ _)).2.2)
   rw [← HR0.out, hrl] at e4
   rw [← HR0.out, hrl] at ho4 hput
   injection e4 with e4
   injection e4 with e4 _ e5
   subst e4
   subst e5
   have hrr : w.heap.size ≤ r0 := by have := (ho4.2 r0 rfl).1; omega
   have hn1 : w1.heap.size ≠ r0 := fun e => by
    obtain ⟨_, h1, h2⟩ := ho4.1
    rcases h2 with ⟨h2, _⟩ | ⟨g', cap, cur, h2, _, h3, _⟩
    · cases h2
    · injection h2 with h2 _ _
      injection h2 with h2
      injection h2 with h2 _
      have h4 : w4.heap[w1.heap.size]? = _ := kC4
      rw [e, h2, h3] at h4
      injection h4 with h4
      injection h4 with _ h5 _
      exact absurd h5 (by decide)
   have hn2 : w.heap.size ≠ r0 := by have := (ho4.2 r0 rfl).1; omega
   have c0 := ho4.1.cell (j := 0) (by omega)
   have p0 := ho4.1.frozen 0
   obtain ⟨z9, hz9⟩ : ∃ z, z = nth row 0 := ⟨_, rfl⟩
   rw [← hz9] at c0
   clear hHeld hy hz9 hc4
   refine hK.out _ _ ?_ (fun hHeld => ?_)
   · exact (unhide BX) _ m34
   clear hK K
   try simp only [Act.put, List.setIfInBounds_toArray, List.set_cons_zero, List.set_cons_succ]
   refine SeqU.take (by rfl) (v := ?hv12) (by rfl) ?hy12 ?hr12
   case hy12 =>
    intro w hSw
    try dsimp only at hSw
    go_simp
    try (with_reducible rfl)
   try simp only [Act.put, List.setIfInBounds_toArray, List.set_cons_zero, List.set_cons_succ]
   refine SeqU.last (by rfl) (fun K hK => ?_)
   go_simp
   skip
   refine hK.out _ _ ?_
   clear hK K
   try simp only [Act.put, List.setIfInBounds_toArray, List.set_cons_zero, List.set_cons_succ]
   refine SeqU.done (NoPanic.normal ?_)
   go_upto_region 11 with fail
   obtain ⟨w5, h5⟩ : ∃ z, z = w4.setCell ⟨r0, 0, none⟩ (.int .i64 y) := ⟨_, rfl⟩
   rw [← h5]
   have hq5 := hput _ (row.set 0 y) ⟨(ho4.1.set 0 y).1, ho4.2⟩ (by rw [List.length_set]; exact hrl) (ho4.1.set 0 y).2
   rw [← h5] at hq5
   have hq5 := hq5.own
   obtain ⟨ys, hyl, hy5⟩ := o4.some_set (r := r0) y
   rw [← h5] at hy5
   have hk5 : ∀ q, q ≠ r0 → w5.heap[q]? = w4.heap[q]? := by rw [h5]; exact fun q hq => Below.heap_setCell w4 ⟨r0, 0, none⟩ _ q hq
   have kC5 : Blk w5 w1.heap.size 55 #[.int .i64 F.p, .int .i64 F.k, .slice a1 F.poly.length c1, .slice (some ⟨gr, 0, none⟩) m.length rc1] := (hk5 _ hn1).trans kC4
   have kR5 : Blk w5 w.heap.size 55 #[.int .i64 0, .int .i64 0, .slice none 0 0, .slice none 0 0] := (hk5 _ hn2).trans kR4
   have m5 : Mk w w5 g (g + 1) := by rw [h5]; exact ((mw2.trans m3).trans m4).new ((Below.refl _ _).setCell (p := ⟨r0, 0, none⟩) (by show w.heap.size ≤ r0; omega) _) (by omega)
   obtain ⟨M, hM⟩ : ∃ M, M = m.set 0 (row.set 0 y) := ⟨_, rfl⟩
   have hMl : M.length = m.length := by rw [hM]; simp
   rw [← hM] at hq5
   rw [← hMl, ← hyl] at kC5
   rw [← hMl] at hq5
   rw [← hyl] at hy5
   clear h5 hM hMl hk5 hyl hput
   have f0 := kC5.cell 0
   have f1 := kC5.cell 1
   have f2 := kC5.cell 2
   have f3 := kC5.cell 3
   have e0 := kR5.cell 0
   have e1 := kR5.cell 1
   have e2 := kR5.cell 2
   have e3 := kR5.cell 3
   have g0 := kR5.frozen 0
   have g1 := kR5.frozen 1
   have g2 := kR5.frozen 2
   have g3 := kR5.frozen 3
   go_wp2
   refine bodyPost_ret (results_cell_row rfl _ _ w.heap.size 55 #[.int .i64 F.p, .int .i64 F.k, .slice a1 ys.length c1, .slice (some ⟨gr, 0, none⟩) M.length rc1] (0, 0) _ rfl (kR5.b4.store _ _ _ _) Try.underlying55 rfl (by kernel_rfl)) rfl ⟨⟨F.p, F.k, ys, M, _, _, _, _, rfl, ⟨by omega, by omega⟩, ?_, ?_⟩, m5.new (Below.set4 (Below.refl _ _) (Nat.le_refl _) _ _ _ _) (by omega)⟩
   · exact ((((hy5.storeBelow (p := ⟨w.heap.size, 0, none⟩) z0 _).storeBelow (p := ⟨w.heap.size, 1, none⟩) z0 _).storeBelow (p := ⟨w.heap.size, 2, none⟩) z0 _).storeBelow (p := ⟨w.heap.size, 3, none⟩) z0 _).mono (Nat.le_of_lt z0)
   · exact (hq5.set4 z0 _ _ _ _).mono (Nat.le_of_lt z0)
 by_cases h3 : x = 3
 · skip
   have x0 : ((x : Int) == 0) = false := by rw [beq_eq_false_iff_ne]; omega
   have x1 : ((x : Int) == 1) = false := by rw [beq_eq_false_iff_ne]; omega
   have x2 : ((x : Int) == 2) = false := by rw [beq_eq_false_iff_ne]; omega
   have x3 : ((x : Int) == 3) = true := by rw [beq_iff_eq]; omega
   have bA := (Below.refl w2.heap.size w2).alloc (Nat.le_refl _) (.cells #[] 24)
   have kA := kC2.below bA (by omega)
   have f3 := kA.cell 3
   have g3 := kA.frozen 3
   clear hx
   go_upto_region 11 with fail
   obtain ⟨w3, h3⟩ : ∃ z, z = (w2.alloc (.cells #[] 24)).setCell ⟨w1.heap.size, 3, none⟩ (.slice (some ⟨w2.heap.size, 0, none⟩) 0 0) := ⟨_, rfl⟩
   rw [← h3]
   have hk3 : ∀ q, q ≠ w1.heap.size → w3.heap[q]? = (w2.alloc (.cells #[] 24)).heap[q]? := by rw [h3]; exact fun q hq => Below.heap_setCell _ ⟨w1.heap.size, 3, none⟩ _ q hq
   have kC3 : Blk w3 w1.heap.size 55 #[.int .i64 F.p, .int .i64 F.k, .slice a1 F.poly.length c1, .slice (some ⟨w2.heap.size, 0, none⟩) ([] : List (List Int)).length 0] := by rw [h3]; exact kA.set_ 3 _
   have kR3 : Blk w3 w.heap.size 55 #[.int .i64 0, .int .i64 0, .slice none 0 0, .slice none 0 0] := (hk3 _ (by omega)).trans (kR2.below bA (by omega))
   have o3 : Own w3 W0.heap.size (.slice a1 F.poly.length c1) F.poly := (o2.below bA (Nat.le_refl _)).far kA (by decide) hk3
   have q3 : OwnS w3 W0.heap.size (.slice (some ⟨w2.heap.size, 0, none⟩) ([] : List (List Int)).length 0) [] := (OwnS.empty w2 (show W0.heap.size ≤ w2.heap.size by omega)).far kA (by decide) (by decide) hk3
   have m3 : Mk w w3 g (g + 1) := by rw [h3]; exact (mw2.new (bA.mono (by omega)) (by omega)).new ((Below.refl _ _).setCell (p := ⟨w1.heap.size, 3, none⟩) (by show w.heap.size ≤ w1.heap.size; omega) _) (by omega)
   obtain ⟨M, hM⟩ : ∃ M : List (List Int), M = [] := ⟨_, rfl⟩
   rw [← hM] at kC3 q3
   clear h3 hk3 kA hM f3 g3
   have f0 := kC3.cell 0
   have f1 := kC3.cell 1
   have f2 := kC3.cell 2
   have f3 := kC3.cell 3
   have e0 := kR3.cell 0
   have e1 := kR3.cell 1
   have e2 := kR3.cell 2
   have e3 := kR3.cell 3
   have g0 := kR3.frozen 0
   have g1 := kR3.frozen 1
   have g2 := kR3.frozen 2
   have g3 := kR3.frozen 3
   go_wp2
   refine bodyPost_ret (results_cell_row rfl _ _ w.heap.size 55 #[.int .i64 F.p, .int .i64 F.k, .slice a1 F.poly.length c1, .slice (some ⟨w2.heap.size, 0, none⟩) M.length 0] (0, 0) _ rfl (kR3.b4.store _ _ _ _) Try.underlying55 rfl (by kernel_rfl)) rfl ⟨⟨F.p, F.k, F.poly, M, _, _, _, _, rfl, ⟨by omega, by omega⟩, ?_, ?_⟩, m3.new (Below.set4 (Below.refl _ _) (Nat.le_refl _) _ _ _ _) (by omega)⟩
   · exact ((((o3.storeBelow (p := ⟨w.heap.size, 0, none⟩) z0 _).storeBelow (p := ⟨w.heap.size, 1, none⟩) z0 _).storeBelow (p := ⟨w.heap.size, 2, none⟩) z0 _).storeBelow (p := ⟨w.heap.size, 3, none⟩) z0 _).mono (Nat.le_of_lt z0)
   · exact (q3.set4 z0 _ _ _ _).mono (Nat.le_of_lt z0)
 have x0 : ((x : Int) == 0) = false := by rw [beq_eq_false_iff_ne]; omega
 have x1 : ((x : Int) == 1) = false := by rw [beq_eq_false_iff_ne]; omega
 have x2 : ((x : Int) == 2) = false := by rw [beq_eq_false_iff_ne]; omega
 have x3 : ((x : Int) == 3) = false := by rw [beq_eq_false_iff_ne]; omega
 clear hx
 have f0 := kC2.cell 0
 have f1 := kC2.cell 1
 have f2 := kC2.cell 2
 have f3 := kC2.cell 3
 have e0 := kR2.cell 0
 have e1 := kR2.cell 1
 have e2 := kR2.cell 2
 have e3 := kR2.cell 3
 have g0 := kR2.frozen 0
 have g1 := kR2.frozen 1
 have g2 := kR2.frozen 2
 have g3 := kR2.frozen 3
 go_wp2
 refine bodyPost_ret (results_cell_row rfl _ _ w.heap.size 55 #[.int .i64 F.p, .int .i64 F.k, .slice a1 F.poly.length c1, .slice (some ⟨gr, 0, none⟩) m.length rc1] (0, 0) _ rfl (kR2.b4.store _ _ _ _) Try.underlying55 rfl (by kernel_rfl)) rfl ⟨⟨F.p, F.k, F.poly, m, _, _, _, _, rfl, ⟨by omega, by omega⟩, ?_, ?_⟩, mw2.new (Below.set4 (Below.refl _ _) (Nat.le_refl _) _ _ _ _) (by omega)⟩
 · exact ((((o2.storeBelow (p := ⟨w.heap.size, 0, none⟩) z0 _).storeBelow (p := ⟨w.heap.size, 1, none⟩) z0 _).storeBelow (p := ⟨w.heap.size, 2, none⟩) z0 _).storeBelow (p := ⟨w.heap.size, 3, none⟩) z0 _).mono (Nat.le_of_lt z0)
 · exact (q2.set4 z0 _ _ _ _).mono (Nat.le_of_lt z0)
theorem drawDistanceOf_any (a : Option Addr) (c : Nat) (bs : List Int) (w : World) (h : RdB w a bs) : Calls Try.prog 31 #[.slice a bs.length c] w fun e w' => CodeAny w e w' ∧ Below w.heap.size w w' := by
 obtain ⟨W0, hW0⟩ : ∃ W0, W0 = w.alloc (.cells #[.int .i64 0, .int .i64 0, .slice none 0 0, .slice none 0 0] 55) := ⟨_, rfl⟩
 have b0 : Below w.heap.size w W0 := by rw [hW0]; exact (Below.refl _ _).alloc (Nat.le_refl _) _
 have k0 : Blk W0 w.heap.size 55 #[.int .i64 0, .int .i64 0, .slice none 0 0, .slice none 0 0] := by rw [hW0]; exact Blk.new _ _ _ rfl
 have z0 : w.heap.size < W0.heap.size := k0.lt
 have HB := hide (h.below b0)
 have HW := Lib.hid hW0
 clear hW0 h
 go_enter Try.func31, Try.ntmps31
 go_upto_region 1 with fail
 rw [← HW.out]
 go_wp2_with fail
 refine (from_any a c bs W0 (unhide HB)).mono ?_
 rintro e w1 ⟨rfl, s1, b1, z1⟩
 go_wp2_with fail
 refine (l18Bent_any W0.heap.size w1 s1).mono ?_
 rintro e w2 ⟨⟨p, d, xs, m, a2, c2, ra2, rc2, rfl, hd, o2, q2⟩, m2⟩
 have k2 := (k0.below b1 k0.lt).kp (m2.kp (.inl (by omega)) (by omega))
 have z2 := m2.size
 have b02 := b0.trans ((b1.trans m2.1).mono (by omega))
 have f0 := k2.cell 0
 have f1 := k2.cell 1
 have f2 := k2.cell 2
 have f3 := k2.cell 3
 have g0 := k2.frozen 0
 have g1 := k2.frozen 1
 have g2 := k2.frozen 2
 have g3 := k2.frozen 3
 go_wp2
 refine bodyPost_ret (results_cell_row rfl _ _ w.heap.size 55 #[.int .i64 p, .int .i64 d, .slice a2 xs.length c2, .slice ra2 m.length rc2] (0, 0) _ rfl (k2.b4.store _ _ _ _) Try.underlying55 rfl (by kernel_rfl)) rfl ⟨⟨p, d, xs, m, _, _, _, _, rfl, hd, ?_, ?_⟩, Below.set4 b02 (Nat.le_refl _) _ _ _ _⟩
 · have hs : w.heap.size < w1.heap.size := by omega
   exact ((((o2.storeBelow hs _).storeBelow hs _).storeBelow hs _).storeBelow hs _).mono (Nat.le_of_lt hs)
 · exact (q2.set4 (by omega) _ _ _ _).mono (by omega)
theorem implFieldSize_any (F : FD) (a : Option Addr) (c : Nat) (w : World) (hx : Rd w a F.poly) (ok : F.Ok) (hk : okF F.p F.k F.poly = true) : Calls Try.prog 34 #[.agg #[.int .i64 F.p, .int .i64 F.k, .slice a F.poly.length c]] w fun e w' => e = .returned (.int .i64 F.n) ∧ Below w.heap.size w w' := by
 obtain ⟨W0, hW0⟩ : ∃ W0, W0 = w.alloc (.cells #[.int .i64 F.p, .int .i64 F.k, .slice a F.poly.length c] 26) := ⟨_, rfl⟩
 have b0 : Below w.heap.size w W0 := by rw [hW0]; exact (Below.refl _ _).alloc (Nat.le_refl _) _
 have k0 : Blk W0 w.heap.size 26 #[.int .i64 F.p, .int .i64 F.k, .slice a F.poly.length c] := by rw [hW0]; exact Blk.new _ _ _ rfl
 have z0 : w.heap.size < W0.heap.size := k0.lt
 have HW := Lib.hid hW0
 have hk6 := ok.k6
 have hV := validField_any F.p F.k a c F.poly W0 (hx.below b0) ⟨by omega, by omega⟩
 rw [hk] at hV
 have HV := hide hV
 have HFS := hide (fun W => fieldSize_any F a c W ok)
 have f0 := k0.cell 0
 have f1 := k0.cell 1
 have f2 := k0.cell 2
 clear hW0 hV
 go_enter Try.func34, Try.ntmps34
 go_wp2_with fail
 rw [← HW.out]
 refine (unhide HV).mono ?_
 rintro e w1 ⟨rfl, b1⟩
 have k1 := k0.below b1 z0
 clear f0 f1 f2
 have f0 := k1.cell 0
 have f1 := k1.cell 1
 have f2 := k1.cell 2
 go_wp2_with fail
 refine (unhide HFS _).mono ?_
 rintro e w2 ⟨rfl, b2⟩
 go_wp2
 go_ret
 exact ⟨rfl, b0.trans ((b1.trans (b2.mono b1.size)).mono (Nat.le_of_lt z0))⟩
end Go.Proofs.Ytpglmogoddgmoaa
namespace Go.Proofs.Ytpglmogoddgmoaa
open Go.RowKit
attribute [local go_sem ↓] Go.wp_at_zero Go.wp_at_succ
theorem leastD_ok {cs : List Int} {d0 : Nat} (h1 : 1 ≤ d0) (h2 : d0 < cs.length) (h3 : nth cs d0 ≠ 0) : 1 ≤ leastD cs ∧ leastD cs ≤ d0 ∧ nth cs (leastD cs) ≠ 0 ∧ ∀ j, 1 ≤ j → j < leastD cs → nth cs j = 0 := by
 cases h : (List.range cs.length).find? (fun d => decide (1 ≤ d) && (nth cs d != 0)) with
 | none =>
  rw [List.find?_eq_none] at h
  have := h d0 (List.mem_range.2 h2)
  simp [h1, h3] at this
 | some d =>
  have e : leastD cs = d := by rw [leastD, h]; rfl
  rw [List.find?_range_eq_some] at h
  obtain ⟨a, b, c⟩ := h
  simp only [Bool.and_eq_true, decide_eq_true_eq, bne_iff_ne] at a
  have hz : ∀ j, 1 ≤ j → j < d → nth cs j = 0 := fun j j1 j2 => by
   have := c j j2
   simp only [Bool.not_eq_true', Bool.and_eq_false_iff, decide_eq_false_iff_not, bne_eq_false_iff_eq] at this
   rcases this with h | h
   · exact absurd j1 h
   · exact h
  rw [e]
  refine ⟨a.1, ?_, a.2, hz⟩
  rcases Nat.lt_or_ge d0 d with hh | hh
  · exact absurd (hz d0 h1 hh) h3
  · exact hh
theorem GC.dist {F : FD} {n : Nat} {m : List (List Int)} (h : GC F n m) : 1 ≤ distC F n m ∧ distC F n m ≤ n := by
 obtain ⟨d0, h1, h2, h3⟩ := h.some_wt
 have := leastD_ok h1 (by rw [wts_len]; omega) h3
 exact ⟨this.1, by have := this.2.1; rw [distC]; omega⟩
end Go.Proofs.Ytpglmogoddgmoaa
namespace Go.Proofs.Ytpglmogoddgmoaa
open Go.RowKit
section
variable {F : FD} {n : Nat} {m : List (List Int)}
def wf (v : Nat → Int) (k : Nat) : Nat := (List.range k).countP fun i => v i != 0
theorem wtTo_wf (xs : List Int) (k : Nat) : wtTo xs k = wf (nth xs) k := by
 induction k with
 | zero => rfl
 | succ k ih =>
  rw [wtTo, ih, wf, wf, List.range_succ, List.countP_append]
  by_cases e : nth xs k = 0
  · rw [if_pos e]; simp [e]
  · rw [if_neg e]; simp [e]
theorem wt_wf {xs : List Int} {k : Nat} (h : xs.length = k) : wt xs = wf (nth xs) k := by rw [wt, wtTo_wf, h]
theorem wf_zeros (v : Nat → Int) (k : Nat) {Z : List Nat} (hn : Z.Nodup) (hz : ∀ i ∈ Z, i < k ∧ v i = 0) : wf v k + Z.length ≤ k := by
 have h1 : Z.length ≤ ((List.range k).filter fun i => ! (v i != 0)).length := nodup_len hn fun x hx => by
  have := hz x hx
  exact List.mem_filter.2 ⟨List.mem_range.2 this.1, by simp [this.2]⟩
 have h2 := List.length_eq_countP_add_countP (fun i => v i != 0) (l := List.range k)
 rw [List.length_range] at h2
 rw [← List.countP_eq_length_filter] at h1
 have h3 : (List.range k).countP (fun i => ! (v i != 0)) = (List.range k).countP (fun a => decide ¬(v a != 0) = true) := List.countP_congr fun x _ => by simp
 rw [wf]
 omega
theorem wf_one {v : Nat → Int} {k i : Nat} (hi : i < k) (h : v i ≠ 0) : 1 ≤ wf v k := List.countP_pos_iff.2 ⟨i, List.mem_range.2 hi, by simpa using h⟩
theorem GC.ech (h : GC F n m) : ∃ pv, Ech F n m pv := by
 obtain ⟨pv, _, hE, _⟩ := form_ech h.good h.mat
 rw [h.fix] at hE
 exact ⟨pv, hE⟩
theorem encTo_sp (ok : F.Ok) {A : List (List Int)} (hM : F.Mat n A) {msg : List Int} (hm : ∀ c ∈ msg, 0 ≤ c ∧ c < F.n) {k : Nat} (hk : k ≤ A.length) : Sp F A (nth (encTo F n A msg k)) := by
 induction k with
 | zero =>
  rw [encTo, show nth (zeros n) = fun _ => 0 from by funext i; exact zeros_nth n i]
  exact .zero
 | succ k ih =>
  have hc : F.el (nth msg k) := by
   rcases Nat.lt_or_ge k msg.length with hh | hh
   · exact (el_n ok).2 (hm _ (nth_mem hh))
   · rw [nth_big hh]; exact zero_el ok
  have h := (ih (by omega)).step (j := k) (by omega) hc
  have e : (fun i => F.add (nth (encTo F n A msg k) i) (F.mul (nth msg k) (nth (nthL A k) i))) = nth (encTo F n A msg (k + 1)) := by
   funext i
   rcases Nat.lt_or_ge i n with hi | hi
   · rw [encTo, addTo_nth F _ _ _ _ (by rw [encTo_len]; exact Nat.le_refl _), if_pos hi]
   · rw [nth_big (xs := encTo F n A msg (k + 1)) (by rw [encTo_len]; exact hi), nth_big (xs := encTo F n A msg k) (by rw [encTo_len]; exact hi), nth_big (xs := nthL A k) (by rw [(Mat_nth hM (i := k) (by omega)).1]; exact hi), mul_zero_all ok, add_zero' ok (zero_el ok)]
  rw [e] at h
  exact h
theorem Ech.enc (ok : F.Ok) {pv : List Nat} (hE : Ech F n m pv) {v : List Int} (hl : v.length = n) (hs : Sp F m (nth v)) : v = encTo F n m (pv.map (nth v)) m.length := by
 refine eq_of_nth (by rw [encTo_len, hl]) fun i hi => ?_
 rw [hl] at hi
 rw [encTo_sum ok n m _ _ hi, hE.coord ok hs i]
 refine sum_congr fun j hj => ?_
 have hj' : j < pv.length := by rw [hE.len]; exact hj
 rw [nth_lt (xs := pv.map (nth v)) (by rw [List.length_map]; exact hj'), List.getElem_map, List.getD_eq_getElem?_getD, List.getElem?_eq_getElem hj']
 rfl
theorem hig_all (ok : F.Ok) {k : Nat} {msg : List Int} (hl : msg.length = k) (he : ∀ c ∈ msg, 0 ≤ c ∧ c < F.n) : ∃ t, t < F.n ^ k ∧ hig t F.n k = msg := by
 have hn : (0 : Int) < F.n := by have := ok.n_bd; omega
 have hr : ∀ c ∈ msg.reverse, 0 ≤ c ∧ c < F.n := fun c hc => he c (List.mem_reverse.1 hc)
 have h := num_bound hn hr
 rw [List.length_reverse, hl] at h
 obtain ⟨t, ht⟩ := Int.eq_ofNat_of_zero_le h.1
 refine ⟨t, ?_, ?_⟩
 · have h2 := h.2
   rw [ht, ← Int.natCast_pow] at h2
   exact Int.ofNat_lt.1 h2
 · rw [hig, ← ht, dig_num hn hr (by rw [List.length_reverse, hl]), List.reverse_reverse]
theorem hig_inj {q k s t : Nat} (hq : 0 < q) (hs : s < q ^ k) (ht : t < q ^ k) (h : hig s q k = hig t q k) : s = t := by
 have e : dig (s : Int) q k = dig (t : Int) q k := by
  have := congrArg List.reverse h
  rwa [hig, hig, List.reverse_reverse, List.reverse_reverse] at this
 have hb : ∀ s : Nat, s < q ^ k → (s : Int) < (q : Int) ^ k := fun s hs => by rw [← Int.natCast_pow]; exact Int.ofNat_lt.2 hs
 have e2 := congrArg (num (q : Int)) e
 rw [num_dig (p := (q : Int)) (by omega) k (by omega) (hb s hs), num_dig (p := (q : Int)) (by omega) k (by omega) (hb t ht)] at e2
 exact Int.ofNat_inj.1 e2
theorem GC.word_sp (h : GC F n m) {j : Nat} (hj : j < F.n ^ m.length) : (nthL (wordsTo F n m m.length) j).length = n ∧ (∀ x ∈ nthL (wordsTo F n m m.length) j, 0 ≤ x ∧ x < F.n) ∧ Sp F m (nth (nthL (wordsTo F n m m.length) j)) := by
 have ok := h.good.ok
 obtain ⟨n2, _⟩ := ok.n_bd
 rw [wordsTo_nth F n m hj]
 exact ⟨encTo_len _ _ _ _ _, encTo_el ok _ _ _ _, encTo_sp ok h.mat (hig_el j (by omega) _) (Nat.le_refl _)⟩
theorem GC.sp_word (h : GC F n m) {v : List Int} (hl : v.length = n) (hs : Sp F m (nth v)) : ∃ j, j < F.n ^ m.length ∧ nthL (wordsTo F n m m.length) j = v := by
 have ok := h.good.ok
 obtain ⟨pv, hE⟩ := h.ech
 have he := hE.enc ok hl hs
 obtain ⟨t, ht, e⟩ := hig_all ok (k := m.length) (msg := pv.map (nth v)) (by rw [List.length_map, hE.len]) fun c hc => by
  obtain ⟨i, _, rfl⟩ := List.mem_map.1 hc
  exact (el_n ok).1 (hs.el ok i)
 exact ⟨t, ht, by rw [wordsTo_nth F n m ht, e, ← he]⟩
theorem GC.word_inj (h : GC F n m) {i j : Nat} (hi : i < F.n ^ m.length) (hj : j < F.n ^ m.length) (e : nthL (wordsTo F n m m.length) i = nthL (wordsTo F n m m.length) j) : i = j := by
 have ok := h.good.ok
 obtain ⟨n2, _⟩ := ok.n_bd
 obtain ⟨pv, hE⟩ := h.ech
 rw [wordsTo_nth F n m hi, wordsTo_nth F n m hj] at e
 refine hig_inj (by omega) hi hj (eq_of_nth (by rw [hig_len, hig_len]) fun l hl => ?_)
 rw [hig_len] at hl
 have h1 := encTo_piv ok hE (hig_el i (show 0 < F.n by omega) m.length) hl
 have h2 := encTo_piv ok hE (hig_el j (show 0 < F.n by omega) m.length) hl
 rw [← h1, e, h2]
theorem cntW_count (words : List (List Int)) {n d : Nat} (hd : d ≤ n) (k : Nat) : nth (cntW words n k) d = (((List.range k).countP fun j => wt (nthL words j) == d : Nat) : Int) := by
 induction k with
 | zero => rw [cntW, zeros_nth]; rfl
 | succ k ih =>
  rw [cntW, List.range_succ, List.countP_append]
  by_cases e : wt (nthL words k) = d
  · rw [e, nth_set_same (by rw [cntW_len]; omega), ih]
    simp [e]
  · rw [nth_set_ne e, ih]
    simp [e]
theorem GC.wts_count (_h : GC F n m) {d : Nat} (hd : d ≤ n) : nth (wts F n m) d = (((List.range (F.n ^ m.length)).countP fun j => wt (nthL (wordsTo F n m m.length) j) == d : Nat) : Int) := by
 rw [wts, cntW_count _ hd, wordsTo_len]
theorem GC.dist_spec (h : GC F n m) : (∃ v, v.length = n ∧ Sp F m (nth v) ∧ wt v = distC F n m) ∧ ∀ v, v.length = n → Sp F m (nth v) → 1 ≤ wt v → distC F n m ≤ wt v := by
 have ok := h.good.ok
 obtain ⟨d0, h1, h2, h3⟩ := h.some_wt
 have hl := leastD_ok h1 (by rw [wts_len]; omega) h3
 rw [← show distC F n m = leastD (wts F n m) from rfl] at hl
 constructor
 · have h4 := hl.2.2.1
   rw [h.wts_count (by omega)] at h4
   have h5 : 0 < (List.range (F.n ^ m.length)).countP fun j => wt (nthL (wordsTo F n m m.length) j) == distC F n m := by omega
   obtain ⟨j, hj, hw⟩ := List.countP_pos_iff.1 h5
   have hj' := List.mem_range.1 hj
   have hs := h.word_sp hj'
   exact ⟨_, hs.1, hs.2.2, by simpa using hw⟩
 · intro v hv hs hw
   obtain ⟨j, hj, e⟩ := h.sp_word hv hs
   have hle : wt v ≤ n := by rw [wt, hv]; exact wtTo_le _ _
   rcases Nat.lt_or_ge (wt v) (distC F n m) with hlt | hge
   · have h4 := hl.2.2.2 (wt v) hw hlt
     rw [h.wts_count hle] at h4
     have h5 : 0 < (List.range (F.n ^ m.length)).countP fun j => wt (nthL (wordsTo F n m m.length) j) == wt v := List.countP_pos_iff.2 ⟨j, List.mem_range.2 hj, by rw [e]; simp⟩
     omega
   · exact hge
theorem GC.singleton (h : GC F n m) : distC F n m + m.length ≤ n + 1 := by
 have ok := h.good.ok
 obtain ⟨n2, _⟩ := ok.n_bd
 obtain ⟨pv, hE⟩ := h.ech
 have hm := h.m1
 have hr := Mat_nth h.mat (i := 0) (by omega)
 have hpl := hE.len
 have hs := Sp.row ok h.mat (j := 0) (by omega)
 have h1 : nth (nthL m 0) (pv.getD 0 0) = 1 := by rw [hE.one 0 0 (by omega) (by omega), if_pos rfl]
 have h2 : 1 ≤ wt (nthL m 0) := by
  rw [wt_wf hr.1]
  exact wf_one (hE.lt 0 (by omega)) (by omega)
 have h3 := h.dist_spec.2 _ hr.1 hs h2
 have h4 := wf_zeros (nth (nthL m 0)) n (Z := (List.range (m.length - 1)).map fun j => pv.getD (j + 1) 0) (by
  rw [List.Nodup, List.pairwise_map]
  refine List.Pairwise.imp_of_mem (fun {a b} ha hb hab => ?_) (List.pairwise_lt_range)
  have := hE.mono (a + 1) (b + 1) (by omega) (by have := List.mem_range.1 hb; omega)
  omega) fun i hi => by
   obtain ⟨j, hj, rfl⟩ := List.mem_map.1 hi
   have := List.mem_range.1 hj
   exact ⟨hE.lt _ (by omega), by rw [hE.one 0 (j + 1) (by omega) (by omega), if_neg (by omega)]⟩
 rw [List.length_map, List.length_range, ← wt_wf hr.1] at h4
 omega
end
end Go.Proofs.Ytpglmogoddgmoaa
namespace Go.Proofs.Ytpglmogoddgmoaa
open Go.RowKit
theorem exists_min {α : Type} (P : α → Prop) (f : α → Nat) (h : ∃ a, P a) : ∃ a, P a ∧ ∀ b, P b → f a ≤ f b := by
 have key : ∀ n a, P a → f a = n → ∃ a, P a ∧ ∀ b, P b → f a ≤ f b := by
  intro n
  induction n using Nat.strongRecOn with
  | ind n ih =>
   intro a ha hn
   by_cases hb : ∃ b, P b ∧ f b < n
   · obtain ⟨b, hb, hl⟩ := hb
     exact ih _ hl b hb rfl
   · exact ⟨a, ha, fun b hb' => Nat.le_of_not_lt fun h => hb ⟨b, hb', by omega⟩⟩
 obtain ⟨a, ha⟩ := h
 exact key _ a ha rfl
def wp (p : Nat → Bool) (v : Nat → Int) : Nat → Nat
 | 0 => 0
 | n + 1 => wp p v n + if p n = true ∧ v n ≠ 0 then 1 else 0
theorem wp_wf (v : Nat → Int) (n : Nat) : wp (fun _ => true) v n = wf v n := by
 induction n with
 | zero => rfl
 | succ n ih =>
  rw [wp, ih, wf, wf, List.range_succ, List.countP_append]
  by_cases h : v n = 0
  · rw [if_neg (by simp [h])]; simp [h]
  · rw [if_pos ⟨rfl, h⟩]; simp [h]
theorem wp_split (p : Nat → Bool) (c : Nat → Int) (n : Nat) : wp p (fun _ => 1) n = wp p c n + wp (fun x => p x && (c x == 0)) (fun _ => 1) n := by
 induction n with
 | zero => rfl
 | succ n ih =>
  rw [wp, wp, wp, ih]
  by_cases h1 : p n = true
  · by_cases h2 : c n = 0
    · rw [if_pos ⟨h1, by decide⟩, if_neg (by simp [h2]), if_pos (by simp [h1, h2])]; omega
    · rw [if_pos ⟨h1, by decide⟩, if_pos ⟨h1, h2⟩, if_neg (by simp [h1, h2])]; omega
  · rw [if_neg (by simp [h1]), if_neg (by simp [h1]), if_neg (by simp [h1])]; rfl
theorem wp_all (n : Nat) : wp (fun _ => true) (fun _ => 1) n = n := by
 induction n with
 | zero => rfl
 | succ n ih => rw [wp, ih, if_pos (by decide)]
theorem smq_add (f g : Nat → Nat) (n : Nat) : smq (fun x => f x + g x) n = smq f n + smq g n := by
 induction n with
 | zero => rfl
 | succ n ih => rw [smq, smq, smq, ih]; omega
theorem smq_ge {f : Nat → Nat} {n d : Nat} (h : ∀ x, x < n → d ≤ f x) : n * d ≤ smq f n := by
 induction n with
 | zero => simp
 | succ n ih =>
  rw [smq, Nat.succ_mul]
  have := ih fun x hx => h x (by omega)
  have := h n (by omega)
  omega
theorem smq_but (x0 n : Nat) : smq (fun x => if x = x0 then 0 else 1) n + (if x0 < n then 1 else 0) = n := by
 induction n with
 | zero => rfl
 | succ n ih =>
  rw [smq]
  by_cases h : n = x0
  · rw [if_pos h, if_pos (by omega)]
    rw [if_neg (by omega)] at ih
    omega
  · rw [if_neg h]
    by_cases h2 : x0 < n
    · rw [if_pos h2] at ih; rw [if_pos (by omega)]; omega
    · rw [if_neg h2] at ih; rw [if_neg (by omega)]; omega
section
variable {F : FD}
theorem col_sum (hG : F.Good) {v c : Int} (hv : F.el v) (hc : F.el c) (b : Bool) :
    smq (fun t => if b = true ∧ F.add v (F.mul t c) ≠ 0 then 1 else 0) F.n = F.n * (if (b && (c == 0)) = true ∧ v ≠ 0 then 1 else 0) + (F.n - 1) * (if b = true ∧ c ≠ 0 then 1 else 0) := by
 have ok := hG.ok
 obtain ⟨n2, _⟩ := ok.n_bd
 cases b with
 | false =>
  rw [if_neg (by simp), if_neg (by simp), smq_congr (g := fun _ => 0) (fun t _ => if_neg (by simp)), smq_const, Nat.mul_zero, Nat.mul_zero]
 | true =>
  by_cases h0 : c = 0
  · subst h0
    rw [smq_congr (g := fun _ => if v ≠ 0 then 1 else 0) (fun t _ => by rw [mul_zero_all ok, add_zero' ok hv]; simp), smq_const]
    simp
  · have hcn := (el_n ok).1 hc
    obtain ⟨x0, hx, hiff⟩ := div_one hG (a := c) (b := F.sub 0 v) (by omega) hcn.2 (sub_el' ok _ _)
    rw [smq_congr (g := fun x => if x = x0 then 0 else 1) fun t ht => ?_]
    · have := smq_but x0 F.n
      rw [if_pos hx] at this
      rw [if_neg (by simp [h0]), if_pos ⟨rfl, h0⟩]
      omega
    · have key : F.add v (F.mul t c) = 0 ↔ t = x0 := by rw [add_eq ok (mul_el ok _ _) (zero_el ok), mul_comm' ok, hiff t ht]
      by_cases ht0 : t = x0
      · rw [if_pos ht0, if_neg fun e => e.2 (key.2 ht0)]
      · rw [if_neg ht0, if_pos ⟨rfl, fun e => ht0 (key.1 e)⟩]
theorem wp_sum (hG : F.Good) {v c : Nat → Int} (hv : ∀ x, F.el (v x)) (hc : ∀ x, F.el (c x)) (p : Nat → Bool) (n : Nat) :
    smq (fun t => wp p (fun x => F.add (v x) (F.mul t (c x))) n) F.n = F.n * wp (fun x => p x && (c x == 0)) v n + (F.n - 1) * wp p c n := by
 induction n with
 | zero => simp only [wp]; rw [smq_const]; simp
 | succ n ih =>
  simp only [wp]
  rw [smq_add, ih, col_sum hG (hv n) (hc n) (p n), Nat.mul_add, Nat.mul_add]
  omega
def GR (q : Nat) : Nat → Nat → Nat
 | 0, _ => 0
 | k + 1, d => d + GR q k ((d + q - 1) / q)
theorem gS_cons (q d : Int) (k : Nat) : gS q d (k + 1) = (d + (gS q ((d + q - 1) / q) k).1, (gS q ((d + q - 1) / q) k).2) := by
 induction k with
 | zero => simp [gS]
 | succ k ih =>
  rw [gS, ih]
  simp only [gS]
  rw [Int.add_assoc]
theorem gS_GR (q : Nat) (hq : 1 ≤ q) (k : Nat) : ∀ d : Nat, (gS q d k).1 = (GR q k d : Int) := by
 induction k with
 | zero => intro d; rfl
 | succ k ih =>
  intro d
  have e : ((d : Int) + (q : Int) - 1) / (q : Int) = (((d + q - 1) / q : Nat) : Int) := by
   rw [Int.natCast_ediv]
   congr 1
   omega
  rw [gS_cons, e, ih, GR]
  simp
theorem gri_core (hG : F.Good) {n k : Nat} (R : Nat → Nat → Int) (hR : ∀ i x, F.el (R i x)) : ∀ (s : Nat) (L : List Nat) (p : Nat → Bool) (d : Nat), L.length = s → L.Nodup → (∀ i ∈ L, i < k) →
    (∀ a : Nat → Int, (∀ i, F.el (a i)) → (∀ i, i ∉ L → a i = 0) → (∃ i, a i ≠ 0) → d ≤ wp p (fun x => dt F k a (fun i => R i x)) n) → GR F.n s d ≤ wp p (fun _ => 1) n := by
 have ok := hG.ok
 obtain ⟨n2, _⟩ := ok.n_bd
 intro s
 induction s with
 | zero => intro L p d _ _ _ _; exact Nat.zero_le _
 | succ s ih =>
  intro L p d hLl hLn hLk hmin
  have h1el : F.el 1 := (el_n ok).2 ⟨by omega, by omega⟩
  have hex : ∃ a : Nat → Int, (∀ i, F.el (a i)) ∧ (∀ i, i ∉ L → a i = 0) ∧ (∃ i, a i ≠ 0) := by
   obtain ⟨j, hj⟩ : ∃ j, j ∈ L := by
    cases L with
    | nil => simp at hLl
    | cons j L => exact ⟨j, List.mem_cons_self⟩
   refine ⟨fun i => if i = j then 1 else 0, fun i => ?_, fun i hi => if_neg fun (e : i = j) => hi (by rw [e]; exact hj), j, by simp⟩
   dsimp only
   split
   · exact h1el
   · exact zero_el ok
  obtain ⟨a0, ⟨ha0, hs0, i0, hi0⟩, hm0⟩ := exists_min (fun a : Nat → Int => (∀ i, F.el (a i)) ∧ (∀ i, i ∉ L → a i = 0) ∧ (∃ i, a i ≠ 0)) (fun a => wp p (fun x => dt F k a (fun i => R i x)) n) hex
  have hi0L : i0 ∈ L := Classical.byContradiction fun h => hi0 (hs0 i0 h)
  have hd0 := hmin a0 ha0 hs0 ⟨i0, hi0⟩
  generalize hc : (fun x => dt F k a0 (fun i => R i x)) = c at *
  have hcel : ∀ x, F.el (c x) := fun x => by rw [← hc]; exact sum_el ok _ _
  have hrec := ih (L.erase i0) (fun x => p x && (c x == 0)) ((d + F.n - 1) / F.n) (by rw [List.length_erase_of_mem hi0L]; omega) (hLn.erase _) (fun i hi => hLk i (List.mem_of_mem_erase hi)) fun b hb hbs hbn => by
   have hb0 : b i0 = 0 := hbs i0 fun h => (List.Nodup.mem_erase_iff hLn).1 h |>.1 rfl
   have hge : ∀ t : Nat, t < F.n → wp p c n ≤ wp p (fun x => F.add (dt F k b (fun i => R i x)) (F.mul t (c x))) n := fun t ht => by
    have h := hm0 (fun i => F.add (b i) (F.mul t (a0 i))) ⟨fun i => lin_el ok _ _ _, fun i hi => by
        rw [hs0 i hi, hbs i fun h => hi (List.mem_of_mem_erase h), mul_zero_all ok, add_zero' ok (zero_el ok)], ?_⟩
    · have e : (fun x => dt F k (fun i => F.add (b i) (F.mul t (a0 i))) (fun i => R i x)) = fun x => F.add (dt F k b (fun i => R i x)) (F.mul t (c x)) := by
        funext x
        rw [dt_add ok, dt_mul ok, ← hc]
      rw [e] at h
      exact h
    · by_cases ht0 : t = 0
      · obtain ⟨i, hi⟩ := hbn
        refine ⟨i, ?_⟩
        rw [ht0, show ((0 : Nat) : Int) = 0 from rfl, zero_mul_all ok, add_zero' ok (hb i)]
        exact hi
      · refine ⟨i0, fun e => ?_⟩
        rw [hb0, zero_add' ok (mul_el ok _ _)] at e
        rcases no_div hG ((el_n ok).2 ⟨by omega, by omega⟩) (ha0 i0) e with h | h
        · omega
        · exact hi0 h
   have hs := wp_sum hG (v := fun x => dt F k b (fun i => R i x)) (c := c) (fun x => sum_el ok _ _) hcel p n
   have hl := smq_ge (n := F.n) hge
   rw [hs] at hl
   generalize wp (fun x => p x && (c x == 0)) (fun x => dt F k b (fun i => R i x)) n = W at hl ⊢
   have h2 : F.n * wp p c n = (F.n - 1) * wp p c n + wp p c n := by
    obtain ⟨y, hy⟩ : ∃ y, F.n = y + 1 := ⟨F.n - 1, by omega⟩
    rw [hy, Nat.add_sub_cancel, Nat.succ_mul]
   have h3 : d ≤ F.n * W := by omega
   refine Nat.le_of_lt_succ (Nat.div_lt_of_lt_mul ?_)
   rw [Nat.mul_succ]
   omega
  rw [GR, wp_split p c n]
  omega
theorem GC.griesmer {n : Nat} {m : List (List Int)} (h : GC F n m) : (gS F.n (distC F n m) m.length).1 ≤ n := by
 have ok := h.good.ok
 obtain ⟨n2, _⟩ := ok.n_bd
 obtain ⟨pv, hE⟩ := h.ech
 rw [gS_GR F.n (by omega)]
 have hg := gri_core h.good (n := n) (k := m.length) (fun i x => nth (nthL m i) x) (fun i x => row_el ok h.mat i x) m.length (List.range m.length) (fun _ => true) (distC F n m) List.length_range List.nodup_range (fun i hi => List.mem_range.1 hi) fun a ha has hne => by
  have hmsg : ∀ c ∈ (List.range m.length).map a, 0 ≤ c ∧ c < (F.n : Int) := fun c hc => by
   obtain ⟨i, _, rfl⟩ := List.mem_map.1 hc
   exact (el_n ok).1 (ha i)
  have hsp := encTo_sp ok h.mat hmsg (Nat.le_refl m.length)
  have hl := encTo_len F n m ((List.range m.length).map a) m.length
  have hnth : ∀ x, x < n → nth (encTo F n m ((List.range m.length).map a) m.length) x = dt F m.length a (fun i => nth (nthL m i) x) := fun x hx => by
   rw [encTo_sum ok n m _ m.length hx, dt]
   refine sum_congr fun j hj => ?_
   rw [show nth ((List.range m.length).map a) j = a j from by simp [nth, hj]]
  have hww : wp (fun _ => true) (fun x => dt F m.length a (fun i => nth (nthL m i) x)) n = wt (encTo F n m ((List.range m.length).map a) m.length) := by
   rw [wp_wf, wt_wf hl, wf, wf]
   refine List.countP_congr fun x hx => ?_
   rw [hnth x (List.mem_range.1 hx)]
  rw [hww]
  refine h.dist_spec.2 _ hl hsp ?_
  rw [← hww, wp_wf]
  obtain ⟨i, hi⟩ := hne
  have him : i < m.length := Classical.byContradiction fun e => hi (has i fun h => e (List.mem_range.1 h))
  have hpl := hE.len
  refine wf_one (hE.lt i (by omega)) ?_
  rw [dt, sum_one ok him (f := fun j => F.mul (a j) (nth (nthL m j) (pv.getD i 0))) (mul_el ok _ _) fun j hj hji => by
   try dsimp only
   rw [hE.one j i (by omega) (by omega), if_neg hji, mul_zero_all ok]]
  try dsimp only
  rw [hE.one i i (by omega) (by omega), if_pos rfl, mul_comm' ok, one_mul' ok (ha i)]
  exact hi
 rw [wp_all] at hg
 exact Int.ofNat_le.2 hg
end
end Go.Proofs.Ytpglmogoddgmoaa
