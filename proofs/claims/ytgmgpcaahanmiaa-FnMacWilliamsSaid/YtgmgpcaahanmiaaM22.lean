/-
  Texts joined.
-/
import Derived.Test.YtgmgpcaahanmiaaM4
import Derived.Test.YtgmgpcaahanmiaaM5
import Derived.Test.YtgmgpcaahanmiaaM6
import Derived.Test.YtgmgpcaahanmiaaM7
import Derived.Test.YtgmgpcaahanmiaaM15
import Derived.Test.YtgmgpcaahanmiaaM18
import Derived.Test.YtgmgpcaahanmiaaM21
set_option linter.unusedVariables false
set_option linter.unusedSimpArgs false
set_option maxRecDepth 100000
set_option maxHeartbeats 40000000
namespace Go.Proofs.Ytgmgpcaahanmiaa
open Go.RowKit
attribute [local go_sem ↓] Go.wp_at_zero Go.wp_at_succ
theorem Own.mk {w w' : World} {B g : Nat} {v : Value} {xs : List Int} (h : Own w B v xs) (m : Mk w w' g (g + 1)) (hB : g < B) : Own w' B v xs := (h.toH.kp (m.kp (.inr (by omega)) (Nat.le_refl _))).1
theorem OwnS.mk {w w' : World} {B g : Nat} {v : Value} {xss : List (List Int)} (h : OwnS w B v xss) (m : Mk w w' g (g + 1)) (hB : g < B) : OwnS w' B v xss := (h.toH.kp (m.kp (.inr (by omega)) (Nat.le_refl _))).own
theorem Mk.own {w a b : World} {lo hi k : Nat} (h : Mk w a lo hi) (hg : a.grownBy b (some k)) (hk : w.heap.size ≤ k) (hlo : lo ≤ w.heap.size) : Mk w b lo hi :=
 ⟨h.1.grown hg (by have := h.size; omega) (fun q hq => by injection hq; omega), fun c hc hcw => (hg.block c (by have := h.size; omega) (fun e => by injection e; omega)).trans (h.2 c hc hcw)⟩
theorem Mk.new {w a b : World} {lo hi : Nat} (h : Mk w a lo hi) (hb : Below w.heap.size a b) (hlo : lo ≤ w.heap.size) : Mk w b lo hi := ⟨h.1.trans (hb.mono hlo), fun c hc hcw => (hb.block c hcw).trans (h.2 c hc hcw)⟩
theorem Mk.app {w a b : World} {lo hi B : Nat} {v : Value} {xs : List Int} (h : Mk w a lo hi) (hg : a.grownBy b v.ownBlock) (ho : Own a B v xs) (hB : w.heap.size ≤ B) (hlo : lo ≤ w.heap.size) : Mk w b lo hi := by
 cases e : v.ownBlock with
 | none =>
  rw [e] at hg
  refine ⟨h.1.grown hg (by have := h.size; omega) (fun q hq => by simp at hq), fun c hc hcw => (hg.block c (by have := h.size; omega) (by simp)).trans (h.2 c hc hcw)⟩
 | some k =>
  rw [e] at hg
  exact h.own hg (by have := (ho.lt k e).1; omega) hlo
theorem Src.keep {w w' : World} {g T B : Nat} (h : Src w g T) (hb : Below B w w') (hB : g < B) : Src w' g T := h.kp ⟨hb.size, fun c _ hc => hb.block c (by omega)⟩
theorem RdS.row_same {w : World} {a : Option Addr} {xss : List (List Int)} {b o : Nat} (h : RdS w a xss) (ha : a = some ⟨b, o, none⟩) {i : Nat} (hi : i < xss.length) {ai : Option Addr} {n ci : Nat} (hc : w.cell? ⟨b, o + i, none⟩ = some (.slice ai n ci)) : Rd w ai (nthL xss i) := by
 obtain ⟨b', o', e, _, hcc⟩ := h.at_ (by omega)
 rw [ha] at e
 injection e with e
 injection e with e1 e2
 subst e1
 subst e2
 obtain ⟨a', c', h1, h2⟩ := hcc i hi
 rw [hc] at h1
 injection h1 with h1
 injection h1 with h1 _ _
 subst h1
 exact h2
def lenV : Value → Nat
 | .slice _ n _ => n
 | _ => 0
def VecD (w : World) (g T : Nat) (F : FD) (n : Nat) (e : Ending) (w' : World) : Prop :=
 ∃ (v : Value) (xs : List Int), e = .returned v ∧ xs.length = n ∧ (∀ x ∈ xs, 0 ≤ x ∧ x < F.n) ∧ Own w' w.heap.size v xs ∧ Src w' g T ∧ Mk w w' g (g + 1)
theorem drawVector_any (g T gF : Nat) (F : FD) (n : Nat) (w : World) (h : Src w g T) (hn : n ≤ 1000) (hT : T ≤ 1000000000) (hF : ∀ w', Mk w w' g (g + 1) → PF w' gF F) (ok : F.Ok) :
    Calls Try.prog 129 #[.pointer (some ⟨g, 0, none⟩), .pointer (some ⟨gF, 0, none⟩), .int .i64 n] w (VecD w g (T + 4 * n) F n) := by
 obtain ⟨n2, n64⟩ := ok.n_bd
 have hlt := h.lt
 have HF := hide hF
 have HS := hide h
 clear hF h
 go_enter Try.func129, Try.ntmps129
 go_wp2_with fail
 go_loopw [2, 7] (fun mv v wr => ∃ (m : Nat) (xs : List Int), mv = .int .i64 m ∧ m ≤ n ∧ xs.length + m = n ∧ Hid (∀ x ∈ xs, 0 ≤ x ∧ x < F.n) ∧ Hid (Own wr w.heap.size v xs) ∧ Src wr g (T + 4 * xs.length) ∧ Mk w wr g (g + 1)) (fun mv _ _ => (intOf mv).toNat)
 case atStart => exact ⟨n, [], rfl, Nat.le_refl _, by simp, by show ∀ x ∈ ([] : List Int), _; simp, Own.empty w (Nat.le_refl _), ((unhide HS).below ((Below.refl _ _).alloc (Nat.le_refl _) _)).mono (by omega), Mk.alloc ((Below.refl _ _).alloc (Nat.le_refl _) _) (by omega)⟩
 case round =>
  obtain ⟨m, xs, rfl, hm, hl, he, ho, hs, hmk⟩ := hrel
  have hsz := hmk.size
  by_cases hm0 : 0 < m
  · obtain ⟨m, rfl⟩ : ∃ k, m = k + 1 := ⟨m - 1, by omega⟩
    obtain ⟨v7, rfl⟩ : ∃ v7, v7 = u7 := ⟨_, rfl⟩
    go_wp2_with fail
    refine (l03Size_any gF F wr (unhide HF _ hmk) ok).mono ?_
    rintro e w1 ⟨rfl, b1⟩
    have m1 := hmk.new (b1.mono hsz) (by omega)
    have s1 := hs.below b1
    have o1 := ho.out.below b1 (Nat.le_refl _)
    go_wp2_with fail
    refine (pick_any g (T + 4 * xs.length) F.n w1 s1 (by omega)).mono ?_
    rintro e w2 ⟨x, rfl, hx, hx2, s2, k2⟩
    have m2 := m1.trans k2
    have o2 := o1.mk k2 hlt
    have hxn : (x : Int) < F.n := by rcases hx with h | h <;> omega
    go_wp2_with fail
    refine (one_any g (T + 4 * xs.length + 2) 3 w2 s2 (by omega)).mono ?_
    rintro e w3 ⟨b, rfl, s3, k3⟩
    have m3 := m2.trans k3
    have o3 := o2.mk k3 hlt
    have z3 := m3.size
    clear hs s1 s2 o1 o2 m1 m2 k2 k3 hmk
    have HO := Lib.hid o3
    clear o3
    cases b with
    | true =>
     go_wp2_with (at_builtin; refine wpList_append_ints rfl (.tmp 20) (.tmp 22) rfl w.heap.size v7 xs [0] rfl (HO.out.alloc _) _ 1 1 rfl rfl (Rd.one w3 0 _) (by simp; omega) (by simp; omega) ?_; intro v1 w4 o4 g4 _)
     go_roundw
     case rel =>
      have b4 : Below w.heap.size w3 w4 := Below.step ((Below.refl _ _).alloc z3 _) g4 (HO.out.alloc _) (Nat.le_refl _) (by simp; omega)
      refine ⟨m, xs ++ [0], by go_num, by omega, by simp; omega, ?_, o4, (s3.keep b4 hlt).mono (by simp; omega), m3.new b4 (by omega)⟩
      intro y hy
      rcases List.mem_append.1 hy with h | h
      · exact he.out y h
      · rw [List.mem_singleton.1 h]; omega
     case measure => simp only [intOf]; omega
    | false =>
     go_wp2_with (at_builtin; refine wpList_append_ints rfl (.tmp 20) (.tmp 22) rfl w.heap.size v7 xs [(x : Int)] rfl (HO.out.alloc _) _ 1 1 rfl rfl (Rd.one w3 x _) (by simp; omega) (by simp; omega) ?_; intro v1 w4 o4 g4 _)
     go_roundw
     case rel =>
      have b4 : Below w.heap.size w3 w4 := Below.step ((Below.refl _ _).alloc z3 _) g4 (HO.out.alloc _) (Nat.le_refl _) (by simp; omega)
      refine ⟨m, xs ++ [(x : Int)], by go_num, by omega, by simp; omega, ?_, o4, (s3.keep b4 hlt).mono (by simp; omega), m3.new b4 (by omega)⟩
      intro y hy
      rcases List.mem_append.1 hy with h | h
      · exact he.out y h
      · rw [List.mem_singleton.1 h]; omega
     case measure => simp only [intOf]; omega
  · have hme : m = 0 := by omega
    subst hme
    go_wp2
    go_ret
    exact ⟨_, xs, rfl, by omega, he.out, ho.out, hs.mono (by omega), hmk⟩
end Go.Proofs.Ytgmgpcaahanmiaa
namespace Go.Proofs.Ytgmgpcaahanmiaa
open Go.RowKit
attribute [local go_sem ↓] Go.wp_at_zero Go.wp_at_succ
theorem drawField_any (g T : Nat) (w : World) (h : Src w g T) (hT : T ≤ 1000000000) :
    Calls Try.prog 193 #[.pointer (some ⟨g, 0, none⟩)] w fun e w' => ∃ (v : Value) (F : FD), e = .returned (.agg #[.int .i64 F.p, .int .i64 F.k, v]) ∧ F.Good ∧ F.n ≤ 9 ∧ Own w' w.heap.size v F.poly ∧ Src w' g (T + 2) ∧ Mk w w' g (g + 1) := by
 obtain ⟨W0, hW0⟩ : ∃ W0, W0 = w.alloc (.cells #[.int .i64 0, .int .i64 0, .slice none 0 0] 34) := ⟨_, rfl⟩
 have b0 : Below w.heap.size w W0 := by rw [hW0]; exact (Below.refl _ _).alloc (Nat.le_refl _) _
 have k0 : Blk W0 w.heap.size 34 #[.int .i64 0, .int .i64 0, .slice none 0 0] := by rw [hW0]; exact Blk.new _ _ _ rfl
 have z0 : w.heap.size < W0.heap.size := k0.lt
 have hlt := h.lt
 have HB := hide (h.below b0)
 have HW := Lib.hid hW0
 clear hW0 h
 go_enter Try.func193, Try.ntmps193
 go_upto_region 1 with fail
 rw [← HW.out]
 go_wp2_with fail
 refine (among_new g T [2, 2, 3, 4, 5, 7, 8, 9] W0 (unhide HB) (by omega) (by decide) (by decide) rfl rfl).mono ?_
 rintro e w1 ⟨i, hi, rfl, s1, m1⟩
 have hq := nth_all (P := fun q => isField q = true) hi (by decide +kernel)
 have hq9 := nth_all (P := fun q => q ≤ 9) hi (by decide)
 generalize nth [2, 2, 3, 4, 5, 7, 8, 9] i = q at hq hq9
 go_wp2_with fail
 refine (l03Make_any q w1 hq).mono ?_
 rintro e w2 ⟨v, rfl, o2, b2⟩
 have hG := fdOf_good hq
 have hn9 : (fdOf q).n ≤ 9 := by
  obtain ⟨ok, hpk, _⟩ := fdOf_ok hq
  have := ok.n_eq
  omega
 generalize fdOf q = F at hG o2 hn9
 have z1 := m1.size
 have z2 := b2.size
 have mm := ((Mk.alloc b0 (by omega : g ≤ w.heap.size)).trans m1).new (b2.mono (by omega)) (by omega)
 have k2 := (k0.kp (m1.kp (.inr (by omega)) k0.lt)).below b2 (by have := k0.lt; omega)
 have s2 := s1.below b2
 obtain ⟨a2, c2, rfl, r2, _⟩ := o2.form
 have f0 := k2.cell 0
 have f1 := k2.cell 1
 have f2 := k2.cell 2
 have g0 := k2.frozen 0
 have g1 := k2.frozen 1
 have g2 := k2.frozen 2
 go_wp2
 refine bodyPost_ret (results_cell_row rfl _ _ w.heap.size 34 #[.int .i64 F.p, .int .i64 F.k, .slice a2 F.poly.length c2] (0, 0) _ rfl (k2.b3.store _ _ _) Try.underlying34 rfl (by kernel_rfl)) rfl ⟨_, F, rfl, hG, hn9, ?_, ?_, ?_⟩
 · have hs : w.heap.size < w1.heap.size := by omega
   exact (((o2.storeBelow hs _).storeBelow hs _).storeBelow hs _).mono (Nat.le_of_lt hs)
 · exact s2.keep (Below.set3 (Below.refl _ _) (Nat.le_refl _) _ _ _) hlt
 · exact mm.new (Below.set3 (Below.refl _ _) (Nat.le_refl _) _ _ _) (by omega)
def MatD (w : World) (g T : Nat) (F : FD) (n rows : Nat) (e : Ending) (w' : World) : Prop :=
 ∃ (v : Value) (xss : List (List Int)), e = .returned v ∧ xss.length = rows ∧ F.Mat n xss ∧ OwnS w' w.heap.size v xss ∧ Src w' g T ∧ Mk w w' g (g + 1)
theorem drawRows_any (g T gF : Nat) (F : FD) (n rows : Nat) (w : World) (h : Src w g T) (hn : n ≤ 1000) (hr : rows ≤ 1000) (hT : T ≤ 100000000) (hF : ∀ w', Mk w w' g (g + 1) → PF w' gF F) (ok : F.Ok) :
    Calls Try.prog 194 #[.pointer (some ⟨g, 0, none⟩), .pointer (some ⟨gF, 0, none⟩), .int .i64 rows, .int .i64 n] w (MatD w g (T + 5000 * rows) F n rows) := by
 obtain ⟨n2, n64⟩ := ok.n_bd
 have hlt := h.lt
 have HF := hide hF
 have HS := hide h
 clear hF h
 go_enter Try.func194, Try.ntmps194
 go_wp2_with fail
 go_loopw [9] (fun v wr => ∃ (xss : List (List Int)), xss.length ≤ rows ∧ Hid (F.Mat n xss) ∧ Hid (OwnS wr w.heap.size v xss) ∧ Hid (Src wr g (T + 5000 * xss.length)) ∧ Mk w wr g (g + 1) ∧ lenV v = xss.length) (fun v _ => rows - lenV v)
 case atStart => exact ⟨[], Nat.zero_le _, by intro x hx; simp at hx, OwnS.empty w (Nat.le_refl _), ((unhide HS).below ((Below.refl _ _).alloc (Nat.le_refl _) _)).mono (by omega), Mk.alloc ((Below.refl _ _).alloc (Nat.le_refl _) _) (by omega), rfl⟩
 case round =>
  obtain ⟨xss, hl, hM, ho, hs, hmk, hlv⟩ := hrel
  have hsz := hmk.size
  obtain ⟨a9, c9, rfl, rds⟩ := ho.out.form
  have hxm := rds.len
  by_cases hlr : xss.length < rows
  · go_wp2_with fail
    refine (drawVector_any g (T + 5000 * xss.length) gF F n wr hs.out hn (by omega) (fun w' m => unhide HF _ (hmk.trans m)) ok).mono ?_
    rintro e w1 ⟨v1, xs, rfl, hxl, hxe, o1, s1, m1⟩
    have hH := ho.out.toH.kp (m1.kp (.inr (by omega)) (Nat.le_refl _))
    have z1 := m1.size
    have mk1 := hmk.trans m1
    have rds1 := hH.own.rd
    obtain ⟨x1, y1, rfl, _, _⟩ := o1.form
    have HX := hide hxe
    have HXL := Lib.hid hxl
    clear hs ho rds hxl hxe
    by_cases h1 : 1 < xss.length
    · go_wp2_with fail
      refine (one_any g (T + 5000 * xss.length + 4 * n) 4 w1 s1 (by omega)).mono ?_
      rintro e w2 ⟨b, rfl, s2, m2⟩
      have o2 := o1.mk m2 (by omega)
      have hH2 := hH.kp (m2.kp (.inr (by omega)) (by omega))
      have mk2 := mk1.trans m2
      have z2 := m2.size
      have rds2 := hH2.own.rd
      cases b with
      | false =>
       clear s1 o1 hH mk1 rds1 m1 rds2 hmk
       have HH := hide hH2
       have HO := hide o2
       clear hH2 o2
       go_wp2_with (at_builtin; refine wpList_append_row rfl (.tmp 39) (.tmp 41) rfl (v := .slice a9 xss.length c9) rfl ((unhide HH).belw ((Below.refl _ _).alloc (Nat.le_refl _) _) (by omega)) _ rfl ((Blk.new w2 22 #[.slice x1 xs.length y1] rfl).cell 0) ((unhide HO).alloc _) hsz (by simp; omega) (by omega) ?_; intro v5 w5 o5 g5 _; obtain ⟨a5, c5, e5, _⟩ := o5.form; rw [List.length_append, List.length_singleton] at e5; subst e5)
       go_roundw
       case rel =>
        have b5 : Below w.heap.size w2 w5 := Below.stepS ((Below.refl _ _).alloc (by omega) _) g5 (((unhide HH).belw ((Below.refl _ _).alloc (Nat.le_refl _) _) (by omega)).own) (Nat.le_refl _) (by simp; omega)
        exact ⟨xss ++ [xs], by simp; omega, Mat_snoc hM.out ⟨HXL.out, unhide HX⟩, o5, (s2.keep b5 hlt).mono (by simp; omega), mk2.new b5 (by omega), by simp [lenV]⟩
       case measure => first | (simp only [lenV]; omega) | (simp [lenV]; omega)
      | true =>
       obtain ⟨b9, o9, rfl, hb9, hc9⟩ := rds2.at_ (by omega)
       obtain ⟨ai, ci, hc0, hr0⟩ := hc9 0 (by omega)
       obtain ⟨aj, cj, hc1, hr1⟩ := hc9 1 (by omega)
       have hM0 := Mat_nth hM.out (i := 0) (by omega)
       have hM1 := Mat_nth hM.out (i := 1) (by omega)
       have hb9w : w.heap.size ≤ b9 := by
        obtain ⟨_, _, _, _, hin, _⟩ := hH2
        exact (hin b9 rfl).1
       rw [Nat.add_zero] at hc0
       have hne : b9 ≠ g := by omega
       have boxes : ∀ W, Mk w2 W g (g + 1) → (Mk w2 W g (g + 1) ∧ W.cell? ⟨b9, o9, none⟩ = some (.slice ai (nthL xss 0).length ci) ∧ W.cell? ⟨b9, o9 + 1, none⟩ = some (.slice aj (nthL xss 1).length cj)) := fun W m => ⟨m, (cell_block ((m.kp (lo' := b9) (hi' := b9 + 1) (by omega) (by omega)).2 b9 (Nat.le_refl _) (by omega)) _).trans hc0, (cell_block ((m.kp (lo' := b9) (hi' := b9 + 1) (by omega) (by omega)).2 b9 (Nat.le_refl _) (by omega)) _).trans hc1⟩
       rw [hM0.1, hM1.1] at boxes
       have hdr : Mk w2 w2.drew g (g + 1) := Mk.alloc (Below.drewn 1) (by omega)
       have hsize := fun W (m : Mk w2 W g (g + 1)) => l03Size_any gF F W (unhide HF _ (mk2.trans m)) ok
       have BX := hide boxes
       have HSZ := hide hsize
       have HH := hide hH2
       have HO := hide o2
       have HC := hide hc9
       have R0 := hide hr0
       have R1 := hide hr1
       have HM0 := hide hM0
       have HM1 := hide hM1
       have S2 := hide s2
       have hb9' : 0 < xss.length := by omega
       clear s1 o1 hH mk1 rds1 m1 rds2 boxes hsize hH2 o2 hc9 hc0 hc1 hr0 hr1 hM0 hM1 s2
       go_upto_region 5 with fail
       refine wp_region_noPanic ?_
       refine wp_region_ord (S := (fun W => Mk w2 W g (g + 1) ∧ W.cell? ⟨b9, o9, none⟩ = some (.slice ai n ci) ∧ W.cell? ⟨b9, o9 + 1, none⟩ = some (.slice aj n cj))) [(true, 0), (true, 1), (true, 2), (true, 3), (true, 4), (true, 5), (true, 6), (true, 7), (true, 8), (false, 9), (false, 10), (false, 11), (true, 12)] (by kernel_rfl) (by kernel_rfl) (by kernel_rfl) rfl (fun _ _ _ _ _ h => h) ?_ (fun hHeld => ?_)
       · exact (unhide BX) _ hdr
       refine SeqO.take (by rfl) (v := ?hv1) (by rfl) ?hy1 ?hr1
       case hy1 =>
        intro w hSw
        try dsimp only at hSw
        go_simp
        try (with_reducible rfl)
       try simp only [Act.put, List.setIfInBounds_toArray, List.set_cons_zero, List.set_cons_succ]
       refine SeqO.take (by rfl) (v := ?hv2) (by rfl) ?hy2 ?hr2
       case hy2 =>
        intro w hSw
        try dsimp only at hSw
        go_simp
        try (with_reducible rfl)
       try simp only [Act.put, List.setIfInBounds_toArray, List.set_cons_zero, List.set_cons_succ]
       refine SeqO.take (by rfl) (v := ?hv3) (by rfl) ?hy3 ?hr3
       case hy3 =>
        intro w hSw
        try dsimp only at hSw
        go_simp
        try (with_reducible rfl)
       try simp only [Act.put, List.setIfInBounds_toArray, List.set_cons_zero, List.set_cons_succ]
       refine SeqO.take (by rfl) (v := ?hv4) (by rfl) ?hy4 ?hr4
       case hy4 =>
        intro w hSw
        try dsimp only at hSw
        go_simp
        try (with_reducible rfl)
       try simp only [Act.put, List.setIfInBounds_toArray, List.set_cons_zero, List.set_cons_succ]
       refine SeqO.take (by rfl) (v := ?hv5) (by rfl) ?hy5 ?hr5
       case hy5 =>
        intro w hSw
        try dsimp only at hSw
        go_simp
        try (with_reducible rfl)
       try simp only [Act.put, List.setIfInBounds_toArray, List.set_cons_zero, List.set_cons_succ]
       refine SeqO.take (by rfl) (v := ?hv6) (by rfl) ?hy6 ?hr6
       case hy6 =>
        intro w hSw
        try dsimp only at hSw
        go_simp
        try (with_reducible rfl)
       try simp only [Act.put, List.setIfInBounds_toArray, List.set_cons_zero, List.set_cons_succ]
       refine SeqO.take (by rfl) (v := ?hv7) (by rfl) ?hy7 ?hr7
       case hy7 =>
        intro w hSw
        try dsimp only at hSw
        go_simp
        try (with_reducible rfl)
       try simp only [Act.put, List.setIfInBounds_toArray, List.set_cons_zero, List.set_cons_succ]
       refine SeqO.take (by rfl) (v := ?hv8) (by rfl) ?hy8 ?hr8
       case hy8 =>
        intro w hSw
        try dsimp only at hSw
        go_simp
        try (with_reducible rfl)
       try simp only [Act.put, List.setIfInBounds_toArray, List.set_cons_zero, List.set_cons_succ]
       refine SeqO.take (by rfl) (v := ?hv9) (by rfl) ?hy9 ?hr9
       case hy9 =>
        intro w hSw
        try dsimp only at hSw
        go_simp
        try (with_reducible rfl)
       try simp only [Act.put, List.setIfInBounds_toArray, List.set_cons_zero, List.set_cons_succ]
       refine SeqO.call (by rfl) (fun K hK => ?_)
       go_simp
       refine (unhide HSZ _ hdr).mono ?_
       rintro e w3 ⟨rfl, b3⟩
       have m3 := hdr.new b3 (by omega)
       have s3 := ((unhide S2).below (Below.drewn 1)).below b3
       refine hK.out _ _ ?_ (fun hHeld => ?_)
       · exact (unhide BX) _ m3
       clear hK K
       try simp only [Act.put, List.setIfInBounds_toArray, List.set_cons_zero, List.set_cons_succ]
       refine SeqO.call (by rfl) (fun K hK => ?_)
       go_simp
       refine (pick_any g (T + 5000 * xss.length + 4 * n + 2) F.n w3 s3 (by omega)).mono ?_
       rintro e w4 ⟨y, rfl, hy, hy2, s4, m4⟩
       have mm4 := m3.trans m4
       have hyn : (y : Int) < F.n := by rcases hy with h | h <;> omega
       refine hK.out _ _ ?_ (fun hHeld => ?_)
       · exact (unhide BX) _ mm4
       clear hK K
       try simp only [Act.put, List.setIfInBounds_toArray, List.set_cons_zero, List.set_cons_succ]
       refine SeqO.call (by rfl) (fun K hK => ?_)
       go_simp
       have hH4 := (unhide HH).kp (mm4.kp (.inr (by omega)) (by omega))
       have bx4 := (unhide BX) _ mm4
       have rd0 := RdS.row_same hH4.own.rd rfl (i := 0) (by omega) (by rw [Nat.add_zero]; exact bx4.2.1)
       have rd1 := RdS.row_same hH4.own.rd rfl (i := 1) (by omega) bx4.2.2
       have hls := l17Less_any gF F ai aj ci cj (nthL xss 0) (nthL xss 1) y w4 (unhide HF _ (mk2.trans mm4)) ok rd0 rd1 (by rw [(unhide HM0).1, (unhide HM1).1]) (by omega) hyn (unhide HM0).2 (unhide HM1).2
       have hll := less_len F (nthL xss 0) (nthL xss 1) (y : Int)
       rw [(unhide HM0).1] at hll
       have hle := less_el ok (nthL xss 0) (nthL xss 1) (y : Int)
       rw [(unhide HM0).1, (unhide HM1).1] at hls
       generalize less F (nthL xss 0) (nthL xss 1) (y : Int) = xz at hls hll hle
       have HLS := hide hls
       have HXL := Lib.hid hll
       have HX := hide hle
       clear hls hll hle bx4 rd0 rd1
       refine (unhide HLS).mono ?_
       rintro e w6 ⟨v6, rfl, o6, b6⟩
       have m6 := mm4.new (b6.mono (by have := mm4.size; omega)) (by omega)
       refine hK.out _ _ ?_ (fun hHeld => ?_)
       · exact (unhide BX) _ m6
       clear hK K
       try simp only [Act.put, List.setIfInBounds_toArray, List.set_cons_zero, List.set_cons_succ]
       refine SeqO.take (by rfl) (v := ?hv10) (by rfl) ?hy10 ?hr10
       case hy10 =>
        intro w hSw
        try dsimp only at hSw
        go_simp
        try (with_reducible rfl)
       try simp only [Act.put, List.setIfInBounds_toArray, List.set_cons_zero, List.set_cons_succ]
       refine SeqO.done (NoPanic.normal ?_)
       have z6 := m6.size
       have s6 := s4.below b6
       have mk6 := mk2.trans m6
       have hH6 := hH4.belw b6 (by have := mm4.size; omega)
       obtain ⟨x6, y6, rfl, _, _⟩ := o6.form
       have o6' := o6.mono (show wr.heap.size ≤ w4.heap.size from by have := mm4.size; omega)
       go_wp2_with (at_builtin; refine wpList_append_row rfl (.tmp 39) (.tmp 41) rfl (v := .slice (some ⟨b9, o9, none⟩) xss.length c9) rfl ((hH6).belw ((Below.refl _ _).alloc (Nat.le_refl _) _) (by omega)) _ rfl ((Blk.new w6 22 #[.slice x6 xz.length y6] rfl).cell 0) ((o6').alloc _) hsz (by simp; omega) (by omega) ?_; intro v5 w5 o5 g5 _; obtain ⟨a5, c5, e5, _⟩ := o5.form; rw [List.length_append, List.length_singleton] at e5; subst e5)
       go_roundw
       case rel =>
        have b5 : Below w.heap.size w6 w5 := Below.stepS ((Below.refl _ _).alloc (by omega) _) g5 (((hH6).belw ((Below.refl _ _).alloc (Nat.le_refl _) _) (by omega)).own) (Nat.le_refl _) (by simp; omega)
        exact ⟨xss ++ [xz], by simp; omega, Mat_snoc hM.out ⟨HXL.out, unhide HX⟩, o5, (s6.keep b5 hlt).mono (by simp; omega), mk6.new b5 (by omega), by simp [lenV]⟩
       case measure => first | (simp only [lenV]; omega) | (simp [lenV]; omega)
    · have h1' : (xss.length : Int) ≤ 1 := by omega
      have h1'' : ¬ (1 : Int) < xss.length := by omega
      go_upto_region 6 with fail
      go_wp2_with (at_builtin; refine wpList_append_row rfl (.tmp 39) (.tmp 41) rfl (v := .slice a9 xss.length c9) rfl ((hH).belw ((Below.refl _ _).alloc (Nat.le_refl _) _) (by omega)) _ rfl ((Blk.new w1 22 #[.slice x1 xs.length y1] rfl).cell 0) ((o1).alloc _) hsz (by simp; omega) (by omega) ?_; intro v5 w5 o5 g5 _; obtain ⟨a5, c5, e5, _⟩ := o5.form; rw [List.length_append, List.length_singleton] at e5; subst e5)
      go_roundw
      case rel =>
       have b5 : Below w.heap.size w1 w5 := Below.stepS ((Below.refl _ _).alloc (by omega) _) g5 (((hH).belw ((Below.refl _ _).alloc (Nat.le_refl _) _) (by omega)).own) (Nat.le_refl _) (by simp; omega)
       exact ⟨xss ++ [xs], by simp; omega, Mat_snoc hM.out ⟨HXL.out, unhide HX⟩, o5, (s1.keep b5 hlt).mono (by simp; omega), mk1.new b5 (by omega), by simp [lenV]⟩
      case measure => first | (simp only [lenV]; omega) | (simp [lenV]; omega)
  · have hle : xss.length = rows := by omega
    have HL := Lib.hid hle
    clear hle
    go_wp2
    go_ret
    exact ⟨_, xss, rfl, HL.out, hM.out, ho.out, hs.out.mono (by have := HL.out; omega), hmk⟩
end Go.Proofs.Ytgmgpcaahanmiaa
namespace Go.Proofs.Ytgmgpcaahanmiaa
open Go.RowKit
attribute [local go_sem ↓] Go.wp_at_zero Go.wp_at_succ
theorem cap9 : ∀ q : Nat, q < 10 → ∀ k : Nat, k < 4 → capTo q 4096 k ≤ 4096 := by decide
theorem cap2 : ∀ k : Nat, k < 6 → capTo 2 4096 k ≤ 4096 := by decide
theorem set_Mat {F : FD} (ok : F.Ok) {n : Nat} {A : List (List Int)} (hM : F.Mat n A) (h0 : 0 < A.length) (x : Nat) : F.Mat n (A.set 0 ((nthL A 0).set x 1)) := fun r hr => by
 rcases List.mem_or_eq_of_mem_set hr with h | h
 · exact hM r h
 · have h1 := Mat_nth hM h0
   obtain ⟨n2, _⟩ := ok.n_bd
   rw [h]
   refine ⟨by rw [List.length_set, h1.1], fun y hy => ?_⟩
   rcases List.mem_or_eq_of_mem_set hy with h2 | h2
   · exact h1.2 y h2
   · rw [h2]; omega
theorem drawn_gc {F : FD} (hG : F.Good) {n x : Nat} {A : List (List Int)} (hM : F.Mat n A) (h0 : 0 < A.length) (hx : x < n) (n32 : n ≤ 32) (h8 : A.length ≤ 8) (hc : capTo F.n 4096 A.length ≤ 4096) :
    GC F n (form F (A.set 0 ((nthL A 0).set x 1)) n) ∧ mkC F (form F (A.set 0 ((nthL A 0).set x 1)) n) = (F.p, (F.k : Int), F.poly, form F (A.set 0 ((nthL A 0).set x 1)) n, 0) := by
 have ok := hG.ok
 have hM' := set_Mat ok hM h0 x
 obtain ⟨n2, _⟩ := ok.n_bd
 refine mkC_gc hG hM' (by omega) n32 ?_
 have hle : (form F (A.set 0 ((nthL A 0).set x 1)) n).length ≤ A.length := by
  rw [form_len]
  have := red_piv F (A.set 0 ((nthL A 0).set x 1)) n
  rwa [List.length_set] at this
 have hne : (form F (A.set 0 ((nthL A 0).set x 1)) n).length ≠ 0 := fun e => by
  obtain ⟨_, _, _, hs⟩ := form_ech hG hM'
  have h1 := (hs _).2 (Sp.row ok hM' (j := 0) (by rw [List.length_set]; exact h0))
  have h2 : ∀ v, Sp F (form F (A.set 0 ((nthL A 0).set x 1)) n) v → ∀ i, v i = 0 := fun v hv => by
   cases hv with
   | zero => exact fun _ => rfl
   | step h hj hc => omega
  have h3 := h2 _ h1 x
  rw [nthL_set_same h0, nth_set_same (by rw [(Mat_nth hM h0).1]; exact hx)] at h3
  omega
 have hcap := capTo_mono (b := F.n) (l := 4096) (by omega) (by omega) hle hc
 rw [mkC, if_neg hne, if_neg (by omega)]
theorem OwnS.ne_row {w : World} {B B' gA g0 n c m d : Nat} {A : List (List Int)} {xs : List Int} (h : OwnS w B (.slice (some ⟨gA, 0, none⟩) n c) A) (o : Own w B' (.slice (some ⟨g0, 0, none⟩) m d) xs) : gA ≠ g0 := fun e => by
 obtain ⟨_, vs, ⟨_, hr⟩, _⟩ := h
 obtain ⟨_, ⟨_, ho⟩⟩ := o
 rcases hr with ⟨e1, _⟩ | ⟨g1, cap1, cur1, e1, _, hg1, _⟩
 · cases e1
 · rcases ho with ⟨e2, _⟩ | ⟨g2, cap2, cur2, e2, _, hg2, _⟩
   · cases e2
   · injection e1 with e1 _ _
     injection e1 with e1
     injection e1 with e1 _
     injection e2 with e2 _ _
     injection e2 with e2
     injection e2 with e2 _
     rw [← e1, e, e2, hg2] at hg1
     injection hg1 with hg1
     injection hg1 with _ h3 _
     exact absurd h3 (by decide)
theorem OwnS.set4 {w : World} {B g : Nat} {v : Value} {xss : List (List Int)} (h : OwnS w B v xss) (hg : g < B) (a b c d : Value) : OwnS ((((w.setCell ⟨g, 0, none⟩ a).setCell ⟨g, 1, none⟩ b).setCell ⟨g, 2, none⟩ c).setCell ⟨g, 3, none⟩ d) B v xss := by
 have key : ∀ (W : World) (i : Nat) (x : Value), Kp W (W.setCell ⟨g, i, none⟩ x) B W.heap.size := fun W i x => ⟨by simp, fun q h1 _ => Below.heap_setCell W _ _ q (by show q ≠ g; omega)⟩
 exact ((((((((h.toH.kp (key _ _ _)).own).toH.kp (key _ _ _)).own).toH.kp (key _ _ _)).own).toH.kp (key _ _ _)).own)
def CodeD (w : World) (e : Ending) (w' : World) : Prop :=
 ∃ (F : FD) (n : Nat) (m : List (List Int)) (v u : Value), e = .returned (.agg #[.int .i64 F.p, .int .i64 F.k, v, u]) ∧ GC F n m ∧ Own w' w.heap.size v F.poly ∧ OwnS w' w.heap.size u m
theorem l18Draw_any (g T : Nat) (w : World) (h : Src w g T) (hT : T ≤ 1000000) :
    Calls Try.prog 121 #[.pointer (some ⟨g, 0, none⟩)] w fun e w' => CodeD w e w' ∧ Mk w w' g (g + 1) := by
 obtain ⟨W0, hW0⟩ : ∃ W0, W0 = w.alloc (.cells #[.int .i64 0, .int .i64 0, .slice none 0 0, .slice none 0 0] 37) := ⟨_, rfl⟩
 have b0 : Below w.heap.size w W0 := by rw [hW0]; exact (Below.refl _ _).alloc (Nat.le_refl _) _
 have k0 : Blk W0 w.heap.size 37 #[.int .i64 0, .int .i64 0, .slice none 0 0, .slice none 0 0] := by rw [hW0]; exact Blk.new _ _ _ rfl
 have z0 : w.heap.size < W0.heap.size := k0.lt
 have hlt := h.lt
 have HB := hide (h.below b0)
 have HW := Lib.hid hW0
 have m0 : Mk w W0 g (g + 1) := Mk.alloc b0 (by omega)
 clear hW0 h
 go_enter Try.func121, Try.ntmps121
 go_upto_region 1 with fail
 rw [← HW.out]
 go_wp2_with fail
 refine (drawField_any g T W0 (unhide HB) (by omega)).mono ?_
 rintro e w1 ⟨v1, F, rfl, hG, hn9, o1, s1, m1⟩
 have ok := hG.ok
 obtain ⟨n2, n64⟩ := ok.n_bd
 obtain ⟨a1, c1, rfl, r1, _⟩ := o1.form
 obtain ⟨W1, hW1⟩ : ∃ z, z = w1.alloc (.cells #[.int .i64 F.p, .int .i64 F.k, .slice a1 F.poly.length c1] 34) := ⟨_, rfl⟩
 have b1 : Below w1.heap.size w1 W1 := by rw [hW1]; exact (Below.refl _ _).alloc (Nat.le_refl _) _
 have kF : Blk W1 w1.heap.size 34 #[.int .i64 F.p, .int .i64 F.k, .slice a1 F.poly.length c1] := by rw [hW1]; exact Blk.new _ _ _ rfl
 have z1 := m1.size
 have zF := kF.lt
 have k1 := (k0.kp (m1.kp (.inr (by omega)) k0.lt)).below b1 (by omega)
 have mW := (m0.trans m1).new (b1.mono (by omega)) (by omega)
 have sW := s1.below b1
 have oF := o1.below b1 (Nat.le_refl _)
 have hPF : ∀ w', Mk W1 w' g (g + 1) → PF w' w1.heap.size F := fun w' m => by
  have k := kF.kp (m.kp (.inr (by omega)) kF.lt)
  exact ⟨k.cell 0, k.cell 1, a1, c1, k.cell 2, (oF.mk m (by omega)).rd⟩
 have HPF := hide hPF
 have HW1 := Lib.hid hW1
 have hp2 := ok.p2
 have hp64 := ok.p64
 have hk6 := ok.k6
 clear hW1 hPF o1 s1 r1 m0 m1 b1 k0
 go_upto_region 2 with fail
 rw [← HW1.out]
 go_wp2_with fail
 refine (pick_any g (T + 2) 3 W1 sW (by omega)).mono ?_
 rintro e w2 ⟨x2, rfl, hx2, _, s2, m2⟩
 have hK2 : x2 ≤ 2 := by omega
 go_wp2_with fail
 refine (pick_any g (T + 2 + 2) 5 w2 s2 (by omega)).mono ?_
 rintro e w3 ⟨x3, rfl, hx3, _, s3, m3⟩
 have hN3 : x3 ≤ 4 := by omega
 have m13 := m2.trans m3
 have k3 := kF.kp (m13.kp (.inr (by omega)) kF.lt)
 have e0 := k3.cell 0
 have e1 := k3.cell 1
 clear hx2 hx3 s2 m2 m3 k3
 by_cases hp : F.p = 2
 · by_cases hk1 : (F.k : Int) = 1
   · have hfn : F.n = 2 := by
       have h := ok.n_eq
       have : F.k = 1 := by omega
       rw [this, hp] at h
       simp at h
       omega
     have hpe : (F.p == 2) = true := by rw [hp]; rfl
     have hke : ((F.k : Int) == 1) = true := by rw [hk1]; rfl
     go_wp2_with fail
     refine (one_any g (T + 2 + 2 + 2) 2 w3 s3 (by omega)).mono ?_
     rintro e w4 ⟨b, rfl, s4, m4⟩
     have m14 := m13.trans m4
     cases b with
     | true =>
      go_wp2_with fail
      refine (pick_any g (T + 2 + 2 + 2 + 2) 3 w4 s4 (by omega)).mono ?_
      rintro e w5 ⟨x5, rfl, hx5, _, s5, m5⟩
      have hK5 : x5 ≤ 2 := by omega
      go_wp2_with fail
      refine (pick_any g (T + 2 + 2 + 2 + 2 + 2) 6 w5 s5 (by omega)).mono ?_
      rintro e w6 ⟨x6, rfl, hx6, _, s6, m6⟩
      have hN6 : x6 ≤ 5 := by omega
      have m16 := (m14.trans m5).trans m6
      obtain ⟨K, hKe⟩ : ∃ K : Nat, K = 1 + x2 + x5 := ⟨_, rfl⟩
      obtain ⟨N, hNe⟩ : ∃ N : Nat, N = 1 + x2 + x5 + 1 + x6 := ⟨_, rfl⟩
      have hKi : (K : Int) = 1 + (x2 : Int) + (x5 : Int) := by omega
      have hNi : (N : Int) = 1 + (x2 : Int) + (x5 : Int) + 1 + (x6 : Int) := by omega
      have hK1 : 1 ≤ K := by omega
      have hK8 : K ≤ 5 := by omega
      have hKN : K ≤ N := by omega
      have hN32 : N ≤ 20 := by omega
      have hcap : capTo F.n 4096 K ≤ 4096 := by rw [hfn]; exact cap2 K (by omega)
      go_upto_region 7 with fail
      try clear hfn
      try clear hke
      try clear hpe
      try clear hk1
      try clear hp
      go_wp2_with fail
      have hdr := drawRows_any g (T + 100) w1.heap.size F N K w6 (s6.mono (by omega)) (by omega) (by omega) (by omega) (fun w' m => unhide HPF _ (m16.trans m)) ok
      rw [hKi, hNi] at hdr
      refine hdr.mono ?_
      rintro e wR ⟨vr, A, rfl, hAl, hAM, oA, sA, mA⟩
      have mR := m16.trans mA
      have zR := mR.size
      have z6 := m16.size
      obtain ⟨gA, cA, rfl, hgA, hgA', _, _⟩ := oA.at_ (by omega)
      have hM0 := Mat_nth hAM (i := 0) (by omega)
      obtain ⟨a0, c0, o0, hcell0, _⟩ := oA.row (i := 0) (by omega)
      rw [hM0.1] at o0 hcell0
      obtain ⟨g0, c0', e0', hg0, _, _, _⟩ := o0.at_len hM0.1 (by omega)
      injection e0' with ea _ ec
      subst ea
      subst ec
      have hc0 := hcell0 gA 0 _ _ rfl
      rw [Nat.add_zero] at hc0
      have hneA := oA.ne_row o0
      have boxes : ∀ W, Mk wR W g (g + 1) → W.cell? ⟨gA, 0, none⟩ = some (.slice (some ⟨g0, 0, none⟩) N c0) := fun W m => (cell_block ((m.kp (lo' := gA) (hi' := gA + 1) (by omega) (by omega)).2 gA (Nat.le_refl _) (by omega)) _).trans hc0
      have BX := hide boxes
      have hAp : 0 < A.length := by omega
      have hA5 : A.length ≤ 5 := by omega
      have hcapA : capTo F.n 4096 A.length ≤ 4096 := by rw [hAl]; exact hcap
      have HNI := Lib.hid hNi
      have hpk := pick_any g (T + 100 + 5000 * K) N wR.drew (sA.below (Below.drewn 1)) (by omega)
      rw [hNi] at hpk
      have hdw : Mk wR wR.drew g (g + 1) := Mk.alloc (Below.drewn 1) (by omega)
      have HPK := hide hpk
      have HOA := hide oA
      have HAM := hide hAM
      have HM0 := hide hM0
      clear boxes hpk oA hAM hM0 o0 hcell0 hc0 e0 e1 hdr hAl hKe hKi hNe hNi hcap
      go_upto_region 8 with fail
      refine wp_region_noPanic ?_
      refine wp_region_ord (S := (fun W => W.cell? ⟨gA, 0, none⟩ = some (.slice (some ⟨g0, 0, none⟩) N c0))) [(true, 0), (true, 1), (true, 2), (true, 3), (true, 4), (false, 5), (true, 6), (false, 7)] (by kernel_rfl) (by kernel_rfl) (by kernel_rfl) rfl (fun _ _ _ _ _ h => h) ?_ (fun hHeld => ?_)
      · exact (unhide BX) _ hdw
      refine SeqO.take (by rfl) (v := ?hv1) (by rfl) ?hy1 ?hr1
      case hy1 =>
       intro w hSw
       try dsimp only at hSw
       go_simp
       try (with_reducible rfl)
      try simp only [Act.put, List.setIfInBounds_toArray, List.set_cons_zero, List.set_cons_succ]
      refine SeqO.take (by rfl) (v := ?hv2) (by rfl) ?hy2 ?hr2
      case hy2 =>
       intro w hSw
       try dsimp only at hSw
       go_simp
       try (with_reducible rfl)
      try simp only [Act.put, List.setIfInBounds_toArray, List.set_cons_zero, List.set_cons_succ]
      refine SeqO.take (by rfl) (v := ?hv3) (by rfl) ?hy3 ?hr3
      case hy3 =>
       intro w hSw
       try dsimp only at hSw
       go_simp
       try (with_reducible rfl)
      try simp only [Act.put, List.setIfInBounds_toArray, List.set_cons_zero, List.set_cons_succ]
      refine SeqO.take (by rfl) (v := ?hv4) (by rfl) ?hy4 ?hr4
      case hy4 =>
       intro w hSw
       try dsimp only at hSw
       go_simp
       try (with_reducible rfl)
      try simp only [Act.put, List.setIfInBounds_toArray, List.set_cons_zero, List.set_cons_succ]
      refine SeqO.take (by rfl) (v := ?hv5) (by rfl) ?hy5 ?hr5
      case hy5 =>
       intro w hSw
       try dsimp only at hSw
       go_simp
       try (with_reducible rfl)
      try simp only [Act.put, List.setIfInBounds_toArray, List.set_cons_zero, List.set_cons_succ]
      refine SeqO.call (by rfl) (fun K hK => ?_)
      go_simp
      refine (unhide HPK).mono ?_
      rintro e w8 ⟨x8, rfl, hx8, _, _, m8⟩
      have hx8N : x8 < N := by have := HNI.out; omega
      have m8d := hdw.trans m8
      have oA8 := (unhide HOA).mk m8d (by omega)
      obtain ⟨a08, c08, o08, hcell8, hput⟩ := oA8.row (i := 0) hAp
      have hc8 := hcell8 gA 0 _ _ rfl
      rw [Nat.add_zero, (unhide BX) _ m8d] at hc8
      injection hc8 with hc8
      injection hc8 with ha8 hl8 hcc8
      subst ha8
      subst hcc8
      rw [← hl8] at o08 hput
      clear hl8
      have cx := o08.cell (j := x8) (by rw [(unhide HM0).1]; exact hx8N)
      have fx := o08.frozen x8
      refine hK.out _ _ ?_ (fun hHeld => ?_)
      · exact (unhide BX) _ m8d
      clear hK K
      try simp only [Act.put, List.setIfInBounds_toArray, List.set_cons_zero, List.set_cons_succ]
      refine SeqO.take (by rfl) (v := ?hv6) (by rfl) ?hy6 ?hr6
      case hy6 =>
       intro w hSw
       try dsimp only at hSw
       go_simp
       try (with_reducible rfl)
      try simp only [Act.put, List.setIfInBounds_toArray, List.set_cons_zero, List.set_cons_succ]
      refine SeqO.call (by rfl) (fun K hK => ?_)
      go_simp
      skip
      refine hK.out _ _ ?_ (fun hHeld => ?_)
      · exact (cell_block (Below.heap_setCell w8 _ _ gA hneA) _).trans ((unhide BX) _ m8d)
      clear hK K
      try simp only [Act.put, List.setIfInBounds_toArray, List.set_cons_zero, List.set_cons_succ]
      refine SeqO.done (NoPanic.normal ?_)
      have hst := o08.set x8 1
      have oN := hput _ ((nthL A 0).set x8 1) hst.1 (by rw [List.length_set]; exact (unhide HM0).1) hst.2
      have m9 := (mR.trans m8d).own hst.2 (by omega) (by omega)
      have hb9 := hst.2
      obtain ⟨w9, h9⟩ : ∃ z, z = w8.setCell ⟨g0, x8, none⟩ (.int .i64 1) := ⟨_, rfl⟩
      rw [← h9] at oN m9 hb9 ⊢
      have hz9 := m9.size
      have hAM' := set_Mat ok (unhide HAM) hAp x8
      obtain ⟨hC, hmk⟩ := drawn_gc hG (unhide HAM) hAp hx8N (by omega) (by omega) hcapA
      have hfo := l17Form_any w1.heap.size F (some ⟨gA, 0, none⟩) cA _ N w9 (unhide HPF _ m9) hG oN.rd (by rw [List.length_set]; exact hAp) hAM'
      rw [List.length_set] at hfo
      generalize form F (A.set 0 ((nthL A 0).set x8 1)) N = m at hC hmk hfo
      have HFO := hide hfo
      have HC := hide hC
      have HMK := Lib.hid hmk
      clear h9 oN hfo hC hmk hput hst o08 hcell8 oA8 cx fx hAM' hb9
      go_wp2_with fail
      refine (unhide HFO).mono ?_
      rintro e w10 ⟨v10, rfl, o10, b10⟩
      obtain ⟨ra, rc, rfl, _⟩ := o10.form
      have m10 := m9.new (b10.mono hz9) (by omega)
      have hmake := l18Make_any w9.heap.size w1.heap.size F ra rc m w10 (unhide HPF _ m10) ok o10 b10.size
      rw [HMK.out] at hmake
      have HMA := hide hmake
      clear hmake o10
      go_wp2_with fail
      refine (unhide HMA).mono ?_
      rintro e w11 ⟨v11, u11, rfl, o11, q11, b11⟩
      have o11 : Own w11 w9.heap.size v11 F.poly := o11
      have q11 : OwnS w11 w9.heap.size u11 m := q11
      obtain ⟨a11, c11, rfl, _⟩ := o11.form
      obtain ⟨ra11, rc11, rfl, _⟩ := q11.form
      obtain ⟨W12, h12⟩ : ∃ z, z = w11.alloc (.cells #[.int .i64 F.p, .int .i64 F.k, .slice a11 F.poly.length c11, .slice ra11 m.length rc11] 37) := ⟨_, rfl⟩
      have b12 : Below w11.heap.size w11 W12 := by rw [h12]; exact (Below.refl _ _).alloc (Nat.le_refl _) _
      have kC : Blk W12 w11.heap.size 37 #[.int .i64 F.p, .int .i64 F.k, .slice a11 F.poly.length c11, .slice ra11 m.length rc11] := by rw [h12]; exact Blk.new _ _ _ rfl
      have z11 := b11.size
      have z10 := b10.size
      have bb := Below.chain b11 b12
      have m12 := m10.new (bb.mono (by omega)) (by omega)
      have kR := k1.kp (m12.kp (lo' := w.heap.size) (hi' := w.heap.size + 1) (.inr (by omega)) k1.lt)
      have o12 := o11.below b12 (Nat.le_refl _)
      have q12 := q11.below b12 (Nat.le_refl _)
      have e0 := kC.cell 0
      have e1 := kC.cell 1
      have e2 := kC.cell 2
      have e3 := kC.cell 3
      have f0 := kR.cell 0
      have f1 := kR.cell 1
      have f2 := kR.cell 2
      have f3 := kR.cell 3
      have g0 := kR.frozen 0
      have g1 := kR.frozen 1
      have g2 := kR.frozen 2
      have g3 := kR.frozen 3
      have H12 := Lib.hid h12
      clear h12 o11 q11
      go_upto_region 10 with fail
      rw [← H12.out]
      go_wp2
      refine bodyPost_ret (results_cell_row rfl _ _ w.heap.size 37 #[.int .i64 F.p, .int .i64 F.k, .slice a11 F.poly.length c11, .slice ra11 m.length rc11] (0, 0) _ rfl (kR.b4.store _ _ _ _) Try.underlying37 rfl (by kernel_rfl)) rfl ⟨⟨F, N, m, _, _, rfl, unhide HC, ?_, ?_⟩, (mW.trans m12).new (Below.set4 (Below.refl _ _) (Nat.le_refl _) _ _ _ _) (by omega)⟩
      · have hs : w.heap.size < w9.heap.size := by omega
        exact ((((o12.storeBelow hs _).storeBelow hs _).storeBelow hs _).storeBelow hs _).mono (Nat.le_of_lt hs)
      · exact (q12.set4 (by omega) _ _ _ _).mono (by omega)
     | false =>
      obtain ⟨K, hKe⟩ : ∃ K : Nat, K = 1 + x2 := ⟨_, rfl⟩
      obtain ⟨N, hNe⟩ : ∃ N : Nat, N = 1 + x2 + x3 := ⟨_, rfl⟩
      have hKi : (K : Int) = 1 + (x2 : Int) := by omega
      have hNi : (N : Int) = 1 + (x2 : Int) + (x3 : Int) := by omega
      have hK1 : 1 ≤ K := by omega
      have hK8 : K ≤ 5 := by omega
      have hKN : K ≤ N := by omega
      have hN32 : N ≤ 20 := by omega
      have hcap : capTo F.n 4096 K ≤ 4096 := cap9 F.n (by omega) K (by omega)
      go_upto_region 7 with fail
      try clear hfn
      try clear hke
      try clear hpe
      try clear hk1
      try clear hp
      go_wp2_with fail
      have hdr := drawRows_any g (T + 100) w1.heap.size F N K w4 (s4.mono (by omega)) (by omega) (by omega) (by omega) (fun w' m => unhide HPF _ (m14.trans m)) ok
      rw [hKi, hNi] at hdr
      refine hdr.mono ?_
      rintro e wR ⟨vr, A, rfl, hAl, hAM, oA, sA, mA⟩
      have mR := m14.trans mA
      have zR := mR.size
      have z6 := m14.size
      obtain ⟨gA, cA, rfl, hgA, hgA', _, _⟩ := oA.at_ (by omega)
      have hM0 := Mat_nth hAM (i := 0) (by omega)
      obtain ⟨a0, c0, o0, hcell0, _⟩ := oA.row (i := 0) (by omega)
      rw [hM0.1] at o0 hcell0
      obtain ⟨g0, c0', e0', hg0, _, _, _⟩ := o0.at_len hM0.1 (by omega)
      injection e0' with ea _ ec
      subst ea
      subst ec
      have hc0 := hcell0 gA 0 _ _ rfl
      rw [Nat.add_zero] at hc0
      have hneA := oA.ne_row o0
      have boxes : ∀ W, Mk wR W g (g + 1) → W.cell? ⟨gA, 0, none⟩ = some (.slice (some ⟨g0, 0, none⟩) N c0) := fun W m => (cell_block ((m.kp (lo' := gA) (hi' := gA + 1) (by omega) (by omega)).2 gA (Nat.le_refl _) (by omega)) _).trans hc0
      have BX := hide boxes
      have hAp : 0 < A.length := by omega
      have hA5 : A.length ≤ 5 := by omega
      have hcapA : capTo F.n 4096 A.length ≤ 4096 := by rw [hAl]; exact hcap
      have HNI := Lib.hid hNi
      have hpk := pick_any g (T + 100 + 5000 * K) N wR.drew (sA.below (Below.drewn 1)) (by omega)
      rw [hNi] at hpk
      have hdw : Mk wR wR.drew g (g + 1) := Mk.alloc (Below.drewn 1) (by omega)
      have HPK := hide hpk
      have HOA := hide oA
      have HAM := hide hAM
      have HM0 := hide hM0
      clear boxes hpk oA hAM hM0 o0 hcell0 hc0 e0 e1 hdr hAl hKe hKi hNe hNi hcap
      go_upto_region 8 with fail
      refine wp_region_noPanic ?_
      refine wp_region_ord (S := (fun W => W.cell? ⟨gA, 0, none⟩ = some (.slice (some ⟨g0, 0, none⟩) N c0))) [(true, 0), (true, 1), (true, 2), (true, 3), (true, 4), (false, 5), (true, 6), (false, 7)] (by kernel_rfl) (by kernel_rfl) (by kernel_rfl) rfl (fun _ _ _ _ _ h => h) ?_ (fun hHeld => ?_)
      · exact (unhide BX) _ hdw
      refine SeqO.take (by rfl) (v := ?hv7) (by rfl) ?hy7 ?hr7
      case hy7 =>
       intro w hSw
       try dsimp only at hSw
       go_simp
       try (with_reducible rfl)
      try simp only [Act.put, List.setIfInBounds_toArray, List.set_cons_zero, List.set_cons_succ]
      refine SeqO.take (by rfl) (v := ?hv8) (by rfl) ?hy8 ?hr8
      case hy8 =>
       intro w hSw
       try dsimp only at hSw
       go_simp
       try (with_reducible rfl)
      try simp only [Act.put, List.setIfInBounds_toArray, List.set_cons_zero, List.set_cons_succ]
      refine SeqO.take (by rfl) (v := ?hv9) (by rfl) ?hy9 ?hr9
      case hy9 =>
       intro w hSw
       try dsimp only at hSw
       go_simp
       try (with_reducible rfl)
      try simp only [Act.put, List.setIfInBounds_toArray, List.set_cons_zero, List.set_cons_succ]
      refine SeqO.take (by rfl) (v := ?hv10) (by rfl) ?hy10 ?hr10
      case hy10 =>
       intro w hSw
       try dsimp only at hSw
       go_simp
       try (with_reducible rfl)
      try simp only [Act.put, List.setIfInBounds_toArray, List.set_cons_zero, List.set_cons_succ]
      refine SeqO.take (by rfl) (v := ?hv11) (by rfl) ?hy11 ?hr11
      case hy11 =>
       intro w hSw
       try dsimp only at hSw
       go_simp
       try (with_reducible rfl)
      try simp only [Act.put, List.setIfInBounds_toArray, List.set_cons_zero, List.set_cons_succ]
      refine SeqO.call (by rfl) (fun K hK => ?_)
      go_simp
      refine (unhide HPK).mono ?_
      rintro e w8 ⟨x8, rfl, hx8, _, _, m8⟩
      have hx8N : x8 < N := by have := HNI.out; omega
      have m8d := hdw.trans m8
      have oA8 := (unhide HOA).mk m8d (by omega)
      obtain ⟨a08, c08, o08, hcell8, hput⟩ := oA8.row (i := 0) hAp
      have hc8 := hcell8 gA 0 _ _ rfl
      rw [Nat.add_zero, (unhide BX) _ m8d] at hc8
      injection hc8 with hc8
      injection hc8 with ha8 hl8 hcc8
      subst ha8
      subst hcc8
      rw [← hl8] at o08 hput
      clear hl8
      have cx := o08.cell (j := x8) (by rw [(unhide HM0).1]; exact hx8N)
      have fx := o08.frozen x8
      refine hK.out _ _ ?_ (fun hHeld => ?_)
      · exact (unhide BX) _ m8d
      clear hK K
      try simp only [Act.put, List.setIfInBounds_toArray, List.set_cons_zero, List.set_cons_succ]
      refine SeqO.take (by rfl) (v := ?hv12) (by rfl) ?hy12 ?hr12
      case hy12 =>
       intro w hSw
       try dsimp only at hSw
       go_simp
       try (with_reducible rfl)
      try simp only [Act.put, List.setIfInBounds_toArray, List.set_cons_zero, List.set_cons_succ]
      refine SeqO.call (by rfl) (fun K hK => ?_)
      go_simp
      skip
      refine hK.out _ _ ?_ (fun hHeld => ?_)
      · exact (cell_block (Below.heap_setCell w8 _ _ gA hneA) _).trans ((unhide BX) _ m8d)
      clear hK K
      try simp only [Act.put, List.setIfInBounds_toArray, List.set_cons_zero, List.set_cons_succ]
      refine SeqO.done (NoPanic.normal ?_)
      have hst := o08.set x8 1
      have oN := hput _ ((nthL A 0).set x8 1) hst.1 (by rw [List.length_set]; exact (unhide HM0).1) hst.2
      have m9 := (mR.trans m8d).own hst.2 (by omega) (by omega)
      have hb9 := hst.2
      obtain ⟨w9, h9⟩ : ∃ z, z = w8.setCell ⟨g0, x8, none⟩ (.int .i64 1) := ⟨_, rfl⟩
      rw [← h9] at oN m9 hb9 ⊢
      have hz9 := m9.size
      have hAM' := set_Mat ok (unhide HAM) hAp x8
      obtain ⟨hC, hmk⟩ := drawn_gc hG (unhide HAM) hAp hx8N (by omega) (by omega) hcapA
      have hfo := l17Form_any w1.heap.size F (some ⟨gA, 0, none⟩) cA _ N w9 (unhide HPF _ m9) hG oN.rd (by rw [List.length_set]; exact hAp) hAM'
      rw [List.length_set] at hfo
      generalize form F (A.set 0 ((nthL A 0).set x8 1)) N = m at hC hmk hfo
      have HFO := hide hfo
      have HC := hide hC
      have HMK := Lib.hid hmk
      clear h9 oN hfo hC hmk hput hst o08 hcell8 oA8 cx fx hAM' hb9
      go_wp2_with fail
      refine (unhide HFO).mono ?_
      rintro e w10 ⟨v10, rfl, o10, b10⟩
      obtain ⟨ra, rc, rfl, _⟩ := o10.form
      have m10 := m9.new (b10.mono hz9) (by omega)
      have hmake := l18Make_any w9.heap.size w1.heap.size F ra rc m w10 (unhide HPF _ m10) ok o10 b10.size
      rw [HMK.out] at hmake
      have HMA := hide hmake
      clear hmake o10
      go_wp2_with fail
      refine (unhide HMA).mono ?_
      rintro e w11 ⟨v11, u11, rfl, o11, q11, b11⟩
      have o11 : Own w11 w9.heap.size v11 F.poly := o11
      have q11 : OwnS w11 w9.heap.size u11 m := q11
      obtain ⟨a11, c11, rfl, _⟩ := o11.form
      obtain ⟨ra11, rc11, rfl, _⟩ := q11.form
      obtain ⟨W12, h12⟩ : ∃ z, z = w11.alloc (.cells #[.int .i64 F.p, .int .i64 F.k, .slice a11 F.poly.length c11, .slice ra11 m.length rc11] 37) := ⟨_, rfl⟩
      have b12 : Below w11.heap.size w11 W12 := by rw [h12]; exact (Below.refl _ _).alloc (Nat.le_refl _) _
      have kC : Blk W12 w11.heap.size 37 #[.int .i64 F.p, .int .i64 F.k, .slice a11 F.poly.length c11, .slice ra11 m.length rc11] := by rw [h12]; exact Blk.new _ _ _ rfl
      have z11 := b11.size
      have z10 := b10.size
      have bb := Below.chain b11 b12
      have m12 := m10.new (bb.mono (by omega)) (by omega)
      have kR := k1.kp (m12.kp (lo' := w.heap.size) (hi' := w.heap.size + 1) (.inr (by omega)) k1.lt)
      have o12 := o11.below b12 (Nat.le_refl _)
      have q12 := q11.below b12 (Nat.le_refl _)
      have e0 := kC.cell 0
      have e1 := kC.cell 1
      have e2 := kC.cell 2
      have e3 := kC.cell 3
      have f0 := kR.cell 0
      have f1 := kR.cell 1
      have f2 := kR.cell 2
      have f3 := kR.cell 3
      have g0 := kR.frozen 0
      have g1 := kR.frozen 1
      have g2 := kR.frozen 2
      have g3 := kR.frozen 3
      have H12 := Lib.hid h12
      clear h12 o11 q11
      go_upto_region 10 with fail
      rw [← H12.out]
      go_wp2
      refine bodyPost_ret (results_cell_row rfl _ _ w.heap.size 37 #[.int .i64 F.p, .int .i64 F.k, .slice a11 F.poly.length c11, .slice ra11 m.length rc11] (0, 0) _ rfl (kR.b4.store _ _ _ _) Try.underlying37 rfl (by kernel_rfl)) rfl ⟨⟨F, N, m, _, _, rfl, unhide HC, ?_, ?_⟩, (mW.trans m12).new (Below.set4 (Below.refl _ _) (Nat.le_refl _) _ _ _ _) (by omega)⟩
      · have hs : w.heap.size < w9.heap.size := by omega
        exact ((((o12.storeBelow hs _).storeBelow hs _).storeBelow hs _).storeBelow hs _).mono (Nat.le_of_lt hs)
      · exact (q12.set4 (by omega) _ _ _ _).mono (by omega)
   · have hpe : (F.p == 2) = true := by rw [hp]; rfl
     have hke : ((F.k : Int) == 1) = false := by rw [beq_eq_false_iff_ne]; exact hk1
     obtain ⟨K, hKe⟩ : ∃ K : Nat, K = 1 + x2 := ⟨_, rfl⟩
     obtain ⟨N, hNe⟩ : ∃ N : Nat, N = 1 + x2 + x3 := ⟨_, rfl⟩
     have hKi : (K : Int) = 1 + (x2 : Int) := by omega
     have hNi : (N : Int) = 1 + (x2 : Int) + (x3 : Int) := by omega
     have hK1 : 1 ≤ K := by omega
     have hK8 : K ≤ 5 := by omega
     have hKN : K ≤ N := by omega
     have hN32 : N ≤ 20 := by omega
     have hcap : capTo F.n 4096 K ≤ 4096 := cap9 F.n (by omega) K (by omega)
     go_upto_region 7 with fail
     try clear hfn
     try clear hke
     try clear hpe
     try clear hk1
     try clear hp
     go_wp2_with fail
     have hdr := drawRows_any g (T + 100) w1.heap.size F N K w3 (s3.mono (by omega)) (by omega) (by omega) (by omega) (fun w' m => unhide HPF _ (m13.trans m)) ok
     rw [hKi, hNi] at hdr
     refine hdr.mono ?_
     rintro e wR ⟨vr, A, rfl, hAl, hAM, oA, sA, mA⟩
     have mR := m13.trans mA
     have zR := mR.size
     have z6 := m13.size
     obtain ⟨gA, cA, rfl, hgA, hgA', _, _⟩ := oA.at_ (by omega)
     have hM0 := Mat_nth hAM (i := 0) (by omega)
     obtain ⟨a0, c0, o0, hcell0, _⟩ := oA.row (i := 0) (by omega)
     rw [hM0.1] at o0 hcell0
     obtain ⟨g0, c0', e0', hg0, _, _, _⟩ := o0.at_len hM0.1 (by omega)
     injection e0' with ea _ ec
     subst ea
     subst ec
     have hc0 := hcell0 gA 0 _ _ rfl
     rw [Nat.add_zero] at hc0
     have hneA := oA.ne_row o0
     have boxes : ∀ W, Mk wR W g (g + 1) → W.cell? ⟨gA, 0, none⟩ = some (.slice (some ⟨g0, 0, none⟩) N c0) := fun W m => (cell_block ((m.kp (lo' := gA) (hi' := gA + 1) (by omega) (by omega)).2 gA (Nat.le_refl _) (by omega)) _).trans hc0
     have BX := hide boxes
     have hAp : 0 < A.length := by omega
     have hA5 : A.length ≤ 5 := by omega
     have hcapA : capTo F.n 4096 A.length ≤ 4096 := by rw [hAl]; exact hcap
     have HNI := Lib.hid hNi
     have hpk := pick_any g (T + 100 + 5000 * K) N wR.drew (sA.below (Below.drewn 1)) (by omega)
     rw [hNi] at hpk
     have hdw : Mk wR wR.drew g (g + 1) := Mk.alloc (Below.drewn 1) (by omega)
     have HPK := hide hpk
     have HOA := hide oA
     have HAM := hide hAM
     have HM0 := hide hM0
     clear boxes hpk oA hAM hM0 o0 hcell0 hc0 e0 e1 hdr hAl hKe hKi hNe hNi hcap
     go_upto_region 8 with fail
     refine wp_region_noPanic ?_
     refine wp_region_ord (S := (fun W => W.cell? ⟨gA, 0, none⟩ = some (.slice (some ⟨g0, 0, none⟩) N c0))) [(true, 0), (true, 1), (true, 2), (true, 3), (true, 4), (false, 5), (true, 6), (false, 7)] (by kernel_rfl) (by kernel_rfl) (by kernel_rfl) rfl (fun _ _ _ _ _ h => h) ?_ (fun hHeld => ?_)
     · exact (unhide BX) _ hdw
     refine SeqO.take (by rfl) (v := ?hv13) (by rfl) ?hy13 ?hr13
     case hy13 =>
      intro w hSw
      try dsimp only at hSw
      go_simp
      try (with_reducible rfl)
     try simp only [Act.put, List.setIfInBounds_toArray, List.set_cons_zero, List.set_cons_succ]
     refine SeqO.take (by rfl) (v := ?hv14) (by rfl) ?hy14 ?hr14
     case hy14 =>
      intro w hSw
      try dsimp only at hSw
      go_simp
      try (with_reducible rfl)
     try simp only [Act.put, List.setIfInBounds_toArray, List.set_cons_zero, List.set_cons_succ]
     refine SeqO.take (by rfl) (v := ?hv15) (by rfl) ?hy15 ?hr15
     case hy15 =>
      intro w hSw
      try dsimp only at hSw
      go_simp
      try (with_reducible rfl)
     try simp only [Act.put, List.setIfInBounds_toArray, List.set_cons_zero, List.set_cons_succ]
     refine SeqO.take (by rfl) (v := ?hv16) (by rfl) ?hy16 ?hr16
     case hy16 =>
      intro w hSw
      try dsimp only at hSw
      go_simp
      try (with_reducible rfl)
     try simp only [Act.put, List.setIfInBounds_toArray, List.set_cons_zero, List.set_cons_succ]
     refine SeqO.take (by rfl) (v := ?hv17) (by rfl) ?hy17 ?hr17
     case hy17 =>
      intro w hSw
      try dsimp only at hSw
      go_simp
      try (with_reducible rfl)
     try simp only [Act.put, List.setIfInBounds_toArray, List.set_cons_zero, List.set_cons_succ]
     refine SeqO.call (by rfl) (fun K hK => ?_)
     go_simp
     refine (unhide HPK).mono ?_
     rintro e w8 ⟨x8, rfl, hx8, _, _, m8⟩
     have hx8N : x8 < N := by have := HNI.out; omega
     have m8d := hdw.trans m8
     have oA8 := (unhide HOA).mk m8d (by omega)
     obtain ⟨a08, c08, o08, hcell8, hput⟩ := oA8.row (i := 0) hAp
     have hc8 := hcell8 gA 0 _ _ rfl
     rw [Nat.add_zero, (unhide BX) _ m8d] at hc8
     injection hc8 with hc8
     injection hc8 with ha8 hl8 hcc8
     subst ha8
     subst hcc8
     rw [← hl8] at o08 hput
     clear hl8
     have cx := o08.cell (j := x8) (by rw [(unhide HM0).1]; exact hx8N)
     have fx := o08.frozen x8
     refine hK.out _ _ ?_ (fun hHeld => ?_)
     · exact (unhide BX) _ m8d
     clear hK K
     try simp only [Act.put, List.setIfInBounds_toArray, List.set_cons_zero, List.set_cons_succ]
     refine SeqO.take (by rfl) (v := ?hv18) (by rfl) ?hy18 ?hr18
     case hy18 =>
      intro w hSw
      try dsimp only at hSw
      go_simp
      try (with_reducible rfl)
     try simp only [Act.put, List.setIfInBounds_toArray, List.set_cons_zero, List.set_cons_succ]
     refine SeqO.call (by rfl) (fun K hK => ?_)
     go_simp
     skip
     refine hK.out _ _ ?_ (fun hHeld => ?_)
     · exact (cell_block (Below.heap_setCell w8 _ _ gA hneA) _).trans ((unhide BX) _ m8d)
     clear hK K
     try simp only [Act.put, List.setIfInBounds_toArray, List.set_cons_zero, List.set_cons_succ]
     refine SeqO.done (NoPanic.normal ?_)
     have hst := o08.set x8 1
     have oN := hput _ ((nthL A 0).set x8 1) hst.1 (by rw [List.length_set]; exact (unhide HM0).1) hst.2
     have m9 := (mR.trans m8d).own hst.2 (by omega) (by omega)
     have hb9 := hst.2
     obtain ⟨w9, h9⟩ : ∃ z, z = w8.setCell ⟨g0, x8, none⟩ (.int .i64 1) := ⟨_, rfl⟩
     rw [← h9] at oN m9 hb9 ⊢
     have hz9 := m9.size
     have hAM' := set_Mat ok (unhide HAM) hAp x8
     obtain ⟨hC, hmk⟩ := drawn_gc hG (unhide HAM) hAp hx8N (by omega) (by omega) hcapA
     have hfo := l17Form_any w1.heap.size F (some ⟨gA, 0, none⟩) cA _ N w9 (unhide HPF _ m9) hG oN.rd (by rw [List.length_set]; exact hAp) hAM'
     rw [List.length_set] at hfo
     generalize form F (A.set 0 ((nthL A 0).set x8 1)) N = m at hC hmk hfo
     have HFO := hide hfo
     have HC := hide hC
     have HMK := Lib.hid hmk
     clear h9 oN hfo hC hmk hput hst o08 hcell8 oA8 cx fx hAM' hb9
     go_wp2_with fail
     refine (unhide HFO).mono ?_
     rintro e w10 ⟨v10, rfl, o10, b10⟩
     obtain ⟨ra, rc, rfl, _⟩ := o10.form
     have m10 := m9.new (b10.mono hz9) (by omega)
     have hmake := l18Make_any w9.heap.size w1.heap.size F ra rc m w10 (unhide HPF _ m10) ok o10 b10.size
     rw [HMK.out] at hmake
     have HMA := hide hmake
     clear hmake o10
     go_wp2_with fail
     refine (unhide HMA).mono ?_
     rintro e w11 ⟨v11, u11, rfl, o11, q11, b11⟩
     have o11 : Own w11 w9.heap.size v11 F.poly := o11
     have q11 : OwnS w11 w9.heap.size u11 m := q11
     obtain ⟨a11, c11, rfl, _⟩ := o11.form
     obtain ⟨ra11, rc11, rfl, _⟩ := q11.form
     obtain ⟨W12, h12⟩ : ∃ z, z = w11.alloc (.cells #[.int .i64 F.p, .int .i64 F.k, .slice a11 F.poly.length c11, .slice ra11 m.length rc11] 37) := ⟨_, rfl⟩
     have b12 : Below w11.heap.size w11 W12 := by rw [h12]; exact (Below.refl _ _).alloc (Nat.le_refl _) _
     have kC : Blk W12 w11.heap.size 37 #[.int .i64 F.p, .int .i64 F.k, .slice a11 F.poly.length c11, .slice ra11 m.length rc11] := by rw [h12]; exact Blk.new _ _ _ rfl
     have z11 := b11.size
     have z10 := b10.size
     have bb := Below.chain b11 b12
     have m12 := m10.new (bb.mono (by omega)) (by omega)
     have kR := k1.kp (m12.kp (lo' := w.heap.size) (hi' := w.heap.size + 1) (.inr (by omega)) k1.lt)
     have o12 := o11.below b12 (Nat.le_refl _)
     have q12 := q11.below b12 (Nat.le_refl _)
     have e0 := kC.cell 0
     have e1 := kC.cell 1
     have e2 := kC.cell 2
     have e3 := kC.cell 3
     have f0 := kR.cell 0
     have f1 := kR.cell 1
     have f2 := kR.cell 2
     have f3 := kR.cell 3
     have g0 := kR.frozen 0
     have g1 := kR.frozen 1
     have g2 := kR.frozen 2
     have g3 := kR.frozen 3
     have H12 := Lib.hid h12
     clear h12 o11 q11
     go_upto_region 10 with fail
     rw [← H12.out]
     go_wp2
     refine bodyPost_ret (results_cell_row rfl _ _ w.heap.size 37 #[.int .i64 F.p, .int .i64 F.k, .slice a11 F.poly.length c11, .slice ra11 m.length rc11] (0, 0) _ rfl (kR.b4.store _ _ _ _) Try.underlying37 rfl (by kernel_rfl)) rfl ⟨⟨F, N, m, _, _, rfl, unhide HC, ?_, ?_⟩, (mW.trans m12).new (Below.set4 (Below.refl _ _) (Nat.le_refl _) _ _ _ _) (by omega)⟩
     · have hs : w.heap.size < w9.heap.size := by omega
       exact ((((o12.storeBelow hs _).storeBelow hs _).storeBelow hs _).storeBelow hs _).mono (Nat.le_of_lt hs)
     · exact (q12.set4 (by omega) _ _ _ _).mono (by omega)
 · have hpe : (F.p == 2) = false := by rw [beq_eq_false_iff_ne]; exact hp
   obtain ⟨K, hKe⟩ : ∃ K : Nat, K = 1 + x2 := ⟨_, rfl⟩
   obtain ⟨N, hNe⟩ : ∃ N : Nat, N = 1 + x2 + x3 := ⟨_, rfl⟩
   have hKi : (K : Int) = 1 + (x2 : Int) := by omega
   have hNi : (N : Int) = 1 + (x2 : Int) + (x3 : Int) := by omega
   have hK1 : 1 ≤ K := by omega
   have hK8 : K ≤ 5 := by omega
   have hKN : K ≤ N := by omega
   have hN32 : N ≤ 20 := by omega
   have hcap : capTo F.n 4096 K ≤ 4096 := cap9 F.n (by omega) K (by omega)
   go_upto_region 7 with fail
   try clear hfn
   try clear hke
   try clear hpe
   try clear hk1
   try clear hp
   go_wp2_with fail
   have hdr := drawRows_any g (T + 100) w1.heap.size F N K w3 (s3.mono (by omega)) (by omega) (by omega) (by omega) (fun w' m => unhide HPF _ (m13.trans m)) ok
   rw [hKi, hNi] at hdr
   refine hdr.mono ?_
   rintro e wR ⟨vr, A, rfl, hAl, hAM, oA, sA, mA⟩
   have mR := m13.trans mA
   have zR := mR.size
   have z6 := m13.size
   obtain ⟨gA, cA, rfl, hgA, hgA', _, _⟩ := oA.at_ (by omega)
   have hM0 := Mat_nth hAM (i := 0) (by omega)
   obtain ⟨a0, c0, o0, hcell0, _⟩ := oA.row (i := 0) (by omega)
   rw [hM0.1] at o0 hcell0
   obtain ⟨g0, c0', e0', hg0, _, _, _⟩ := o0.at_len hM0.1 (by omega)
   injection e0' with ea _ ec
   subst ea
   subst ec
   have hc0 := hcell0 gA 0 _ _ rfl
   rw [Nat.add_zero] at hc0
   have hneA := oA.ne_row o0
   have boxes : ∀ W, Mk wR W g (g + 1) → W.cell? ⟨gA, 0, none⟩ = some (.slice (some ⟨g0, 0, none⟩) N c0) := fun W m => (cell_block ((m.kp (lo' := gA) (hi' := gA + 1) (by omega) (by omega)).2 gA (Nat.le_refl _) (by omega)) _).trans hc0
   have BX := hide boxes
   have hAp : 0 < A.length := by omega
   have hA5 : A.length ≤ 5 := by omega
   have hcapA : capTo F.n 4096 A.length ≤ 4096 := by rw [hAl]; exact hcap
   have HNI := Lib.hid hNi
   have hpk := pick_any g (T + 100 + 5000 * K) N wR.drew (sA.below (Below.drewn 1)) (by omega)
   rw [hNi] at hpk
   have hdw : Mk wR wR.drew g (g + 1) := Mk.alloc (Below.drewn 1) (by omega)
   have HPK := hide hpk
   have HOA := hide oA
   have HAM := hide hAM
   have HM0 := hide hM0
   clear boxes hpk oA hAM hM0 o0 hcell0 hc0 e0 e1 hdr hAl hKe hKi hNe hNi hcap
   go_upto_region 8 with fail
   refine wp_region_noPanic ?_
   refine wp_region_ord (S := (fun W => W.cell? ⟨gA, 0, none⟩ = some (.slice (some ⟨g0, 0, none⟩) N c0))) [(true, 0), (true, 1), (true, 2), (true, 3), (true, 4), (false, 5), (true, 6), (false, 7)] (by kernel_rfl) (by kernel_rfl) (by kernel_rfl) rfl (fun _ _ _ _ _ h => h) ?_ (fun hHeld => ?_)
   · exact (unhide BX) _ hdw
   refine SeqO.take (by rfl) (v := ?hv19) (by rfl) ?hy19 ?hr19
   case hy19 =>
    intro w hSw
    try dsimp only at hSw
    go_simp
    try (with_reducible rfl)
   try simp only [Act.put, List.setIfInBounds_toArray, List.set_cons_zero, List.set_cons_succ]
   refine SeqO.take (by rfl) (v := ?hv20) (by rfl) ?hy20 ?hr20
   case hy20 =>
    intro w hSw
    try dsimp only at hSw
    go_simp
    try (with_reducible rfl)
   try simp only [Act.put, List.setIfInBounds_toArray, List.set_cons_zero, List.set_cons_succ]
   refine SeqO.take (by rfl) (v := ?hv21) (by rfl) ?hy21 ?hr21
   case hy21 =>
    intro w hSw
    try dsimp only at hSw
    go_simp
    try (with_reducible rfl)
   try simp only [Act.put, List.setIfInBounds_toArray, List.set_cons_zero, List.set_cons_succ]
   refine SeqO.take (by rfl) (v := ?hv22) (by rfl) ?hy22 ?hr22
   case hy22 =>
    intro w hSw
    try dsimp only at hSw
    go_simp
    try (with_reducible rfl)
   try simp only [Act.put, List.setIfInBounds_toArray, List.set_cons_zero, List.set_cons_succ]
   refine SeqO.take (by rfl) (v := ?hv23) (by rfl) ?hy23 ?hr23
   case hy23 =>
    intro w hSw
    try dsimp only at hSw
    go_simp
    try (with_reducible rfl)
   try simp only [Act.put, List.setIfInBounds_toArray, List.set_cons_zero, List.set_cons_succ]
   refine SeqO.call (by rfl) (fun K hK => ?_)
   go_simp
   refine (unhide HPK).mono ?_
   rintro e w8 ⟨x8, rfl, hx8, _, _, m8⟩
   have hx8N : x8 < N := by have := HNI.out; omega
   have m8d := hdw.trans m8
   have oA8 := (unhide HOA).mk m8d (by omega)
   obtain ⟨a08, c08, o08, hcell8, hput⟩ := oA8.row (i := 0) hAp
   have hc8 := hcell8 gA 0 _ _ rfl
   rw [Nat.add_zero, (unhide BX) _ m8d] at hc8
   injection hc8 with hc8
   injection hc8 with ha8 hl8 hcc8
   subst ha8
   subst hcc8
   rw [← hl8] at o08 hput
   clear hl8
   have cx := o08.cell (j := x8) (by rw [(unhide HM0).1]; exact hx8N)
   have fx := o08.frozen x8
   refine hK.out _ _ ?_ (fun hHeld => ?_)
   · exact (unhide BX) _ m8d
   clear hK K
   try simp only [Act.put, List.setIfInBounds_toArray, List.set_cons_zero, List.set_cons_succ]
   refine SeqO.take (by rfl) (v := ?hv24) (by rfl) ?hy24 ?hr24
   case hy24 =>
    intro w hSw
    try dsimp only at hSw
    go_simp
    try (with_reducible rfl)
   try simp only [Act.put, List.setIfInBounds_toArray, List.set_cons_zero, List.set_cons_succ]
   refine SeqO.call (by rfl) (fun K hK => ?_)
   go_simp
   skip
   refine hK.out _ _ ?_ (fun hHeld => ?_)
   · exact (cell_block (Below.heap_setCell w8 _ _ gA hneA) _).trans ((unhide BX) _ m8d)
   clear hK K
   try simp only [Act.put, List.setIfInBounds_toArray, List.set_cons_zero, List.set_cons_succ]
   refine SeqO.done (NoPanic.normal ?_)
   have hst := o08.set x8 1
   have oN := hput _ ((nthL A 0).set x8 1) hst.1 (by rw [List.length_set]; exact (unhide HM0).1) hst.2
   have m9 := (mR.trans m8d).own hst.2 (by omega) (by omega)
   have hb9 := hst.2
   obtain ⟨w9, h9⟩ : ∃ z, z = w8.setCell ⟨g0, x8, none⟩ (.int .i64 1) := ⟨_, rfl⟩
   rw [← h9] at oN m9 hb9 ⊢
   have hz9 := m9.size
   have hAM' := set_Mat ok (unhide HAM) hAp x8
   obtain ⟨hC, hmk⟩ := drawn_gc hG (unhide HAM) hAp hx8N (by omega) (by omega) hcapA
   have hfo := l17Form_any w1.heap.size F (some ⟨gA, 0, none⟩) cA _ N w9 (unhide HPF _ m9) hG oN.rd (by rw [List.length_set]; exact hAp) hAM'
   rw [List.length_set] at hfo
   generalize form F (A.set 0 ((nthL A 0).set x8 1)) N = m at hC hmk hfo
   have HFO := hide hfo
   have HC := hide hC
   have HMK := Lib.hid hmk
   clear h9 oN hfo hC hmk hput hst o08 hcell8 oA8 cx fx hAM' hb9
   go_wp2_with fail
   refine (unhide HFO).mono ?_
   rintro e w10 ⟨v10, rfl, o10, b10⟩
   obtain ⟨ra, rc, rfl, _⟩ := o10.form
   have m10 := m9.new (b10.mono hz9) (by omega)
   have hmake := l18Make_any w9.heap.size w1.heap.size F ra rc m w10 (unhide HPF _ m10) ok o10 b10.size
   rw [HMK.out] at hmake
   have HMA := hide hmake
   clear hmake o10
   go_wp2_with fail
   refine (unhide HMA).mono ?_
   rintro e w11 ⟨v11, u11, rfl, o11, q11, b11⟩
   have o11 : Own w11 w9.heap.size v11 F.poly := o11
   have q11 : OwnS w11 w9.heap.size u11 m := q11
   obtain ⟨a11, c11, rfl, _⟩ := o11.form
   obtain ⟨ra11, rc11, rfl, _⟩ := q11.form
   obtain ⟨W12, h12⟩ : ∃ z, z = w11.alloc (.cells #[.int .i64 F.p, .int .i64 F.k, .slice a11 F.poly.length c11, .slice ra11 m.length rc11] 37) := ⟨_, rfl⟩
   have b12 : Below w11.heap.size w11 W12 := by rw [h12]; exact (Below.refl _ _).alloc (Nat.le_refl _) _
   have kC : Blk W12 w11.heap.size 37 #[.int .i64 F.p, .int .i64 F.k, .slice a11 F.poly.length c11, .slice ra11 m.length rc11] := by rw [h12]; exact Blk.new _ _ _ rfl
   have z11 := b11.size
   have z10 := b10.size
   have bb := Below.chain b11 b12
   have m12 := m10.new (bb.mono (by omega)) (by omega)
   have kR := k1.kp (m12.kp (lo' := w.heap.size) (hi' := w.heap.size + 1) (.inr (by omega)) k1.lt)
   have o12 := o11.below b12 (Nat.le_refl _)
   have q12 := q11.below b12 (Nat.le_refl _)
   have e0 := kC.cell 0
   have e1 := kC.cell 1
   have e2 := kC.cell 2
   have e3 := kC.cell 3
   have f0 := kR.cell 0
   have f1 := kR.cell 1
   have f2 := kR.cell 2
   have f3 := kR.cell 3
   have g0 := kR.frozen 0
   have g1 := kR.frozen 1
   have g2 := kR.frozen 2
   have g3 := kR.frozen 3
   have H12 := Lib.hid h12
   clear h12 o11 q11
   go_upto_region 10 with fail
   rw [← H12.out]
   go_wp2
   refine bodyPost_ret (results_cell_row rfl _ _ w.heap.size 37 #[.int .i64 F.p, .int .i64 F.k, .slice a11 F.poly.length c11, .slice ra11 m.length rc11] (0, 0) _ rfl (kR.b4.store _ _ _ _) Try.underlying37 rfl (by kernel_rfl)) rfl ⟨⟨F, N, m, _, _, rfl, unhide HC, ?_, ?_⟩, (mW.trans m12).new (Below.set4 (Below.refl _ _) (Nat.le_refl _) _ _ _ _) (by omega)⟩
   · have hs : w.heap.size < w9.heap.size := by omega
     exact ((((o12.storeBelow hs _).storeBelow hs _).storeBelow hs _).storeBelow hs _).mono (Nat.le_of_lt hs)
   · exact (q12.set4 (by omega) _ _ _ _).mono (by omega)
theorem V8Code_any (a : Option Addr) (c : Nat) (bs : List Int) (w : World) (h : RdB w a bs) :
    Calls Try.prog 39 #[.slice a bs.length c] w fun e w' => CodeD w e w' ∧ Below w.heap.size w w' := by
 obtain ⟨W0, hW0⟩ : ∃ W0, W0 = w.alloc (.cells #[.int .i64 0, .int .i64 0, .slice none 0 0, .slice none 0 0] 37) := ⟨_, rfl⟩
 have b0 : Below w.heap.size w W0 := by rw [hW0]; exact (Below.refl _ _).alloc (Nat.le_refl _) _
 have k0 : Blk W0 w.heap.size 37 #[.int .i64 0, .int .i64 0, .slice none 0 0, .slice none 0 0] := by rw [hW0]; exact Blk.new _ _ _ rfl
 have z0 : w.heap.size < W0.heap.size := k0.lt
 have HB := hide (h.below b0)
 have HW := Lib.hid hW0
 clear hW0 h
 go_enter Try.func39, Try.ntmps39
 go_upto_region 1 with fail
 rw [← HW.out]
 go_wp2_with fail
 refine (from_any a c bs W0 (unhide HB)).mono ?_
 rintro e w1 ⟨rfl, s1, b1, z1⟩
 go_wp2_with fail
 refine (l18Draw_any W0.heap.size 0 w1 s1 (by omega)).mono ?_
 rintro e w2 ⟨⟨F, n, m, v, u, rfl, hC, o2, q2⟩, m2⟩
 have k2 := (k0.below b1 k0.lt).kp (m2.kp (.inl (by omega)) (by omega))
 have z2 := m2.size
 obtain ⟨a2, c2, rfl, _⟩ := o2.form
 obtain ⟨ra2, rc2, rfl, _⟩ := q2.form
 have b02 := b0.trans ((b1.trans m2.1).mono (by omega))
 have f0 := k2.cell 0
 have f1 := k2.cell 1
 have f2 := k2.cell 2
 have f3 := k2.cell 3
 have g0 := k2.frozen 0
 have g1 := k2.frozen 1
 have g2 := k2.frozen 2
 have g3 := k2.frozen 3
 go_wp2
 refine bodyPost_ret (results_cell_row rfl _ _ w.heap.size 37 #[.int .i64 F.p, .int .i64 F.k, .slice a2 F.poly.length c2, .slice ra2 m.length rc2] (0, 0) _ rfl (k2.b4.store _ _ _ _) Try.underlying37 rfl (by kernel_rfl)) rfl ⟨⟨F, n, m, _, _, rfl, hC, ?_, ?_⟩, Below.set4 b02 (Nat.le_refl _) _ _ _ _⟩
 · have hs : w.heap.size < w1.heap.size := by omega
   exact ((((o2.storeBelow hs _).storeBelow hs _).storeBelow hs _).storeBelow hs _).mono (Nat.le_of_lt hs)
 · exact (q2.set4 (by omega) _ _ _ _).mono (by omega)
end Go.Proofs.Ytgmgpcaahanmiaa
