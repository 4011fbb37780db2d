/-
  Texts joined.
-/
import Derived.Test.YtgfcbmflnldicaaMX2
import Derived.Test.YtgfcbmflnldicaaMX4
import Derived.Test.YtgfcbmflnldicaaMX5
import Derived.Test.YtgfcbmflnldicaaMX6
import Derived.Test.YtgfcbmflnldicaaMX14
import Derived.Test.YtgfcbmflnldicaaMX15
import Derived.Test.YtgfcbmflnldicaaMX17
set_option linter.unusedVariables false
set_option linter.unusedSimpArgs false
set_option maxRecDepth 100000
set_option maxHeartbeats 40000000
namespace Go.Proofs.Ytgfcbmflnldicaa
open Go.RowKit
attribute [local go_sem ↓] Go.wp_at_zero Go.wp_at_succ
theorem Own.mk {w w' : World} {B g : Nat} {v : Value} {xs : List Int} (h : Own w B v xs) (m : Mk w w' g (g + 1)) (hB : g < B) : Own w' B v xs := (h.toH.kp (m.kp (.inr (by omega)) (Nat.le_refl _))).1
theorem OwnS.mk {w w' : World} {B g : Nat} {v : Value} {xss : List (List Int)} (h : OwnS w B v xss) (m : Mk w w' g (g + 1)) (hB : g < B) : OwnS w' B v xss := (h.toH.kp (m.kp (.inr (by omega)) (Nat.le_refl _))).own
theorem Mk.own {w a b : World} {lo hi k : Nat} (h : Mk w a lo hi) (hg : a.grownBy b (some k)) (hk : w.heap.size ≤ k) (hlo : lo ≤ w.heap.size) : Mk w b lo hi :=
 ⟨h.1.grown hg (by have := h.size; omega) (fun q hq => by injection hq; omega), fun c hc hcw => (hg.block c (by have := h.size; omega) (fun e => by injection e; omega)).trans (h.2 c hc hcw)⟩
theorem Mk.new {w a b : World} {lo hi : Nat} (h : Mk w a lo hi) (hb : Below w.heap.size a b) (hlo : lo ≤ w.heap.size) : Mk w b lo hi := ⟨h.1.trans (hb.mono hlo), fun c hc hcw => (hb.block c hcw).trans (h.2 c hc hcw)⟩
theorem Mk.app {w a b : World} {lo hi B : Nat} {v : Value} {xs : List Int} (h : Mk w a lo hi) (hg : a.grownBy b v.ownBlock) (ho : Own a B v xs) (hB : w.heap.size ≤ B) (hlo : lo ≤ w.heap.size) : Mk w b lo hi := by
 cases e : v.ownBlock with
 | none =>
  rw [e] at hg
  refine ⟨h.1.grown hg (by have := h.size; omega) (fun q hq => by simp at hq), fun c hc hcw => (hg.block c (by have := h.size; omega) (by simp)).trans (h.2 c hc hcw)⟩
 | some k =>
  rw [e] at hg
  exact h.own hg (by have := (ho.lt k e).1; omega) hlo
theorem Src.keep {w w' : World} {g T B : Nat} (h : Src w g T) (hb : Below B w w') (hB : g < B) : Src w' g T := h.kp ⟨hb.size, fun c _ hc => hb.block c (by omega)⟩
theorem RdS.row_same {w : World} {a : Option Addr} {xss : List (List Int)} {b o : Nat} (h : RdS w a xss) (ha : a = some ⟨b, o, none⟩) {i : Nat} (hi : i < xss.length) {ai : Option Addr} {n ci : Nat} (hc : w.cell? ⟨b, o + i, none⟩ = some (.slice ai n ci)) : Rd w ai (nthL xss i) := by
 obtain ⟨b', o', e, _, hcc⟩ := h.at_ (by omega)
 rw [ha] at e
 injection e with e
 injection e with e1 e2
 subst e1
 subst e2
 obtain ⟨a', c', h1, h2⟩ := hcc i hi
 rw [hc] at h1
 injection h1 with h1
 injection h1 with h1 _ _
 subst h1
 exact h2
def lenV : Value → Nat
 | .slice _ n _ => n
 | _ => 0
def VecD (w : World) (g T : Nat) (F : FD) (n : Nat) (e : Ending) (w' : World) : Prop :=
 ∃ (v : Value) (xs : List Int), e = .returned v ∧ xs.length = n ∧ (∀ x ∈ xs, 0 ≤ x ∧ x < F.n) ∧ Own w' w.heap.size v xs ∧ Src w' g T ∧ Mk w w' g (g + 1)
theorem drawVector_any (g T gF : Nat) (F : FD) (n : Nat) (w : World) (h : Src w g T) (hn : n ≤ 1000) (hT : T ≤ 1000000000) (hF : ∀ w', Mk w w' g (g + 1) → PF w' gF F) (ok : F.Ok) :
    Calls Try.prog 36 #[.pointer (some ⟨g, 0, none⟩), .pointer (some ⟨gF, 0, none⟩), .int .i64 n] w (VecD w g (T + 4 * n) F n) := by
 obtain ⟨n2, n64⟩ := ok.n_bd
 have hlt := h.lt
 have HF := hide hF
 have HS := hide h
 clear hF h
 go_enter Try.func36, Try.ntmps36
 go_wp2_with fail
 go_loopw [2, 7] (fun mv v wr => ∃ (m : Nat) (xs : List Int), mv = .int .i64 m ∧ m ≤ n ∧ xs.length + m = n ∧ Hid (∀ x ∈ xs, 0 ≤ x ∧ x < F.n) ∧ Hid (Own wr w.heap.size v xs) ∧ Src wr g (T + 4 * xs.length) ∧ Mk w wr g (g + 1)) (fun mv _ _ => (intOf mv).toNat)
 case atStart => exact ⟨n, [], rfl, Nat.le_refl _, by simp, by show ∀ x ∈ ([] : List Int), _; simp, Own.empty w (Nat.le_refl _), ((unhide HS).below ((Below.refl _ _).alloc (Nat.le_refl _) _)).mono (by omega), Mk.alloc ((Below.refl _ _).alloc (Nat.le_refl _) _) (by omega)⟩
 case round =>
  obtain ⟨m, xs, rfl, hm, hl, he, ho, hs, hmk⟩ := hrel
  have hsz := hmk.size
  by_cases hm0 : 0 < m
  · obtain ⟨m, rfl⟩ : ∃ k, m = k + 1 := ⟨m - 1, by omega⟩
    obtain ⟨v7, rfl⟩ : ∃ v7, v7 = u7 := ⟨_, rfl⟩
    go_wp2_with fail
    refine (l03Size_any gF F wr (unhide HF _ hmk) ok).mono ?_
    rintro e w1 ⟨rfl, b1⟩
    have m1 := hmk.new (b1.mono hsz) (by omega)
    have s1 := hs.below b1
    have o1 := ho.out.below b1 (Nat.le_refl _)
    go_wp2_with fail
    refine (pick_any g (T + 4 * xs.length) F.n w1 s1 (by omega)).mono ?_
    rintro e w2 ⟨x, rfl, hx, hx2, s2, k2⟩
    have m2 := m1.trans k2
    have o2 := o1.mk k2 hlt
    have hxn : (x : Int) < F.n := by rcases hx with h | h <;> omega
    go_wp2_with fail
    refine (one_any g (T + 4 * xs.length + 2) 3 w2 s2 (by omega)).mono ?_
    rintro e w3 ⟨b, rfl, s3, k3⟩
    have m3 := m2.trans k3
    have o3 := o2.mk k3 hlt
    have z3 := m3.size
    clear hs s1 s2 o1 o2 m1 m2 k2 k3 hmk
    have HO := Lib.hid o3
    clear o3
    cases b with
    | true =>
     go_wp2_with (at_builtin; refine wpList_append_ints rfl (.tmp 20) (.tmp 22) rfl w.heap.size v7 xs [0] rfl (HO.out.alloc _) _ 1 1 rfl rfl (Rd.one w3 0 _) (by simp; omega) (by simp; omega) ?_; intro v1 w4 o4 g4 _)
     go_roundw
     case rel =>
      have b4 : Below w.heap.size w3 w4 := Below.step ((Below.refl _ _).alloc z3 _) g4 (HO.out.alloc _) (Nat.le_refl _) (by simp; omega)
      refine ⟨m, xs ++ [0], by go_num, by omega, by simp; omega, ?_, o4, (s3.keep b4 hlt).mono (by simp; omega), m3.new b4 (by omega)⟩
      intro y hy
      rcases List.mem_append.1 hy with h | h
      · exact he.out y h
      · rw [List.mem_singleton.1 h]; omega
     case measure => simp only [intOf]; omega
    | false =>
     go_wp2_with (at_builtin; refine wpList_append_ints rfl (.tmp 20) (.tmp 22) rfl w.heap.size v7 xs [(x : Int)] rfl (HO.out.alloc _) _ 1 1 rfl rfl (Rd.one w3 x _) (by simp; omega) (by simp; omega) ?_; intro v1 w4 o4 g4 _)
     go_roundw
     case rel =>
      have b4 : Below w.heap.size w3 w4 := Below.step ((Below.refl _ _).alloc z3 _) g4 (HO.out.alloc _) (Nat.le_refl _) (by simp; omega)
      refine ⟨m, xs ++ [(x : Int)], by go_num, by omega, by simp; omega, ?_, o4, (s3.keep b4 hlt).mono (by simp; omega), m3.new b4 (by omega)⟩
      intro y hy
      rcases List.mem_append.1 hy with h | h
      · exact he.out y h
      · rw [List.mem_singleton.1 h]; omega
     case measure => simp only [intOf]; omega
  · have hme : m = 0 := by omega
    subst hme
    go_wp2
    go_ret
    exact ⟨_, xs, rfl, by omega, he.out, ho.out, hs.mono (by omega), hmk⟩
end Go.Proofs.Ytgfcbmflnldicaa
namespace Go.Proofs.Ytgfcbmflnldicaa
open Go.RowKit
attribute [local go_sem ↓] Go.wp_at_zero Go.wp_at_succ
theorem V8Vector_any (a : Option Addr) (c : Nat) (bs : List Int) (F : FD) (fa : Option Addr) (fc : Nat) (n : Nat) (w : World) (h : RdB w a bs) (hF : Rd w fa F.poly) (ok : F.Ok) (hn : n ≤ 1000) :
    Calls Try.prog 15 #[.slice a bs.length c, .agg #[.int .i64 F.p, .int .i64 F.k, .slice fa F.poly.length fc], .int .i64 n] w fun e w' => ∃ (v : Value) (xs : List Int), e = .returned v ∧ xs.length = n ∧ (∀ x ∈ xs, 0 ≤ x ∧ x < F.n) ∧ Own w' w.heap.size v xs ∧ Below w.heap.size w w' := by
 obtain ⟨W0, hW0⟩ : ∃ W0, W0 = w.alloc (.cells #[.int .i64 F.p, .int .i64 F.k, .slice fa F.poly.length fc] 26) := ⟨_, rfl⟩
 have b0 : Below w.heap.size w W0 := by rw [hW0]; exact (Below.refl _ _).alloc (Nat.le_refl _) _
 have hP : PF W0 w.heap.size F := by rw [hW0]; exact PF.box hF
 have z0 : w.heap.size < W0.heap.size := hP.lt
 have HB := hide (h.below b0)
 have HW := Lib.hid hW0
 have HP := hide hP
 clear hW0 h hF hP
 go_enter Try.func15, Try.ntmps15
 go_upto_region 1 with fail
 rw [← HW.out]
 go_wp2_with fail
 refine (from_any a c bs W0 (unhide HB)).mono ?_
 rintro e w1 ⟨rfl, s1, b1, z1⟩
 go_wp2_with fail
 refine (drawVector_any W0.heap.size 0 w.heap.size F n w1 s1 hn (by omega) (fun w' m => (unhide HP).below (b1.trans m.1)) ok).mono ?_
 rintro e w2 ⟨v, xs, rfl, hl, he, o2, _, m2⟩
 go_wp2
 go_ret
 exact ⟨v, xs, rfl, hl, he, o2.mono (by omega), b0.trans ((b1.trans m2.1).mono (by omega))⟩
theorem drawField_any (g T : Nat) (w : World) (h : Src w g T) (hT : T ≤ 1000000000) :
    Calls Try.prog 19 #[.pointer (some ⟨g, 0, none⟩)] w fun e w' => ∃ (v : Value) (F : FD), e = .returned (.agg #[.int .i64 F.p, .int .i64 F.k, v]) ∧ F.Good ∧ F.n ≤ 9 ∧ Own w' w.heap.size v F.poly ∧ Src w' g (T + 2) ∧ Mk w w' g (g + 1) := by
 obtain ⟨W0, hW0⟩ : ∃ W0, W0 = w.alloc (.cells #[.int .i64 0, .int .i64 0, .slice none 0 0] 26) := ⟨_, rfl⟩
 have b0 : Below w.heap.size w W0 := by rw [hW0]; exact (Below.refl _ _).alloc (Nat.le_refl _) _
 have k0 : Blk W0 w.heap.size 26 #[.int .i64 0, .int .i64 0, .slice none 0 0] := by rw [hW0]; exact Blk.new _ _ _ rfl
 have z0 : w.heap.size < W0.heap.size := k0.lt
 have hlt := h.lt
 have HB := hide (h.below b0)
 have HW := Lib.hid hW0
 clear hW0 h
 go_enter Try.func19, Try.ntmps19
 go_upto_region 1 with fail
 rw [← HW.out]
 go_wp2_with fail
 refine (among_new g T [2, 2, 3, 4, 5, 7, 8, 9] W0 (unhide HB) (by omega) (by decide) (by decide) rfl rfl).mono ?_
 rintro e w1 ⟨i, hi, rfl, s1, m1⟩
 have hq := nth_all (P := fun q => isField q = true) hi (by decide +kernel)
 have hq9 := nth_all (P := fun q => q ≤ 9) hi (by decide)
 generalize nth [2, 2, 3, 4, 5, 7, 8, 9] i = q at hq hq9
 go_wp2_with fail
 refine (l03Make_any q w1 hq).mono ?_
 rintro e w2 ⟨v, rfl, o2, b2⟩
 have hG := fdOf_good hq
 have hn9 : (fdOf q).n ≤ 9 := by
  obtain ⟨ok, hpk, _⟩ := fdOf_ok hq
  have := ok.n_eq
  omega
 generalize fdOf q = F at hG o2 hn9
 have z1 := m1.size
 have z2 := b2.size
 have mm := ((Mk.alloc b0 (by omega : g ≤ w.heap.size)).trans m1).new (b2.mono (by omega)) (by omega)
 have k2 := (k0.kp (m1.kp (.inr (by omega)) k0.lt)).below b2 (by have := k0.lt; omega)
 have s2 := s1.below b2
 obtain ⟨a2, c2, rfl, r2, _⟩ := o2.form
 have f0 := k2.cell 0
 have f1 := k2.cell 1
 have f2 := k2.cell 2
 have g0 := k2.frozen 0
 have g1 := k2.frozen 1
 have g2 := k2.frozen 2
 go_wp2
 refine bodyPost_ret (results_cell_row rfl _ _ w.heap.size 26 #[.int .i64 F.p, .int .i64 F.k, .slice a2 F.poly.length c2] (0, 0) _ rfl (k2.b3.store _ _ _) Try.underlying26 rfl (by kernel_rfl)) rfl ⟨_, F, rfl, hG, hn9, ?_, ?_, ?_⟩
 · have hs : w.heap.size < w1.heap.size := by omega
   exact (((o2.storeBelow hs _).storeBelow hs _).storeBelow hs _).mono (Nat.le_of_lt hs)
 · exact s2.keep (Below.set3 (Below.refl _ _) (Nat.le_refl _) _ _ _) hlt
 · exact mm.new (Below.set3 (Below.refl _ _) (Nat.le_refl _) _ _ _) (by omega)
def MatD (w : World) (g T : Nat) (F : FD) (n rows : Nat) (e : Ending) (w' : World) : Prop :=
 ∃ (v : Value) (xss : List (List Int)), e = .returned v ∧ xss.length = rows ∧ F.Mat n xss ∧ OwnS w' w.heap.size v xss ∧ Src w' g T ∧ Mk w w' g (g + 1)
theorem drawRows_any (g T gF : Nat) (F : FD) (n rows : Nat) (w : World) (h : Src w g T) (hn : n ≤ 1000) (hr : rows ≤ 1000) (hT : T ≤ 100000000) (hF : ∀ w', Mk w w' g (g + 1) → PF w' gF F) (ok : F.Ok) :
    Calls Try.prog 21 #[.pointer (some ⟨g, 0, none⟩), .pointer (some ⟨gF, 0, none⟩), .int .i64 rows, .int .i64 n] w (MatD w g (T + 5000 * rows) F n rows) := by
 obtain ⟨n2, n64⟩ := ok.n_bd
 have hlt := h.lt
 have HF := hide hF
 have HS := hide h
 clear hF h
 go_enter Try.func21, Try.ntmps21
 go_wp2_with fail
 go_loopw [9] (fun v wr => ∃ (xss : List (List Int)), xss.length ≤ rows ∧ Hid (F.Mat n xss) ∧ Hid (OwnS wr w.heap.size v xss) ∧ Hid (Src wr g (T + 5000 * xss.length)) ∧ Mk w wr g (g + 1) ∧ lenV v = xss.length) (fun v _ => rows - lenV v)
 case atStart => exact ⟨[], Nat.zero_le _, by intro x hx; simp at hx, OwnS.empty w (Nat.le_refl _), ((unhide HS).below ((Below.refl _ _).alloc (Nat.le_refl _) _)).mono (by omega), Mk.alloc ((Below.refl _ _).alloc (Nat.le_refl _) _) (by omega), rfl⟩
 case round =>
  obtain ⟨xss, hl, hM, ho, hs, hmk, hlv⟩ := hrel
  have hsz := hmk.size
  obtain ⟨a9, c9, rfl, rds⟩ := ho.out.form
  have hxm := rds.len
  by_cases hlr : xss.length < rows
  · go_wp2_with fail
    refine (drawVector_any g (T + 5000 * xss.length) gF F n wr hs.out hn (by omega) (fun w' m => unhide HF _ (hmk.trans m)) ok).mono ?_
    rintro e w1 ⟨v1, xs, rfl, hxl, hxe, o1, s1, m1⟩
    have hH := ho.out.toH.kp (m1.kp (.inr (by omega)) (Nat.le_refl _))
    have z1 := m1.size
    have mk1 := hmk.trans m1
    have rds1 := hH.own.rd
    obtain ⟨x1, y1, rfl, _, _⟩ := o1.form
    have HX := hide hxe
    have HXL := Lib.hid hxl
    clear hs ho rds hxl hxe
    by_cases h1 : 1 < xss.length
    · go_wp2_with fail
      refine (one_any g (T + 5000 * xss.length + 4 * n) 4 w1 s1 (by omega)).mono ?_
      rintro e w2 ⟨b, rfl, s2, m2⟩
      have o2 := o1.mk m2 (by omega)
      have hH2 := hH.kp (m2.kp (.inr (by omega)) (by omega))
      have mk2 := mk1.trans m2
      have z2 := m2.size
      have rds2 := hH2.own.rd
      cases b with
      | false =>
       clear s1 o1 hH mk1 rds1 m1 rds2 hmk
       have HH := hide hH2
       have HO := hide o2
       clear hH2 o2
       go_wp2_with (at_builtin; refine wpList_append_row rfl (.tmp 39) (.tmp 41) rfl (v := .slice a9 xss.length c9) rfl ((unhide HH).belw ((Below.refl _ _).alloc (Nat.le_refl _) _) (by omega)) _ rfl ((Blk.new w2 24 #[.slice x1 xs.length y1] rfl).cell 0) ((unhide HO).alloc _) hsz (by simp; omega) (by omega) ?_; intro v5 w5 o5 g5 _; obtain ⟨a5, c5, e5, _⟩ := o5.form; rw [List.length_append, List.length_singleton] at e5; subst e5)
       go_roundw
       case rel =>
        have b5 : Below w.heap.size w2 w5 := Below.stepS ((Below.refl _ _).alloc (by omega) _) g5 (((unhide HH).belw ((Below.refl _ _).alloc (Nat.le_refl _) _) (by omega)).own) (Nat.le_refl _) (by simp; omega)
        exact ⟨xss ++ [xs], by simp; omega, Mat_snoc hM.out ⟨HXL.out, unhide HX⟩, o5, (s2.keep b5 hlt).mono (by simp; omega), mk2.new b5 (by omega), by simp [lenV]⟩
       case measure => first | (simp only [lenV]; omega) | (simp [lenV]; omega)
      | true =>
       obtain ⟨b9, o9, rfl, hb9, hc9⟩ := rds2.at_ (by omega)
       obtain ⟨ai, ci, hc0, hr0⟩ := hc9 0 (by omega)
       obtain ⟨aj, cj, hc1, hr1⟩ := hc9 1 (by omega)
       have hM0 := Mat_nth hM.out (i := 0) (by omega)
       have hM1 := Mat_nth hM.out (i := 1) (by omega)
       have hb9w : w.heap.size ≤ b9 := by
        obtain ⟨_, _, _, _, hin, _⟩ := hH2
        exact (hin b9 rfl).1
       rw [Nat.add_zero] at hc0
       have hne : b9 ≠ g := by omega
       have boxes : ∀ W, Mk w2 W g (g + 1) → (Mk w2 W g (g + 1) ∧ W.cell? ⟨b9, o9, none⟩ = some (.slice ai (nthL xss 0).length ci) ∧ W.cell? ⟨b9, o9 + 1, none⟩ = some (.slice aj (nthL xss 1).length cj)) := fun W m => ⟨m, (cell_block ((m.kp (lo' := b9) (hi' := b9 + 1) (by omega) (by omega)).2 b9 (Nat.le_refl _) (by omega)) _).trans hc0, (cell_block ((m.kp (lo' := b9) (hi' := b9 + 1) (by omega) (by omega)).2 b9 (Nat.le_refl _) (by omega)) _).trans hc1⟩
       rw [hM0.1, hM1.1] at boxes
       have hdr : Mk w2 w2.drew g (g + 1) := Mk.alloc (Below.drewn 1) (by omega)
       have hsize := fun W (m : Mk w2 W g (g + 1)) => l03Size_any gF F W (unhide HF _ (mk2.trans m)) ok
       have BX := hide boxes
       have HSZ := hide hsize
       have HH := hide hH2
       have HO := hide o2
       have HC := hide hc9
       have R0 := hide hr0
       have R1 := hide hr1
       have HM0 := hide hM0
       have HM1 := hide hM1
       have S2 := hide s2
       have hb9' : 0 < xss.length := by omega
       clear s1 o1 hH mk1 rds1 m1 rds2 boxes hsize hH2 o2 hc9 hc0 hc1 hr0 hr1 hM0 hM1 s2
       go_upto_region 5 with fail
       refine wp_region_noPanic ?_
       refine wp_region_ord (S := (fun W => Mk w2 W g (g + 1) ∧ W.cell? ⟨b9, o9, none⟩ = some (.slice ai n ci) ∧ W.cell? ⟨b9, o9 + 1, none⟩ = some (.slice aj n cj))) [(true, 0), (true, 1), (true, 2), (true, 3), (true, 4), (true, 5), (true, 6), (true, 7), (true, 8), (false, 9), (false, 10), (false, 11), (true, 12)] (by kernel_rfl) (by kernel_rfl) (by kernel_rfl) rfl (fun _ _ _ _ _ h => h) ?_ (fun hHeld => ?_)
       · exact (unhide BX) _ hdr
       refine SeqO.take (by rfl) (v := ?hv1) (by rfl) ?hy1 ?hr1
       case hy1 =>
        intro w hSw
        try dsimp only at hSw
        go_simp
        try (with_reducible rfl)
       try simp only [Act.put, List.setIfInBounds_toArray, List.set_cons_zero, List.set_cons_succ]
       refine SeqO.take (by rfl) (v := ?hv2) (by rfl) ?hy2 ?hr2
       case hy2 =>
        intro w hSw
        try dsimp only at hSw
        go_simp
        try (with_reducible rfl)
       try simp only [Act.put, List.setIfInBounds_toArray, List.set_cons_zero, List.set_cons_succ]
       refine SeqO.take (by rfl) (v := ?hv3) (by rfl) ?hy3 ?hr3
       case hy3 =>
        intro w hSw
        try dsimp only at hSw
        go_simp
        try (with_reducible rfl)
       try simp only [Act.put, List.setIfInBounds_toArray, List.set_cons_zero, List.set_cons_succ]
       refine SeqO.take (by rfl) (v := ?hv4) (by rfl) ?hy4 ?hr4
       case hy4 =>
        intro w hSw
        try dsimp only at hSw
        go_simp
        try (with_reducible rfl)
       try simp only [Act.put, List.setIfInBounds_toArray, List.set_cons_zero, List.set_cons_succ]
       refine SeqO.take (by rfl) (v := ?hv5) (by rfl) ?hy5 ?hr5
       case hy5 =>
        intro w hSw
        try dsimp only at hSw
        go_simp
        try (with_reducible rfl)
       try simp only [Act.put, List.setIfInBounds_toArray, List.set_cons_zero, List.set_cons_succ]
       refine SeqO.take (by rfl) (v := ?hv6) (by rfl) ?hy6 ?hr6
       case hy6 =>
        intro w hSw
        try dsimp only at hSw
        go_simp
        try (with_reducible rfl)
       try simp only [Act.put, List.setIfInBounds_toArray, List.set_cons_zero, List.set_cons_succ]
       refine SeqO.take (by rfl) (v := ?hv7) (by rfl) ?hy7 ?hr7
       case hy7 =>
        intro w hSw
        try dsimp only at hSw
        go_simp
        try (with_reducible rfl)
       try simp only [Act.put, List.setIfInBounds_toArray, List.set_cons_zero, List.set_cons_succ]
       refine SeqO.take (by rfl) (v := ?hv8) (by rfl) ?hy8 ?hr8
       case hy8 =>
        intro w hSw
        try dsimp only at hSw
        go_simp
        try (with_reducible rfl)
       try simp only [Act.put, List.setIfInBounds_toArray, List.set_cons_zero, List.set_cons_succ]
       refine SeqO.take (by rfl) (v := ?hv9) (by rfl) ?hy9 ?hr9
       case hy9 =>
        intro w hSw
        try dsimp only at hSw
        go_simp
        try (with_reducible rfl)
       try simp only [Act.put, List.setIfInBounds_toArray, List.set_cons_zero, List.set_cons_succ]
       refine SeqO.call (by rfl) (fun K hK => ?_)
       go_simp
       refine (unhide HSZ _ hdr).mono ?_
       rintro e w3 ⟨rfl, b3⟩
       have m3 := hdr.new b3 (by omega)
       have s3 := ((unhide S2).below (Below.drewn 1)).below b3
       refine hK.out _ _ ?_ (fun hHeld => ?_)
       · exact (unhide BX) _ m3
       clear hK K
       try simp only [Act.put, List.setIfInBounds_toArray, List.set_cons_zero, List.set_cons_succ]
       refine SeqO.call (by rfl) (fun K hK => ?_)
       go_simp
       refine (pick_any g (T + 5000 * xss.length + 4 * n + 2) F.n w3 s3 (by omega)).mono ?_
       rintro e w4 ⟨y, rfl, hy, hy2, s4, m4⟩
       have mm4 := m3.trans m4
       have hyn : (y : Int) < F.n := by rcases hy with h | h <;> omega
       refine hK.out _ _ ?_ (fun hHeld => ?_)
       · exact (unhide BX) _ mm4
       clear hK K
       try simp only [Act.put, List.setIfInBounds_toArray, List.set_cons_zero, List.set_cons_succ]
       refine SeqO.call (by rfl) (fun K hK => ?_)
       go_simp
       have hH4 := (unhide HH).kp (mm4.kp (.inr (by omega)) (by omega))
       have bx4 := (unhide BX) _ mm4
       have rd0 := RdS.row_same hH4.own.rd rfl (i := 0) (by omega) (by rw [Nat.add_zero]; exact bx4.2.1)
       have rd1 := RdS.row_same hH4.own.rd rfl (i := 1) (by omega) bx4.2.2
       have hls := l17Less_any gF F ai aj ci cj (nthL xss 0) (nthL xss 1) y w4 (unhide HF _ (mk2.trans mm4)) ok rd0 rd1 (by rw [(unhide HM0).1, (unhide HM1).1]) (by omega) hyn (unhide HM0).2 (unhide HM1).2
       have hll := less_len F (nthL xss 0) (nthL xss 1) (y : Int)
       rw [(unhide HM0).1] at hll
       have hle := less_el ok (nthL xss 0) (nthL xss 1) (y : Int)
       rw [(unhide HM0).1, (unhide HM1).1] at hls
       generalize less F (nthL xss 0) (nthL xss 1) (y : Int) = xz at hls hll hle
       have HLS := hide hls
       have HXL := Lib.hid hll
       have HX := hide hle
       clear hls hll hle bx4 rd0 rd1
       refine (unhide HLS).mono ?_
       rintro e w6 ⟨v6, rfl, o6, b6⟩
       have m6 := mm4.new (b6.mono (by have := mm4.size; omega)) (by omega)
       refine hK.out _ _ ?_ (fun hHeld => ?_)
       · exact (unhide BX) _ m6
       clear hK K
       try simp only [Act.put, List.setIfInBounds_toArray, List.set_cons_zero, List.set_cons_succ]
       refine SeqO.take (by rfl) (v := ?hv10) (by rfl) ?hy10 ?hr10
       case hy10 =>
        intro w hSw
        try dsimp only at hSw
        go_simp
        try (with_reducible rfl)
       try simp only [Act.put, List.setIfInBounds_toArray, List.set_cons_zero, List.set_cons_succ]
       refine SeqO.done (NoPanic.normal ?_)
       have z6 := m6.size
       have s6 := s4.below b6
       have mk6 := mk2.trans m6
       have hH6 := hH4.belw b6 (by have := mm4.size; omega)
       obtain ⟨x6, y6, rfl, _, _⟩ := o6.form
       have o6' := o6.mono (show wr.heap.size ≤ w4.heap.size from by have := mm4.size; omega)
       go_wp2_with (at_builtin; refine wpList_append_row rfl (.tmp 39) (.tmp 41) rfl (v := .slice (some ⟨b9, o9, none⟩) xss.length c9) rfl ((hH6).belw ((Below.refl _ _).alloc (Nat.le_refl _) _) (by omega)) _ rfl ((Blk.new w6 24 #[.slice x6 xz.length y6] rfl).cell 0) ((o6').alloc _) hsz (by simp; omega) (by omega) ?_; intro v5 w5 o5 g5 _; obtain ⟨a5, c5, e5, _⟩ := o5.form; rw [List.length_append, List.length_singleton] at e5; subst e5)
       go_roundw
       case rel =>
        have b5 : Below w.heap.size w6 w5 := Below.stepS ((Below.refl _ _).alloc (by omega) _) g5 (((hH6).belw ((Below.refl _ _).alloc (Nat.le_refl _) _) (by omega)).own) (Nat.le_refl _) (by simp; omega)
        exact ⟨xss ++ [xz], by simp; omega, Mat_snoc hM.out ⟨HXL.out, unhide HX⟩, o5, (s6.keep b5 hlt).mono (by simp; omega), mk6.new b5 (by omega), by simp [lenV]⟩
       case measure => first | (simp only [lenV]; omega) | (simp [lenV]; omega)
    · have h1' : (xss.length : Int) ≤ 1 := by omega
      have h1'' : ¬ (1 : Int) < xss.length := by omega
      go_upto_region 6 with fail
      go_wp2_with (at_builtin; refine wpList_append_row rfl (.tmp 39) (.tmp 41) rfl (v := .slice a9 xss.length c9) rfl ((hH).belw ((Below.refl _ _).alloc (Nat.le_refl _) _) (by omega)) _ rfl ((Blk.new w1 24 #[.slice x1 xs.length y1] rfl).cell 0) ((o1).alloc _) hsz (by simp; omega) (by omega) ?_; intro v5 w5 o5 g5 _; obtain ⟨a5, c5, e5, _⟩ := o5.form; rw [List.length_append, List.length_singleton] at e5; subst e5)
      go_roundw
      case rel =>
       have b5 : Below w.heap.size w1 w5 := Below.stepS ((Below.refl _ _).alloc (by omega) _) g5 (((hH).belw ((Below.refl _ _).alloc (Nat.le_refl _) _) (by omega)).own) (Nat.le_refl _) (by simp; omega)
       exact ⟨xss ++ [xs], by simp; omega, Mat_snoc hM.out ⟨HXL.out, unhide HX⟩, o5, (s1.keep b5 hlt).mono (by simp; omega), mk1.new b5 (by omega), by simp [lenV]⟩
      case measure => first | (simp only [lenV]; omega) | (simp [lenV]; omega)
  · have hle : xss.length = rows := by omega
    have HL := Lib.hid hle
    clear hle
    go_wp2
    go_ret
    exact ⟨_, xss, rfl, HL.out, hM.out, ho.out, hs.out.mono (by have := HL.out; omega), hmk⟩
end Go.Proofs.Ytgfcbmflnldicaa
namespace Go.Proofs.Ytgfcbmflnldicaa
open Go.RowKit
section
variable {F : FD}
end
def wtTo (xs : List Int) : Nat → Nat
 | 0 => 0
 | k + 1 => if nth xs k = 0 then wtTo xs k else wtTo xs k + 1
def wt (xs : List Int) : Nat := wtTo xs xs.length
end Go.Proofs.Ytgfcbmflnldicaa
