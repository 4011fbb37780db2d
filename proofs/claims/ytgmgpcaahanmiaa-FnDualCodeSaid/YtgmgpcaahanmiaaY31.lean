/-
  Texts joined.
-/
import Derived.Test.YtgmgpcaahanmiaaY14
import Derived.Test.YtgmgpcaahanmiaaY15
import Derived.Test.YtgmgpcaahanmiaaY17
import Derived.Test.YtgmgpcaahanmiaaY18
import Derived.Test.YtgmgpcaahanmiaaY19
set_option linter.unusedVariables false
set_option linter.unusedSimpArgs false
set_option maxRecDepth 100000
set_option maxHeartbeats 40000000
namespace Go.Proofs.Ytgmgpcaahanmiaa
open Go.RowKit
attribute [local go_sem ↓] Go.wp_at_zero Go.wp_at_succ
def chkV (F : FD) (n : Nat) (m : List (List Int)) : List (List Int) × Int := if (nul F m n).length = 0 then ([], 6) else (nul F m n, 0)
def chkRes (p d : Int) (xs : List Int) (m : List (List Int)) : List (List Int) × Int := if okC p d xs m = true then chkV (fdR p d xs) (nthL m 0).length m else ([], 1)
def ResLLi (w : World) (r : List (List Int) × Int) (e : Ending) (w' : World) : Prop := ∃ v, e = .returned (.tuple #[v, .int .i64 r.2]) ∧ OwnS w' w.heap.size v r.1 ∧ Below w.heap.size w w'
end Go.Proofs.Ytgmgpcaahanmiaa
namespace Go.Proofs.Ytgmgpcaahanmiaa
open Go.RowKit
attribute [local go_sem ↓] Go.wp_at_zero Go.wp_at_succ
def synTo (F : FD) (N : List (List Int)) (v : List Int) (k : Nat) : List Int := (N.take k).map fun row => dotF F row v
theorem synTo_len (F : FD) (N : List (List Int)) (v : List Int) {k : Nat} (hk : k ≤ N.length) : (synTo F N v k).length = k := by rw [synTo, List.length_map, List.length_take]; omega
theorem synTo_succ (F : FD) (N : List (List Int)) (v : List Int) {k : Nat} (hk : k < N.length) : synTo F N v (k + 1) = synTo F N v k ++ [dotF F (nthL N k) v] := by rw [synTo, synTo, take_nthL hk, List.map_append]; rfl
def synV (F : FD) (n : Nat) (m : List (List Int)) (v : List Int) : List Int × Int := (synTo F (nul F m n) v (nul F m n).length, 0)
noncomputable def synRes (p d : Int) (xs : List Int) (m : List (List Int)) (v : List Int) : List Int × Int :=
 if okV p d xs m v = true then (if v.length = (nthL m 0).length then synV (fdR p d xs) (nthL m 0).length m v else ([], 6)) else ([], 1)
theorem nul_le (F : FD) (m : List (List Int)) (n : Nat) : (nul F m n).length ≤ n := by
 have h1 := red_piv F (nulB F m n) n
 have h2 : (nulB F m n).length ≤ n := nulTo_le _ _ _ _ _
 have h3 := form_len F (nulB F m n) n
 rw [nul]
 omega
theorem implSY_any (p d : Int) (a : Option Addr) (c : Nat) (xs : List Int) (ra : Option Addr) (rc : Nat) (m : List (List Int)) (b : Option Addr) (cb : Nat) (v : List Int) (w : World) (hx : Rd w a xs) (hm : RdS w ra m) (hy : Rd w b v) (ed : I64 d) : Calls Try.prog 46 #[.agg #[.int .i64 p, .int .i64 d, .slice a xs.length c, .slice ra m.length rc], .slice b v.length cb] w (ResL w (synRes p d xs m v)) := by
 have hml := hm.len
 have hvl0 := hy.len
 generalize hR : synRes p d xs m v = r
 obtain ⟨W0, hHW⟩ : ∃ z, z = w.alloc (.cells #[.int .i64 p, .int .i64 d, .slice a xs.length c, .slice ra m.length rc] 37) := ⟨_, rfl⟩
 have b0 : Below w.heap.size w W0 := by rw [hHW]; exact (Below.refl _ _).alloc (Nat.le_refl _) _
 have k0 : Blk W0 w.heap.size 37 #[.int .i64 p, .int .i64 d, .slice a xs.length c, .slice ra m.length rc] := by rw [hHW]; exact Blk.new _ _ _ rfl
 have sk0 : w.heap.size < W0.heap.size := k0.lt
 have HW := Lib.hid hHW
 clear hHW
 have hV := isVector_any p d a c xs ra rc m b cb v W0 (hx.below b0) (hm.below b0) (hy.below b0) ed
 cases hk : okV p d xs m v with
 | false =>
  have HN := Lib.hid (show r = ([], 1) by rw [← hR, synRes, hk]; rfl)
  rw [hk] at hV
  have HV := hide hV
  clear hV hk hR
  have f0 := k0.cell 0
  have f1 := k0.cell 1
  have f2 := k0.cell 2
  have f3 := k0.cell 3
  go_enter Try.func46, Try.ntmps46
  go_upto_region 1 with fail
  rw [← HW.out]
  go_wp2_with fail
  refine (unhide HV).mono ?_
  rintro e w1 ⟨rfl, b1⟩
  have k1 := k0.below b1 k0.lt
  clear f0 f1 f2 f3
  have f0 := k1.cell 0
  have f1 := k1.cell 1
  have f2 := k1.cell 2
  have f3 := k1.cell 3
  have bb1 := b0.trans (b1.mono (Nat.le_of_lt sk0))
  go_wp2
  go_ret2
  rw [HN.out]
  exact ⟨_, rfl, Own.nil _ _, bb1⟩
 | true =>
  rw [hk] at hV
  have HV := hide hV
  have hk0 := hk
  rw [okV, Bool.and_eq_true] at hk
  obtain ⟨F, n, rfl, rfl, rfl, hC⟩ := okC_gc hk.1
  have he := hk.2
  rw [fdR_eq] at he
  have ok := hC.good.ok
  obtain ⟨n2, n64⟩ := ok.n_bd
  have hRR : r = if v.length = n then synV F n m v else ([], 6) := by rw [← hR, synRes, hk0, fdR_eq, hC.hn]; rfl
  have hEl := elems_iff he
  have hLE := fun W (h : Below W0.heap.size W0 W) => lengthOf_any F.p F.k a F.poly.length c ra rc m W ((hm.below b0).below h) hC.m1
  rw [hC.hn] at hLE
  have HLE := hide hLE
  clear hV hk hk0 he hR hLE
  have hm1 := hC.m1
  have hm0 : 0 < m.length := by omega
  have hm8 := hC.m8
  have hn1 := hC.n1
  have hn32 := hC.n32
  have BX := hide (show ∀ W, Below W0.heap.size W0 W → (Below W0.heap.size W0 W ∧ W.cell? ⟨w.heap.size, 0, none⟩ = some (.int .i64 F.p) ∧ W.cell? ⟨w.heap.size, 1, none⟩ = some (.int .i64 F.k) ∧ W.cell? ⟨w.heap.size, 2, none⟩ = some (.slice a F.poly.length c) ∧ W.cell? ⟨w.heap.size, 3, none⟩ = some (.slice ra m.length rc)) from fun W h => ⟨h, (k0.below h k0.lt).cell 0, (k0.below h k0.lt).cell 1, (k0.below h k0.lt).cell 2, (k0.below h k0.lt).cell 3⟩)
  have KB := hide (show ∀ W, Below W0.heap.size W0 W → Blk W w.heap.size 37 #[.int .i64 F.p, .int .i64 F.k, .slice a F.poly.length c, .slice ra m.length rc] from fun W h => k0.below h k0.lt)
  by_cases hle : v.length = n
  ·
   rw [if_pos hle] at hRR
   have HRR := Lib.hid hRR
   have hbq : ((v.length : Int) != (n : Int)) = false := by rw [hle]; simp
   clear hRR
   have hT := fun W (h : Below W0.heap.size W0 W) => tablesOf_any F a c W ((hx.below b0).below h) ok
   have hW : ∀ tv W (_ : Below W0.heap.size W0 W) (_ : Tabs W F tv), Calls Try.prog 101 #[tv, .slice ra m.length rc, .int .i64 v.length] W fun e w' => ∃ u, e = .returned u ∧ OwnS w' W.heap.size u (nul F m n) ∧ Below W.heap.size W w' := fun tv W h hT => by
    rw [hle]
    exact nullSpace_any F tv ra rc m n W hT hC.good ((hm.below b0).below h) hm1 hC.mat hn1 (by omega)
   have hr0 : ∃ gb ob ai ci, ra = some ⟨gb, ob, none⟩ ∧ gb < w.heap.size ∧ w.cell? ⟨gb, ob, none⟩ = some (.slice ai n ci) := by
    obtain ⟨gb, ob, e, hgb, hcc⟩ := hm.at_ hm1
    obtain ⟨ai, ci, h1, _⟩ := hcc 0 hm1
    rw [Nat.add_zero, hC.hn] at h1
    exact ⟨gb, ob, ai, ci, e, hgb, h1⟩
   have hNM := nul_Mat ok m n
   have hNl := nul_le F m n
   have hsv : synV F n m v = (synTo F (nul F m n) v (nul F m n).length, 0) := rfl
   obtain ⟨N, hN⟩ : ∃ N, N = nul F m n := ⟨_, rfl⟩
   rw [← hN] at hW hNM hNl hsv
   have hDT : ∀ tv (k : Nat) (_ : k < N.length) ak ck W (_ : Below W0.heap.size W0 W) (_ : Tabs W F tv) (_ : Rd W ak (nthL N k)), Calls Try.prog 131 #[tv, .slice ak n ck, .slice b v.length cb] W fun e w' => e = .returned (.int .i64 (dotF F (nthL N k) v)) ∧ Below W.heap.size W w' := fun tv k hk ak ck W h hT hr => by
    rw [hle]
    exact dot_any F tv ak b ck cb (nthL N k) v n W hT ok hr ((hy.below b0).below h) (Mat_nth hNM hk).1 hle (Mat_nth hNM hk).2 hEl
   have HT := hide hT
   have HWW := hide hW
   have HDT := hide hDT
   have HNM := hide hNM
   have HSV := Lib.hid hsv
   clear hT hW hDT hNM hsv hN hEl hr0
   have HLN := Lib.hid hle
   clear hle hC
   have f0 := k0.cell 0
   have f1 := k0.cell 1
   have f2 := k0.cell 2
   have f3 := k0.cell 3
   go_enter Try.func46, Try.ntmps46
   go_upto_region 1 with fail
   rw [← HW.out]
   go_wp2_with fail
   refine (unhide HV).mono ?_
   rintro e w1 ⟨rfl, b1⟩
   have k1 := k0.below b1 k0.lt
   clear f0 f1 f2 f3
   have f0 := k1.cell 0
   have f1 := k1.cell 1
   have f2 := k1.cell 2
   have f3 := k1.cell 3
   have bb1 := b0.trans (b1.mono (Nat.le_of_lt sk0))
   go_upto_region 3 with fail
   go_region_held3 (fun W => Below W0.heap.size W0 W ∧ W.cell? ⟨w.heap.size, 0, none⟩ = some (.int .i64 F.p) ∧ W.cell? ⟨w.heap.size, 1, none⟩ = some (.int .i64 F.k) ∧ W.cell? ⟨w.heap.size, 2, none⟩ = some (.slice a F.poly.length c) ∧ W.cell? ⟨w.heap.size, 3, none⟩ = some (.slice ra m.length rc))
    (first | exact (unhide BX) _ b1.drew | exact (unhide BX) _ (by assumption))
    (first
     | (go_at_call 108; refine (unhide HLE _ ?_).mono ?_; exact And.left (by assumption); rintro e w2 ⟨rfl, b2⟩; have hB2 := Below.chain (a := W0) (And.left (by assumption)) b2)
     | (go_at_call 112; refine (size_any _ _ _ _).mono ?_; rintro e w3 ⟨rfl, rfl⟩))
   have k2 := unhide KB _ hB2
   clear f0 f1 f2 f3
   have f0 := k2.cell 0
   have f1 := k2.cell 1
   have f2 := k2.cell 2
   have f3 := k2.cell 3
   have bb2 := b0.trans (hB2.mono (Nat.le_of_lt sk0))
   go_wp2_with fail
   refine (unhide HT _ hB2).mono ?_
   rintro e w3 ⟨tv, rfl, t3, b3⟩
   obtain ⟨aA, cA, aS, cS, aM, cM, aI, cI, rfl, t3A, t3S, t3M, t3I⟩ := t3
   obtain ⟨W4, hH4⟩ : ∃ z, z = w3.alloc (.cells #[.int .i64 F.n, .slice aA F.n cA, .slice aS F.n cS, .slice aM F.n cM, .slice aI F.n cI] 93) := ⟨_, rfl⟩
   have b4 : Below w3.heap.size w3 W4 := by rw [hH4]; exact (Below.refl _ _).alloc (Nat.le_refl _) _
   have kT : Blk W4 w3.heap.size 93 #[.int .i64 F.n, .slice aA F.n cA, .slice aS F.n cS, .slice aM F.n cM, .slice aI F.n cI] := by rw [hH4]; exact Blk.new _ _ _ rfl
   have H4 := Lib.hid hH4
   clear hH4
   have t4 : Tabs W4 F (.agg #[.int .i64 F.n, .slice aA F.n cA, .slice aS F.n cS, .slice aM F.n cM, .slice aI F.n cI]) := ⟨aA, cA, aS, cS, aM, cM, aI, cI, rfl, t3A.below b4, t3S.below b4, t3M.below b4, t3I.below b4⟩
   have c4 := Below.chain (Below.chain hB2 b3) b4
   have k4 := k0.below c4 k0.lt
   clear f0 f1 f2 f3
   have f3 := k4.cell 3
   have g0 := kT.cell 0
   have g1 := kT.cell 1
   have g2 := kT.cell 2
   have g3 := kT.cell 3
   have g4 := kT.cell 4
   have T4 := hide t4
   clear t4 t3A t3S t3M t3I
   go_upto_region 6 with fail
   rw [← H4.out]
   go_wp2_with fail
   refine (unhide HWW _ W4 c4 (unhide T4)).mono ?_
   rintro e w5 ⟨u, rfl, o5, b5⟩
   obtain ⟨ax, cx, rfl, r5⟩ := o5.form
   have c5 := Below.chain c4 b5
   have bb5 := b0.trans (c5.mono (Nat.le_of_lt sk0))
   have R5 := hide r5
   have KT5 := hide (kT.below b5 kT.lt)
   have T5 := hide ((unhide T4).below b5)
   clear o5 r5 f3 g0 g1 g2 g3 g4
   go_wp2_with fail
   go_loopw [7, 29] (fun u iv wr => ∃ k : Nat, iv = .int .i64 k ∧ k ≤ N.length ∧ Hid (Own wr w5.heap.size u (synTo F N v k)) ∧ Below w5.heap.size w5 wr) (fun _ iv _ => N.length - (intOf iv).toNat)
   case atStart => exact ⟨0, rfl, Nat.zero_le _, Own.nil _ _, Below.refl _ _⟩
   case round =>
    obtain ⟨k, rfl, hk, ho, hb⟩ := hrel
    have hsz := hb.size
    by_cases hkl : k < N.length
    · obtain ⟨gn, on, rfl, _, hcn⟩ := ((unhide R5).below hb).at_ (by omega)
      obtain ⟨ak, ck, h1, hrk⟩ := hcn k hkl
      rw [(Mat_nth (unhide HNM) hkl).1] at h1
      have hd := unhide HDT _ k hkl ak ck wr (Below.chain c5 hb) ((unhide T5).below hb) hrk
      have hst := synTo_succ F N v hkl
      have hsl := synTo_len F N v hk
      obtain ⟨D, hD⟩ : ∃ D, D = dotF F (nthL N k) v := ⟨_, rfl⟩
      rw [← hD] at hd hst
      have HD := hide hd
      have HST := Lib.hid hst
      have HSL := Lib.hid hsl
      have kk := (unhide KT5).below hb (unhide KT5).lt
      have g0 := kk.cell 0
      have g1 := kk.cell 1
      have g2 := kk.cell 2
      have g3 := kk.cell 3
      have g4 := kk.cell 4
      clear hd hst hD hsl hcn hrk
      go_wp2_with fail
      refine (unhide HD).mono ?_
      rintro e w6 ⟨rfl, b6⟩
      have o6 := ho.out.below b6 (Nat.le_refl _)
      have hb6 := hb.trans (b6.mono hsz)
      have z6 := hb6.size
      go_wp2_with (at_builtin; refine wpList_append_ints rfl (.tmp 33) (.tmp 38) rfl w5.heap.size u7 (synTo F N v k) [D] rfl (o6.alloc _) _ 1 1 rfl rfl (Rd.one w6 D _) (by rw [HSL.out]; simp; omega) (by simp; omega) ?_; intro v7 w7 o7 g7 _)
      go_roundw
      case rel => exact ⟨k + 1, by go_num, by omega, by show Own _ _ _ _; rw [HST.out]; exact o7, Below.step (hb6.alloc z6 _) g7 (o6.alloc _) (Nat.le_refl _) (by simp; omega)⟩
      case measure => simp only [intOf]; omega
    · have hke : k = N.length := by omega
      have HE := Lib.hid hke
      clear hke
      go_wp2
      go_ret2
      rw [HRR.out, HSV.out]
      exact ⟨_, rfl, by have h := ho.out; rw [HE.out] at h; exact h.mono bb5.size, bb5.trans (hb.mono bb5.size)⟩
  ·
   rw [if_neg hle] at hRR
   have HN := Lib.hid hRR
   have hbq : ((v.length : Int) != (n : Int)) = true := by rw [bne_iff_ne]; omega
   clear hRR hle hEl hC
   have f0 := k0.cell 0
   have f1 := k0.cell 1
   have f2 := k0.cell 2
   have f3 := k0.cell 3
   go_enter Try.func46, Try.ntmps46
   go_upto_region 1 with fail
   rw [← HW.out]
   go_wp2_with fail
   refine (unhide HV).mono ?_
   rintro e w1 ⟨rfl, b1⟩
   have k1 := k0.below b1 k0.lt
   clear f0 f1 f2 f3
   have f0 := k1.cell 0
   have f1 := k1.cell 1
   have f2 := k1.cell 2
   have f3 := k1.cell 3
   have bb1 := b0.trans (b1.mono (Nat.le_of_lt sk0))
   go_upto_region 3 with fail
   go_region_held3 (fun W => Below W0.heap.size W0 W ∧ W.cell? ⟨w.heap.size, 0, none⟩ = some (.int .i64 F.p) ∧ W.cell? ⟨w.heap.size, 1, none⟩ = some (.int .i64 F.k) ∧ W.cell? ⟨w.heap.size, 2, none⟩ = some (.slice a F.poly.length c) ∧ W.cell? ⟨w.heap.size, 3, none⟩ = some (.slice ra m.length rc))
    (first | exact (unhide BX) _ b1.drew | exact (unhide BX) _ (by assumption))
    (first
     | (go_at_call 108; refine (unhide HLE _ ?_).mono ?_; exact And.left (by assumption); rintro e w2 ⟨rfl, b2⟩; have hB2 := Below.chain (a := W0) (And.left (by assumption)) b2)
     | (go_at_call 112; refine (size_any _ _ _ _).mono ?_; rintro e w3 ⟨rfl, rfl⟩))
   have k2 := unhide KB _ hB2
   clear f0 f1 f2 f3
   have f0 := k2.cell 0
   have f1 := k2.cell 1
   have f2 := k2.cell 2
   have f3 := k2.cell 3
   have bb2 := b0.trans (hB2.mono (Nat.le_of_lt sk0))
   go_wp2
   go_ret2
   rw [HN.out]
   exact ⟨_, rfl, Own.nil _ _, bb2⟩
end Go.Proofs.Ytgmgpcaahanmiaa
