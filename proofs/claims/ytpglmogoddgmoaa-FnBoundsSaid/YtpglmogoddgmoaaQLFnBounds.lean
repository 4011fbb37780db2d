/-
  Proved: FnBounds returns true for every input and leaves its arguments as they were. No condition. Printed by gen_lbd.py.
-/
import Derived.Test.YtpglmogoddgmoaaJD2
import Derived.Test.YtpglmogoddgmoaaJD3
import Derived.Test.YtpglmogoddgmoaaJD4
import Derived.Test.YtpglmogoddgmoaaJD20
import Derived.Test.YtpglmogoddgmoaaJD22
import Derived.Test.YtpglmogoddgmoaaJD23
set_option linter.unusedVariables false
set_option linter.unusedSimpArgs false
set_option maxRecDepth 100000
set_option maxHeartbeats 40000000
namespace Go.Proofs.Ytpglmogoddgmoaa
open Go.RowKit
attribute [local go_sem ↓] Go.wp_at_zero Go.wp_at_succ
theorem FD.Good.isF {F : FD} (h : F.Good) : isField (F.n : Int) = true := by
 have := h.ok.p2
 rw [isField, ← h.ok.n_eq, h.spl, decide_eq_true_eq]
 show 0 < F.p
 omega
theorem pow_cap {F : FD} (h2 : 2 ≤ F.n) (h64 : F.n ≤ 64) {K : Nat} (hc : capTo F.n 4096 K ≤ 4096) : ∀ i, i ≤ K → 1 ≤ (F.n : Int) ^ i ∧ (F.n : Int) ^ i ≤ 4096 := fun i hi => by
 have h1 := capTo_anti hi hc
 have h3 := capTo_eq (by omega) h1
 have h4 := capTo_pos (b := F.n) (l := 4096) (by omega) i
 rw [h3] at h1 h4
 exact ⟨h4, h1⟩
theorem bounds_ok {F : FD} {n : Nat} {m : List (List Int)} (h : GC F n m) : (F.n : Int) ^ m.length ≤ capTo F.n LIM ((n : Int) - (distC F n m : Int) + 1).toNat ∧ (F.n : Int) ^ m.length ≤ (F.n : Int) ^ (n : Int).toNat / ballV F.n (n : Int).toNat (((distC F n m : Int) - 1) / 2).toNat := by
 have ok := h.good.ok
 obtain ⟨n2, n64⟩ := ok.n_bd
 obtain ⟨hd1, hd2⟩ := h.dist
 have hs := h.singleton
 have hp := pow_cap n2 n64 h.cap m.length (Nat.le_refl _)
 refine ⟨?_, ?_⟩
 · obtain ⟨j, hj⟩ : ∃ j, ((n : Int) - (distC F n m : Int) + 1).toNat = m.length + j := ⟨n - distC F n m + 1 - m.length, by omega⟩
   rw [hj]
   by_cases hc : capTo F.n LIM (m.length + j) ≤ LIM
   · rw [capTo_eq (by omega) hc, Int.pow_add]
     have h1 : (1 : Int) ≤ (F.n : Int) ^ j := by
      have := Nat.pow_pos (n := j) (show 0 < F.n by omega)
      rw [← Int.natCast_pow]; omega
     calc (F.n : Int) ^ m.length = (F.n : Int) ^ m.length * 1 := by rw [Int.mul_one]
      _ ≤ _ := Int.mul_le_mul_of_nonneg_left h1 (by omega)
   · have : (LIM : Int) = 1000000000000 := rfl
     omega
 · rw [Int.toNat_natCast]
   have hb := ball_pos (q := F.n) (by omega) h.n32 ((distC F n m - 1) / 2)
   have hh := h.hamming hd1
   rw [show (((distC F n m : Int) - 1) / 2).toNat = (distC F n m - 1) / 2 by omega]
   exact Int.le_ediv_of_mul_le (by omega) hh
theorem walkFnBounds (a : Option Addr) (c : Nat) (bs : List Int) (w0 : World) (hxl : bs.length ≤ maxLen) (hx : bs.length ≤ 1048576 → RdB w0 a bs) :
    Calls Try.prog 5 #[.slice a bs.length c] w0 fun e w' => e = .returned (.bool true) ∧ Below w0.heap.size w0 w' := by
 have HLX := hide (b10Long_any a c bs.length w0 hxl)
 clear hxl
 by_cases hl : 1048576 < bs.length
 · rw [show decide (1048576 < bs.length) = true from decide_eq_true hl] at HLX
   clear hl hx
   go_enter Try.func5, Try.ntmps5
   go_wp2_with fail
   refine (unhide HLX).mono ?_
   rintro e w1 ⟨rfl, rfl⟩
   go_wp2
   go_ret
   exact ⟨rfl, Below.refl _ _⟩
 rw [show decide (1048576 < bs.length) = false from decide_eq_false hl] at HLX
 have HX := hide (hx (by omega))
 clear hx hl
 go_enter Try.func5, Try.ntmps5
 go_wp2_with fail
 refine (unhide HLX).mono ?_
 rintro e w1 ⟨rfl, rfl⟩
 clear HLX
 go_wp2_with fail
 refine (drawDistanceOf_any a c bs w0 (unhide HX)).mono ?_
 rintro e w1 ⟨⟨p, d, xs, m, a1, c1, ra1, rc1, rfl, hd, o1, q1⟩, b1⟩
 clear HX
 obtain ⟨W2, hW2⟩ : ∃ z, z = w1.alloc (.cells #[.int .i64 p, .int .i64 d, .slice a1 xs.length c1, .slice ra1 m.length rc1] 55) := ⟨_, rfl⟩
 have bW2 : Below w1.heap.size w1 W2 := by rw [hW2]; exact (Below.refl _ _).alloc (Nat.le_refl _) _
 have kC : Blk W2 w1.heap.size 55 #[.int .i64 p, .int .i64 d, .slice a1 xs.length c1, .slice ra1 m.length rc1] := by rw [hW2]; exact Blk.new _ _ _ rfl
 have HW2 := Lib.hid hW2
 have z1 := b1.size
 have zC := kC.lt
 have hb2 := b1.trans (bW2.mono z1)
 have hrx := o1.rd.below bW2
 have hrm := q1.rd.below bW2
 have hml := hrm.len
 have hDI := implDI_any p d a1 c1 xs ra1 rc1 m W2 hrx hrm hd
 have hVC := fun W (h : Below W2.heap.size W2 W) => specVC_any p d a1 c1 xs ra1 rc1 m W (hrx.below h) (hrm.below h)
 have e0 := kC.cell 0
 have e1 := kC.cell 1
 have e2 := kC.cell 2
 have e3 := kC.cell 3
 clear hW2 o1 q1
 cases hk : okC p d xs m with
 | false =>
  have hdr : distRes p d xs m = (0, 1) := by rw [distRes, if_neg (by rw [hk]; simp)]
  rw [hdr] at hDI
  simp only [hk] at hVC
  have HDI := hide hDI
  have HVC := hide hVC
  clear hDI hVC hk hdr
  go_upto_region 4 with fail
  rw [← HW2.out]
  go_wp2_with fail
  refine (unhide HDI).mono ?_
  rintro e w3 ⟨rfl, b3⟩
  have k3 := kC.below b3 zC
  clear e0 e1 e2 e3
  have e0 := k3.cell 0
  have e1 := k3.cell 1
  have e2 := k3.cell 2
  have e3 := k3.cell 3
  go_wp2_with fail
  refine (unhide HVC _ b3).mono ?_
  rintro e w4 ⟨rfl, b4⟩
  go_wp2
  go_ret
  exact ⟨rfl, hb2.trans ((b3.trans (b4.mono b3.size)).mono (by omega))⟩
 | true =>
  obtain ⟨F, n, rfl, rfl, rfl, hC⟩ := okC_gc hk
  have ok := hC.good.ok
  obtain ⟨n2, n64⟩ := ok.n_bd
  have hdr : distRes F.p F.k F.poly m = ((distC F n m : Int), 0) := by rw [distRes, if_pos hk, fdR_eq, hC.hn]
  rw [hdr] at hDI
  have hkF : okF F.p F.k F.poly = true := by
   rw [okC, Bool.and_eq_true, okM, Bool.and_eq_true] at hk
   exact hk.1.1
  have HDI := hide hDI
  have HFS := hide (fun W (h : Below W2.heap.size W2 W) => implFieldSize_any F a1 c1 W (hrx.below h) ok hkF)
  obtain ⟨hd1, hd2⟩ := hC.dist
  have hm1 := hC.m1
  have hm8 := hC.m8
  have hn1 := hC.n1
  have hn32 := hC.n32
  have hgr := fun W => implGri_any F.n m.length (distC F n m) W
  have hsi := fun W => implSing_any F.n n (distC F n m) W
  have hha := fun W => implHam_any F.n n (distC F n m) W
  have hgv : griRes F.n m.length (distC F n m) = ((gS F.n (distC F n m) m.length).1, 0) := by
   rw [griRes, if_pos (by rw [hC.good.isF, inB_yes (by omega) (by omega), inB_yes (by omega) (by omega)]; rfl), Int.toNat_natCast]
  rw [hgv] at hgr
  have hgn := hC.griesmer
  have hbo := bounds_ok hC
  have hpw := pow_cap n2 n64 hC.cap
  have hin : inB (distC F n m : Int) 1 n = true := inB_yes (by omega) (by omega)
  have hro : ∃ gb ob ai ci, ra1 = some ⟨gb, ob, none⟩ ∧ W2.cell? ⟨gb, ob, none⟩ = some (.slice ai n ci) ∧ gb < W2.heap.size := by
   obtain ⟨gb, ob, e, hb, hc⟩ := hrm.at_ (by omega)
   obtain ⟨ai, ci, h1, _⟩ := hc 0 (by omega)
   rw [hC.hn] at h1
   exact ⟨gb, ob, ai, ci, e, h1, hb⟩
  obtain ⟨gb, ob, ai, ci, rfl, hro, hgb⟩ := hro
  have hsr : singRes F.n n (distC F n m) = if isSpaceB F.n n = true then (capTo F.n LIM ((n : Int) - (distC F n m : Int) + 1).toNat, 0) else (0, 2) := by rw [singRes, hin, Bool.and_true]
  have hhr : hbdRes F.n n (distC F n m) = if isSpaceB F.n n = true then ((F.n : Int) ^ (n : Int).toNat / ballV F.n (n : Int).toNat (((distC F n m : Int) - 1) / 2).toNat, 0) else (0, 2) := by rw [hbdRes, hin, Bool.and_true]
  rw [hsr] at hsi
  rw [hhr] at hha
  obtain ⟨D, hD⟩ : ∃ D, D = distC F n m := ⟨_, rfl⟩
  obtain ⟨L, hL⟩ : ∃ L, L = (gS F.n (distC F n m) m.length).1 := ⟨_, rfl⟩
  obtain ⟨A, hA⟩ : ∃ A, A = capTo F.n LIM ((n : Int) - (distC F n m : Int) + 1).toNat := ⟨_, rfl⟩
  obtain ⟨B, hB⟩ : ∃ B, B = (F.n : Int) ^ (n : Int).toNat / ballV F.n (n : Int).toNat (((distC F n m : Int) - 1) / 2).toNat := ⟨_, rfl⟩
  rw [← hA, ← hB] at hbo
  rw [← hA] at hsi
  rw [← hB] at hha
  rw [← hL] at hgr hgn
  rw [← hD] at hgr hsi hha hd1 hd2 HDI
  obtain ⟨K, hK⟩ : ∃ K, K = m.length := ⟨_, rfl⟩
  have HK := Lib.hid hK
  rw [← hK] at hgr hm1 hm8 hbo hpw
  obtain ⟨q, hq⟩ : ∃ q : Int, q = (F.n : Int) := ⟨_, rfl⟩
  rw [← hq] at hgr hsi hha hbo hpw
  have hq2 : 2 ≤ q := by omega
  have hq64 : q ≤ 64 := by omega
  simp only [← hq] at HFS
  have hwr : ∀ i, i < K → IntKind.i64.wrap (q ^ i * q) = q ^ (i + 1) := fun i hi => by
   rw [Int.pow_succ]
   have h1 := hpw (i + 1) hi
   rw [Int.pow_succ] at h1
   exact IntWalk.i64_in _ (by omega)
  have HWR := hide hwr
  have hbo1 := hbo.1
  have hbo2 := hbo.2
  obtain ⟨s1, s2, hS⟩ : ∃ s1 s2 : Int, (if isSpaceB q n = true then (A, (0 : Int)) else (0, 2)) = (s1, s2) := ⟨_, _, rfl⟩
  obtain ⟨t1, t2, hT⟩ : ∃ t1 t2 : Int, (if isSpaceB q n = true then (B, (0 : Int)) else (0, 2)) = (t1, t2) := ⟨_, _, rfl⟩
  simp only [hS] at hsi
  simp only [hT] at hha
  have hst : (s1 = A ∧ s2 = 0 ∧ t1 = B ∧ t2 = 0) ∨ (s2 = 2 ∧ t2 = 2) := by
   by_cases h : isSpaceB q n = true
   · rw [if_pos h] at hS hT
     injection hS with h1 h2
     injection hT with h3 h4
     exact .inl ⟨h1.symm, h2.symm, h3.symm, h4.symm⟩
   · rw [if_neg h] at hS hT
     injection hS with h1 h2
     injection hT with h3 h4
     exact .inr ⟨h2.symm, h4.symm⟩
  have HST := hide hst
  clear hS hT hst
  have HGR := hide hgr
  have HSI := hide hsi
  have HHA := hide hha
  have j1 : ¬ q < 2 := by omega
  have j2 : ¬ (D : Int) < 1 := by omega
  have j3 : ¬ (n : Int) < (D : Int) := by omega
  have j4 : ¬ (n : Int) < L := by omega
  have hk0 : 0 < m.length := by omega
  have HPW := hide hpw
  clear hDI hVC hk hdr hgr hsi hha hgv hgn hbo hin hsr hhr hC hD hL hA hB hq hwr hkF hK ok hpw
  go_upto_region 4 with fail
  rw [← HW2.out]
  go_wp2_with fail
  refine (unhide HDI).mono ?_
  rintro e w3 ⟨rfl, b3⟩
  have k3 := kC.below b3 zC
  clear e0 e1 e2 e3
  have e0 := k3.cell 0
  have e1 := k3.cell 1
  have e2 := k3.cell 2
  have e3 := k3.cell 3
  have er := (b3.cell (p := ⟨gb, ob, none⟩) hgb).trans hro
  go_wp2_with fail
  refine (unhide HFS _ b3).mono ?_
  rintro e w4 ⟨rfl, b4⟩
  have hb4 := hb2.trans ((b3.trans (b4.mono b3.size)).mono (by omega))
  clear e0 e1 e2 e3 er
  rw [← HK.out]
  go_wp2_with fail
  go_loop [9, 10] (fun wv iv => ∃ i : Nat, iv = .int .i64 i ∧ wv = .int .i64 (q ^ i) ∧ i ≤ K) (fun _ iv => K - (intOf iv).toNat)
  case atStart => exact ⟨0, rfl, by rw [Int.pow_zero], Nat.zero_le _⟩
  case round =>
   obtain ⟨i, rfl, rfl, hi⟩ := hrel
   by_cases hik : i < K
   · have hw := unhide HWR i hik
     obtain ⟨x, hx⟩ : ∃ x, x = q ^ i := ⟨_, rfl⟩
     obtain ⟨y, hy⟩ : ∃ y, y = q ^ (i + 1) := ⟨_, rfl⟩
     rw [← hx, ← hy] at hw
     rw [← hx]
     have HY := Lib.hid hy
     clear hx hy
     go_wp2
     go_round
     case rel => exact ⟨i + 1, by go_num, by rw [← HY.out], by omega⟩
     case measure => simp only [intOf]; omega
   · obtain rfl : i = K := by omega
     obtain ⟨W, hW⟩ : ∃ W, W = q ^ i := ⟨_, rfl⟩
     rw [← hW] at hbo1 hbo2 ⊢
     clear hW HWR
     go_wp2_with fail
     refine (unhide HGR _).mono ?_
     rintro e w5 ⟨rfl, b5⟩
     go_wp2_with fail
     refine (unhide HSI _).mono ?_
     rintro e w6 ⟨rfl, b6⟩
     go_wp2_with fail
     refine (unhide HHA _).mono ?_
     rintro e w7 ⟨rfl, b7⟩
     have hb7 := Below.chain (Below.chain (Below.chain hb4 b5) b6) b7
     rcases unhide HST with ⟨h1, h2, h3, h4⟩ | ⟨h2, h4⟩
     · subst h1
       subst h2
       subst h3
       subst h4
       go_wp2
       go_ret
       exact ⟨rfl, hb7⟩
     · subst h2
       subst h4
       go_wp2
       go_ret
       exact ⟨rfl, hb7⟩
theorem law_FnBounds (X : SB) (w : World) (hX : X.ok w) :
    Calls Try.prog 5 #[X.val] w fun e w' => e = .returned (.bool true) ∧ Below w.heap.size w w' :=
 walkFnBounds X.a X.c X.xs w hX.1 hX.2
namespace fnBounds
open Go.ChangeShapes Go.WideShapes Go.ChangeAt
theorem lifted (os : Os) (started : os.Started) (H : Type) (enc : TypeId × Value → H) :
    ReturnsInHanded {} Try.checked os 5 .any (Rows.fnBoundsSpec.pre6 enc Try.prog Try.f5 Rows.fnBoundsRow.domain false) (Rows.fnBoundsSpec.post enc Try.prog Try.f5 false true false false) := by
 refine returnsInHanded_of_change (C := Try.checked) ownKnob_none started (by kernel_rfl) Try.func5
  (ChangeSpec.witness6 (enc := enc) (C := Try.checked) false ⟨#[], #[.slice none 0 0], []⟩ 8 (by kernel_rfl) (by kernel_rfl) (by kernel_rfl) (by kernel_rfl)) ?_
 intro W base args ds gs before hval0 hW _ _
 have hval : ∀ (j : Nat) t v, Try.f5.params[j]? = some t → args[j]? = some v → Value.okWide Try.prog W .any base t v := hval0
 have hW' := hW
 obtain ⟨p, q, hA0, hV, rfl, hfz, hnd⟩ := hW
 have hA : DataW.TrodAll enc Try.prog W 0 (fun _ => true) true Try.f5.params.toList args.toList ds p := hA0
 rw [Try.params5] at hA hval
 obtain ⟨v0, vs0, d0, ds0, p0, q0, hargs, rfl, rfl, h0, r0⟩ := trodAll_cons hA
 obtain ⟨rfl, rfl, rfl⟩ := trodAll_nil r0
 obtain rfl : args = #[v0] := by cases args; simp_all
 obtain ⟨rfl, rfl⟩ := trodVars_none hV
 have k0 := h0
 have lt0 : ∀ x ∈ p0, x.block < W.heap.size := by obtain ⟨m, hm⟩ := k0; exact DataW.trod_lt m _ _ _ hm
 obtain ⟨X0, rfl, e0⟩ := open_sb (hval 0 22 v0 rfl rfl) h0
 clear hA0 hval0
 refine (law_FnBounds X0  W e0).mono fun e W' ⟨he, bel⟩ => ?_
 subst he
 exact ⟨_, rfl, _, _, _, [], _, [], hW', trodAll_mk1 (shut_bool Try.underlying4 _), (trodAll_cons_mk (Below.trod laidOut_ok (by kernel_rfl) (of_decide_eq_true (by kernel_rfl)) k0 bel lt0) trodAll_mk0), rfl, bel.frame _, fun h => by cases h⟩
theorem over : Rows.fnBoundsRow.holds Try.pinned (OpenSpec.ofChange Rows.fnBoundsSpec) :=
 OpenClaim.holds_of_wide 5 Try.f5 rfl rfl rfl rfl rfl rfl rfl ⟨rfl, rfl, rfl, rfl, rfl⟩ rfl rfl rfl rfl rfl (by kernel_rfl) Try.func5 (by kernel_rfl)
  (of_decide_eq_true (by kernel_rfl)) (by unfold Func.isWrapper; first | (rw [if_pos (by decide +kernel)]; kernel_rfl) | (rw [if_neg (by decide +kernel)]; exact ⟨rfl, rfl⟩))
  (fun os started H enc _ => lifted os started H enc)
theorem proved : Rows.FnBoundsSaid := over
end fnBounds
end Go.Proofs.Ytpglmogoddgmoaa
