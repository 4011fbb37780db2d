/-
  Texts joined.
-/
import Derived.Test.YtgfcbmflnldicaaGreatBW6
import Derived.Test.YtgfcbmflnldicaaGreatBW17
import Derived.Test.YtgfcbmflnldicaaGreatBW18
import Derived.Test.YtgfcbmflnldicaaGreatBW32
set_option linter.unusedVariables false
set_option linter.unusedSimpArgs false
set_option maxRecDepth 100000
set_option maxHeartbeats 40000000
namespace Go.Proofs.YtgfcbmflnldicaaGreat
open Go.RowKit
attribute [local go_sem ↓] Go.wp_at_zero Go.wp_at_succ
noncomputable def bwOk (p d : Int) (xs : List Int) (m : List (List Int)) (k : Int) : Bool := decide ((dwRes p d xs m k).2.2 = 0) && bal (dwRes p d xs m k).1.toNat (dwRes p d xs m k).2.1
noncomputable def bwTo (p d : Int) (xs : List Int) (m : List (List Int)) : Nat → List Int
 | 0 => []
 | k + 1 => if bwOk p d xs m ((k : Int) + 1) = true then bwTo p d xs m k ++ [(k : Int) + 1] else bwTo p d xs m k
noncomputable def bwRes (p d : Int) (xs : List Int) (m : List (List Int)) : List Int × Int := if okC p d xs m = true then (bwTo p d xs m (nthL m 0).length, 0) else ([], 1)
theorem bwTo_len (p d : Int) (xs : List Int) (m : List (List Int)) : ∀ k, (bwTo p d xs m k).length ≤ k
 | 0 => Nat.le_refl _
 | k + 1 => by
  have := bwTo_len p d xs m k
  rw [bwTo]
  by_cases h : bwOk p d xs m ((k : Int) + 1) = true
  · rw [if_pos h, List.length_append]; simp; omega
  · rw [if_neg h]; omega
theorem dw_design {p d : Int} {xs : List Int} {m : List (List Int)} {k : Int} (h0 : okC p d xs m = true) (hc : (dwRes p d xs m k).2.2 = 0) :
    ∃ N : Nat, (dwRes p d xs m k).1 = (N : Int) ∧ 1 ≤ N ∧ N ≤ 32 ∧ (dwRes p d xs m k).2.1.length ≤ 128 ∧ ∀ j, j < (dwRes p d xs m k).2.1.length → okB N (nthL (dwRes p d xs m k).2.1 j) = true := by
 obtain ⟨F, n, rfl, rfl, rfl, hC⟩ := okC_gc h0
 rw [dwRes, if_pos h0, hC.hn, fdR_eq] at hc ⊢
 have n1 := hC.n1
 have n32 := hC.n32
 by_cases h1 : inB k 1 n = true
 · rw [if_pos h1] at hc ⊢
   by_cases h2 : supW F n m k = []
   · rw [if_pos h2] at hc; simp at hc
   · rw [if_neg h2, mkD] at hc ⊢
     by_cases h3 : 128 < (supW F n m k).length
     · rw [if_pos h3] at hc; simp at hc
     · rw [if_neg h3]
       refine ⟨n, rfl, n1, n32, by show (supW F n m k).length ≤ 128; omega, fun j hj => ?_⟩
       exact supW_okB hC (by rw [inB_true] at h1; exact h1.1) (nthL_mem hj)
 · rw [if_neg h1] at hc; simp at hc
theorem specBW_any (p d : Int) (a : Option Addr) (c : Nat) (xs : List Int) (ra : Option Addr) (rc : Nat) (m : List (List Int)) (w : World) (hx : Rd w a xs) (hm : RdS w ra m) : Calls Tryz.prog 25 #[.agg #[.int .i64 p, .int .i64 d, .slice a xs.length c, .slice ra m.length rc]] w (ResL w (bwRes p d xs m)) := by
 have hml := hm.len
 generalize hR : bwRes p d xs m = r
 obtain ⟨W0, hHW⟩ : ∃ z, z = w.alloc (.cells #[.int .i64 p, .int .i64 d, .slice a xs.length c, .slice ra m.length rc] 52) := ⟨_, rfl⟩
 have b0 : Below w.heap.size w W0 := by rw [hHW]; exact (Below.refl _ _).alloc (Nat.le_refl _) _
 have k0 : Blk W0 w.heap.size 52 #[.int .i64 p, .int .i64 d, .slice a xs.length c, .slice ra m.length rc] := by rw [hHW]; exact Blk.new _ _ _ rfl
 have sk0 : w.heap.size < W0.heap.size := k0.lt
 have HW := Lib.hid hHW
 clear hHW
 have hC0 : PC W0 w.heap.size p d a c xs ra rc m := ⟨⟨k0.cell 0, k0.cell 1, k0.cell 2, hx.below b0⟩, k0.cell 3, hm.below b0⟩
 have hV := l18Ok_any w.heap.size p d a c xs ra rc m W0 hC0
 have f0 := k0.cell 0
 have f1 := k0.cell 1
 have f2 := k0.cell 2
 have f3 := k0.cell 3
 cases hk : okC p d xs m with
 | false =>
  have HN := Lib.hid (show r = ([], 1) by rw [← hR, bwRes, hk]; rfl)
  rw [hk] at hV
  have HV := hide hV
  clear hV hk hR hC0
  go_enter Tryz.func25, Tryz.ntmps25
  go_upto_region 1 with fail
  rw [← HW.out]
  go_wp2_with fail
  refine (unhide HV).mono ?_
  rintro e w1 ⟨rfl, b1⟩
  have k1 := k0.below b1 k0.lt
  clear f0 f1 f2 f3
  have f0 := k1.cell 0
  have f1 := k1.cell 1
  have f2 := k1.cell 2
  have f3 := k1.cell 3
  have bb1 := b0.trans (b1.mono (Nat.le_of_lt sk0))
  go_wp2
  go_ret2
  rw [HN.out]
  exact ⟨_, rfl, Own.nil _ _, bb1⟩
 | true =>
  have HDW := hide (fun (k : Int) W (h : Below W0.heap.size W0 W) => specDW_any p d a c xs ra rc m k W ((hx.below b0).below h) ((hm.below b0).below h))
  have HDD := hide (fun (k : Int) (hc : (dwRes p d xs m k).2.2 = 0) => dw_design hk hc)
  have hRR : r = (bwTo p d xs m (nthL m 0).length, 0) := by rw [← hR, bwRes, hk]; rfl
  obtain ⟨F, n, hp, hd, hxs, hC⟩ := okC_gc hk
  have hm1 := hC.m1
  have hn1 := hC.n1
  have hn32 := hC.n32
  rw [hC.hn] at hRR
  have HRR := Lib.hid hRR
  rw [hk] at hV
  have HV := hide hV
  have HX := hide (hm.below b0)
  obtain ⟨gb, ob, rfl, hgb, hcc⟩ := (unhide HX).at_ hm1
  obtain ⟨ai, ci, hr0, _⟩ := hcc 0 hm1
  rw [Nat.add_zero, hC.hn] at hr0
  have KB := hide (show ∀ W, Below W0.heap.size W0 W → Blk W w.heap.size 52 #[.int .i64 p, .int .i64 d, .slice a xs.length c,   .slice (some ⟨gb, ob, none⟩) m.length rc] from fun W h => k0.below h k0.lt)
  clear hV hk hR hC0 hC hcc hRR hp hd hxs
  go_enter Tryz.func25, Tryz.ntmps25
  go_upto_region 1 with fail
  rw [← HW.out]
  go_wp2_with fail
  refine (unhide HV).mono ?_
  rintro e w1 ⟨rfl, b1⟩
  have k1 := k0.below b1 k0.lt
  clear f0 f1 f2 f3
  have f0 := k1.cell 0
  have f1 := k1.cell 1
  have f2 := k1.cell 2
  have f3 := k1.cell 3
  have bb1 := b0.trans (b1.mono (Nat.le_of_lt sk0))
  go_wp2_with fail
  go_loopw [4, 5] (fun v iv wr => ∃ k : Nat, iv = .int .i64 ((k : Int) + 1) ∧ k ≤ n ∧ Hid (Own wr w1.heap.size v (bwTo p d xs m k)) ∧ Below w1.heap.size w1 wr) (fun _ iv _ => n + 1 - (intOf iv).toNat)
  case atStart => exact ⟨0, rfl, Nat.zero_le _, Own.empty w1 (Nat.le_refl _), (Below.refl _ _).alloc (Nat.le_refl _) _⟩
  case round =>
   obtain ⟨k, rfl, hk, ho, hb⟩ := hrel
   rename World => wo
   have hsz := hb.size
   have co := Below.chain b1 hb
   have ko := (unhide KB) wo co
   have f0 := ko.cell 0
   have f1 := ko.cell 1
   have f2 := ko.cell 2
   have f3 := ko.cell 3
   have h00 := (co.cell (p := ⟨gb, ob, none⟩) hgb).trans hr0
   by_cases hkn : k < n
   · have hle : (k : Int) + 1 ≤ (n : Int) := by omega
     have hwk : IntKind.i64.wrap ((k : Int) + 1 + 1) = (k : Int) + 1 + 1 := IntWalk.i64_in _ (by omega)
     have hdw := unhide HDW ((k : Int) + 1)
     have hdd := unhide HDD ((k : Int) + 1)
     have hst : bwTo p d xs m (k + 1) = if (decide ((dwRes p d xs m ((k : Int) + 1)).2.2 = 0) && bal (dwRes p d xs m ((k : Int) + 1)).1.toNat (dwRes p d xs m ((k : Int) + 1)).2.1) = true then bwTo p d xs m k ++ [(k : Int) + 1] else bwTo p d xs m k := rfl
     have hbl := bwTo_len p d xs m k
     obtain ⟨A, hA⟩ : ∃ A, A = bwTo p d xs m k := ⟨_, rfl⟩
     rw [← hA] at hst hbl ho
     obtain ⟨K1, hK1⟩ : ∃ K1 : Int, K1 = (k : Int) + 1 := ⟨_, rfl⟩
     rw [← hK1] at hle hwk hdw hdd hst ⊢
     have hwk2 : IntKind.i64.wrap (K1 + 1) = ((k + 1 : Nat) : Int) + 1 := by rw [hwk, hK1]; push_cast; rfl
     have HK1 := Lib.hid hK1
     obtain ⟨dn, dL, dc, hD⟩ : ∃ (x : Int) (y : List (List Int)) (z : Int), dwRes p d xs m K1 = (x, y, z) := ⟨_, _, _, rfl⟩
     rw [hD] at hdw hdd hst
     simp only [] at hdd hst
     have HD := hide hdw
     have HOA := hide ho.out
     clear hA hK1 hD hdw ho hwk
     go_wp2_with fail
     refine (unhide HD _ co).mono ?_
     rintro e w2 ⟨v2, rfl, o2, b2⟩
     simp only [] at o2 ⊢
     have c2 := co.trans (b2.mono (co).size)
     by_cases hc : dc = 0
     case neg =>
      have e1 : (dc != 0) = true := by rw [bne_iff_ne]; exact hc
      have hst2 : bwTo p d xs m (k + 1) = A := by rw [hst, if_neg (by simp [hc])]
      have HST := Lib.hid hst2
      obtain ⟨a2, c2', rfl, _⟩ := o2.form
      have hb2 := hb.trans (b2.mono hb.size)
      have o2' := (unhide HOA).below ((Below.refl wo.heap.size wo).trans (b2.mono (Below.refl wo.heap.size wo).size)) (Nat.le_refl _)
      have O2 := hide (show Own w2 w1.heap.size u4 (bwTo p d xs m (k + 1)) from by rw [HST.out]; exact o2')
      clear hst hst2 hc hdd o2 o2'
      go_wp2_with fail
      go_roundw
      case rel => exact ⟨k + 1, by first | rfl | go_num, by omega, (unhide O2).alloc _, hb2.alloc hb2.size _⟩
      case measure => simp only [intOf]; have := HK1.out; omega
     have e1 : (dc != 0) = false := by rw [hc]; rfl
     obtain ⟨N, hN, hN1, hN32, hL128, hLB⟩ := hdd hc
     subst hN
     obtain ⟨ga, gc, rfl, _⟩ := o2.form
     obtain ⟨W3, hW3⟩ : ∃ z, z = w2.alloc (.cells #[.int .i64 (N : Int), .slice ga dL.length gc] 47) := ⟨_, rfl⟩
     have b3 : Below w2.heap.size w2 W3 := by rw [hW3]; exact (Below.refl _ _).alloc (Nat.le_refl _) _
     have k3 : Blk W3 w2.heap.size 47 #[.int .i64 (N : Int), .slice ga dL.length gc] := by rw [hW3]; exact Blk.new _ _ _ rfl
     have o3 := o2.below b3 (Nat.le_refl _)
     have hpa := l10Parameters_any w2.heap.size N ga gc dL W3 (k3.cell 0) (k3.cell 1) (o3.rd) hN32 hL128 hLB
     have HB23 := hide (b2.trans (b3.mono b2.size))
     have d0 := k3.cell 0
     have d1 := k3.cell 1
     have HW3 := Lib.hid hW3
     rw [hc] at hst
     simp only [decide_true, Bool.true_and, Int.toNat_natCast] at hst
     obtain ⟨bb, hbb⟩ : ∃ bb, bb = bal N dL := ⟨_, rfl⟩
     rw [← hbb] at hpa hst
     have HPA := hide hpa
     have HST0 := Lib.hid hst
     clear hW3 hdd hc hbb hpa hst o2 o3 hLB
     go_upto_region 9 with fail
     rw [← HW3.out]
     go_wp2_with fail
     refine (unhide HPA).mono ?_
     rintro e w4 ⟨q0, q1, q2, q3, q4, rfl, b4⟩
     have hb4 := hb.trans (((unhide HB23).trans (b4.mono (unhide HB23).size)).mono hb.size)
     have o4 := (unhide HOA).below ((Below.refl wo.heap.size wo).trans (((unhide HB23).trans (b4.mono (unhide HB23).size)).mono (Below.refl wo.heap.size wo).size)) (Nat.le_refl _)
     have z4 := hb4.size
     have z1 := hsz
     cases bb with
     | false =>
      have O4 := hide (show Own w4 w1.heap.size u4 (bwTo p d xs m (k + 1)) from by rw [HST0.out]; exact o4)
      clear o4 d0 d1
      go_wp2_with fail
      go_roundw
      case rel => exact ⟨k + 1, by first | rfl | go_num, by omega, (unhide O4).alloc _, hb4.alloc hb4.size _⟩
      case measure => simp only [intOf]; have := HK1.out; omega
     | true =>
      have HST := Lib.hid (show bwTo p d xs m (k + 1) = A ++ [K1] from by rw [HST0.out]; rfl)
      obtain ⟨ap, cp, rfl, _, _⟩ := o4.form
      obtain ⟨W6, hW6⟩ : ∃ z, z = w4.alloc (.cells #[.int .i64 q0, .int .i64 q1, .int .i64 q2, .int .i64 q3, .int .i64 q4] 104) := ⟨_, rfl⟩
      have b6 : Below w1.heap.size w1 W6 := by rw [hW6]; exact hb4.alloc hb4.size _
      have O6 := hide (show Own W6 w1.heap.size (.slice ap A.length cp) A from by rw [hW6]; exact o4.alloc _)
      have z6 := b6.size
      have HW6 := Lib.hid hW6
      clear o4 d0 d1 hW6
      go_upto_region 10 with fail
      rw [← HW6.out]
      go_wp2_with (at_builtin; refine wpList_append_ints rfl (.tmp 35) (.tmp 37) rfl w1.heap.size _ A [K1] rfl ((unhide O6).alloc _) _ 1 1 rfl rfl (Rd.one W6 K1 _) (by simp; omega) (by simp; omega) ?_; intro v5 w5 o5 g5 _)
      have b5 := Below.step (b6.alloc z6 _) g5 ((unhide O6).alloc _) (Nat.le_refl _) (by simp; omega)
      have O5 := hide (show Own w5 w1.heap.size v5 (bwTo p d xs m (k + 1)) from by rw [HST.out]; exact o5)
      clear o5 g5
      go_roundw
      case rel => exact ⟨k + 1, by first | rfl | go_num, by omega, unhide O5, b5⟩
      case measure => simp only [intOf]; have := HK1.out; omega
   · have hle : ¬ (k : Int) + 1 ≤ (n : Int) := by omega
     have hke : k = n := by omega
     have oo := ho.out
     rw [hke] at oo
     have OO := hide oo
     clear hke oo ho
     have hb9 := b0.trans (co.mono (Nat.le_of_lt sk0))
     have O9 := hide ((unhide OO).mono bb1.size)
     go_wp2
     go_ret2
     rw [HRR.out]
     exact ⟨_, rfl, unhide O9, hb9⟩
theorem implBW_any (p d : Int) (a : Option Addr) (c : Nat) (xs : List Int) (ra : Option Addr) (rc : Nat) (m : List (List Int)) (w : World) (hx : Rd w a xs) (hm : RdS w ra m) (ed : I64 d) : Calls Tryz.prog 26 #[.agg #[.int .i64 p, .int .i64 d, .slice a xs.length c, .slice ra m.length rc]] w (ResL w (bwRes p d xs m)) := by
 have hml := hm.len
 generalize hR : bwRes p d xs m = r
 obtain ⟨W0, hHW⟩ : ∃ z, z = w.alloc (.cells #[.int .i64 p, .int .i64 d, .slice a xs.length c, .slice ra m.length rc] 52) := ⟨_, rfl⟩
 have b0 : Below w.heap.size w W0 := by rw [hHW]; exact (Below.refl _ _).alloc (Nat.le_refl _) _
 have k0 : Blk W0 w.heap.size 52 #[.int .i64 p, .int .i64 d, .slice a xs.length c, .slice ra m.length rc] := by rw [hHW]; exact Blk.new _ _ _ rfl
 have sk0 : w.heap.size < W0.heap.size := k0.lt
 have HW := Lib.hid hHW
 clear hHW
 have hV := implVC_any p d a c xs ra rc m W0 (hx.below b0) (hm.below b0) ed
 have f0 := k0.cell 0
 have f1 := k0.cell 1
 have f2 := k0.cell 2
 have f3 := k0.cell 3
 cases hk : okC p d xs m with
 | false =>
  have HN := Lib.hid (show r = ([], 1) by rw [← hR, bwRes, hk]; rfl)
  rw [hk] at hV
  have HV := hide hV
  clear hV hk hR
  go_enter Tryz.func26, Tryz.ntmps26
  go_upto_region 1 with fail
  rw [← HW.out]
  go_wp2_with fail
  refine (unhide HV).mono ?_
  rintro e w1 ⟨rfl, b1⟩
  have k1 := k0.below b1 k0.lt
  clear f0 f1 f2 f3
  have f0 := k1.cell 0
  have f1 := k1.cell 1
  have f2 := k1.cell 2
  have f3 := k1.cell 3
  have bb1 := b0.trans (b1.mono (Nat.le_of_lt sk0))
  go_wp2
  go_ret2
  rw [HN.out]
  exact ⟨_, rfl, Own.nil _ _, bb1⟩
 | true =>
  have HDW := hide (fun (k : Int) W (h : Below W0.heap.size W0 W) => implDW_any p d a c xs ra rc m k W ((hx.below b0).below h) ((hm.below b0).below h) ed)
  have HDD := hide (fun (k : Int) (hc : (dwRes p d xs m k).2.2 = 0) => dw_design hk hc)
  have hRR : r = (bwTo p d xs m (nthL m 0).length, 0) := by rw [← hR, bwRes, hk]; rfl
  obtain ⟨F, n, hp, hd, hxs, hC⟩ := okC_gc hk
  have hm1 := hC.m1
  have hn1 := hC.n1
  have hn32 := hC.n32
  rw [hC.hn] at hRR
  have HRR := Lib.hid hRR
  rw [hk] at hV
  have HV := hide hV
  have HX := hide (hm.below b0)
  obtain ⟨gb, ob, rfl, hgb, hcc⟩ := (unhide HX).at_ hm1
  obtain ⟨ai, ci, hr0, _⟩ := hcc 0 hm1
  rw [Nat.add_zero, hC.hn] at hr0
  have hlo := fun W (h : Below W0.heap.size W0 W) => lengthOf_any p d a xs.length c (some ⟨gb, ob, none⟩) rc m W ((hm.below b0).below h) (by omega)
  rw [hC.hn] at hlo
  have HLO := hide hlo
  clear hlo
  have KB := hide (show ∀ W, Below W0.heap.size W0 W → Blk W w.heap.size 52 #[.int .i64 p, .int .i64 d, .slice a xs.length c,   .slice (some ⟨gb, ob, none⟩) m.length rc] from fun W h => k0.below h k0.lt)
  clear hV hk hR hC hcc hRR hp hd hxs
  go_enter Tryz.func26, Tryz.ntmps26
  go_upto_region 1 with fail
  rw [← HW.out]
  go_wp2_with fail
  refine (unhide HV).mono ?_
  rintro e w1 ⟨rfl, b1⟩
  have k1 := k0.below b1 k0.lt
  clear f0 f1 f2 f3
  have f0 := k1.cell 0
  have f1 := k1.cell 1
  have f2 := k1.cell 2
  have f3 := k1.cell 3
  have bb1 := b0.trans (b1.mono (Nat.le_of_lt sk0))
  go_wp2_with fail
  go_loopw [4, 5] (fun v iv wr => ∃ k : Nat, iv = .int .i64 ((k : Int) + 1) ∧ k ≤ n ∧ Hid (Own wr w1.heap.size v (bwTo p d xs m k)) ∧ Below w1.heap.size w1 wr) (fun _ iv _ => n + 1 - (intOf iv).toNat)
  case atStart => exact ⟨0, rfl, Nat.zero_le _, Own.nil _ _, Below.refl _ _⟩
  case round =>
   obtain ⟨k, rfl, hk, ho, hb⟩ := hrel
   rename World => wo
   have hsz := hb.size
   have co := Below.chain b1 hb
   have ko := (unhide KB) wo co
   have f0 := ko.cell 0
   have f1 := ko.cell 1
   have f2 := ko.cell 2
   have f3 := ko.cell 3
   have h00 := (co.cell (p := ⟨gb, ob, none⟩) hgb).trans hr0
   by_cases hkn : k < n
   · have hle : (k : Int) + 1 ≤ (n : Int) := by omega
     have hwk : IntKind.i64.wrap ((k : Int) + 1 + 1) = (k : Int) + 1 + 1 := IntWalk.i64_in _ (by omega)
     have hdw := unhide HDW ((k : Int) + 1)
     have hdd := unhide HDD ((k : Int) + 1)
     have hst : bwTo p d xs m (k + 1) = if (decide ((dwRes p d xs m ((k : Int) + 1)).2.2 = 0) && bal (dwRes p d xs m ((k : Int) + 1)).1.toNat (dwRes p d xs m ((k : Int) + 1)).2.1) = true then bwTo p d xs m k ++ [(k : Int) + 1] else bwTo p d xs m k := rfl
     have hbl := bwTo_len p d xs m k
     obtain ⟨A, hA⟩ : ∃ A, A = bwTo p d xs m k := ⟨_, rfl⟩
     rw [← hA] at hst hbl ho
     obtain ⟨K1, hK1⟩ : ∃ K1 : Int, K1 = (k : Int) + 1 := ⟨_, rfl⟩
     rw [← hK1] at hle hwk hdw hdd hst ⊢
     have hwk2 : IntKind.i64.wrap (K1 + 1) = ((k + 1 : Nat) : Int) + 1 := by rw [hwk, hK1]; push_cast; rfl
     have HK1 := Lib.hid hK1
     obtain ⟨dn, dL, dc, hD⟩ : ∃ (x : Int) (y : List (List Int)) (z : Int), dwRes p d xs m K1 = (x, y, z) := ⟨_, _, _, rfl⟩
     rw [hD] at hdw hdd hst
     simp only [] at hdd hst
     have HD := hide hdw
     have HOA := hide ho.out
     clear hA hK1 hD hdw ho hwk
     go_wp2_with fail
     refine (unhide HLO _ co).mono ?_
     rintro e wl ⟨rfl, bl⟩
     have hbl2 := hb.trans (bl.mono hsz)
     have cl := co.trans (bl.mono co.size)
     have kl := (unhide KB) wl cl
     clear f0 f1 f2 f3
     have f0 := kl.cell 0
     have f1 := kl.cell 1
     have f2 := kl.cell 2
     have f3 := kl.cell 3
     go_wp2_with fail
     refine (unhide HD _ cl).mono ?_
     rintro e w2 ⟨v2, rfl, o2, b2⟩
     simp only [] at o2 ⊢
     have c2 := cl.trans (b2.mono (cl).size)
     by_cases hc : dc = 0
     case neg =>
      have e1 : (dc != 0) = true := by rw [bne_iff_ne]; exact hc
      have hst2 : bwTo p d xs m (k + 1) = A := by rw [hst, if_neg (by simp [hc])]
      have HST := Lib.hid hst2
      obtain ⟨a2, c2', rfl, _⟩ := o2.form
      have hb2 := hbl2.trans (b2.mono hbl2.size)
      have o2' := (unhide HOA).below (bl.trans (b2.mono bl.size)) (Nat.le_refl _)
      have O2 := hide (show Own w2 w1.heap.size u4 (bwTo p d xs m (k + 1)) from by rw [HST.out]; exact o2')
      clear hst hst2 hc hdd o2 o2'
      go_wp2_with fail
      go_roundw
      case rel => exact ⟨k + 1, by first | rfl | go_num, by omega, (unhide O2).alloc _, hb2.alloc hb2.size _⟩
      case measure => simp only [intOf]; have := HK1.out; omega
     have e1 : (dc != 0) = false := by rw [hc]; rfl
     obtain ⟨N, hN, hN1, hN32, hL128, hLB⟩ := hdd hc
     subst hN
     obtain ⟨ga, gc, rfl, _⟩ := o2.form
     obtain ⟨W3, hW3⟩ : ∃ z, z = w2.alloc (.cells #[.int .i64 (N : Int), .slice ga dL.length gc] 47) := ⟨_, rfl⟩
     have b3 : Below w2.heap.size w2 W3 := by rw [hW3]; exact (Below.refl _ _).alloc (Nat.le_refl _) _
     have k3 : Blk W3 w2.heap.size 47 #[.int .i64 (N : Int), .slice ga dL.length gc] := by rw [hW3]; exact Blk.new _ _ _ rfl
     have o3 := o2.below b3 (Nat.le_refl _)
     have hpa := parametersOf_any N ga gc dL W3 (o3.rd) o3.toH.caps hN32 hL128 hLB
     have HB23 := hide (b2.trans (b3.mono b2.size))
     have d0 := k3.cell 0
     have d1 := k3.cell 1
     have HW3 := Lib.hid hW3
     rw [hc] at hst
     simp only [decide_true, Bool.true_and, Int.toNat_natCast] at hst
     obtain ⟨bb, hbb⟩ : ∃ bb, bb = bal N dL := ⟨_, rfl⟩
     rw [← hbb] at hpa hst
     have HPA := hide hpa
     have HST0 := Lib.hid hst
     clear hW3 hdd hc hbb hpa hst o2 o3 hLB
     go_upto_region 9 with fail
     rw [← HW3.out]
     go_wp2_with fail
     refine (unhide HPA).mono ?_
     rintro e w4 ⟨q0, q1, q2, q3, q4, rfl, b4⟩
     have hb4 := hbl2.trans (((unhide HB23).trans (b4.mono (unhide HB23).size)).mono hbl2.size)
     have o4 := (unhide HOA).below (bl.trans (((unhide HB23).trans (b4.mono (unhide HB23).size)).mono bl.size)) (Nat.le_refl _)
     have z4 := hb4.size
     have z1 := hsz
     cases bb with
     | false =>
      have O4 := hide (show Own w4 w1.heap.size u4 (bwTo p d xs m (k + 1)) from by rw [HST0.out]; exact o4)
      clear o4 d0 d1
      go_wp2_with fail
      go_roundw
      case rel => exact ⟨k + 1, by first | rfl | go_num, by omega, (unhide O4).alloc _, hb4.alloc hb4.size _⟩
      case measure => simp only [intOf]; have := HK1.out; omega
     | true =>
      have HST := Lib.hid (show bwTo p d xs m (k + 1) = A ++ [K1] from by rw [HST0.out]; rfl)
      obtain ⟨ap, cp, rfl, _, _⟩ := o4.form
      obtain ⟨W6, hW6⟩ : ∃ z, z = w4.alloc (.cells #[.int .i64 q0, .int .i64 q1, .int .i64 q2, .int .i64 q3, .int .i64 q4] 104) := ⟨_, rfl⟩
      have b6 : Below w1.heap.size w1 W6 := by rw [hW6]; exact hb4.alloc hb4.size _
      have O6 := hide (show Own W6 w1.heap.size (.slice ap A.length cp) A from by rw [hW6]; exact o4.alloc _)
      have z6 := b6.size
      have HW6 := Lib.hid hW6
      clear o4 d0 d1 hW6
      go_upto_region 10 with fail
      rw [← HW6.out]
      go_wp2_with (at_builtin; refine wpList_append_ints rfl (.tmp 33) (.tmp 35) rfl w1.heap.size _ A [K1] rfl ((unhide O6).alloc _) _ 1 1 rfl rfl (Rd.one W6 K1 _) (by simp; omega) (by simp; omega) ?_; intro v5 w5 o5 g5 _)
      have b5 := Below.step (b6.alloc z6 _) g5 ((unhide O6).alloc _) (Nat.le_refl _) (by simp; omega)
      have O5 := hide (show Own w5 w1.heap.size v5 (bwTo p d xs m (k + 1)) from by rw [HST.out]; exact o5)
      clear o5 g5
      go_roundw
      case rel => exact ⟨k + 1, by first | rfl | go_num, by omega, unhide O5, b5⟩
      case measure => simp only [intOf]; have := HK1.out; omega
   · have hle : ¬ (k : Int) + 1 ≤ (n : Int) := by omega
     have hke : k = n := by omega
     have oo := ho.out
     rw [hke] at oo
     have OO := hide oo
     clear hke oo ho
     go_wp2_with fail
     refine (unhide HLO _ co).mono ?_
     rintro e wl ⟨rfl, bl⟩
     have hb9 := b0.trans ((co.trans (bl.mono co.size)).mono (Nat.le_of_lt sk0))
     have O9 := hide (((unhide OO).below (bl) (Nat.le_refl _)).mono bb1.size)
     clear f0 f1 f2 f3
     go_wp2
     go_ret2
     rw [HRR.out]
     exact ⟨_, rfl, unhide O9, hb9⟩
end Go.Proofs.YtgfcbmflnldicaaGreat
