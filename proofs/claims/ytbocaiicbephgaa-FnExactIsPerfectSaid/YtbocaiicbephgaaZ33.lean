/-
  Walks: IsPerfect on both sides. Printed by gen_cwp.py.
-/
import Derived.BigQuiet
import Derived.BigRegion
import Derived.ChangeOld
import Derived.Deep.DeepCutAuto
import Derived.Deep.DeepMust
import Derived.Deep.DrawnRows
import Derived.Deep.Draws
import Derived.Deep.OwnRows
import Derived.Deep.QuietTactic
import Derived.Deep.RegionHeld3
import Derived.Deep.Slices
import Derived.IntWalk
import Derived.Laws.Rows
import Derived.Lib.Hide
import Derived.Maps.AppendAt
import Derived.OpenShut
import Derived.OwnWalk
import Derived.ProofKit
import Derived.ShutString
import Derived.StillTailTactics
import Derived.Test.YtbocaiicbephgaaProg
import Derived.Test.YtbocaiicbephgaaRows
import Derived.WalkKit
import Derived.WalkLawsBesides
import Derived.WalkSpells
import Derived.Test.YtbocaiicbephgaaZ31
import Derived.Test.YtbocaiicbephgaaZ32
set_option linter.unusedVariables false
set_option linter.unusedSimpArgs false
namespace Go.Proofs.Ytbocaiicbephgaa
open Go.RowKit
attribute [local go_sem ↓] Go.wp_at_zero Go.wp_at_succ
noncomputable def perfV (F : FD) (n : Nat) (m : List (List Int)) : Bool × Int :=
  if capTo F.n LIM n ≤ LIM then (((F.n ^ m.length : Nat) : Int) * ballV F.n n ((distC F n m - 1) / 2) == (F.n : Int) ^ n, 0) else (false, 2)
noncomputable def perfRes (p d : Int) (xs : List Int) (m : List (List Int)) : Bool × Int := if okC p d xs m = true then perfV (fdR p d xs) (nthL m 0).length m else (false, 1)
theorem perf_mul {q k V P : Int} (h1 : 0 ≤ k) (h2 : k ≤ 4096) (h3 : 0 ≤ V) (h4 : V ≤ 1000000000000) : 0 ≤ k * V ∧ k * V ≤ 4096000000000000 := by
  refine ⟨Int.mul_nonneg h1 h3, ?_⟩
  have a := Int.mul_le_mul_of_nonneg_right h2 h3
  omega
set_option maxRecDepth 100000 in
set_option maxHeartbeats 3200000 in
theorem specPF_any (p d : Int) (a : Option Addr) (c : Nat) (xs : List Int) (ra : Option Addr) (rc : Nat) (m : List (List Int)) (w : World) (hx : Rd w a xs) (hm : RdS w ra m) : Calls Try.prog 44 #[.agg #[.int .i64 p, .int .i64 d, .slice a xs.length c, .slice ra m.length rc]] w (ResB w (perfRes p d xs m)) := by
  have hml := hm.len
  generalize hR : perfRes p d xs m = r
  obtain ⟨W0, hHW⟩ : ∃ z, z = w.alloc (.cells #[.int .i64 p, .int .i64 d, .slice a xs.length c, .slice ra m.length rc] 33) := ⟨_, rfl⟩
  have b0 : Below w.heap.size w W0 := by rw [hHW]; exact (Below.refl _ _).alloc (Nat.le_refl _) _
  have k0 : Blk W0 w.heap.size 33 #[.int .i64 p, .int .i64 d, .slice a xs.length c, .slice ra m.length rc] := by rw [hHW]; exact Blk.new _ _ _ rfl
  have sk0 : w.heap.size < W0.heap.size := k0.lt
  have HW := Lib.hid hHW
  clear hHW
  have hC0 : PC W0 w.heap.size p d a c xs ra rc m := ⟨⟨k0.cell 0, k0.cell 1, k0.cell 2, hx.below b0⟩, k0.cell 3, hm.below b0⟩
  have hV := l18Ok_any w.heap.size p d a c xs ra rc m W0 hC0
  cases hk : okC p d xs m with
  | false =>
    have HN := Lib.hid (show r = (false, 1) by rw [← hR, perfRes, hk]; rfl)
    rw [hk] at hV
    have HV := hide hV
    clear hV hk hR hC0
    have f0 := k0.cell 0
    have f1 := k0.cell 1
    have f2 := k0.cell 2
    have f3 := k0.cell 3
    go_enter Try.func44, Try.ntmps44
    go_upto_region 1 with fail
    rw [← HW.out]
    go_wp2_with fail
    refine (unhide HV).mono ?_
    rintro e w1 ⟨rfl, b1⟩
    have k1 := k0.below b1 k0.lt
    clear f0 f1 f2 f3
    have f0 := k1.cell 0
    have f1 := k1.cell 1
    have f2 := k1.cell 2
    have f3 := k1.cell 3
    have bb1 := b0.trans (b1.mono (Nat.le_of_lt sk0))
    go_wp2
    go_ret2
    rw [HN.out]
    exact ⟨rfl, bb1⟩
  | true =>
    obtain ⟨F, n, rfl, rfl, rfl, hC⟩ := okC_gc hk
    have ok := hC.good.ok
    obtain ⟨n2, n64⟩ := ok.n_bd
    have hm1 := hC.m1
    have hm0 : 0 < m.length := by omega
    have hm8 := hC.m8
    have hn1 := hC.n1
    have hn32 := hC.n32
    rw [hk] at hV
    have HV := hide hV
    have hk' := hk
    have hRR : r = perfV F n m := by rw [← hR, perfRes, hk, fdR_eq, hC.hn]; rfl
    clear hV hk hR
    obtain ⟨hd1, hdn⟩ := hC.dist
    obtain ⟨hcap, hQ⟩ := hC.cap_eq
    have hq2 : (2 : Int) ≤ F.n := by omega
    have hq64 : (F.n : Int) ≤ 64 := by omega
    have hdr : distRes F.p F.k F.poly m = ((distC F n m : Int), 0) := by rw [distRes, hk', fdR_eq, hC.hn]; rfl
    have hD := fun W (h : Below W0.heap.size W0 W) => specDI_any F.p F.k a c F.poly ra rc m W ((hx.below b0).below h) ((hm.below b0).below h)
    rw [hdr] at hD
    have hSZ := fun W (h : Below W0.heap.size W0 W) => l03Size_qt w.heap.size F W (hC0.below h).1.pf ok
    have hPW := fun W => l19Power_any F.n n W (by omega) (by omega) (by omega)
    rw [Int.toNat_natCast] at hPW
    have hCN := fun W => l18Count_any F.n m.length W (by omega) (by omega) (by omega)
    rw [Int.toNat_natCast, cnt, hcap, if_pos (by omega)] at hCN
    obtain ⟨gb, ob, ai, ci, rfl, hr0, hgb⟩ := hC0.row0 hm1
    rw [hC.hn] at hr0
    rw [perfV] at hRR
    generalize distC F n m = D at hd1 hdn hD hRR
    obtain ⟨K, hK⟩ : ∃ K, K = F.n ^ m.length := ⟨_, rfl⟩
    rw [← hK] at hQ hCN hRR
    have HD := hide hD
    have HSZ := hide hSZ
    have HCN := hide hCN
    clear hD hC0 hC hdr hk' hSZ hCN hK hcap
    by_cases hl : capTo F.n LIM n ≤ LIM
    · rw [if_pos hl] at hRR
      rw [powS_yes hl] at hPW
      have hpe := capTo_eq (by omega) hl
      rw [hpe] at hl hPW
      have hpp : 0 ≤ (F.n : Int) ^ n := Int.pow_nonneg (by omega)
      have hdd : ((D : Int) - 1) / 2 = (((D - 1) / 2 : Nat) : Int) := by omega
      have hdl : ((D - 1) / 2 : Nat) ≤ n := by omega
      have HB := hide (fun W => l19Ball_any F.n n ((D - 1) / 2) W hq2 hq64 hn32 hdl hl)
      have hbp := ball_pos (q := F.n) (by omega) hn32 ((D - 1) / 2)
      have hbl := ball_le (q := F.n) (by omega) hn32 (r := (D - 1) / 2 + 1) (by omega)
      rw [← ballV_eq] at hbl
      have hl' : (F.n : Int) ^ n ≤ 1000000000000 := hl
      have HDD := Lib.hid hdd
      have HPW := hide hPW
      clear hPW hl hpe hdd
      generalize (F.n : Int) ^ n = P at *
      generalize ballV F.n n ((D - 1) / 2) = V at *
      obtain ⟨hm0, hm4⟩ := perf_mul (q := 0) (P := 0) (k := (K : Int)) (V := V) (by omega) (by omega) (by omega) (by omega)
      have hw1 : IntKind.i64.wrap ((D : Int) - 1) = (D : Int) - 1 := IntWalk.i64_in _ (by omega)
      have hw2 : IntKind.i64.wrap ((K : Int) * V) = (K : Int) * V := IntWalk.i64_in _ (by omega)
      obtain ⟨R, hRb⟩ : ∃ R, R = ((K : Int) * V == P) := ⟨_, rfl⟩
      rw [← hRb] at hRR
      have HRR := Lib.hid hRR
      clear hRR
      have f0 := k0.cell 0
      have f1 := k0.cell 1
      have f2 := k0.cell 2
      have f3 := k0.cell 3
      go_enter Try.func44, Try.ntmps44
      go_upto_region 1 with fail
      rw [← HW.out]
      go_wp2_with fail
      refine (unhide HV).mono ?_
      rintro e w1 ⟨rfl, b1⟩
      have k1 := k0.below b1 k0.lt
      clear f0 f1 f2 f3
      have f0 := k1.cell 0
      have f1 := k1.cell 1
      have f2 := k1.cell 2
      have f3 := k1.cell 3
      have bb1 := b0.trans (b1.mono (Nat.le_of_lt sk0))
      have hr0 := (b1.cell (p := ⟨gb, ob, none⟩) hgb).trans hr0
      go_wp2_with fail
      refine (unhide HSZ w1 b1).mono ?_
      rintro e w2 ⟨rfl, q2⟩
      have b2 := b1.trans (q2.below _)
      have k2 := k0.below b2 k0.lt
      clear f0 f1 f2 f3
      have f0 := k2.cell 0
      have f1 := k2.cell 1
      have f2 := k2.cell 2
      have f3 := k2.cell 3
      go_wp2_with fail
      refine (unhide HPW _).mono ?_
      rintro e w3 ⟨rfl, rfl⟩
      go_wp2_with fail
      refine (unhide HD w2 b2).mono ?_
      rintro e w3 ⟨rfl, b3⟩
      have b3' := Below.chain b2 b3
      have k3 := k0.below b3' k0.lt
      clear f0 f1 f2 f3
      have f0 := k3.cell 0
      have f1 := k3.cell 1
      have f2 := k3.cell 2
      have f3 := k3.cell 3
      go_wp2_with fail
      refine (unhide HCN _).mono ?_
      rintro e w4 ⟨rfl, rfl⟩
      go_wp2_with fail
      rw [HDD.out]
      refine (unhide HB _).mono ?_
      rintro e w4 ⟨rfl, rfl⟩
      go_wp2
      go_ret2
      rw [HRR.out]
      exact ⟨by rw [hRb]; rfl, b0.trans (b3'.mono (Nat.le_of_lt sk0))⟩
    · rw [if_neg hl] at hRR
      rw [powS_no hl] at hPW
      have HPW := hide hPW
      have HRR := Lib.hid hRR
      clear hPW hl hRR
      have f0 := k0.cell 0
      have f1 := k0.cell 1
      have f2 := k0.cell 2
      have f3 := k0.cell 3
      go_enter Try.func44, Try.ntmps44
      go_upto_region 1 with fail
      rw [← HW.out]
      go_wp2_with fail
      refine (unhide HV).mono ?_
      rintro e w1 ⟨rfl, b1⟩
      have k1 := k0.below b1 k0.lt
      clear f0 f1 f2 f3
      have f0 := k1.cell 0
      have f1 := k1.cell 1
      have f2 := k1.cell 2
      have f3 := k1.cell 3
      have bb1 := b0.trans (b1.mono (Nat.le_of_lt sk0))
      have hr0 := (b1.cell (p := ⟨gb, ob, none⟩) hgb).trans hr0
      go_wp2_with fail
      refine (unhide HSZ w1 b1).mono ?_
      rintro e w2 ⟨rfl, q2⟩
      have b2 := b1.trans (q2.below _)
      go_wp2_with fail
      refine (unhide HPW _).mono ?_
      rintro e w3 ⟨rfl, rfl⟩
      go_wp2
      go_ret2
      rw [HRR.out]
      exact ⟨rfl, b0.trans (b2.mono (Nat.le_of_lt sk0))⟩
set_option maxRecDepth 100000 in
set_option maxHeartbeats 3200000 in
theorem implPF_any (p d : Int) (a : Option Addr) (c : Nat) (xs : List Int) (ra : Option Addr) (rc : Nat) (m : List (List Int)) (w : World) (hx : Rd w a xs) (hm : RdS w ra m) (ed : I64 d) : Calls Try.prog 45 #[.agg #[.int .i64 p, .int .i64 d, .slice a xs.length c, .slice ra m.length rc]] w (ResB w (perfRes p d xs m)) := by
  have hml := hm.len
  generalize hR : perfRes p d xs m = r
  obtain ⟨W0, hHW⟩ : ∃ z, z = w.alloc (.cells #[.int .i64 p, .int .i64 d, .slice a xs.length c, .slice ra m.length rc] 33) := ⟨_, rfl⟩
  have b0 : Below w.heap.size w W0 := by rw [hHW]; exact (Below.refl _ _).alloc (Nat.le_refl _) _
  have k0 : Blk W0 w.heap.size 33 #[.int .i64 p, .int .i64 d, .slice a xs.length c, .slice ra m.length rc] := by rw [hHW]; exact Blk.new _ _ _ rfl
  have sk0 : w.heap.size < W0.heap.size := k0.lt
  have HW := Lib.hid hHW
  clear hHW
  have hD := implDI_any p d a c xs ra rc m W0 (hx.below b0) (hm.below b0) ed
  cases hk : okC p d xs m with
  | false =>
    have HN := Lib.hid (show r = (false, 1) by rw [← hR, perfRes, hk]; rfl)
    have hdr : distRes p d xs m = (0, 1) := by rw [distRes, hk]; rfl
    rw [hdr] at hD
    have HD := hide hD
    clear hD hk hR hdr
    have f0 := k0.cell 0
    have f1 := k0.cell 1
    have f2 := k0.cell 2
    have f3 := k0.cell 3
    go_enter Try.func45, Try.ntmps45
    go_upto_region 1 with fail
    rw [← HW.out]
    go_wp2_with fail
    refine (unhide HD).mono ?_
    rintro e w1 ⟨rfl, b1⟩
    have k1 := k0.below b1 k0.lt
    clear f0 f1 f2 f3
    have f0 := k1.cell 0
    have f1 := k1.cell 1
    have f2 := k1.cell 2
    have f3 := k1.cell 3
    have bb1 := b0.trans (b1.mono (Nat.le_of_lt sk0))
    go_wp2
    go_ret2
    rw [HN.out]
    exact ⟨rfl, bb1⟩
  | true =>
    obtain ⟨F, n, rfl, rfl, rfl, hC⟩ := okC_gc hk
    have ok := hC.good.ok
    obtain ⟨n2, n64⟩ := ok.n_bd
    have hm1 := hC.m1
    have hm0 : 0 < m.length := by omega
    have hm8 := hC.m8
    have hn1 := hC.n1
    have hn32 := hC.n32
    have hdr : distRes F.p F.k F.poly m = ((distC F n m : Int), 0) := by rw [distRes, hk, fdR_eq, hC.hn]; rfl
    have hRR : r = perfV F n m := by rw [← hR, perfRes, hk, fdR_eq, hC.hn]; rfl
    rw [hdr] at hD
    obtain ⟨hd1, hdn⟩ := hC.dist
    obtain ⟨hcap, hQ⟩ := hC.cap_eq
    have hq2 : (2 : Int) ≤ F.n := by omega
    have hq64 : (F.n : Int) ≤ 64 := by omega
    have hL := fun W (h : Below W0.heap.size W0 W) => lengthOf_any F.p F.k a F.poly.length c ra rc m W ((hm.below b0).below h) hm1
    rw [hC.hn] at hL
    have hFS := fun W => fieldSize_any F a c W ok
    have hPW := fun W => powerUpTo_any F.n n 1000000000000 W (by omega) (by omega) (by omega) (by omega) (by omega)
    rw [Int.toNat_natCast] at hPW
    change ∀ W, Calls Try.prog 85 #[.int .i64 F.n, .int .i64 n, .int .i64 1000000000000] W (fun e w' => e = .returned (.int .i64 (capTo F.n LIM n)) ∧ W = w') at hPW
    have hPK := fun W => powerUpTo_any F.n m.length 4096 W (by omega) (by omega) (by omega) (by omega) (by omega)
    rw [Int.toNat_natCast, hcap] at hPK
    rw [perfV] at hRR
    generalize distC F n m = D at hd1 hdn hD hRR
    obtain ⟨K, hK⟩ : ∃ K, K = F.n ^ m.length := ⟨_, rfl⟩
    rw [← hK] at hQ hPK hRR
    have HD := hide hD
    have HL := hide hL
    have HFS := hide hFS
    have HPK := hide hPK
    have BX := hide (show ∀ W, Below W0.heap.size W0 W → (Below W0.heap.size W0 W ∧ W.cell? ⟨w.heap.size, 0, none⟩ = some (.int .i64 F.p) ∧ W.cell? ⟨w.heap.size, 1, none⟩ = some (.int .i64 F.k) ∧ W.cell? ⟨w.heap.size, 2, none⟩ = some (.slice a F.poly.length c) ∧ W.cell? ⟨w.heap.size, 3, none⟩ = some (.slice ra m.length rc)) from fun W h => ⟨h, (k0.below h k0.lt).cell 0, (k0.below h k0.lt).cell 1, (k0.below h k0.lt).cell 2, (k0.below h k0.lt).cell 3⟩)
    clear hD hC hdr hk hR hL hK hcap hFS hPK
    have KB := hide (show ∀ W, Below W0.heap.size W0 W → Blk W w.heap.size 33 #[.int .i64 F.p, .int .i64 F.k, .slice a F.poly.length c, .slice ra m.length rc] from fun W h => k0.below h k0.lt)
    by_cases hl : capTo F.n LIM n ≤ LIM
    · rw [if_pos hl] at hRR
      have hpe := capTo_eq (by omega) hl
      rw [hpe] at hl hPW
      have hpp : 0 ≤ (F.n : Int) ^ n := Int.pow_nonneg (by omega)
      have hdd : ((D : Int) - 1) / 2 = (((D - 1) / 2 : Nat) : Int) := by omega
      have hdl : ((D - 1) / 2 : Nat) ≤ n := by omega
      have HB := hide (fun W => ballSize_any F.n n ((D - 1) / 2) W hq2 hq64 hn32 hdl hl)
      have hbp := ball_pos (q := F.n) (by omega) hn32 ((D - 1) / 2)
      have hbl := ball_le (q := F.n) (by omega) hn32 (r := (D - 1) / 2 + 1) (by omega)
      rw [← ballV_eq] at hbl
      have hl' : (F.n : Int) ^ n ≤ 1000000000000 := hl
      have HDD := Lib.hid hdd
      have HPW := hide hPW
      clear hPW hl hpe hdd
      generalize (F.n : Int) ^ n = P at *
      generalize ballV F.n n ((D - 1) / 2) = V at *
      obtain ⟨hm0, hm4⟩ := perf_mul (q := 0) (P := 0) (k := (K : Int)) (V := V) (by omega) (by omega) (by omega) (by omega)
      have hw1 : IntKind.i64.wrap ((D : Int) - 1) = (D : Int) - 1 := IntWalk.i64_in _ (by omega)
      have hw2 : IntKind.i64.wrap ((K : Int) * V) = (K : Int) * V := IntWalk.i64_in _ (by omega)
      have hlt : decide ((1000000000000 : Int) < P) = false := by rw [decide_eq_false_iff_not]; omega
      obtain ⟨R, hRb⟩ : ∃ R, R = ((K : Int) * V == P) := ⟨_, rfl⟩
      rw [← hRb] at hRR
      have HRR := Lib.hid hRR
      clear hRR
      have f0 := k0.cell 0
      have f1 := k0.cell 1
      have f2 := k0.cell 2
      have f3 := k0.cell 3
      go_enter Try.func45, Try.ntmps45
      go_upto_region 1 with fail
      rw [← HW.out]
      go_wp2_with fail
      refine (unhide HD).mono ?_
      rintro e w1 ⟨rfl, b1⟩
      have k1 := k0.below b1 k0.lt
      clear f0 f1 f2 f3
      have f0 := k1.cell 0
      have f1 := k1.cell 1
      have f2 := k1.cell 2
      have f3 := k1.cell 3
      have bb1 := b0.trans (b1.mono (Nat.le_of_lt sk0))
      go_upto_region 4 with fail
      go_region_held3 (fun W => Below W0.heap.size W0 W ∧ W.cell? ⟨w.heap.size, 0, none⟩ = some (.int .i64 F.p) ∧ W.cell? ⟨w.heap.size, 1, none⟩ = some (.int .i64 F.k) ∧ W.cell? ⟨w.heap.size, 2, none⟩ = some (.slice a F.poly.length c) ∧ W.cell? ⟨w.heap.size, 3, none⟩ = some (.slice ra m.length rc))
        (first | exact (unhide BX) _ b1.drew | exact (unhide BX) _ (by assumption))
        (first
          | (go_at_call 72; refine (unhide HL _ ?_).mono ?_; exact And.left (by assumption); rintro e w2 ⟨rfl, b2⟩; have hB2 := Below.chain (a := W0) (And.left (by assumption)) b2)
          | (go_at_call 84; refine (unhide HFS _).mono ?_; rintro e w3 ⟨rfl, b3⟩; have hB2 := Below.chain (a := W0) (And.left (by assumption)) b3))
      all_goals
        have k2 := unhide KB _ hB2
        clear f0 f1 f2 f3
        have f0 := k2.cell 0
        have f1 := k2.cell 1
        have f2 := k2.cell 2
        have f3 := k2.cell 3
        go_wp2_with fail
        refine (unhide HPW _).mono ?_
        rintro e w4 ⟨rfl, rfl⟩
        go_wp2_with fail
        refine (sizeS_any _ _ _ _).mono ?_
        rintro e w4 ⟨rfl, rfl⟩
        go_wp2_with fail
        refine (unhide HPK _).mono ?_
        rintro e w4 ⟨rfl, rfl⟩
        go_wp2_with fail
        rw [HDD.out]
        refine (unhide HB _).mono ?_
        rintro e w4 ⟨rfl, rfl⟩
        go_wp2
        go_ret2
        rw [HRR.out]
        exact ⟨by rw [hRb]; rfl, b0.trans (hB2.mono (Nat.le_of_lt sk0))⟩
    · rw [if_neg hl] at hRR
      have hlt : decide ((1000000000000 : Int) < capTo F.n LIM n) = true := by rw [decide_eq_true_eq]; have : ¬ capTo F.n LIM n ≤ 1000000000000 := hl; omega
      have HPW := hide hPW
      have HRR := Lib.hid hRR
      clear hPW hl hRR
      generalize capTo F.n LIM n = P at hlt HPW
      have f0 := k0.cell 0
      have f1 := k0.cell 1
      have f2 := k0.cell 2
      have f3 := k0.cell 3
      go_enter Try.func45, Try.ntmps45
      go_upto_region 1 with fail
      rw [← HW.out]
      go_wp2_with fail
      refine (unhide HD).mono ?_
      rintro e w1 ⟨rfl, b1⟩
      have k1 := k0.below b1 k0.lt
      clear f0 f1 f2 f3
      have f0 := k1.cell 0
      have f1 := k1.cell 1
      have f2 := k1.cell 2
      have f3 := k1.cell 3
      have bb1 := b0.trans (b1.mono (Nat.le_of_lt sk0))
      go_upto_region 4 with fail
      go_region_held3 (fun W => Below W0.heap.size W0 W ∧ W.cell? ⟨w.heap.size, 0, none⟩ = some (.int .i64 F.p) ∧ W.cell? ⟨w.heap.size, 1, none⟩ = some (.int .i64 F.k) ∧ W.cell? ⟨w.heap.size, 2, none⟩ = some (.slice a F.poly.length c) ∧ W.cell? ⟨w.heap.size, 3, none⟩ = some (.slice ra m.length rc))
        (first | exact (unhide BX) _ b1.drew | exact (unhide BX) _ (by assumption))
        (first
          | (go_at_call 72; refine (unhide HL _ ?_).mono ?_; exact And.left (by assumption); rintro e w2 ⟨rfl, b2⟩; have hB2 := Below.chain (a := W0) (And.left (by assumption)) b2)
          | (go_at_call 84; refine (unhide HFS _).mono ?_; rintro e w3 ⟨rfl, b3⟩; have hB2 := Below.chain (a := W0) (And.left (by assumption)) b3))
      all_goals
        go_wp2_with fail
        refine (unhide HPW _).mono ?_
        rintro e w4 ⟨rfl, rfl⟩
        go_wp2
        go_ret2
        rw [HRR.out]
        exact ⟨rfl, b0.trans (hB2.mono (Nat.le_of_lt sk0))⟩
end Go.Proofs.Ytbocaiicbephgaa

