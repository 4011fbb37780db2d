/-
  Walks: CheckMatrix on both sides. Printed by gen_cw3.py.
-/
import Derived.BigQuiet
import Derived.BigRegion
import Derived.ChangeOld
import Derived.Deep.DeepCutAuto
import Derived.Deep.DeepMust
import Derived.Deep.DrawnRows
import Derived.Deep.Draws
import Derived.Deep.OwnRows
import Derived.Deep.QuietTactic
import Derived.Deep.RegionHeld3
import Derived.Deep.Slices
import Derived.IntWalk
import Derived.Laws.Rows
import Derived.Lib.Hide
import Derived.Maps.AppendAt
import Derived.OpenShut
import Derived.OwnWalk
import Derived.ProofKit
import Derived.ShutString
import Derived.StillTailTactics
import Derived.Test.YtbocaiicbephgaaProg
import Derived.Test.YtbocaiicbephgaaRows
import Derived.WalkKit
import Derived.WalkLawsBesides
import Derived.WalkSpells
import Derived.Test.YtbocaiicbephgaaZ24
import Derived.Test.YtbocaiicbephgaaZ30
import Derived.Test.YtbocaiicbephgaaZ35
set_option linter.unusedVariables false
set_option linter.unusedSimpArgs false
namespace Go.Proofs.Ytbocaiicbephgaa
open Go.RowKit
attribute [local go_sem ↓] Go.wp_at_zero Go.wp_at_succ
def chkV (F : FD) (n : Nat) (m : List (List Int)) : List (List Int) × Int := if (nul F m n).length = 0 then ([], 6) else (nul F m n, 0)
def chkRes (p d : Int) (xs : List Int) (m : List (List Int)) : List (List Int) × Int := if okC p d xs m = true then chkV (fdR p d xs) (nthL m 0).length m else ([], 1)
def ResLLi (w : World) (r : List (List Int) × Int) (e : Ending) (w' : World) : Prop := ∃ v, e = .returned (.tuple #[v, .int .i64 r.2]) ∧ OwnS w' w.heap.size v r.1 ∧ Below w.heap.size w w'
set_option maxRecDepth 100000 in
set_option maxHeartbeats 1600000 in
theorem specCM_any (p d : Int) (a : Option Addr) (c : Nat) (xs : List Int) (ra : Option Addr) (rc : Nat) (m : List (List Int)) (w : World) (hx : Rd w a xs) (hm : RdS w ra m) : Calls Try.prog 38 #[.agg #[.int .i64 p, .int .i64 d, .slice a xs.length c, .slice ra m.length rc]] w (ResLLi w (chkRes p d xs m)) := by
  have hml := hm.len
  generalize hR : chkRes p d xs m = r
  obtain ⟨W0, hHW⟩ : ∃ z, z = w.alloc (.cells #[.int .i64 p, .int .i64 d, .slice a xs.length c, .slice ra m.length rc] 33) := ⟨_, rfl⟩
  have b0 : Below w.heap.size w W0 := by rw [hHW]; exact (Below.refl _ _).alloc (Nat.le_refl _) _
  have k0 : Blk W0 w.heap.size 33 #[.int .i64 p, .int .i64 d, .slice a xs.length c, .slice ra m.length rc] := by rw [hHW]; exact Blk.new _ _ _ rfl
  have sk0 : w.heap.size < W0.heap.size := k0.lt
  have HW := Lib.hid hHW
  clear hHW
  have hC0 : PC W0 w.heap.size p d a c xs ra rc m := ⟨⟨k0.cell 0, k0.cell 1, k0.cell 2, hx.below b0⟩, k0.cell 3, hm.below b0⟩
  have hV := l18Ok_any w.heap.size p d a c xs ra rc m W0 hC0
  cases hk : okC p d xs m with
  | false =>
    have HN := Lib.hid (show r = ([], 1) by rw [← hR, chkRes, hk]; rfl)
    rw [hk] at hV
    have HV := hide hV
    clear hV hk hR hC0
    have f0 := k0.cell 0
    have f1 := k0.cell 1
    have f2 := k0.cell 2
    have f3 := k0.cell 3
    go_enter Try.func38, Try.ntmps38
    go_upto_region 1 with fail
    rw [← HW.out]
    go_wp2_with fail
    refine (unhide HV).mono ?_
    rintro e w1 ⟨rfl, b1⟩
    have k1 := k0.below b1 k0.lt
    clear f0 f1 f2 f3
    have f0 := k1.cell 0
    have f1 := k1.cell 1
    have f2 := k1.cell 2
    have f3 := k1.cell 3
    have bb1 := b0.trans (b1.mono (Nat.le_of_lt sk0))
    go_wp2
    go_ret2
    rw [HN.out]
    exact ⟨_, rfl, OwnS.nil _ _, bb1⟩
  | true =>
    obtain ⟨F, n, rfl, rfl, rfl, hC⟩ := okC_gc hk
    have ok := hC.good.ok
    obtain ⟨n2, n64⟩ := ok.n_bd
    have hm1 := hC.m1
    have hm0 : 0 < m.length := by omega
    have hm8 := hC.m8
    have hn1 := hC.n1
    have hn32 := hC.n32
    rw [hk] at hV
    have HV := hide hV
    have hRR : r = chkV F n m := by rw [← hR, chkRes, hk, fdR_eq, hC.hn]; rfl
    clear hV hk hR
    have hW := fun W (h : Below W0.heap.size W0 W) => l17Null_any w.heap.size F ra rc m n W (hC0.below h).1.pf hC.good (hC0.below h).2.2 hm1 hC.mat hn1 (by omega)
    rw [chkV] at hRR
    obtain ⟨N, hN⟩ : ∃ N, N = nul F m n := ⟨_, rfl⟩
    rw [← hN] at hW hRR
    have HWW := hide hW
    clear hW hC0 hC hN
    by_cases h0 : N.length = 0
    · have hbe : ((N.length : Int) == 0) = true := by rw [h0]; rfl
      rw [if_pos h0] at hRR
      have HRR := Lib.hid hRR
      clear h0 hRR
      have f0 := k0.cell 0
      have f1 := k0.cell 1
      have f2 := k0.cell 2
      have f3 := k0.cell 3
      go_enter Try.func38, Try.ntmps38
      go_upto_region 1 with fail
      rw [← HW.out]
      go_wp2_with fail
      refine (unhide HV).mono ?_
      rintro e w1 ⟨rfl, b1⟩
      have k1 := k0.below b1 k0.lt
      clear f0 f1 f2 f3
      have f0 := k1.cell 0
      have f1 := k1.cell 1
      have f2 := k1.cell 2
      have f3 := k1.cell 3
      have bb1 := b0.trans (b1.mono (Nat.le_of_lt sk0))
      go_wp2_with fail
      refine (unhide HWW w1 b1).mono ?_
      rintro e w2 ⟨v, rfl, o2, b2⟩
      obtain ⟨ax, cx, rfl, _⟩ := o2.form
      have hsz := bb1.size
      have bb2 := bb1.trans (b2.mono bb1.size)
      go_wp2
      go_ret2
      rw [HRR.out]
      exact ⟨_, rfl, OwnS.nil _ _, bb2⟩
    · have hbe : ((N.length : Int) == 0) = false := by rw [beq_eq_false_iff_ne]; omega
      rw [if_neg h0] at hRR
      have HRR := Lib.hid hRR
      clear h0 hRR
      have f0 := k0.cell 0
      have f1 := k0.cell 1
      have f2 := k0.cell 2
      have f3 := k0.cell 3
      go_enter Try.func38, Try.ntmps38
      go_upto_region 1 with fail
      rw [← HW.out]
      go_wp2_with fail
      refine (unhide HV).mono ?_
      rintro e w1 ⟨rfl, b1⟩
      have k1 := k0.below b1 k0.lt
      clear f0 f1 f2 f3
      have f0 := k1.cell 0
      have f1 := k1.cell 1
      have f2 := k1.cell 2
      have f3 := k1.cell 3
      have bb1 := b0.trans (b1.mono (Nat.le_of_lt sk0))
      go_wp2_with fail
      refine (unhide HWW w1 b1).mono ?_
      rintro e w2 ⟨v, rfl, o2, b2⟩
      obtain ⟨ax, cx, rfl, _⟩ := o2.form
      have hsz := bb1.size
      have bb2 := bb1.trans (b2.mono bb1.size)
      go_wp2
      go_ret2
      rw [HRR.out]
      exact ⟨_, rfl, o2.mono hsz, bb2⟩
set_option maxRecDepth 100000 in
set_option maxHeartbeats 1600000 in
theorem implCM_any (p d : Int) (a : Option Addr) (c : Nat) (xs : List Int) (ra : Option Addr) (rc : Nat) (m : List (List Int)) (w : World) (hx : Rd w a xs) (hm : RdS w ra m) (ed : I64 d) : Calls Try.prog 39 #[.agg #[.int .i64 p, .int .i64 d, .slice a xs.length c, .slice ra m.length rc]] w (ResLLi w (chkRes p d xs m)) := by
  have hml := hm.len
  generalize hR : chkRes p d xs m = r
  obtain ⟨W0, hHW⟩ : ∃ z, z = w.alloc (.cells #[.int .i64 p, .int .i64 d, .slice a xs.length c, .slice ra m.length rc] 33) := ⟨_, rfl⟩
  have b0 : Below w.heap.size w W0 := by rw [hHW]; exact (Below.refl _ _).alloc (Nat.le_refl _) _
  have k0 : Blk W0 w.heap.size 33 #[.int .i64 p, .int .i64 d, .slice a xs.length c, .slice ra m.length rc] := by rw [hHW]; exact Blk.new _ _ _ rfl
  have sk0 : w.heap.size < W0.heap.size := k0.lt
  have HW := Lib.hid hHW
  clear hHW
  have hV := implVC_any p d a c xs ra rc m W0 (hx.below b0) (hm.below b0) ed
  cases hk : okC p d xs m with
  | false =>
    have HN := Lib.hid (show r = ([], 1) by rw [← hR, chkRes, hk]; rfl)
    rw [hk] at hV
    have HV := hide hV
    clear hV hk hR
    have f0 := k0.cell 0
    have f1 := k0.cell 1
    have f2 := k0.cell 2
    have f3 := k0.cell 3
    go_enter Try.func39, Try.ntmps39
    go_upto_region 1 with fail
    rw [← HW.out]
    go_wp2_with fail
    refine (unhide HV).mono ?_
    rintro e w1 ⟨rfl, b1⟩
    have k1 := k0.below b1 k0.lt
    clear f0 f1 f2 f3
    have f0 := k1.cell 0
    have f1 := k1.cell 1
    have f2 := k1.cell 2
    have f3 := k1.cell 3
    have bb1 := b0.trans (b1.mono (Nat.le_of_lt sk0))
    go_wp2
    go_ret2
    rw [HN.out]
    exact ⟨_, rfl, OwnS.nil _ _, bb1⟩
  | true =>
    obtain ⟨F, n, rfl, rfl, rfl, hC⟩ := okC_gc hk
    have ok := hC.good.ok
    obtain ⟨n2, n64⟩ := ok.n_bd
    have hm1 := hC.m1
    have hm0 : 0 < m.length := by omega
    have hm8 := hC.m8
    have hn1 := hC.n1
    have hn32 := hC.n32
    rw [hk] at hV
    have HV := hide hV
    have hRR : r = chkV F n m := by rw [← hR, chkRes, hk, fdR_eq, hC.hn]; rfl
    clear hV hk hR
    obtain ⟨gb, ob, rfl, hgb, hcc⟩ := (hm.below b0).at_ hm1
    obtain ⟨ai, ci, hr0, _⟩ := hcc 0 hm1
    rw [Nat.add_zero, hC.hn] at hr0
    have hT := fun W (h : Below W0.heap.size W0 W) => tablesOf_any F a c W ((hx.below b0).below h) ok
    have hW := fun tv W (h : Below W0.heap.size W0 W) hT => nullSpace_any F tv (some ⟨gb, ob, none⟩) rc m n W hT hC.good ((hm.below b0).below h) hm1 hC.mat hn1 (by omega)
    rw [chkV] at hRR
    obtain ⟨N, hN⟩ : ∃ N, N = nul F m n := ⟨_, rfl⟩
    rw [← hN] at hW hRR
    have HT := hide hT
    have HWW := hide hW
    have BX := hide (show ∀ W, Below W0.heap.size W0 W → (Below W0.heap.size W0 W ∧ W.cell? ⟨w.heap.size, 0, none⟩ = some (.int .i64 F.p) ∧ W.cell? ⟨w.heap.size, 1, none⟩ = some (.int .i64 F.k) ∧ W.cell? ⟨w.heap.size, 2, none⟩ = some (.slice a F.poly.length c) ∧ W.cell? ⟨w.heap.size, 3, none⟩ = some (.slice (some ⟨gb, ob, none⟩) m.length rc) ∧ W.cell? ⟨gb, ob, none⟩ = some (.slice ai n ci)) from fun W h => ⟨h, (k0.below h k0.lt).cell 0, (k0.below h k0.lt).cell 1, (k0.below h k0.lt).cell 2, (k0.below h k0.lt).cell 3, (h.cell (p := ⟨gb, ob, none⟩) hgb).trans hr0⟩)
    clear hT hW hC hN hcc
    by_cases h0 : N.length = 0
    · have hbe : ((N.length : Int) == 0) = true := by rw [h0]; rfl
      rw [if_pos h0] at hRR
      have HRR := Lib.hid hRR
      clear h0 hRR
      have f0 := k0.cell 0
      have f1 := k0.cell 1
      have f2 := k0.cell 2
      have f3 := k0.cell 3
      go_enter Try.func39, Try.ntmps39
      go_upto_region 1 with fail
      rw [← HW.out]
      go_wp2_with fail
      refine (unhide HV).mono ?_
      rintro e w1 ⟨rfl, b1⟩
      have k1 := k0.below b1 k0.lt
      clear f0 f1 f2 f3
      have f0 := k1.cell 0
      have f1 := k1.cell 1
      have f2 := k1.cell 2
      have f3 := k1.cell 3
      have bb1 := b0.trans (b1.mono (Nat.le_of_lt sk0))
      go_upto_region 3 with fail
      go_region_held3 (fun W => Below W0.heap.size W0 W ∧ W.cell? ⟨w.heap.size, 0, none⟩ = some (.int .i64 F.p) ∧ W.cell? ⟨w.heap.size, 1, none⟩ = some (.int .i64 F.k) ∧ W.cell? ⟨w.heap.size, 2, none⟩ = some (.slice a F.poly.length c) ∧ W.cell? ⟨w.heap.size, 3, none⟩ = some (.slice (some ⟨gb, ob, none⟩) m.length rc) ∧ W.cell? ⟨gb, ob, none⟩ = some (.slice ai n ci))
        (first | exact (unhide BX) _ b1.drew | exact (unhide BX) _ (by assumption))
        (first
          | (go_at_call 59; refine (unhide HT _ ?_).mono ?_; exact And.left (by assumption); rintro e w2 ⟨tv, rfl, t2, b2⟩; have hB2 := Below.chain (a := W0) (And.left (by assumption)) b2)
          | (go_at_call 75; refine (unhide HWW tv _ hB2 t2).mono ?_; rintro e w3 ⟨u, rfl, o3, b3⟩; obtain ⟨ax, cx, rfl, r2⟩ := o3.form; have hB3 := Below.chain hB2 b3))
      all_goals have bb2 := b0.trans (hB3.mono (Nat.le_of_lt sk0))
      all_goals
        go_wp2
        go_ret2
        rw [HRR.out]
        exact ⟨_, rfl, OwnS.nil _ _, bb2⟩
    · have hbe : ((N.length : Int) == 0) = false := by rw [beq_eq_false_iff_ne]; omega
      rw [if_neg h0] at hRR
      have HRR := Lib.hid hRR
      clear h0 hRR
      have f0 := k0.cell 0
      have f1 := k0.cell 1
      have f2 := k0.cell 2
      have f3 := k0.cell 3
      go_enter Try.func39, Try.ntmps39
      go_upto_region 1 with fail
      rw [← HW.out]
      go_wp2_with fail
      refine (unhide HV).mono ?_
      rintro e w1 ⟨rfl, b1⟩
      have k1 := k0.below b1 k0.lt
      clear f0 f1 f2 f3
      have f0 := k1.cell 0
      have f1 := k1.cell 1
      have f2 := k1.cell 2
      have f3 := k1.cell 3
      have bb1 := b0.trans (b1.mono (Nat.le_of_lt sk0))
      go_upto_region 3 with fail
      go_region_held3 (fun W => Below W0.heap.size W0 W ∧ W.cell? ⟨w.heap.size, 0, none⟩ = some (.int .i64 F.p) ∧ W.cell? ⟨w.heap.size, 1, none⟩ = some (.int .i64 F.k) ∧ W.cell? ⟨w.heap.size, 2, none⟩ = some (.slice a F.poly.length c) ∧ W.cell? ⟨w.heap.size, 3, none⟩ = some (.slice (some ⟨gb, ob, none⟩) m.length rc) ∧ W.cell? ⟨gb, ob, none⟩ = some (.slice ai n ci))
        (first | exact (unhide BX) _ b1.drew | exact (unhide BX) _ (by assumption))
        (first
          | (go_at_call 59; refine (unhide HT _ ?_).mono ?_; exact And.left (by assumption); rintro e w2 ⟨tv, rfl, t2, b2⟩; have hB2 := Below.chain (a := W0) (And.left (by assumption)) b2)
          | (go_at_call 75; refine (unhide HWW tv _ hB2 t2).mono ?_; rintro e w3 ⟨u, rfl, o3, b3⟩; obtain ⟨ax, cx, rfl, r2⟩ := o3.form; have hB3 := Below.chain hB2 b3))
      all_goals have bb2 := b0.trans (hB3.mono (Nat.le_of_lt sk0))
      all_goals
        have hcp := copyLists_any ax cx N w3 r2
        have HCP := hide hcp
        clear hcp
        go_wp2_with fail
        refine (unhide HCP).mono ?_
        rintro e w4 ⟨v3, rfl, o4, b4⟩
        go_wp2
        go_ret2
        rw [HRR.out]
        exact ⟨_, rfl, o4.mono bb2.size, bb2.trans (b4.mono bb2.size)⟩
end Go.Proofs.Ytbocaiicbephgaa

