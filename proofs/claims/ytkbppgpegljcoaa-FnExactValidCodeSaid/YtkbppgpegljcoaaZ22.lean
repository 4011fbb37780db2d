/-
  Walks: MakeCode, on both sides. Printed by gen_mkc.py.
-/
import Derived.BigQuiet
import Derived.BigRegion
import Derived.ChangeOld
import Derived.Deep.DeepCutAuto
import Derived.Deep.DeepMust
import Derived.Deep.DrawnRows
import Derived.Deep.Draws
import Derived.Deep.OwnRows
import Derived.Deep.QuietTactic
import Derived.Deep.RegionHeld3
import Derived.Deep.Slices
import Derived.IntWalk
import Derived.Laws.Rows
import Derived.Lib.Hide
import Derived.Maps.AppendAt
import Derived.OpenShut
import Derived.OwnWalk
import Derived.ProofKit
import Derived.ShutString
import Derived.StillTailTactics
import Derived.Test.YtkbppgpegljcoaaProg
import Derived.Test.YtkbppgpegljcoaaRows
import Derived.WalkKit
import Derived.WalkLawsBesides
import Derived.WalkSpells
import Derived.Test.YtkbppgpegljcoaaZ14
import Derived.Test.YtkbppgpegljcoaaZ21
set_option linter.unusedVariables false
set_option linter.unusedSimpArgs false
namespace Go.Proofs.Ytkbppgpegljcoaa
open Go.RowKit
attribute [local go_sem ↓] Go.wp_at_zero Go.wp_at_succ

def fdR (p d : Int) (xs : List Int) : FD := ⟨p, d.toNat, xs⟩
theorem fdR_eq (F : FD) : fdR F.p F.k F.poly = F := by cases F; simp [fdR]
def mkRes (p d : Int) (xs : List Int) (m : List (List Int)) : Int × Int × List Int × List (List Int) × Int :=
  if okM p d xs m = true then mkC (fdR p d xs) (form (fdR p d xs) m (nthL m 0).length) else (0, 0, [], [], 1)
set_option maxRecDepth 100000 in
set_option maxHeartbeats 1600000 in
theorem specMC_any (p d : Int) (a : Option Addr) (c : Nat) (xs : List Int) (ra : Option Addr) (rc : Nat) (m : List (List Int)) (w : World) (hx : Rd w a xs) (hm : RdS w ra m) : Calls Try.prog 36 #[.agg #[.int .i64 p, .int .i64 d, .slice a xs.length c], .slice ra m.length rc] w (SpC w w.heap.size (mkRes p d xs m)) := by
  have hml := hm.len
  obtain ⟨W0, hW0⟩ : ∃ z, z = (w.alloc (.cells #[.int .i64 p, .int .i64 d, .slice a xs.length c] 41)).alloc (.cells #[.int .i64 0, .int .i64 0, .slice none 0 0, .slice none 0 0] 43) := ⟨_, rfl⟩
  have b0 : Below w.heap.size w W0 := by rw [hW0]; exact ((Below.refl _ _).alloc (Nat.le_refl _) _).alloc (by simp) _
  have kF : Blk W0 w.heap.size 41 #[.int .i64 p, .int .i64 d, .slice a xs.length c] := by rw [hW0]; exact (Blk.new _ _ _ rfl).alloc _
  have k0 : Blk W0 (w.heap.size + 1) 43 #[.int .i64 0, .int .i64 0, .slice none 0 0, .slice none 0 0] := by rw [hW0]; exact Blk.new _ _ _ (by simp)
  have s0 : w.heap.size + 1 < W0.heap.size := k0.lt
  have HW := Lib.hid hW0
  have hx0 := hx.below b0
  have hm0 := hm.below b0
  unfold mkRes
  obtain ⟨k1, hk1⟩ : ∃ k1, k1 = okM p d xs m := ⟨_, rfl⟩
  rw [← hk1]
  have hP : PR W0 w.heap.size p d a c xs := ⟨kF.cell 0, kF.cell 1, kF.cell 2, hx0⟩
  have hV := l17Ok_any w.heap.size p d a c xs ra rc m W0 hP hm0
  rw [← hk1] at hV
  have HV := hide hV
  clear hV hW0
  cases k1 with
  | false =>
    clear hk1
    rw [if_neg (by simp)]
    go_enter Try.func36, Try.ntmps36
    go_wp2_with fail
    rw [← HW.out]
    refine (unhide HV).mono ?_
    rintro e w1 ⟨rfl, b1⟩
    have hb1 := b0.trans (b1.mono (by omega))
    have k1 := k0.below b1 k0.lt
    have z1 := b1.size
    have f0 := k1.cell 0
    have f1 := k1.cell 1
    have f2 := k1.cell 2
    have f3 := k1.cell 3
    have g0 := k1.frozen 0
    have g1 := k1.frozen 1
    have g2 := k1.frozen 2
    have g3 := k1.frozen 3
    go_wp2
    refine bodyPost_ret (results_cell_tmp_row rfl _ _ (w.heap.size + 1) 43 #[.int .i64 0, .int .i64 0, .slice none 0 0, .slice none 0 0] _ rfl (k1.b4.store _ _ _ _) Try.underlying43 rfl (by kernel_rfl)) rfl ?_
    exact ⟨_, _, rfl, Own.nil _ _, OwnS.nil _ _, Below.set4 hb1 (by omega) _ _ _ _⟩
  | true =>
    rw [if_pos rfl]
    obtain ⟨F, hG, rfl, rfl, rfl, hm1, hm32, hn1, hn32, hM⟩ := okM_true hk1.symm
    rw [fdR_eq]
    have ok := hG.ok
    obtain ⟨n, hn⟩ : ∃ n, n = (nthL m 0).length := ⟨_, rfl⟩
    rw [← hn] at hn1 hn32 hM ⊢
    clear hk1 hn
    go_enter Try.func36, Try.ntmps36
    go_wp2_with fail
    rw [← HW.out]
    refine (unhide HV).mono ?_
    rintro e w1 ⟨rfl, b1⟩
    have hb1 := b0.trans (b1.mono (by omega))
    have k1 := k0.below b1 k0.lt
    have z1 := b1.size
    have hF1 : PF w1 w.heap.size F := (hP.below b1).pf
    have hFm := l17Form_any w.heap.size F ra rc m n w1 hF1 hG (hm0.below b1) (by omega) hM
    have HFM := hide hFm
    clear hFm
    go_wp2_with fail
    refine (unhide HFM).mono ?_
    rintro e w3 ⟨v3, rfl, o3, b3⟩
    obtain ⟨fm, hfm⟩ : ∃ fm, fm = form F m n := ⟨_, rfl⟩
    rw [← hfm] at o3
    obtain ⟨a3, c3, rfl, r3⟩ := o3.form
    have hF3 := hF1.below b3
    have z3 := b3.size
    have hMk := l18Make_any w1.heap.size w.heap.size F a3 c3 fm w3 hF3 ok o3 z3
    have HMK := hide hMk
    have HFE := Lib.hid hfm
    clear hMk hfm
    go_wp2_with fail
    refine (unhide HMK).mono ?_
    rintro e w4 ⟨v4, u4, rfl, o4, q4, b4⟩
    obtain ⟨rr, hrr⟩ : ∃ rr, rr = mkC F fm := ⟨_, rfl⟩
    rw [← hrr] at o4 q4 ⊢
    obtain ⟨rp, rd, rx, ry, rz⟩ := rr
    simp only [] at o4 q4 ⊢
    obtain ⟨a4, c4, rfl, _, _⟩ := o4.form
    obtain ⟨p4, d4, rfl, _⟩ := q4.form
    have z4 := b4.size
    have HRR := Lib.hid hrr
    have hb4 := hb1.trans ((b3.trans (b4.mono z3)).mono (by omega))
    have k4 := (k1.below b3 k1.lt).below b4 (by have := k1.lt; omega)
    have f0 := k4.cell 0
    have f1 := k4.cell 1
    have f2 := k4.cell 2
    have f3 := k4.cell 3
    have g0 := k4.frozen 0
    have g1 := k4.frozen 1
    have g2 := k4.frozen 2
    have g3 := k4.frozen 3
    clear hrr
    go_wp2
    have p3 : w.heap.size + 1 < w1.heap.size := by omega
    refine bodyPost_ret (results_cell_tmp_row rfl _ _ (w.heap.size + 1) 43 #[.int .i64 rp, .int .i64 rd, .slice a4 rx.length c4, .slice p4 ry.length d4] _ rfl (k4.b4.store _ _ _ _) Try.underlying43 rfl (by kernel_rfl)) rfl ?_
    show SpC w w.heap.size (mkC F (form F m n)) _ _
    rw [← HFE.out, ← HRR.out]
    refine ⟨_, _, rfl, ?_, ?_, Below.set4 hb4 (by omega) _ _ _ _⟩
    · exact ((((o4.storeBelow p3 _).storeBelow p3 _).storeBelow p3 _).storeBelow p3 _).mono (by omega)
    · exact ((((q4.storeBelow p3 _).storeBelow p3 _).storeBelow p3 _).storeBelow p3 _).mono (by omega)
set_option maxRecDepth 100000 in
set_option maxHeartbeats 1600000 in
theorem implMC_any (p d : Int) (a : Option Addr) (c : Nat) (xs : List Int) (ra : Option Addr) (rc : Nat) (m : List (List Int)) (w : World) (hx : Rd w a xs) (hm : RdS w ra m) (ed : I64 d) : Calls Try.prog 39 #[.agg #[.int .i64 p, .int .i64 d, .slice a xs.length c], .slice ra m.length rc] w (ResC w (mkRes p d xs m)) := by
  have hml := hm.len
  obtain ⟨W0, hW0⟩ : ∃ z, z = (w.alloc (.cells #[.int .i64 p, .int .i64 d, .slice a xs.length c] 41)).alloc (.cells #[.int .i64 0, .int .i64 0, .slice none 0 0, .slice none 0 0] 43) := ⟨_, rfl⟩
  have b0 : Below w.heap.size w W0 := by rw [hW0]; exact ((Below.refl _ _).alloc (Nat.le_refl _) _).alloc (by simp) _
  have kF : Blk W0 w.heap.size 41 #[.int .i64 p, .int .i64 d, .slice a xs.length c] := by rw [hW0]; exact (Blk.new _ _ _ rfl).alloc _
  have k0 : Blk W0 (w.heap.size + 1) 43 #[.int .i64 0, .int .i64 0, .slice none 0 0, .slice none 0 0] := by rw [hW0]; exact Blk.new _ _ _ (by simp)
  have s0 : w.heap.size + 1 < W0.heap.size := k0.lt
  have HW := Lib.hid hW0
  have hx0 := hx.below b0
  have hm0 := hm.below b0
  unfold mkRes
  obtain ⟨k1, hk1⟩ : ∃ k1, k1 = okM p d xs m := ⟨_, rfl⟩
  rw [← hk1]
  have hV := validMatrix_any p d a c xs ra rc m W0 hx0 hm0 ed
  rw [← hk1] at hV
  have HV := hide hV
  clear hV hW0
  cases k1 with
  | false =>
    clear hk1
    rw [if_neg (by simp)]
    go_enter Try.func39, Try.ntmps39
    go_wp2_with fail
    rw [← HW.out]
    refine (unhide HV).mono ?_
    rintro e w1 ⟨rfl, b1⟩
    have hb1 := b0.trans (b1.mono (by omega))
    have k1 := k0.below b1 k0.lt
    have z1 := b1.size
    have f0 := k1.cell 0
    have f1 := k1.cell 1
    have f2 := k1.cell 2
    have f3 := k1.cell 3
    have g0 := k1.frozen 0
    have g1 := k1.frozen 1
    have g2 := k1.frozen 2
    have g3 := k1.frozen 3
    go_wp2
    refine bodyPost_ret (results_cell_tmp_row rfl _ _ (w.heap.size + 1) 43 #[.int .i64 0, .int .i64 0, .slice none 0 0, .slice none 0 0] _ rfl (k1.b4.store _ _ _ _) Try.underlying43 rfl (by kernel_rfl)) rfl ?_
    exact ⟨_, _, rfl, OwnC.nil _ _, Below.set4 hb1 (by omega) _ _ _ _⟩
  | true =>
    rw [if_pos rfl]
    obtain ⟨F, hG, rfl, rfl, rfl, hm1, hm32, hn1, hn32, hM⟩ := okM_true hk1.symm
    rw [fdR_eq]
    have ok := hG.ok
    obtain ⟨n, hn⟩ : ∃ n, n = (nthL m 0).length := ⟨_, rfl⟩
    rw [← hn] at hn1 hn32 hM ⊢
    clear hk1 hn
    go_enter Try.func39, Try.ntmps39
    go_wp2_with fail
    rw [← HW.out]
    refine (unhide HV).mono ?_
    rintro e w1 ⟨rfl, b1⟩
    have hb1 := b0.trans (b1.mono (by omega))
    have k1 := k0.below b1 k0.lt
    have z1 := b1.size
    have hR1 := hx0.below b1
    have hCo := codeOf_any F a c ra rc m n w1 hR1 hG (hm0.below b1) (by omega) hM
    have HCO := hide hCo
    have kF1 := kF.below b1 kF.lt
    have e0 := kF1.cell 0
    have e1 := kF1.cell 1
    have e2 := kF1.cell 2
    clear hCo
    go_wp2_with fail
    refine (unhide HCO).mono ?_
    rintro e w4 ⟨v4, u4, rfl, o4, b4⟩
    clear e0 e1 e2
    obtain ⟨rr, hrr⟩ : ∃ rr, rr = mkC F (form F m n) := ⟨_, rfl⟩
    rw [← hrr] at o4 ⊢
    obtain ⟨rp, rd, rx, ry, rz⟩ := rr
    simp only [] at o4 ⊢
    obtain ⟨a4, c4, p4, d4, rfl, rfl, _, _⟩ := o4.form
    have z4 := b4.size
    have HRR := Lib.hid hrr
    have hb4 := hb1.trans (b4.mono (by omega))
    have k4 := k1.below b4 k1.lt
    have f0 := k4.cell 0
    have f1 := k4.cell 1
    have f2 := k4.cell 2
    have f3 := k4.cell 3
    have g0 := k4.frozen 0
    have g1 := k4.frozen 1
    have g2 := k4.frozen 2
    have g3 := k4.frozen 3
    clear hrr
    go_wp2
    have p3 : w.heap.size + 1 < w1.heap.size := by omega
    refine bodyPost_ret (results_cell_tmp_row rfl _ _ (w.heap.size + 1) 43 #[.int .i64 rp, .int .i64 rd, .slice a4 rx.length c4, .slice p4 ry.length d4] _ rfl (k4.b4.store _ _ _ _) Try.underlying43 rfl (by kernel_rfl)) rfl ?_
    show ResC w (mkC F (form F m n)) _ _
    rw [← HRR.out]
    refine ⟨_, _, rfl, ?_, Below.set4 hb4 (by omega) _ _ _ _⟩
    exact ((((o4.storeBelow p3 _).storeBelow p3 _).storeBelow p3 _).storeBelow p3 _).mono (by omega)
end Go.Proofs.Ytkbppgpegljcoaa

