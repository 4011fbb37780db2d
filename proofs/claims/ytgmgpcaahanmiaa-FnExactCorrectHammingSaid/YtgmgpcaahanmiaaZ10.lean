/-
  Walks: Reed-Solomon codes, on both sides. Printed by gen_rs.py.
-/
import Derived.BigQuiet
import Derived.ChangeOld
import Derived.Deep.DeepCutAuto
import Derived.Deep.DeepMust
import Derived.Deep.DrawnRows
import Derived.Deep.Draws
import Derived.Deep.OwnRows
import Derived.Deep.QuietTactic
import Derived.Deep.RegionHeld3
import Derived.Deep.Slices
import Derived.IntWalk
import Derived.Laws.Rows
import Derived.Lib.Hide
import Derived.Maps.AppendAt
import Derived.OpenShut
import Derived.ProofKit
import Derived.ShutString
import Derived.StillTailTactics
import Derived.Test.YtgmgpcaahanmiaaProg
import Derived.Test.YtgmgpcaahanmiaaRows
import Derived.WalkKit
import Derived.WalkLawsBesides
import Derived.WalkSpells
import Derived.Test.YtgmgpcaahanmiaaZ7
import Derived.Test.YtgmgpcaahanmiaaZ8
import Derived.Test.YtgmgpcaahanmiaaZ9
set_option linter.unusedVariables false
set_option linter.unusedSimpArgs false
namespace Go.Proofs.Ytgmgpcaahanmiaa
open Go.RowKit
attribute [local go_sem ↓] Go.wp_at_zero Go.wp_at_succ

/-- The code of the call for the parameters of a Reed-Solomon code. -/
def rsCode (q k n : Int) : Int := if lenOk q n = true then (if inB k 1 n = true then (if 8 < k then 5 else if 4096 < capTo q 4096 k.toNat then 5 else 0) else 2) else 2
/-- What polynomialCode makes: a field where the code of the call is 0. -/
def PolC (w : World) (F : FD) (c : Int) (e : Ending) (w' : World) : Prop :=
  ∃ v, e = .returned (.tuple #[.agg #[.int .i64 (if c = 0 then F.p else 0), .int .i64 (if c = 0 then (F.k : Int) else 0), v], .int .i64 c]) ∧ Own w' w.heap.size v (if c = 0 then F.poly else []) ∧ Below w.heap.size w w'
set_option maxRecDepth 100000 in
set_option maxHeartbeats 1600000 in
theorem polynomialCode_any (q k n : Int) (w : World) (e0 : I64 k) : Calls Try.prog 106 #[.int .i64 q, .int .i64 k, .int .i64 n] w (PolC w (fdOf q) (rsCode q k n)) := by
  obtain ⟨W0, hW0⟩ : ∃ W0, W0 = w.alloc (.cells #[.int .i64 0, .int .i64 0, .slice none 0 0] 34) := ⟨_, rfl⟩
  have b0 : Below w.heap.size w W0 := by rw [hW0]; exact (Below.refl _ _).alloc (Nat.le_refl _) _
  have k0 : Blk W0 w.heap.size 34 #[.int .i64 0, .int .i64 0, .slice none 0 0] := by rw [hW0]; exact Blk.new _ _ _ rfl
  have s0 : w.heap.size < W0.heap.size := k0.lt
  have HW := Lib.hid hW0
  have he0 := e0.2
  clear hW0
  unfold rsCode
  by_cases hf : isField q = true
  · have hM := implMake_any q W0 hf
    obtain ⟨h2, h64, _⟩ := isField_size hf
    obtain ⟨ok, hq, _⟩ := fdOf_ok hf
    generalize fdOf q = F at hM ok hq ⊢
    have HM := hide hM
    have HQ := Lib.hid hq
    have hp2 := ok.p2
    have hW := fun W => isWordLength_any q n W (by omega) h64
    clear hM hq
    by_cases hn : inB n 1 (min q 32) = true
    · rw [if_pos (show lenOk q n = true by rw [lenOk, hf, hn]; rfl)]
      rw [hn] at hW
      have HWL := hide hW
      have hI := fun W => within_any k 1 n W
      have hn2 := inB_true.1 hn
      clear hW hn hf
      by_cases hk : inB k 1 n = true
      · rw [if_pos hk]
        obtain ⟨hk1, hkn⟩ := inB_true.1 hk
        rw [hk] at hI
        have HI := hide hI
        clear hI hk
        by_cases h8 : 8 < k
        · rw [if_pos h8]
          go_enter Try.func106, Try.ntmps106
          go_wp2_with fail
          rw [← HW.out]
          refine (unhide HM).mono ?_
          rintro e w1 ⟨v, rfl, o1, b1⟩
          obtain ⟨a1, c1, rfl, r1, _⟩ := o1.form
          obtain ⟨W1, hP⟩ : ∃ W1, W1 = w1.alloc (.cells #[.int .i64 F.p, .int .i64 F.k, .slice a1 F.poly.length c1] 34) := ⟨_, rfl⟩
          have bw : Below w1.heap.size w1 W1 := by rw [hP]; exact (Below.refl _ _).alloc (Nat.le_refl _) _
          have kB : Blk W1 w1.heap.size 34 #[.int .i64 F.p, .int .i64 F.k, .slice a1 F.poly.length c1] := by rw [hP]; exact Blk.new _ _ _ rfl
          have b1' := Below.chain b1 bw
          have hb1 := b0.trans (b1'.mono (Nat.le_of_lt s0))
          have k1 := k0.below b1' k0.lt
          have o1' := o1.below bw (Nat.le_refl _)
          have HP := Lib.hid hP
          clear hP
          go_wp2_with fail
          rw [← HP.out]
          refine (unhide HWL _).mono ?_
          rintro e w2 ⟨rfl, rfl⟩
          go_wp2_with fail
          refine (unhide HI _).mono ?_
          rintro e w2 ⟨rfl, rfl⟩
          have f0 := k1.cell 0
          have f1 := k1.cell 1
          have f2 := k1.cell 2
          have g0 := k1.frozen 0
          have g1 := k1.frozen 1
          have g2 := k1.frozen 2
          go_wp2
          refine bodyPost_ret (results_cell_tmp_row rfl _ _ w.heap.size 34 #[.int .i64 0, .int .i64 0, .slice none 0 0] _ rfl (k1.b3.store _ _ _) Try.underlying34 rfl (by kernel_rfl)) rfl ⟨_, rfl, Own.nil _ _, Below.set3 hb1 (Nat.le_refl _) _ _ _⟩
        · rw [if_neg h8]
          have hU := fun W => powerUpTo_any q k 4096 W (by omega) (by omega) (by omega) (by omega) (by omega)
          have HU := hide hU
          clear hU
          by_cases hc : 4096 < capTo q 4096 k.toNat
          · rw [if_pos hc]
            go_enter Try.func106, Try.ntmps106
            go_wp2_with fail
            rw [← HW.out]
            refine (unhide HM).mono ?_
            rintro e w1 ⟨v, rfl, o1, b1⟩
            obtain ⟨a1, c1, rfl, r1, _⟩ := o1.form
            obtain ⟨W1, hP⟩ : ∃ W1, W1 = w1.alloc (.cells #[.int .i64 F.p, .int .i64 F.k, .slice a1 F.poly.length c1] 34) := ⟨_, rfl⟩
            have bw : Below w1.heap.size w1 W1 := by rw [hP]; exact (Below.refl _ _).alloc (Nat.le_refl _) _
            have kB : Blk W1 w1.heap.size 34 #[.int .i64 F.p, .int .i64 F.k, .slice a1 F.poly.length c1] := by rw [hP]; exact Blk.new _ _ _ rfl
            have b1' := Below.chain b1 bw
            have hb1 := b0.trans (b1'.mono (Nat.le_of_lt s0))
            have k1 := k0.below b1' k0.lt
            have o1' := o1.below bw (Nat.le_refl _)
            have HP := Lib.hid hP
            clear hP
            go_wp2_with fail
            rw [← HP.out]
            refine (unhide HWL _).mono ?_
            rintro e w2 ⟨rfl, rfl⟩
            go_wp2_with fail
            refine (unhide HI _).mono ?_
            rintro e w2 ⟨rfl, rfl⟩
            go_wp2_with fail
            refine (unhide HU _).mono ?_
            rintro e w2 ⟨rfl, rfl⟩
            have f0 := k1.cell 0
            have f1 := k1.cell 1
            have f2 := k1.cell 2
            have g0 := k1.frozen 0
            have g1 := k1.frozen 1
            have g2 := k1.frozen 2
            go_wp2
            refine bodyPost_ret (results_cell_tmp_row rfl _ _ w.heap.size 34 #[.int .i64 0, .int .i64 0, .slice none 0 0] _ rfl (k1.b3.store _ _ _) Try.underlying34 rfl (by kernel_rfl)) rfl ⟨_, rfl, Own.nil _ _, Below.set3 hb1 (Nat.le_refl _) _ _ _⟩
          · rw [if_neg hc]
            have hc' : ¬ 4096 < capTo q 4096 k.toNat := hc
            go_enter Try.func106, Try.ntmps106
            go_wp2_with fail
            rw [← HW.out]
            refine (unhide HM).mono ?_
            rintro e w1 ⟨v, rfl, o1, b1⟩
            obtain ⟨a1, c1, rfl, r1, _⟩ := o1.form
            obtain ⟨W1, hP⟩ : ∃ W1, W1 = w1.alloc (.cells #[.int .i64 F.p, .int .i64 F.k, .slice a1 F.poly.length c1] 34) := ⟨_, rfl⟩
            have bw : Below w1.heap.size w1 W1 := by rw [hP]; exact (Below.refl _ _).alloc (Nat.le_refl _) _
            have kB : Blk W1 w1.heap.size 34 #[.int .i64 F.p, .int .i64 F.k, .slice a1 F.poly.length c1] := by rw [hP]; exact Blk.new _ _ _ rfl
            have b1' := Below.chain b1 bw
            have hb1 := b0.trans (b1'.mono (Nat.le_of_lt s0))
            have k1 := k0.below b1' k0.lt
            have o1' := o1.below bw (Nat.le_refl _)
            have HP := Lib.hid hP
            clear hP
            go_wp2_with fail
            rw [← HP.out]
            refine (unhide HWL _).mono ?_
            rintro e w2 ⟨rfl, rfl⟩
            go_wp2_with fail
            refine (unhide HI _).mono ?_
            rintro e w2 ⟨rfl, rfl⟩
            go_wp2_with fail
            refine (unhide HU _).mono ?_
            rintro e w2 ⟨rfl, rfl⟩
            have f0 := k1.cell 0
            have f1 := k1.cell 1
            have f2 := k1.cell 2
            have g0 := k1.frozen 0
            have g1 := k1.frozen 1
            have g2 := k1.frozen 2
            have e0 := kB.cell 0
            have e1 := kB.cell 1
            have e2 := kB.cell 2
            have q0 := kB.frozen 0
            have q1 := kB.frozen 1
            have q2 := kB.frozen 2
            go_wp2
            refine bodyPost_ret (results_cell_tmp_row rfl _ _ w.heap.size 34 #[.int .i64 F.p, .int .i64 F.k, .slice a1 F.poly.length c1] _ rfl (k1.b3.store _ _ _) Try.underlying34 rfl (by kernel_rfl)) rfl ⟨_, rfl, ?_, Below.set3 hb1 (Nat.le_refl _) _ _ _⟩
            exact (((o1'.storeBelow s0 _).storeBelow s0 _).storeBelow s0 _).mono (Nat.le_of_lt s0)
      · rw [if_neg hk]
        have hk' : inB k 1 n = false := by simpa using hk
        rw [hk'] at hI
        have HI := hide hI
        clear hI hk hk'
        go_enter Try.func106, Try.ntmps106
        go_wp2_with fail
        rw [← HW.out]
        refine (unhide HM).mono ?_
        rintro e w1 ⟨v, rfl, o1, b1⟩
        obtain ⟨a1, c1, rfl, r1, _⟩ := o1.form
        obtain ⟨W1, hP⟩ : ∃ W1, W1 = w1.alloc (.cells #[.int .i64 F.p, .int .i64 F.k, .slice a1 F.poly.length c1] 34) := ⟨_, rfl⟩
        have bw : Below w1.heap.size w1 W1 := by rw [hP]; exact (Below.refl _ _).alloc (Nat.le_refl _) _
        have kB : Blk W1 w1.heap.size 34 #[.int .i64 F.p, .int .i64 F.k, .slice a1 F.poly.length c1] := by rw [hP]; exact Blk.new _ _ _ rfl
        have b1' := Below.chain b1 bw
        have hb1 := b0.trans (b1'.mono (Nat.le_of_lt s0))
        have k1 := k0.below b1' k0.lt
        have o1' := o1.below bw (Nat.le_refl _)
        have HP := Lib.hid hP
        clear hP
        go_wp2_with fail
        rw [← HP.out]
        refine (unhide HWL _).mono ?_
        rintro e w2 ⟨rfl, rfl⟩
        go_wp2_with fail
        refine (unhide HI _).mono ?_
        rintro e w2 ⟨rfl, rfl⟩
        have f0 := k1.cell 0
        have f1 := k1.cell 1
        have f2 := k1.cell 2
        have g0 := k1.frozen 0
        have g1 := k1.frozen 1
        have g2 := k1.frozen 2
        go_wp2
        refine bodyPost_ret (results_cell_tmp_row rfl _ _ w.heap.size 34 #[.int .i64 0, .int .i64 0, .slice none 0 0] _ rfl (k1.b3.store _ _ _) Try.underlying34 rfl (by kernel_rfl)) rfl ⟨_, rfl, Own.nil _ _, Below.set3 hb1 (Nat.le_refl _) _ _ _⟩
    · have hn' : inB n 1 (min q 32) = false := by simpa using hn
      rw [if_neg (show ¬ lenOk q n = true by rw [lenOk, hn']; simp)]
      rw [hn'] at hW
      have HWL := hide hW
      clear hW hn hn'
      go_enter Try.func106, Try.ntmps106
      go_wp2_with fail
      rw [← HW.out]
      refine (unhide HM).mono ?_
      rintro e w1 ⟨v, rfl, o1, b1⟩
      obtain ⟨a1, c1, rfl, r1, _⟩ := o1.form
      obtain ⟨W1, hP⟩ : ∃ W1, W1 = w1.alloc (.cells #[.int .i64 F.p, .int .i64 F.k, .slice a1 F.poly.length c1] 34) := ⟨_, rfl⟩
      have bw : Below w1.heap.size w1 W1 := by rw [hP]; exact (Below.refl _ _).alloc (Nat.le_refl _) _
      have kB : Blk W1 w1.heap.size 34 #[.int .i64 F.p, .int .i64 F.k, .slice a1 F.poly.length c1] := by rw [hP]; exact Blk.new _ _ _ rfl
      have b1' := Below.chain b1 bw
      have hb1 := b0.trans (b1'.mono (Nat.le_of_lt s0))
      have k1 := k0.below b1' k0.lt
      have o1' := o1.below bw (Nat.le_refl _)
      have HP := Lib.hid hP
      clear hP
      go_wp2_with fail
      rw [← HP.out]
      refine (unhide HWL _).mono ?_
      rintro e w2 ⟨rfl, rfl⟩
      have f0 := k1.cell 0
      have f1 := k1.cell 1
      have f2 := k1.cell 2
      have g0 := k1.frozen 0
      have g1 := k1.frozen 1
      have g2 := k1.frozen 2
      go_wp2
      refine bodyPost_ret (results_cell_tmp_row rfl _ _ w.heap.size 34 #[.int .i64 0, .int .i64 0, .slice none 0 0] _ rfl (k1.b3.store _ _ _) Try.underlying34 rfl (by kernel_rfl)) rfl ⟨_, rfl, Own.nil _ _, Below.set3 hb1 (Nat.le_refl _) _ _ _⟩
  · have hf' : isField q = false := by simpa using hf
    rw [if_neg (show ¬ lenOk q n = true by rw [lenOk, hf']; simp)]
    have hM := MakeField_no q W0 hf'
    have HM := hide hM
    clear hM hf hf'
    go_enter Try.func106, Try.ntmps106
    go_wp2_with fail
    rw [← HW.out]
    refine (unhide HM).mono ?_
    rintro e w1 ⟨v, rfl, o1, b1⟩
    obtain ⟨a1, c1, rfl, r1, _⟩ := o1.form
    obtain ⟨W1, hP⟩ : ∃ W1, W1 = w1.alloc (.cells #[.int .i64 0, .int .i64 0, .slice a1 0 c1] 34) := ⟨_, rfl⟩
    have bw : Below w1.heap.size w1 W1 := by rw [hP]; exact (Below.refl _ _).alloc (Nat.le_refl _) _
    have kB : Blk W1 w1.heap.size 34 #[.int .i64 0, .int .i64 0, .slice a1 0 c1] := by rw [hP]; exact Blk.new _ _ _ rfl
    have b1' := Below.chain b1 bw
    have hb1 := b0.trans (b1'.mono (Nat.le_of_lt s0))
    have k1 := k0.below b1' k0.lt
    have o1' := o1.below bw (Nat.le_refl _)
    have HP := Lib.hid hP
    clear hP
    go_upto_region 2 with fail
    rw [← HP.out]
    have f0 := k1.cell 0
    have f1 := k1.cell 1
    have f2 := k1.cell 2
    have g0 := k1.frozen 0
    have g1 := k1.frozen 1
    have g2 := k1.frozen 2
    go_wp2
    refine bodyPost_ret (results_cell_tmp_row rfl _ _ w.heap.size 34 #[.int .i64 0, .int .i64 0, .slice none 0 0] _ rfl (k1.b3.store _ _ _) Try.underlying34 rfl (by kernel_rfl)) rfl ⟨_, rfl, Own.nil _ _, Below.set3 hb1 (Nat.le_refl _) _ _ _⟩
end Go.Proofs.Ytgmgpcaahanmiaa

