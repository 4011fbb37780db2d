/-
  Walks: codeOf at any list; DualCode on both sides. Printed by gen_cw4.py.
-/
import Derived.BigQuiet
import Derived.BigRegion
import Derived.ChangeOld
import Derived.Deep.DeepCutAuto
import Derived.Deep.DeepMust
import Derived.Deep.DrawnRows
import Derived.Deep.Draws
import Derived.Deep.OwnRows
import Derived.Deep.QuietTactic
import Derived.Deep.RegionHeld3
import Derived.Deep.Slices
import Derived.IntWalk
import Derived.Laws.Rows
import Derived.Lib.Hide
import Derived.Maps.AppendAt
import Derived.OpenShut
import Derived.OwnWalk
import Derived.ProofKit
import Derived.ShutString
import Derived.StillTailTactics
import Derived.Test.YtcblhjhabhjbkaaProg
import Derived.Test.YtcblhjhabhjbkaaRows
import Derived.WalkKit
import Derived.WalkLawsBesides
import Derived.WalkSpells
import Derived.Test.YtcblhjhabhjbkaaZ14
import Derived.Test.YtcblhjhabhjbkaaZ24
import Derived.Test.YtcblhjhabhjbkaaZ30
import Derived.Test.YtcblhjhabhjbkaaZ35
import Derived.Test.YtcblhjhabhjbkaaZ37
set_option linter.unusedVariables false
set_option linter.unusedSimpArgs false
namespace Go.Proofs.Ytcblhjhabhjbkaa
open Go.RowKit
attribute [local go_sem ↓] Go.wp_at_zero Go.wp_at_succ
set_option maxRecDepth 100000 in
set_option maxHeartbeats 1600000 in
theorem codeOf_all (F : FD) (ap : Option Addr) (cp : Nat) (ra : Option Addr) (rc : Nat) (xss : List (List Int)) (n : Nat) (w : World) (hR : Rd w ap F.poly) (hG : F.Good) (hx : RdS w ra xss) (hM : F.Mat n xss) :
    Calls Try.prog 51 #[.agg #[.int .i64 F.p, .int .i64 F.k, .slice ap F.poly.length cp], .slice ra xss.length rc] w (ResC w (mkC F (form F xss n))) := by
  by_cases h0 : 0 < xss.length
  · exact codeOf_any F ap cp ra rc xss n w hR hG hx h0 hM
  · have hx0 : xss = [] := List.eq_nil_of_length_eq_zero (by omega)
    subst hx0
    have ok := hG.ok
    have HM := Lib.hid (show mkC F (form F [] n) = (0, 0, [], [], 6) by rw [form_nil]; rfl)
    obtain ⟨W0, hW0⟩ : ∃ W0, W0 = (w.alloc (.cells #[.int .i64 F.p, .int .i64 F.k, .slice ap F.poly.length cp] 29)).alloc (.cells #[.int .i64 0, .int .i64 0, .slice none 0 0, .slice none 0 0] 31) := ⟨_, rfl⟩
    have b0 : Below w.heap.size w W0 := by rw [hW0]; exact ((Below.refl _ _).alloc (Nat.le_refl _) _).alloc (by simp) _
    have kF : Blk W0 w.heap.size 29 #[.int .i64 F.p, .int .i64 F.k, .slice ap F.poly.length cp] := by rw [hW0]; exact (Blk.new _ _ _ rfl).alloc _
    have k0 : Blk W0 (w.heap.size + 1) 31 #[.int .i64 0, .int .i64 0, .slice none 0 0, .slice none 0 0] := by rw [hW0]; exact Blk.new _ _ _ (by simp)
    have s0 : w.heap.size + 1 < W0.heap.size := k0.lt
    have hT := tablesOf_any F ap cp W0 (hR.below b0) ok
    have HT := hide hT
    have HW := Lib.hid hW0
    have f0 := kF.cell 0
    have f1 := kF.cell 1
    have f2 := kF.cell 2
    clear hT hW0
    go_enter Try.func51, Try.ntmps51
    go_upto_region 1 with fail
    rw [← HW.out]
    go_wp2_with fail
    refine (unhide HT).mono ?_
    rintro e w1 ⟨tv, rfl, T1, b1⟩
    obtain ⟨aA, cA, aS, cS, aM, cM, aI, cI, rfl, _, _, _, _⟩ := T1
    have hb1 := b0.trans (b1.mono (by omega))
    have k1 := k0.below b1 k0.lt
    have z1 := b1.size
    clear f0 f1 f2
    go_wp2_with fail
    refine (reduce_nil F aA cA aS cS aM cM aI cI ra rc w1).mono ?_
    rintro e w2 ⟨v, u, dt, rfl, o2, _, b2⟩
    obtain ⟨ra2, rc2, rfl, _⟩ := o2.form
    have hb2 := hb1.trans (b2.mono (by omega))
    have k2 := k1.below b2 k1.lt
    have f0 := k2.cell 0
    have f1 := k2.cell 1
    have f2 := k2.cell 2
    have f3 := k2.cell 3
    have g0 := k2.frozen 0
    have g1 := k2.frozen 1
    have g2 := k2.frozen 2
    have g3 := k2.frozen 3
    go_wp2_with fail
    refine bodyPost_ret (results_cell_tmp_row rfl _ _ (w.heap.size + 1) 31 #[.int .i64 0, .int .i64 0, .slice none 0 0, .slice none 0 0] _ rfl (k2.b4.store _ _ _ _) Try.underlying31 rfl (by kernel_rfl)) rfl ?_
    rw [HM.out]
    exact ⟨_, _, rfl, OwnC.nil _ _, Below.set4 hb2 (by omega) _ _ _ _⟩
theorem nul_fix {F : FD} (hG : F.Good) {m : List (List Int)} {n : Nat} : form F (nul F m n) n = nul F m n := by
  have hM := nulTo_Mat hG.ok (form F m n) (red F m n).2 n n
  obtain ⟨pv, _, hE, _⟩ := form_ech hG hM
  exact (form_fix hG hE).1
def dualRes (p d : Int) (xs : List Int) (m : List (List Int)) : Int × Int × List Int × List (List Int) × Int := if okC p d xs m = true then mkC (fdR p d xs) (nul (fdR p d xs) m (nthL m 0).length) else (0, 0, [], [], 1)
end Go.Proofs.Ytcblhjhabhjbkaa

