/-
  Texts joined.
-/
import Derived.Test.YtpglmogoddgmoaaJC17
import Derived.Test.YtpglmogoddgmoaaJC19
import Derived.Test.YtpglmogoddgmoaaJC20
import Derived.Test.YtpglmogoddgmoaaJC21
set_option linter.unusedVariables false
set_option linter.unusedSimpArgs false
set_option maxRecDepth 100000
set_option maxHeartbeats 40000000
namespace Go.Proofs.Ytpglmogoddgmoaa
open Go.RowKit
attribute [local go_sem ↓] Go.wp_at_zero Go.wp_at_succ
theorem codeOf_all (F : FD) (ap : Option Addr) (cp : Nat) (ra : Option Addr) (rc : Nat) (xss : List (List Int)) (n : Nat) (w : World) (hR : Rd w ap F.poly) (hG : F.Good) (hx : RdS w ra xss) (hM : F.Mat n xss) :
    Calls Try.prog 92 #[.agg #[.int .i64 F.p, .int .i64 F.k, .slice ap F.poly.length cp], .slice ra xss.length rc] w (ResC w (mkC F (form F xss n))) := by
 by_cases h0 : 0 < xss.length
 · exact codeOf_any F ap cp ra rc xss n w hR hG hx h0 hM
 · have hx0 : xss = [] := List.eq_nil_of_length_eq_zero (by omega)
   subst hx0
   have ok := hG.ok
   have HM := Lib.hid (show mkC F (form F [] n) = (0, 0, [], [], 6) by rw [form_nil]; rfl)
   obtain ⟨W0, hW0⟩ : ∃ W0, W0 = (w.alloc (.cells #[.int .i64 F.p, .int .i64 F.k, .slice ap F.poly.length cp] 26)).alloc (.cells #[.int .i64 0, .int .i64 0, .slice none 0 0, .slice none 0 0] 55) := ⟨_, rfl⟩
   have b0 : Below w.heap.size w W0 := by rw [hW0]; exact ((Below.refl _ _).alloc (Nat.le_refl _) _).alloc (by simp) _
   have kF : Blk W0 w.heap.size 26 #[.int .i64 F.p, .int .i64 F.k, .slice ap F.poly.length cp] := by rw [hW0]; exact (Blk.new _ _ _ rfl).alloc _
   have k0 : Blk W0 (w.heap.size + 1) 55 #[.int .i64 0, .int .i64 0, .slice none 0 0, .slice none 0 0] := by rw [hW0]; exact Blk.new _ _ _ (by simp)
   have s0 : w.heap.size + 1 < W0.heap.size := k0.lt
   have hT := tablesOf_any F ap cp W0 (hR.below b0) ok
   have HT := hide hT
   have HW := Lib.hid hW0
   have f0 := kF.cell 0
   have f1 := kF.cell 1
   have f2 := kF.cell 2
   clear hT hW0
   go_enter Try.func92, Try.ntmps92
   go_upto_region 1 with fail
   rw [← HW.out]
   go_wp2_with fail
   refine (unhide HT).mono ?_
   rintro e w1 ⟨tv, rfl, T1, b1⟩
   obtain ⟨aA, cA, aS, cS, aM, cM, aI, cI, rfl, _, _, _, _⟩ := T1
   have hb1 := b0.trans (b1.mono (by omega))
   have k1 := k0.below b1 k0.lt
   have z1 := b1.size
   clear f0 f1 f2
   go_wp2_with fail
   refine (reduce_nil F aA cA aS cS aM cM aI cI ra rc w1).mono ?_
   rintro e w2 ⟨v, u, dt, rfl, o2, _, b2⟩
   obtain ⟨ra2, rc2, rfl, _⟩ := o2.form
   have hb2 := hb1.trans (b2.mono (by omega))
   have k2 := k1.below b2 k1.lt
   have f0 := k2.cell 0
   have f1 := k2.cell 1
   have f2 := k2.cell 2
   have f3 := k2.cell 3
   have g0 := k2.frozen 0
   have g1 := k2.frozen 1
   have g2 := k2.frozen 2
   have g3 := k2.frozen 3
   go_wp2_with fail
   refine bodyPost_ret (results_cell_tmp_row rfl _ _ (w.heap.size + 1) 55 #[.int .i64 0, .int .i64 0, .slice none 0 0, .slice none 0 0] _ rfl (k2.b4.store _ _ _ _) Try.underlying55 rfl (by kernel_rfl)) rfl ?_
   rw [HM.out]
   exact ⟨_, _, rfl, OwnC.nil _ _, Below.set4 hb2 (by omega) _ _ _ _⟩
end Go.Proofs.Ytpglmogoddgmoaa
