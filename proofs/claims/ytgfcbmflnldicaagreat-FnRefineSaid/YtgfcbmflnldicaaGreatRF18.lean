/-
  Texts joined.
-/
import Derived.Test.YtgfcbmflnldicaaGreatRF16
import Derived.Test.YtgfcbmflnldicaaGreatRF17
set_option linter.unusedVariables false
set_option linter.unusedSimpArgs false
set_option maxRecDepth 100000
set_option maxHeartbeats 40000000
namespace Go.Proofs.YtgfcbmflnldicaaGreat
open Go.RowKit
theorem areCells_any (a : Option Addr) (n c : Nat) (es : Value) (pa : Option Addr) (pc : Nat) (cs : List Int) (w : World) (hp : Rd w pa cs) :
    Calls Tryz.prog 50 #[.agg #[.slice a n c, es], .slice pa cs.length pc] w fun e w' => e = .returned (.bool (decide (cs.length = n) && colorsOk cs)) ∧ Below w.heap.size w w' := by
 have hpl := hp.len
 obtain ⟨w0, hw0⟩ : ∃ w0, w0 = w.alloc (.cells #[.slice a n c, es] 27) := ⟨_, rfl⟩
 have hb0 : Below w.heap.size w w0 := by rw [hw0]; exact (Below.refl _ _).alloc (Nat.le_refl _) _
 have kA : Blk w0 w.heap.size 27 #[.slice a n c, es] := by rw [hw0]; exact Blk.new _ _ _ rfl
 have f0 := kA.cell 0
 rw [hw0] at f0
 have hcl := areColors_any pa pc cs w0 (hp.below hb0)
 have HCL := hide hcl
 have HW := Lib.hid hw0
 clear hcl kA hw0 hp
 by_cases hl : cs.length = n
 · have e1 : ((cs.length : Int) == (n : Int)) = true := by simp [hl]
   have e2 : decide ((cs.length : Int) = (n : Int)) = true := by simp [hl]
   have hd : decide (cs.length = n) = true := decide_eq_true hl
   have HD := Lib.hid hd
   clear hl hd
   go_enter Tryz.func50, Tryz.ntmps50
   go_wp2_with fail
   rw [← HW.out]
   refine (unhide HCL).mono ?_
   rintro e w2 ⟨rfl, rfl⟩
   go_wp2_with fail
   go_ret
   exact ⟨by rw [HD.out]; rfl, hb0⟩
 · have e1 : ((cs.length : Int) == (n : Int)) = false := by simp; omega
   have e2 : decide ((cs.length : Int) = (n : Int)) = false := by simp; omega
   have hd : decide (cs.length = n) = false := decide_eq_false hl
   have HD := Lib.hid hd
   clear hl hd
   go_enter Tryz.func50, Tryz.ntmps50
   go_wp2_with fail
   go_ret
   exact ⟨by rw [HD.out]; rfl, by rw [← HW.out]; exact hb0⟩
end Go.Proofs.YtgfcbmflnldicaaGreat
