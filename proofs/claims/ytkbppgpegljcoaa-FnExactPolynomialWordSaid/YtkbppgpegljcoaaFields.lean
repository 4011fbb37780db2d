/-
  Walk of l19Field; the code of MakeField.
-/
import Derived.Test.YtkbppgpegljcoaaMake2
namespace Go.Proofs.Ytkbppgpegljcoaa
open Go.RowKit

theorem l19Field_any (q : Int) (w : World) : Calls Try.prog 118 #[.int .i64 q] w fun e w' => e = .returned (.bool (isField q)) ∧ w = w' := by
  have hc := l03Split_any q w
  unfold isField
  generalize hs : (split q).1 = s at hc
  have HC := hide hc
  clear hc hs
  by_cases h0 : 0 < s
  · go_enter Try.func118, Try.ntmps118
    go_wp2_with fail
    refine (unhide HC).mono ?_
    rintro e w1 ⟨rfl, rfl⟩
    go_wp2
    go_ret
    exact ⟨ret_bool (by simp [h0]), rfl⟩
  · go_enter Try.func118, Try.ntmps118
    go_wp2_with fail
    refine (unhide HC).mono ?_
    rintro e w1 ⟨rfl, rfl⟩
    go_wp2
    go_ret
    exact ⟨ret_bool (by simp [show ¬ 0 < s by omega]), rfl⟩

theorem mkF_code (q : Int) : (mkF q).2.2.2 = if isField q then 0 else 2 := by unfold mkF; split <;> rfl
theorem mkF_ok {q : Int} (h : isField q = true) : (mkF q).2.2.2 = 0 := by rw [mkF_code, if_pos h]
theorem mkF_bad {q : Int} (h : isField q = false) : (mkF q).2.2.2 = 2 := by rw [mkF_code, h]; rfl

end Go.Proofs.Ytkbppgpegljcoaa
