/-
  Texts joined.
-/
import Derived.StillTailTactics
import Derived.Test.YtgfcbmflnldicaaDoorGT1
set_option linter.unusedVariables false
set_option linter.unusedSimpArgs false
set_option maxRecDepth 100000
set_option maxHeartbeats 40000000
namespace Go.Proofs.YtgfcbmflnldicaaDoor
open Go.RowKit
def cmpI (x y : Int) : Int := if x < y then -1 else if y < x then 1 else 0
theorem isNaN_any (x : Int) (w : World) : Calls Tryd.prog 46 #[.int .i64 x] w fun e w' => e = .returned (.bool false) ∧ w = w' := by
 have h : (x != x) = false := by simp
 go_enter Tryd.func46, Tryd.ntmps46
 go_wp2
 go_ret
 exact ⟨rfl, rfl⟩
theorem compare_any (x y : Int) (w : World) : Calls Tryd.prog 39 #[.int .i64 x, .int .i64 y] w fun e w' => e = .returned (.int .i64 (cmpI x y)) ∧ w = w' := by
 have h1 := isNaN_any x w
 have h2 := isNaN_any y w
 have H1 := hide h1
 have H2 := hide h2
 clear h1 h2
 by_cases hxy : x < y
 · go_enter Tryd.func39, Tryd.ntmps39
   go_wp2_with fail
   refine (unhide H1).mono ?_
   rintro e w1 ⟨rfl, rfl⟩
   go_wp2_with fail
   refine (unhide H2).mono ?_
   rintro e w1 ⟨rfl, rfl⟩
   go_wp2
   go_ret
   exact ⟨ret_int (by simp [cmpI, hxy]), rfl⟩
 · by_cases hyx : y < x
   · go_enter Tryd.func39, Tryd.ntmps39
     go_wp2_with fail
     refine (unhide H1).mono ?_
     rintro e w1 ⟨rfl, rfl⟩
     go_wp2_with fail
     refine (unhide H2).mono ?_
     rintro e w1 ⟨rfl, rfl⟩
     go_wp2
     go_ret
     exact ⟨ret_int (by unfold cmpI; rw [if_neg (by omega), if_pos hyx]), rfl⟩
   · go_enter Tryd.func39, Tryd.ntmps39
     go_wp2_with fail
     refine (unhide H1).mono ?_
     rintro e w1 ⟨rfl, rfl⟩
     go_wp2_with fail
     refine (unhide H2).mono ?_
     rintro e w1 ⟨rfl, rfl⟩
     go_wp2
     go_ret
     exact ⟨ret_int (by unfold cmpI; rw [if_neg (by omega), if_neg (by omega)]), rfl⟩
end Go.Proofs.YtgfcbmflnldicaaDoor
