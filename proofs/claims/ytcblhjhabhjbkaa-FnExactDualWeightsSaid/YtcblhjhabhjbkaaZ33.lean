/-
  Walks: IsPerfect on both sides. Printed by gen_cwp.py.
-/
import Derived.BigQuiet
import Derived.BigRegion
import Derived.ChangeOld
import Derived.Deep.DeepCutAuto
import Derived.Deep.DeepMust
import Derived.Deep.DrawnRows
import Derived.Deep.Draws
import Derived.Deep.OwnRows
import Derived.Deep.QuietTactic
import Derived.Deep.RegionHeld3
import Derived.Deep.Slices
import Derived.IntWalk
import Derived.Laws.Rows
import Derived.Lib.Hide
import Derived.Maps.AppendAt
import Derived.OpenShut
import Derived.OwnWalk
import Derived.ProofKit
import Derived.ShutString
import Derived.StillTailTactics
import Derived.Test.YtcblhjhabhjbkaaProg
import Derived.Test.YtcblhjhabhjbkaaRows
import Derived.WalkKit
import Derived.WalkLawsBesides
import Derived.WalkSpells
import Derived.Test.YtcblhjhabhjbkaaZ31
import Derived.Test.YtcblhjhabhjbkaaZ32
set_option linter.unusedVariables false
set_option linter.unusedSimpArgs false
namespace Go.Proofs.Ytcblhjhabhjbkaa
open Go.RowKit
attribute [local go_sem ↓] Go.wp_at_zero Go.wp_at_succ
noncomputable def perfV (F : FD) (n : Nat) (m : List (List Int)) : Bool × Int :=
  if capTo F.n LIM n ≤ LIM then (((F.n ^ m.length : Nat) : Int) * ballV F.n n ((distC F n m - 1) / 2) == (F.n : Int) ^ n, 0) else (false, 2)
noncomputable def perfRes (p d : Int) (xs : List Int) (m : List (List Int)) : Bool × Int := if okC p d xs m = true then perfV (fdR p d xs) (nthL m 0).length m else (false, 1)
theorem perf_mul {q k V P : Int} (h1 : 0 ≤ k) (h2 : k ≤ 4096) (h3 : 0 ≤ V) (h4 : V ≤ 1000000000000) : 0 ≤ k * V ∧ k * V ≤ 4096000000000000 := by
  refine ⟨Int.mul_nonneg h1 h3, ?_⟩
  have a := Int.mul_le_mul_of_nonneg_right h2 h3
  omega
end Go.Proofs.Ytcblhjhabhjbkaa

