/-
  Walks: Reed-Solomon codes, on both sides. Printed by gen_rs.py.
-/
import Derived.BigQuiet
import Derived.ChangeOld
import Derived.Deep.DeepCutAuto
import Derived.Deep.DeepMust
import Derived.Deep.DrawnRows
import Derived.Deep.Draws
import Derived.Deep.OwnRows
import Derived.Deep.QuietTactic
import Derived.Deep.RegionHeld3
import Derived.Deep.Slices
import Derived.IntWalk
import Derived.Laws.Rows
import Derived.Lib.Hide
import Derived.Maps.AppendAt
import Derived.OpenShut
import Derived.ProofKit
import Derived.ShutString
import Derived.StillTailTactics
import Derived.Test.YtcblhjhabhjbkaaProg
import Derived.Test.YtcblhjhabhjbkaaRows
import Derived.WalkKit
import Derived.WalkLawsBesides
import Derived.WalkSpells
import Derived.Test.YtcblhjhabhjbkaaZ7
import Derived.Test.YtcblhjhabhjbkaaZ8
import Derived.Test.YtcblhjhabhjbkaaZ9
set_option linter.unusedVariables false
set_option linter.unusedSimpArgs false
namespace Go.Proofs.Ytcblhjhabhjbkaa
open Go.RowKit
attribute [local go_sem ↓] Go.wp_at_zero Go.wp_at_succ

/-- The code of the call for the parameters of a Reed-Solomon code. -/
def rsCode (q k n : Int) : Int := if lenOk q n = true then (if inB k 1 n = true then (if 8 < k then 5 else if 4096 < capTo q 4096 k.toNat then 5 else 0) else 2) else 2
/-- What polynomialCode makes: a field where the code of the call is 0. -/
def PolC (w : World) (F : FD) (c : Int) (e : Ending) (w' : World) : Prop :=
  ∃ v, e = .returned (.tuple #[.agg #[.int .i64 (if c = 0 then F.p else 0), .int .i64 (if c = 0 then (F.k : Int) else 0), v], .int .i64 c]) ∧ Own w' w.heap.size v (if c = 0 then F.poly else []) ∧ Below w.heap.size w w'
end Go.Proofs.Ytcblhjhabhjbkaa

