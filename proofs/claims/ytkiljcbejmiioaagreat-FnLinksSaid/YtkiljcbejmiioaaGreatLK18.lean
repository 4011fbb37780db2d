/-
  Texts joined.
-/
import Derived.Deep.DeepCutAuto
import Derived.Deep.DrawnRows
import Derived.Deep.RegionHeld3
import Derived.Test.YtkiljcbejmiioaaGreatLK1
import Derived.Test.YtkiljcbejmiioaaGreatLK5
import Derived.Test.YtkiljcbejmiioaaGreatLK17
set_option linter.unusedVariables false
set_option linter.unusedSimpArgs false
set_option maxRecDepth 100000
set_option maxHeartbeats 40000000
namespace Go.Proofs.YtkiljcbejmiioaaGreat
open Go.RowKit
theorem RdE.kp {w w' : World} {a : Option Addr} {es : List (Int × Int)} (h : RdE w a es) (k : Kp w w' 0 w.heap.size) : RdE w' a es :=
 ⟨h.1, fun h0 => by
  obtain ⟨b, off, rfl, hb, hc⟩ := h.at_ h0
  exact ⟨b, off, rfl, fun i hi => ⟨(cell_block (k.2 b (Nat.zero_le _) hb) _).trans (hc i hi).1, (cell_block (k.2 b (Nat.zero_le _) hb) _).trans (hc i hi).2⟩⟩⟩
section
variable {w w' : World} {B B' hi : Nat} {v u : Value} {xs : List Int} {es fs : List (Int × Int)}
end
end Go.Proofs.YtkiljcbejmiioaaGreat
