/-
  Walks: IsMds on both sides. Printed by gen_cwm.py.
-/
import Derived.BigQuiet
import Derived.BigRegion
import Derived.ChangeOld
import Derived.Deep.DeepCutAuto
import Derived.Deep.DeepMust
import Derived.Deep.DrawnRows
import Derived.Deep.Draws
import Derived.Deep.OwnRows
import Derived.Deep.QuietTactic
import Derived.Deep.RegionHeld3
import Derived.Deep.Slices
import Derived.IntWalk
import Derived.Laws.Rows
import Derived.Lib.Hide
import Derived.Maps.AppendAt
import Derived.OpenShut
import Derived.OwnWalk
import Derived.ProofKit
import Derived.ShutString
import Derived.StillTailTactics
import Derived.Test.YtcblhjhabhjbkaaProg
import Derived.Test.YtcblhjhabhjbkaaRows
import Derived.WalkKit
import Derived.WalkLawsBesides
import Derived.WalkSpells
import Derived.Test.YtcblhjhabhjbkaaZ23
import Derived.Test.YtcblhjhabhjbkaaZ30
set_option linter.unusedVariables false
set_option linter.unusedSimpArgs false
namespace Go.Proofs.Ytcblhjhabhjbkaa
open Go.RowKit
attribute [local go_sem ↓] Go.wp_at_zero Go.wp_at_succ
noncomputable def mdsRes (p d : Int) (xs : List Int) (m : List (List Int)) : Bool × Int := if okC p d xs m = true then ((distC (fdR p d xs) (nthL m 0).length m : Int) == ((nthL m 0).length : Int) - (m.length : Int) + 1, 0) else (false, 1)
def ResB (w : World) (r : Bool × Int) (e : Ending) (w' : World) : Prop := e = .returned (.tuple #[.bool r.1, .int .i64 r.2]) ∧ Below w.heap.size w w'
theorem leastD_ok {cs : List Int} {d0 : Nat} (h1 : 1 ≤ d0) (h2 : d0 < cs.length) (h3 : nth cs d0 ≠ 0) : 1 ≤ leastD cs ∧ leastD cs ≤ d0 ∧ nth cs (leastD cs) ≠ 0 ∧ ∀ j, 1 ≤ j → j < leastD cs → nth cs j = 0 := by
  cases h : (List.range cs.length).find? (fun d => decide (1 ≤ d) && (nth cs d != 0)) with
  | none =>
    rw [List.find?_eq_none] at h
    have := h d0 (List.mem_range.2 h2)
    simp [h1, h3] at this
  | some d =>
    have e : leastD cs = d := by rw [leastD, h]; rfl
    rw [List.find?_range_eq_some] at h
    obtain ⟨a, b, c⟩ := h
    simp only [Bool.and_eq_true, decide_eq_true_eq, bne_iff_ne] at a
    have hz : ∀ j, 1 ≤ j → j < d → nth cs j = 0 := fun j j1 j2 => by
      have := c j j2
      simp only [Bool.not_eq_true', Bool.and_eq_false_iff, decide_eq_false_iff_not, bne_eq_false_iff_eq] at this
      rcases this with h | h
      · exact absurd j1 h
      · exact h
    rw [e]
    refine ⟨a.1, ?_, a.2, hz⟩
    rcases Nat.lt_or_ge d0 d with hh | hh
    · exact absurd (hz d0 h1 hh) h3
    · exact hh
theorem GC.dist {F : FD} {n : Nat} {m : List (List Int)} (h : GC F n m) : 1 ≤ distC F n m ∧ distC F n m ≤ n := by
  obtain ⟨d0, h1, h2, h3⟩ := h.some_wt
  have := leastD_ok h1 (by rw [wts_len]; omega) h3
  exact ⟨this.1, by have := this.2.1; rw [distC]; omega⟩
end Go.Proofs.Ytcblhjhabhjbkaa

