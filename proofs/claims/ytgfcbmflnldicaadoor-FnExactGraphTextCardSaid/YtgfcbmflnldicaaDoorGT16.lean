/-
  Texts joined.
-/
import Derived.ChangeOld
import Derived.Deep.Slices
import Derived.OpenShut
import Derived.ProofKit
import Derived.ShutString
import Derived.Test.YtgfcbmflnldicaaDoorRows
import Derived.Test.YtgfcbmflnldicaaDoorGT1
set_option linter.unusedVariables false
set_option linter.unusedSimpArgs false
set_option maxRecDepth 100000
set_option maxHeartbeats 40000000
namespace Go.Proofs.YtgfcbmflnldicaaDoor
open Go.RowKit Go.ChangeShapes Go.WideShapes Go.ChangeAt
theorem ownKnob_none : ownKnob Tryd.prog.godebug = none := by kernel_rfl
theorem laidOut_ok : laidOutB Tryd.prog = true := by kernel_rfl
theorem Tryd.cells_i64 : Tryd.prog.cellsOf 2 = 1 := by kernel_rfl
def I64 (x : Int) : Prop := -9223372036854775808 ≤ x ∧ x ≤ 9223372036854775807
theorem I64_of_wf {x : Int} (h : (Lit.int .i64 x).wf = true) : I64 x := by
 have h1 : IntKind.i64.min = -9223372036854775808 := rfl
 have h2 : IntKind.i64.max = 9223372036854775807 := rfl
 simp only [Lit.wf, Bool.and_eq_true, decide_eq_true_eq] at h
 unfold I64
 omega
section
variable {H : Type} {enc : TypeId × Value → H} {W : World} {base : Nat} {spare : Nat → Bool} {hd : Bool}
theorem open_list {a : Option Addr} {n c : Nat} {d : DataW H} {p : List MemPlace} (h : DataW.Trod enc Tryd.prog W base spare hd 22 (.slice a n c) d p) :
    ∃ xs : List Int, n = xs.length ∧ n ≤ maxLen ∧ (n ≤ 1048576 → Rd W a xs) ∧ ∀ x ∈ xs, I64 x := by
 obtain ⟨fuel, hf⟩ := h
 rcases open_ints Tryd.underlying22 Tryd.underlying2 Tryd.cells_i64 hf with ⟨hcs, _⟩ | ⟨x, l, cp, zs, hcs, _, hl, hm, hz, _, hcell, hwz⟩
 · simp [Value.cells] at hcs
   obtain ⟨rfl, rfl, rfl⟩ := hcs
   exact ⟨[], rfl, by simp, fun _ => Rd.nil _ _, by simp⟩
 · simp [Value.cells] at hcs
   obtain ⟨rfl, rfl, rfl⟩ := hcs
   have hln : n ≤ zs.length := by
    rw [hz]; split <;> omega
   refine ⟨zs.take n, by rw [List.length_take]; omega, by omega, fun hn => ⟨by rw [List.length_take]; omega, fun h0 => ?_⟩, fun x hx => I64_of_wf (hwz x (List.mem_of_mem_take hx))⟩
   rw [List.length_take] at h0
   obtain ⟨b, off, spot⟩ := x
   have hspot : spot = none := by
    have := World.cell?_spot (hcell 0 (by omega))
    simpa [Addr.add] using this
   subst hspot
   refine ⟨b, off, rfl, fun i hi => ?_⟩
   rw [List.length_take] at hi
   have := hcell i (by omega)
   rw [Addr.add_lit] at this
   rw [this]
   congr 2
   rw [nth, List.getD_eq_getElem?_getD, List.getD_eq_getElem?_getD, List.getElem?_take, if_pos (by omega)]
structure SL where
 a : Option Addr
 c : Nat
 xs : List Int
def SL.val (X : SL) : Value := .slice X.a X.xs.length X.c
def SL.ok (X : SL) (W : World) : Prop := X.xs.length ≤ maxLen ∧ (X.xs.length ≤ 1048576 → Rd W X.a X.xs) ∧ ∀ x ∈ X.xs, I64 x
end
end Go.Proofs.YtgfcbmflnldicaaDoor
