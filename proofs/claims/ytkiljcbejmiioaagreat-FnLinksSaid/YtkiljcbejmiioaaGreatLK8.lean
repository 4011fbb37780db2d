/-
  Texts joined.
-/
import Derived.ChangeOld
import Derived.Deep.Slices
import Derived.OpenShut
import Derived.ProofKit
import Derived.ShutString
import Derived.Test.YtkiljcbejmiioaaGreatRows
import Derived.Test.YtkiljcbejmiioaaGreatLK1
set_option linter.unusedVariables false
set_option linter.unusedSimpArgs false
set_option maxRecDepth 100000
set_option maxHeartbeats 40000000
namespace Go.Proofs.YtkiljcbejmiioaaGreat
open Go.RowKit Go.ChangeShapes Go.WideShapes Go.ChangeAt
theorem ownKnob_none : ownKnob Tryz.prog.godebug = none := by kernel_rfl
theorem laidOut_ok : laidOutB Tryz.prog = true := by kernel_rfl
def I64 (x : Int) : Prop := -9223372036854775808 ≤ x ∧ x ≤ 9223372036854775807
section
variable {H : Type} {enc : TypeId × Value → H} {W : World} {base : Nat} {spare : Nat → Bool} {hd : Bool}
structure SL where
 a : Option Addr
 c : Nat
 xs : List Int
def SL.val (X : SL) : Value := .slice X.a X.xs.length X.c
def SL.ok (X : SL) (W : World) : Prop := X.xs.length ≤ maxLen ∧ (X.xs.length ≤ 1048576 → Rd W X.a X.xs) ∧ ∀ x ∈ X.xs, I64 x
end
end Go.Proofs.YtkiljcbejmiioaaGreat
namespace Go.Proofs.YtkiljcbejmiioaaGreat
open Go.RowKit Go.ChangeShapes Go.WideShapes Go.ChangeAt
def RdB (w : World) (a : Option Addr) (bs : List Int) : Prop :=
 bs.length ≤ 1073741824 ∧ (∀ x ∈ bs, 0 ≤ x ∧ x ≤ 255) ∧ (0 < bs.length → ∃ b off, a = some ⟨b, off, none⟩ ∧ ∀ i, i < bs.length → w.cell? ⟨b, off + i, none⟩ = some (.int .u8 (nth bs i)))
section
variable {w w' : World} {a : Option Addr} {bs : List Int}
theorem RdB.at_ (h : RdB w a bs) (h0 : 0 < bs.length) : ∃ b off, a = some ⟨b, off, none⟩ ∧ b < w.heap.size ∧ ∀ i, i < bs.length → w.cell? ⟨b, off + i, none⟩ = some (.int .u8 (nth bs i)) := by
 obtain ⟨b, off, e, hc⟩ := h.2.2 h0
 exact ⟨b, off, e, World.block_lt_of_cell? w _ (hc 0 h0), hc⟩
theorem RdB.keep (h : RdB w a bs) (hk : ∀ p : Addr, p.block < w.heap.size → w'.cell? p = w.cell? p) : RdB w' a bs :=
 ⟨h.1, h.2.1, fun h0 => by
  obtain ⟨b, off, e, hb, hc⟩ := h.at_ h0
  exact ⟨b, off, e, fun i hi => (hk _ hb).trans (hc i hi)⟩⟩
theorem RdB.below (h : RdB w a bs) (hb : Below w.heap.size w w') : RdB w' a bs := h.keep fun _ hp => hb.cell hp
theorem RdB.el (h : RdB w a bs) {i : Nat} (hi : i < bs.length) : 0 ≤ nth bs i ∧ nth bs i ≤ 255 := h.2.1 _ (nth_mem hi)
end
theorem Tryz.cells_u8 : Tryz.prog.cellsOf 5 = 1 := by kernel_rfl
theorem U8_of_wf {x : Int} (h : (Lit.int .u8 x).wf = true) : 0 ≤ x ∧ x ≤ 255 := by
 have h1 : IntKind.u8.min = 0 := rfl
 have h2 : IntKind.u8.max = 255 := rfl
 simp only [Lit.wf, Bool.and_eq_true, decide_eq_true_eq] at h
 omega
section
variable {H : Type} {enc : TypeId × Value → H} {W : World} {base : Nat} {spare : Nat → Bool} {hd : Bool}
theorem open_bytes' {a : Option Addr} {n c : Nat} {d : DataW H} {p : List MemPlace} (h : DataW.Trod enc Tryz.prog W base spare hd 22 (.slice a n c) d p) :
    ∃ xs : List Int, n = xs.length ∧ n ≤ maxLen ∧ (n ≤ 1048576 → RdB W a xs) := by
 obtain ⟨fuel, hf⟩ := h
 rcases open_ints Tryz.underlying22 Tryz.underlying5 Tryz.cells_u8 hf with ⟨hcs, _⟩ | ⟨x, l, cp, zs, hcs, _, hl, hm, hz, _, hcell, hwz⟩
 · simp [Value.cells] at hcs
   obtain ⟨rfl, rfl, rfl⟩ := hcs
   exact ⟨[], rfl, by simp, fun _ => ⟨by simp, by simp, fun h => by simp at h⟩⟩
 · simp [Value.cells] at hcs
   obtain ⟨rfl, rfl, rfl⟩ := hcs
   have hln : n ≤ zs.length := by
    rw [hz]; split <;> omega
   refine ⟨zs.take n, by rw [List.length_take]; omega, by omega, fun hn => ⟨by rw [List.length_take]; omega, fun x hx => U8_of_wf (hwz x (List.mem_of_mem_take hx)), fun h0 => ?_⟩⟩
   rw [List.length_take] at h0
   obtain ⟨b, off, spot⟩ := x
   have hspot : spot = none := by
    have := World.cell?_spot (hcell 0 (by omega))
    simpa [Addr.add] using this
   subst hspot
   refine ⟨b, off, rfl, fun i hi => ?_⟩
   rw [List.length_take] at hi
   have := hcell i (by omega)
   rw [Addr.add_lit] at this
   rw [this]
   congr 2
   rw [nth, List.getD_eq_getElem?_getD, List.getD_eq_getElem?_getD, List.getElem?_take, if_pos (by omega)]
structure SB where
 a : Option Addr
 c : Nat
 xs : List Int
def SB.val (X : SB) : Value := .slice X.a X.xs.length X.c
def SB.ok (X : SB) (W : World) : Prop := X.xs.length ≤ maxLen ∧ (X.xs.length ≤ 1048576 → RdB W X.a X.xs)
theorem open_sb {r : Reach} {b0 : Nat} {v : Value} {d : DataW H} {p : List MemPlace} (hv : Value.okWide Tryz.prog W r b0 22 v) (h : DataW.Trod enc Tryz.prog W base spare hd 22 v d p) :
    ∃ X : SB, v = X.val ∧ X.ok W := by
 obtain ⟨a, n, c, rfl⟩ := okWide_slice Tryz.underlying22 hv
 obtain ⟨xs, rfl, h1, h2⟩ := open_bytes' h
 exact ⟨⟨a, c, xs⟩, rfl, h1, h2⟩
end
end Go.Proofs.YtkiljcbejmiioaaGreat
