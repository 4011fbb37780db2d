/-
  Texts joined.
-/
import Derived.Laws.StructEq
import Derived.Test.YtkiljcbejmiioaaGreatLK1
import Derived.Test.YtkiljcbejmiioaaGreatLK5
set_option linter.unusedVariables false
set_option linter.unusedSimpArgs false
set_option maxRecDepth 100000
set_option maxHeartbeats 40000000
namespace Go.Proofs.YtkiljcbejmiioaaGreat
open Go.RowKit
def nthE (es : List (Int × Int)) (i : Nat) : Int × Int := es.getD i (0, 0)
theorem nthE_lt {es : List (Int × Int)} {i : Nat} (h : i < es.length) : nthE es i = es[i] := by simp [nthE, h]
theorem nthE_mem {es : List (Int × Int)} {i : Nat} (h : i < es.length) : nthE es i ∈ es := by rw [nthE_lt h]; exact List.getElem_mem h
def RdE (w : World) (a : Option Addr) (es : List (Int × Int)) : Prop :=
 es.length ≤ 1073741824 ∧ (0 < es.length → ∃ b off, a = some ⟨b, off, none⟩ ∧ ∀ i, i < es.length → w.cell? ⟨b, off + i * 2, none⟩ = some (.int .i64 (nthE es i).1) ∧ w.cell? ⟨b, off + i * 2 + 1, none⟩ = some (.int .i64 (nthE es i).2))
section
variable {w w' : World} {a : Option Addr} {es : List (Int × Int)} {B : Nat}
theorem RdE.len (h : RdE w a es) : es.length ≤ 1073741824 := h.1
theorem RdE.at_ (h : RdE w a es) (h0 : 0 < es.length) : ∃ b off, a = some ⟨b, off, none⟩ ∧ b < w.heap.size ∧ ∀ i, i < es.length → w.cell? ⟨b, off + i * 2, none⟩ = some (.int .i64 (nthE es i).1) ∧ w.cell? ⟨b, off + i * 2 + 1, none⟩ = some (.int .i64 (nthE es i).2) := by
 obtain ⟨b, off, e, hc⟩ := h.2 h0
 exact ⟨b, off, e, World.block_lt_of_cell? w _ (hc 0 h0).1, hc⟩
theorem RdE.keep (h : RdE w a es) (hk : ∀ p : Addr, p.block < w.heap.size → w'.cell? p = w.cell? p) : RdE w' a es :=
 ⟨h.1, fun h0 => by
  obtain ⟨b, off, e, hb, hc⟩ := h.at_ h0
  exact ⟨b, off, e, fun i hi => ⟨(hk _ hb).trans (hc i hi).1, (hk _ hb).trans (hc i hi).2⟩⟩⟩
theorem RdE.below (h : RdE w a es) (hb : Below w.heap.size w w') : RdE w' a es := h.keep fun _ hp => hb.cell hp
theorem RdE.nil (w : World) (a : Option Addr) : RdE w a [] := ⟨by simp, fun h => by simp at h⟩
theorem RdE.drewN (h : RdE w a es) (k : Nat) : RdE (w.drewN k) a es := h.keep fun _ _ => by simp
theorem RdE.alloc (h : RdE w a es) (o : Obj) : RdE (w.alloc o) a es := h.keep fun p hp => World.cell?_alloc_lt w o p hp
end
section
variable {w w' : World} {v : Value} {es : List (Int × Int)} {B B' : Nat}
end
end Go.Proofs.YtkiljcbejmiioaaGreat
