/-
  Texts joined.
-/
import Derived.Laws.StructEq
import Derived.Test.YtgfcbmflnldicaaGreatDA1
set_option linter.unusedVariables false
set_option linter.unusedSimpArgs false
set_option maxRecDepth 100000
set_option maxHeartbeats 40000000
namespace Go.Proofs.YtgfcbmflnldicaaGreat
open Go.RowKit
def nthE (es : List (Int × Int)) (i : Nat) : Int × Int := es.getD i (0, 0)
theorem nthE_lt {es : List (Int × Int)} {i : Nat} (h : i < es.length) : nthE es i = es[i] := by simp [nthE, h]
theorem nthE_mem {es : List (Int × Int)} {i : Nat} (h : i < es.length) : nthE es i ∈ es := by rw [nthE_lt h]; exact List.getElem_mem h
def RdE (w : World) (a : Option Addr) (es : List (Int × Int)) : Prop :=
 es.length ≤ 1073741824 ∧ (0 < es.length → ∃ b off, a = some ⟨b, off, none⟩ ∧ ∀ i, i < es.length → w.cell? ⟨b, off + i * 2, none⟩ = some (.int .i64 (nthE es i).1) ∧ w.cell? ⟨b, off + i * 2 + 1, none⟩ = some (.int .i64 (nthE es i).2))
section
variable {w w' : World} {a : Option Addr} {es : List (Int × Int)} {B : Nat}
theorem RdE.len (h : RdE w a es) : es.length ≤ 1073741824 := h.1
theorem RdE.at_ (h : RdE w a es) (h0 : 0 < es.length) : ∃ b off, a = some ⟨b, off, none⟩ ∧ b < w.heap.size ∧ ∀ i, i < es.length → w.cell? ⟨b, off + i * 2, none⟩ = some (.int .i64 (nthE es i).1) ∧ w.cell? ⟨b, off + i * 2 + 1, none⟩ = some (.int .i64 (nthE es i).2) := by
 obtain ⟨b, off, e, hc⟩ := h.2 h0
 exact ⟨b, off, e, World.block_lt_of_cell? w _ (hc 0 h0).1, hc⟩
theorem RdE.keep (h : RdE w a es) (hk : ∀ p : Addr, p.block < w.heap.size → w'.cell? p = w.cell? p) : RdE w' a es :=
 ⟨h.1, fun h0 => by
  obtain ⟨b, off, e, hb, hc⟩ := h.at_ h0
  exact ⟨b, off, e, fun i hi => ⟨(hk _ hb).trans (hc i hi).1, (hk _ hb).trans (hc i hi).2⟩⟩⟩
theorem RdE.below (h : RdE w a es) (hb : Below w.heap.size w w') : RdE w' a es := h.keep fun _ hp => hb.cell hp
theorem RdE.nil (w : World) (a : Option Addr) : RdE w a [] := ⟨by simp, fun h => by simp at h⟩
theorem RdE.drewN (h : RdE w a es) (k : Nat) : RdE (w.drewN k) a es := h.keep fun _ _ => by simp
theorem RdE.alloc (h : RdE w a es) (o : Obj) : RdE (w.alloc o) a es := h.keep fun p hp => World.cell?_alloc_lt w o p hp
end
def flatE (es : List (Int × Int)) : List Value := es.flatMap fun e => [.int .i64 e.1, .int .i64 e.2]
theorem flatE_len (es : List (Int × Int)) : (flatE es).length = es.length * 2 := by
 induction es with
 | nil => rfl
 | cons e es ih => simp only [flatE, List.flatMap_cons, List.length_append, List.length_cons, List.length_nil] at ih ⊢; omega
theorem flatE_get (es : List (Int × Int)) {i : Nat} (h : i < es.length) : (flatE es)[i * 2]? = some (.int .i64 (nthE es i).1) ∧ (flatE es)[i * 2 + 1]? = some (.int .i64 (nthE es i).2) := by
 induction es generalizing i with
 | nil => simp at h
 | cons e es ih =>
  cases i with
  | zero => exact ⟨rfl, rfl⟩
  | succ i =>
   have := ih (i := i) (by simpa using h)
   have e1 : (i + 1) * 2 = i * 2 + 1 + 1 := by omega
   rw [e1]
   simpa [flatE, nthE] using this
def OwnE (w : World) (B : Nat) (v : Value) (es : List (Int × Int)) : Prop :=
 es.length ≤ 1073741824 ∧ w.ownsRow B 142 2 v es.length (flatE es)
section
variable {w w' : World} {v : Value} {es : List (Int × Int)} {B B' : Nat}
theorem OwnE.form (h : OwnE w B v es) : ∃ a c, v = .slice a es.length c ∧ RdE w a es ∧ (∀ k, v.ownBlock = some k → B ≤ k ∧ k < w.heap.size) := by
 obtain ⟨hl, h⟩ := h
 have hlt := h.lt
 have h2 := h
 rcases h.2 with ⟨rfl, h0⟩ | ⟨g, cap, cur, rfl, hb, hg, hn, hm, hs, ht⟩
 · exact ⟨none, 0, by rw [h0], ⟨hl, fun hh => by omega⟩, hlt⟩
 · refine ⟨some ⟨g, 0, none⟩, cap, rfl, ⟨hl, fun _ => ⟨g, 0, rfl, fun i hi => ?_⟩⟩, hlt⟩
   have e := flatE_get es hi
   have c1 := h2.cells (g := g) rfl _ _ e.1
   have c2 := h2.cells (g := g) rfl _ _ e.2
   rw [Addr.add_lit] at c1 c2
   rw [Nat.zero_add] at c1 c2 ⊢
   exact ⟨c1, c2⟩
theorem OwnE.mono (h : OwnE w B v es) (hB : B' ≤ B) : OwnE w B' v es := by
 obtain ⟨hl, h1, h2⟩ := h
 refine ⟨hl, h1, ?_⟩
 rcases h2 with h2 | ⟨g, cap, cur, e, hb, r⟩
 · exact .inl h2
 · exact .inr ⟨g, cap, cur, e, by omega, r⟩
theorem OwnE.below {B1 : Nat} (h : OwnE w B v es) (hb : Below B1 w w') (hlt : w.heap.size ≤ B1) : OwnE w' B v es := by
 obtain ⟨hl, h1, h2⟩ := h
 refine ⟨hl, h1, ?_⟩
 rcases h2 with h2 | ⟨g, cap, cur, e, hB, hg, r⟩
 · exact .inl h2
 · refine .inr ⟨g, cap, cur, e, hB, ?_, r⟩
   rw [hb.block g (by have := (Array.getElem?_eq_some_iff.1 hg).1; omega)]; exact hg
theorem OwnE.of_rowIs {b n : Nat} {f : Nat → Value} (h : w.rowIs b 142 (n * 2) f) (hB : B ≤ b) (hn : es.length = n) (hl : es.length ≤ 1073741824) (hf : ∀ i, i < n → f (i * 2) = .int .i64 (nthE es i).1 ∧ f (i * 2 + 1) = .int .i64 (nthE es i).2) :
    OwnE w B (.slice (some ⟨b, 0, none⟩) n n) es := by
 obtain ⟨c, hb, hc, hi⟩ := h
 subst hn
 refine ⟨hl, flatE_len es, .inr ⟨b, _, c, rfl, hB, hb, Nat.le_refl _, by unfold maxLen; omega, by omega, ?_⟩⟩
 apply List.ext_getElem?
 intro i
 rw [List.getElem?_take]
 split
 · rename_i hlt
   rw [Array.getElem?_toList, hi i hlt]
   have h2 : i / 2 < es.length := by omega
   rcases Nat.mod_two_eq_zero_or_one i with h0 | h1
   · have e : i = i / 2 * 2 := by omega
     rw [e, (hf _ h2).1, (flatE_get es h2).1]
   · have e : i = i / 2 * 2 + 1 := by omega
     rw [e, (hf _ h2).2, (flatE_get es h2).2]
 · rw [List.getElem?_eq_none (by rw [flatE_len]; omega)]
end
end Go.Proofs.YtgfcbmflnldicaaGreat
