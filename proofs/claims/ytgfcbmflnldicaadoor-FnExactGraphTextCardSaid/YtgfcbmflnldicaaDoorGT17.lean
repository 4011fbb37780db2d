/-
  Texts joined.
-/
import Derived.Deep.SlicePairs
import Derived.Lib.SmallJoins
import Derived.Test.YtgfcbmflnldicaaDoorGT3
import Derived.Test.YtgfcbmflnldicaaDoorGT16
set_option linter.unusedVariables false
set_option linter.unusedSimpArgs false
set_option maxRecDepth 100000
set_option maxHeartbeats 40000000
namespace Go.Proofs.YtgfcbmflnldicaaDoor
open Go.RowKit Go.ChangeShapes Go.WideShapes Go.ChangeAt Go.Joins
theorem Tryd.cells_edges : Tryd.prog.cellsOf 23 = 1 := by kernel_rfl
theorem Tryd.cells_ints : Tryd.prog.cellsOf 22 = 1 := by kernel_rfl
theorem Tryd.cells_edge : Tryd.prog.cellsOf 51 = 2 := by kernel_rfl
theorem Tryd.cells_graph : Tryd.prog.cellsOf 25 = 2 := by kernel_rfl
structure SLE where
 a : Option Addr
 c : Nat
 es : List (Int × Int)
def SLE.val (X : SLE) : Value := .slice X.a X.es.length X.c
def SLE.ok (X : SLE) (W : World) : Prop := X.es.length ≤ maxLen ∧ (X.es.length ≤ 1048576 → RdE W X.a X.es) ∧ ∀ e ∈ X.es, I64 e.1 ∧ I64 e.2
structure GRA where
 l : SL
 r : SLE
def GRA.val (X : GRA) : Value := .agg #[X.l.val, X.r.val]
def GRA.ok (X : GRA) (W : World) : Prop := X.l.ok W ∧ X.r.ok W
section
variable {H : Type} {enc : TypeId × Value → H} {W : World} {base : Nat} {hd : Bool}
theorem cells_list' {fuel : Nat} {cs : List Value} {x : DataW H × List MemPlace} (h : DataW.trod enc Tryd.prog W base (fun _ => true) hd fuel 22 cs = some x) : ∃ X : SL, cs = [X.val] ∧ X.ok W := by
 have key : ∃ a n c, cs = [.slice a n c] := by
  rcases open_ints Tryd.underlying22 Tryd.underlying2 Tryd.cells_i64 h with ⟨hcs, _⟩ | ⟨x, l, cp, zs, hcs, _⟩
  · exact ⟨_, _, _, hcs⟩
  · exact ⟨_, _, _, hcs⟩
 obtain ⟨a, n, c, rfl⟩ := key
 obtain ⟨xs, rfl, h1, h2, h3⟩ := open_list (W := W) (d := x.1) (p := x.2) ⟨fuel, h⟩
 exact ⟨⟨a, c, xs⟩, rfl, h1, h2, h3⟩
theorem cells_edges {fuel : Nat} {cs : List Value} {x : DataW H × List MemPlace} (h : DataW.trod enc Tryd.prog W base (fun _ => true) hd fuel 23 cs = some x) : ∃ X : SLE, cs = [X.val] ∧ X.ok W := by
 rcases Go.Deep.open_slice_pairs Tryd.underlying23 Tryd.underlying51 Tryd.cells_edge rfl rfl Tryd.cells_i64 Tryd.cells_i64 h with ⟨rfl, _⟩ | ⟨⟨b, off, spot⟩, n, cp, m, q, V0, V1, D0, D1, P0, P1, rfl, _, hl, hm, hmm, _, hel⟩
 · exact ⟨⟨none, 0, []⟩, rfl, by simp, fun _ => RdE.nil _ _, by simp⟩
 · simp only [if_true] at hmm
   subst hmm
   have each : ∀ i, i < n → ∃ e : Int × Int, I64 e.1 ∧ I64 e.2 ∧ W.cell? ((⟨b, off, spot⟩ : Addr).add (i * 2)) = some (.int .i64 e.1) ∧ W.cell? ((⟨b, off, spot⟩ : Addr).add (i * 2 + 1)) = some (.int .i64 e.2) := by
    intro i hi
    obtain ⟨h1, h2, h3, h4⟩ := hel i (by omega)
    obtain ⟨x, e1, _, w1⟩ := DataW.trod_int Tryd.underlying2 h3
    obtain ⟨y, e2, _, w2⟩ := DataW.trod_int Tryd.underlying2 h4
    simp only [List.cons.injEq, and_true] at e1 e2
    exact ⟨(x, y), I64_of_wf w1, I64_of_wf w2, by rw [h1, e1], by rw [h2, e2]⟩
   obtain ⟨E, hE⟩ := Go.Deep.choose_lt each
   refine ⟨⟨some ⟨b, off, spot⟩, m, (List.range n).map E⟩, by simp [SLE.val], by simp; omega, fun hn => ⟨by simp at hn ⊢; omega, fun h0 => ?_⟩, ?_⟩
   · simp only [List.length_map, List.length_range] at h0
     have hspot : spot = none := by
      have := World.cell?_spot (hE 0 h0).2.2.1
      simpa [Addr.add] using this
     subst hspot
     refine ⟨b, off, rfl, fun i hi => ?_⟩
     simp only [List.length_map, List.length_range] at hi
     have h1 := (hE i hi).2.2.1
     have h2 := (hE i hi).2.2.2
     rw [Addr.add_lit] at h1 h2
     have hn : nthE ((List.range n).map E) i = E i := by simp [nthE, hi]
     simp only
     rw [hn]
     exact ⟨h1, h2⟩
   · intro e he
     simp only [List.mem_map, List.mem_range] at he
     obtain ⟨i, hi, rfl⟩ := he
     exact ⟨(hE i hi).1, (hE i hi).2.1⟩
theorem open_gra {r : Reach} {b0 : Nat} {v : Value} {d : DataW H} {p : List MemPlace} (hv : Value.okWide Tryd.prog W r b0 25 v) (h : DataW.Trod enc Tryd.prog W base (fun _ => true) hd 25 v d p) :
    ∃ X : GRA, v = X.val ∧ X.ok W := by
 obtain ⟨cs, rfl, hsz⟩ := okWide_struct Tryd.underlying25 hv
 obtain ⟨fuel, hf⟩ := h
 obtain ⟨y0, y1, n, _, hl, h0, h1⟩ := trod_struct2 Tryd.underlying25 hf
 rw [Tryd.cells_graph] at hl
 rw [Tryd.cells_ints] at h0
 rw [Tryd.cells_edges] at h1
 simp only [Value.cells] at hl h0 h1
 obtain ⟨X, e, ok⟩ := cells_list' h0
 obtain ⟨Y, e', ok'⟩ := cells_edges h1
 refine ⟨⟨X, Y⟩, ?_, ok, ok'⟩
 rcases cs with ⟨l⟩
 simp only at hl e e'
 match l, hl with
 | [c0, c1], _ =>
  simp at e e'
  simp [GRA.val, e, e']
end
end Go.Proofs.YtgfcbmflnldicaaDoor
