/-
  Texts joined.
-/
import Derived.Deep.Matrix
import Derived.Deep.Strs
import Derived.Lib.SmallJoins
import Derived.Test.YtgfcbmflnldicaaGreatBW1
import Derived.Test.YtgfcbmflnldicaaGreatBW11
set_option linter.unusedVariables false
set_option linter.unusedSimpArgs false
set_option maxRecDepth 100000
set_option maxHeartbeats 40000000
namespace Go.Proofs.YtgfcbmflnldicaaGreat
open Go.RowKit Go.ChangeShapes Go.WideShapes Go.ChangeAt Go.Joins
theorem Tryz.cells_i64s : Tryz.prog.cellsOf 24 = 1 := by kernel_rfl
theorem Tryz.cells_i64ss : Tryz.prog.cellsOf 42 = 1 := by kernel_rfl
theorem Tryz.cells_field : Tryz.prog.cellsOf 41 = 3 := by kernel_rfl
theorem Tryz.cells_code : Tryz.prog.cellsOf 44 = 4 := by kernel_rfl
structure SLS where
 a : Option Addr
 c : Nat
 xss : List (List Int)
def SLS.val (X : SLS) : Value := .slice X.a X.xss.length X.c
def SLS.ok (X : SLS) (W : World) : Prop := Lens W X.a (X.xss.map List.length) ∧ (total (X.xss.map List.length) ≤ 1048576 → RdS W X.a X.xss) ∧ ∀ xs ∈ X.xss, ∀ x ∈ xs, I64 x
structure FLD where
 p : Int
 d : Int
 l : SL
def FLD.val (X : FLD) : Value := .agg #[.int .i64 X.p, .int .i64 X.d, X.l.val]
def FLD.ok (X : FLD) (W : World) : Prop := I64 X.p ∧ I64 X.d ∧ X.l.ok W
structure COD where
 p : Int
 d : Int
 l : SL
 r : SLS
def COD.val (X : COD) : Value := .agg #[.int .i64 X.p, .int .i64 X.d, X.l.val, X.r.val]
def COD.ok (X : COD) (W : World) : Prop := I64 X.p ∧ I64 X.d ∧ X.l.ok W ∧ X.r.ok W
theorem length_le_total {ls : List Nat} {n : Nat} (h : n ∈ ls) : n ≤ total ls := by
 unfold total
 have : n ≤ ls.sum := by
  induction ls with
  | nil => simp at h
  | cons a l ih =>
   rcases List.mem_cons.1 h with rfl | h
   · simp
   · have := ih h
     simp; omega
 omega
section
variable {H : Type} {enc : TypeId × Value → H} {W : World} {base : Nat} {hd : Bool}
theorem cells_int {fuel : Nat} {cs : List Value} {x : DataW H × List MemPlace} (h : DataW.trod enc Tryz.prog W base (fun _ => true) hd fuel 2 cs = some x) : ∃ a : Int, cs = [.int .i64 a] ∧ I64 a := by
 obtain ⟨a, rfl, _, wa⟩ := DataW.trod_int Tryz.underlying2 h
 exact ⟨a, rfl, I64_of_wf wa⟩
theorem cells_list {fuel : Nat} {cs : List Value} {x : DataW H × List MemPlace} (h : DataW.trod enc Tryz.prog W base (fun _ => true) hd fuel 24 cs = some x) : ∃ X : SL, cs = [X.val] ∧ X.ok W := by
 have key : ∃ a n c, cs = [.slice a n c] := by
  rcases open_ints Tryz.underlying24 Tryz.underlying2 Tryz.cells_i64 h with ⟨hcs, _⟩ | ⟨x, l, cp, zs, hcs, _⟩
  · exact ⟨_, _, _, hcs⟩
  · exact ⟨_, _, _, hcs⟩
 obtain ⟨a, n, c, rfl⟩ := key
 obtain ⟨xs, rfl, h1, h2, h3⟩ := open_list (W := W) (d := x.1) (p := x.2) ⟨fuel, h⟩
 exact ⟨⟨a, c, xs⟩, rfl, h1, h2, h3⟩
theorem cells_rows {fuel : Nat} {cs : List Value} {x : DataW H × List MemPlace} (h : DataW.trod enc Tryz.prog W base (fun _ => true) hd fuel 42 cs = some x) : ∃ X : SLS, cs = [X.val] ∧ X.ok W := by
 rcases Go.Deep.open_int_rows Tryz.underlying42 Tryz.underlying24 Tryz.underlying2 Tryz.cells_i64s Tryz.cells_i64 h with ⟨rfl, _⟩ | ⟨⟨b, off, spot⟩, n, cp, A, L, C, Z, rfl, _, hl, hm, _, hrow⟩
 · exact ⟨⟨none, 0, []⟩, rfl, ⟨by simp, by simp, by simp⟩, fun _ => ⟨by simp, by simp⟩, by simp⟩
 · have hlen : ∀ r, r < n → ((Z r).take (L r)).length = L r := fun r hr => by
     obtain ⟨_, h1, _, h2, _⟩ := hrow r (by omega)
     rw [List.length_take]; omega
   refine ⟨⟨some ⟨b, off, spot⟩, cp, (List.range n).map fun r => (Z r).take (L r)⟩, by simp [SLS.val], ⟨by simp; omega, ?_, fun h0 => ?_⟩, fun ht => ⟨?_, fun h0 => ?_⟩, ?_⟩
   · intro m hm'
     simp only [List.map_map, List.mem_map, List.mem_range, Function.comp] at hm'
     obtain ⟨r, hr, rfl⟩ := hm'
     obtain ⟨_, h1, h2, _⟩ := hrow r (by omega)
     rw [hlen r hr]; omega
   · simp only [List.length_map, List.length_range] at h0
     have hspot : spot = none := by
      have := World.cell?_spot (hrow 0 (by omega)).1
      simpa [Addr.add] using this
     subst hspot
     refine ⟨b, off, rfl, fun i hi => ?_⟩
     simp only [List.length_map, List.length_range] at hi
     have := (hrow i (by omega)).1
     rw [Addr.add_lit] at this
     refine ⟨A i, C i, ?_⟩
     rw [this]
     simp [List.getD, hi, hlen i hi]
   · have h1 : ((List.range n).map fun r => (Z r).take (L r)).length ≤ total (((List.range n).map fun r => (Z r).take (L r)).map List.length) := by unfold total; simp
     simp only at ht ⊢
     omega
   · simp only [List.length_map, List.length_range] at h0
     have hspot : spot = none := by
      have := World.cell?_spot (hrow 0 (by omega)).1
      simpa [Addr.add] using this
     subst hspot
     refine ⟨b, off, rfl, fun i hi => ?_⟩
     simp only [List.length_map, List.length_range] at hi
     obtain ⟨hc, h1, h2, h3, h4, h5, h6⟩ := hrow i (by omega)
     rw [Addr.add_lit] at hc
     have hn : nthL ((List.range n).map fun r => (Z r).take (L r)) i = (Z i).take (L i) := by simp [nthL, hi]
     have hle : L i ≤ 1048576 := by
      refine Nat.le_trans ?_ ht
      refine length_le_total ?_
      simp only [List.map_map, List.mem_map, List.mem_range, Function.comp]
      exact ⟨i, hi, hlen i hi⟩
     simp only
     rw [hn, hlen i hi]
     refine ⟨A i, C i, hc, by rw [hlen i hi]; omega, fun h7 => ?_⟩
     rw [hlen i hi] at h7
     rcases hA : A i with _ | ⟨b', off', spot'⟩
     · have := h5 hA; omega
     · obtain ⟨_, h8⟩ := h6 _ hA
       have hspot : spot' = none := by
        have := World.cell?_spot (h8 0 (by omega))
        simpa [Addr.add] using this
       subst hspot
       refine ⟨b', off', rfl, fun j hj => ?_⟩
       rw [hlen i hi] at hj
       have := h8 j (by omega)
       rw [Addr.add_lit] at this
       rw [this]
       congr 2
       rw [nth, List.getD_eq_getElem?_getD, List.getD_eq_getElem?_getD, List.getElem?_take, if_pos (by omega)]
   · intro xs hxs y hy
     simp only [List.mem_map, List.mem_range] at hxs
     obtain ⟨r, hr, rfl⟩ := hxs
     obtain ⟨_, _, _, _, h4, _⟩ := hrow r (by omega)
     exact I64_of_wf (h4 y (List.mem_of_mem_take hy))
theorem cells_fld {fuel : Nat} {cs : List Value} {x : DataW H × List MemPlace} (h : DataW.trod enc Tryz.prog W base (fun _ => true) hd fuel 41 cs = some x) :
    ∃ X : FLD, cs = [.int .i64 X.p, .int .i64 X.d, X.l.val] ∧ X.ok W := by
 obtain ⟨y0, y1, y2, n, _, hl, h0, h1, h2⟩ := Go.Deep.trod_struct3 Tryz.underlying41 h
 rw [Tryz.cells_field] at hl
 rw [Tryz.cells_i64] at h0 h1
 rw [Tryz.cells_i64s] at h2
 match cs, hl with
 | [c0, c1, c2], _ =>
  obtain ⟨p, e0, i0⟩ := cells_int h0
  obtain ⟨d, e1, i1⟩ := cells_int h1
  obtain ⟨X, e2, i2⟩ := cells_list h2
  simp at e0 e1 e2
  subst e0 e1 e2
  exact ⟨⟨p, d, X⟩, rfl, i0, i1, i2⟩
theorem open_cod {r : Reach} {b0 : Nat} {v : Value} {d : DataW H} {p : List MemPlace} (hv : Value.okWide Tryz.prog W r b0 44 v) (h : DataW.Trod enc Tryz.prog W base (fun _ => true) hd 44 v d p) :
    ∃ X : COD, v = X.val ∧ X.ok W := by
 obtain ⟨cs, rfl, hsz⟩ := okWide_struct Tryz.underlying44 hv
 obtain ⟨fuel, hf⟩ := h
 obtain ⟨y0, y1, n, _, hl, h0, h1⟩ := trod_struct2 Tryz.underlying44 hf
 rw [Tryz.cells_code] at hl
 rw [Tryz.cells_field] at h0
 rw [Tryz.cells_i64ss] at h1
 simp only [Value.cells] at hl h0 h1
 obtain ⟨X, e, ok⟩ := cells_fld h0
 obtain ⟨Y, e', ok'⟩ := cells_rows h1
 refine ⟨⟨X.p, X.d, X.l, Y⟩, ?_, ok.1, ok.2.1, ok.2.2, ok'⟩
 rcases cs with ⟨l⟩
 simp only at hl e e'
 match l, hl with
 | [c0, c1, c2, c3], _ =>
  simp at e e'
  simp [COD.val, e, e']
end
end Go.Proofs.YtgfcbmflnldicaaGreat
