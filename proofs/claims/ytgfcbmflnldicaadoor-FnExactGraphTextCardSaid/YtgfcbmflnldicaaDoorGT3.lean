/-
  Texts joined.
-/
import Derived.Laws.StructEq
import Derived.Test.YtgfcbmflnldicaaDoorGT1
set_option linter.unusedVariables false
set_option linter.unusedSimpArgs false
set_option maxRecDepth 100000
set_option maxHeartbeats 40000000
namespace Go.Proofs.YtgfcbmflnldicaaDoor
open Go.RowKit
def nthE (es : List (Int × Int)) (i : Nat) : Int × Int := es.getD i (0, 0)
theorem nthE_lt {es : List (Int × Int)} {i : Nat} (h : i < es.length) : nthE es i = es[i] := by simp [nthE, h]
theorem nthE_mem {es : List (Int × Int)} {i : Nat} (h : i < es.length) : nthE es i ∈ es := by rw [nthE_lt h]; exact List.getElem_mem h
theorem eq_of_nthE {xs ys : List (Int × Int)} (hl : xs.length = ys.length) (h : ∀ i, i < xs.length → nthE xs i = nthE ys i) : xs = ys := by
 apply List.ext_getElem hl
 intro i h1 h2
 have := h i h1
 rwa [nthE_lt h1, nthE_lt h2] at this
def RdE (w : World) (a : Option Addr) (es : List (Int × Int)) : Prop :=
 es.length ≤ 1073741824 ∧ (0 < es.length → ∃ b off, a = some ⟨b, off, none⟩ ∧ ∀ i, i < es.length → w.cell? ⟨b, off + i * 2, none⟩ = some (.int .i64 (nthE es i).1) ∧ w.cell? ⟨b, off + i * 2 + 1, none⟩ = some (.int .i64 (nthE es i).2))
section
variable {w w' : World} {a : Option Addr} {es : List (Int × Int)} {B : Nat}
theorem RdE.len (h : RdE w a es) : es.length ≤ 1073741824 := h.1
theorem RdE.at_ (h : RdE w a es) (h0 : 0 < es.length) : ∃ b off, a = some ⟨b, off, none⟩ ∧ b < w.heap.size ∧ ∀ i, i < es.length → w.cell? ⟨b, off + i * 2, none⟩ = some (.int .i64 (nthE es i).1) ∧ w.cell? ⟨b, off + i * 2 + 1, none⟩ = some (.int .i64 (nthE es i).2) := by
 obtain ⟨b, off, e, hc⟩ := h.2 h0
 exact ⟨b, off, e, World.block_lt_of_cell? w _ (hc 0 h0).1, hc⟩
theorem RdE.keep (h : RdE w a es) (hk : ∀ p : Addr, p.block < w.heap.size → w'.cell? p = w.cell? p) : RdE w' a es :=
 ⟨h.1, fun h0 => by
  obtain ⟨b, off, e, hb, hc⟩ := h.at_ h0
  exact ⟨b, off, e, fun i hi => ⟨(hk _ hb).trans (hc i hi).1, (hk _ hb).trans (hc i hi).2⟩⟩⟩
theorem RdE.below (h : RdE w a es) (hb : Below w.heap.size w w') : RdE w' a es := h.keep fun _ hp => hb.cell hp
theorem RdE.nil (w : World) (a : Option Addr) : RdE w a [] := ⟨by simp, fun h => by simp at h⟩
theorem RdE.drewN (h : RdE w a es) (k : Nat) : RdE (w.drewN k) a es := h.keep fun _ _ => by simp
theorem RdE.alloc (h : RdE w a es) (o : Obj) : RdE (w.alloc o) a es := h.keep fun p hp => World.cell?_alloc_lt w o p hp
end
def flatE (es : List (Int × Int)) : List Value := es.flatMap fun e => [.int .i64 e.1, .int .i64 e.2]
theorem flatE_len (es : List (Int × Int)) : (flatE es).length = es.length * 2 := by
 induction es with
 | nil => rfl
 | cons e es ih => simp only [flatE, List.flatMap_cons, List.length_append, List.length_cons, List.length_nil] at ih ⊢; omega
theorem flatE_get (es : List (Int × Int)) {i : Nat} (h : i < es.length) : (flatE es)[i * 2]? = some (.int .i64 (nthE es i).1) ∧ (flatE es)[i * 2 + 1]? = some (.int .i64 (nthE es i).2) := by
 induction es generalizing i with
 | nil => simp at h
 | cons e es ih =>
  cases i with
  | zero => exact ⟨rfl, rfl⟩
  | succ i =>
   have := ih (i := i) (by simpa using h)
   have e1 : (i + 1) * 2 = i * 2 + 1 + 1 := by omega
   rw [e1]
   simpa [flatE, nthE] using this
def OwnE (w : World) (B : Nat) (v : Value) (es : List (Int × Int)) : Prop :=
 es.length ≤ 1073741824 ∧ w.ownsRow B 41 2 v es.length (flatE es)
section
variable {w w' : World} {v : Value} {es : List (Int × Int)} {B B' : Nat}
theorem OwnE.form (h : OwnE w B v es) : ∃ a c, v = .slice a es.length c ∧ RdE w a es ∧ (∀ k, v.ownBlock = some k → B ≤ k ∧ k < w.heap.size) := by
 obtain ⟨hl, h⟩ := h
 have hlt := h.lt
 have h2 := h
 rcases h.2 with ⟨rfl, h0⟩ | ⟨g, cap, cur, rfl, hb, hg, hn, hm, hs, ht⟩
 · exact ⟨none, 0, by rw [h0], ⟨hl, fun hh => by omega⟩, hlt⟩
 · refine ⟨some ⟨g, 0, none⟩, cap, rfl, ⟨hl, fun _ => ⟨g, 0, rfl, fun i hi => ?_⟩⟩, hlt⟩
   have e := flatE_get es hi
   have c1 := h2.cells (g := g) rfl _ _ e.1
   have c2 := h2.cells (g := g) rfl _ _ e.2
   rw [Addr.add_lit] at c1 c2
   rw [Nat.zero_add] at c1 c2 ⊢
   exact ⟨c1, c2⟩
theorem OwnE.mono (h : OwnE w B v es) (hB : B' ≤ B) : OwnE w B' v es := by
 obtain ⟨hl, h1, h2⟩ := h
 refine ⟨hl, h1, ?_⟩
 rcases h2 with h2 | ⟨g, cap, cur, e, hb, r⟩
 · exact .inl h2
 · exact .inr ⟨g, cap, cur, e, by omega, r⟩
theorem OwnE.below {B1 : Nat} (h : OwnE w B v es) (hb : Below B1 w w') (hlt : w.heap.size ≤ B1) : OwnE w' B v es := by
 obtain ⟨hl, h1, h2⟩ := h
 refine ⟨hl, h1, ?_⟩
 rcases h2 with h2 | ⟨g, cap, cur, e, hB, hg, r⟩
 · exact .inl h2
 · refine .inr ⟨g, cap, cur, e, hB, ?_, r⟩
   rw [hb.block g (by have := (Array.getElem?_eq_some_iff.1 hg).1; omega)]; exact hg
theorem OwnE.of_rowIs {b n : Nat} {f : Nat → Value} (h : w.rowIs b 41 (n * 2) f) (hB : B ≤ b) (hn : es.length = n) (hl : es.length ≤ 1073741824) (hf : ∀ i, i < n → f (i * 2) = .int .i64 (nthE es i).1 ∧ f (i * 2 + 1) = .int .i64 (nthE es i).2) :
    OwnE w B (.slice (some ⟨b, 0, none⟩) n n) es := by
 obtain ⟨c, hb, hc, hi⟩ := h
 subst hn
 refine ⟨hl, flatE_len es, .inr ⟨b, _, c, rfl, hB, hb, Nat.le_refl _, by unfold maxLen; omega, by omega, ?_⟩⟩
 apply List.ext_getElem?
 intro i
 rw [List.getElem?_take]
 split
 · rename_i hlt
   rw [Array.getElem?_toList, hi i hlt]
   have h2 : i / 2 < es.length := by omega
   rcases Nat.mod_two_eq_zero_or_one i with h0 | h1
   · have e : i = i / 2 * 2 := by omega
     rw [e, (hf _ h2).1, (flatE_get es h2).1]
   · have e : i = i / 2 * 2 + 1 := by omega
     rw [e, (hf _ h2).2, (flatE_get es h2).2]
 · rw [List.getElem?_eq_none (by rw [flatE_len]; omega)]
end
theorem Tryd.info_edge : (Tryd.prog.info? 41).map (fun i => (i.zero, i.size, i.bytes)) = some (some (.agg #[.int .i64 0, .int .i64 0]), 2, 16) := by kernel_rfl
theorem make_edges (n : Nat) (hn : n ≤ 1073741824) (w : World) :
    (Instr.makeSlice 28 (.int .i64 (n : Int)) (.int .i64 (n : Int))).run Tryd.prog w = .ok (.slice (some ⟨w.heap.size, 0, none⟩) n n) (w.alloc (.cells (madeCells #[.int .i64 0, .int .i64 0] (n * 2)) 41)) := by
 obtain ⟨i, hi, hzz⟩ := Option.map_eq_some_iff.1 Tryd.info_edge
 simp only [Prod.mk.injEq] at hzz
 obtain ⟨hz, hs, hb⟩ := hzz
 have hr := run_make (P := Tryd.prog) w 28 41 i _ Tryd.underlying28 hi hz .i64 .i64 n n (by omega) (Int.le_refl _) (by rw [hb]; omega) (by omega)
 simp only [Int.toNat_natCast, hs] at hr
 exact hr
theorem rowIs_made_edges (w : World) (n : Nat) : (w.alloc (.cells (madeCells #[.int .i64 0, .int .i64 0] (n * 2)) 41)).rowIs w.heap.size 41 (n * 2) (fun _ => .int .i64 0) :=
 ⟨madeCells #[.int .i64 0, .int .i64 0] (n * 2), heap_alloc_new w _, size_madeCells _ _, fun i hi => by
  rcases Nat.mod_two_eq_zero_or_one i with h0 | h1
  · simp [madeCells, hi, h0]
  · simp [madeCells, hi, h1]⟩
theorem szEdgeS_any (a : Option Addr) (n c : Nat) (k : Int) (w : World) (hn : n ≤ maxLen) (hk0 : 0 ≤ k) (hk1 : k ≤ 1048576) :
    Calls Tryd.prog 10 #[.slice a n c, .int .i64 k] w fun e w' => e = .returned (.int .i64 (left k n)) ∧ w' = w := by
 unfold maxLen at hn
 by_cases h : (n : Int) ≤ k
 · go_enter Tryd.func10, Tryd.ntmps10
   go_wp2
   go_ret
   exact ⟨ret_int (left_yes (by omega)).symm, rfl⟩
 · go_enter Tryd.func10, Tryd.ntmps10
   go_wp2
   go_ret
   exact ⟨ret_int (left_no (by omega)).symm, rfl⟩
theorem toEdge_any (x y : Int) (w : World) :
    Calls Tryd.prog 26 #[.agg #[.int .i64 x, .int .i64 y]] w fun e w' => e = .returned (.agg #[.int .i64 x, .int .i64 y]) ∧ Below w.heap.size w w' := by
 go_enter Tryd.func26, Tryd.ntmps26
 go_wp2
 exact bodyPost_ret (results_cell_row rfl _ _ (w.heap.size + 1) 41 #[.int .i64 x, .int .i64 y] (0, 0) _ rfl
  ((Blk.new _ _ _ (by simp)).alloc _) Tryd.underlying41 rfl (by kernel_rfl)) rfl ⟨rfl, (((Below.refl _ _).alloc (Nat.le_refl _) _).alloc (by simp) _).alloc (by simp; omega) _⟩
theorem toEdgeS_any (a : Option Addr) (c : Nat) (es : List (Int × Int)) (w : World) (hx : RdE w a es) :
    Calls Tryd.prog 14 #[.slice a es.length c] w fun e w' => ∃ v, e = .returned v ∧ OwnE w' w.heap.size v es ∧ Below w.heap.size w w' := by
 have hxl := hx.len
 have hmk := make_edges es.length hxl
 go_enter Tryd.func14, Tryd.ntmps14
 go_wp2
 go_loopw [4] (fun i wr => ∃ (k : Nat) (f : Nat → Value), i = .int .i64 k ∧ k ≤ es.length ∧ wr.rowIs w.heap.size 41 (es.length * 2) f ∧ Hid (∀ j, j < k → f (j * 2) = .int .i64 (nthE es j).1 ∧ f (j * 2 + 1) = .int .i64 (nthE es j).2) ∧ Below w.heap.size w wr) (fun i _ => es.length - (intOf i).toNat)
 case atStart => exact ⟨0, _, rfl, by omega, rowIs_made_edges w _, fun j hj => by omega, (Below.refl _ _).alloc (Nat.le_refl _) _⟩
 case round =>
  obtain ⟨k, f, rfl, hk, hrow, hf, hb⟩ := hrel
  by_cases hkl : k < es.length
  · obtain ⟨b1, o1, rfl, hb1, hcx⟩ := hx.at_ (by omega)
    have hx1 := (hb.cell (p := ⟨b1, o1 + k * 2, none⟩) hb1).trans (hcx k hkl).1
    have hx2 := (hb.cell (p := ⟨b1, o1 + k * 2 + 1, none⟩) hb1).trans (hcx k hkl).2
    have sr := hrow.lt
    have HR := Lib.hid hrow
    clear hcx hx hrow hmk
    go_wp2_with fail
    refine (toEdge_any _ _ _).mono ?_
    rintro e w1 ⟨rfl, b1⟩
    have hrow1 := HR.out.of_block (b1.block _ sr)
    have hc1 := hrow1.cell (i := k * 2) (by omega)
    have hc2 := hrow1.cell (i := k * 2 + 1) (by omega)
    have hf1 := hrow1.frozen (k * 2)
    have hf2 := hrow1.frozen (k * 2 + 1)
    have HR1 := Lib.hid hrow1
    clear hrow1
    go_wp2
    go_roundw
    case rel =>
     refine ⟨k + 1, _, by go_num, by omega, (HR1.out.set (k * 2) _).set (k * 2 + 1) _, fun j hj => ?_, ((hb.trans (b1.mono (by omega))).setCell (Nat.le_refl _) _).setCell (Nat.le_refl _) _⟩
     by_cases h1 : j = k
     · subst h1; simp
     · have := hf.out j (by omega)
       rw [if_neg (by omega), if_neg (by omega), if_neg (by omega), if_neg (by omega)]
       exact this
    case measure => simp [intOf]; omega
  · have HR := Lib.hid hrow
    clear hrow
    go_wp2
    go_ret
    exact ⟨_, rfl, OwnE.of_rowIs HR.out (Nat.le_refl _) rfl hxl (fun i hi => hf.out i (by omega)), hb⟩
def eqE (e f : Int × Int) : Bool := decide (e = f)
theorem eqEdge_any (e f : Int × Int) (w : World) :
    Calls Tryd.prog 37 #[.agg #[.int .i64 e.1, .int .i64 e.2], .agg #[.int .i64 f.1, .int .i64 f.2]] w fun r w' => r = .returned (.bool (eqE e f)) ∧ Below w.heap.size w w' := by
 obtain ⟨x, y⟩ := e
 obtain ⟨x', y'⟩ := f
 simp only
 have hb : ∀ o o', Below w.heap.size w ((w.alloc o).alloc o') := fun o o' => ((Below.refl _ _).alloc (Nat.le_refl _) _).alloc (by simp) _
 by_cases h1 : x = x'
 · by_cases h2 : y = y'
   · go_enter Tryd.func37, Tryd.ntmps37
     go_wp2
     go_ret
     exact ⟨ret_bool (by simp [eqE, h1, h2]), hb _ _⟩
   · go_enter Tryd.func37, Tryd.ntmps37
     go_wp2
     go_ret
     exact ⟨ret_bool (by simp [eqE, h2]), hb _ _⟩
 · go_enter Tryd.func37, Tryd.ntmps37
   go_wp2
   go_ret
   exact ⟨ret_bool (by simp [eqE, h1]), hb _ _⟩
theorem not_all_eqE {xs ys : List (Int × Int)} {k : Nat} (h : nthE xs k ≠ nthE ys k) : decide (xs = ys) = false := by
 rw [decide_eq_false_iff_not]
 rintro rfl
 exact h rfl
theorem all_eqE {xs ys : List (Int × Int)} {k : Nat} (hl : xs.length = ys.length) (hk : ¬ k < xs.length) (h : ∀ j, j < k → nthE xs j = nthE ys j) : decide (xs = ys) = true := by
 rw [decide_eq_true_eq]
 exact eq_of_nthE hl fun i hi => h i (by omega)
end Go.Proofs.YtgfcbmflnldicaaDoor
