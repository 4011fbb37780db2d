/-
  Texts joined.
-/
import Derived.BigQuiet
import Derived.Deep.DeepMust
import Derived.Deep.Draws
import Derived.Deep.OwnRows
import Derived.Deep.QuietTactic
import Derived.Lib.Hide
import Derived.Maps.AppendAt
import Derived.Test.YtgfcbmflnldicaaGreatProg
import Derived.WalkKit
import Derived.WalkLawsBesides
import Derived.WalkSpells

set_option linter.unusedVariables false
set_option linter.unusedSimpArgs false
set_option maxRecDepth 100000
set_option maxHeartbeats 40000000
namespace Go.Proofs.YtgfcbmflnldicaaGreat
open Go.RowKit
theorem Tryz.info_i64 : (Tryz.prog.info? 2).map (fun i => (i.zero, i.size, i.bytes)) = some (some (.int .i64 0), 1, 8) := by kernel_rfl
theorem hide {p : Prop} (h : p) : Hid p := h
theorem unhide {p : Prop} (h : Hid p) : p := h
theorem ret_bool {a b : Bool} (h : a = b) : Ending.returned (.bool a) = Ending.returned (.bool b) := by rw [h]
theorem ret_int {k : IntKind} {a b : Int} (h : a = b) : Ending.returned (.int k a) = Ending.returned (.int k b) := by rw [h]
def Qt (w w' : World) : Prop := ∃ k, w' = w.drewN k
theorem Qt.refl (w : World) : Qt w w := ⟨0, rfl⟩
theorem Qt.one (w : World) (k : Nat) : Qt w (w.drewN k) := ⟨k, rfl⟩
theorem Qt.two (w : World) (j k : Nat) : Qt w ((w.drewN j).drewN k) := ⟨j + k, by rw [World.drewN_drewN]⟩
theorem Qt.trans {a b c : World} (h : Qt a b) (k : Qt b c) : Qt a c := by
 obtain ⟨m, rfl⟩ := h
 obtain ⟨n, rfl⟩ := k
 exact Qt.two _ _ _
theorem Qt.below {w w' : World} (h : Qt w w') (B : Nat) : Below B w w' := by
 obtain ⟨k, rfl⟩ := h
 exact ⟨rfl, rfl, rfl, Nat.le_refl _, fun _ _ => rfl⟩
def Blk (w : World) (g : Nat) (t : TypeId) (cs : Array Value) : Prop := w.heap[g]? = some (.cells cs t (0, 0))
section
variable {w w' : World} {g : Nat} {t : TypeId} {cs : Array Value}
theorem Blk.lt (h : Blk w g t cs) : g < w.heap.size := (Array.getElem?_eq_some_iff.1 h).1
theorem Blk.cell (h : Blk w g t cs) (i : Nat) : w.cell? ⟨g, i, none⟩ = cs[i]? := cell_of_row w g i cs t (0, 0) h
theorem Blk.frozen (h : Blk w g t cs) (i : Nat) : w.frozen? ⟨g, i, none⟩ = false := frozen_of_row w g i cs t h
theorem Blk.new (w : World) (t : TypeId) (cs : Array Value) {g : Nat} (hg : g = w.heap.size) : Blk (w.alloc (.cells cs t)) g t cs := by subst hg; exact heap_alloc_new w _
theorem Blk.alloc (h : Blk w g t cs) (o : Obj) : Blk (w.alloc o) g t cs := (Below.heap_alloc w o g h.lt).trans h
theorem Blk.below {B : Nat} (h : Blk w g t cs) (hb : Below B w w') (hg : g < B) : Blk w' g t cs := (hb.block g hg).trans h
theorem Blk.drewN (h : Blk w g t cs) (n : Nat) : Blk (w.drewN n) g t cs := h
theorem Blk.set_ (h : Blk w g t cs) (i : Nat) (u : Value) : Blk (w.setCell ⟨g, i, none⟩ u) g t (cs.setIfInBounds i u) := heap_setCell_same w g i cs t u h
theorem Blk.far (h : Blk w g t cs) {p : Addr} (hp : g ≠ p.block) (u : Value) : Blk (w.setCell p u) g t cs := (Below.heap_setCell w p u g hp).trans h
end
def nth (xs : List Int) (i : Nat) : Int := xs.getD i 0
theorem nth_lt {xs : List Int} {i : Nat} (h : i < xs.length) : nth xs i = xs[i] := by simp [nth, h]
theorem take_nth {xs : List Int} {k : Nat} (h : k < xs.length) : xs.take (k + 1) = xs.take k ++ [nth xs k] := by
 rw [List.take_add_one, nth_lt h, List.getElem?_eq_getElem h]; rfl
theorem eq_of_nth {xs ys : List Int} (hl : xs.length = ys.length) (h : ∀ i, i < xs.length → nth xs i = nth ys i) : xs = ys := by
 apply List.ext_getElem hl
 intro i h1 h2
 have := h i h1
 rwa [nth_lt h1, nth_lt h2] at this
theorem nth_mem {xs : List Int} {k : Nat} (h : k < xs.length) : nth xs k ∈ xs := by rw [nth_lt h]; exact List.getElem_mem h
def Rd (w : World) (a : Option Addr) (xs : List Int) : Prop :=
 xs.length ≤ 1073741824 ∧ (0 < xs.length → ∃ b off, a = some ⟨b, off, none⟩ ∧ ∀ i, i < xs.length → w.cell? ⟨b, off + i, none⟩ = some (.int .i64 (nth xs i)))
section
variable {w w' : World} {a : Option Addr} {xs : List Int} {B : Nat}
theorem Rd.len (h : Rd w a xs) : xs.length ≤ 1073741824 := h.1
theorem Rd.at_ (h : Rd w a xs) (h0 : 0 < xs.length) : ∃ b off, a = some ⟨b, off, none⟩ ∧ b < w.heap.size ∧ ∀ i, i < xs.length → w.cell? ⟨b, off + i, none⟩ = some (.int .i64 (nth xs i)) := by
 obtain ⟨b, off, e, hc⟩ := h.2 h0
 exact ⟨b, off, e, World.block_lt_of_cell? w _ (hc 0 h0), hc⟩
theorem Rd.keep (h : Rd w a xs) (hk : ∀ p : Addr, p.block < w.heap.size → w'.cell? p = w.cell? p) : Rd w' a xs :=
 ⟨h.1, fun h0 => by
  obtain ⟨b, off, e, hb, hc⟩ := h.at_ h0
  exact ⟨b, off, e, fun i hi => (hk _ hb).trans (hc i hi)⟩⟩
theorem Rd.below (h : Rd w a xs) (hb : Below w.heap.size w w') : Rd w' a xs := h.keep fun _ hp => hb.cell hp
theorem Rd.nil (w : World) (a : Option Addr) : Rd w a [] := ⟨by simp, fun h => by simp at h⟩
theorem Rd.drewN (h : Rd w a xs) (k : Nat) : Rd (w.drewN k) a xs := h.keep fun _ _ => by simp
end
def Own (w : World) (B : Nat) (v : Value) (xs : List Int) : Prop :=
 xs.length ≤ 1073741824 ∧ w.ownsRow B 2 1 v xs.length (xs.map (Value.int .i64))
section
variable {w w' : World} {v : Value} {xs : List Int} {B B' : Nat}
theorem Own.form (h : Own w B v xs) : ∃ a c, v = .slice a xs.length c ∧ Rd w a xs ∧ (∀ k, v.ownBlock = some k → B ≤ k ∧ k < w.heap.size) := by
 obtain ⟨hl, h⟩ := h
 have hlt := h.lt
 have h2 := h
 rcases h.2 with ⟨rfl, h0⟩ | ⟨g, cap, cur, rfl, hb, hg, hn, hm, hs, ht⟩
 · exact ⟨none, 0, by rw [h0], ⟨hl, fun hh => by omega⟩, hlt⟩
 · refine ⟨some ⟨g, 0, none⟩, cap, rfl, ⟨hl, fun _ => ⟨g, 0, rfl, fun i hi => ?_⟩⟩, hlt⟩
   rw [Nat.zero_add, h2.cellAt i (by omega), List.getElem?_map, List.getElem?_eq_getElem hi, nth_lt hi]; rfl
theorem Own.rd {a : Option Addr} {n c : Nat} (h : Own w B (.slice a n c) xs) : Rd w a xs := by
 obtain ⟨a', c', e, hr, _⟩ := h.form
 injection e with e1 e2 e3
 subst e1; exact hr
theorem Own.len {a : Option Addr} {n c : Nat} (h : Own w B (.slice a n c) xs) : n = xs.length := by
 obtain ⟨a', c', e, hr, _⟩ := h.form
 injection e with e1 e2 e3
theorem Own.mono (h : Own w B v xs) (hB : B' ≤ B) : Own w B' v xs := by
 obtain ⟨hl, h1, h2⟩ := h
 refine ⟨hl, h1, ?_⟩
 rcases h2 with h2 | ⟨g, cap, cur, e, hb, r⟩
 · exact .inl h2
 · exact .inr ⟨g, cap, cur, e, by omega, r⟩
theorem Own.below {B1 : Nat} (h : Own w B v xs) (hb : Below B1 w w') (hlt : w.heap.size ≤ B1) : Own w' B v xs := by
 obtain ⟨hl, h1, h2⟩ := h
 refine ⟨hl, h1, ?_⟩
 rcases h2 with h2 | ⟨g, cap, cur, e, hB, hg, r⟩
 · exact .inl h2
 · refine .inr ⟨g, cap, cur, e, hB, ?_, r⟩
   rw [hb.block g (by have := (Array.getElem?_eq_some_iff.1 hg).1; omega)]; exact hg
theorem Own.of_rowIs {b n : Nat} {f : Nat → Value} (h : w.rowIs b 2 n f) (hB : B ≤ b) (hn : xs.length = n) (hl : xs.length ≤ 1073741824) (hf : ∀ i, i < n → f i = .int .i64 (nth xs i)) :
    Own w B (.slice (some ⟨b, 0, none⟩) n n) xs := by
 obtain ⟨c, hb, hc, hi⟩ := h
 subst hn
 refine ⟨hl, by simp, .inr ⟨b, _, c, rfl, hB, hb, Nat.le_refl _, by unfold maxLen; omega, by omega, ?_⟩⟩
 apply List.ext_getElem?
 intro i
 rw [Nat.mul_one, List.getElem?_take, List.getElem?_map]
 split
 · rename_i hlt
   rw [Array.getElem?_toList, hi i hlt, hf i hlt, List.getElem?_eq_getElem hlt, nth_lt hlt]; rfl
 · rw [List.getElem?_eq_none (by omega)]; rfl
theorem Own.set {g n c : Nat} (h : Own w B (.slice (some ⟨g, 0, none⟩) n c) xs) (j : Nat) (x : Int) :
    Own (w.setCell ⟨g, j, none⟩ (.int .i64 x)) B (.slice (some ⟨g, 0, none⟩) n c) (xs.set j x) ∧ w.grownBy (w.setCell ⟨g, j, none⟩ (.int .i64 x)) (some g) := by
 have hl := h.len
 subst hl
 obtain ⟨hl, h⟩ := h
 obtain ⟨h1, h2⟩ := h.stored j (.int .i64 x)
 refine ⟨⟨by simpa using hl, ?_⟩, h2⟩
 rw [List.map_set, List.length_set]; exact h1
theorem Own.cell {g n c : Nat} (h : Own w B (.slice (some ⟨g, 0, none⟩) n c) xs) {j : Nat} (hj : j < xs.length) : w.cell? ⟨g, j, none⟩ = some (.int .i64 (nth xs j)) := by
 have hl := h.len
 subst hl
 rw [h.2.cellAt j (by omega), List.getElem?_map, List.getElem?_eq_getElem hj, nth_lt hj]; rfl
theorem Own.frozen {g n c : Nat} (h : Own w B (.slice (some ⟨g, 0, none⟩) n c) xs) (j : Nat) : w.frozen? ⟨g, j, none⟩ = false := by
 have hl := h.len
 subst hl
 exact h.2.frozenAt j
theorem Own.grow (h : Own w B v xs) {row : Option Nat} (hg : w.grownBy w' row) (hne : v.ownBlock = none ∨ v.ownBlock ≠ row) : Own w' B v xs := ⟨h.1, h.2.kept hg hne⟩
theorem Own.lt (h : Own w B v xs) : ∀ k, v.ownBlock = some k → B ≤ k ∧ k < w.heap.size := h.2.lt
theorem Rd.grow {a : Option Addr} (h : Rd w a xs) {row : Option Nat} (hg : w.grownBy w' row) (hne : ∀ p, a = some p → some p.block ≠ row) : Rd w' a xs :=
 ⟨h.1, fun h0 => by
  obtain ⟨b, off, rfl, hb, hc⟩ := h.at_ h0
  exact ⟨b, off, rfl, fun i hi => hg.cell (hc i hi) (hne ⟨b, off, none⟩ rfl)⟩⟩
theorem Own.slice_form (h : Own w B v xs) : (v = .slice none 0 0 ∧ xs = []) ∨ ∃ g c, v = .slice (some ⟨g, 0, none⟩) xs.length c ∧ B ≤ g ∧ g < w.heap.size := by
 have hlt := h.lt
 rcases h.2.2 with ⟨rfl, h0⟩ | ⟨g, cap, cur, rfl, hb, hg, hn, hm, hs, ht⟩
 · exact .inl ⟨rfl, List.eq_nil_of_length_eq_zero h0⟩
 · exact .inr ⟨g, cap, rfl, hlt g rfl⟩
theorem Own.nil (w : World) (B : Nat) : Own w B (.slice none 0 0) [] := ⟨by simp, World.ownsRow_nil _ _ _ _⟩
theorem grown_trans_row {a b c : World} {row : Option Nat} (h : a.grownBy b row) (k : b.grownBy c row) : a.grownBy c row :=
 ⟨k.os.trans h.os, k.tape.trans h.tape, k.output.trans h.output, Nat.le_trans h.size k.size, fun i hi hne => (k.block i (Nat.lt_of_lt_of_le hi h.size) hne).trans (h.block i hi hne)⟩
end
theorem Rd.one (w : World) (y : Int) (t : TypeId) : Rd (w.alloc (.cells #[.int .i64 y] t)) (some ⟨w.heap.size, 0, none⟩) [y] :=
 ⟨by simp, fun _ => ⟨_, _, rfl, fun i hi => by
  obtain rfl : i = 0 := by simpa using hi
  rw [World.cell?_alloc_at _ _ _ _ rfl]; rfl⟩⟩
theorem Rd.alloc {w : World} {a : Option Addr} {xs : List Int} (h : Rd w a xs) (o : Obj) : Rd (w.alloc o) a xs := h.keep fun p hp => World.cell?_alloc_lt w o p hp
theorem Own.alloc {w : World} {B : Nat} {v : Value} {xs : List Int} (h : Own w B v xs) (o : Obj) : Own (w.alloc o) B v xs := ⟨h.1, h.2.alloc o⟩
theorem Own.drewN {w : World} {B : Nat} {v : Value} {xs : List Int} (h : Own w B v xs) (k : Nat) : Own (w.drewN k) B v xs := h
theorem Below.chain {a b c : World} (h : Below a.heap.size a b) (k : Below b.heap.size b c) : Below a.heap.size a c := h.trans (k.mono h.size)
theorem Below.drewn {a : World} (n : Nat) : Below a.heap.size a (a.drewN n) := Qt.below ⟨n, rfl⟩ _
theorem Own.empty (w : World) {B : Nat} (hB : B ≤ w.heap.size) : Own (w.alloc (.cells #[] 2)) B (.slice (some ⟨w.heap.size, 0, none⟩) 0 0) [] :=
 ⟨by simp, World.ownsRow_made w #[] 0 hB (by simp) rfl⟩
theorem Below.step {B : Nat} {a w w' : World} {v : Value} {xs : List Int} {Bo : Nat} (h : Below B a w) (hg : w.grownBy w' v.ownBlock) (ho : Own w Bo v xs) (hBo : B ≤ Bo) (hB : B ≤ w.heap.size) : Below B a w' :=
 h.grown hg hB (fun k hk => by have := (ho.lt k hk).1; omega)
theorem wpList_append_ints {w : World} {ops : Array Oper} {rest : List Oper} {o : Oper} {a : Act} {Q : Exit → Act → World → Prop} (hgd : o.guard = none) (s x : Operand)
    (ho : o.op = .call { callee := .builtin .append, args := #[s, x], argTypes := #[24, 24] })
    (B : Nat) (v : Value) (xs ys : List Int) (hs : a.eval s = v) (hown : Own w B v xs) (ad : Option Addr) (m c : Nat) (hx : a.eval x = .slice ad m c) (hm : m = ys.length) (hr : Rd w ad ys)
    (hl : xs.length + ys.length ≤ 1073741824) (hB : B ≤ w.heap.size)
    (h : ∀ v' w', Own w' B v' (xs ++ ys) → w.grownBy w' v.ownBlock → (v'.ownBlock = v.ownBlock ∨ v'.ownBlock = some w.heap.size) → wpList Tryz.prog ops Q rest (a.put o.dst v') w') :
    wpList Tryz.prog ops Q (o :: rest) a w := by
 obtain ⟨i0, hi0, hz0, hz1, hz2⟩ := info_parts Tryz.info_i64
 refine wpList_plain hgd fun K hK => ?_
 have key : ∃ v' w', (Builtin.append_ #[24, 24] o.type #[v, .slice ad m c]).run Tryz.prog w = .ok v' w' ∧ Own w' B v' (xs ++ ys) ∧ w.grownBy w' v.ownBlock ∧ (v'.ownBlock = v.ownBlock ∨ v'.ownBlock = some w.heap.size) := by
  rcases Nat.eq_zero_or_pos ys.length with h0 | h0
  · have hy : ys = [] := List.eq_nil_of_length_eq_zero h0
    subst hy
    simp only [List.length_nil] at hm
    subst hm
    refine ⟨v, w, ?_, by simpa using hown, World.grownBy.refl w _, .inl rfl⟩
    rcases hown.2.2 with ⟨rfl, h0⟩ | ⟨g, cap, cur, rfl, _, _, hnc, _⟩
    · cases ad <;> simp [Builtin.append_, run_underlying Tryz.underlying24, sizeOf, typeInfo, hi0, Builtin.lenOf, Builtin.firstCells, loadCells, loadCellsFrom]
    · cases ad <;> simp [Builtin.append_, run_underlying Tryz.underlying24, sizeOf, typeInfo, hi0, Builtin.lenOf, Builtin.firstCells, hnc, storeCells, loadCells, loadCellsFrom]
  · obtain ⟨b, off, rfl, _, hc⟩ := hr.at_ h0
    obtain ⟨v', w', h1, h2, h3, _, h5⟩ := run_append_own_at (P := Tryz.prog) w B 24 o.type 2 i0 (.int .i64 0) 1 8 Tryz.underlying24 hi0 hz0 hz1 hz2 rfl (by omega) v xs.length (xs.map (Value.int .i64)) hown.2 ⟨b, off, none⟩ m c (ys.map (Value.int .i64)) (by simp [hm])
     (fun j u hu => by
      have hj : j < ys.length := by
       have := (List.getElem?_eq_some_iff.1 hu).1
       simpa using this
      rw [Addr.add_lit, hc j hj, ← hu, List.getElem?_map, List.getElem?_eq_getElem hj, nth_lt hj]; rfl)
     (ints_oneCell _ _) (by unfold maxLen; omega) (by omega) hB
    exact ⟨v', w', h1, ⟨by simpa using hl, by rw [List.map_append, List.length_append, ← hm]; exact h2⟩, h3, h5⟩
 obtain ⟨v', w', hrun, h2, h3, h4⟩ := key
 unfold Oper.wp execOp
 simp only [ho, resolve, invoke, builtin, Sem.run_bind, Sem.run_pure, Result.andThen_ok, List.map_toArray, List.map_cons, List.map_nil, hs, hx, hrun]
 exact hK _ _ (h v' w' h2 h3 h4)
def In (v : Value) (lo hi : Nat) : Prop := ∀ k, v.ownBlock = some k → lo ≤ k ∧ k < hi
theorem Rd.apart {w w' : World} {a : Option Addr} {xs : List Int} (h : Rd w a xs) {u : Value} (hg : w.grownBy w' u.ownBlock) {n c lo hi lo' hi' : Nat} (ha : 0 < xs.length → In (.slice a n c) lo hi) (hu : In u lo' hi') (hd : hi ≤ lo' ∨ hi' ≤ lo) : Rd w' a xs :=
 ⟨h.1, fun h0 => by
  obtain ⟨b, off, rfl, hb, hc⟩ := h.at_ h0
  refine ⟨b, off, rfl, fun i hi => hg.cell (hc i hi) fun e => ?_⟩
  have h1 := ha h0 b rfl
  have h2 := hu b e.symm
  omega⟩
theorem Own.apart {w w' : World} {B : Nat} {v : Value} {xs : List Int} (h : Own w B v xs) {u : Value} (hg : w.grownBy w' u.ownBlock) {lo hi lo' hi' : Nat} (hv : In v lo hi) (hu : In u lo' hi') (hd : hi ≤ lo' ∨ hi' ≤ lo) : Own w' B v xs :=
 h.grow hg (by
  rcases hx : v.ownBlock with _ | k
  · exact .inl rfl
  · refine .inr fun e => ?_
    have h1 := hv k hx
    have h2 := hu k e.symm
    omega)
theorem Below.wrote {B : Nat} {w w' : World} {u : Value} {lo hi : Nat} (hg : w.grownBy w' u.ownBlock) (hu : In u lo hi) (hB : B ≤ w.heap.size) (hlo : B ≤ lo) : Below B w w' :=
 (Below.refl B w).grown hg hB fun k hk => by have := (hu k hk).1; omega
end Go.Proofs.YtgfcbmflnldicaaGreat
namespace Go.Proofs.YtgfcbmflnldicaaGreat
open Go.RowKit
theorem Tryz.info_row : (Tryz.prog.info? 24).map (fun i => (i.zero, i.size, i.bytes)) = some (some (.slice none 0 0), 1, 24) := by kernel_rfl
def nthL (xss : List (List Int)) (i : Nat) : List Int := xss.getD i []
theorem nthL_lt {xss : List (List Int)} {i : Nat} (h : i < xss.length) : nthL xss i = xss[i] := by simp [nthL, h]
theorem nthL_mem {xss : List (List Int)} {i : Nat} (h : i < xss.length) : nthL xss i ∈ xss := by rw [nthL_lt h]; exact List.getElem_mem h
theorem eq_of_nthL {xs ys : List (List Int)} (hl : xs.length = ys.length) (h : ∀ i, i < xs.length → nthL xs i = nthL ys i) : xs = ys := by
 apply List.ext_getElem hl
 intro i h1 h2
 have := h i h1
 rwa [nthL_lt h1, nthL_lt h2] at this
def RdS (w : World) (a : Option Addr) (xss : List (List Int)) : Prop :=
 xss.length ≤ 1073741824 ∧ (0 < xss.length → ∃ b off, a = some ⟨b, off, none⟩ ∧ ∀ i, i < xss.length → ∃ ai ci, w.cell? ⟨b, off + i, none⟩ = some (.slice ai (nthL xss i).length ci) ∧ Rd w ai (nthL xss i))
section
variable {w w' : World} {a : Option Addr} {xss : List (List Int)} {B : Nat}
theorem RdS.len (h : RdS w a xss) : xss.length ≤ 1073741824 := h.1
theorem RdS.at_ (h : RdS w a xss) (h0 : 0 < xss.length) : ∃ b off, a = some ⟨b, off, none⟩ ∧ b < w.heap.size ∧ ∀ i, i < xss.length → ∃ ai ci, w.cell? ⟨b, off + i, none⟩ = some (.slice ai (nthL xss i).length ci) ∧ Rd w ai (nthL xss i) := by
 obtain ⟨b, off, e, hc⟩ := h.2 h0
 obtain ⟨_, _, h1, _⟩ := hc 0 h0
 exact ⟨b, off, e, World.block_lt_of_cell? w _ h1, hc⟩
theorem RdS.keep (h : RdS w a xss) (hk : ∀ p : Addr, p.block < w.heap.size → w'.cell? p = w.cell? p) : RdS w' a xss :=
 ⟨h.1, fun h0 => by
  obtain ⟨b, off, e, hb, hc⟩ := h.at_ h0
  refine ⟨b, off, e, fun i hi => ?_⟩
  obtain ⟨ai, ci, h1, h2⟩ := hc i hi
  exact ⟨ai, ci, (hk _ hb).trans h1, h2.keep hk⟩⟩
theorem RdS.below (h : RdS w a xss) (hb : Below w.heap.size w w') : RdS w' a xss := h.keep fun _ hp => hb.cell hp
theorem RdS.nil (w : World) (a : Option Addr) : RdS w a [] := ⟨by simp, fun h => by simp at h⟩
theorem RdS.drewN (h : RdS w a xss) (k : Nat) : RdS (w.drewN k) a xss := h.keep fun _ _ => by simp
theorem RdS.alloc (h : RdS w a xss) (o : Obj) : RdS (w.alloc o) a xss := h.keep fun p hp => World.cell?_alloc_lt w o p hp
end
def Lens (w : World) (a : Option Addr) (ls : List Nat) : Prop :=
 ls.length ≤ maxLen ∧ (∀ n ∈ ls, n ≤ maxLen) ∧ (0 < ls.length → ∃ b off, a = some ⟨b, off, none⟩ ∧ ∀ i, i < ls.length → ∃ ai ci, w.cell? ⟨b, off + i, none⟩ = some (.slice ai (ls.getD i 0) ci))
theorem Lens.keep {w w' : World} {a : Option Addr} {ls : List Nat} (h : Lens w a ls) (hk : ∀ p : Addr, p.block < w.heap.size → w'.cell? p = w.cell? p) : Lens w' a ls :=
 ⟨h.1, h.2.1, fun h0 => by
  obtain ⟨b, off, e, hc⟩ := h.2.2 h0
  refine ⟨b, off, e, fun i hi => ?_⟩
  obtain ⟨ai, ci, h1⟩ := hc i hi
  exact ⟨ai, ci, (hk _ (World.block_lt_of_cell? w _ h1)).trans h1⟩⟩
theorem Lens.alloc {w : World} {a : Option Addr} {ls : List Nat} (h : Lens w a ls) (o : Obj) : Lens (w.alloc o) a ls := h.keep fun p hp => World.cell?_alloc_lt w o p hp
theorem Lens.below {w w' : World} {a : Option Addr} {ls : List Nat} (h : Lens w a ls) (hb : Below w.heap.size w w') : Lens w' a ls := h.keep fun _ hp => hb.cell hp
def Inner (w : World) (B : Nat) (vs : List Value) (xss : List (List Int)) : Prop :=
 vs.length = xss.length ∧ (∀ (i : Nat) (x : Value), vs[i]? = some x → Own w B x (nthL xss i)) ∧
  (∀ (i j : Nat) (x y : Value) (k : Nat), i ≠ j → vs[i]? = some x → vs[j]? = some y → x.ownBlock = some k → y.ownBlock ≠ some k)
def OwnS (w : World) (B : Nat) (v : Value) (xss : List (List Int)) : Prop :=
 xss.length ≤ 1073741824 ∧ ∃ vs : List Value, w.ownsRow B 24 1 v xss.length vs ∧ Inner w B vs xss
section
variable {w w' : World} {B : Nat} {vs : List Value} {xss : List (List Int)}
theorem Inner.nil (w : World) (B : Nat) : Inner w B [] [] := ⟨rfl, by simp, by simp⟩
theorem Inner.below {B1 : Nat} (h : Inner w B vs xss) (hb : Below B1 w w') (hlt : w.heap.size ≤ B1) : Inner w' B vs xss := ⟨h.1, fun i x hx => (h.2.1 i x hx).below hb hlt, h.2.2⟩
theorem Inner.mono {B' : Nat} (h : Inner w B vs xss) (hB : B' ≤ B) : Inner w B' vs xss := ⟨h.1, fun i x hx => (h.2.1 i x hx).mono hB, h.2.2⟩
theorem Inner.push {x : Value} {xs : List Int} (h : Inner w B vs xss) (hb : Below w.heap.size w w') (hB : B ≤ w.heap.size) (ho : Own w' w.heap.size x xs) : Inner w' B (vs ++ [x]) (xss ++ [xs]) := by
 obtain ⟨h1, h2, h3⟩ := h
 refine ⟨by simp [h1], fun i y hy => ?_, fun i j y z k hij hy hz hk => ?_⟩
 · rcases Nat.lt_or_ge i vs.length with hi | hi
   · rw [List.getElem?_append_left hi] at hy
     have := (h2 i y hy).below hb (Nat.le_refl _)
     rwa [nthL, List.getD_eq_getElem?_getD, List.getElem?_append_left (by omega), ← List.getD_eq_getElem?_getD, ← nthL]
   · have hi2 := (List.getElem?_eq_some_iff.1 hy).1
     simp at hi2
     obtain rfl : i = vs.length := by omega
     simp at hy
     subst hy
     have e : nthL (xss ++ [xs]) vs.length = xs := by simp [nthL, h1]
     rw [e]
     exact ho.mono hB
 · have old : ∀ (i : Nat) (y : Value) (k : Nat), i < vs.length → (vs ++ [x])[i]? = some y → y.ownBlock = some k → k < w.heap.size := fun i y k hi hy hk => by
     rw [List.getElem?_append_left hi] at hy
     exact ((h2 i y hy).lt k hk).2
   have new : ∀ (i : Nat) (y : Value) (k : Nat), ¬ i < vs.length → (vs ++ [x])[i]? = some y → i = vs.length ∧ (y.ownBlock = some k → w.heap.size ≤ k) := fun i y k hi hy => by
    have hi2 := (List.getElem?_eq_some_iff.1 hy).1
    simp at hi2
    obtain rfl : i = vs.length := by omega
    simp at hy
    subst hy
    exact ⟨rfl, fun hk => (ho.lt k hk).1⟩
   intro hzk
   by_cases hi : i < vs.length <;> by_cases hj : j < vs.length
   · rw [List.getElem?_append_left hi] at hy
     rw [List.getElem?_append_left hj] at hz
     exact h3 i j y z k hij hy hz hk hzk
   · have a1 := old i y k hi hy hk
     have a2 := (new j z k hj hz).2 hzk
     omega
   · have a1 := old j z k hj hz hzk
     have a2 := (new i y k hi hy).2 hk
     omega
   · have a1 := (new i y k hi hy).1
     have a2 := (new j z k hj hz).1
     omega
end
theorem Own.notSliceBlock {w : World} {B B' : Nat} {v x : Value} {n : Nat} {vs : List Value} {xs : List Int} (h : w.ownsRow B 24 1 v n vs) (hx : Own w B' x xs) : ∀ k, x.ownBlock = some k → v.ownBlock ≠ some k := by
 intro k hk hv
 rcases h.2 with ⟨rfl, _⟩ | ⟨g, cap, cur, rfl, _, hg, _⟩
 · simp [Value.ownBlock] at hv
 · rcases hx.2.2 with ⟨rfl, _⟩ | ⟨g', cap', cur', rfl, _, hg', _⟩
   · simp [Value.ownBlock] at hk
   · simp only [Value.ownBlock, Option.some.injEq] at hk hv
     subst hk
     subst hv
     rw [hg] at hg'
     injection hg' with h1
     injection h1 with _ h2
     exact absurd h2 (by decide)
section
variable {w w' : World} {v : Value} {xss : List (List Int)} {B : Nat}
theorem OwnS.form (h : OwnS w B v xss) : ∃ a c, v = .slice a xss.length c ∧ RdS w a xss := by
 obtain ⟨hl, vs, hrow, hvl, hin, _⟩ := h
 have hrow2 := hrow
 rcases hrow.2 with ⟨rfl, h0⟩ | ⟨g, cap, cur, rfl, hb, hg, hn, hm, hs, ht⟩
 · exact ⟨none, 0, by rw [h0], ⟨hl, fun hh => by omega⟩⟩
 · refine ⟨some ⟨g, 0, none⟩, cap, rfl, ⟨hl, fun _ => ⟨g, 0, rfl, fun i hi => ?_⟩⟩⟩
   have hi' : i < vs.length := by omega
   obtain ⟨a, c, e, hr, _⟩ := (hin i vs[i] (List.getElem?_eq_getElem hi')).form
   refine ⟨a, c, ?_, hr⟩
   rw [Nat.zero_add, hrow2.cellAt i (by omega), List.getElem?_eq_getElem hi', ← e]
theorem OwnS.rd {a : Option Addr} {n c : Nat} (h : OwnS w B (.slice a n c) xss) : RdS w a xss := by
 obtain ⟨a', c', e, hr⟩ := h.form
 injection e with e1 e2 e3
 subst e1; exact hr
theorem OwnS.len {a : Option Addr} {n c : Nat} (h : OwnS w B (.slice a n c) xss) : n = xss.length := by
 obtain ⟨a', c', e, hr⟩ := h.form
 injection e with e1 e2 e3
theorem OwnS.nil (w : World) (B : Nat) : OwnS w B (.slice none 0 0) [] :=
 ⟨by simp, [], World.ownsRow_nil _ _ _ _, Inner.nil _ _⟩
theorem OwnS.empty (w : World) {B : Nat} (hB : B ≤ w.heap.size) : OwnS (w.alloc (.cells #[] 24)) B (.slice (some ⟨w.heap.size, 0, none⟩) 0 0) [] :=
 ⟨by simp, [], World.ownsRow_made w #[] 0 hB (by simp) rfl, Inner.nil _ _⟩
theorem ownsRow_below {w w' : World} {B e size n : Nat} {v : Value} {vs : List Value} {B1 : Nat} (h : w.ownsRow B e size v n vs) (hb : Below B1 w w') (hlt : w.heap.size ≤ B1) : w'.ownsRow B e size v n vs := by
 obtain ⟨h1, h2⟩ := h
 refine ⟨h1, ?_⟩
 rcases h2 with h2 | ⟨g, cap, cur, e, hB, hg, r⟩
 · exact .inl h2
 · refine .inr ⟨g, cap, cur, e, hB, ?_, r⟩
   rw [hb.block g (by have := (Array.getElem?_eq_some_iff.1 hg).1; omega)]; exact hg
theorem OwnS.below {B1 : Nat} (h : OwnS w B v xss) (hb : Below B1 w w') (hlt : w.heap.size ≤ B1) : OwnS w' B v xss := by
 obtain ⟨hl, vs, hrow, hin⟩ := h
 exact ⟨hl, vs, ownsRow_below hrow hb hlt, hin.below hb hlt⟩
theorem OwnS.alloc (h : OwnS w B v xss) (o : Obj) : OwnS (w.alloc o) B v xss := h.below ((Below.refl w.heap.size w).alloc (Nat.le_refl _) o) (Nat.le_refl _)
theorem OwnS.drewN (h : OwnS w B v xss) (k : Nat) : OwnS (w.drewN k) B v xss := h.below (Qt.below ⟨k, rfl⟩ w.heap.size) (Nat.le_refl _)
end
theorem OwnS.of_rowIs {w : World} {B b n : Nat} {f : Nat → Value} {vs : List Value} {xss : List (List Int)} (h : w.rowIs b 24 n f) (hB : B ≤ b) (hn : xss.length = n) (hl : xss.length ≤ 1073741824) (hf : ∀ i, i < n → some (f i) = vs[i]?) (hi : Inner w B vs xss) :
    OwnS w B (.slice (some ⟨b, 0, none⟩) n n) xss := by
 obtain ⟨c, hb, hc, hcell⟩ := h
 subst hn
 have hvl := hi.1
 refine ⟨hl, vs, ⟨by omega, .inr ⟨b, _, c, rfl, hB, hb, Nat.le_refl _, by unfold maxLen; omega, by omega, ?_⟩⟩, hi⟩
 apply List.ext_getElem?
 intro i
 rw [Nat.mul_one, List.getElem?_take]
 split
 · rename_i hlt
   rw [Array.getElem?_toList, hcell i hlt, hf i hlt]
 · rw [List.getElem?_eq_none (by omega)]
theorem Own.storeBelow {w : World} {B : Nat} {v : Value} {xs : List Int} (h : Own w B v xs) {p : Addr} (hp : p.block < B) (u : Value) : Own (w.setCell p u) B v xs := ⟨h.1, ownsRow_setCell_below h.2 hp u⟩
theorem Inner.storeBelow {w : World} {B : Nat} {vs : List Value} {xss : List (List Int)} (h : Inner w B vs xss) {p : Addr} (hp : p.block < B) (u : Value) : Inner (w.setCell p u) B vs xss :=
 ⟨h.1, fun i x hx => (h.2.1 i x hx).storeBelow hp u, h.2.2⟩
def OwnC (w : World) (B : Nat) (v u : Value) (xs : List Int) (xss : List (List Int)) : Prop := ∃ M, B ≤ M ∧ Own w B v xs ∧ In v B M ∧ OwnS w M u xss
theorem OwnS.mono {w : World} {B B' : Nat} {v : Value} {xss : List (List Int)} (h : OwnS w B v xss) (hB : B' ≤ B) : OwnS w B' v xss := by
 obtain ⟨hl, vs, ⟨h1, h2⟩, h3⟩ := h
 refine ⟨hl, vs, ⟨h1, ?_⟩, h3.mono hB⟩
 rcases h2 with h2 | ⟨g, cap, cur, e, hb, r⟩
 · exact .inl h2
 · exact .inr ⟨g, cap, cur, e, by omega, r⟩
theorem OwnS.storeBelow {w : World} {B : Nat} {v : Value} {xss : List (List Int)} (h : OwnS w B v xss) {p : Addr} (hp : p.block < B) (u : Value) : OwnS (w.setCell p u) B v xss := by
 obtain ⟨hl, vs, h1, h3⟩ := h
 exact ⟨hl, vs, ownsRow_setCell_below h1 hp u, h3.storeBelow hp u⟩
theorem OwnC.below {w w' : World} {B B1 : Nat} {v u : Value} {xs : List Int} {xss : List (List Int)} (h : OwnC w B v u xs xss) (hb : Below B1 w w') (hlt : w.heap.size ≤ B1) : OwnC w' B v u xs xss := by
 obtain ⟨M, h1, h2, h3, h4⟩ := h
 exact ⟨M, h1, h2.below hb hlt, h3, h4.below hb hlt⟩
theorem OwnC.storeBelow {w : World} {B : Nat} {v u : Value} {xs : List Int} {xss : List (List Int)} (h : OwnC w B v u xs xss) {p : Addr} (hp : p.block < B) (x : Value) : OwnC (w.setCell p x) B v u xs xss := by
 obtain ⟨M, h1, h2, h3, h4⟩ := h
 exact ⟨M, h1, h2.storeBelow hp x, h3, h4.storeBelow (by omega) x⟩
theorem OwnC.mono {w : World} {B B' : Nat} {v u : Value} {xs : List Int} {xss : List (List Int)} (h : OwnC w B v u xs xss) (hB : B' ≤ B) : OwnC w B' v u xs xss := by
 obtain ⟨M, h1, h2, h3, h4⟩ := h
 exact ⟨M, by omega, h2.mono hB, fun k hk => by have := h3 k hk; omega, h4⟩
theorem nthL_take {xss : List (List Int)} {k i : Nat} (h : i < k) : nthL (xss.take k) i = nthL xss i := by
 simp [nthL, List.getD_eq_getElem?_getD, h]
theorem take_nthL {xss : List (List Int)} {k : Nat} (h : k < xss.length) : xss.take (k + 1) = xss.take k ++ [nthL xss k] := by
 rw [List.take_add_one, nthL_lt h, List.getElem?_eq_getElem h]; rfl
end Go.Proofs.YtgfcbmflnldicaaGreat
namespace Go.Proofs.YtgfcbmflnldicaaGreat
open Go.RowKit
theorem not_all_eq {xs ys : List Int} {k : Nat} (h : (nth xs k != nth ys k) = true) : decide (xs = ys) = false := by
 rw [decide_eq_false_iff_not]
 rintro rfl
 simp at h
theorem all_eq {xs ys : List Int} {k : Nat} (hl : xs.length = ys.length) (hk : ¬ k < xs.length) (h : ∀ j, j < k → nth xs j = nth ys j) : decide (xs = ys) = true := by
 rw [decide_eq_true_eq]
 exact eq_of_nth hl fun i hi => h i (by omega)
def left (k : Int) (n : Nat) : Int := if (n : Int) ≤ k then k - n else -1
end Go.Proofs.YtgfcbmflnldicaaGreat
namespace Go.Proofs.YtgfcbmflnldicaaGreat
open Go.RowKit
theorem slicesEqual_any (a b : Option Addr) (c d : Nat) (xs ys : List Int) (w : World) (hx : Rd w a xs) (hy : Rd w b ys) :
    Calls Tryz.prog 121 #[.slice a xs.length c, .slice b ys.length d] w fun e w' => e = .returned (.bool (decide (xs = ys))) ∧ Qt w w' := by
 have hxl := hx.len
 have hyl := hy.len
 by_cases hl : xs.length = ys.length
 · have HL := Lib.hid hl
   generalize hn : ys.length = n at hl hyl
   subst hl
   clear hn
   go_enter Tryz.func121, Tryz.ntmps121
   go_wp2
   go_loopw [13] (fun i wr => ∃ (k q : Nat), i = .int .i64 k ∧ k ≤ xs.length ∧ wr = w.drewN q ∧ Hid (∀ j, j < k → nth xs j = nth ys j)) (fun i _ => xs.length - (intOf i).toNat)
   case atStart => exact ⟨0, 0, rfl, by omega, rfl, fun j hj => by omega⟩
   case round =>
    obtain ⟨k, q, rfl, hk, rfl, hq⟩ := hrel
    by_cases hkl : k < xs.length
    · obtain ⟨b1, o1, rfl, _, hcx⟩ := hx.at_ (by omega)
      obtain ⟨b2, o2, rfl, _, hcy⟩ := hy.at_ (by rw [← HL.out]; omega)
      have hx1 := hcx k hkl
      have hy1 := hcy k (by rw [← HL.out]; omega)
      clear hcx hcy hx hy
      go_wp2_with fail
      go_quiet (fail)
      go_wp2
      · go_ret
        exact ⟨ret_bool (not_all_eq ‹_›).symm, Qt.two _ _ _⟩
      · go_roundw
        case rel =>
         have hne : (nth xs k != nth ys k) = false := by assumption
         refine ⟨k + 1, _, by go_num, by omega, rfl, fun j hj => ?_⟩
         rcases Nat.lt_succ_iff_lt_or_eq.1 hj with h | rfl
         · exact hq.out j h
         · simpa using hne
        case measure => simp [intOf]; omega
    · go_wp2
      go_ret
      exact ⟨ret_bool (all_eq HL.out hkl hq.out).symm, _, rfl⟩
 · have hne : ((xs.length : Int) != (ys.length : Int)) = true := by rw [bne_iff_ne]; omega
   have hd : decide (xs = ys) = false := by rw [decide_eq_false_iff_not]; rintro rfl; exact hl rfl
   have HD := Lib.hid hd
   clear hd
   go_enter Tryz.func121, Tryz.ntmps121
   go_wp2
   go_ret
   exact ⟨ret_bool HD.out.symm, 0, rfl⟩
end Go.Proofs.YtgfcbmflnldicaaGreat
namespace Go.Proofs.YtgfcbmflnldicaaGreat
open Go.RowKit
theorem OwnC.form {w : World} {B : Nat} {v u : Value} {xs : List Int} {xss : List (List Int)} (h : OwnC w B v u xs xss) :
    ∃ a c ra rc, v = .slice a xs.length c ∧ u = .slice ra xss.length rc ∧ Rd w a xs ∧ RdS w ra xss := by
 obtain ⟨M, _, h2, _, h4⟩ := h
 obtain ⟨a, c, e, r, _⟩ := h2.form
 obtain ⟨ra, rc, e', r'⟩ := h4.form
 exact ⟨a, c, ra, rc, e, e', r, r'⟩
end Go.Proofs.YtgfcbmflnldicaaGreat
namespace Go.Proofs.YtgfcbmflnldicaaGreat
open Go.RowKit
def dig (a p : Int) (k : Nat) : List Int := (List.range k).map (fun (i : Nat) => a / p ^ i % p)
def num (p : Int) (xs : List Int) : Int := xs.foldr (fun x acc => acc * p + x) 0
def setK (xs ys : List Int) (c p : Int) (off : Nat) : Nat → List Int
 | 0 => xs
 | k + 1 => (setK xs ys c p off k).set (off + k) ((nth xs (off + k) - c * nth ys k) % p)
def InR (p : Int) (xs : List Int) : Prop := ∀ x ∈ xs, 0 ≤ x ∧ x < p
theorem InR.nth {p : Int} {xs : List Int} (h : InR p xs) {i : Nat} (hi : i < xs.length) : 0 ≤ nth xs i ∧ nth xs i < p := h _ (nth_mem hi)
theorem InR.set {p : Int} {xs : List Int} (h : InR p xs) (i : Nat) {v : Int} (hv : 0 ≤ v ∧ v < p) : InR p (xs.set i v) := by
 intro x hx
 rcases List.mem_or_eq_of_mem_set hx with h1 | rfl
 · exact h x h1
 · exact hv
def remTo (p : Int) (ys xs : List Int) : Nat → List Int
 | 0 => xs
 | t + 1 => setK (remTo p ys xs t) ys (nth (remTo p ys xs t) (xs.length - 1 - t)) p (xs.length - 1 - t - (ys.length - 1)) ys.length
def prem (p : Int) (ys xs : List Int) : List Int := (remTo p ys xs (xs.length - (ys.length - 1))).take (ys.length - 1)
end Go.Proofs.YtgfcbmflnldicaaGreat
namespace Go.Proofs.YtgfcbmflnldicaaGreat
open Go.RowKit
def inB (n lo hi : Int) : Bool := decide (lo ≤ n ∧ n ≤ hi)
theorem inB_yes {n lo hi : Int} (h1 : lo ≤ n) (h2 : n ≤ hi) : inB n lo hi = true := by simp [inB, h1, h2]
theorem inB_no1 {n lo hi : Int} (h1 : ¬ lo ≤ n) : inB n lo hi = false := by simp [inB, h1]
theorem inB_no2 {n lo hi : Int} (h1 : ¬ n ≤ hi) : inB n lo hi = false := by simp [inB, h1]
theorem within_any (n lo hi : Int) (w : World) : Calls Tryz.prog 92 #[.int .i64 n, .int .i64 lo, .int .i64 hi] w fun e w' => e = .returned (.bool (inB n lo hi)) ∧ w = w' := by
 by_cases h1 : lo ≤ n
 · by_cases h2 : n ≤ hi
   · go_enter Tryz.func92, Tryz.ntmps92
     go_wp2
     go_ret
     exact ⟨ret_bool (by simp [inB, h1, h2]), rfl⟩
   · go_enter Tryz.func92, Tryz.ntmps92
     go_wp2
     go_ret
     exact ⟨ret_bool (by rw [inB_no2 (by omega)]), rfl⟩
 · go_enter Tryz.func92, Tryz.ntmps92
   go_wp2
   go_ret
   exact ⟨ret_bool (by rw [inB_no1 (by omega)]), rfl⟩
theorem l00In_any (n lo hi : Int) (w : World) : Calls Tryz.prog 113 #[.int .i64 n, .int .i64 lo, .int .i64 hi] w fun e w' => e = .returned (.bool (inB n lo hi)) ∧ w = w' := by
 by_cases h1 : lo ≤ n
 · by_cases h2 : n ≤ hi
   · go_enter Tryz.func113, Tryz.ntmps113
     go_wp2
     go_ret
     exact ⟨ret_bool (by simp [inB, h1, h2]), rfl⟩
   · go_enter Tryz.func113, Tryz.ntmps113
     go_wp2
     go_ret
     exact ⟨ret_bool (by rw [inB_no2 (by omega)]), rfl⟩
 · go_enter Tryz.func113, Tryz.ntmps113
   go_wp2
   go_ret
   exact ⟨ret_bool (by rw [inB_no1 (by omega)]), rfl⟩
end Go.Proofs.YtgfcbmflnldicaaGreat
namespace Go.Proofs.YtgfcbmflnldicaaGreat
open Go.RowKit
theorem size_any (a : Option Addr) (n c : Nat) (w : World) : Calls Tryz.prog 58 #[.slice a n c] w fun e w' => e = .returned (.int .i64 n) ∧ w = w' := by
 go_enter Tryz.func58, Tryz.ntmps58
 go_wp2
 go_ret
 exact ⟨rfl, rfl⟩
def minTo (q : Nat) : Nat → Nat → Nat
 | 0, p => p
 | f + 1, p => if q % p = 0 then p else minTo q f (p + 1)
def spl (p : Nat) : Nat → Nat → Nat → Int × Int
 | 0, _, k => ((p : Int), (k : Int))
 | f + 1, n, k => if 1 < n then (if n % p = 0 then spl p f (n / p) (k + 1) else (0, 0)) else ((p : Int), (k : Int))
def splitN (q : Nat) : Int × Int := spl (minTo q q 2) q q 0
def split (q : Int) : Int × Int := if inB q 2 64 then splitN q.toNat else (0, 0)
end Go.Proofs.YtgfcbmflnldicaaGreat
namespace Go.Proofs.YtgfcbmflnldicaaGreat
open Go.RowKit
def firstOf (p : Int → Bool) (xs : List Int) : Int := match xs.findIdx? p with | some i => (i : Int) | none => -1
theorem firstOf_yes {p : Int → Bool} {xs : List Int} {k : Nat} (hk : k < xs.length) (h : p (nth xs k) = true) (hq : ∀ j, j < k → p (nth xs j) = false) : firstOf p xs = (k : Int) := by
 have : xs.findIdx? p = some k := by
  rw [List.findIdx?_eq_some_iff_getElem]
  refine ⟨hk, by rw [← nth_lt hk]; exact h, fun j hj => ?_⟩
  rw [← nth_lt (by omega : j < xs.length), hq j hj]; simp
 simp [firstOf, this]
theorem firstOf_no {p : Int → Bool} {xs : List Int} (hq : ∀ j, j < xs.length → p (nth xs j) = false) : firstOf p xs = -1 := by
 have : xs.findIdx? p = none := by
  rw [List.findIdx?_eq_none_iff]
  intro x hx
  obtain ⟨j, hj, rfl⟩ := List.getElem_of_mem hx
  rw [← nth_lt hj]
  exact hq j hj
 simp [firstOf, this]
theorem any_firstOf (p : Int → Bool) (xs : List Int) : xs.any p = decide (0 ≤ firstOf p xs) := by
 unfold firstOf
 cases h : xs.findIdx? p with
 | none =>
  rw [List.findIdx?_eq_none_iff] at h
  simpa using h
 | some i =>
  rw [List.findIdx?_eq_some_iff_getElem] at h
  obtain ⟨hi, hp, _⟩ := h
  have : xs.any p = true := List.any_eq_true.2 ⟨_, List.getElem_mem hi, hp⟩
  simp [this]
def notZero (x : Int) : Bool := x != 0
def isZ (xs : List Int) : Bool := !xs.any notZero
end Go.Proofs.YtgfcbmflnldicaaGreat
namespace Go.Proofs.YtgfcbmflnldicaaGreat
open Go.RowKit
theorem Own.cap {w : World} {B : Nat} {a : Option Addr} {n c : Nat} {xs : List Int} (h : Own w B (.slice a n c) xs) : n ≤ c ∧ c ≤ maxLen := by
 have hl := h.len
 subst hl
 rcases h.2.2 with ⟨e, h0⟩ | ⟨g', cap, cur, e, hb, hg, hn, hcm, hs, ht⟩
 · injection e with e1 e2 e3
   subst e3
   simp [h0]
 · injection e with e1 e2 e3
   subst e3
   exact ⟨hn, hcm⟩
theorem Own.take {w : World} {B : Nat} {g n c : Nat} {xs : List Int} (h : Own w B (.slice (some ⟨g, 0, none⟩) n c) xs) {m : Nat} (hm : m ≤ n) : Own w B (.slice (some ⟨g, 0, none⟩) m c) (xs.take m) := by
 have hl := h.len
 subst hl
 obtain ⟨h1, h2, h3⟩ := h
 refine ⟨by rw [List.length_take]; omega, ?_⟩
 have hml : (xs.take m).length = m := by rw [List.length_take]; omega
 rw [hml]
 refine ⟨by rw [List.length_map, hml]; omega, .inr ?_⟩
 rcases h3 with ⟨e, _⟩ | ⟨g', cap, cur, e, hb, hg, hn, hcm, hs, ht⟩
 · cases e
 · injection e with e1 e2 e3
   injection e1 with e1
   injection e1 with e1
   subst e1
   subst e3
   refine ⟨g, c, cur, rfl, hb, hg, by omega, hcm, hs, ?_⟩
   rw [List.map_take, ← ht, List.take_take]
   congr 1
   omega
end Go.Proofs.YtgfcbmflnldicaaGreat
namespace Go.Proofs.YtgfcbmflnldicaaGreat
open Go.RowKit
def irrD (poly : List Int) (p : Int) (d : Nat) : Bool := (List.range (p ^ d).toNat).all (fun (n : Nat) => !isZ (prem p (dig n p d ++ [1]) poly))
def irr (poly : List Int) (p : Int) : Bool := (List.range ((poly.length - 1) / 2)).all (fun e => irrD poly p (e + 1))
theorem Rd.lit1 (w : World) (t : TypeId) : Rd (w.alloc (.cells #[.int .i64 1] t)) (some ⟨w.heap.size, 0, none⟩) [1] := Rd.one w 1 t
theorem pow_mono {p : Int} (hp : 1 ≤ p) {a b : Nat} (h : a ≤ b) : p ^ a ≤ p ^ b := by
 induction b with
 | zero => obtain rfl : a = 0 := by omega
           exact Int.le_refl _
 | succ b ih =>
  by_cases e : a = b + 1
  · subst e; exact Int.le_refl _
  · have h1 := ih (by omega)
    have h0 : 0 ≤ p ^ b := Int.pow_nonneg (by omega)
    have := Int.mul_le_mul_of_nonneg_left hp h0
    rw [Int.pow_succ]
    omega
end Go.Proofs.YtgfcbmflnldicaaGreat
namespace Go.Proofs.YtgfcbmflnldicaaGreat
open Go.RowKit
theorem l00Own_any (a : Option Addr) (c : Nat) (xs : List Int) (w : World) (hx : Rd w a xs) :
    Calls Tryz.prog 108 #[.slice a xs.length c] w fun e w' => ∃ v, e = .returned v ∧ Own w' w.heap.size v xs ∧ Below w.heap.size w w' := by
 have hxl := hx.len
 go_enter Tryz.func108, Tryz.ntmps108
 go_wp2_with (at_builtin; refine wpList_append_ints rfl (.tmp 3) (.tmp 4) rfl w.heap.size _ [] xs rfl (Own.empty w (Nat.le_refl _)) a xs.length c rfl rfl (hx.alloc _) (by simpa using hxl) (by simp) ?_; intro v1 w1 hown1 hg1 _)
 go_ret
 exact ⟨_, rfl, by simpa using hown1, Below.step ((Below.refl _ _).alloc (Nat.le_refl _) _) hg1 (Own.empty w (Nat.le_refl _)) (Nat.le_refl _) (by simp)⟩
end Go.Proofs.YtgfcbmflnldicaaGreat
namespace Go.Proofs.YtgfcbmflnldicaaGreat
open Go.RowKit
def Kp (w w' : World) (lo hi : Nat) : Prop := w.heap.size ≤ w'.heap.size ∧ ∀ g, lo ≤ g → g < hi → w'.heap[g]? = w.heap[g]?
def Mk (w w' : World) (lo hi : Nat) : Prop := Below lo w w' ∧ ∀ g, hi ≤ g → g < w.heap.size → w'.heap[g]? = w.heap[g]?
section
variable {a b c w w' : World} {lo hi lo' hi' : Nat}
theorem Kp.refl (w : World) (lo hi : Nat) : Kp w w lo hi := ⟨Nat.le_refl _, fun _ _ _ => rfl⟩
theorem Kp.below (h : Below w.heap.size w w') (s : hi ≤ w.heap.size) : Kp w w' lo hi := ⟨h.size, fun g _ hg => h.block g (by omega)⟩
theorem Kp.trans (h : Kp a b lo hi) (k : Kp b c lo hi) : Kp a c lo hi := ⟨Nat.le_trans h.1 k.1, fun g h1 h2 => (k.2 g h1 h2).trans (h.2 g h1 h2)⟩
theorem Kp.sub (h : Kp a b lo hi) (h1 : lo ≤ lo') (h2 : hi' ≤ hi) : Kp a b lo' hi' := ⟨h.1, fun g a b => h.2 g (by omega) (by omega)⟩
theorem Mk.kp (h : Mk w w' lo hi) (d : hi' ≤ lo ∨ hi ≤ lo') (s : hi' ≤ w.heap.size) : Kp w w' lo' hi' :=
 ⟨h.1.size, fun g h1 h2 => by
  rcases d with d | d
  · exact h.1.block g (by omega)
  · exact h.2 g (by omega) (by omega)⟩
theorem Mk.refl (w : World) (lo hi : Nat) : Mk w w lo hi := ⟨Below.refl _ _, fun _ _ _ => rfl⟩
theorem Mk.trans (h : Mk a b lo hi) (k : Mk b c lo hi) : Mk a c lo hi := ⟨h.1.trans k.1, fun g h1 h2 => (k.2 g h1 (by have := h.1.size; omega)).trans (h.2 g h1 h2)⟩
theorem Mk.size (h : Mk w w' lo hi) : w.heap.size ≤ w'.heap.size := h.1.size
theorem Mk.grown {v : Value} (hg : w.grownBy w' v.ownBlock) (hi_ : In v lo hi) (hlo : lo ≤ w.heap.size) : Mk w w' lo hi :=
 ⟨Below.wrote hg hi_ hlo (Nat.le_refl _), fun g h1 h2 => hg.block g h2 (fun e => by have := hi_ g e.symm; omega)⟩
theorem Mk.alloc (h : Below w.heap.size w w') (h2 : lo ≤ w.heap.size) : Mk w w' lo hi := ⟨h.mono h2, fun g _ hg => h.block g hg⟩
end
theorem cell_block {w w' : World} {g : Nat} (h : w'.heap[g]? = w.heap[g]?) (i : Nat) : w'.cell? ⟨g, i, none⟩ = w.cell? ⟨g, i, none⟩ := by
 simp only [World.cell?]
 rw [h]
theorem Rd.kp {w w' : World} {a : Option Addr} {xs : List Int} (h : Rd w a xs) (k : Kp w w' 0 w.heap.size) : Rd w' a xs :=
 ⟨h.1, fun h0 => by
  obtain ⟨b, off, rfl, hb, hc⟩ := h.at_ h0
  exact ⟨b, off, rfl, fun i hi => (cell_block (k.2 b (Nat.zero_le _) hb) _).trans (hc i hi)⟩⟩
theorem RdS.kp {w w' : World} {a : Option Addr} {xss : List (List Int)} (h : RdS w a xss) (k : Kp w w' 0 w.heap.size) : RdS w' a xss :=
 ⟨h.1, fun h0 => by
  obtain ⟨b, off, rfl, hb, hc⟩ := h.at_ h0
  refine ⟨b, off, rfl, fun i hi => ?_⟩
  obtain ⟨ai, ci, h1, h2⟩ := hc i hi
  exact ⟨ai, ci, (cell_block (k.2 b (Nat.zero_le _) hb) _).trans h1, h2.kp k⟩⟩
theorem Blk.kp {w w' : World} {g : Nat} {t : TypeId} {cs : Array Value} (h : Blk w g t cs) (k : Kp w w' g (g + 1)) : Blk w' g t cs := (k.2 g (Nat.le_refl _) (by omega)).trans h
theorem ownsRow_kp {w w' : World} {B hi e size n : Nat} {v : Value} {vs : List Value} (h : w.ownsRow B e size v n vs) (hv : In v B hi) (k : Kp w w' B hi) : w'.ownsRow B e size v n vs := by
 obtain ⟨h1, h2⟩ := h
 refine ⟨h1, ?_⟩
 rcases h2 with h2 | ⟨g, cap, cur, rfl, hB, hg, r⟩
 · exact .inl h2
 · have := hv g rfl
   exact .inr ⟨g, cap, cur, rfl, hB, (k.2 g this.1 this.2).trans hg, r⟩
def OwnH (w : World) (B hi : Nat) (v : Value) (xs : List Int) : Prop := Own w B v xs ∧ In v B hi
theorem Own.toH {w : World} {B : Nat} {v : Value} {xs : List Int} (h : Own w B v xs) : OwnH w B w.heap.size v xs := ⟨h, h.lt⟩
theorem OwnH.kp {w w' : World} {B hi : Nat} {v : Value} {xs : List Int} (h : OwnH w B hi v xs) (k : Kp w w' B hi) : OwnH w' B hi v xs := ⟨⟨h.1.1, ownsRow_kp h.1.2 h.2 k⟩, h.2⟩
theorem OwnH.rd {w : World} {B hi : Nat} {a : Option Addr} {n c : Nat} {xs : List Int} (h : OwnH w B hi (.slice a n c) xs) : Rd w a xs := h.1.rd
def Bnd (B hi : Nat) (vs : List Value) : Prop := ∀ (i : Nat) (x : Value), vs[i]? = some x → In x B hi
def OwnSH (w : World) (B hi : Nat) (v : Value) (xss : List (List Int)) : Prop :=
 xss.length ≤ 1073741824 ∧ ∃ vs : List Value, w.ownsRow B 24 1 v xss.length vs ∧ Inner w B vs xss ∧ In v B hi ∧ Bnd B hi vs
theorem OwnS.toH {w : World} {B : Nat} {v : Value} {xss : List (List Int)} (h : OwnS w B v xss) : OwnSH w B w.heap.size v xss := by
 obtain ⟨hl, vs, hr, hi⟩ := h
 exact ⟨hl, vs, hr, hi, hr.lt, fun i x hx => (hi.2.1 i x hx).lt⟩
theorem OwnSH.own {w : World} {B hi : Nat} {v : Value} {xss : List (List Int)} (h : OwnSH w B hi v xss) : OwnS w B v xss := by
 obtain ⟨hl, vs, hr, hi, _⟩ := h
 exact ⟨hl, vs, hr, hi⟩
theorem OwnSH.kp {w w' : World} {B hi : Nat} {v : Value} {xss : List (List Int)} (h : OwnSH w B hi v xss) (k : Kp w w' B hi) : OwnSH w' B hi v xss := by
 obtain ⟨hl, vs, hr, hi, hv, hb⟩ := h
 exact ⟨hl, vs, ownsRow_kp hr hv k, ⟨hi.1, fun i x hx => (OwnH.kp (w := w) ⟨hi.2.1 i x hx, hb i x hx⟩ k).1, hi.2.2⟩, hv, hb⟩
theorem OwnSH.rd {w : World} {B hi : Nat} {a : Option Addr} {n c : Nat} {xss : List (List Int)} (h : OwnSH w B hi (.slice a n c) xss) : RdS w a xss := h.own.rd
def OwnCH (w : World) (B hi : Nat) (v u : Value) (xs : List Int) (xss : List (List Int)) : Prop := ∃ M, B ≤ M ∧ M ≤ hi ∧ OwnH w B M v xs ∧ OwnSH w M hi u xss
theorem OwnC.toH {w : World} {B : Nat} {v u : Value} {xs : List Int} {xss : List (List Int)} (h : OwnC w B v u xs xss) (hM : B ≤ w.heap.size) : OwnCH w B w.heap.size v u xs xss := by
 obtain ⟨M, h1, h2, h3, h4⟩ := h
 by_cases hm : M ≤ w.heap.size
 · exact ⟨M, h1, hm, ⟨h2, h3⟩, h4.toH⟩
 · refine ⟨w.heap.size, hM, Nat.le_refl _, h2.toH, ?_⟩
   obtain ⟨hl, vs, hr, hi⟩ := h4
   have no : ∀ x k, In x M w.heap.size → Value.ownBlock x = some k → False := fun x k h e => by have := h k e; omega
   obtain ⟨r1, r2⟩ := hr
   refine ⟨hl, vs, ⟨r1, ?_⟩, hi.mono (by omega), fun k e => (no _ k (World.ownsRow.lt ⟨r1, r2⟩) e).elim, fun i x hx k e => (no _ k (hi.2.1 i x hx).lt e).elim⟩
   rcases r2 with r2 | ⟨g, cap, cur, e, hb, hg, r⟩
   · exact .inl r2
   · have := (Array.getElem?_eq_some_iff.1 hg).1
     omega
theorem OwnCH.kp {w w' : World} {B hi : Nat} {v u : Value} {xs : List Int} {xss : List (List Int)} (h : OwnCH w B hi v u xs xss) (k : Kp w w' B hi) : OwnCH w' B hi v u xs xss := by
 obtain ⟨M, h1, h2, h3, h4⟩ := h
 exact ⟨M, h1, h2, h3.kp (k.sub (Nat.le_refl _) h2), h4.kp (k.sub h1 (Nat.le_refl _))⟩
theorem OwnCH.rd {w : World} {B hi : Nat} {a b : Option Addr} {n c m d : Nat} {xs : List Int} {xss : List (List Int)} (h : OwnCH w B hi (.slice a n c) (.slice b m d) xs xss) : Rd w a xs := by
 obtain ⟨M, h1, h2, h3, h4⟩ := h
 exact h3.rd
theorem OwnCH.rds {w : World} {B hi : Nat} {a b : Option Addr} {n c m d : Nat} {xs : List Int} {xss : List (List Int)} (h : OwnCH w B hi (.slice a n c) (.slice b m d) xs xss) : RdS w b xss := by
 obtain ⟨M, h1, h2, h3, h4⟩ := h
 exact h4.rd
theorem OwnCH.len {w : World} {B hi : Nat} {v u : Value} {xs : List Int} {xss : List (List Int)} (h : OwnCH w B hi v u xs xss) : xs.length ≤ 1073741824 := by
 obtain ⟨M, h1, h2, h3, h4⟩ := h
 exact h3.1.1
theorem OwnSH.row {w : World} {B hi : Nat} {v : Value} {yss : List (List Int)} (h : OwnSH w B hi v yss) {i : Nat} (hi' : i < yss.length) :
    ∃ a c, OwnH w B hi (.slice a (nthL yss i).length c) (nthL yss i) ∧
     (∀ b off m d, v = .slice (some ⟨b, off, none⟩) m d → w.cell? ⟨b, off + i, none⟩ = some (.slice a (nthL yss i).length c)) ∧
     ∀ w' ys, OwnH w' B hi (.slice a (nthL yss i).length c) ys → ys.length = (nthL yss i).length → w.grownBy w' (Value.ownBlock (.slice a (nthL yss i).length c)) → OwnSH w' B hi v (yss.set i ys) := by
 obtain ⟨hl, vs, hr, hin, hv, hb⟩ := h
 have hil : i < vs.length := by rw [hin.1]; exact hi'
 have hgi := List.getElem?_eq_getElem hil
 have ho := hin.2.1 i _ hgi
 obtain ⟨a, c, e, _, _⟩ := ho.form
 rw [e] at ho
 have hIn := hb i _ hgi
 rw [e] at hIn hgi
 have hne : ∀ k, Value.ownBlock (.slice a (nthL yss i).length c) = some k → v.ownBlock ≠ some k := Own.notSliceBlock hr ho
 refine ⟨a, c, ⟨ho, hIn⟩, ?_, ?_⟩
 · intro b off m d hvv
   have hr2 := hr
   rcases hr.2 with ⟨rfl, _⟩ | ⟨g, cap, cur, rfl, _⟩
   · injection hvv with h0 _ _; cases h0
   · injection hvv with h0 _ _
     injection h0 with h0
     injection h0 with h1 h2
     subst h1; subst h2
     have := hr2.cellAt i (by omega)
     rw [Nat.zero_add, this, hgi]
 intro w' ys ho' hyl hg
 refine ⟨by simpa using hl, vs, ?_, ⟨by simpa using hin.1, fun j x hx => ?_, hin.2.2⟩, hv, hb⟩
 · rw [List.length_set]
   refine hr.kept hg ?_
   rcases hx : v.ownBlock with _ | k
   · exact .inl rfl
   · exact .inr fun e2 => hne k e2.symm hx
 · by_cases hj : j = i
   · subst hj
     rw [hgi] at hx
     injection hx with hx
     subst hx
     have : nthL (yss.set j ys) j = ys := by simp [nthL, hi']
     rw [this]
     exact ho'.1
   · have : nthL (yss.set i ys) j = nthL yss j := by simp [nthL, List.getD_eq_getElem?_getD, List.getElem?_set_ne (Ne.symm hj)]
     rw [this]
     refine (hin.2.1 j x hx).grow hg ?_
     rcases hxb : x.ownBlock with _ | k
     · exact .inl rfl
     · exact .inr fun e2 => hin.2.2 i j _ _ k (Ne.symm hj) hgi hx e2.symm hxb
end Go.Proofs.YtgfcbmflnldicaaGreat
namespace Go.Proofs.YtgfcbmflnldicaaGreat
open Go.RowKit
theorem Kp.alloc {a b : World} {lo hi : Nat} (h : Kp a b lo hi) (s : hi ≤ b.heap.size) (o : Obj) : Kp a (b.alloc o) lo hi := h.trans (Kp.below ((Below.refl _ _).alloc (Nat.le_refl _) o) s)
theorem Kp.drew {a b : World} {lo hi : Nat} (h : Kp a b lo hi) : Kp a b.drew lo hi := h
theorem Kp.grown {a b c : World} {lo hi : Nat} {row : Option Nat} (h : Kp a b lo hi) (hg : b.grownBy c row) (hne : ∀ k, row = some k → k < lo ∨ hi ≤ k) (s : hi ≤ b.heap.size) : Kp a c lo hi :=
 h.trans ⟨hg.size, fun g h1 h2 => hg.block g (by omega) (fun e => by have := hne g e.symm; omega)⟩
theorem Kp.setCell {a b : World} {lo hi : Nat} (h : Kp a b lo hi) {p : Addr} (hp : p.block < lo ∨ hi ≤ p.block) (v : Value) : Kp a (b.setCell p v) lo hi :=
 ⟨by have := h.1; simpa using this, fun g h1 h2 => (Below.heap_setCell b p v g (by omega)).trans (h.2 g h1 h2)⟩
section
variable {w : World} {B hi : Nat} {v r : Value} {xss : List (List Int)} {xs : List Int}
end
end Go.Proofs.YtgfcbmflnldicaaGreat
namespace Go.Proofs.YtgfcbmflnldicaaGreat
open Go.RowKit
section
variable {w : World} {B hi g n c : Nat} {v : Value} {yss : List (List Int)}
theorem OwnS.row (h : OwnS w B v yss) {i : Nat} (hi : i < yss.length) :
    ∃ a c, Own w B (.slice a (nthL yss i).length c) (nthL yss i) ∧
     (∀ b off m d, v = .slice (some ⟨b, off, none⟩) m d → w.cell? ⟨b, off + i, none⟩ = some (.slice a (nthL yss i).length c)) ∧
     ∀ w' ys, Own w' B (.slice a (nthL yss i).length c) ys → ys.length = (nthL yss i).length → w.grownBy w' (Value.ownBlock (.slice a (nthL yss i).length c)) → OwnS w' B v (yss.set i ys) := by
 obtain ⟨a, c, h1, h2, h3⟩ := h.toH.row hi
 exact ⟨a, c, h1.1, h2, fun w' ys ho hl hg => (h3 w' ys ⟨ho, h1.2⟩ hl hg).own⟩
theorem OwnS.at_ (h : OwnS w B v yss) (h0 : 0 < yss.length) : ∃ g c, v = .slice (some ⟨g, 0, none⟩) yss.length c ∧ B ≤ g ∧ g < w.heap.size ∧ yss.length ≤ c ∧ c ≤ 9223372036854775807 := by
 obtain ⟨hl, vs, hr, hin⟩ := h
 rcases hr.2 with ⟨_, h1⟩ | ⟨g, cap, cur, rfl, hb, hg, hn, hm, hs, ht⟩
 · omega
 · unfold maxLen at hm
   exact ⟨g, cap, rfl, hb, (Array.getElem?_eq_some_iff.1 hg).1, hn, by omega⟩
theorem OwnS.frozen (h : OwnS w B (.slice (some ⟨g, 0, none⟩) n c) yss) (j : Nat) : w.frozen? ⟨g, j, none⟩ = false := by
 have e := h.len
 obtain ⟨hl, vs, hr, hin⟩ := h
 subst e
 exact hr.frozenAt j
theorem row_grow {w' : World} {m : Nat} {vs : List Value} {x : Value} {xs : List Int} (hr : w.ownsRow B 24 1 v m vs) (hg : w.grownBy w' v.ownBlock) {B2 : Nat} (ho : Own w B2 x xs) : Own w' B2 x xs :=
 ho.grow hg (by
  rcases hxb : x.ownBlock with _ | k
  · exact .inl rfl
  · exact .inr fun e => Own.notSliceBlock hr ho k hxb e.symm)
theorem nthL_set_same {xss : List (List Int)} {i : Nat} (h : i < xss.length) (v : List Int) : nthL (xss.set i v) i = v := by simp [nthL, h]
theorem nthL_set_ne {xss : List (List Int)} {i j : Nat} (h : i ≠ j) (v : List Int) : nthL (xss.set i v) j = nthL xss j := by
 simp [nthL, List.getD_eq_getElem?_getD, List.getElem?_set_ne h]
theorem OwnSH.put (h : OwnSH w B hi (.slice (some ⟨g, 0, none⟩) n c) yss) {r : Value} {ys : List Int} (hr : Own w hi r ys) (hB : B ≤ hi) {j : Nat} (hj : j < yss.length) :
    OwnS (w.setCell ⟨g, j, none⟩ r) B (.slice (some ⟨g, 0, none⟩) n c) (yss.set j ys) ∧ w.grownBy (w.setCell ⟨g, j, none⟩ r) (some g) := by
 have e := h.own.len
 subst e
 obtain ⟨hl, vs, ho, hin, hv, hb⟩ := h
 obtain ⟨h1, h2⟩ := ho.stored j r
 have row : ∀ (x : Value) (B2 : Nat) (xs : List Int), Own w B2 x xs → Own (w.setCell ⟨g, j, none⟩ r) B2 x xs := fun x B2 xs hx => row_grow ho h2 hx
 refine ⟨⟨by simpa using hl, vs.set j r, by rw [List.length_set]; exact h1, by simp [hin.1], fun i x hx => ?_, fun i k x y b hik hx hy hxb hyb => ?_⟩, h2⟩
 · by_cases e : i = j
   · subst e
     rw [List.getElem?_set_self (by rw [hin.1]; exact hj)] at hx
     injection hx with hx
     subst hx
     rw [nthL_set_same hj]
     exact (row _ _ _ hr).mono hB
   · rw [List.getElem?_set_ne (Ne.symm e)] at hx
     rw [nthL_set_ne (Ne.symm e)]
     exact row _ _ _ (hin.2.1 i x hx)
 · have cas : ∀ (q : Nat) (z : Value), (vs.set j r)[q]? = some z → (q = j ∧ z = r) ∨ (q ≠ j ∧ vs[q]? = some z) := fun q z hz => by
     by_cases e : q = j
     · subst e
       rw [List.getElem?_set_self (by rw [hin.1]; exact hj)] at hz
       injection hz with hz
       exact .inl ⟨rfl, hz.symm⟩
     · rw [List.getElem?_set_ne (Ne.symm e)] at hz
       exact .inr ⟨e, hz⟩
   rcases cas i x hx with ⟨e1, e2⟩ | ⟨e1, e2⟩ <;> rcases cas k y hy with ⟨f1, f2⟩ | ⟨f1, f2⟩
   · omega
   · subst e2
     have a1 := (hr.lt b hxb).1
     have a2 := (hb k y f2 b hyb).2
     omega
   · subst f2
     have a1 := (hr.lt b hyb).1
     have a2 := (hb i x e2 b hxb).2
     omega
   · exact hin.2.2 i k x y b hik e2 f2 hxb hyb
theorem OwnSH.put2 (h : OwnSH w B hi (.slice (some ⟨g, 0, none⟩) n c) yss) {r y : Value} {ys : List Int} (hr : Own w hi r ys) (hB : B ≤ hi) {i t : Nat} (hi' : i < yss.length) (ht : t < yss.length) (hy : w.cell? ⟨g, t, none⟩ = some y) :
    OwnS ((w.setCell ⟨g, i, none⟩ y).setCell ⟨g, t, none⟩ r) B (.slice (some ⟨g, 0, none⟩) n c) ((yss.set i (nthL yss t)).set t ys) ∧ w.grownBy ((w.setCell ⟨g, i, none⟩ y).setCell ⟨g, t, none⟩ r) (some g) := by
 have e := h.own.len
 subst e
 obtain ⟨hl, vs, ho, hin, hv, hb⟩ := h
 have vy : vs[t]? = some y := by rw [← ho.cellAt t (by omega)]; exact hy
 obtain ⟨h1, h2⟩ := ho.stored i y
 obtain ⟨h3, h4⟩ := h1.stored t r
 have row : ∀ (z : Value) (B2 : Nat) (xs : List Int), Own w B2 z xs → Own ((w.setCell ⟨g, i, none⟩ y).setCell ⟨g, t, none⟩ r) B2 z xs := fun z B2 xs hz => row_grow h1 h4 (row_grow ho h2 hz)
 have hil : i < vs.length := by rw [hin.1]; exact hi'
 have htl : t < vs.length := by rw [hin.1]; exact ht
 have cas : ∀ (q : Nat) (z : Value), ((vs.set i y).set t r)[q]? = some z → (q = t ∧ z = r) ∨ ∃ q', vs[q']? = some z ∧ q ≠ t ∧ ((q = i ∧ q' = t) ∨ (q ≠ i ∧ q' = q)) := fun q z hz => by
  by_cases e : q = t
  · subst e
    rw [List.getElem?_set_self (by rw [List.length_set]; exact htl)] at hz
    injection hz with hz
    exact .inl ⟨rfl, hz.symm⟩
  · rw [List.getElem?_set_ne (Ne.symm e)] at hz
    by_cases e2 : q = i
    · subst e2
      rw [List.getElem?_set_self hil] at hz
      injection hz with hz
      subst hz
      exact .inr ⟨t, vy, e, .inl ⟨rfl, rfl⟩⟩
    · rw [List.getElem?_set_ne (Ne.symm e2)] at hz
      exact .inr ⟨q, hz, e, .inr ⟨e2, rfl⟩⟩
 refine ⟨⟨by simpa using hl, (vs.set i y).set t r, by simpa using h3, by simp [hin.1], fun q z hz => ?_, fun q k z u b hqk hz hu hzb hub => ?_⟩, grown_trans_row h2 h4⟩
 · rcases cas q z hz with ⟨rfl, rfl⟩ | ⟨q', hq, hne, hc⟩
   · rw [nthL_set_same (by rw [List.length_set]; exact ht)]
     exact (row _ _ _ hr).mono hB
   · have o := row _ _ _ (hin.2.1 q' z hq)
     rcases hc with ⟨rfl, rfl⟩ | ⟨h1, rfl⟩
     · rw [nthL_set_ne (Ne.symm hne), nthL_set_same hi']; exact o
     · rw [nthL_set_ne (Ne.symm hne), nthL_set_ne (Ne.symm h1)]; exact o
 · rcases cas q z hz with ⟨rfl, rfl⟩ | ⟨q', hq, hne, hc⟩ <;> rcases cas k u hu with ⟨rfl, rfl⟩ | ⟨k', hk, hke, hd⟩
   · omega
   · have a1 := (hr.lt b hzb).1
     have a2 := (hb k' u hk b hub).2
     omega
   · have a1 := (hr.lt b hub).1
     have a2 := (hb q' z hq b hzb).2
     omega
   · exact hin.2.2 q' k' z u b (by omega) hq hk hzb hub
theorem OwnS.take (h : OwnS w B (.slice (some ⟨g, 0, none⟩) n c) yss) {m : Nat} (hm : m ≤ n) : OwnS w B (.slice (some ⟨g, 0, none⟩) m c) (yss.take m) := by
 have e := h.len
 subst e
 obtain ⟨hl, vs, ⟨h1, h3⟩, hin⟩ := h
 have hml : (yss.take m).length = m := by rw [List.length_take]; omega
 refine ⟨by rw [hml]; omega, vs.take m, ?_, by rw [List.length_take, hml, hin.1]; omega, fun i x hx => ?_, fun i j x y b hij hx hy hxb => ?_⟩
 · rw [hml]
   refine ⟨by rw [List.length_take, hin.1]; omega, .inr ?_⟩
   rcases h3 with ⟨e, _⟩ | ⟨g', cap, cur, e, hb, hg, hn, hcm, hs, ht⟩
   · cases e
   · injection e with e1 e2 e3
     injection e1 with e1
     injection e1 with e1
     subst e1
     subst e3
     refine ⟨g, c, cur, rfl, hb, hg, by omega, hcm, hs, ?_⟩
     rw [← ht, List.take_take]
     congr 1
     omega
 · have hi : i < m := by
     have := (List.getElem?_eq_some_iff.1 hx).1
     rw [List.length_take] at this
     omega
   rw [List.getElem?_take_of_lt hi] at hx
   rw [nthL_take hi]
   exact hin.2.1 i x hx
 · have lt : ∀ (q : Nat) (z : Value), (vs.take m)[q]? = some z → vs[q]? = some z := fun q z hz => by
     have hq : q < m := by
      have := (List.getElem?_eq_some_iff.1 hz).1
      rw [List.length_take] at this
      omega
     rwa [List.getElem?_take_of_lt hq] at hz
   exact hin.2.2 i j x y b hij (lt i x hx) (lt j y hy) hxb
end
end Go.Proofs.YtgfcbmflnldicaaGreat
namespace Go.Proofs.YtgfcbmflnldicaaGreat
open Go.RowKit
section
variable {w : World} {B : Nat} {v : Value} {xs ys : List Int}
theorem run_append_ints (hown : Own w B v xs) (ad : Option Addr) (m c : Nat) (hm : m = ys.length) (hr : Rd w ad ys) (hl : xs.length + ys.length ≤ 1073741824) (hB : B ≤ w.heap.size) (ty : TypeId) :
    ∃ v' w', (Builtin.append_ #[24, 24] ty #[v, .slice ad m c]).run Tryz.prog w = .ok v' w' ∧ Own w' B v' (xs ++ ys) ∧ w.grownBy w' v.ownBlock ∧ (v'.ownBlock = v.ownBlock ∨ v'.ownBlock = some w.heap.size) := by
 obtain ⟨i0, hi0, hz0, hz1, hz2⟩ := info_parts Tryz.info_i64
 rcases Nat.eq_zero_or_pos ys.length with h0 | h0
 · have hy : ys = [] := List.eq_nil_of_length_eq_zero h0
   subst hy
   simp only [List.length_nil] at hm
   subst hm
   refine ⟨v, w, ?_, by simpa using hown, World.grownBy.refl w _, .inl rfl⟩
   rcases hown.2.2 with ⟨rfl, h0⟩ | ⟨g, cap, cur, rfl, _, _, hnc, _⟩
   · cases ad <;> simp [Builtin.append_, run_underlying Tryz.underlying24, sizeOf, typeInfo, hi0, Builtin.lenOf, Builtin.firstCells, loadCells, loadCellsFrom]
   · cases ad <;> simp [Builtin.append_, run_underlying Tryz.underlying24, sizeOf, typeInfo, hi0, Builtin.lenOf, Builtin.firstCells, hnc, storeCells, loadCells, loadCellsFrom]
 · obtain ⟨b, off, rfl, _, hc⟩ := hr.at_ h0
   obtain ⟨v', w', h1, h2, h3, _, h5⟩ := run_append_own_at (P := Tryz.prog) w B 24 ty 2 i0 (.int .i64 0) 1 8 Tryz.underlying24 hi0 hz0 hz1 hz2 rfl (by omega) v xs.length (xs.map (Value.int .i64)) hown.2 ⟨b, off, none⟩ m c (ys.map (Value.int .i64)) (by simp [hm])
    (fun j u hu => by
     have hj : j < ys.length := by
      have := (List.getElem?_eq_some_iff.1 hu).1
      simpa using this
     rw [Addr.add_lit, hc j hj, ← hu, List.getElem?_map, List.getElem?_eq_getElem hj, nth_lt hj]; rfl)
    (ints_oneCell _ _) (by unfold maxLen; omega) (by omega) hB
   exact ⟨v', w', h1, ⟨by simpa using hl, by rw [List.map_append, List.length_append, ← hm]; exact h2⟩, h3, h5⟩
theorem wp_append_ints {o : Oper} {a : Act} {K : Act → World → Prop} {Q : Exit → Act → World → Prop} (s x : Operand)
    (ho : o.op = .call { callee := .builtin .append, args := #[s, x], argTypes := #[24, 24] })
    (hs : a.eval s = v) (hown : Own w B v xs) (ad : Option Addr) (m c : Nat) (hx : a.eval x = .slice ad m c) (hm : m = ys.length) (hr : Rd w ad ys) (hl : xs.length + ys.length ≤ 1073741824) (hB : B ≤ w.heap.size)
    (h : ∀ v' w', Own w' B v' (xs ++ ys) → w.grownBy w' v.ownBlock → (v'.ownBlock = v.ownBlock ∨ v'.ownBlock = some w.heap.size) → K (a.put o.dst v') w') : Oper.wp Tryz.prog o a w K Q := by
 obtain ⟨v', w', hrun, h2, h3, h4⟩ := run_append_ints hown ad m c hm hr hl hB o.type
 unfold Oper.wp execOp
 simp only [ho, resolve, invoke, builtin, Sem.run_bind, Sem.run_pure, Result.andThen_ok, List.map_toArray, List.map_cons, List.map_nil, hs, hx, hrun]
 exact h v' w' h2 h3 h4
theorem step_append_ints {ops : Array Oper} {o : Oper} {a : Act} {K : Act → World → Prop} {Q : Exit → Act → World → Prop} {E : Prop} (hgd : o.guard = none) (s x : Operand)
    (ho : o.op = .call { callee := .builtin .append, args := #[s, x], argTypes := #[24, 24] })
    (hs : a.eval s = v) (hown : Own w B v xs) (ad : Option Addr) (m c : Nat) (hx : a.eval x = .slice ad m c) (hm : m = ys.length) (hr : Rd w ad ys) (hl : xs.length + ys.length ≤ 1073741824) (hB : B ≤ w.heap.size)
    (h : ∀ v' w', Own w' B v' (xs ++ ys) → w.grownBy w' v.ownBlock → (v'.ownBlock = v.ownBlock ∨ v'.ownBlock = some w.heap.size) → K (a.put o.dst v') w') :
    if Region.wanted o (yielded ops a.tmps) = true then Oper.wp Tryz.prog o a w K Q else E := by
 have hw : Region.wanted o (yielded ops a.tmps) = true := by simp [Region.wanted, hgd]
 rw [if_pos hw]
 exact wp_append_ints s x ho hs hown ad m c hx hm hr hl hB h
end
end Go.Proofs.YtgfcbmflnldicaaGreat
namespace Go.Proofs.YtgfcbmflnldicaaGreat
open Go.RowKit
def Cg (p a b : Int) : Prop := ∃ k, a = b + p * k
theorem Cg.refl (p a : Int) : Cg p a a := ⟨0, by simp⟩
theorem Cg.of_eq {p a b : Int} (h : a = b) : Cg p a b := h ▸ Cg.refl p a
theorem Cg.symm {p a b : Int} (h : Cg p a b) : Cg p b a := by
 obtain ⟨k, rfl⟩ := h
 exact ⟨-k, by grind⟩
theorem Cg.trans {p a b c : Int} (h : Cg p a b) (g : Cg p b c) : Cg p a c := by
 obtain ⟨k, rfl⟩ := h
 obtain ⟨j, rfl⟩ := g
 exact ⟨j + k, by grind⟩
theorem Cg.add {p a b c d : Int} (h : Cg p a b) (g : Cg p c d) : Cg p (a + c) (b + d) := by
 obtain ⟨k, rfl⟩ := h
 obtain ⟨j, rfl⟩ := g
 exact ⟨k + j, by grind⟩
theorem Cg.mul {p a b c d : Int} (h : Cg p a b) (g : Cg p c d) : Cg p (a * c) (b * d) := by
 obtain ⟨k, rfl⟩ := h
 obtain ⟨j, rfl⟩ := g
 exact ⟨b * j + k * d + p * k * j, by grind⟩
theorem Cg.sub {p a b c d : Int} (h : Cg p a b) (g : Cg p c d) : Cg p (a - c) (b - d) := by
 obtain ⟨k, rfl⟩ := h
 obtain ⟨j, rfl⟩ := g
 exact ⟨k - j, by grind⟩
theorem Cg.eq {p a b : Int} (h : Cg p a b) (ha : 0 ≤ a ∧ a < p) (hb : 0 ≤ b ∧ b < p) : a = b := by
 obtain ⟨k, hk⟩ := h
 have h1 : a % p = b % p := by rw [hk, Int.add_mul_emod_self_left]
 rwa [Int.emod_eq_of_lt ha.1 ha.2, Int.emod_eq_of_lt hb.1 hb.2] at h1
def lin (s p : Int) (k : Nat) (a b : Int) : Int := num p ((List.range k).map fun (i : Nat) => (a / p ^ i % p + s * (b / p ^ i % p)) % p)
def sm (f : Nat → Int) : Nat → Int
 | 0 => 0
 | n + 1 => sm f n + f n
def convTo (p : Int) (xs ys z : List Int) : Nat → List Int
 | 0 => z
 | i + 1 => setK (convTo p xs ys z i) ys (-(nth xs i)) p i ys.length
def zeros (m : Nat) : List Int := List.replicate m 0
theorem zeros_len (m : Nat) : (zeros m).length = m := by simp [zeros]
theorem zeros_nth (m i : Nat) : nth (zeros m) i = 0 := by
 simp only [nth, zeros, List.getD_eq_getElem?_getD, List.getElem?_replicate]
 split <;> rfl
def cv (x y : Nat → Int) (m : Nat) (n : Nat) : Int := sm (fun i => if i ≤ m then x i * y (m - i) else 0) n
def mulD (p : Int) (poly xs ys : List Int) (L : Nat) : List Int := prem p poly (convTo p xs ys (zeros L) xs.length)
def mulF (p : Int) (k : Nat) (poly : List Int) (a b : Int) : Int := num p (mulD p poly (dig a p k) (dig b p k) (2 * k))
section
variable {p : Int} {k : Nat} {poly : List Int}
end
end Go.Proofs.YtgfcbmflnldicaaGreat
namespace Go.Proofs.YtgfcbmflnldicaaGreat
open Go.RowKit
theorem results_cell_tmp_row {P : Program} {fn : Func} {p u : Tmp} {ty : TypeId} (h : fn.results = #[.cell p ty, .tmp u]) (tmps : Array Value) (w : World) (g : Nat) (t : TypeId) (cs : Array Value) (d : TypeDesc)
    (hp : tmps.getD p undef = .pointer (some ⟨g, 0, none⟩)) (hg : Blk w g t cs)
    (hu : P.underlying ty = some d) (hd : (match d with | .struct _ | .array _ _ => true | _ => false) = true) (hi : (P.info? ty).map (·.size) = some cs.size) :
    (results fn tmps).run P w = .ok (.tuple #[.agg cs, tmps.getD u undef]) w := by
 rw [results_cell_tmp h, hp]
 simp [asAddr, run_loadVar_row w g t ty cs (0, 0) d hg hu hd hi, Result.andThen]
def polyAt (p : Int) (k n : Nat) : List Int := dig n p k ++ [1]
structure SizeOk (q p : Int) (k : Nat) : Prop where
 lo : 2 ≤ p
 hi : p ≤ 64
 k1 : 1 ≤ k
 k6 : k ≤ 6
 pow : p ^ k = q
 some_ : ∃ n : Nat, n < 64 ∧ irr (polyAt p k n) p = true
end Go.Proofs.YtgfcbmflnldicaaGreat
namespace Go.Proofs.YtgfcbmflnldicaaGreat
open Go.RowKit
theorem OwnSH.belw {w w' : World} {B hi : Nat} {v : Value} {xss : List (List Int)} (h : OwnSH w B hi v xss) (hb : Below w.heap.size w w') (hh : hi ≤ w.heap.size) : OwnSH w' B hi v xss := h.kp (Kp.below hb hh)
end Go.Proofs.YtgfcbmflnldicaaGreat
namespace Go.Proofs.YtgfcbmflnldicaaGreat
open Go.RowKit
def OwnSQ (w : World) (B : Nat) (v : Value) (xss : List (List Int)) (Q : Value → Prop) : Prop :=
 xss.length ≤ 1073741824 ∧ ∃ vs : List Value, w.ownsRow B 24 1 v xss.length vs ∧ Inner w B vs xss ∧ ∀ (i : Nat) (x : Value), vs[i]? = some x → Q x
section
variable {w w' : World} {B hi g n c : Nat} {v : Value} {yss : List (List Int)} {Q Q' : Value → Prop}
theorem OwnSQ.own (h : OwnSQ w B v yss Q) : OwnS w B v yss := by
 obtain ⟨hl, vs, hr, hin, _⟩ := h
 exact ⟨hl, vs, hr, hin⟩
theorem OwnSQ.imp (h : OwnSQ w B v yss Q) (hq : ∀ x, (∀ k, x.ownBlock = some k → k < w.heap.size) → Q x → Q' x) : OwnSQ w B v yss Q' := by
 obtain ⟨hl, vs, hr, hin, hQ⟩ := h
 exact ⟨hl, vs, hr, hin, fun i x hx => hq x (fun k hk => ((hin.2.1 i x hx).lt k hk).2) (hQ i x hx)⟩
theorem OwnSQ.below (h : OwnSQ w B v yss Q) (hb : Below w.heap.size w w') : OwnSQ w' B v yss Q := by
 obtain ⟨hl, vs, hr, hin, hQ⟩ := h
 exact ⟨hl, vs, ownsRow_below hr hb (Nat.le_refl _), hin.below hb (Nat.le_refl _), hQ⟩
theorem OwnSQ.grow (h : OwnSQ w B v yss Q) {u : Value} {B' : Nat} {us : List Int} (hu : Own w B' u us) (hg : w.grownBy w' u.ownBlock) (hq : ∀ x, Q x → ∀ k, x.ownBlock = some k → u.ownBlock ≠ some k) : OwnSQ w' B v yss Q := by
 obtain ⟨hl, vs, hr, hin, hQ⟩ := h
 refine ⟨hl, vs, hr.kept hg ?_, ⟨hin.1, fun i x hx => (hin.2.1 i x hx).grow hg ?_, hin.2.2⟩, hQ⟩
 · rcases hub : u.ownBlock with _ | k
   · rcases hv : v.ownBlock with _ | k
     · exact .inl rfl
     · exact .inr (by simp)
   · refine .inr fun e => ?_
     exact Own.notSliceBlock hr hu k hub e
 · rcases hxb : x.ownBlock with _ | k
   · exact .inl rfl
   · exact .inr fun e => hq x (hQ i x hx) k hxb e.symm
theorem OwnSQ.row (h : OwnSQ w B v yss Q) {i : Nat} (hi : i < yss.length) :
    ∃ a c, Own w B (.slice a (nthL yss i).length c) (nthL yss i) ∧ Q (.slice a (nthL yss i).length c) ∧
     (∀ b off m d, v = .slice (some ⟨b, off, none⟩) m d → w.cell? ⟨b, off + i, none⟩ = some (.slice a (nthL yss i).length c)) ∧
     (∀ w' ys, Own w' B (.slice a (nthL yss i).length c) ys → ys.length = (nthL yss i).length → w.grownBy w' (Value.ownBlock (.slice a (nthL yss i).length c)) → OwnSQ w' B v (yss.set i ys) Q) ∧
     (∀ j a' c', j < yss.length → j ≠ i → (∀ b off m d, v = .slice (some ⟨b, off, none⟩) m d → w.cell? ⟨b, off + j, none⟩ = some (.slice a' (nthL yss j).length c')) → v.ownBlock ≠ none → ∀ k, Value.ownBlock (.slice a' (nthL yss j).length c') = some k → Value.ownBlock (.slice a (nthL yss i).length c) ≠ some k) := by
 obtain ⟨hl, vs, hr, hin, hQ⟩ := h
 have hil : i < vs.length := by rw [hin.1]; exact hi
 have hgi := List.getElem?_eq_getElem hil
 have ho := hin.2.1 i _ hgi
 obtain ⟨a, c, e, _, _⟩ := ho.form
 rw [e] at ho hgi
 have hne : ∀ k, Value.ownBlock (.slice a (nthL yss i).length c) = some k → v.ownBlock ≠ some k := Own.notSliceBlock hr ho
 have cellv : ∀ (q : Nat) (b off m d : Nat), q < vs.length → v = .slice (some ⟨b, off, none⟩) m d → w.cell? ⟨b, off + q, none⟩ = vs[q]? := by
  intro q b off m d hq hvv
  have hr2 := hr
  rcases hr.2 with ⟨rfl, _⟩ | ⟨g, cap, cur, rfl, _⟩
  · injection hvv with h0 _ _; cases h0
  · injection hvv with h0 _ _
    injection h0 with h0
    injection h0 with h1 h2
    subst h1; subst h2
    rw [Nat.zero_add]
    exact hr2.cellAt q (by have := hin.1; omega)
 refine ⟨a, c, ho, hQ i _ hgi, fun b off m d hvv => by rw [cellv i b off m d hil hvv, hgi], ?_, ?_⟩
 · intro w' ys ho' hyl hg
   refine ⟨by simpa using hl, vs, ?_, ⟨by simpa using hin.1, fun j x hx => ?_, hin.2.2⟩, hQ⟩
   · rw [List.length_set]
     refine hr.kept hg ?_
     rcases hx : v.ownBlock with _ | k
     · exact .inl rfl
     · exact .inr fun e2 => hne k e2.symm hx
   · by_cases hj : j = i
     · subst hj
       rw [hgi] at hx
       injection hx with hx
       subst hx
       rw [nthL_set_same hi]
       exact ho'
     · rw [nthL_set_ne (Ne.symm hj)]
       refine (hin.2.1 j x hx).grow hg ?_
       rcases hxb : x.ownBlock with _ | k
       · exact .inl rfl
       · exact .inr fun e2 => hin.2.2 i j _ _ k (Ne.symm hj) hgi hx e2.symm hxb
 · intro j a' c' hj hji hcell hv0 k hk hk2
   have hjl : j < vs.length := by rw [hin.1]; exact hj
   rcases hr.2 with ⟨rfl, h0⟩ | ⟨g, cap, cur, rfl, _⟩
   · exact hv0 rfl
   · have h1 := hcell g 0 _ _ rfl
     rw [cellv j g 0 _ _ hjl rfl] at h1
     exact hin.2.2 i j _ _ k (Ne.symm hji) hgi h1 hk2 hk
theorem OwnSQ.put (h : OwnSQ w B (.slice (some ⟨g, 0, none⟩) n c) yss Q) {r : Value} {ys : List Int} (hr : Own w hi r ys) (hB : B ≤ hi)
    (hlow : ∀ x, Q x → ∀ k, x.ownBlock = some k → k < hi) (hq : Q' r) (hQQ : ∀ x, Q x → Q' x) {j : Nat} (hj : j < yss.length) :
    OwnSQ (w.setCell ⟨g, j, none⟩ r) B (.slice (some ⟨g, 0, none⟩) n c) (yss.set j ys) Q' ∧ w.grownBy (w.setCell ⟨g, j, none⟩ r) (some g) := by
 have e := h.own.len
 subst e
 obtain ⟨hl, vs, ho, hin, hQ⟩ := h
 obtain ⟨h1, h2⟩ := ho.stored j r
 have row : ∀ (x : Value) (B2 : Nat) (xs : List Int), Own w B2 x xs → Own (w.setCell ⟨g, j, none⟩ r) B2 x xs := fun x B2 xs hx => row_grow ho h2 hx
 have cas : ∀ (q : Nat) (z : Value), (vs.set j r)[q]? = some z → (q = j ∧ z = r) ∨ (q ≠ j ∧ vs[q]? = some z) := fun q z hz => by
  by_cases e : q = j
  · subst e
    rw [List.getElem?_set_self (by rw [hin.1]; exact hj)] at hz
    injection hz with hz
    exact .inl ⟨rfl, hz.symm⟩
  · rw [List.getElem?_set_ne (Ne.symm e)] at hz
    exact .inr ⟨e, hz⟩
 refine ⟨⟨by simpa using hl, vs.set j r, by rw [List.length_set]; exact h1, ⟨by simp [hin.1], fun i x hx => ?_, fun i k x y b hik hx hy hxb hyb => ?_⟩, fun i x hx => ?_⟩, h2⟩
 · rcases cas i x hx with ⟨rfl, rfl⟩ | ⟨e1, e2⟩
   · rw [nthL_set_same hj]; exact (row _ _ _ hr).mono hB
   · rw [nthL_set_ne (Ne.symm e1)]; exact row _ _ _ (hin.2.1 i x e2)
 · rcases cas i x hx with ⟨e1, e2⟩ | ⟨e1, e2⟩ <;> rcases cas k y hy with ⟨f1, f2⟩ | ⟨f1, f2⟩
   · omega
   · subst e2
     have a1 := (hr.lt b hxb).1
     have a2 := hlow y (hQ k y f2) b hyb
     omega
   · subst f2
     have a1 := (hr.lt b hyb).1
     have a2 := hlow x (hQ i x e2) b hxb
     omega
   · exact hin.2.2 i k x y b hik e2 f2 hxb hyb
 · rcases cas i x hx with ⟨rfl, rfl⟩ | ⟨e1, e2⟩
   · exact hq
   · exact hQQ x (hQ i x e2)
theorem OwnSQ.put2 (h : OwnSQ w B (.slice (some ⟨g, 0, none⟩) n c) yss Q) {r y : Value} {ys : List Int} (hr : Own w hi r ys) (hB : B ≤ hi)
    (hlow : ∀ x, Q x → ∀ k, x.ownBlock = some k → k < hi) (hq : Q' r) (hQQ : ∀ x, Q x → Q' x) {i t : Nat} (hi' : i < yss.length) (ht : t < yss.length) (hy : w.cell? ⟨g, t, none⟩ = some y) :
    OwnSQ ((w.setCell ⟨g, i, none⟩ y).setCell ⟨g, t, none⟩ r) B (.slice (some ⟨g, 0, none⟩) n c) ((yss.set i (nthL yss t)).set t ys) Q' ∧ w.grownBy ((w.setCell ⟨g, i, none⟩ y).setCell ⟨g, t, none⟩ r) (some g) := by
 have e := h.own.len
 subst e
 obtain ⟨hl, vs, ho, hin, hQ⟩ := h
 have vy : vs[t]? = some y := by rw [← ho.cellAt t (by omega)]; exact hy
 obtain ⟨h1, h2⟩ := ho.stored i y
 obtain ⟨h3, h4⟩ := h1.stored t r
 have row : ∀ (z : Value) (B2 : Nat) (xs : List Int), Own w B2 z xs → Own ((w.setCell ⟨g, i, none⟩ y).setCell ⟨g, t, none⟩ r) B2 z xs := fun z B2 xs hz => row_grow h1 h4 (row_grow ho h2 hz)
 have hil : i < vs.length := by rw [hin.1]; exact hi'
 have htl : t < vs.length := by rw [hin.1]; exact ht
 have cas : ∀ (q : Nat) (z : Value), ((vs.set i y).set t r)[q]? = some z → (q = t ∧ z = r) ∨ ∃ q', vs[q']? = some z ∧ q ≠ t ∧ ((q = i ∧ q' = t) ∨ (q ≠ i ∧ q' = q)) := fun q z hz => by
  by_cases e : q = t
  · subst e
    rw [List.getElem?_set_self (by rw [List.length_set]; exact htl)] at hz
    injection hz with hz
    exact .inl ⟨rfl, hz.symm⟩
  · rw [List.getElem?_set_ne (Ne.symm e)] at hz
    by_cases e2 : q = i
    · subst e2
      rw [List.getElem?_set_self hil] at hz
      injection hz with hz
      subst hz
      exact .inr ⟨t, vy, e, .inl ⟨rfl, rfl⟩⟩
    · rw [List.getElem?_set_ne (Ne.symm e2)] at hz
      exact .inr ⟨q, hz, e, .inr ⟨e2, rfl⟩⟩
 refine ⟨⟨by simpa using hl, (vs.set i y).set t r, by simpa using h3, ⟨by simp [hin.1], fun q z hz => ?_, fun q k z u b hqk hz hu hzb hub => ?_⟩, fun q z hz => ?_⟩, grown_trans_row h2 h4⟩
 · rcases cas q z hz with ⟨rfl, rfl⟩ | ⟨q', hq, hne, hc⟩
   · rw [nthL_set_same (by rw [List.length_set]; exact ht)]
     exact (row _ _ _ hr).mono hB
   · have o := row _ _ _ (hin.2.1 q' z hq)
     rcases hc with ⟨rfl, rfl⟩ | ⟨h1, rfl⟩
     · rw [nthL_set_ne (Ne.symm hne), nthL_set_same hi']; exact o
     · rw [nthL_set_ne (Ne.symm hne), nthL_set_ne (Ne.symm h1)]; exact o
 · rcases cas q z hz with ⟨rfl, rfl⟩ | ⟨q', hqv, hne, hc⟩ <;> rcases cas k u hu with ⟨rfl, rfl⟩ | ⟨k', hk, hke, hd⟩
   · omega
   · have a1 := (hr.lt b hzb).1
     have a2 := hlow u (hQ k' u hk) b hub
     omega
   · have a1 := (hr.lt b hub).1
     have a2 := hlow z (hQ q' z hqv) b hzb
     omega
   · exact hin.2.2 q' k' z u b (by omega) hqv hk hzb hub
 · rcases cas q z hz with ⟨rfl, rfl⟩ | ⟨q', hq', _, _⟩
   · exact hq
   · exact hQQ z (hQ q' z hq')
end
end Go.Proofs.YtgfcbmflnldicaaGreat
namespace Go.Proofs.YtgfcbmflnldicaaGreat
open Go.RowKit
def OwnT (w : World) (B : Nat) (v : Value) (xs : List Int) : Prop :=
 ∃ g k c d, ∃ pre : List Int, v = .slice (some ⟨g, k, none⟩) xs.length c ∧ xs.length ≤ c ∧ pre.length = k ∧ w.ownsRow B 2 1 (.slice (some ⟨g, 0, none⟩) (k + xs.length) (k + c + d)) (k + xs.length) ((pre ++ xs).map (Value.int .i64))
section
variable {w w' : World} {B B' : Nat} {v : Value} {xs : List Int}
theorem OwnT.lt (h : OwnT w B v xs) : ∀ q, v.ownBlock = some q → B ≤ q ∧ q < w.heap.size := by
 obtain ⟨g, k, c, d, pre, rfl, _, _, ho⟩ := h
 intro q hq
 exact ho.lt q hq
theorem OwnT.grow {row : Option Nat} (h : OwnT w B v xs) (hg : w.grownBy w' row) (hne : v.ownBlock ≠ row) : OwnT w' B v xs := by
 obtain ⟨g, k, c, d, pre, rfl, hxc, hp, ho⟩ := h
 exact ⟨g, k, c, d, pre, rfl, hxc, hp, ho.kept hg (.inr hne)⟩
theorem OwnT.below (h : OwnT w B v xs) (hb : Below w.heap.size w w') : OwnT w' B v xs := by
 obtain ⟨g, k, c, d, pre, rfl, hxc, hp, ho⟩ := h
 exact ⟨g, k, c, d, pre, rfl, hxc, hp, ownsRow_below ho hb (Nat.le_refl _)⟩
theorem OwnT.alloc (h : OwnT w B v xs) (o : Obj) : OwnT (w.alloc o) B v xs := h.below ((Below.refl _ _).alloc (Nat.le_refl _) _)
theorem OwnT.form (h : OwnT w B v xs) : ∃ g k c, v = .slice (some ⟨g, k, none⟩) xs.length c := by
 obtain ⟨g, k, c, d, pre, rfl, hxc, hp, ho⟩ := h
 exact ⟨g, k, c, rfl⟩
end
end Go.Proofs.YtgfcbmflnldicaaGreat
namespace Go.Proofs.YtgfcbmflnldicaaGreat
open Go.RowKit
theorem Blk.grown {w w' : World} {g : Nat} {t : TypeId} {cs : Array Value} {row : Option Nat} (h : Blk w g t cs) (hg : w.grownBy w' row) (hne : row ≠ some g) : Blk w' g t cs := (hg.block g h.lt (Ne.symm hne)).trans h
end Go.Proofs.YtgfcbmflnldicaaGreat
