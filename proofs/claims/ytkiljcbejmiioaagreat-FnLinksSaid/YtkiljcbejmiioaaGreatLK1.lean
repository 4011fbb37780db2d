/-
  Texts joined.
-/
import Derived.BigQuiet
import Derived.Deep.DeepMust
import Derived.Deep.Draws
import Derived.Deep.OwnRows
import Derived.Deep.QuietTactic
import Derived.Lib.Hide
import Derived.Maps.AppendAt
import Derived.Test.YtkiljcbejmiioaaGreatProg
import Derived.WalkKit
import Derived.WalkLawsBesides
import Derived.WalkSpells

set_option linter.unusedVariables false
set_option linter.unusedSimpArgs false
set_option maxRecDepth 100000
set_option maxHeartbeats 40000000
namespace Go.Proofs.YtkiljcbejmiioaaGreat
open Go.RowKit
theorem Tryz.info_i64 : (Tryz.prog.info? 2).map (fun i => (i.zero, i.size, i.bytes)) = some (some (.int .i64 0), 1, 8) := by kernel_rfl
theorem hide {p : Prop} (h : p) : Hid p := h
theorem unhide {p : Prop} (h : Hid p) : p := h
theorem ret_bool {a b : Bool} (h : a = b) : Ending.returned (.bool a) = Ending.returned (.bool b) := by rw [h]
theorem ret_int {k : IntKind} {a b : Int} (h : a = b) : Ending.returned (.int k a) = Ending.returned (.int k b) := by rw [h]
theorem ret_ints2 {k j : IntKind} {a b c d : Int} (h1 : a = b) (h2 : c = d) : Ending.returned (.tuple #[.int k a, .int j c]) = Ending.returned (.tuple #[.int k b, .int j d]) := by rw [h1, h2]
def Qt (w w' : World) : Prop := ∃ k, w' = w.drewN k
theorem Qt.refl (w : World) : Qt w w := ⟨0, rfl⟩
theorem Qt.one (w : World) (k : Nat) : Qt w (w.drewN k) := ⟨k, rfl⟩
theorem Qt.two (w : World) (j k : Nat) : Qt w ((w.drewN j).drewN k) := ⟨j + k, by rw [World.drewN_drewN]⟩
theorem Qt.trans {a b c : World} (h : Qt a b) (k : Qt b c) : Qt a c := by
 obtain ⟨m, rfl⟩ := h
 obtain ⟨n, rfl⟩ := k
 exact Qt.two _ _ _
theorem Qt.below {w w' : World} (h : Qt w w') (B : Nat) : Below B w w' := by
 obtain ⟨k, rfl⟩ := h
 exact ⟨rfl, rfl, rfl, Nat.le_refl _, fun _ _ => rfl⟩
def Blk (w : World) (g : Nat) (t : TypeId) (cs : Array Value) : Prop := w.heap[g]? = some (.cells cs t (0, 0))
section
variable {w w' : World} {g : Nat} {t : TypeId} {cs : Array Value}
theorem Blk.lt (h : Blk w g t cs) : g < w.heap.size := (Array.getElem?_eq_some_iff.1 h).1
theorem Blk.cell (h : Blk w g t cs) (i : Nat) : w.cell? ⟨g, i, none⟩ = cs[i]? := cell_of_row w g i cs t (0, 0) h
theorem Blk.frozen (h : Blk w g t cs) (i : Nat) : w.frozen? ⟨g, i, none⟩ = false := frozen_of_row w g i cs t h
theorem Blk.new (w : World) (t : TypeId) (cs : Array Value) {g : Nat} (hg : g = w.heap.size) : Blk (w.alloc (.cells cs t)) g t cs := by subst hg; exact heap_alloc_new w _
theorem Blk.alloc (h : Blk w g t cs) (o : Obj) : Blk (w.alloc o) g t cs := (Below.heap_alloc w o g h.lt).trans h
theorem Blk.below {B : Nat} (h : Blk w g t cs) (hb : Below B w w') (hg : g < B) : Blk w' g t cs := (hb.block g hg).trans h
theorem Blk.drewN (h : Blk w g t cs) (n : Nat) : Blk (w.drewN n) g t cs := h
theorem Blk.set_ (h : Blk w g t cs) (i : Nat) (u : Value) : Blk (w.setCell ⟨g, i, none⟩ u) g t (cs.setIfInBounds i u) := heap_setCell_same w g i cs t u h
theorem Blk.far (h : Blk w g t cs) {p : Addr} (hp : g ≠ p.block) (u : Value) : Blk (w.setCell p u) g t cs := (Below.heap_setCell w p u g hp).trans h
end
def nth (xs : List Int) (i : Nat) : Int := xs.getD i 0
theorem nth_lt {xs : List Int} {i : Nat} (h : i < xs.length) : nth xs i = xs[i] := by simp [nth, h]
theorem take_nth {xs : List Int} {k : Nat} (h : k < xs.length) : xs.take (k + 1) = xs.take k ++ [nth xs k] := by
 rw [List.take_add_one, nth_lt h, List.getElem?_eq_getElem h]; rfl
theorem eq_of_nth {xs ys : List Int} (hl : xs.length = ys.length) (h : ∀ i, i < xs.length → nth xs i = nth ys i) : xs = ys := by
 apply List.ext_getElem hl
 intro i h1 h2
 have := h i h1
 rwa [nth_lt h1, nth_lt h2] at this
theorem nth_mem {xs : List Int} {k : Nat} (h : k < xs.length) : nth xs k ∈ xs := by rw [nth_lt h]; exact List.getElem_mem h
def Rd (w : World) (a : Option Addr) (xs : List Int) : Prop :=
 xs.length ≤ 1073741824 ∧ (0 < xs.length → ∃ b off, a = some ⟨b, off, none⟩ ∧ ∀ i, i < xs.length → w.cell? ⟨b, off + i, none⟩ = some (.int .i64 (nth xs i)))
section
variable {w w' : World} {a : Option Addr} {xs : List Int} {B : Nat}
theorem Rd.len (h : Rd w a xs) : xs.length ≤ 1073741824 := h.1
theorem Rd.at_ (h : Rd w a xs) (h0 : 0 < xs.length) : ∃ b off, a = some ⟨b, off, none⟩ ∧ b < w.heap.size ∧ ∀ i, i < xs.length → w.cell? ⟨b, off + i, none⟩ = some (.int .i64 (nth xs i)) := by
 obtain ⟨b, off, e, hc⟩ := h.2 h0
 exact ⟨b, off, e, World.block_lt_of_cell? w _ (hc 0 h0), hc⟩
theorem Rd.keep (h : Rd w a xs) (hk : ∀ p : Addr, p.block < w.heap.size → w'.cell? p = w.cell? p) : Rd w' a xs :=
 ⟨h.1, fun h0 => by
  obtain ⟨b, off, e, hb, hc⟩ := h.at_ h0
  exact ⟨b, off, e, fun i hi => (hk _ hb).trans (hc i hi)⟩⟩
theorem Rd.below (h : Rd w a xs) (hb : Below w.heap.size w w') : Rd w' a xs := h.keep fun _ hp => hb.cell hp
theorem Rd.nil (w : World) (a : Option Addr) : Rd w a [] := ⟨by simp, fun h => by simp at h⟩
theorem Rd.drewN (h : Rd w a xs) (k : Nat) : Rd (w.drewN k) a xs := h.keep fun _ _ => by simp
end
def Own (w : World) (B : Nat) (v : Value) (xs : List Int) : Prop :=
 xs.length ≤ 1073741824 ∧ w.ownsRow B 2 1 v xs.length (xs.map (Value.int .i64))
section
variable {w w' : World} {v : Value} {xs : List Int} {B B' : Nat}
theorem Own.form (h : Own w B v xs) : ∃ a c, v = .slice a xs.length c ∧ Rd w a xs ∧ (∀ k, v.ownBlock = some k → B ≤ k ∧ k < w.heap.size) := by
 obtain ⟨hl, h⟩ := h
 have hlt := h.lt
 have h2 := h
 rcases h.2 with ⟨rfl, h0⟩ | ⟨g, cap, cur, rfl, hb, hg, hn, hm, hs, ht⟩
 · exact ⟨none, 0, by rw [h0], ⟨hl, fun hh => by omega⟩, hlt⟩
 · refine ⟨some ⟨g, 0, none⟩, cap, rfl, ⟨hl, fun _ => ⟨g, 0, rfl, fun i hi => ?_⟩⟩, hlt⟩
   rw [Nat.zero_add, h2.cellAt i (by omega), List.getElem?_map, List.getElem?_eq_getElem hi, nth_lt hi]; rfl
theorem Own.rd {a : Option Addr} {n c : Nat} (h : Own w B (.slice a n c) xs) : Rd w a xs := by
 obtain ⟨a', c', e, hr, _⟩ := h.form
 injection e with e1 e2 e3
 subst e1; exact hr
theorem Own.len {a : Option Addr} {n c : Nat} (h : Own w B (.slice a n c) xs) : n = xs.length := by
 obtain ⟨a', c', e, hr, _⟩ := h.form
 injection e with e1 e2 e3
theorem Own.mono (h : Own w B v xs) (hB : B' ≤ B) : Own w B' v xs := by
 obtain ⟨hl, h1, h2⟩ := h
 refine ⟨hl, h1, ?_⟩
 rcases h2 with h2 | ⟨g, cap, cur, e, hb, r⟩
 · exact .inl h2
 · exact .inr ⟨g, cap, cur, e, by omega, r⟩
theorem Own.below {B1 : Nat} (h : Own w B v xs) (hb : Below B1 w w') (hlt : w.heap.size ≤ B1) : Own w' B v xs := by
 obtain ⟨hl, h1, h2⟩ := h
 refine ⟨hl, h1, ?_⟩
 rcases h2 with h2 | ⟨g, cap, cur, e, hB, hg, r⟩
 · exact .inl h2
 · refine .inr ⟨g, cap, cur, e, hB, ?_, r⟩
   rw [hb.block g (by have := (Array.getElem?_eq_some_iff.1 hg).1; omega)]; exact hg
theorem Own.of_rowIs {b n : Nat} {f : Nat → Value} (h : w.rowIs b 2 n f) (hB : B ≤ b) (hn : xs.length = n) (hl : xs.length ≤ 1073741824) (hf : ∀ i, i < n → f i = .int .i64 (nth xs i)) :
    Own w B (.slice (some ⟨b, 0, none⟩) n n) xs := by
 obtain ⟨c, hb, hc, hi⟩ := h
 subst hn
 refine ⟨hl, by simp, .inr ⟨b, _, c, rfl, hB, hb, Nat.le_refl _, by unfold maxLen; omega, by omega, ?_⟩⟩
 apply List.ext_getElem?
 intro i
 rw [Nat.mul_one, List.getElem?_take, List.getElem?_map]
 split
 · rename_i hlt
   rw [Array.getElem?_toList, hi i hlt, hf i hlt, List.getElem?_eq_getElem hlt, nth_lt hlt]; rfl
 · rw [List.getElem?_eq_none (by omega)]; rfl
theorem Own.set {g n c : Nat} (h : Own w B (.slice (some ⟨g, 0, none⟩) n c) xs) (j : Nat) (x : Int) :
    Own (w.setCell ⟨g, j, none⟩ (.int .i64 x)) B (.slice (some ⟨g, 0, none⟩) n c) (xs.set j x) ∧ w.grownBy (w.setCell ⟨g, j, none⟩ (.int .i64 x)) (some g) := by
 have hl := h.len
 subst hl
 obtain ⟨hl, h⟩ := h
 obtain ⟨h1, h2⟩ := h.stored j (.int .i64 x)
 refine ⟨⟨by simpa using hl, ?_⟩, h2⟩
 rw [List.map_set, List.length_set]; exact h1
theorem Own.cell {g n c : Nat} (h : Own w B (.slice (some ⟨g, 0, none⟩) n c) xs) {j : Nat} (hj : j < xs.length) : w.cell? ⟨g, j, none⟩ = some (.int .i64 (nth xs j)) := by
 have hl := h.len
 subst hl
 rw [h.2.cellAt j (by omega), List.getElem?_map, List.getElem?_eq_getElem hj, nth_lt hj]; rfl
theorem Own.frozen {g n c : Nat} (h : Own w B (.slice (some ⟨g, 0, none⟩) n c) xs) (j : Nat) : w.frozen? ⟨g, j, none⟩ = false := by
 have hl := h.len
 subst hl
 exact h.2.frozenAt j
theorem Own.grow (h : Own w B v xs) {row : Option Nat} (hg : w.grownBy w' row) (hne : v.ownBlock = none ∨ v.ownBlock ≠ row) : Own w' B v xs := ⟨h.1, h.2.kept hg hne⟩
theorem Own.lt (h : Own w B v xs) : ∀ k, v.ownBlock = some k → B ≤ k ∧ k < w.heap.size := h.2.lt
theorem Rd.grow {a : Option Addr} (h : Rd w a xs) {row : Option Nat} (hg : w.grownBy w' row) (hne : ∀ p, a = some p → some p.block ≠ row) : Rd w' a xs :=
 ⟨h.1, fun h0 => by
  obtain ⟨b, off, rfl, hb, hc⟩ := h.at_ h0
  exact ⟨b, off, rfl, fun i hi => hg.cell (hc i hi) (hne ⟨b, off, none⟩ rfl)⟩⟩
theorem Own.slice_form (h : Own w B v xs) : (v = .slice none 0 0 ∧ xs = []) ∨ ∃ g c, v = .slice (some ⟨g, 0, none⟩) xs.length c ∧ B ≤ g ∧ g < w.heap.size := by
 have hlt := h.lt
 rcases h.2.2 with ⟨rfl, h0⟩ | ⟨g, cap, cur, rfl, hb, hg, hn, hm, hs, ht⟩
 · exact .inl ⟨rfl, List.eq_nil_of_length_eq_zero h0⟩
 · exact .inr ⟨g, cap, rfl, hlt g rfl⟩
theorem Own.nil (w : World) (B : Nat) : Own w B (.slice none 0 0) [] := ⟨by simp, World.ownsRow_nil _ _ _ _⟩
theorem grown_refl (w : World) (row : Option Nat) : w.grownBy w row := World.grownBy.refl w row
theorem grown_trans_row {a b c : World} {row : Option Nat} (h : a.grownBy b row) (k : b.grownBy c row) : a.grownBy c row :=
 ⟨k.os.trans h.os, k.tape.trans h.tape, k.output.trans h.output, Nat.le_trans h.size k.size, fun i hi hne => (k.block i (Nat.lt_of_lt_of_le hi h.size) hne).trans (h.block i hi hne)⟩
end
theorem Rd.one (w : World) (y : Int) (t : TypeId) : Rd (w.alloc (.cells #[.int .i64 y] t)) (some ⟨w.heap.size, 0, none⟩) [y] :=
 ⟨by simp, fun _ => ⟨_, _, rfl, fun i hi => by
  obtain rfl : i = 0 := by simpa using hi
  rw [World.cell?_alloc_at _ _ _ _ rfl]; rfl⟩⟩
theorem Rd.alloc {w : World} {a : Option Addr} {xs : List Int} (h : Rd w a xs) (o : Obj) : Rd (w.alloc o) a xs := h.keep fun p hp => World.cell?_alloc_lt w o p hp
theorem Own.alloc {w : World} {B : Nat} {v : Value} {xs : List Int} (h : Own w B v xs) (o : Obj) : Own (w.alloc o) B v xs := ⟨h.1, h.2.alloc o⟩
theorem Own.drewN {w : World} {B : Nat} {v : Value} {xs : List Int} (h : Own w B v xs) (k : Nat) : Own (w.drewN k) B v xs := h
theorem Below.chain {a b c : World} (h : Below a.heap.size a b) (k : Below b.heap.size b c) : Below a.heap.size a c := h.trans (k.mono h.size)
theorem Below.drewn {a : World} (n : Nat) : Below a.heap.size a (a.drewN n) := Qt.below ⟨n, rfl⟩ _
theorem Own.empty (w : World) {B : Nat} (hB : B ≤ w.heap.size) : Own (w.alloc (.cells #[] 2)) B (.slice (some ⟨w.heap.size, 0, none⟩) 0 0) [] :=
 ⟨by simp, World.ownsRow_made w #[] 0 hB (by simp) rfl⟩
theorem Below.step {B : Nat} {a w w' : World} {v : Value} {xs : List Int} {Bo : Nat} (h : Below B a w) (hg : w.grownBy w' v.ownBlock) (ho : Own w Bo v xs) (hBo : B ≤ Bo) (hB : B ≤ w.heap.size) : Below B a w' :=
 h.grown hg hB (fun k hk => by have := (ho.lt k hk).1; omega)
theorem wpList_append_ints {w : World} {ops : Array Oper} {rest : List Oper} {o : Oper} {a : Act} {Q : Exit → Act → World → Prop} (hgd : o.guard = none) (s x : Operand)
    (ho : o.op = .call { callee := .builtin .append, args := #[s, x], argTypes := #[28, 28] })
    (B : Nat) (v : Value) (xs ys : List Int) (hs : a.eval s = v) (hown : Own w B v xs) (ad : Option Addr) (m c : Nat) (hx : a.eval x = .slice ad m c) (hm : m = ys.length) (hr : Rd w ad ys)
    (hl : xs.length + ys.length ≤ 1073741824) (hB : B ≤ w.heap.size)
    (h : ∀ v' w', Own w' B v' (xs ++ ys) → w.grownBy w' v.ownBlock → (v'.ownBlock = v.ownBlock ∨ v'.ownBlock = some w.heap.size) → wpList Tryz.prog ops Q rest (a.put o.dst v') w') :
    wpList Tryz.prog ops Q (o :: rest) a w := by
 obtain ⟨i0, hi0, hz0, hz1, hz2⟩ := info_parts Tryz.info_i64
 refine wpList_plain hgd fun K hK => ?_
 have key : ∃ v' w', (Builtin.append_ #[28, 28] o.type #[v, .slice ad m c]).run Tryz.prog w = .ok v' w' ∧ Own w' B v' (xs ++ ys) ∧ w.grownBy w' v.ownBlock ∧ (v'.ownBlock = v.ownBlock ∨ v'.ownBlock = some w.heap.size) := by
  rcases Nat.eq_zero_or_pos ys.length with h0 | h0
  · have hy : ys = [] := List.eq_nil_of_length_eq_zero h0
    subst hy
    simp only [List.length_nil] at hm
    subst hm
    refine ⟨v, w, ?_, by simpa using hown, World.grownBy.refl w _, .inl rfl⟩
    rcases hown.2.2 with ⟨rfl, h0⟩ | ⟨g, cap, cur, rfl, _, _, hnc, _⟩
    · cases ad <;> simp [Builtin.append_, run_underlying Tryz.underlying28, sizeOf, typeInfo, hi0, Builtin.lenOf, Builtin.firstCells, loadCells, loadCellsFrom]
    · cases ad <;> simp [Builtin.append_, run_underlying Tryz.underlying28, sizeOf, typeInfo, hi0, Builtin.lenOf, Builtin.firstCells, hnc, storeCells, loadCells, loadCellsFrom]
  · obtain ⟨b, off, rfl, _, hc⟩ := hr.at_ h0
    obtain ⟨v', w', h1, h2, h3, _, h5⟩ := run_append_own_at (P := Tryz.prog) w B 28 o.type 2 i0 (.int .i64 0) 1 8 Tryz.underlying28 hi0 hz0 hz1 hz2 rfl (by omega) v xs.length (xs.map (Value.int .i64)) hown.2 ⟨b, off, none⟩ m c (ys.map (Value.int .i64)) (by simp [hm])
     (fun j u hu => by
      have hj : j < ys.length := by
       have := (List.getElem?_eq_some_iff.1 hu).1
       simpa using this
      rw [Addr.add_lit, hc j hj, ← hu, List.getElem?_map, List.getElem?_eq_getElem hj, nth_lt hj]; rfl)
     (ints_oneCell _ _) (by unfold maxLen; omega) (by omega) hB
    exact ⟨v', w', h1, ⟨by simpa using hl, by rw [List.map_append, List.length_append, ← hm]; exact h2⟩, h3, h5⟩
 obtain ⟨v', w', hrun, h2, h3, h4⟩ := key
 unfold Oper.wp execOp
 simp only [ho, resolve, invoke, builtin, Sem.run_bind, Sem.run_pure, Result.andThen_ok, List.map_toArray, List.map_cons, List.map_nil, hs, hx, hrun]
 exact hK _ _ (h v' w' h2 h3 h4)
def In (v : Value) (lo hi : Nat) : Prop := ∀ k, v.ownBlock = some k → lo ≤ k ∧ k < hi
theorem Own.in_ {w : World} {B : Nat} {v : Value} {xs : List Int} (h : Own w B v xs) : In v B w.heap.size := h.lt
theorem Rd.in_ {w : World} {a : Option Addr} {xs : List Int} (h : Rd w a xs) (n c : Nat) (h0 : 0 < xs.length) : In (.slice a n c) 0 w.heap.size := by
 obtain ⟨b, off, rfl, hb, _⟩ := h.at_ h0
 intro k hk
 simp only [Value.ownBlock, Option.some.injEq] at hk
 omega
theorem Rd.apart {w w' : World} {a : Option Addr} {xs : List Int} (h : Rd w a xs) {u : Value} (hg : w.grownBy w' u.ownBlock) {n c lo hi lo' hi' : Nat} (ha : 0 < xs.length → In (.slice a n c) lo hi) (hu : In u lo' hi') (hd : hi ≤ lo' ∨ hi' ≤ lo) : Rd w' a xs :=
 ⟨h.1, fun h0 => by
  obtain ⟨b, off, rfl, hb, hc⟩ := h.at_ h0
  refine ⟨b, off, rfl, fun i hi => hg.cell (hc i hi) fun e => ?_⟩
  have h1 := ha h0 b rfl
  have h2 := hu b e.symm
  omega⟩
theorem Own.apart {w w' : World} {B : Nat} {v : Value} {xs : List Int} (h : Own w B v xs) {u : Value} (hg : w.grownBy w' u.ownBlock) {lo hi lo' hi' : Nat} (hv : In v lo hi) (hu : In u lo' hi') (hd : hi ≤ lo' ∨ hi' ≤ lo) : Own w' B v xs :=
 h.grow hg (by
  rcases hx : v.ownBlock with _ | k
  · exact .inl rfl
  · refine .inr fun e => ?_
    have h1 := hv k hx
    have h2 := hu k e.symm
    omega)
theorem Below.wrote {B : Nat} {w w' : World} {u : Value} {lo hi : Nat} (hg : w.grownBy w' u.ownBlock) (hu : In u lo hi) (hB : B ≤ w.heap.size) (hlo : B ≤ lo) : Below B w w' :=
 (Below.refl B w).grown hg hB fun k hk => by have := (hu k hk).1; omega
end Go.Proofs.YtkiljcbejmiioaaGreat
namespace Go.Proofs.YtkiljcbejmiioaaGreat
open Go.RowKit
def capTo (b l : Int) : Nat → Int
 | 0 => 1
 | k + 1 => if capTo b l k ≤ l then capTo b l k * b else capTo b l k
theorem capTo_stop {b l : Int} {k : Nat} (h : ¬ capTo b l k ≤ l) : ∀ m, k ≤ m → capTo b l m = capTo b l k := by
 intro m hm
 induction m with
 | zero => obtain rfl : k = 0 := by omega
           rfl
 | succ m ih =>
  by_cases e : k = m + 1
  · subst e; rfl
  · have := ih (by omega)
    rw [capTo, this, if_neg h]
theorem capTo_go {b l : Int} {k : Nat} (h : capTo b l k ≤ l) : capTo b l (k + 1) = capTo b l k * b := by rw [capTo, if_pos h]
theorem capTo_pos {b l : Int} (hb : 1 ≤ b) (k : Nat) : 1 ≤ capTo b l k := by
 induction k with
 | zero => exact Int.le_refl _
 | succ k ih =>
  rw [capTo]
  split
  · have := Int.mul_le_mul ih hb (by omega) (by omega)
    omega
  · exact ih
theorem capTo_pow {b l : Int} (hb : 1 ≤ b) : ∀ k : Nat, b ^ k ≤ l → capTo b l k = b ^ k := by
 intro k
 induction k with
 | zero => intro _; simp [capTo]
 | succ k ih =>
  intro h
  have h1 : b ^ k ≤ b ^ (k + 1) := by
   rw [Int.pow_succ]
   have h0 : 0 ≤ b ^ k := Int.pow_nonneg (by omega)
   have := Int.mul_le_mul_of_nonneg_left hb h0
   omega
  have h2 := ih (by omega)
  rw [capTo, h2, if_pos (by omega), Int.pow_succ]
def dig (a p : Int) (k : Nat) : List Int := (List.range k).map (fun (i : Nat) => a / p ^ i % p)
theorem dig_len (a p : Int) (k : Nat) : (dig a p k).length = k := by simp [dig]
theorem dig_succ (a p : Int) (k : Nat) : dig a p (k + 1) = dig a p k ++ [a / p ^ k % p] := by simp [dig, List.range_succ]
theorem dig_nth (a p : Int) {k i : Nat} (h : i < k) : nth (dig a p k) i = a / p ^ i % p := by simp [nth, dig, h]
theorem dig_range {a p : Int} (hp : 0 < p) (k : Nat) : ∀ x ∈ dig a p k, 0 ≤ x ∧ x < p := by
 intro x hx
 obtain ⟨i, _, rfl⟩ := List.mem_map.1 hx
 exact ⟨Int.emod_nonneg _ (by omega), Int.emod_lt_of_pos _ hp⟩
theorem div_pow_succ (a p : Int) (hp : 0 < p) (k : Nat) : a / p ^ k / p = a / p ^ (k + 1) := by
 rw [Int.pow_succ, Int.ediv_ediv_of_nonneg (Int.pow_nonneg (by omega))]
def num (p : Int) (xs : List Int) : Int := xs.foldr (fun x acc => acc * p + x) 0
theorem num_cons (p x : Int) (xs : List Int) : num p (x :: xs) = num p xs * p + x := rfl
theorem num_drop (p : Int) {xs : List Int} {k : Nat} (h : k < xs.length) : num p (xs.drop k) = num p (xs.drop (k + 1)) * p + nth xs k := by
 rw [List.drop_eq_getElem_cons h, num_cons, nth_lt h]
theorem num_bound {p : Int} (hp : 0 < p) {xs : List Int} (h : ∀ x ∈ xs, 0 ≤ x ∧ x < p) : 0 ≤ num p xs ∧ num p xs < p ^ xs.length := by
 induction xs with
 | nil => simp [num]
 | cons x xs ih =>
  have h1 := ih (fun y hy => h y (List.mem_cons_of_mem _ hy))
  have h2 := h x (List.mem_cons_self)
  rw [num_cons, List.length_cons, Int.pow_succ]
  have h3 : 0 ≤ num p xs * p := Int.mul_nonneg h1.1 (by omega)
  have h4 : (num p xs + 1) * p ≤ p ^ xs.length * p := Int.mul_le_mul_of_nonneg_right (by omega) (by omega)
  rw [Int.add_mul] at h4
  omega
theorem num_zero {p : Int} (hp : 0 < p) {xs : List Int} (h : ∀ x ∈ xs, 0 ≤ x ∧ x < p) : num p xs = 0 ↔ ∀ x ∈ xs, x = 0 := by
 induction xs with
 | nil => simp [num]
 | cons x xs ih =>
  have h0 : ∀ y ∈ xs, 0 ≤ y ∧ y < p := fun y hy => h y (List.mem_cons_of_mem _ hy)
  have h1 := num_bound hp h0
  have h2 := h x (List.mem_cons_self)
  have h3 : 0 ≤ num p xs * p := Int.mul_nonneg h1.1 (by omega)
  rw [num_cons]
  constructor
  · intro e y hy
    have hx0 : x = 0 := by omega
    have hm : num p xs * p = 0 := by omega
    have hn : num p xs = 0 := by
     rcases Int.mul_eq_zero.1 hm with h | h
     · exact h
     · omega
    rcases List.mem_cons.1 hy with rfl | hy
    · exact hx0
    · exact (ih h0).1 hn y hy
  · intro e
    rw [(ih h0).2 (fun y hy => e y (List.mem_cons_of_mem _ hy)), e x List.mem_cons_self]; simp
theorem nth_set_same {xs : List Int} {i : Nat} (h : i < xs.length) (v : Int) : nth (xs.set i v) i = v := by simp [nth, h]
theorem nth_set_ne {xs : List Int} {i j : Nat} (h : i ≠ j) (v : Int) : nth (xs.set i v) j = nth xs j := by
 simp [nth, List.getD_eq_getElem?_getD, List.getElem?_set_ne h]
def setK (xs ys : List Int) (c p : Int) (off : Nat) : Nat → List Int
 | 0 => xs
 | k + 1 => (setK xs ys c p off k).set (off + k) ((nth xs (off + k) - c * nth ys k) % p)
theorem setK_len (xs ys : List Int) (c p : Int) (off k : Nat) : (setK xs ys c p off k).length = xs.length := by
 induction k with
 | zero => rfl
 | succ k ih => rw [setK, List.length_set, ih]
theorem setK_nth (xs ys : List Int) (c p : Int) (off : Nat) {k j : Nat} (h : j < off ∨ off + k ≤ j) : nth (setK xs ys c p off k) j = nth xs j := by
 induction k with
 | zero => rfl
 | succ k ih => rw [setK, nth_set_ne (by omega), ih (by omega)]
def InR (p : Int) (xs : List Int) : Prop := ∀ x ∈ xs, 0 ≤ x ∧ x < p
theorem InR.nth {p : Int} {xs : List Int} (h : InR p xs) {i : Nat} (hi : i < xs.length) : 0 ≤ nth xs i ∧ nth xs i < p := h _ (nth_mem hi)
theorem InR.set {p : Int} {xs : List Int} (h : InR p xs) (i : Nat) {v : Int} (hv : 0 ≤ v ∧ v < p) : InR p (xs.set i v) := by
 intro x hx
 rcases List.mem_or_eq_of_mem_set hx with h1 | rfl
 · exact h x h1
 · exact hv
theorem emod_range {p : Int} (hp : 0 < p) (a : Int) : 0 ≤ a % p ∧ a % p < p := ⟨Int.emod_nonneg _ (by omega), Int.emod_lt_of_pos _ hp⟩
theorem setK_in {p : Int} (hp : 0 < p) {xs : List Int} (h : InR p xs) (ys : List Int) (c : Int) (off k : Nat) : InR p (setK xs ys c p off k) := by
 induction k with
 | zero => exact h
 | succ k ih => exact ih.set _ (emod_range hp _)
def remTo (p : Int) (ys xs : List Int) : Nat → List Int
 | 0 => xs
 | t + 1 => setK (remTo p ys xs t) ys (nth (remTo p ys xs t) (xs.length - 1 - t)) p (xs.length - 1 - t - (ys.length - 1)) ys.length
theorem remTo_len (p : Int) (ys xs : List Int) (t : Nat) : (remTo p ys xs t).length = xs.length := by
 induction t with
 | zero => rfl
 | succ t ih => rw [remTo, setK_len, ih]
theorem remTo_in {p : Int} (hp : 0 < p) {xs : List Int} (h : InR p xs) (ys : List Int) (t : Nat) : InR p (remTo p ys xs t) := by
 induction t with
 | zero => exact h
 | succ t ih => exact setK_in hp ih _ _ _ _
def prem (p : Int) (ys xs : List Int) : List Int := (remTo p ys xs (xs.length - (ys.length - 1))).take (ys.length - 1)
theorem prem_in {p : Int} (hp : 0 < p) {xs : List Int} (h : InR p xs) (ys : List Int) : InR p (prem p ys xs) := fun x hx => remTo_in hp h _ _ x (List.mem_of_mem_take hx)
theorem prem_len (p : Int) (ys xs : List Int) : (prem p ys xs).length = min (ys.length - 1) xs.length := by
 rw [prem, List.length_take, remTo_len]
end Go.Proofs.YtkiljcbejmiioaaGreat
namespace Go.Proofs.YtkiljcbejmiioaaGreat
open Go.RowKit
def inB (n lo hi : Int) : Bool := decide (lo ≤ n ∧ n ≤ hi)
theorem inB_yes {n lo hi : Int} (h1 : lo ≤ n) (h2 : n ≤ hi) : inB n lo hi = true := by simp [inB, h1, h2]
theorem inB_no1 {n lo hi : Int} (h1 : ¬ lo ≤ n) : inB n lo hi = false := by simp [inB, h1]
theorem inB_no2 {n lo hi : Int} (h1 : ¬ n ≤ hi) : inB n lo hi = false := by simp [inB, h1]
theorem inB_true {n lo hi : Int} : inB n lo hi = true ↔ lo ≤ n ∧ n ≤ hi := by simp [inB]
theorem within_any (n lo hi : Int) (w : World) : Calls Tryz.prog 38 #[.int .i64 n, .int .i64 lo, .int .i64 hi] w fun e w' => e = .returned (.bool (inB n lo hi)) ∧ w = w' := by
 by_cases h1 : lo ≤ n
 · by_cases h2 : n ≤ hi
   · go_enter Tryz.func38, Tryz.ntmps38
     go_wp2
     go_ret
     exact ⟨ret_bool (by simp [inB, h1, h2]), rfl⟩
   · go_enter Tryz.func38, Tryz.ntmps38
     go_wp2
     go_ret
     exact ⟨ret_bool (by rw [inB_no2 (by omega)]), rfl⟩
 · go_enter Tryz.func38, Tryz.ntmps38
   go_wp2
   go_ret
   exact ⟨ret_bool (by rw [inB_no1 (by omega)]), rfl⟩
theorem l00In_any (n lo hi : Int) (w : World) : Calls Tryz.prog 58 #[.int .i64 n, .int .i64 lo, .int .i64 hi] w fun e w' => e = .returned (.bool (inB n lo hi)) ∧ w = w' := by
 by_cases h1 : lo ≤ n
 · by_cases h2 : n ≤ hi
   · go_enter Tryz.func58, Tryz.ntmps58
     go_wp2
     go_ret
     exact ⟨ret_bool (by simp [inB, h1, h2]), rfl⟩
   · go_enter Tryz.func58, Tryz.ntmps58
     go_wp2
     go_ret
     exact ⟨ret_bool (by rw [inB_no2 (by omega)]), rfl⟩
 · go_enter Tryz.func58, Tryz.ntmps58
   go_wp2
   go_ret
   exact ⟨ret_bool (by rw [inB_no1 (by omega)]), rfl⟩
theorem powerUpTo_any (b ex l : Int) (w : World) (hb : 1 ≤ b) (hb2 : b ≤ 1000000) (hl : 1 ≤ l) (hl2 : l ≤ 1000000000000) (hex : ex ≤ 9223372036854775807) :
    Calls Tryz.prog 63 #[.int .i64 b, .int .i64 ex, .int .i64 l] w fun e w' => e = .returned (.int .i64 (capTo b l ex.toNat)) ∧ w = w' := by
 go_enter Tryz.func63, Tryz.ntmps63
 go_wp2
 go_loop [1, 7] (fun ev pv => ∃ (k : Nat) (x y : Int), ev = .int .i64 x ∧ pv = .int .i64 y ∧ Hid (x = ex - k) ∧ Hid (y = capTo b l k) ∧ Hid (k ≤ ex.toNat) ∧ x ≤ 9223372036854775807 ∧ (1 ≤ y)) (fun ev _ => (intOf ev).toNat)
 case atStart => exact ⟨0, ex, 1, rfl, rfl, show _ = _ by simp, rfl, Nat.zero_le _, hex, by omega⟩
 case round =>
  obtain ⟨k, x, y, rfl, rfl, hX, hY, hK, hx, hy⟩ := hrel
  by_cases h1 : 0 < x
  · by_cases h2 : y ≤ l
    · have h3 : y * b ≤ l * 1000000 := by
        have e1 := Int.mul_le_mul_of_nonneg_right h2 (show 0 ≤ b by omega)
        have e2 := Int.mul_le_mul_of_nonneg_left hb2 (show 0 ≤ l by omega)
        omega
      have h4 : 1 ≤ y * b := by
       have := Int.mul_le_mul hy hb (by omega) (by omega)
       omega
      go_wp2
      go_round
      case rel =>
       have hyy := hY.out
       have hkk := hX.out
       exact ⟨k + 1, x - 1, y * b, rfl, rfl, show _ = _ by omega, show _ = _ by rw [capTo_go (by rw [← hyy]; exact h2), hyy], show _ ≤ _ by omega, by omega, h4⟩
      case measure => simp [intOf]; omega
    · go_wp2
      go_ret
      have hkk := hK.out
      have hyy := hY.out
      refine ⟨ret_int ?_, rfl⟩
      rw [hyy, capTo_stop (k := k) (by rw [← hyy]; omega) _ hkk]
  · go_wp2
    go_ret
    have hkk := hK.out
    have hxx := hX.out
    have hyy := hY.out
    refine ⟨ret_int ?_, rfl⟩
    rw [hyy]
    congr 1
    omega
end Go.Proofs.YtkiljcbejmiioaaGreat
namespace Go.Proofs.YtkiljcbejmiioaaGreat
open Go.RowKit
def strip (p : Nat) : Nat → Nat → List Int → Nat × List Int
 | 0, n, acc => (n, acc)
 | f + 1, n, acc => if n % p = 0 then strip p f (n / p) (acc ++ [(p : Int)]) else (n, acc)
def facTo : Nat → Nat → Nat → List Int → List Int
 | 0, _, n, acc => if 1 < n then acc ++ [(n : Int)] else acc
 | f + 1, p, n, acc => if p * p ≤ n then facTo f (p + 1) (strip p n n acc).1 (strip p n n acc).2 else if 1 < n then acc ++ [(n : Int)] else acc
def factors (n : Nat) : List Int := facTo n 2 n []
theorem strip_go {p f n : Nat} {acc : List Int} (h : n % p = 0) : strip p (f + 1) n acc = strip p f (n / p) (acc ++ [(p : Int)]) := by rw [strip, if_pos h]
theorem strip_stop {p f n : Nat} {acc : List Int} (h : ¬ n % p = 0) : strip p f n acc = (n, acc) := by
 cases f with
 | zero => rfl
 | succ f => rw [strip, if_neg h]
theorem facTo_go {f p n : Nat} {acc : List Int} (h : p * p ≤ n) : facTo (f + 1) p n acc = facTo f (p + 1) (strip p n n acc).1 (strip p n n acc).2 := by rw [facTo, if_pos h]
theorem facTo_stop {f p n : Nat} {acc : List Int} (h : ¬ p * p ≤ n) : facTo f p n acc = if 1 < n then acc ++ [(n : Int)] else acc := by
 cases f with
 | zero => rfl
 | succ f => rw [facTo, if_neg h]
theorem div_lt {n p : Nat} (hn : 1 ≤ n) (hp : 2 ≤ p) : n / p < n := Nat.div_lt_self (by omega) hp
theorem div_pos' {n p : Nat} (hn : 1 ≤ n) (hp : 2 ≤ p) (h : n % p = 0) : 1 ≤ n / p := by
 have := Nat.div_add_mod n p
 rcases Nat.eq_zero_or_pos (n / p) with h0 | h0
 · rw [h0, h] at this; omega
 · exact h0
theorem FactorsOf_in (N : Nat) (w : World) (h1 : 1 ≤ N) (h2 : N ≤ 1000000) :
    Calls Tryz.prog 117 #[.int .i64 N] w fun e w' => ∃ v, e = .returned v ∧ Own w' w.heap.size v (factors N) ∧ Below w.heap.size w w' := by
 have hin : inB N 1 1000000 = true := inB_yes (by omega) (by omega)
 have hc := within_any N 1 1000000 w
 rw [hin] at hc
 have HC := hide hc
 clear hc hin
 go_enter Tryz.func117, Tryz.ntmps117
 go_wp2_with fail
 refine (unhide HC).mono ?_
 rintro e w1 ⟨rfl, rfl⟩
 go_wp2_with fail
 go_loopw [0, 3, 4] (fun nv v pv wr => ∃ (p n f : Nat) (acc : List Int), nv = .int .i64 n ∧ pv = .int .i64 p ∧ 1 ≤ n ∧ 2 ≤ p ∧ n ≤ 1000000 ∧ p ≤ 1001 ∧ acc.length + n ≤ 1000000 ∧ n < p + f ∧ Hid (facTo f p n acc = factors N) ∧ Own wr w.heap.size v acc ∧ Below w.heap.size w wr) (fun nv _ pv _ => (intOf nv - intOf pv).toNat)
 case atStart => exact ⟨2, N, N, [], rfl, rfl, h1, by omega, h2, by omega, by simpa using h2, by omega, rfl, Own.nil _ _, Below.refl _ _⟩
 case round =>
  obtain ⟨p, n, f, acc, rfl, rfl, hn1, hp2, hn2, hp3, hal, hf, hF, ho, hb⟩ := hrel
  have hpp0 : (0 : Int) ≤ (p : Int) * (p : Int) := Int.mul_nonneg (by omega) (by omega)
  by_cases hpp : p * p ≤ n
  · have hppi : (p : Int) * (p : Int) ≤ n := by exact_mod_cast hpp
    have hpn : p < n := by
     have := Nat.mul_le_mul_left p hp2
     omega
    have hp1000 : p ≤ 1000 := by
     rcases Nat.lt_or_ge 1000 p with h | h
     · have := Nat.mul_le_mul (show 1001 ≤ p by omega) (show 1001 ≤ p by omega)
       omega
     · exact h
    obtain ⟨f, rfl⟩ : ∃ g, f = g + 1 := ⟨f - 1, by omega⟩
    have HF : Hid (facTo f (p + 1) (strip p n n acc).1 (strip p n n acc).2 = factors N) := by
     have := hF.out
     rwa [facTo_go hpp] at this
    clear hpp hF
    go_wp2_with fail
    go_loopw [0, 3] (fun nv v wr => ∃ (m g : Nat) (ac : List Int), nv = .int .i64 m ∧ 1 ≤ m ∧ m ≤ n ∧ m ≤ g ∧ ac.length + m ≤ 1000000 ∧ Hid (strip p g m ac = strip p n n acc) ∧ Own wr w.heap.size v ac ∧ Below w.heap.size w wr) (fun nv _ _ => (intOf nv).toNat)
    case atStart => exact ⟨n, n, acc, rfl, hn1, Nat.le_refl _, Nat.le_refl _, hal, rfl, ho, hb⟩
    case round =>
     obtain ⟨m, g, ac, rfl, hm1, hmn, hmg, hal2, hS, ho2, hb2⟩ := hrel
     have hsz := hb2.size
     by_cases hd : m % p = 0
     · have hdi : ((m : Int) % (p : Int) == 0) = true := by
         rw [beq_iff_eq]; exact_mod_cast hd
       obtain ⟨g, rfl⟩ : ∃ g', g = g' + 1 := ⟨g - 1, by omega⟩
       have d1 := div_lt hm1 hp2
       have d2 := div_pos' hm1 hp2 hd
       have HS : Hid (strip p g (m / p) (ac ++ [(p : Int)]) = strip p n n acc) := by
        have := hS.out
        rwa [strip_go hd] at this
       have hq0 : (0 : Int) ≤ (m : Int) / (p : Int) := Int.ediv_nonneg (by omega) (by omega)
       have hq1 : (m : Int) / (p : Int) ≤ m := Int.ediv_le_self _ (by omega)
       have HD1 := Lib.hid d1
       have HD2 := Lib.hid d2
       clear hd hS ho d1 d2
       go_wp2_with (at_builtin; refine wpList_append_ints rfl (.tmp 19) (.tmp 21) rfl w.heap.size u3 ac [(p : Int)] rfl (ho2.alloc _) _ 1 1 rfl rfl (Rd.one wr (p : Int) _) (by simp; omega) (by simp; omega) ?_; intro v1 w1 hown1 hg1 _)
       go_roundw
       case rel =>
        have e1 := HD1.out
        have e2 := HD2.out
        exact ⟨m / p, g, ac ++ [(p : Int)], by simp, e2, by omega, by omega, by simp; omega, HS, hown1, Below.step (hb2.alloc hsz _) hg1 (ho2.alloc _) (Nat.le_refl _) (by simp; omega)⟩
       case measure =>
        have e1 := HD1.out
        simp only [intOf]
        have : ((m : Int) / (p : Int)) = ((m / p : Nat) : Int) := by simp
        omega
     · have hdi : ((m : Int) % (p : Int) == 0) = false := by
         rw [beq_eq_false_iff_ne]; intro h; exact hd (by exact_mod_cast h)
       have HS := hS.out
       rw [strip_stop hd] at HS
       have HS := Lib.hid HS
       clear hd hS ho
       go_wp2
       go_roundw
       case rel =>
        have e := HS.out
        have h2 := HF.out
        rw [← e] at h2
        exact ⟨p + 1, m, f, ac, rfl, by go_num, hm1, by omega, by omega, by omega, hal2, by omega, h2, ho2, hb2⟩
       case measure => simp [intOf]; omega
  · have hppi : ¬ (p : Int) * (p : Int) ≤ n := by
      intro h; exact hpp (by exact_mod_cast h)
    have hp2' : (p : Int) * (p : Int) ≤ 1002001 := by
     have := Int.mul_le_mul (show (p : Int) ≤ 1001 by omega) (show (p : Int) ≤ 1001 by omega) (by omega) (by omega)
     omega
    have hsz := hb.size
    have HF := hF.out
    rw [facTo_stop hpp] at HF
    by_cases h1n : 1 < n
    · rw [if_pos h1n] at HF
      have HF := Lib.hid HF
      clear hpp hF
      go_wp2_with (at_builtin; refine wpList_append_ints rfl (.tmp 28) (.tmp 30) rfl w.heap.size u3 acc [(n : Int)] rfl (ho.alloc _) _ 1 1 rfl rfl (Rd.one wr (n : Int) _) (by simp; omega) (by simp; omega) ?_; intro v1 w1 hown1 hg1 _)
      go_ret
      exact ⟨_, rfl, by rw [← HF.out]; exact hown1, Below.step (hb.alloc hsz _) hg1 (ho.alloc _) (Nat.le_refl _) (by simp; omega)⟩
    · rw [if_neg h1n] at HF
      have HF := Lib.hid HF
      clear hpp hF
      go_wp2
      go_ret
      exact ⟨_, rfl, by rw [← HF.out]; exact ho, hb⟩
theorem FactorsOf_out (N : Int) (w : World) (h : inB N 1 1000000 = false) :
    Calls Tryz.prog 117 #[.int .i64 N] w fun e w' => e = .returned (.slice none 0 0) ∧ w = w' := by
 have hc := within_any N 1 1000000 w
 rw [h] at hc
 have HC := hide hc
 clear hc h
 go_enter Tryz.func117, Tryz.ntmps117
 go_wp2_with fail
 refine (unhide HC).mono ?_
 rintro e w1 ⟨rfl, rfl⟩
 go_wp2
 go_ret
 exact ⟨rfl, rfl⟩
def facs (N : Int) : List Int := if inB N 1 1000000 then factors N.toNat else []
theorem FactorsOf_any (N : Int) (w : World) :
    Calls Tryz.prog 117 #[.int .i64 N] w fun e w' => ∃ v, e = .returned v ∧ Own w' w.heap.size v (facs N) ∧ Below w.heap.size w w' := by
 by_cases h : inB N 1 1000000 = true
 · have hb := inB_true.1 h
   obtain ⟨n, rfl⟩ := Int.eq_ofNat_of_zero_le (show 0 ≤ N by omega)
   rw [facs, if_pos h, Int.toNat_natCast]
   exact FactorsOf_in n w (by omega) (by omega)
 · rw [Bool.not_eq_true] at h
   refine (FactorsOf_out N w h).mono ?_
   rintro e w' ⟨rfl, rfl⟩
   rw [facs, if_neg (by simp [h])]
   exact ⟨_, rfl, Own.nil _ _, Below.refl _ _⟩
end Go.Proofs.YtkiljcbejmiioaaGreat
namespace Go.Proofs.YtkiljcbejmiioaaGreat
open Go.RowKit
theorem size_any (a : Option Addr) (n c : Nat) (w : World) : Calls Tryz.prog 30 #[.slice a n c] w fun e w' => e = .returned (.int .i64 n) ∧ w = w' := by
 go_enter Tryz.func30, Tryz.ntmps30
 go_wp2
 go_ret
 exact ⟨rfl, rfl⟩
def ppOf (L : List Int) : Int × Int := if L ≠ [] ∧ ∀ x ∈ L, x = nth L 0 then (nth L 0, L.length) else (0, 0)
def ppI (q : Int) : Int × Int := ppOf (facs q)
def minTo (q : Nat) : Nat → Nat → Nat
 | 0, p => p
 | f + 1, p => if q % p = 0 then p else minTo q f (p + 1)
def spl (p : Nat) : Nat → Nat → Nat → Int × Int
 | 0, _, k => ((p : Int), (k : Int))
 | f + 1, n, k => if 1 < n then (if n % p = 0 then spl p f (n / p) (k + 1) else (0, 0)) else ((p : Int), (k : Int))
def splitN (q : Nat) : Int × Int := spl (minTo q q 2) q q 0
def split (q : Int) : Int × Int := if inB q 2 64 then splitN q.toNat else (0, 0)
theorem minTo_go {q p f : Nat} (h : ¬ q % p = 0) : minTo q (f + 1) p = minTo q f (p + 1) := by rw [minTo, if_neg h]
theorem minTo_stop {q p f : Nat} (h : q % p = 0) : minTo q f p = p := by
 cases f with
 | zero => rfl
 | succ f => rw [minTo, if_pos h]
theorem spl_go {p f n k : Nat} (h1 : 1 < n) (h : n % p = 0) : spl p (f + 1) n k = spl p f (n / p) (k + 1) := by rw [spl, if_pos h1, if_pos h]
theorem spl_zero {p f n k : Nat} (h1 : 1 < n) (h : ¬ n % p = 0) : spl p (f + 1) n k = (0, 0) := by rw [spl, if_pos h1, if_neg h]
theorem spl_stop {p f n k : Nat} (h1 : ¬ 1 < n) : spl p f n k = ((p : Int), (k : Int)) := by
 cases f with
 | zero => rfl
 | succ f => rw [spl, if_neg h1]
theorem l03Split_in (q : Nat) (w : World) (h1 : 2 ≤ q) (h2 : q ≤ 64) :
    Calls Tryz.prog 23 #[.int .i64 q] w fun e w' => e = .returned (.tuple #[.int .i64 (splitN q).1, .int .i64 (splitN q).2]) ∧ w = w' := by
 have hin : inB q 2 64 = true := inB_yes (by omega) (by omega)
 have hc := l00In_any q 2 64 w
 rw [hin] at hc
 have HC := hide hc
 clear hc hin
 unfold splitN
 generalize hm : minTo q q 2 = M
 have HM := Lib.hid hm
 clear hm
 go_enter Tryz.func23, Tryz.ntmps23
 go_wp2_with fail
 refine (unhide HC).mono ?_
 rintro e w1 ⟨rfl, rfl⟩
 go_wp2_with fail
 go_loop [4] (fun pv => ∃ (p f : Nat), pv = .int .i64 p ∧ 2 ≤ p ∧ p ≤ q ∧ q ≤ p + f ∧ Hid (minTo q f p = M)) (fun pv => q - (intOf pv).toNat)
 case atStart => exact ⟨2, q, rfl, by omega, h1, by omega, HM.out⟩
 case round =>
  obtain ⟨p, f, rfl, hp2, hpq, hf, hF⟩ := hrel
  by_cases hd : q % p = 0
  · have hdi : ((q : Int) % (p : Int) != 0) = false := by
      rw [bne_eq_false_iff_eq]; exact_mod_cast hd
    have HP : Hid (p = M) := by
     have := hF.out
     rwa [minTo_stop hd] at this
    clear hF hd HM
    go_wp2_with fail
    go_loop [5, 6] (fun kv nv => ∃ (k n f : Nat), kv = .int .i64 k ∧ nv = .int .i64 n ∧ k ≤ 64 ∧ 1 ≤ n ∧ n ≤ 64 ∧ n ≤ f ∧ k + n ≤ 64 ∧ Hid (spl p f n k = spl p q q 0)) (fun _ nv => (intOf nv).toNat)
    case atStart => exact ⟨0, q, q, rfl, rfl, by omega, by omega, h2, by omega, by omega, rfl⟩
    case round =>
     obtain ⟨k, n, g, rfl, rfl, hk, hn1, hn2, hg, hkn, hS⟩ := hrel
     by_cases hn : 1 < n
     · obtain ⟨g, rfl⟩ : ∃ g', g = g' + 1 := ⟨g - 1, by omega⟩
       by_cases hd2 : n % p = 0
       · have hdi2 : ((n : Int) % (p : Int) != 0) = false := by
           rw [bne_eq_false_iff_eq]; exact_mod_cast hd2
         have hq0 : (0 : Int) ≤ (n : Int) / (p : Int) := Int.ediv_nonneg (by omega) (by omega)
         have hq1 : (n : Int) / (p : Int) ≤ n := Int.ediv_le_self _ (by omega)
         have d1 := div_lt hn1 hp2
         have d2 := div_pos' hn1 hp2 hd2
         have HD1 := Lib.hid d1
         have HD2 := Lib.hid d2
         have HS : Hid (spl p g (n / p) (k + 1) = spl p q q 0) := by
          have := hS.out
          rwa [spl_go hn hd2] at this
         clear hS hd2 d1 d2
         go_wp2
         go_round
         case rel =>
          have e1 := HD1.out
          have e2 := HD2.out
          exact ⟨k + 1, n / p, g, by go_num, by simp, by omega, e2, by omega, by omega, by omega, HS⟩
         case measure =>
          have e1 := HD1.out
          simp only [intOf]
          have : ((n : Int) / (p : Int)) = ((n / p : Nat) : Int) := by simp
          omega
       · have hdi2 : ((n : Int) % (p : Int) != 0) = true := by
           rw [bne_iff_ne]; intro h; exact hd2 (by exact_mod_cast h)
         have HS : Hid (((0 : Int), (0 : Int)) = spl p q q 0) := by
          have := hS.out
          rwa [spl_zero hn hd2] at this
         clear hS hd2
         go_wp2
         go_ret2
         have hP := HP.out
         have hS := HS.out
         refine ⟨ret_ints2 ?_ ?_, rfl⟩
         · rw [← hP, ← hS]
         · rw [← hP, ← hS]
     · have HS : Hid (((p : Int), (k : Int)) = spl p q q 0) := by
         have := hS.out
         rwa [spl_stop hn] at this
       clear hS
       go_wp2
       go_ret2
       have hP := HP.out
       have hS := HS.out
       refine ⟨ret_ints2 ?_ ?_, rfl⟩
       · rw [← hP, ← hS]
       · rw [← hP, ← hS]
  · have hdi : ((q : Int) % (p : Int) != 0) = true := by
      rw [bne_iff_ne]; intro h; exact hd (by exact_mod_cast h)
    have hne : p ≠ q := by rintro rfl; simp at hd
    have HF : Hid (minTo q (f - 1) (p + 1) = M) := by
     have := hF.out
     rwa [show f = (f - 1) + 1 by omega, minTo_go hd] at this
    clear hF hd HM
    go_wp2
    go_round
    case rel => exact ⟨p + 1, f - 1, by go_num, by omega, by omega, by omega, HF⟩
    case measure => simp [intOf]; omega
theorem l03Split_any (q : Int) (w : World) :
    Calls Tryz.prog 23 #[.int .i64 q] w fun e w' => e = .returned (.tuple #[.int .i64 (split q).1, .int .i64 (split q).2]) ∧ w = w' := by
 by_cases h : inB q 2 64 = true
 · have hb := inB_true.1 h
   obtain ⟨n, rfl⟩ := Int.eq_ofNat_of_zero_le (show 0 ≤ q by omega)
   rw [split, if_pos h, Int.toNat_natCast]
   exact l03Split_in n w (by omega) (by omega)
 · rw [Bool.not_eq_true] at h
   rw [split, if_neg (by simp [h])]
   have hc := l00In_any q 2 64 w
   rw [h] at hc
   have HC := hide hc
   clear hc h
   go_enter Tryz.func23, Tryz.ntmps23
   go_wp2_with fail
   refine (unhide HC).mono ?_
   rintro e w1 ⟨rfl, rfl⟩
   go_wp2
   go_ret2
   exact ⟨rfl, rfl⟩
end Go.Proofs.YtkiljcbejmiioaaGreat
namespace Go.Proofs.YtkiljcbejmiioaaGreat
open Go.RowKit
def firstOf (p : Int → Bool) (xs : List Int) : Int := match xs.findIdx? p with | some i => (i : Int) | none => -1
theorem firstOf_yes {p : Int → Bool} {xs : List Int} {k : Nat} (hk : k < xs.length) (h : p (nth xs k) = true) (hq : ∀ j, j < k → p (nth xs j) = false) : firstOf p xs = (k : Int) := by
 have : xs.findIdx? p = some k := by
  rw [List.findIdx?_eq_some_iff_getElem]
  refine ⟨hk, by rw [← nth_lt hk]; exact h, fun j hj => ?_⟩
  rw [← nth_lt (by omega : j < xs.length), hq j hj]; simp
 simp [firstOf, this]
theorem firstOf_no {p : Int → Bool} {xs : List Int} (hq : ∀ j, j < xs.length → p (nth xs j) = false) : firstOf p xs = -1 := by
 have : xs.findIdx? p = none := by
  rw [List.findIdx?_eq_none_iff]
  intro x hx
  obtain ⟨j, hj, rfl⟩ := List.getElem_of_mem hx
  rw [← nth_lt hj]
  exact hq j hj
 simp [firstOf, this]
theorem any_firstOf (p : Int → Bool) (xs : List Int) : xs.any p = decide (0 ≤ firstOf p xs) := by
 unfold firstOf
 cases h : xs.findIdx? p with
 | none =>
  rw [List.findIdx?_eq_none_iff] at h
  simpa using h
 | some i =>
  rw [List.findIdx?_eq_some_iff_getElem] at h
  obtain ⟨hi, hp, _⟩ := h
  have : xs.any p = true := List.any_eq_true.2 ⟨_, List.getElem_mem hi, hp⟩
  simp [this]
def notZero (x : Int) : Bool := x != 0
theorem isZero1_any (x : Int) (w : World) : Calls Tryz.prog 104 #[.int .i64 x] w fun e w' => e = .returned (.bool (notZero x)) ∧ w = w' := by
 go_enter Tryz.func104, Tryz.ntmps104
 go_wp2
 go_ret
 exact ⟨rfl, rfl⟩
theorem idx_isZero (a : Option Addr) (c : Nat) (xs : List Int) (w : World) (hx : Rd w a xs) :
    Calls Tryz.prog 138 #[.slice a xs.length c, .func (.func 104) #[] #[]] w fun e w' => e = .returned (.int .i64 (firstOf notZero xs)) ∧ w = w' := by
 have hxl := hx.len
 go_enter Tryz.func138, Tryz.ntmps138
 go_wp2_with fail
 go_loop [8] (fun i => ∃ k : Nat, i = .int .i64 k ∧ k ≤ xs.length ∧ Hid (∀ j, j < k → notZero (nth xs j) = false)) (fun i => xs.length - (intOf i).toNat)
 case atStart => exact ⟨0, rfl, Nat.zero_le _, fun j hj => by omega⟩
 case round =>
  obtain ⟨k, rfl, hk, hq⟩ := hrel
  by_cases hkl : k < xs.length
  · obtain ⟨b1, o1, rfl, _, hc⟩ := hx.at_ (by omega)
    have h1 := hc k hkl
    clear hc hx
    obtain ⟨r, hr⟩ : ∃ r, notZero (nth xs k) = r := ⟨_, rfl⟩
    have HR := Lib.hid hr
    have hcl := isZero1_any (nth xs k) w
    rw [hr] at hcl
    have HC := hide hcl
    clear hr hcl
    go_wp2_with fail
    refine (unhide HC).mono ?_
    rintro e w1 ⟨rfl, rfl⟩
    cases r
    · go_wp2
      go_round
      case rel =>
       refine ⟨k + 1, by go_num, by omega, fun j hj => ?_⟩
       rcases Nat.lt_succ_iff_lt_or_eq.1 hj with h | rfl
       · exact hq.out j h
       · exact HR.out
      case measure => simp [intOf]; omega
    · go_wp2
      go_ret
      exact ⟨ret_int (firstOf_yes hkl HR.out hq.out).symm, rfl⟩
  · go_wp2
    go_ret
    exact ⟨ret_int (firstOf_no (fun j hj => hq.out j (by omega))).symm, rfl⟩
theorem has_isZero (a : Option Addr) (c : Nat) (xs : List Int) (w : World) (hx : Rd w a xs) :
    Calls Tryz.prog 103 #[.slice a xs.length c, .func (.func 104) #[] #[]] w fun e w' => e = .returned (.bool (xs.any notZero)) ∧ w = w' := by
 have hc := idx_isZero a c xs w hx
 rw [any_firstOf]
 generalize hf : firstOf notZero xs = r at hc
 have HF := Lib.hid hf
 have HC := hide hc
 clear hf hc
 by_cases h0 : 0 ≤ r
 · go_enter Tryz.func103, Tryz.ntmps103
   go_wp2_with fail
   refine (unhide HC).mono ?_
   rintro e w1 ⟨rfl, rfl⟩
   go_wp2
   go_ret
   exact ⟨ret_bool (by simp [h0]), rfl⟩
 · go_enter Tryz.func103, Tryz.ntmps103
   go_wp2_with fail
   refine (unhide HC).mono ?_
   rintro e w1 ⟨rfl, rfl⟩
   go_wp2
   go_ret
   exact ⟨ret_bool (by simp [show ¬ 0 ≤ r by omega]), rfl⟩
def isZ (xs : List Int) : Bool := !xs.any notZero
theorem isZero_any (a : Option Addr) (c : Nat) (xs : List Int) (w : World) (hx : Rd w a xs) :
    Calls Tryz.prog 50 #[.slice a xs.length c] w fun e w' => e = .returned (.bool (isZ xs)) ∧ w = w' := by
 have hc := has_isZero a c xs w hx
 unfold isZ
 generalize hf : xs.any notZero = r at hc
 have HC := hide hc
 clear hf hc
 go_enter Tryz.func50, Tryz.ntmps50
 go_wp2_with fail
 refine (unhide HC).mono ?_
 rintro e w1 ⟨rfl, rfl⟩
 go_wp2
 go_ret
 exact ⟨rfl, rfl⟩
end Go.Proofs.YtkiljcbejmiioaaGreat
namespace Go.Proofs.YtkiljcbejmiioaaGreat
open Go.RowKit
theorem Own.cap {w : World} {B : Nat} {a : Option Addr} {n c : Nat} {xs : List Int} (h : Own w B (.slice a n c) xs) : n ≤ c ∧ c ≤ maxLen := by
 have hl := h.len
 subst hl
 rcases h.2.2 with ⟨e, h0⟩ | ⟨g', cap, cur, e, hb, hg, hn, hcm, hs, ht⟩
 · injection e with e1 e2 e3
   subst e3
   simp [h0]
 · injection e with e1 e2 e3
   subst e3
   exact ⟨hn, hcm⟩
theorem Own.take {w : World} {B : Nat} {g n c : Nat} {xs : List Int} (h : Own w B (.slice (some ⟨g, 0, none⟩) n c) xs) {m : Nat} (hm : m ≤ n) : Own w B (.slice (some ⟨g, 0, none⟩) m c) (xs.take m) := by
 have hl := h.len
 subst hl
 obtain ⟨h1, h2, h3⟩ := h
 refine ⟨by rw [List.length_take]; omega, ?_⟩
 have hml : (xs.take m).length = m := by rw [List.length_take]; omega
 rw [hml]
 refine ⟨by rw [List.length_map, hml]; omega, .inr ?_⟩
 rcases h3 with ⟨e, _⟩ | ⟨g', cap, cur, e, hb, hg, hn, hcm, hs, ht⟩
 · cases e
 · injection e with e1 e2 e3
   injection e1 with e1
   injection e1 with e1
   subst e1
   subst e3
   refine ⟨g, c, cur, rfl, hb, hg, by omega, hcm, hs, ?_⟩
   rw [List.map_take, ← ht, List.take_take]
   congr 1
   omega
theorem clone_any (a : Option Addr) (c : Nat) (xs : List Int) (w : World) (hx : Rd w a xs) :
    Calls Tryz.prog 77 #[.slice a xs.length c] w fun e w' => ∃ v, e = .returned v ∧ Own w' w.heap.size v xs ∧ Below w.heap.size w w' := by
 have q : ∀ (w : World) (a : Option Addr) (n c n' c' : Nat), (binOp .eql 28 (.slice a n c) (.slice none n' c')).run Tryz.prog w = .ok (.bool a.isNone) w := fun w a n c n' c' => Lib.run_eql_slice_nil w _ _ a n c n' c' Tryz.underlying28
 have hl := hx.len
 cases a with
 | none =>
  have h0 : xs = [] := by
   rcases Nat.eq_zero_or_pos xs.length with h | h
   · exact List.eq_nil_of_length_eq_zero h
   · obtain ⟨_, _, e, _⟩ := hx.at_ h
     cases e
  subst h0
  go_enter Tryz.func77, Tryz.ntmps77
  go_wp2
  go_ret
  exact ⟨_, rfl, Own.nil _ _, Below.refl _ _⟩
 | some p =>
  go_enter Tryz.func77, Tryz.ntmps77
  go_wp2_with (at_builtin; refine wpList_append_ints rfl (.tmp 5) (.tmp 6) rfl w.heap.size (.slice (some ⟨w.heap.size, 0, none⟩) 0 0) [] xs rfl (Own.empty w (Nat.le_refl _)) (some p) xs.length c rfl rfl (hx.alloc _) (by simp; omega) (by simp) ?_; intro v1 w1 hown1 hg1 _)
  go_ret
  refine ⟨_, rfl, by simpa using hown1, ?_⟩
  exact Below.step ((Below.refl _ _).alloc (Nat.le_refl _) _) hg1 (Own.empty w (Nat.le_refl _)) (Nat.le_refl _) (by simp)
theorem digitsOf_any (n p : Int) (k : Nat) (w : World) (hn : 0 ≤ n) (hn2 : n ≤ 9223372036854775807) (hp : 1 ≤ p) (hp2 : p ≤ 1000000) (hk : k ≤ 1000000) :
    Calls Tryz.prog 119 #[.int .i64 n, .int .i64 p, .int .i64 k] w fun e w' => ∃ v, e = .returned v ∧ Own w' w.heap.size v (dig n p k) ∧ Below w.heap.size w w' := by
 have hmk := fun W => run_make_row' (P := Tryz.prog) 28 2 (.int .i64 0) 8 Tryz.underlying28 Tryz.info_i64 rfl .i64 .i64 k (by omega) (by omega) W
 go_enter Tryz.func119, Tryz.ntmps119
 go_wp2
 go_loopw [0, 13] (fun nv i wr => ∃ (j : Nat) (m : Int), i = .int .i64 j ∧ nv = .int .i64 m ∧ j ≤ k ∧ 0 ≤ m ∧ m ≤ 9223372036854775807 ∧ Hid (m = n / p ^ j) ∧ wr.rowIs w.heap.size 2 k (fun i => if i < j then .int .i64 (nth (dig n p k) i) else .int .i64 0) ∧ Below w.heap.size w wr) (fun _ i _ => k - (intOf i).toNat)
 case atStart => exact ⟨0, n, rfl, rfl, by omega, hn, hn2, show _ = _ by simp, (World.rowIs_made w _ _ _).congr (fun i _ => by simp), (Below.refl _ _).alloc (Nat.le_refl _) _⟩
 case round =>
  obtain ⟨j, m, rfl, rfl, hj, hm0, hm1, hM, hrow, hb⟩ := hrel
  by_cases hjl : j < k
  · obtain ⟨u, hc1⟩ : ∃ u, wr.cell? ⟨w.heap.size, j, none⟩ = some u := ⟨_, hrow.cell hjl⟩
    have hf1 := hrow.frozen j
    have HR := Lib.hid hrow
    have hq0 : 0 ≤ m / p := Int.ediv_nonneg hm0 (by omega)
    have hq1 : m / p ≤ m := Int.ediv_le_self _ hm0
    clear hrow hmk
    go_wp2
    go_roundw
    case rel =>
     have hMM := hM.out
     refine ⟨j + 1, m / p, by go_num, rfl, by omega, hq0, by omega, show _ = _ by rw [hMM, div_pow_succ n p (by omega) j], (HR.out.set j _).congr (fun i hi => ?_), hb.setCell (Nat.le_refl _) _⟩
     by_cases h1 : i = j
     · subst h1
       simp [dig_nth n p hi, hMM]
     · by_cases h2 : i < j
       · simp [h1, h2, show i < j + 1 by omega]
       · simp [h1, h2, show ¬ i < j + 1 by omega]
    case measure => simp [intOf]; omega
  · have HR := Lib.hid hrow
    clear hrow
    go_wp2
    go_ret
    exact ⟨_, rfl, Own.of_rowIs HR.out (Nat.le_refl _) (dig_len _ _ _) (by rw [dig_len]; omega) (fun i hi => by simp [show i < j by omega]), hb⟩
theorem tmod_fix {x p : Int} (hp : 0 < p) : (x.tmod p + p) % p = x % p := by
 rw [Int.add_emod_right]
 rcases Int.le_total 0 x with h | h
 · rw [Int.tmod_eq_emod_of_nonneg h, Int.emod_emod]
 · have e := Int.mul_tdiv_add_tmod x p
   conv => rhs; rw [← e]
   rw [Int.add_comm, Int.add_mul_emod_self_left]
theorem tmod_lo {x p : Int} (hp : 0 < p) : -p < x.tmod p := by
 rcases Int.le_total 0 x with h | h
 · have := Int.tmod_nonneg p h; omega
 · have e : (-x).tmod p = -(x.tmod p) := Int.neg_tmod ..
   have h1 := Int.tmod_lt_of_pos (-x) hp
   omega
theorem tmod_hi {x p : Int} (hp : 0 < p) : x.tmod p < p := Int.tmod_lt_of_pos x hp
theorem remainder_any (a b : Option Addr) (c d : Nat) (xs ys : List Int) (p : Int) (w : World) (hx : Rd w a xs) (hy : Rd w b ys) (hp : 1 ≤ p) (hp2 : p ≤ 1000) (hxr : InR p xs) (hyr : ∀ y ∈ ys, 0 ≤ y ∧ y ≤ p) (hn : 1 ≤ xs.length) (hm : 1 ≤ ys.length) :
    Calls Tryz.prog 118 #[.slice a xs.length c, .slice b ys.length d, .int .i64 p] w fun e w' => ∃ v, e = .returned v ∧ Own w' w.heap.size v (prem p ys xs) ∧ Below w.heap.size w w' := by
 have hxl := hx.len
 have hyl := hy.len
 go_enter Tryz.func118, Tryz.ntmps118
 go_wp2_with fail
 refine (clone_any a c xs w hx).mono ?_
 rintro e w1 ⟨v, rfl, o1, b1⟩
 rcases o1.slice_form with ⟨rfl, rfl⟩ | ⟨g, cg, rfl, hB, hg⟩
 · simp at hn
 have hcap := o1.cap
 unfold maxLen at hcap
 obtain ⟨hcap1, hcap2⟩ := hcap
 clear hx
 go_wp2_with fail
 go_loopw [9] (fun kv wr => ∃ (t : Nat) (k : Int), kv = .int .i64 k ∧ Hid (k = (xs.length : Int) - 1 - t) ∧ k ≤ (xs.length : Int) - 1 ∧ -1 ≤ k ∧ Own wr w.heap.size (.slice (some ⟨g, 0, none⟩) xs.length cg) (remTo p ys xs t) ∧ Below w.heap.size w wr ∧ Hid (t ≤ xs.length - (ys.length - 1))) (fun kv _ => (intOf kv + 1).toNat)
 case atStart => exact ⟨0, _, rfl, show _ = _ by simp, by omega, by omega, o1, b1, Nat.zero_le _⟩
 case round =>
  obtain ⟨t, k, rfl, HK, hk1, hk2, ho, hb, hT⟩ := hrel
  have hlen := remTo_len p ys xs t
  by_cases hgo : (ys.length : Int) - 1 ≤ k
  · obtain ⟨i, rfl⟩ := Int.eq_ofNat_of_zero_le (show 0 ≤ k by omega)
    have hil : i < xs.length := by omega
    obtain ⟨R, hR⟩ : ∃ R, R = remTo p ys xs t := ⟨_, rfl⟩
    rw [← hR] at ho hlen
    have hRr : InR p R := by rw [hR]; exact remTo_in (by omega) hxr ys t
    have hc1 := ho.cell (j := i) (by omega)
    have hf := hRr.nth (i := i) (by omega)
    obtain ⟨F, hF⟩ : ∃ F, F = nth R i := ⟨_, rfl⟩
    rw [← hF] at hc1 hf
    have hf0 := hf.1
    have hf1 := hf.2
    have HR := Lib.hid hR
    have HF := Lib.hid hF
    have HL := Lib.hid hlen
    clear hR hF hlen hf
    go_wp2_with fail
    go_loopw [33] (fun jv wr2 => ∃ (j : Nat), jv = .int .i64 j ∧ j ≤ ys.length ∧ Own wr2 w.heap.size (.slice (some ⟨g, 0, none⟩) xs.length cg) (setK R ys F p (i - (ys.length - 1)) j) ∧ Below w.heap.size w wr2) (fun jv _ => ys.length - (intOf jv).toNat)
    case atStart => exact ⟨0, rfl, Nat.zero_le _, ho, hb⟩
    case round =>
     obtain ⟨j, rfl, hj, ho2, hb2⟩ := hrel
     have hSl := setK_len R ys F p (i - (ys.length - 1)) j
     by_cases hjl : j < ys.length
     · have hoff : i - (ys.length - 1) + j < xs.length := by omega
       obtain ⟨b2, o2, rfl, _, hcy⟩ := (hy.below hb2).at_ (by omega)
       have hy1 := hcy j hjl
       have hx1 := ho2.cell (j := i - (ys.length - 1) + j) (by rw [hSl, HL.out]; omega)
       rw [setK_nth _ _ _ _ _ (.inr (Nat.le_refl _))] at hx1
       have hxf := ho2.frozen (i - (ys.length - 1) + j)
       have hyb := hyr _ (nth_mem hjl)
       have hxb := hRr.nth (i := i - (ys.length - 1) + j) (by rw [HL.out]; omega)
       generalize hX : nth R (i - (ys.length - 1) + j) = X at hx1 hxb
       generalize hY : nth ys j = Y at hy1 hyb
       obtain ⟨hyb1, hyb2⟩ := hyb
       obtain ⟨hxb1, hxb2⟩ := hxb
       have hFY0 : 0 ≤ F * Y := Int.mul_nonneg hf0 hyb1
       have hFY1 : F * Y ≤ 1000000 := by
        have := Int.mul_le_mul (show F ≤ 1000 by omega) (show Y ≤ 1000 by omega) hyb1 (by omega)
        omega
       have ht1 := tmod_lo (x := X - F * Y) (show 0 < p by omega)
       have ht2 := tmod_hi (x := X - F * Y) (show 0 < p by omega)
       have HX := Lib.hid hX
       have HY := Lib.hid hY
       have HO2 := Lib.hid ho2
       have HO := Lib.hid ho
       have HS := Lib.hid hSl
       have hix : (i : Int) - ((ys.length : Int) - 1) + (j : Int) = ((i - (ys.length - 1) + j : Nat) : Int) := by omega
       have HIX := Lib.hid hix
       clear hX hY ho2 ho hSl hcy hix
       go_wp2
       go_roundw
       case rel =>
        have hs := HO2.out.set (i - (ys.length - 1) + j) ((X - F * Y).tmod p % p)
        refine ⟨j + 1, by go_num, by omega, ?_, hb2.setCell (by show w.heap.size ≤ g; omega) _⟩
        rw [setK, HX.out, HY.out, ← tmod_fix (x := X - F * Y) (show 0 < p by omega), Int.add_emod_right]
        exact hs.1
       case measure => simp only [intOf]; omega
     · have hje : j = ys.length := by omega
       have HJ := Lib.hid hje
       have HO2 := Lib.hid ho2
       clear hje ho2 ho hSl
       go_wp2
       go_roundw
       case rel =>
        have e1 := HJ.out
        have e2 := HR.out
        have e3 := HF.out
        have e4 := HK.out
        have o := HO2.out
        rw [e1] at o
        refine ⟨t + 1, (i : Int) - 1, rfl, show _ = _ by omega, by omega, by omega, ?_, hb2, show _ ≤ _ by omega⟩
        rw [remTo, ← e2, show xs.length - 1 - t = i by omega, ← e3]
        exact o
       case measure => simp only [intOf]; omega
  · have hTe : t = xs.length - (ys.length - 1) := by have := hT.out; have := HK.out; omega
    have HTE := Lib.hid hTe
    have HL := Lib.hid hlen
    have HO := Lib.hid ho
    clear hTe hlen ho
    by_cases hmn : ys.length - 1 ≤ xs.length
    · go_wp2
      go_ret
      have e1 := HTE.out
      rw [e1] at HO
      exact ⟨_, rfl, HO.out.take hmn, hb⟩
    · go_wp2
      go_ret
      have e1 := HTE.out
      rw [e1] at HO
      refine ⟨_, rfl, ?_, hb⟩
      have := HO.out.take (Nat.le_refl _)
      rw [prem, List.take_of_length_le (by rw [remTo_len]; omega)]
      rwa [List.take_of_length_le (by rw [remTo_len]; omega)] at this
end Go.Proofs.YtkiljcbejmiioaaGreat
namespace Go.Proofs.YtkiljcbejmiioaaGreat
open Go.RowKit
def irrD (poly : List Int) (p : Int) (d : Nat) : Bool := (List.range (p ^ d).toNat).all (fun (n : Nat) => !isZ (prem p (dig n p d ++ [1]) poly))
def irr (poly : List Int) (p : Int) : Bool := (List.range ((poly.length - 1) / 2)).all (fun e => irrD poly p (e + 1))
theorem irrD_no {poly : List Int} {p : Int} {d n : Nat} (hn : (n : Int) < p ^ d) (h : isZ (prem p (dig n p d ++ [1]) poly) = true) : irrD poly p d = false := by
 rw [irrD, List.all_eq_false]
 exact ⟨n, List.mem_range.2 (by omega), by simp [h]⟩
theorem irrD_yes {poly : List Int} {p : Int} {d : Nat} (h : ∀ n : Nat, (n : Int) < p ^ d → isZ (prem p (dig n p d ++ [1]) poly) = false) : irrD poly p d = true := by
 rw [irrD, List.all_eq_true]
 intro n hn
 rw [List.mem_range] at hn
 simp [h n (by omega)]
theorem irr_no {poly : List Int} {p : Int} {d : Nat} (h1 : 1 ≤ d) (h2 : 2 * d ≤ poly.length - 1) (h : irrD poly p d = false) : irr poly p = false := by
 rw [irr, List.all_eq_false]
 exact ⟨d - 1, List.mem_range.2 (by omega), by rw [show d - 1 + 1 = d by omega, h]; simp⟩
theorem irr_yes {poly : List Int} {p : Int} (h : ∀ d, 1 ≤ d → 2 * d ≤ poly.length - 1 → irrD poly p d = true) : irr poly p = true := by
 rw [irr, List.all_eq_true]
 intro e he
 rw [List.mem_range] at he
 exact h (e + 1) (by omega) (by omega)
theorem Rd.lit1 (w : World) (t : TypeId) : Rd (w.alloc (.cells #[.int .i64 1] t)) (some ⟨w.heap.size, 0, none⟩) [1] := Rd.one w 1 t
theorem InR.app {p : Int} {xs : List Int} (h : InR p xs) (hp : 2 ≤ p) : InR p (xs ++ [1]) := by
 intro x hx
 rcases List.mem_append.1 hx with h1 | h1
 · exact h x h1
 · have : x = 1 := by simpa using h1
   omega
theorem pow_mono {p : Int} (hp : 1 ≤ p) {a b : Nat} (h : a ≤ b) : p ^ a ≤ p ^ b := by
 induction b with
 | zero => obtain rfl : a = 0 := by omega
           exact Int.le_refl _
 | succ b ih =>
  by_cases e : a = b + 1
  · subst e; exact Int.le_refl _
  · have h1 := ih (by omega)
    have h0 : 0 ≤ p ^ b := Int.pow_nonneg (by omega)
    have := Int.mul_le_mul_of_nonneg_left hp h0
    rw [Int.pow_succ]
    omega
theorem pow_base {a b : Int} (h0 : 0 ≤ a) (h : a ≤ b) (k : Nat) : a ^ k ≤ b ^ k := by
 induction k with
 | zero => simp
 | succ k ih =>
  rw [Int.pow_succ, Int.pow_succ]
  exact Int.mul_le_mul ih h h0 (Int.pow_nonneg (by omega))
theorem irreducible_any (a : Option Addr) (c : Nat) (poly : List Int) (p : Int) (w : World) (hx : Rd w a poly) (hp : 2 ≤ p) (hp2 : p ≤ 64) (hr : InR p poly) (hn : 2 ≤ poly.length) (hq : p ^ (poly.length - 1) ≤ 64) :
    Calls Tryz.prog 64 #[.slice a poly.length c, .int .i64 p] w fun e w' => e = .returned (.bool (irr poly p)) ∧ Below w.heap.size w w' := by
 have hxl := hx.len
 obtain ⟨D, hD⟩ : ∃ D : Nat, D = poly.length - 1 := ⟨_, rfl⟩
 have HD := Lib.hid hD
 have hD1 : 1 ≤ D := by omega
 have hpl : (poly.length : Int) = D + 1 := by omega
 have HPL := Lib.hid hpl
 clear hD hpl
 have hD6 : D ≤ 6 := by
  rcases Nat.lt_or_ge 6 D with h | h
  · have h1 := pow_mono (p := p) (by omega) (show 7 ≤ poly.length - 1 by have := HD.out; omega)
    have h2 : (2 : Int) ^ 7 ≤ p ^ 7 := pow_base (by omega) hp 7
    have h3 : (2 : Int) ^ 7 = 128 := rfl
    omega
  · exact h
 go_enter Tryz.func64, Tryz.ntmps64
 go_wp2_with fail
 refine (size_any a poly.length c w).mono ?_
 rintro e w1 ⟨rfl, rfl⟩
 rw [HPL.out]
 go_wp2_with fail
 go_loopw [6] (fun dv wr => ∃ d : Nat, dv = .int .i64 d ∧ 1 ≤ d ∧ d ≤ 7 ∧ Below w.heap.size w wr ∧ Hid (∀ d', 1 ≤ d' → d' < d → 2 * d' ≤ poly.length - 1 → irrD poly p d' = true)) (fun dv _ => D + 1 - (intOf dv).toNat)
 case atStart => exact ⟨1, rfl, by omega, by omega, Below.refl _ _, fun d' h1 h2 => by omega⟩
 case round =>
  obtain ⟨d, rfl, hd1, hd7, hb, hall⟩ := hrel
  by_cases hgo : 2 * d ≤ D
  · have hgo2 : 2 * (d : Int) ≤ (D : Int) := by omega
    go_wp2_with fail
    have hpd : p ^ d ≤ 64 := Int.le_trans (pow_mono (by omega) (show d ≤ poly.length - 1 by have := HD.out; omega)) hq
    have hpd0 : 0 ≤ p ^ d := Int.pow_nonneg (by omega)
    have hcap := capTo_pow (l := 64) (show 1 ≤ p by omega) d hpd
    have hpw := fun W => powerUpTo_any p d 64 W (by omega) (by omega) (by omega) (by omega) (by omega)
    simp only [Int.toNat_natCast, hcap] at hpw
    obtain ⟨P, hP⟩ : ∃ P, P = p ^ d := ⟨_, rfl⟩
    rw [← hP] at hpw hpd hpd0
    have HP := Lib.hid hP
    have HPW := hide hpw
    clear hpw hcap hP
    go_loopw [7] (fun nv wr2 => ∃ n : Nat, nv = .int .i64 n ∧ n ≤ 64 ∧ Below w.heap.size w wr2 ∧ Hid (∀ n' : Nat, n' < n → isZ (prem p (dig n' p d ++ [1]) poly) = false)) (fun nv _ => P.toNat - (intOf nv).toNat)
    case atStart => exact ⟨0, rfl, by omega, hb, fun n' h => by omega⟩
    case round =>
     obtain ⟨n, rfl, hn64, hb2, hn'⟩ := hrel
     have hsz := hb2.size
     go_wp2_with fail
     refine (unhide HPW _).mono ?_
     rintro e w2 ⟨rfl, rfl⟩
     by_cases hlt : (n : Int) < P
     · go_wp2_with fail
       refine (digitsOf_any n p d _ (by omega) (by omega) (by omega) (by omega) (by omega)).mono ?_
       rintro e w3 ⟨v3, rfl, o3, b3⟩
       have hx3 := (hx.below hb2).below b3
       have hb3 := hb2.trans (b3.mono hsz)
       have hsz3 := b3.size
       go_wp2_with (at_builtin; refine wpList_append_ints rfl (.tmp 28) (.tmp 29) rfl _ v3 (dig n p d) [1] rfl (o3.alloc _) _ 1 1 rfl rfl (Rd.lit1 w3 _) (by rw [dig_len]; simp; omega) (by simp; omega) ?_; intro v4 w4 o4 hg4 _)
       have hb4 : Below wr.heap.size w3 w4 := Below.step ((Below.refl _ _).alloc hsz3 _) hg4 (o3.alloc _) (Nat.le_refl _) (by simp; omega)
       have hsz4 := hb4.size
       have hb4' := hb3.trans (hb4.mono hsz)
       have hx4 := hx.below hb4'
       have HO4 : Hid (Own w4 wr.heap.size v4 (dig n p d ++ [1])) := o4
       obtain ⟨a4, c4, rfl, r4, _⟩ := o4.form
       refine (remainder_any a a4 c c4 poly (dig n p d ++ [1]) p w4 hx4 r4 (by omega) (by omega) hr (fun y hy => by have := (InR.app (dig_range (by omega) d) hp) y hy; omega) (by omega) (by simp)).mono ?_
       rintro e w5 ⟨v5, rfl, o5, b5⟩
       obtain ⟨a5, c5, rfl, r5, _⟩ := o5.form
       have hb5 := hb4'.trans (b5.mono (by omega))
       clear HO4 hx3 hx4 r4 o5 hg4 o3 o4
       go_wp2_with fail
       refine (isZero_any a5 c5 _ w5 r5).mono ?_
       rintro e w6 ⟨rfl, rfl⟩
       generalize hz : isZ (prem p (dig n p d ++ [1]) poly) = z
       have HZ := Lib.hid hz
       clear hz r5
       cases z
       · go_wp2
         go_roundw
         case rel =>
          refine ⟨n + 1, by go_num, by omega, hb5, fun n' hn2 => ?_⟩
          rcases Nat.lt_succ_iff_lt_or_eq.1 hn2 with h | rfl
          · exact hn'.out n' h
          · exact HZ.out
         case measure => simp only [intOf]; omega
       · go_wp2
         go_ret
         have e1 := HP.out
         exact ⟨ret_bool (irr_no hd1 (by have := HD.out; omega) (irrD_no (by omega) HZ.out)).symm, hb5⟩
     · go_wp2
       go_roundw
       case rel =>
        refine ⟨d + 1, by go_num, by omega, by omega, hb2, fun d' h1 h2 h3 => ?_⟩
        rcases Nat.lt_succ_iff_lt_or_eq.1 h2 with h | rfl
        · exact hall.out d' h1 h h3
        · have e1 := HP.out
          exact irrD_yes (fun m hm => hn'.out m (by omega))
       case measure => simp only [intOf]; omega
  · go_wp2
    go_ret
    exact ⟨ret_bool (irr_yes (fun d' h1 h2 => hall.out d' h1 (by have := HD.out; omega) h2)).symm, hb⟩
end Go.Proofs.YtkiljcbejmiioaaGreat
namespace Go.Proofs.YtkiljcbejmiioaaGreat
open Go.RowKit
def Cg (p a b : Int) : Prop := ∃ k, a = b + p * k
theorem Cg.refl (p a : Int) : Cg p a a := ⟨0, by simp⟩
theorem Cg.of_eq {p a b : Int} (h : a = b) : Cg p a b := h ▸ Cg.refl p a
theorem Cg.symm {p a b : Int} (h : Cg p a b) : Cg p b a := by
 obtain ⟨k, rfl⟩ := h
 exact ⟨-k, by grind⟩
theorem Cg.trans {p a b c : Int} (h : Cg p a b) (g : Cg p b c) : Cg p a c := by
 obtain ⟨k, rfl⟩ := h
 obtain ⟨j, rfl⟩ := g
 exact ⟨j + k, by grind⟩
theorem Cg.add {p a b c d : Int} (h : Cg p a b) (g : Cg p c d) : Cg p (a + c) (b + d) := by
 obtain ⟨k, rfl⟩ := h
 obtain ⟨j, rfl⟩ := g
 exact ⟨k + j, by grind⟩
theorem Cg.mul {p a b c d : Int} (h : Cg p a b) (g : Cg p c d) : Cg p (a * c) (b * d) := by
 obtain ⟨k, rfl⟩ := h
 obtain ⟨j, rfl⟩ := g
 exact ⟨b * j + k * d + p * k * j, by grind⟩
theorem Cg.sub {p a b c d : Int} (h : Cg p a b) (g : Cg p c d) : Cg p (a - c) (b - d) := by
 obtain ⟨k, rfl⟩ := h
 obtain ⟨j, rfl⟩ := g
 exact ⟨k - j, by grind⟩
theorem Cg.emod (p a : Int) : Cg p (a % p) a := ⟨-(a / p), by have := Int.emod_add_mul_ediv a p; grind⟩
theorem Cg.eq {p a b : Int} (h : Cg p a b) (ha : 0 ≤ a ∧ a < p) (hb : 0 ≤ b ∧ b < p) : a = b := by
 obtain ⟨k, hk⟩ := h
 have h1 : a % p = b % p := by rw [hk, Int.add_mul_emod_self_left]
 rwa [Int.emod_eq_of_lt ha.1 ha.2, Int.emod_eq_of_lt hb.1 hb.2] at h1
theorem Cg.emod_eq {p a b : Int} (h : Cg p a b) : a % p = b % p := by
 obtain ⟨k, rfl⟩ := h
 rw [Int.add_mul_emod_self_left]
theorem nth_big {xs : List Int} {i : Nat} (h : xs.length ≤ i) : nth xs i = 0 := by simp [nth, h]
theorem nth_cons_zero (x : Int) (xs : List Int) : nth (x :: xs) 0 = x := rfl
theorem nth_cons_succ (x : Int) (xs : List Int) (i : Nat) : nth (x :: xs) (i + 1) = nth xs i := rfl
theorem num_nth {p : Int} (hp : 0 < p) : ∀ (xs : List Int), InR p xs → ∀ i, i < xs.length → num p xs / p ^ i % p = nth xs i := by
 intro xs
 induction xs with
 | nil => intro _ i hi; simp at hi
 | cons x xs ih =>
  intro h i hi
  have hx := h x List.mem_cons_self
  have hxs : InR p xs := fun y hy => h y (List.mem_cons_of_mem _ hy)
  rw [num_cons]
  rcases i with _ | i
  · rw [nth_cons_zero, Int.pow_zero, Int.ediv_one, Int.add_comm, Int.add_mul_emod_self_right, Int.emod_eq_of_lt hx.1 hx.2]
  · rw [nth_cons_succ, Int.pow_succ', ← Int.ediv_ediv_of_nonneg (by omega)]
    have e : (num p xs * p + x) / p = num p xs := by
     rw [Int.add_comm, Int.add_mul_ediv_right _ _ (by omega), Int.ediv_eq_zero_of_lt hx.1 hx.2, Int.zero_add]
    rw [e]
    exact ih hxs i (by simpa using hi)
theorem dig_num {p : Int} (hp : 0 < p) {xs : List Int} (h : InR p xs) {k : Nat} (hk : xs.length = k) : dig (num p xs) p k = xs := by
 apply eq_of_nth (by rw [dig_len, hk])
 intro i hi
 rw [dig_len] at hi
 rw [dig_nth _ _ hi, num_nth hp xs h i (by omega)]
theorem dig_cons (a p : Int) (hp : 0 < p) (k : Nat) : dig a p (k + 1) = a % p :: dig (a / p) p k := by
 unfold dig
 rw [List.range_succ_eq_map, List.map_cons, List.map_map, Int.pow_zero, Int.ediv_one]
 congr 1
 apply List.map_congr_left
 intro i _
 show a / p ^ (i + 1) % p = a / p / p ^ i % p
 rw [Int.pow_succ', ← Int.ediv_ediv_of_nonneg (by omega)]
theorem num_dig {p : Int} (hp : 0 < p) (k : Nat) : ∀ {a : Int}, 0 ≤ a → a < p ^ k → num p (dig a p k) = a := by
 induction k with
 | zero => intro a h0 h1; simp at h1; obtain rfl : a = 0 := by omega
           rfl
 | succ k ih =>
  intro a h0 h1
  rw [dig_cons a p hp, num_cons, ih (Int.ediv_nonneg h0 (by omega)) (Int.ediv_lt_of_lt_mul hp (by rw [Int.pow_succ] at h1; exact h1))]
  have := Int.emod_add_mul_ediv a p
  grind
theorem dig_inR {p : Int} (hp : 0 < p) (a : Int) (k : Nat) : InR p (dig a p k) := dig_range hp k
def lin (s p : Int) (k : Nat) (a b : Int) : Int := num p ((List.range k).map fun (i : Nat) => (a / p ^ i % p + s * (b / p ^ i % p)) % p)
theorem lin_inR {p : Int} (hp : 0 < p) (s : Int) (k : Nat) (a b : Int) : InR p ((List.range k).map fun (i : Nat) => (a / p ^ i % p + s * (b / p ^ i % p)) % p) := by
 intro x hx
 obtain ⟨i, _, rfl⟩ := List.mem_map.1 hx
 exact emod_range hp _
theorem lin_dig {p : Int} (hp : 0 < p) (s : Int) (k : Nat) (a b : Int) {i : Nat} (hi : i < k) : nth (dig (lin s p k a b) p k) i = (nth (dig a p k) i + s * nth (dig b p k) i) % p := by
 rw [lin, dig_num hp (lin_inR hp s k a b) (by simp), nth_lt (by simpa using hi), dig_nth _ _ hi, dig_nth _ _ hi]
 simp
theorem lin_range {p : Int} (hp : 0 < p) (s : Int) (k : Nat) (a b : Int) : 0 ≤ lin s p k a b ∧ lin s p k a b < p ^ k := by
 have h := num_bound hp (lin_inR hp s k a b)
 simpa [lin] using h
theorem dig_ext {p : Int} (hp : 0 < p) {k : Nat} {a b : Int} (ha : 0 ≤ a ∧ a < p ^ k) (hb : 0 ≤ b ∧ b < p ^ k) (h : ∀ i, i < k → Cg p (nth (dig a p k) i) (nth (dig b p k) i)) : a = b := by
 rw [← num_dig hp k ha.1 ha.2, ← num_dig hp k hb.1 hb.2]
 congr 1
 apply eq_of_nth (by rw [dig_len, dig_len])
 intro i hi
 have hi2 := hi
 rw [dig_len] at hi
 exact (h i hi).eq ((dig_inR hp a k).nth hi2) ((dig_inR hp b k).nth (by rw [dig_len]; exact hi))
theorem lin_cg {p : Int} (hp : 0 < p) (s : Int) (k : Nat) (a b : Int) {i : Nat} (hi : i < k) : Cg p (nth (dig (lin s p k a b) p k) i) (nth (dig a p k) i + s * nth (dig b p k) i) := by
 rw [lin_dig hp s k a b hi]; exact Cg.emod _ _
theorem lin_sign {p : Int} (k : Nat) (a b : Int) : lin (p - 1) p k a b = lin (-1) p k a b := by
 unfold lin
 congr 1
 apply List.map_congr_left
 intro i _
 exact Cg.emod_eq ⟨b / p ^ i % p, by grind⟩
theorem dig_zero_nth (p : Int) {k i : Nat} (h : i < k) : nth (dig 0 p k) i = 0 := by rw [dig_nth _ _ h]; simp
theorem lin_zero {p : Int} (hp : 0 < p) (s : Int) {k : Nat} {a : Int} (ha : 0 ≤ a ∧ a < p ^ k) : lin s p k a 0 = a := by
 refine dig_ext hp (lin_range hp ..) ha fun i hi => (lin_cg hp s k a 0 hi).trans ?_
 rw [dig_zero_nth p hi]
 exact Cg.of_eq (by simp)
def sm (f : Nat → Int) : Nat → Int
 | 0 => 0
 | n + 1 => sm f n + f n
theorem sm_congr {f g : Nat → Int} {n : Nat} (h : ∀ i, i < n → f i = g i) : sm f n = sm g n := by
 induction n with
 | zero => rfl
 | succ n ih => rw [sm, sm, ih (fun i hi => h i (by omega)), h n (by omega)]
theorem sm_cg {p : Int} {f g : Nat → Int} {n : Nat} (h : ∀ i, i < n → Cg p (f i) (g i)) : Cg p (sm f n) (sm g n) := by
 induction n with
 | zero => exact Cg.refl _ _
 | succ n ih => exact (ih (fun i hi => h i (by omega))).add (h n (by omega))
theorem sm_lin (s : Int) (f g : Nat → Int) (n : Nat) : sm (fun i => f i + s * g i) n = sm f n + s * sm g n := by
 induction n with
 | zero => simp [sm]
 | succ n ih => simp only [sm, ih]; grind
theorem sm_zero {f : Nat → Int} {n : Nat} (h : ∀ i, i < n → f i = 0) : sm f n = 0 := by
 induction n with
 | zero => rfl
 | succ n ih => rw [sm, ih (fun i hi => h i (by omega)), h n (by omega)]; rfl
theorem sm_more {f : Nat → Int} {a n : Nat} (han : a ≤ n) (h : ∀ i, a ≤ i → i < n → f i = 0) : sm f n = sm f a := by
 induction n with
 | zero => obtain rfl : a = 0 := by omega
           rfl
 | succ n ih =>
  by_cases e : a = n + 1
  · rw [e]
  · rw [sm, ih (by omega) (fun i h1 h2 => h i h1 (by omega)), h n (by omega) (by omega), Int.add_zero]
theorem sm_shift (f : Nat → Int) (n : Nat) : sm f (n + 1) = f 0 + sm (fun i => f (i + 1)) n := by
 induction n with
 | zero => simp [sm]
 | succ n ih => rw [sm, ih, sm]; grind
theorem sm_flip (f : Nat → Int) (n : Nat) : sm (fun i => f (n - 1 - i)) n = sm f n := by
 induction n generalizing f with
 | zero => rfl
 | succ n ih =>
  rw [sm_shift f, ← ih, sm]
  have : sm (fun i => f (n + 1 - 1 - i)) n = sm (fun i => f (n - 1 - i + 1)) n := sm_congr fun i hi => by congr 1; omega
  rw [this]
  simp [Int.add_comm]
def convTo (p : Int) (xs ys z : List Int) : Nat → List Int
 | 0 => z
 | i + 1 => setK (convTo p xs ys z i) ys (-(nth xs i)) p i ys.length
def zeros (m : Nat) : List Int := List.replicate m 0
theorem zeros_len (m : Nat) : (zeros m).length = m := by simp [zeros]
theorem zeros_nth (m i : Nat) : nth (zeros m) i = 0 := by
 simp only [nth, zeros, List.getD_eq_getElem?_getD, List.getElem?_replicate]
 split <;> rfl
theorem zeros_inR {p : Int} (hp : 0 < p) (m : Nat) : InR p (zeros m) := by
 intro x hx
 obtain rfl : x = 0 := by simpa [zeros] using (List.mem_replicate.1 hx).2
 omega
theorem convTo_len (p : Int) (xs ys z : List Int) (i : Nat) : (convTo p xs ys z i).length = z.length := by
 induction i with
 | zero => rfl
 | succ i ih => rw [convTo, setK_len, ih]
theorem convTo_inR {p : Int} (hp : 0 < p) (xs ys : List Int) {z : List Int} (hz : InR p z) (i : Nat) : InR p (convTo p xs ys z i) := by
 induction i with
 | zero => exact hz
 | succ i ih => exact setK_in hp ih _ _ _ _
theorem setK_get (xs ys : List Int) (c p : Int) (off k j : Nat) (h : off + k ≤ xs.length) :
    nth (setK xs ys c p off k) j = if off ≤ j ∧ j < off + k then (nth xs j - c * nth ys (j - off)) % p else nth xs j := by
 induction k with
 | zero => rw [if_neg (by omega)]; rfl
 | succ k ih =>
  have ih := ih (by omega)
  rw [setK]
  by_cases e : j = off + k
  · subst e
    rw [nth_set_same (by rw [setK_len]; omega), if_pos (by omega), Nat.add_sub_cancel_left]
  · rw [nth_set_ne (by omega), ih]
    by_cases g : off ≤ j ∧ j < off + k
    · rw [if_pos g, if_pos (by omega)]
    · rw [if_neg g, if_neg (by omega)]
def cv (x y : Nat → Int) (m : Nat) (n : Nat) : Int := sm (fun i => if i ≤ m then x i * y (m - i) else 0) n
theorem convTo_nth {p : Int} (hp : 0 < p) (xs ys : List Int) (L : Nat) (i : Nat) (hi : i + ys.length ≤ L + 1) (h0 : i ≤ L) (m : Nat) :
    nth (convTo p xs ys (zeros L) i) m = cv (nth xs) (nth ys) m i % p := by
 induction i with
 | zero => rw [convTo, zeros_nth]; simp [cv, sm]
 | succ i ih =>
  have ih := ih (by omega) (by omega)
  rw [convTo, setK_get _ _ _ _ _ _ _ (by rw [convTo_len, zeros_len]; omega), ih]
  show _ = (cv (nth xs) (nth ys) m i + (if i ≤ m then nth xs i * nth ys (m - i) else 0)) % p
  by_cases h1 : i ≤ m
  · rw [if_pos h1]
    by_cases h2 : m < i + ys.length
    · rw [if_pos ⟨h1, h2⟩]
      refine Cg.emod_eq (((Cg.emod p (cv (nth xs) (nth ys) m i)).sub (Cg.refl p _)).trans (Cg.of_eq ?_))
      grind
    · rw [if_neg (by omega), nth_big (xs := ys) (by omega)]; simp
  · rw [if_neg h1, if_neg (by omega)]; simp
theorem cv_full {x y : Nat → Int} {n : Nat} (hx : ∀ i, n ≤ i → x i = 0) (m : Nat) : cv x y m n = sm (fun i => x i * y (m - i)) (m + 1) := by
 unfold cv
 rcases Nat.le_total n (m + 1) with h | h
 · rw [sm_more h (fun i h1 h2 => by rw [hx i h1, Int.zero_mul])]
   exact sm_congr fun i hi => if_pos (by omega)
 · rw [sm_more h (fun i h1 h2 => if_neg (by omega))]
   exact sm_congr fun i hi => if_pos (by omega)
theorem cv_comm {x y : Nat → Int} {n : Nat} (hx : ∀ i, n ≤ i → x i = 0) (hy : ∀ i, n ≤ i → y i = 0) (m : Nat) : cv x y m n = cv y x m n := by
 rw [cv_full hx, cv_full hy, ← sm_flip (fun i => y i * x (m - i)) (m + 1)]
 apply sm_congr
 intro i hi
 show _ = y (m + 1 - 1 - i) * x (m - (m + 1 - 1 - i))
 rw [Int.mul_comm, show m + 1 - 1 - i = m - i by omega, show m - (m - i) = i by omega]
theorem cv_cg {p : Int} {x y x' y' : Nat → Int} {m n : Nat} (hx : ∀ i, Cg p (x i) (x' i)) (hy : ∀ i, Cg p (y i) (y' i)) : Cg p (cv x y m n) (cv x' y' m n) := by
 refine sm_cg fun i _ => ?_
 split
 · exact (hx _).mul (hy _)
 · exact Cg.refl _ _
theorem cv_lin (s : Int) (x y z : Nat → Int) (m n : Nat) : cv x (fun i => y i + s * z i) m n = cv x y m n + s * cv x z m n := by
 unfold cv
 rw [← sm_lin]
 apply sm_congr
 intro i _
 split
 · grind
 · simp
theorem remTo_lin {p : Int} (s : Int) (ys xs us vs : List Int) (hu : us.length = xs.length) (hv : vs.length = xs.length) (hy : 1 ≤ ys.length)
    (h : ∀ j, Cg p (nth xs j) (nth us j + s * nth vs j)) (t : Nat) (ht : t ≤ xs.length - (ys.length - 1)) : ∀ j, Cg p (nth (remTo p ys xs t) j) (nth (remTo p ys us t) j + s * nth (remTo p ys vs t) j) := by
 induction t with
 | zero => exact h
 | succ t ih =>
  have ih := ih (by omega)
  intro j
  rw [remTo, remTo, remTo, hu, hv, setK_get _ _ _ _ _ _ _ (by rw [remTo_len]; omega), setK_get _ _ _ _ _ _ _ (by rw [remTo_len, hu]; omega), setK_get _ _ _ _ _ _ _ (by rw [remTo_len, hv]; omega)]
  split
  · refine (Cg.emod _ _).trans (Cg.trans ?_ ((Cg.emod _ _).add ((Cg.refl p s).mul (Cg.emod _ _))).symm)
    refine ((ih j).sub ((ih _).mul (Cg.refl p _))).trans (Cg.of_eq ?_)
    grind
  · exact ih j
theorem take_nth_lt {xs : List Int} {k j : Nat} (h : j < k) : nth (xs.take k) j = nth xs j := by
 simp [nth, List.getD_eq_getElem?_getD, h]
theorem prem_lin {p : Int} (s : Int) (ys xs us vs : List Int) (hu : us.length = xs.length) (hv : vs.length = xs.length) (hy : 1 ≤ ys.length)
    (h : ∀ j, Cg p (nth xs j) (nth us j + s * nth vs j)) (j : Nat) : Cg p (nth (prem p ys xs) j) (nth (prem p ys us) j + s * nth (prem p ys vs) j) := by
 by_cases hj : j < ys.length - 1
 · rw [prem, prem, prem, take_nth_lt hj, take_nth_lt hj, take_nth_lt hj, hu, hv]
   exact remTo_lin s ys xs us vs hu hv hy h _ (Nat.le_refl _) j
 · rw [nth_big (by rw [prem_len]; omega), nth_big (by rw [prem_len]; omega), nth_big (by rw [prem_len]; omega)]
   exact Cg.of_eq (by simp)
def mulD (p : Int) (poly xs ys : List Int) (L : Nat) : List Int := prem p poly (convTo p xs ys (zeros L) xs.length)
def mulF (p : Int) (k : Nat) (poly : List Int) (a b : Int) : Int := num p (mulD p poly (dig a p k) (dig b p k) (2 * k))
section
variable {p : Int} {k : Nat} {poly : List Int}
theorem mulD_len (hl : poly.length = k + 1) {xs ys : List Int} {L : Nat} (hL : k ≤ L) : (mulD p poly xs ys L).length = k := by
 rw [mulD, prem_len, convTo_len, zeros_len]; omega
theorem mulD_inR (hp : 0 < p) (xs ys : List Int) (L : Nat) : InR p (mulD p poly xs ys L) := prem_in hp (convTo_inR hp _ _ (zeros_inR hp _) _) _
theorem mulF_range (hp : 0 < p) (hl : poly.length = k + 1) (a b : Int) : 0 ≤ mulF p k poly a b ∧ mulF p k poly a b < p ^ k := by
 have h := num_bound hp (mulD_inR (poly := poly) hp (dig a p k) (dig b p k) (2 * k))
 rwa [mulD_len hl (by omega)] at h
theorem mulF_dig (hp : 0 < p) (hl : poly.length = k + 1) (a b : Int) : dig (mulF p k poly a b) p k = mulD p poly (dig a p k) (dig b p k) (2 * k) :=
 dig_num hp (mulD_inR hp _ _ _) (mulD_len hl (by omega))
theorem mulF_comm (hp : 0 < p) (a b : Int) : mulF p k poly a b = mulF p k poly b a := by
 unfold mulF mulD
 congr 2
 rw [dig_len, dig_len]
 apply eq_of_nth (by rw [convTo_len, convTo_len])
 intro m hm
 rw [convTo_nth hp _ _ _ _ (by rw [dig_len]; omega) (by omega), convTo_nth hp _ _ _ _ (by rw [dig_len]; omega) (by omega)]
 rw [cv_comm (fun i hi => nth_big (by rw [dig_len]; exact hi)) (fun i hi => nth_big (by rw [dig_len]; exact hi))]
theorem lin_cg_all (hp : 0 < p) (s a b : Int) (i : Nat) : Cg p (nth (dig (lin s p k a b) p k) i) (nth (dig a p k) i + s * nth (dig b p k) i) := by
 by_cases hi : i < k
 · exact lin_cg hp s k a b hi
 · rw [nth_big (by rw [dig_len]; omega), nth_big (by rw [dig_len]; omega), nth_big (by rw [dig_len]; omega)]
   exact Cg.of_eq (by simp)
theorem mulF_lin (hp : 0 < p) (hl : poly.length = k + 1) (s a b c : Int) : mulF p k poly a (lin s p k b c) = lin s p k (mulF p k poly a b) (mulF p k poly a c) := by
 refine dig_ext hp (mulF_range hp hl _ _) (lin_range hp ..) fun i hi => ?_
 refine Cg.trans ?_ (lin_cg hp s k _ _ hi).symm
 rw [mulF_dig hp hl, mulF_dig hp hl, mulF_dig hp hl]
 refine prem_lin s poly _ _ _ (by rw [convTo_len, convTo_len]) (by rw [convTo_len, convTo_len]) (by omega) (fun j => ?_) i
 rw [dig_len, convTo_nth hp _ _ _ _ (by rw [dig_len]; omega) (by omega), convTo_nth hp _ _ _ _ (by rw [dig_len]; omega) (by omega), convTo_nth hp _ _ _ _ (by rw [dig_len]; omega) (by omega)]
 refine (Cg.emod _ _).trans (Cg.trans ?_ ((Cg.emod _ _).add ((Cg.refl p s).mul (Cg.emod _ _))).symm)
 refine (cv_cg (fun i => Cg.refl _ _) (fun i => lin_cg_all hp s b c i)).trans (Cg.of_eq ?_)
 exact cv_lin s _ _ _ _ _
theorem mulF_zero (hp : 0 < p) (hl : poly.length = k + 1) (a : Int) : mulF p k poly a 0 = 0 := by
 have h0 : (0 : Int) < p ^ k := Int.pow_pos hp
 have h := mulF_lin hp hl (-1) a 0 0
 rw [lin_zero hp (-1) ⟨Int.le_refl _, h0⟩] at h
 refine dig_ext hp (mulF_range hp hl _ _) ⟨Int.le_refl _, h0⟩ fun i hi => ?_
 rw [h]
 refine (lin_cg hp _ _ _ _ hi).trans ?_
 rw [dig_zero_nth p hi]
 exact Cg.of_eq (by grind)
theorem zero_mulF (hp : 0 < p) (hl : poly.length = k + 1) (a : Int) : mulF p k poly 0 a = 0 := by rw [mulF_comm hp, mulF_zero hp hl]
theorem add_neg_mul (hp : 0 < p) (hl : poly.length = k + 1) (a c w : Int) : lin 1 p k a (mulF p k poly (lin (-1) p k 0 c) w) = lin (-1) p k a (mulF p k poly c w) := by
 rw [mulF_comm hp (lin _ _ _ _ _), mulF_lin hp hl, mulF_zero hp hl, mulF_comm hp w c]
 refine dig_ext hp (lin_range hp ..) (lin_range hp ..) fun i hi => ?_
 refine ((lin_cg hp _ _ _ _ hi).trans ((Cg.refl p _).add ((Cg.refl p _).mul (lin_cg hp _ _ _ _ hi)))).trans (Cg.trans ?_ (lin_cg hp _ _ _ _ hi).symm)
 rw [dig_zero_nth p hi]
 exact Cg.of_eq (by grind)
end
theorem inR_nth {p : Int} (hp : 0 < p) {xs : List Int} (h : InR p xs) (j : Nat) : 0 ≤ nth xs j ∧ nth xs j < p := by
 by_cases hj : j < xs.length
 · exact h.nth hj
 · rw [nth_big (by omega)]; omega
theorem remTo_succ (p : Int) (ys xs : List Int) (t : Nat) : remTo p ys xs (t + 1) = setK (remTo p ys xs t) ys (nth (remTo p ys xs t) (xs.length - 1 - t)) p (xs.length - 1 - t - (ys.length - 1)) ys.length := rfl
theorem remTo_pad {p : Int} (hp : 0 < p) (ys xs us : List Int) (hl : xs.length = us.length + 1) (hr : InR p xs) (hy : 1 ≤ ys.length) (hyl : ys.length - 1 ≤ us.length)
    (h : ∀ j, nth xs j = nth us j) (t : Nat) (ht : t ≤ us.length - (ys.length - 1)) : ∀ j, nth (remTo p ys xs (t + 1)) j = nth (remTo p ys us t) j := by
 induction t with
 | zero =>
  intro j
  rw [remTo, remTo, remTo, setK_get _ _ _ _ _ _ _ (by omega), h (xs.length - 1 - 0), nth_big (xs := us) (by omega)]
  split
  · rw [Int.zero_mul, Int.sub_zero, h j, ← h j, Int.emod_eq_of_lt (inR_nth hp hr j).1 (inR_nth hp hr j).2]
  · exact h j
 | succ t ih =>
  have ih := ih (by omega)
  intro j
  rw [remTo_succ p ys xs (t + 1), remTo_succ p ys us t, setK_get _ _ _ _ _ _ _ (by rw [remTo_len]; omega), setK_get _ _ _ _ _ _ _ (by rw [remTo_len]; omega), ih j, hl, show us.length + 1 - 1 - (t + 1) = us.length - 1 - t by omega, ih]
theorem mulD_pad {p : Int} (hp : 0 < p) {k : Nat} {poly xs ys : List Int} (hk : 1 ≤ k) (hl : poly.length = k + 1) (hx : xs.length = k) (hy : ys.length = k) : mulD p poly xs ys (2 * k - 1) = mulD p poly xs ys (2 * k) := by
 have hz : ∀ L, (convTo p xs ys (zeros L) xs.length).length = L := fun L => by rw [convTo_len, zeros_len]
 apply eq_of_nth (by rw [mulD_len hl (by omega), mulD_len hl (by omega)])
 intro i hi
 rw [mulD_len hl (by omega)] at hi
 unfold mulD prem
 rw [take_nth_lt (by omega), take_nth_lt (by omega), hz, hz, show 2 * k - (poly.length - 1) = (2 * k - 1 - (poly.length - 1)) + 1 by omega]
 refine (remTo_pad hp poly _ _ (by rw [hz, hz]; omega) (convTo_inR hp _ _ (zeros_inR hp _) _) (by omega) (by rw [hz]; omega) (fun j => ?_) _ (by rw [hz]; exact Nat.le_refl _) i).symm
 rw [convTo_nth hp _ _ _ _ (by omega) (by omega), convTo_nth hp _ _ _ _ (by omega) (by omega)]
end Go.Proofs.YtkiljcbejmiioaaGreat
namespace Go.Proofs.YtkiljcbejmiioaaGreat
open Go.RowKit
theorem l00Own_any (a : Option Addr) (c : Nat) (xs : List Int) (w : World) (hx : Rd w a xs) :
    Calls Tryz.prog 113 #[.slice a xs.length c] w fun e w' => ∃ v, e = .returned v ∧ Own w' w.heap.size v xs ∧ Below w.heap.size w w' := by
 have hxl := hx.len
 go_enter Tryz.func113, Tryz.ntmps113
 go_wp2_with (at_builtin; refine wpList_append_ints rfl (.tmp 3) (.tmp 4) rfl w.heap.size _ [] xs rfl (Own.empty w (Nat.le_refl _)) a xs.length c rfl rfl (hx.alloc _) (by simpa using hxl) (by simp) ?_; intro v1 w1 hown1 hg1 _)
 go_ret
 exact ⟨_, rfl, by simpa using hown1, Below.step ((Below.refl _ _).alloc (Nat.le_refl _) _) hg1 (Own.empty w (Nat.le_refl _)) (Nat.le_refl _) (by simp)⟩
theorem l03Digits_any (n p : Int) (k : Nat) (w : World) (hn : 0 ≤ n) (hn2 : n ≤ 9223372036854775807) (hp : 1 ≤ p) (hp2 : p ≤ 1000000) (hk : k ≤ 1000000) :
    Calls Tryz.prog 60 #[.int .i64 n, .int .i64 p, .int .i64 k] w fun e w' => ∃ v, e = .returned v ∧ Own w' w.heap.size v (dig n p k) ∧ Below w.heap.size w w' := by
 go_enter Tryz.func60, Tryz.ntmps60
 go_wp2
 go_loopw [0, 2, 7] (fun nv kv v wr => ∃ (j r : Nat) (m : Int), nv = .int .i64 m ∧ kv = .int .i64 (r : Int) ∧ Hid (j + r = k) ∧ r ≤ 1000000 ∧ j ≤ 1000000 ∧ 0 ≤ m ∧ m ≤ 9223372036854775807 ∧ Hid (m = n / p ^ j) ∧ Own wr w.heap.size v (dig n p j) ∧ Below w.heap.size w wr) (fun _ kv _ _ => (intOf kv).toNat)
 case atStart => exact ⟨0, k, n, rfl, rfl, by simp [Hid], hk, by omega, hn, hn2, by simp [Hid], Own.empty w (Nat.le_refl _), (Below.refl _ _).alloc (Nat.le_refl _) _⟩
 case round =>
  obtain ⟨j, r, m, rfl, rfl, hjr, hr, hj, hm0, hm1, hm, ho, hb⟩ := hrel
  have hsz := hb.size
  by_cases hr0 : 0 < r
  · have e1 := Int.emod_nonneg m (show p ≠ 0 by omega)
    have e2 := Int.emod_lt_of_pos m (show 0 < p by omega)
    have e3 := Int.ediv_nonneg hm0 (show 0 ≤ p by omega)
    have e4 : m / p ≤ m := Int.ediv_le_self _ hm0
    have hdl := dig_len n p j
    go_wp2_with (at_builtin; refine wpList_append_ints rfl (.tmp 13) (.tmp 17) rfl w.heap.size u7 (dig n p j) [m % p] rfl (ho.alloc _) _ 1 1 rfl rfl (Rd.one wr (m % p) _) (by rw [hdl]; simp; omega) (by simp; omega) ?_; intro v1 w1 hown1 hg1 _)
    go_roundw
    case rel => exact ⟨j + 1, r - 1, m / p, rfl, by go_num, by have := hjr.out; show _ = _; omega, by omega, by have := hjr.out; omega, e3, by omega, by show _ = _; rw [hm.out, div_pow_succ n p (by omega)], by rw [dig_succ, ← hm.out]; exact hown1, Below.step (hb.alloc hsz _) hg1 (ho.alloc _) (Nat.le_refl _) (by simp; omega)⟩
    case measure => first | (simp [intOf]; done) | (simp [intOf]; omega)
  · go_wp2
    go_ret
    exact ⟨_, rfl, by have := hjr.out; obtain rfl : j = k := by omega
                      exact ho, hb⟩
theorem l03Number_any (a : Option Addr) (c : Nat) (xs : List Int) (p : Int) (w : World) (hx : Rd w a xs) (hp : 1 ≤ p) (hp2 : p ≤ 1000000) (hr : InR p xs) (hq : p ^ xs.length ≤ 1099511627776) :
    Calls Tryz.prog 100 #[.slice a xs.length c, .int .i64 p] w fun e w' => e = .returned (.int .i64 (num p xs)) ∧ w = w' := by
 have hxl := hx.len
 have bnd : ∀ m, m < xs.length → 0 ≤ num p (xs.drop (m + 1)) * p ∧ num p (xs.drop (m + 1)) * p ≤ 1099511627776 ∧ 0 ≤ nth xs m ∧ nth xs m < p ∧ num p (xs.drop (m + 1)) * p + nth xs m ≤ 1099511627776 := by
  intro m hm
  have h1 := num_bound (p := p) (by omega) (xs := xs.drop m) (fun x hx => hr x (List.mem_of_mem_drop hx))
  have h2 := num_bound (p := p) (by omega) (xs := xs.drop (m + 1)) (fun x hx => hr x (List.mem_of_mem_drop hx))
  rw [num_drop p hm] at h1
  have h3 : p ^ (xs.drop m).length ≤ p ^ xs.length := pow_mono hp (by simp)
  have h4 := hr.nth hm
  have h5 : 0 ≤ num p (xs.drop (m + 1)) * p := Int.mul_nonneg h2.1 (by omega)
  exact ⟨h5, by omega, h4.1, h4.2, by omega⟩
 have BN := hide bnd
 clear bnd hq
 go_enter Tryz.func100, Tryz.ntmps100
 go_wp2
 go_loop [5, 6] (fun o i => ∃ (j : Nat) (x y : Int), i = .int .i64 x ∧ o = .int .i64 y ∧ Hid (x = j - 1) ∧ j ≤ xs.length ∧ -1 ≤ x ∧ x < 1073741824 ∧ Hid (y = num p (xs.drop j)) ∧ 0 ≤ y ∧ y ≤ 1099511627776) (fun _ i => (intOf i + 1).toNat)
 case atStart => exact ⟨xs.length, _, 0, rfl, rfl, by simp [Hid], Nat.le_refl _, by omega, by omega, by simp [Hid, num], by omega, by omega⟩
 case round =>
  obtain ⟨j, x, y, rfl, rfl, hxj, hj, hx0, hx1, hy, hy0, hy1⟩ := hrel
  by_cases h0 : 0 ≤ x
  · obtain ⟨m, rfl⟩ := Int.eq_ofNat_of_zero_le h0
    obtain rfl : j = m + 1 := by have := hxj.out; omega
    obtain ⟨b1, b2, b3, b4, b5⟩ := (unhide BN) m (by omega)
    rw [← hy.out] at b1 b2 b5
    obtain ⟨g, o, rfl, _, hcx⟩ := hx.at_ (by omega)
    have hc := hcx m (by omega)
    clear hcx hx
    go_wp2
    go_round
    case rel => exact ⟨m, _, _, rfl, rfl, rfl, by omega, by omega, by omega, by have := hy.out; subst this; exact (num_drop p (by omega)).symm, by omega, by omega⟩
    case measure => first | (simp [intOf]; done) | (simp [intOf]; omega)
  · go_wp2
    go_ret
    exact ⟨ret_int (by have := hxj.out; obtain rfl : j = 0 := by omega
                       rw [hy.out]; rfl), rfl⟩
theorem numberOf_any (a : Option Addr) (c : Nat) (xs : List Int) (p : Int) (w : World) (hx : Rd w a xs) (hp : 1 ≤ p) (hp2 : p ≤ 1000000) (hr : InR p xs) (hq : p ^ xs.length ≤ 1099511627776) :
    Calls Tryz.prog 123 #[.slice a xs.length c, .int .i64 p] w fun e w' => e = .returned (.int .i64 (num p xs)) ∧ w = w' := by
 have hxl := hx.len
 have bnd : ∀ m, m < xs.length → 0 ≤ num p (xs.drop (m + 1)) * p ∧ num p (xs.drop (m + 1)) * p ≤ 1099511627776 ∧ 0 ≤ nth xs m ∧ nth xs m < p ∧ num p (xs.drop (m + 1)) * p + nth xs m ≤ 1099511627776 := by
  intro m hm
  have h1 := num_bound (p := p) (by omega) (xs := xs.drop m) (fun x hx => hr x (List.mem_of_mem_drop hx))
  have h2 := num_bound (p := p) (by omega) (xs := xs.drop (m + 1)) (fun x hx => hr x (List.mem_of_mem_drop hx))
  rw [num_drop p hm] at h1
  have h3 : p ^ (xs.drop m).length ≤ p ^ xs.length := pow_mono hp (by simp)
  have h4 := hr.nth hm
  have h5 : 0 ≤ num p (xs.drop (m + 1)) * p := Int.mul_nonneg h2.1 (by omega)
  exact ⟨h5, by omega, h4.1, h4.2, by omega⟩
 have BN := hide bnd
 clear bnd hq
 go_enter Tryz.func123, Tryz.ntmps123
 go_wp2
 go_loop [5, 6] (fun o i => ∃ (j : Nat) (x y : Int), i = .int .i64 x ∧ o = .int .i64 y ∧ Hid (x = j - 1) ∧ j ≤ xs.length ∧ -1 ≤ x ∧ x < 1073741824 ∧ Hid (y = num p (xs.drop j)) ∧ 0 ≤ y ∧ y ≤ 1099511627776) (fun _ i => (intOf i + 1).toNat)
 case atStart => exact ⟨xs.length, _, 0, rfl, rfl, by simp [Hid], Nat.le_refl _, by omega, by omega, by simp [Hid, num], by omega, by omega⟩
 case round =>
  obtain ⟨j, x, y, rfl, rfl, hxj, hj, hx0, hx1, hy, hy0, hy1⟩ := hrel
  by_cases h0 : 0 ≤ x
  · obtain ⟨m, rfl⟩ := Int.eq_ofNat_of_zero_le h0
    obtain rfl : j = m + 1 := by have := hxj.out; omega
    obtain ⟨b1, b2, b3, b4, b5⟩ := (unhide BN) m (by omega)
    rw [← hy.out] at b1 b2 b5
    obtain ⟨g, o, rfl, _, hcx⟩ := hx.at_ (by omega)
    have hc := hcx m (by omega)
    clear hcx hx
    go_wp2
    go_round
    case rel => exact ⟨m, _, _, rfl, rfl, rfl, by omega, by omega, by omega, by have := hy.out; subst this; exact (num_drop p (by omega)).symm, by omega, by omega⟩
    case measure => first | (simp [intOf]; done) | (simp [intOf]; omega)
  · go_wp2
    go_ret
    exact ⟨ret_int (by have := hxj.out; obtain rfl : j = 0 := by omega
                       rw [hy.out]; rfl), rfl⟩
theorem l03Power_any (p : Int) (k : Nat) (w : World) (hp : 1 ≤ p) (hp2 : p ≤ 1000000) (hk : k ≤ 1000000) (hq : p ^ k ≤ 1099511627776) :
    Calls Tryz.prog 115 #[.int .i64 p, .int .i64 k] w fun e w' => e = .returned (.int .i64 (p ^ k)) ∧ w = w' := by
 have bnd : ∀ j, j < k → 0 ≤ p ^ j * p ∧ p ^ j * p ≤ 1099511627776 := by
  intro j hj
  have h1 : p ^ (j + 1) ≤ p ^ k := pow_mono hp hj
  rw [Int.pow_succ] at h1
  exact ⟨Int.mul_nonneg (Int.pow_nonneg (by omega)) (by omega), by omega⟩
 have BN := hide bnd
 clear bnd hq
 go_enter Tryz.func115, Tryz.ntmps115
 go_wp2
 go_loop [1, 5] (fun kv o => ∃ (j r : Nat) (y : Int), kv = .int .i64 (r : Int) ∧ o = .int .i64 y ∧ Hid (j + r = k) ∧ r ≤ 1000000 ∧ Hid (y = p ^ j)) (fun kv _ => (intOf kv).toNat)
 case atStart => exact ⟨0, k, 1, rfl, rfl, by simp [Hid], hk, by simp [Hid]⟩
 case round =>
  obtain ⟨j, r, y, rfl, rfl, hjr, hr, hy⟩ := hrel
  by_cases h0 : 0 < r
  · obtain ⟨b1, b2⟩ := (unhide BN) j (by have := hjr.out; omega)
    rw [← hy.out] at b1 b2
    go_wp2
    go_round
    case rel => exact ⟨j + 1, r - 1, _, by go_num, rfl, by have := hjr.out; show _ = _; omega, by omega, by show _ = _; rw [hy.out, Int.pow_succ]⟩
    case measure => first | (simp [intOf]; done) | (simp [intOf]; omega)
  · go_wp2
    go_ret
    exact ⟨ret_int (by have := hjr.out; obtain rfl : j = k := by omega
                       exact hy.out), rfl⟩
end Go.Proofs.YtkiljcbejmiioaaGreat
namespace Go.Proofs.YtkiljcbejmiioaaGreat
open Go.RowKit
theorem pp_table : ∀ q : Nat, q < 65 → ppOf (factors q) = splitN q ∨ q < 2 := by decide +kernel
def sizeOk (q : Nat) : Bool :=
 (splitN q).1 == 0 || (decide (2 ≤ (splitN q).1) && decide ((splitN q).1 ≤ 64) && decide (1 ≤ (splitN q).2) && decide ((splitN q).2 ≤ 6) && (splitN q).1 ^ (splitN q).2.toNat == (q : Int) &&
  (List.range 64).any fun (n : Nat) => irr (dig n (splitN q).1 (splitN q).2.toNat ++ [1]) (splitN q).1)
theorem size_table : ∀ q : Nat, q < 65 → 2 ≤ q → sizeOk q = true := by decide +kernel
def isField (q : Int) : Bool := decide (0 < (split q).1)
end Go.Proofs.YtkiljcbejmiioaaGreat
namespace Go.Proofs.YtkiljcbejmiioaaGreat
open Go.RowKit
theorem results_cell_tmp_row {P : Program} {fn : Func} {p u : Tmp} {ty : TypeId} (h : fn.results = #[.cell p ty, .tmp u]) (tmps : Array Value) (w : World) (g : Nat) (t : TypeId) (cs : Array Value) (d : TypeDesc)
    (hp : tmps.getD p undef = .pointer (some ⟨g, 0, none⟩)) (hg : Blk w g t cs)
    (hu : P.underlying ty = some d) (hd : (match d with | .struct _ | .array _ _ => true | _ => false) = true) (hi : (P.info? ty).map (·.size) = some cs.size) :
    (results fn tmps).run P w = .ok (.tuple #[.agg cs, tmps.getD u undef]) w := by
 rw [results_cell_tmp h, hp]
 simp [asAddr, run_loadVar_row w g t ty cs (0, 0) d hg hu hd hi, Result.andThen]
def polyAt (p : Int) (k n : Nat) : List Int := dig n p k ++ [1]
def leastN (p : Int) (k : Nat) : Nat := ((List.range 64).find? (fun n => irr (polyAt p k n) p)).getD 0
theorem polyAt_len (p : Int) (k n : Nat) : (polyAt p k n).length = k + 1 := by rw [polyAt, List.length_append, dig_len]; rfl
structure SizeOk (q p : Int) (k : Nat) : Prop where
 lo : 2 ≤ p
 hi : p ≤ 64
 k1 : 1 ≤ k
 k6 : k ≤ 6
 pow : p ^ k = q
 some_ : ∃ n : Nat, n < 64 ∧ irr (polyAt p k n) p = true
theorem isField_size {q : Int} (h : isField q = true) : 2 ≤ q ∧ q ≤ 64 ∧ split q = ppI q ∧ ∃ k : Nat, (split q).2 = (k : Int) ∧ SizeOk q (split q).1 k := by
 have hs := h
 rw [isField, decide_eq_true_eq, split] at h
 by_cases hb : inB q 2 64 = true
 · obtain ⟨h2, h64⟩ := inB_true.1 hb
   obtain ⟨n, rfl⟩ := Int.eq_ofNat_of_zero_le (show 0 ≤ q by omega)
   rw [if_pos hb, Int.toNat_natCast] at h
   have e : split (n : Int) = splitN n := by rw [split, if_pos hb, Int.toNat_natCast]
   have t1 := pp_table n (by omega)
   have t2 := size_table n (by omega) (by omega)
   have ef : ppI (n : Int) = splitN n := by
    rw [ppI, facs, if_pos (inB_yes (by omega) (by omega)), Int.toNat_natCast]
    rcases t1 with t1 | t1
    · exact t1
    · omega
   rw [e, ef]
   refine ⟨h2, h64, rfl, (splitN n).2.toNat, ?_⟩
   simp only [sizeOk, Bool.or_eq_true, Bool.and_eq_true, decide_eq_true_eq, beq_iff_eq, List.any_eq_true, List.mem_range] at t2
   rcases t2 with t2 | ⟨⟨⟨⟨⟨a1, a2⟩, a3⟩, a4⟩, a5⟩, m, a6, a7⟩
   · omega
   · exact ⟨by omega, a1, a2, by omega, by omega, a5, m, a6, a7⟩
 · rw [if_neg hb] at h
   simp at h
theorem leastN_spec {q p : Int} {k : Nat} (h : SizeOk q p k) : leastN p k < 64 ∧ irr (polyAt p k (leastN p k)) p = true ∧ ∀ m, m < leastN p k → irr (polyAt p k m) p = false := by
 obtain ⟨n, hn, hi⟩ := h.some_
 unfold leastN
 cases hf : (List.range 64).find? (fun n => irr (polyAt p k n) p) with
 | none =>
  rw [List.find?_eq_none] at hf
  exact absurd hi (hf n (List.mem_range.2 hn))
 | some m =>
  rw [Option.getD_some]
  have h1 := List.find?_some hf
  have h2 := List.mem_of_find?_eq_some hf
  rw [List.mem_range] at h2
  refine ⟨h2, h1, fun j hj => ?_⟩
  rw [List.find?_range_eq_some] at hf
  have := hf.2.2 j hj
  simpa using this
end Go.Proofs.YtkiljcbejmiioaaGreat
namespace Go.Proofs.YtkiljcbejmiioaaGreat
open Go.RowKit
theorem Tryz.info_row : (Tryz.prog.info? 28).map (fun i => (i.zero, i.size, i.bytes)) = some (some (.slice none 0 0), 1, 24) := by kernel_rfl
def nthL (xss : List (List Int)) (i : Nat) : List Int := xss.getD i []
theorem nthL_lt {xss : List (List Int)} {i : Nat} (h : i < xss.length) : nthL xss i = xss[i] := by simp [nthL, h]
theorem nthL_mem {xss : List (List Int)} {i : Nat} (h : i < xss.length) : nthL xss i ∈ xss := by rw [nthL_lt h]; exact List.getElem_mem h
theorem eq_of_nthL {xs ys : List (List Int)} (hl : xs.length = ys.length) (h : ∀ i, i < xs.length → nthL xs i = nthL ys i) : xs = ys := by
 apply List.ext_getElem hl
 intro i h1 h2
 have := h i h1
 rwa [nthL_lt h1, nthL_lt h2] at this
def RdS (w : World) (a : Option Addr) (xss : List (List Int)) : Prop :=
 xss.length ≤ 1073741824 ∧ (0 < xss.length → ∃ b off, a = some ⟨b, off, none⟩ ∧ ∀ i, i < xss.length → ∃ ai ci, w.cell? ⟨b, off + i, none⟩ = some (.slice ai (nthL xss i).length ci) ∧ Rd w ai (nthL xss i))
section
variable {w w' : World} {a : Option Addr} {xss : List (List Int)} {B : Nat}
theorem RdS.len (h : RdS w a xss) : xss.length ≤ 1073741824 := h.1
theorem RdS.at_ (h : RdS w a xss) (h0 : 0 < xss.length) : ∃ b off, a = some ⟨b, off, none⟩ ∧ b < w.heap.size ∧ ∀ i, i < xss.length → ∃ ai ci, w.cell? ⟨b, off + i, none⟩ = some (.slice ai (nthL xss i).length ci) ∧ Rd w ai (nthL xss i) := by
 obtain ⟨b, off, e, hc⟩ := h.2 h0
 obtain ⟨_, _, h1, _⟩ := hc 0 h0
 exact ⟨b, off, e, World.block_lt_of_cell? w _ h1, hc⟩
theorem RdS.keep (h : RdS w a xss) (hk : ∀ p : Addr, p.block < w.heap.size → w'.cell? p = w.cell? p) : RdS w' a xss :=
 ⟨h.1, fun h0 => by
  obtain ⟨b, off, e, hb, hc⟩ := h.at_ h0
  refine ⟨b, off, e, fun i hi => ?_⟩
  obtain ⟨ai, ci, h1, h2⟩ := hc i hi
  exact ⟨ai, ci, (hk _ hb).trans h1, h2.keep hk⟩⟩
theorem RdS.below (h : RdS w a xss) (hb : Below w.heap.size w w') : RdS w' a xss := h.keep fun _ hp => hb.cell hp
theorem RdS.nil (w : World) (a : Option Addr) : RdS w a [] := ⟨by simp, fun h => by simp at h⟩
theorem RdS.drewN (h : RdS w a xss) (k : Nat) : RdS (w.drewN k) a xss := h.keep fun _ _ => by simp
theorem RdS.alloc (h : RdS w a xss) (o : Obj) : RdS (w.alloc o) a xss := h.keep fun p hp => World.cell?_alloc_lt w o p hp
end
def Lens (w : World) (a : Option Addr) (ls : List Nat) : Prop :=
 ls.length ≤ maxLen ∧ (∀ n ∈ ls, n ≤ maxLen) ∧ (0 < ls.length → ∃ b off, a = some ⟨b, off, none⟩ ∧ ∀ i, i < ls.length → ∃ ai ci, w.cell? ⟨b, off + i, none⟩ = some (.slice ai (ls.getD i 0) ci))
theorem Lens.keep {w w' : World} {a : Option Addr} {ls : List Nat} (h : Lens w a ls) (hk : ∀ p : Addr, p.block < w.heap.size → w'.cell? p = w.cell? p) : Lens w' a ls :=
 ⟨h.1, h.2.1, fun h0 => by
  obtain ⟨b, off, e, hc⟩ := h.2.2 h0
  refine ⟨b, off, e, fun i hi => ?_⟩
  obtain ⟨ai, ci, h1⟩ := hc i hi
  exact ⟨ai, ci, (hk _ (World.block_lt_of_cell? w _ h1)).trans h1⟩⟩
theorem Lens.alloc {w : World} {a : Option Addr} {ls : List Nat} (h : Lens w a ls) (o : Obj) : Lens (w.alloc o) a ls := h.keep fun p hp => World.cell?_alloc_lt w o p hp
theorem Lens.below {w w' : World} {a : Option Addr} {ls : List Nat} (h : Lens w a ls) (hb : Below w.heap.size w w') : Lens w' a ls := h.keep fun _ hp => hb.cell hp
def Inner (w : World) (B : Nat) (vs : List Value) (xss : List (List Int)) : Prop :=
 vs.length = xss.length ∧ (∀ (i : Nat) (x : Value), vs[i]? = some x → Own w B x (nthL xss i)) ∧
  (∀ (i j : Nat) (x y : Value) (k : Nat), i ≠ j → vs[i]? = some x → vs[j]? = some y → x.ownBlock = some k → y.ownBlock ≠ some k)
def OwnS (w : World) (B : Nat) (v : Value) (xss : List (List Int)) : Prop :=
 xss.length ≤ 1073741824 ∧ ∃ vs : List Value, w.ownsRow B 28 1 v xss.length vs ∧ Inner w B vs xss
section
variable {w w' : World} {B : Nat} {vs : List Value} {xss : List (List Int)}
theorem Inner.nil (w : World) (B : Nat) : Inner w B [] [] := ⟨rfl, by simp, by simp⟩
theorem Inner.below {B1 : Nat} (h : Inner w B vs xss) (hb : Below B1 w w') (hlt : w.heap.size ≤ B1) : Inner w' B vs xss := ⟨h.1, fun i x hx => (h.2.1 i x hx).below hb hlt, h.2.2⟩
theorem Inner.mono {B' : Nat} (h : Inner w B vs xss) (hB : B' ≤ B) : Inner w B' vs xss := ⟨h.1, fun i x hx => (h.2.1 i x hx).mono hB, h.2.2⟩
theorem Inner.push {x : Value} {xs : List Int} (h : Inner w B vs xss) (hb : Below w.heap.size w w') (hB : B ≤ w.heap.size) (ho : Own w' w.heap.size x xs) : Inner w' B (vs ++ [x]) (xss ++ [xs]) := by
 obtain ⟨h1, h2, h3⟩ := h
 refine ⟨by simp [h1], fun i y hy => ?_, fun i j y z k hij hy hz hk => ?_⟩
 · rcases Nat.lt_or_ge i vs.length with hi | hi
   · rw [List.getElem?_append_left hi] at hy
     have := (h2 i y hy).below hb (Nat.le_refl _)
     rwa [nthL, List.getD_eq_getElem?_getD, List.getElem?_append_left (by omega), ← List.getD_eq_getElem?_getD, ← nthL]
   · have hi2 := (List.getElem?_eq_some_iff.1 hy).1
     simp at hi2
     obtain rfl : i = vs.length := by omega
     simp at hy
     subst hy
     have e : nthL (xss ++ [xs]) vs.length = xs := by simp [nthL, h1]
     rw [e]
     exact ho.mono hB
 · have old : ∀ (i : Nat) (y : Value) (k : Nat), i < vs.length → (vs ++ [x])[i]? = some y → y.ownBlock = some k → k < w.heap.size := fun i y k hi hy hk => by
     rw [List.getElem?_append_left hi] at hy
     exact ((h2 i y hy).lt k hk).2
   have new : ∀ (i : Nat) (y : Value) (k : Nat), ¬ i < vs.length → (vs ++ [x])[i]? = some y → i = vs.length ∧ (y.ownBlock = some k → w.heap.size ≤ k) := fun i y k hi hy => by
    have hi2 := (List.getElem?_eq_some_iff.1 hy).1
    simp at hi2
    obtain rfl : i = vs.length := by omega
    simp at hy
    subst hy
    exact ⟨rfl, fun hk => (ho.lt k hk).1⟩
   intro hzk
   by_cases hi : i < vs.length <;> by_cases hj : j < vs.length
   · rw [List.getElem?_append_left hi] at hy
     rw [List.getElem?_append_left hj] at hz
     exact h3 i j y z k hij hy hz hk hzk
   · have a1 := old i y k hi hy hk
     have a2 := (new j z k hj hz).2 hzk
     omega
   · have a1 := old j z k hj hz hzk
     have a2 := (new i y k hi hy).2 hk
     omega
   · have a1 := (new i y k hi hy).1
     have a2 := (new j z k hj hz).1
     omega
end
theorem Own.notSliceBlock {w : World} {B B' : Nat} {v x : Value} {n : Nat} {vs : List Value} {xs : List Int} (h : w.ownsRow B 28 1 v n vs) (hx : Own w B' x xs) : ∀ k, x.ownBlock = some k → v.ownBlock ≠ some k := by
 intro k hk hv
 rcases h.2 with ⟨rfl, _⟩ | ⟨g, cap, cur, rfl, _, hg, _⟩
 · simp [Value.ownBlock] at hv
 · rcases hx.2.2 with ⟨rfl, _⟩ | ⟨g', cap', cur', rfl, _, hg', _⟩
   · simp [Value.ownBlock] at hk
   · simp only [Value.ownBlock, Option.some.injEq] at hk hv
     subst hk
     subst hv
     rw [hg] at hg'
     injection hg' with h1
     injection h1 with _ h2
     exact absurd h2 (by decide)
section
variable {w w' : World} {v : Value} {xss : List (List Int)} {B : Nat}
theorem OwnS.form (h : OwnS w B v xss) : ∃ a c, v = .slice a xss.length c ∧ RdS w a xss := by
 obtain ⟨hl, vs, hrow, hvl, hin, _⟩ := h
 have hrow2 := hrow
 rcases hrow.2 with ⟨rfl, h0⟩ | ⟨g, cap, cur, rfl, hb, hg, hn, hm, hs, ht⟩
 · exact ⟨none, 0, by rw [h0], ⟨hl, fun hh => by omega⟩⟩
 · refine ⟨some ⟨g, 0, none⟩, cap, rfl, ⟨hl, fun _ => ⟨g, 0, rfl, fun i hi => ?_⟩⟩⟩
   have hi' : i < vs.length := by omega
   obtain ⟨a, c, e, hr, _⟩ := (hin i vs[i] (List.getElem?_eq_getElem hi')).form
   refine ⟨a, c, ?_, hr⟩
   rw [Nat.zero_add, hrow2.cellAt i (by omega), List.getElem?_eq_getElem hi', ← e]
theorem OwnS.rd {a : Option Addr} {n c : Nat} (h : OwnS w B (.slice a n c) xss) : RdS w a xss := by
 obtain ⟨a', c', e, hr⟩ := h.form
 injection e with e1 e2 e3
 subst e1; exact hr
theorem OwnS.len {a : Option Addr} {n c : Nat} (h : OwnS w B (.slice a n c) xss) : n = xss.length := by
 obtain ⟨a', c', e, hr⟩ := h.form
 injection e with e1 e2 e3
theorem OwnS.nil (w : World) (B : Nat) : OwnS w B (.slice none 0 0) [] :=
 ⟨by simp, [], World.ownsRow_nil _ _ _ _, Inner.nil _ _⟩
theorem OwnS.empty (w : World) {B : Nat} (hB : B ≤ w.heap.size) : OwnS (w.alloc (.cells #[] 28)) B (.slice (some ⟨w.heap.size, 0, none⟩) 0 0) [] :=
 ⟨by simp, [], World.ownsRow_made w #[] 0 hB (by simp) rfl, Inner.nil _ _⟩
theorem ownsRow_below {w w' : World} {B e size n : Nat} {v : Value} {vs : List Value} {B1 : Nat} (h : w.ownsRow B e size v n vs) (hb : Below B1 w w') (hlt : w.heap.size ≤ B1) : w'.ownsRow B e size v n vs := by
 obtain ⟨h1, h2⟩ := h
 refine ⟨h1, ?_⟩
 rcases h2 with h2 | ⟨g, cap, cur, e, hB, hg, r⟩
 · exact .inl h2
 · refine .inr ⟨g, cap, cur, e, hB, ?_, r⟩
   rw [hb.block g (by have := (Array.getElem?_eq_some_iff.1 hg).1; omega)]; exact hg
theorem OwnS.below {B1 : Nat} (h : OwnS w B v xss) (hb : Below B1 w w') (hlt : w.heap.size ≤ B1) : OwnS w' B v xss := by
 obtain ⟨hl, vs, hrow, hin⟩ := h
 exact ⟨hl, vs, ownsRow_below hrow hb hlt, hin.below hb hlt⟩
theorem OwnS.alloc (h : OwnS w B v xss) (o : Obj) : OwnS (w.alloc o) B v xss := h.below ((Below.refl w.heap.size w).alloc (Nat.le_refl _) o) (Nat.le_refl _)
theorem OwnS.drewN (h : OwnS w B v xss) (k : Nat) : OwnS (w.drewN k) B v xss := h.below (Qt.below ⟨k, rfl⟩ w.heap.size) (Nat.le_refl _)
end
theorem OwnS.of_rowIs {w : World} {B b n : Nat} {f : Nat → Value} {vs : List Value} {xss : List (List Int)} (h : w.rowIs b 28 n f) (hB : B ≤ b) (hn : xss.length = n) (hl : xss.length ≤ 1073741824) (hf : ∀ i, i < n → some (f i) = vs[i]?) (hi : Inner w B vs xss) :
    OwnS w B (.slice (some ⟨b, 0, none⟩) n n) xss := by
 obtain ⟨c, hb, hc, hcell⟩ := h
 subst hn
 have hvl := hi.1
 refine ⟨hl, vs, ⟨by omega, .inr ⟨b, _, c, rfl, hB, hb, Nat.le_refl _, by unfold maxLen; omega, by omega, ?_⟩⟩, hi⟩
 apply List.ext_getElem?
 intro i
 rw [Nat.mul_one, List.getElem?_take]
 split
 · rename_i hlt
   rw [Array.getElem?_toList, hcell i hlt, hf i hlt]
 · rw [List.getElem?_eq_none (by omega)]
theorem Own.storeBelow {w : World} {B : Nat} {v : Value} {xs : List Int} (h : Own w B v xs) {p : Addr} (hp : p.block < B) (u : Value) : Own (w.setCell p u) B v xs := ⟨h.1, ownsRow_setCell_below h.2 hp u⟩
theorem Inner.storeBelow {w : World} {B : Nat} {vs : List Value} {xss : List (List Int)} (h : Inner w B vs xss) {p : Addr} (hp : p.block < B) (u : Value) : Inner (w.setCell p u) B vs xss :=
 ⟨h.1, fun i x hx => (h.2.1 i x hx).storeBelow hp u, h.2.2⟩
def OwnC (w : World) (B : Nat) (v u : Value) (xs : List Int) (xss : List (List Int)) : Prop := ∃ M, B ≤ M ∧ Own w B v xs ∧ In v B M ∧ OwnS w M u xss
theorem OwnS.mono {w : World} {B B' : Nat} {v : Value} {xss : List (List Int)} (h : OwnS w B v xss) (hB : B' ≤ B) : OwnS w B' v xss := by
 obtain ⟨hl, vs, ⟨h1, h2⟩, h3⟩ := h
 refine ⟨hl, vs, ⟨h1, ?_⟩, h3.mono hB⟩
 rcases h2 with h2 | ⟨g, cap, cur, e, hb, r⟩
 · exact .inl h2
 · exact .inr ⟨g, cap, cur, e, by omega, r⟩
theorem OwnS.storeBelow {w : World} {B : Nat} {v : Value} {xss : List (List Int)} (h : OwnS w B v xss) {p : Addr} (hp : p.block < B) (u : Value) : OwnS (w.setCell p u) B v xss := by
 obtain ⟨hl, vs, h1, h3⟩ := h
 exact ⟨hl, vs, ownsRow_setCell_below h1 hp u, h3.storeBelow hp u⟩
theorem OwnC.below {w w' : World} {B B1 : Nat} {v u : Value} {xs : List Int} {xss : List (List Int)} (h : OwnC w B v u xs xss) (hb : Below B1 w w') (hlt : w.heap.size ≤ B1) : OwnC w' B v u xs xss := by
 obtain ⟨M, h1, h2, h3, h4⟩ := h
 exact ⟨M, h1, h2.below hb hlt, h3, h4.below hb hlt⟩
theorem OwnC.storeBelow {w : World} {B : Nat} {v u : Value} {xs : List Int} {xss : List (List Int)} (h : OwnC w B v u xs xss) {p : Addr} (hp : p.block < B) (x : Value) : OwnC (w.setCell p x) B v u xs xss := by
 obtain ⟨M, h1, h2, h3, h4⟩ := h
 exact ⟨M, h1, h2.storeBelow hp x, h3, h4.storeBelow (by omega) x⟩
theorem OwnC.mono {w : World} {B B' : Nat} {v u : Value} {xs : List Int} {xss : List (List Int)} (h : OwnC w B v u xs xss) (hB : B' ≤ B) : OwnC w B' v u xs xss := by
 obtain ⟨M, h1, h2, h3, h4⟩ := h
 exact ⟨M, by omega, h2.mono hB, fun k hk => by have := h3 k hk; omega, h4⟩
theorem nthL_take {xss : List (List Int)} {k i : Nat} (h : i < k) : nthL (xss.take k) i = nthL xss i := by
 simp [nthL, List.getD_eq_getElem?_getD, h]
theorem take_nthL {xss : List (List Int)} {k : Nat} (h : k < xss.length) : xss.take (k + 1) = xss.take k ++ [nthL xss k] := by
 rw [List.take_add_one, nthL_lt h, List.getElem?_eq_getElem h]; rfl
end Go.Proofs.YtkiljcbejmiioaaGreat
namespace Go.Proofs.YtkiljcbejmiioaaGreat
open Go.RowKit
theorem polyAt_in {p : Int} (hp : 2 ≤ p) (k n : Nat) : InR p (polyAt p k n) := InR.app (dig_range (by omega) k) hp
end Go.Proofs.YtkiljcbejmiioaaGreat
namespace Go.Proofs.YtkiljcbejmiioaaGreat
open Go.RowKit
theorem not_all_eq {xs ys : List Int} {k : Nat} (h : (nth xs k != nth ys k) = true) : decide (xs = ys) = false := by
 rw [decide_eq_false_iff_not]
 rintro rfl
 simp at h
theorem all_eq {xs ys : List Int} {k : Nat} (hl : xs.length = ys.length) (hk : ¬ k < xs.length) (h : ∀ j, j < k → nth xs j = nth ys j) : decide (xs = ys) = true := by
 rw [decide_eq_true_eq]
 exact eq_of_nth hl fun i hi => h i (by omega)
def left (k : Int) (n : Nat) : Int := if (n : Int) ≤ k then k - n else -1
end Go.Proofs.YtkiljcbejmiioaaGreat
namespace Go.Proofs.YtkiljcbejmiioaaGreat
open Go.RowKit
theorem not_all_eqL {xs ys : List (List Int)} {k : Nat} (h : nthL xs k ≠ nthL ys k) : decide (xs = ys) = false := by
 rw [decide_eq_false_iff_not]
 rintro rfl
 exact h rfl
theorem all_eqL {xs ys : List (List Int)} {k : Nat} (hl : xs.length = ys.length) (hk : ¬ k < xs.length) (h : ∀ j, j < k → nthL xs j = nthL ys j) : decide (xs = ys) = true := by
 rw [decide_eq_true_eq]
 exact eq_of_nthL hl fun i hi => h i (by omega)
theorem l00Same_any (a b : Option Addr) (c d : Nat) (xs ys : List Int) (w : World) (hx : Rd w a xs) (hy : Rd w b ys) :
    Calls Tryz.prog 124 #[.slice a xs.length c, .slice b ys.length d] w fun e w' => e = .returned (.bool (decide (xs = ys))) ∧ Qt w w' := by
 have hxl := hx.len
 have hyl := hy.len
 by_cases hl : xs.length = ys.length
 · have HL := Lib.hid hl
   generalize hn : ys.length = n at hl hyl
   subst hl
   clear hn
   go_enter Tryz.func124, Tryz.ntmps124
   go_wp2
   go_loopw [5] (fun i wr => ∃ (k q : Nat), i = .int .i64 k ∧ k ≤ xs.length ∧ wr = w.drewN q ∧ Hid (∀ j, j < k → nth xs j = nth ys j)) (fun i _ => xs.length - (intOf i).toNat)
   case atStart => exact ⟨0, 0, rfl, by omega, rfl, fun j hj => by omega⟩
   case round =>
    obtain ⟨k, q, rfl, hk, rfl, hq⟩ := hrel
    by_cases hkl : k < xs.length
    · obtain ⟨b1, o1, rfl, _, hcx⟩ := hx.at_ (by omega)
      obtain ⟨b2, o2, rfl, _, hcy⟩ := hy.at_ (by rw [← HL.out]; omega)
      have hx1 := hcx k hkl
      have hy1 := hcy k (by rw [← HL.out]; omega)
      clear hcx hcy hx hy
      go_wp2_with fail
      go_quiet (fail)
      go_wp2
      · go_ret
        exact ⟨ret_bool (not_all_eq ‹_›).symm, Qt.two _ _ _⟩
      · go_roundw
        case rel =>
         have hne : (nth xs k != nth ys k) = false := by assumption
         refine ⟨k + 1, _, by go_num, by omega, rfl, fun j hj => ?_⟩
         rcases Nat.lt_succ_iff_lt_or_eq.1 hj with h | rfl
         · exact hq.out j h
         · simpa using hne
        case measure => simp [intOf]; omega
    · go_wp2
      go_ret
      exact ⟨ret_bool (all_eq HL.out hkl hq.out).symm, _, rfl⟩
 · have hne : ((xs.length : Int) != (ys.length : Int)) = true := by rw [bne_iff_ne]; omega
   have hd : decide (xs = ys) = false := by rw [decide_eq_false_iff_not]; rintro rfl; exact hl rfl
   have HD := Lib.hid hd
   clear hd
   go_enter Tryz.func124, Tryz.ntmps124
   go_wp2
   go_ret
   exact ⟨ret_bool HD.out.symm, 0, rfl⟩
theorem slicesEqual_any (a b : Option Addr) (c d : Nat) (xs ys : List Int) (w : World) (hx : Rd w a xs) (hy : Rd w b ys) :
    Calls Tryz.prog 96 #[.slice a xs.length c, .slice b ys.length d] w fun e w' => e = .returned (.bool (decide (xs = ys))) ∧ Qt w w' := by
 have hxl := hx.len
 have hyl := hy.len
 by_cases hl : xs.length = ys.length
 · have HL := Lib.hid hl
   generalize hn : ys.length = n at hl hyl
   subst hl
   clear hn
   go_enter Tryz.func96, Tryz.ntmps96
   go_wp2
   go_loopw [13] (fun i wr => ∃ (k q : Nat), i = .int .i64 k ∧ k ≤ xs.length ∧ wr = w.drewN q ∧ Hid (∀ j, j < k → nth xs j = nth ys j)) (fun i _ => xs.length - (intOf i).toNat)
   case atStart => exact ⟨0, 0, rfl, by omega, rfl, fun j hj => by omega⟩
   case round =>
    obtain ⟨k, q, rfl, hk, rfl, hq⟩ := hrel
    by_cases hkl : k < xs.length
    · obtain ⟨b1, o1, rfl, _, hcx⟩ := hx.at_ (by omega)
      obtain ⟨b2, o2, rfl, _, hcy⟩ := hy.at_ (by rw [← HL.out]; omega)
      have hx1 := hcx k hkl
      have hy1 := hcy k (by rw [← HL.out]; omega)
      clear hcx hcy hx hy
      go_wp2_with fail
      go_quiet (fail)
      go_wp2
      · go_ret
        exact ⟨ret_bool (not_all_eq ‹_›).symm, Qt.two _ _ _⟩
      · go_roundw
        case rel =>
         have hne : (nth xs k != nth ys k) = false := by assumption
         refine ⟨k + 1, _, by go_num, by omega, rfl, fun j hj => ?_⟩
         rcases Nat.lt_succ_iff_lt_or_eq.1 hj with h | rfl
         · exact hq.out j h
         · simpa using hne
        case measure => simp [intOf]; omega
    · go_wp2
      go_ret
      exact ⟨ret_bool (all_eq HL.out hkl hq.out).symm, _, rfl⟩
 · have hne : ((xs.length : Int) != (ys.length : Int)) = true := by rw [bne_iff_ne]; omega
   have hd : decide (xs = ys) = false := by rw [decide_eq_false_iff_not]; rintro rfl; exact hl rfl
   have HD := Lib.hid hd
   clear hd
   go_enter Tryz.func96, Tryz.ntmps96
   go_wp2
   go_ret
   exact ⟨ret_bool HD.out.symm, 0, rfl⟩
theorem l10Same_any (a b : Option Addr) (c d : Nat) (xs ys : List (List Int)) (w : World) (hx : RdS w a xs) (hy : RdS w b ys) :
    Calls Tryz.prog 81 #[.slice a xs.length c, .slice b ys.length d] w fun e w' => e = .returned (.bool (decide (xs = ys))) ∧ Qt w w' := by
 have hxl := hx.len
 have hyl := hy.len
 by_cases hl : xs.length = ys.length
 · have HL := Lib.hid hl
   generalize hn : ys.length = n at hl hyl
   subst hl
   clear hn
   go_enter Tryz.func81, Tryz.ntmps81
   go_wp2
   go_loopw [5] (fun i wr => ∃ (k : Nat), i = .int .i64 k ∧ k ≤ xs.length ∧ Hid (Qt w wr) ∧ Hid (∀ j, j < k → nthL xs j = nthL ys j)) (fun i _ => xs.length - (intOf i).toNat)
   case atStart => exact ⟨0, rfl, by omega, Qt.refl _, fun j hj => by omega⟩
   case round =>
    obtain ⟨k, rfl, hk, hQ, hq⟩ := hrel
    by_cases hkl : k < xs.length
    · obtain ⟨b1, o1, rfl, _, hcx⟩ := (hx.below (hQ.out.below _)).at_ (by omega)
      obtain ⟨b2, o2, rfl, _, hcy⟩ := (hy.below (hQ.out.below _)).at_ (by rw [← HL.out]; omega)
      obtain ⟨ai, ci, hx1, rx⟩ := hcx k hkl
      obtain ⟨aj, cj, hy1, ry⟩ := hcy k (by rw [← HL.out]; omega)
      clear hcx hcy hx hy
      have hc := fun n => l00Same_any ai aj ci cj (nthL xs k) (nthL ys k) (wr.drewN n) (rx.drewN n) (ry.drewN n)
      obtain ⟨r, hr⟩ : ∃ r, decide (nthL xs k = nthL ys k) = r := ⟨_, rfl⟩
      rw [hr] at hc
      have HR := Lib.hid hr
      have HC := hide hc
      clear hr hc
      go_wp2_with fail
      go_quiet ((go_at_call 124; exact Calls.quiet_of (unhide HC _)))
      cases r
      · go_wp2
        go_ret
        exact ⟨ret_bool (not_all_eqL (by simpa using HR.out)).symm, hQ.out.trans (Qt.one _ _)⟩
      · go_wp2
        go_roundw
        case rel =>
         refine ⟨k + 1, by go_num, by omega, hQ.out.trans (Qt.one _ _), fun j hj => ?_⟩
         rcases Nat.lt_succ_iff_lt_or_eq.1 hj with h | rfl
         · exact hq.out j h
         · simpa using HR.out
        case measure => simp [intOf]; omega
    · go_wp2
      go_ret
      exact ⟨ret_bool (all_eqL HL.out hkl hq.out).symm, hQ.out⟩
 · have hne : ((xs.length : Int) != (ys.length : Int)) = true := by rw [bne_iff_ne]; omega
   have hd : decide (xs = ys) = false := by rw [decide_eq_false_iff_not]; rintro rfl; exact hl rfl
   have HD := Lib.hid hd
   clear hd
   go_enter Tryz.func81, Tryz.ntmps81
   go_wp2
   go_ret
   exact ⟨ret_bool HD.out.symm, 0, rfl⟩
end Go.Proofs.YtkiljcbejmiioaaGreat
namespace Go.Proofs.YtkiljcbejmiioaaGreat
open Go.RowKit
theorem OwnC.form {w : World} {B : Nat} {v u : Value} {xs : List Int} {xss : List (List Int)} (h : OwnC w B v u xs xss) :
    ∃ a c ra rc, v = .slice a xs.length c ∧ u = .slice ra xss.length rc ∧ Rd w a xs ∧ RdS w ra xss := by
 obtain ⟨M, _, h2, _, h4⟩ := h
 obtain ⟨a, c, e, r, _⟩ := h2.form
 obtain ⟨ra, rc, e', r'⟩ := h4.form
 exact ⟨a, c, ra, rc, e, e', r, r'⟩
end Go.Proofs.YtkiljcbejmiioaaGreat
namespace Go.Proofs.YtkiljcbejmiioaaGreat
open Go.RowKit
theorem equalFuncLists_any (a b : Option Addr) (c d : Nat) (xs ys : List (List Int)) (w : World) (hx : RdS w a xs) (hy : RdS w b ys) :
    Calls Tryz.prog 131 #[.slice a xs.length c, .slice b ys.length d, .func (.func 96) #[] #[]] w fun e w' => e = .returned (.bool (decide (xs = ys))) ∧ Qt w w' := by
 have hxl := hx.len
 have hyl := hy.len
 by_cases hl : xs.length = ys.length
 · have HL := Lib.hid hl
   generalize hn : ys.length = n at hl hyl
   subst hl
   clear hn
   go_enter Tryz.func131, Tryz.ntmps131
   go_wp2
   go_loopw [17] (fun i wr => ∃ (k : Nat), i = .int .i64 k ∧ k ≤ xs.length ∧ Hid (Qt w wr) ∧ Hid (∀ j, j < k → nthL xs j = nthL ys j)) (fun i _ => xs.length - (intOf i).toNat)
   case atStart => exact ⟨0, rfl, by omega, Qt.refl _, fun j hj => by omega⟩
   case round =>
    obtain ⟨k, rfl, hk, hQ, hq⟩ := hrel
    by_cases hkl : k < xs.length
    · obtain ⟨b1, o1, rfl, _, hcx⟩ := (hx.below (hQ.out.below _)).at_ (by omega)
      obtain ⟨b2, o2, rfl, _, hcy⟩ := (hy.below (hQ.out.below _)).at_ (by rw [← HL.out]; omega)
      obtain ⟨ai, ci, hx1, rx⟩ := hcx k hkl
      obtain ⟨aj, cj, hy1, ry⟩ := hcy k (by rw [← HL.out]; omega)
      clear hcx hcy hx hy
      have hc := slicesEqual_any ai aj ci cj (nthL xs k) (nthL ys k) wr rx ry
      obtain ⟨r, hr⟩ : ∃ r, decide (nthL xs k = nthL ys k) = r := ⟨_, rfl⟩
      rw [hr] at hc
      have HR := Lib.hid hr
      have HC := hide hc
      clear hr hc
      go_wp2_with fail
      refine (unhide HC).mono ?_
      rintro e w1 ⟨rfl, q1⟩
      cases r
      · go_wp2
        go_ret
        exact ⟨ret_bool (not_all_eqL (by simpa using HR.out)).symm, hQ.out.trans q1⟩
      · go_wp2
        go_roundw
        case rel =>
         refine ⟨k + 1, by go_num, by omega, hQ.out.trans q1, fun j hj => ?_⟩
         rcases Nat.lt_succ_iff_lt_or_eq.1 hj with h | rfl
         · exact hq.out j h
         · simpa using HR.out
        case measure => simp [intOf]; omega
    · go_wp2
      go_ret
      exact ⟨ret_bool (all_eqL HL.out hkl hq.out).symm, hQ.out⟩
 · have hne : ((xs.length : Int) != (ys.length : Int)) = true := by rw [bne_iff_ne]; omega
   have hd : decide (xs = ys) = false := by rw [decide_eq_false_iff_not]; rintro rfl; exact hl rfl
   have HD := Lib.hid hd
   clear hd
   go_enter Tryz.func131, Tryz.ntmps131
   go_wp2
   go_ret
   exact ⟨ret_bool HD.out.symm, 0, rfl⟩
theorem areSame_any (a b : Option Addr) (c d : Nat) (xs ys : List (List Int)) (w : World) (hx : RdS w a xs) (hy : RdS w b ys) :
    Calls Tryz.prog 90 #[.slice a xs.length c, .slice b ys.length d] w fun e w' => e = .returned (.bool (decide (xs = ys))) ∧ Qt w w' := by
 generalize hr : decide (xs = ys) = r
 have HR := Lib.hid hr
 clear hr
 go_enter Tryz.func90, Tryz.ntmps90
 go_wp2_with fail
 refine (equalFuncLists_any a b c d xs ys w hx hy).mono ?_
 rintro e w1 ⟨rfl, q1⟩
 rw [HR.out]
 go_wp2
 go_ret
 exact ⟨rfl, q1⟩
end Go.Proofs.YtkiljcbejmiioaaGreat
