/-
  Predicates on memory: a slice value that reads as a list of integers (Rd), a slice of the call's own that holds a list of integers (Own).
-/
import Derived.Test.YtkbppgpegljcoaaProg
import Derived.WalkKit
import Derived.WalkLawsBesides
import Derived.WalkSpells
import Derived.Deep.Draws
import Derived.Deep.QuietTactic
import Derived.Deep.DeepMust
import Derived.Deep.OwnRows
import Derived.BigQuiet
import Derived.Lib.Hide
import Derived.Maps.AppendAt
namespace Go.Proofs.Ytkbppgpegljcoaa
open Go.RowKit

theorem Try.info_i64 : (Try.prog.info? 2).map (fun i => (i.zero, i.size, i.bytes)) = some (some (.int .i64 0), 1, 8) := by kernel_rfl

theorem hide {p : Prop} (h : p) : Hid p := h
theorem unhide {p : Prop} (h : Hid p) : p := h
theorem ret_bool {a b : Bool} (h : a = b) : Ending.returned (.bool a) = Ending.returned (.bool b) := by rw [h]
theorem ret_int {k : IntKind} {a b : Int} (h : a = b) : Ending.returned (.int k a) = Ending.returned (.int k b) := by rw [h]
theorem ret_ints2 {k j : IntKind} {a b c d : Int} (h1 : a = b) (h2 : c = d) : Ending.returned (.tuple #[.int k a, .int j c]) = Ending.returned (.tuple #[.int k b, .int j d]) := by rw [h1, h2]
/-- Nothing but draws. -/
def Qt (w w' : World) : Prop := ∃ k, w' = w.drewN k
theorem Qt.refl (w : World) : Qt w w := ⟨0, rfl⟩
theorem Qt.one (w : World) (k : Nat) : Qt w (w.drewN k) := ⟨k, rfl⟩
theorem Qt.two (w : World) (j k : Nat) : Qt w ((w.drewN j).drewN k) := ⟨j + k, by rw [World.drewN_drewN]⟩

theorem Qt.trans {a b c : World} (h : Qt a b) (k : Qt b c) : Qt a c := by
  obtain ⟨m, rfl⟩ := h
  obtain ⟨n, rfl⟩ := k
  exact Qt.two _ _ _
theorem Qt.below {w w' : World} (h : Qt w w') (B : Nat) : Below B w w' := by
  obtain ⟨k, rfl⟩ := h
  exact ⟨rfl, rfl, rfl, Nat.le_refl _, fun _ _ => rfl⟩

/-- A block that is known whole. -/
def Blk (w : World) (g : Nat) (t : TypeId) (cs : Array Value) : Prop := w.heap[g]? = some (.cells cs t (0, 0))
section
variable {w w' : World} {g : Nat} {t : TypeId} {cs : Array Value}
theorem Blk.lt (h : Blk w g t cs) : g < w.heap.size := (Array.getElem?_eq_some_iff.1 h).1
theorem Blk.cell (h : Blk w g t cs) (i : Nat) : w.cell? ⟨g, i, none⟩ = cs[i]? := cell_of_row w g i cs t (0, 0) h
theorem Blk.frozen (h : Blk w g t cs) (i : Nat) : w.frozen? ⟨g, i, none⟩ = false := frozen_of_row w g i cs t h
theorem Blk.new (w : World) (t : TypeId) (cs : Array Value) {g : Nat} (hg : g = w.heap.size) : Blk (w.alloc (.cells cs t)) g t cs := by subst hg; exact heap_alloc_new w _
theorem Blk.alloc (h : Blk w g t cs) (o : Obj) : Blk (w.alloc o) g t cs := (Below.heap_alloc w o g h.lt).trans h
theorem Blk.below {B : Nat} (h : Blk w g t cs) (hb : Below B w w') (hg : g < B) : Blk w' g t cs := (hb.block g hg).trans h
theorem Blk.drewN (h : Blk w g t cs) (n : Nat) : Blk (w.drewN n) g t cs := h
theorem Blk.set_ (h : Blk w g t cs) (i : Nat) (u : Value) : Blk (w.setCell ⟨g, i, none⟩ u) g t (cs.setIfInBounds i u) := heap_setCell_same w g i cs t u h
theorem Blk.far (h : Blk w g t cs) {p : Addr} (hp : g ≠ p.block) (u : Value) : Blk (w.setCell p u) g t cs := (Below.heap_setCell w p u g hp).trans h
end

/-- The element of a list at a place: a plain name that the walk leaves alone. -/
def nth (xs : List Int) (i : Nat) : Int := xs.getD i 0

theorem nth_lt {xs : List Int} {i : Nat} (h : i < xs.length) : nth xs i = xs[i] := by simp [nth, h]
theorem nth_of_get? {xs : List Int} {i : Nat} {x : Int} (h : xs[i]? = some x) : nth xs i = x := by simp [nth, h]
theorem take_nth {xs : List Int} {k : Nat} (h : k < xs.length) : xs.take (k + 1) = xs.take k ++ [nth xs k] := by
  rw [List.take_add_one, nth_lt h, List.getElem?_eq_getElem h]; rfl
theorem eq_of_nth {xs ys : List Int} (hl : xs.length = ys.length) (h : ∀ i, i < xs.length → nth xs i = nth ys i) : xs = ys := by
  apply List.ext_getElem hl
  intro i h1 h2
  have := h i h1
  rwa [nth_lt h1, nth_lt h2] at this
theorem nth_mem {xs : List Int} {k : Nat} (h : k < xs.length) : nth xs k ∈ xs := by rw [nth_lt h]; exact List.getElem_mem h

/-- A slice's address from which the integers xs are read. -/
def Rd (w : World) (a : Option Addr) (xs : List Int) : Prop :=
  xs.length ≤ 1073741824 ∧ (0 < xs.length → ∃ b off, a = some ⟨b, off, none⟩ ∧ ∀ i, i < xs.length → w.cell? ⟨b, off + i, none⟩ = some (.int .i64 (nth xs i)))

section
variable {w w' : World} {a : Option Addr} {xs : List Int} {B : Nat}
theorem Rd.len (h : Rd w a xs) : xs.length ≤ 1073741824 := h.1
theorem Rd.at_ (h : Rd w a xs) (h0 : 0 < xs.length) : ∃ b off, a = some ⟨b, off, none⟩ ∧ b < w.heap.size ∧ ∀ i, i < xs.length → w.cell? ⟨b, off + i, none⟩ = some (.int .i64 (nth xs i)) := by
  obtain ⟨b, off, e, hc⟩ := h.2 h0
  exact ⟨b, off, e, World.block_lt_of_cell? w _ (hc 0 h0), hc⟩
theorem Rd.keep (h : Rd w a xs) (hk : ∀ p : Addr, p.block < w.heap.size → w'.cell? p = w.cell? p) : Rd w' a xs :=
  ⟨h.1, fun h0 => by
    obtain ⟨b, off, e, hb, hc⟩ := h.at_ h0
    exact ⟨b, off, e, fun i hi => (hk _ hb).trans (hc i hi)⟩⟩
theorem Rd.below (h : Rd w a xs) (hb : Below w.heap.size w w') : Rd w' a xs := h.keep fun _ hp => hb.cell hp
theorem Rd.nil (w : World) (a : Option Addr) : Rd w a [] := ⟨by simp, fun h => by simp at h⟩
theorem Rd.drewN (h : Rd w a xs) (k : Nat) : Rd (w.drewN k) a xs := h.keep fun _ _ => by simp
end

/-- A slice of the call's own (in blocks from B on) that holds the integers xs. -/
def Own (w : World) (B : Nat) (v : Value) (xs : List Int) : Prop :=
  xs.length ≤ 1073741824 ∧ w.ownsRow B 2 1 v xs.length (xs.map (Value.int .i64))

section
variable {w w' : World} {v : Value} {xs : List Int} {B B' : Nat}
theorem Own.form (h : Own w B v xs) : ∃ a c, v = .slice a xs.length c ∧ Rd w a xs ∧ (∀ k, v.ownBlock = some k → B ≤ k ∧ k < w.heap.size) := by
  obtain ⟨hl, h⟩ := h
  have hlt := h.lt
  have h2 := h
  rcases h.2 with ⟨rfl, h0⟩ | ⟨g, cap, cur, rfl, hb, hg, hn, hm, hs, ht⟩
  · exact ⟨none, 0, by rw [h0], ⟨hl, fun hh => by omega⟩, hlt⟩
  · refine ⟨some ⟨g, 0, none⟩, cap, rfl, ⟨hl, fun _ => ⟨g, 0, rfl, fun i hi => ?_⟩⟩, hlt⟩
    rw [Nat.zero_add, h2.cellAt i (by omega), List.getElem?_map, List.getElem?_eq_getElem hi, nth_lt hi]; rfl
theorem Own.rd {a : Option Addr} {n c : Nat} (h : Own w B (.slice a n c) xs) : Rd w a xs := by
  obtain ⟨a', c', e, hr, _⟩ := h.form
  injection e with e1 e2 e3
  subst e1; exact hr
theorem Own.len {a : Option Addr} {n c : Nat} (h : Own w B (.slice a n c) xs) : n = xs.length := by
  obtain ⟨a', c', e, hr, _⟩ := h.form
  injection e with e1 e2 e3
theorem Own.mono (h : Own w B v xs) (hB : B' ≤ B) : Own w B' v xs := by
  obtain ⟨hl, h1, h2⟩ := h
  refine ⟨hl, h1, ?_⟩
  rcases h2 with h2 | ⟨g, cap, cur, e, hb, r⟩
  · exact .inl h2
  · exact .inr ⟨g, cap, cur, e, by omega, r⟩
/-- Kept where the blocks below B1 are kept. -/
theorem Own.below {B1 : Nat} (h : Own w B v xs) (hb : Below B1 w w') (hlt : w.heap.size ≤ B1) : Own w' B v xs := by
  obtain ⟨hl, h1, h2⟩ := h
  refine ⟨hl, h1, ?_⟩
  rcases h2 with h2 | ⟨g, cap, cur, e, hB, hg, r⟩
  · exact .inl h2
  · refine .inr ⟨g, cap, cur, e, hB, ?_, r⟩
    rw [hb.block g (by have := (Array.getElem?_eq_some_iff.1 hg).1; omega)]; exact hg
theorem Own.of_rowIs {b n : Nat} {f : Nat → Value} (h : w.rowIs b 2 n f) (hB : B ≤ b) (hn : xs.length = n) (hl : xs.length ≤ 1073741824) (hf : ∀ i, i < n → f i = .int .i64 (nth xs i)) :
    Own w B (.slice (some ⟨b, 0, none⟩) n n) xs := by
  obtain ⟨c, hb, hc, hi⟩ := h
  subst hn
  refine ⟨hl, by simp, .inr ⟨b, _, c, rfl, hB, hb, Nat.le_refl _, by unfold maxLen; omega, by omega, ?_⟩⟩
  apply List.ext_getElem?
  intro i
  rw [Nat.mul_one, List.getElem?_take, List.getElem?_map]
  split
  · rename_i hlt
    rw [Array.getElem?_toList, hi i hlt, hf i hlt, List.getElem?_eq_getElem hlt, nth_lt hlt]; rfl
  · rw [List.getElem?_eq_none (by omega)]; rfl
/-- A store into a row of the call's own. -/
theorem Own.set {g n c : Nat} (h : Own w B (.slice (some ⟨g, 0, none⟩) n c) xs) (j : Nat) (x : Int) :
    Own (w.setCell ⟨g, j, none⟩ (.int .i64 x)) B (.slice (some ⟨g, 0, none⟩) n c) (xs.set j x) ∧ w.grownBy (w.setCell ⟨g, j, none⟩ (.int .i64 x)) (some g) := by
  have hl := h.len
  subst hl
  obtain ⟨hl, h⟩ := h
  obtain ⟨h1, h2⟩ := h.stored j (.int .i64 x)
  refine ⟨⟨by simpa using hl, ?_⟩, h2⟩
  rw [List.map_set, List.length_set]; exact h1
theorem Own.cell {g n c : Nat} (h : Own w B (.slice (some ⟨g, 0, none⟩) n c) xs) {j : Nat} (hj : j < xs.length) : w.cell? ⟨g, j, none⟩ = some (.int .i64 (nth xs j)) := by
  have hl := h.len
  subst hl
  rw [h.2.cellAt j (by omega), List.getElem?_map, List.getElem?_eq_getElem hj, nth_lt hj]; rfl
theorem Own.frozen {g n c : Nat} (h : Own w B (.slice (some ⟨g, 0, none⟩) n c) xs) (j : Nat) : w.frozen? ⟨g, j, none⟩ = false := by
  have hl := h.len
  subst hl
  exact h.2.frozenAt j
theorem Own.grow (h : Own w B v xs) {row : Option Nat} (hg : w.grownBy w' row) (hne : v.ownBlock = none ∨ v.ownBlock ≠ row) : Own w' B v xs := ⟨h.1, h.2.kept hg hne⟩
theorem Own.lt (h : Own w B v xs) : ∀ k, v.ownBlock = some k → B ≤ k ∧ k < w.heap.size := h.2.lt
theorem Rd.grow {a : Option Addr} (h : Rd w a xs) {row : Option Nat} (hg : w.grownBy w' row) (hne : ∀ p, a = some p → some p.block ≠ row) : Rd w' a xs :=
  ⟨h.1, fun h0 => by
    obtain ⟨b, off, rfl, hb, hc⟩ := h.at_ h0
    exact ⟨b, off, rfl, fun i hi => hg.cell (hc i hi) (hne ⟨b, off, none⟩ rfl)⟩⟩
theorem Own.slice_form (h : Own w B v xs) : (v = .slice none 0 0 ∧ xs = []) ∨ ∃ g c, v = .slice (some ⟨g, 0, none⟩) xs.length c ∧ B ≤ g ∧ g < w.heap.size := by
  have hlt := h.lt
  rcases h.2.2 with ⟨rfl, h0⟩ | ⟨g, cap, cur, rfl, hb, hg, hn, hm, hs, ht⟩
  · exact .inl ⟨rfl, List.eq_nil_of_length_eq_zero h0⟩
  · exact .inr ⟨g, cap, rfl, hlt g rfl⟩
theorem Own.nil (w : World) (B : Nat) : Own w B (.slice none 0 0) [] := ⟨by simp, World.ownsRow_nil _ _ _ _⟩
theorem grown_refl (w : World) (row : Option Nat) : w.grownBy w row := World.grownBy.refl w row
theorem grown_trans_row {a b c : World} {row : Option Nat} (h : a.grownBy b row) (k : b.grownBy c row) : a.grownBy c row :=
  ⟨k.os.trans h.os, k.tape.trans h.tape, k.output.trans h.output, Nat.le_trans h.size k.size, fun i hi hne => (k.block i (Nat.lt_of_lt_of_le hi h.size) hne).trans (h.block i hi hne)⟩
end

theorem Rd.one (w : World) (y : Int) (t : TypeId) : Rd (w.alloc (.cells #[.int .i64 y] t)) (some ⟨w.heap.size, 0, none⟩) [y] :=
  ⟨by simp, fun _ => ⟨_, _, rfl, fun i hi => by
    obtain rfl : i = 0 := by simpa using hi
    rw [World.cell?_alloc_at _ _ _ _ rfl]; rfl⟩⟩
theorem Rd.alloc {w : World} {a : Option Addr} {xs : List Int} (h : Rd w a xs) (o : Obj) : Rd (w.alloc o) a xs := h.keep fun p hp => World.cell?_alloc_lt w o p hp
theorem Own.alloc {w : World} {B : Nat} {v : Value} {xs : List Int} (h : Own w B v xs) (o : Obj) : Own (w.alloc o) B v xs := ⟨h.1, h.2.alloc o⟩
theorem Own.drewN {w : World} {B : Nat} {v : Value} {xs : List Int} (h : Own w B v xs) (k : Nat) : Own (w.drewN k) B v xs := h

theorem Below.chain {a b c : World} (h : Below a.heap.size a b) (k : Below b.heap.size b c) : Below a.heap.size a c := h.trans (k.mono h.size)
theorem Below.drewn {a : World} (n : Nat) : Below a.heap.size a (a.drewN n) := Qt.below ⟨n, rfl⟩ _
theorem Own.empty (w : World) {B : Nat} (hB : B ≤ w.heap.size) : Own (w.alloc (.cells #[] 2)) B (.slice (some ⟨w.heap.size, 0, none⟩) 0 0) [] :=
  ⟨by simp, World.ownsRow_made w #[] 0 hB (by simp) rfl⟩
theorem Below.step {B : Nat} {a w w' : World} {v : Value} {xs : List Int} {Bo : Nat} (h : Below B a w) (hg : w.grownBy w' v.ownBlock) (ho : Own w Bo v xs) (hBo : B ≤ Bo) (hB : B ≤ w.heap.size) : Below B a w' :=
  h.grown hg hB (fun k hk => by have := (ho.lt k hk).1; omega)

/-- 'append(s, x...)' of integers: s is the call's own, x is read. -/
theorem wpList_append_ints {w : World} {ops : Array Oper} {rest : List Oper} {o : Oper} {a : Act} {Q : Exit → Act → World → Prop} (hgd : o.guard = none) (s x : Operand)
    (ho : o.op = .call { callee := .builtin .append, args := #[s, x], argTypes := #[25, 25] })
    (B : Nat) (v : Value) (xs ys : List Int) (hs : a.eval s = v) (hown : Own w B v xs) (ad : Option Addr) (m c : Nat) (hx : a.eval x = .slice ad m c) (hm : m = ys.length) (hr : Rd w ad ys)
    (hl : xs.length + ys.length ≤ 1073741824) (hB : B ≤ w.heap.size)
    (h : ∀ v' w', Own w' B v' (xs ++ ys) → w.grownBy w' v.ownBlock → (v'.ownBlock = v.ownBlock ∨ v'.ownBlock = some w.heap.size) → wpList Try.prog ops Q rest (a.put o.dst v') w') :
    wpList Try.prog ops Q (o :: rest) a w := by
  obtain ⟨i0, hi0, hz0, hz1, hz2⟩ := info_parts Try.info_i64
  refine wpList_plain hgd fun K hK => ?_
  have key : ∃ v' w', (Builtin.append_ #[25, 25] o.type #[v, .slice ad m c]).run Try.prog w = .ok v' w' ∧ Own w' B v' (xs ++ ys) ∧ w.grownBy w' v.ownBlock ∧ (v'.ownBlock = v.ownBlock ∨ v'.ownBlock = some w.heap.size) := by
    rcases Nat.eq_zero_or_pos ys.length with h0 | h0
    · have hy : ys = [] := List.eq_nil_of_length_eq_zero h0
      subst hy
      simp only [List.length_nil] at hm
      subst hm
      refine ⟨v, w, ?_, by simpa using hown, World.grownBy.refl w _, .inl rfl⟩
      rcases hown.2.2 with ⟨rfl, h0⟩ | ⟨g, cap, cur, rfl, _, _, hnc, _⟩
      · cases ad <;> simp [Builtin.append_, run_underlying Try.underlying25, sizeOf, typeInfo, hi0, Builtin.lenOf, Builtin.firstCells, loadCells, loadCellsFrom]
      · cases ad <;> simp [Builtin.append_, run_underlying Try.underlying25, sizeOf, typeInfo, hi0, Builtin.lenOf, Builtin.firstCells, hnc, storeCells, loadCells, loadCellsFrom]
    · obtain ⟨b, off, rfl, _, hc⟩ := hr.at_ h0
      obtain ⟨v', w', h1, h2, h3, _, h5⟩ := run_append_own_at (P := Try.prog) w B 25 o.type 2 i0 (.int .i64 0) 1 8 Try.underlying25 hi0 hz0 hz1 hz2 rfl (by omega) v xs.length (xs.map (Value.int .i64)) hown.2 ⟨b, off, none⟩ m c (ys.map (Value.int .i64)) (by simp [hm])
        (fun j u hu => by
          have hj : j < ys.length := by
            have := (List.getElem?_eq_some_iff.1 hu).1
            simpa using this
          rw [Addr.add_lit, hc j hj, ← hu, List.getElem?_map, List.getElem?_eq_getElem hj, nth_lt hj]; rfl)
        (ints_oneCell _ _) (by unfold maxLen; omega) (by omega) hB
      exact ⟨v', w', h1, ⟨by simpa using hl, by rw [List.map_append, List.length_append, ← hm]; exact h2⟩, h3, h5⟩
  obtain ⟨v', w', hrun, h2, h3, h4⟩ := key
  unfold Oper.wp execOp
  simp only [ho, resolve, invoke, builtin, Sem.run_bind, Sem.run_pure, Result.andThen_ok, List.map_toArray, List.map_cons, List.map_nil, hs, hx, hrun]
  exact hK _ _ (h v' w' h2 h3 h4)

/-- The blocks in which a slice value may lie. -/
def In (v : Value) (lo hi : Nat) : Prop := ∀ k, v.ownBlock = some k → lo ≤ k ∧ k < hi
theorem Own.in_ {w : World} {B : Nat} {v : Value} {xs : List Int} (h : Own w B v xs) : In v B w.heap.size := h.lt
theorem Rd.in_ {w : World} {a : Option Addr} {xs : List Int} (h : Rd w a xs) (n c : Nat) (h0 : 0 < xs.length) : In (.slice a n c) 0 w.heap.size := by
  obtain ⟨b, off, rfl, hb, _⟩ := h.at_ h0
  intro k hk
  simp only [Value.ownBlock, Option.some.injEq] at hk
  omega
/-- A list that is read is kept where a slice of the call's own, lying elsewhere, was written. -/
theorem Rd.apart {w w' : World} {a : Option Addr} {xs : List Int} (h : Rd w a xs) {u : Value} (hg : w.grownBy w' u.ownBlock) {n c lo hi lo' hi' : Nat} (ha : 0 < xs.length → In (.slice a n c) lo hi) (hu : In u lo' hi') (hd : hi ≤ lo' ∨ hi' ≤ lo) : Rd w' a xs :=
  ⟨h.1, fun h0 => by
    obtain ⟨b, off, rfl, hb, hc⟩ := h.at_ h0
    refine ⟨b, off, rfl, fun i hi => hg.cell (hc i hi) fun e => ?_⟩
    have h1 := ha h0 b rfl
    have h2 := hu b e.symm
    omega⟩
theorem Own.apart {w w' : World} {B : Nat} {v : Value} {xs : List Int} (h : Own w B v xs) {u : Value} (hg : w.grownBy w' u.ownBlock) {lo hi lo' hi' : Nat} (hv : In v lo hi) (hu : In u lo' hi') (hd : hi ≤ lo' ∨ hi' ≤ lo) : Own w' B v xs :=
  h.grow hg (by
    rcases hx : v.ownBlock with _ | k
    · exact .inl rfl
    · refine .inr fun e => ?_
      have h1 := hv k hx
      have h2 := hu k e.symm
      omega)
theorem Below.wrote {B : Nat} {w w' : World} {u : Value} {lo hi : Nat} (hg : w.grownBy w' u.ownBlock) (hu : In u lo hi) (hB : B ≤ w.heap.size) (hlo : B ≤ lo) : Below B w w' :=
  (Below.refl B w).grown hg hB fun k hk => by have := (hu k hk).1; omega

/-! ### Marks -/
def marked (k : Int) (n : Nat) : List Int := (List.range n).map (fun (i : Nat) => k + (i : Int))
theorem marked_len (k : Int) (n : Nat) : (marked k n).length = n := by simp [marked]
theorem marked_succ (k : Int) (n : Nat) : marked k (n + 1) = marked k n ++ [k + (n : Int)] := by simp [marked, List.range_succ]
theorem marked_nth (k : Int) {n i : Nat} (h : i < n) : nth (marked k n) i = k + (i : Int) := by simp [nth, marked, h]
theorem marked_set (k : Int) (xs : List Int) (j : Nat) (hj : j < xs.length) : (marked k j ++ xs.drop j).set j (k + (j : Int)) = marked k (j + 1) ++ xs.drop (j + 1) := by
  rw [List.set_append_right _ _ (by rw [marked_len]; omega), marked_len, Nat.sub_self, marked_succ, List.append_assoc, List.drop_eq_getElem_cons hj]
  rfl
def held (k : Int) (xs : List Int) : Int := if xs = marked k xs.length then k + (xs.length : Int) else -1
theorem held_marked (k : Int) (n : Nat) : held k (marked k n) = k + (n : Int) := by simp [held, marked_len]
theorem held_no {k : Int} {xs : List Int} {j : Nat} (hj : j < xs.length) (h : nth xs j ≠ k + (j : Int)) : held k xs = -1 := by
  unfold held
  rw [if_neg]
  intro e
  apply h
  rw [e, marked_nth k hj]
theorem held_yes {k : Int} {xs : List Int} (h : ∀ j, j < xs.length → nth xs j = k + (j : Int)) : held k xs = k + (xs.length : Int) := by
  unfold held
  rw [if_pos]
  exact eq_of_nth (by rw [marked_len]) fun i hi => by rw [h i hi, marked_nth k hi]

end Go.Proofs.Ytkbppgpegljcoaa
