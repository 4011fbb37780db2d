/-
  Texts joined.
-/
import Derived.BigQuiet
import Derived.Deep.DeepMust
import Derived.Deep.Draws
import Derived.Deep.OwnRows
import Derived.Deep.QuietTactic
import Derived.Lib.Hide
import Derived.Maps.AppendAt
import Derived.Test.YtgfcbmflnldicaaDoorProg
import Derived.WalkKit
import Derived.WalkLawsBesides
import Derived.WalkSpells

set_option linter.unusedVariables false
set_option linter.unusedSimpArgs false
set_option maxRecDepth 100000
set_option maxHeartbeats 40000000
namespace Go.Proofs.YtgfcbmflnldicaaDoor
open Go.RowKit
theorem Tryd.info_i64 : (Tryd.prog.info? 2).map (fun i => (i.zero, i.size, i.bytes)) = some (some (.int .i64 0), 1, 8) := by kernel_rfl
theorem hide {p : Prop} (h : p) : Hid p := h
theorem unhide {p : Prop} (h : Hid p) : p := h
theorem ret_bool {a b : Bool} (h : a = b) : Ending.returned (.bool a) = Ending.returned (.bool b) := by rw [h]
theorem ret_int {k : IntKind} {a b : Int} (h : a = b) : Ending.returned (.int k a) = Ending.returned (.int k b) := by rw [h]
def Qt (w w' : World) : Prop := ∃ k, w' = w.drewN k
theorem Qt.refl (w : World) : Qt w w := ⟨0, rfl⟩
theorem Qt.two (w : World) (j k : Nat) : Qt w ((w.drewN j).drewN k) := ⟨j + k, by rw [World.drewN_drewN]⟩
theorem Qt.trans {a b c : World} (h : Qt a b) (k : Qt b c) : Qt a c := by
 obtain ⟨m, rfl⟩ := h
 obtain ⟨n, rfl⟩ := k
 exact Qt.two _ _ _
theorem Qt.below {w w' : World} (h : Qt w w') (B : Nat) : Below B w w' := by
 obtain ⟨k, rfl⟩ := h
 exact ⟨rfl, rfl, rfl, Nat.le_refl _, fun _ _ => rfl⟩
def Blk (w : World) (g : Nat) (t : TypeId) (cs : Array Value) : Prop := w.heap[g]? = some (.cells cs t (0, 0))
section
variable {w w' : World} {g : Nat} {t : TypeId} {cs : Array Value}
theorem Blk.lt (h : Blk w g t cs) : g < w.heap.size := (Array.getElem?_eq_some_iff.1 h).1
theorem Blk.cell (h : Blk w g t cs) (i : Nat) : w.cell? ⟨g, i, none⟩ = cs[i]? := cell_of_row w g i cs t (0, 0) h
theorem Blk.frozen (h : Blk w g t cs) (i : Nat) : w.frozen? ⟨g, i, none⟩ = false := frozen_of_row w g i cs t h
theorem Blk.new (w : World) (t : TypeId) (cs : Array Value) {g : Nat} (hg : g = w.heap.size) : Blk (w.alloc (.cells cs t)) g t cs := by subst hg; exact heap_alloc_new w _
theorem Blk.alloc (h : Blk w g t cs) (o : Obj) : Blk (w.alloc o) g t cs := (Below.heap_alloc w o g h.lt).trans h
theorem Blk.below {B : Nat} (h : Blk w g t cs) (hb : Below B w w') (hg : g < B) : Blk w' g t cs := (hb.block g hg).trans h
theorem Blk.drewN (h : Blk w g t cs) (n : Nat) : Blk (w.drewN n) g t cs := h
theorem Blk.set_ (h : Blk w g t cs) (i : Nat) (u : Value) : Blk (w.setCell ⟨g, i, none⟩ u) g t (cs.setIfInBounds i u) := heap_setCell_same w g i cs t u h
theorem Blk.far (h : Blk w g t cs) {p : Addr} (hp : g ≠ p.block) (u : Value) : Blk (w.setCell p u) g t cs := (Below.heap_setCell w p u g hp).trans h
end
def nth (xs : List Int) (i : Nat) : Int := xs.getD i 0
theorem nth_lt {xs : List Int} {i : Nat} (h : i < xs.length) : nth xs i = xs[i] := by simp [nth, h]
theorem eq_of_nth {xs ys : List Int} (hl : xs.length = ys.length) (h : ∀ i, i < xs.length → nth xs i = nth ys i) : xs = ys := by
 apply List.ext_getElem hl
 intro i h1 h2
 have := h i h1
 rwa [nth_lt h1, nth_lt h2] at this
theorem nth_mem {xs : List Int} {k : Nat} (h : k < xs.length) : nth xs k ∈ xs := by rw [nth_lt h]; exact List.getElem_mem h
def Rd (w : World) (a : Option Addr) (xs : List Int) : Prop :=
 xs.length ≤ 1073741824 ∧ (0 < xs.length → ∃ b off, a = some ⟨b, off, none⟩ ∧ ∀ i, i < xs.length → w.cell? ⟨b, off + i, none⟩ = some (.int .i64 (nth xs i)))
section
variable {w w' : World} {a : Option Addr} {xs : List Int} {B : Nat}
theorem Rd.len (h : Rd w a xs) : xs.length ≤ 1073741824 := h.1
theorem Rd.at_ (h : Rd w a xs) (h0 : 0 < xs.length) : ∃ b off, a = some ⟨b, off, none⟩ ∧ b < w.heap.size ∧ ∀ i, i < xs.length → w.cell? ⟨b, off + i, none⟩ = some (.int .i64 (nth xs i)) := by
 obtain ⟨b, off, e, hc⟩ := h.2 h0
 exact ⟨b, off, e, World.block_lt_of_cell? w _ (hc 0 h0), hc⟩
theorem Rd.keep (h : Rd w a xs) (hk : ∀ p : Addr, p.block < w.heap.size → w'.cell? p = w.cell? p) : Rd w' a xs :=
 ⟨h.1, fun h0 => by
  obtain ⟨b, off, e, hb, hc⟩ := h.at_ h0
  exact ⟨b, off, e, fun i hi => (hk _ hb).trans (hc i hi)⟩⟩
theorem Rd.below (h : Rd w a xs) (hb : Below w.heap.size w w') : Rd w' a xs := h.keep fun _ hp => hb.cell hp
theorem Rd.nil (w : World) (a : Option Addr) : Rd w a [] := ⟨by simp, fun h => by simp at h⟩
theorem Rd.drewN (h : Rd w a xs) (k : Nat) : Rd (w.drewN k) a xs := h.keep fun _ _ => by simp
end
def Own (w : World) (B : Nat) (v : Value) (xs : List Int) : Prop :=
 xs.length ≤ 1073741824 ∧ w.ownsRow B 2 1 v xs.length (xs.map (Value.int .i64))
section
variable {w w' : World} {v : Value} {xs : List Int} {B B' : Nat}
theorem Own.form (h : Own w B v xs) : ∃ a c, v = .slice a xs.length c ∧ Rd w a xs ∧ (∀ k, v.ownBlock = some k → B ≤ k ∧ k < w.heap.size) := by
 obtain ⟨hl, h⟩ := h
 have hlt := h.lt
 have h2 := h
 rcases h.2 with ⟨rfl, h0⟩ | ⟨g, cap, cur, rfl, hb, hg, hn, hm, hs, ht⟩
 · exact ⟨none, 0, by rw [h0], ⟨hl, fun hh => by omega⟩, hlt⟩
 · refine ⟨some ⟨g, 0, none⟩, cap, rfl, ⟨hl, fun _ => ⟨g, 0, rfl, fun i hi => ?_⟩⟩, hlt⟩
   rw [Nat.zero_add, h2.cellAt i (by omega), List.getElem?_map, List.getElem?_eq_getElem hi, nth_lt hi]; rfl
theorem Own.rd {a : Option Addr} {n c : Nat} (h : Own w B (.slice a n c) xs) : Rd w a xs := by
 obtain ⟨a', c', e, hr, _⟩ := h.form
 injection e with e1 e2 e3
 subst e1; exact hr
theorem Own.len {a : Option Addr} {n c : Nat} (h : Own w B (.slice a n c) xs) : n = xs.length := by
 obtain ⟨a', c', e, hr, _⟩ := h.form
 injection e with e1 e2 e3
theorem Own.mono (h : Own w B v xs) (hB : B' ≤ B) : Own w B' v xs := by
 obtain ⟨hl, h1, h2⟩ := h
 refine ⟨hl, h1, ?_⟩
 rcases h2 with h2 | ⟨g, cap, cur, e, hb, r⟩
 · exact .inl h2
 · exact .inr ⟨g, cap, cur, e, by omega, r⟩
theorem Own.below {B1 : Nat} (h : Own w B v xs) (hb : Below B1 w w') (hlt : w.heap.size ≤ B1) : Own w' B v xs := by
 obtain ⟨hl, h1, h2⟩ := h
 refine ⟨hl, h1, ?_⟩
 rcases h2 with h2 | ⟨g, cap, cur, e, hB, hg, r⟩
 · exact .inl h2
 · refine .inr ⟨g, cap, cur, e, hB, ?_, r⟩
   rw [hb.block g (by have := (Array.getElem?_eq_some_iff.1 hg).1; omega)]; exact hg
theorem Own.of_rowIs {b n : Nat} {f : Nat → Value} (h : w.rowIs b 2 n f) (hB : B ≤ b) (hn : xs.length = n) (hl : xs.length ≤ 1073741824) (hf : ∀ i, i < n → f i = .int .i64 (nth xs i)) :
    Own w B (.slice (some ⟨b, 0, none⟩) n n) xs := by
 obtain ⟨c, hb, hc, hi⟩ := h
 subst hn
 refine ⟨hl, by simp, .inr ⟨b, _, c, rfl, hB, hb, Nat.le_refl _, by unfold maxLen; omega, by omega, ?_⟩⟩
 apply List.ext_getElem?
 intro i
 rw [Nat.mul_one, List.getElem?_take, List.getElem?_map]
 split
 · rename_i hlt
   rw [Array.getElem?_toList, hi i hlt, hf i hlt, List.getElem?_eq_getElem hlt, nth_lt hlt]; rfl
 · rw [List.getElem?_eq_none (by omega)]; rfl
theorem Own.set {g n c : Nat} (h : Own w B (.slice (some ⟨g, 0, none⟩) n c) xs) (j : Nat) (x : Int) :
    Own (w.setCell ⟨g, j, none⟩ (.int .i64 x)) B (.slice (some ⟨g, 0, none⟩) n c) (xs.set j x) ∧ w.grownBy (w.setCell ⟨g, j, none⟩ (.int .i64 x)) (some g) := by
 have hl := h.len
 subst hl
 obtain ⟨hl, h⟩ := h
 obtain ⟨h1, h2⟩ := h.stored j (.int .i64 x)
 refine ⟨⟨by simpa using hl, ?_⟩, h2⟩
 rw [List.map_set, List.length_set]; exact h1
theorem Own.cell {g n c : Nat} (h : Own w B (.slice (some ⟨g, 0, none⟩) n c) xs) {j : Nat} (hj : j < xs.length) : w.cell? ⟨g, j, none⟩ = some (.int .i64 (nth xs j)) := by
 have hl := h.len
 subst hl
 rw [h.2.cellAt j (by omega), List.getElem?_map, List.getElem?_eq_getElem hj, nth_lt hj]; rfl
theorem Own.frozen {g n c : Nat} (h : Own w B (.slice (some ⟨g, 0, none⟩) n c) xs) (j : Nat) : w.frozen? ⟨g, j, none⟩ = false := by
 have hl := h.len
 subst hl
 exact h.2.frozenAt j
theorem Own.grow (h : Own w B v xs) {row : Option Nat} (hg : w.grownBy w' row) (hne : v.ownBlock = none ∨ v.ownBlock ≠ row) : Own w' B v xs := ⟨h.1, h.2.kept hg hne⟩
theorem Own.lt (h : Own w B v xs) : ∀ k, v.ownBlock = some k → B ≤ k ∧ k < w.heap.size := h.2.lt
theorem Rd.grow {a : Option Addr} (h : Rd w a xs) {row : Option Nat} (hg : w.grownBy w' row) (hne : ∀ p, a = some p → some p.block ≠ row) : Rd w' a xs :=
 ⟨h.1, fun h0 => by
  obtain ⟨b, off, rfl, hb, hc⟩ := h.at_ h0
  exact ⟨b, off, rfl, fun i hi => hg.cell (hc i hi) (hne ⟨b, off, none⟩ rfl)⟩⟩
theorem Own.nil (w : World) (B : Nat) : Own w B (.slice none 0 0) [] := ⟨by simp, World.ownsRow_nil _ _ _ _⟩
end
theorem Rd.alloc {w : World} {a : Option Addr} {xs : List Int} (h : Rd w a xs) (o : Obj) : Rd (w.alloc o) a xs := h.keep fun p hp => World.cell?_alloc_lt w o p hp
theorem Own.alloc {w : World} {B : Nat} {v : Value} {xs : List Int} (h : Own w B v xs) (o : Obj) : Own (w.alloc o) B v xs := ⟨h.1, h.2.alloc o⟩
theorem Own.drewN {w : World} {B : Nat} {v : Value} {xs : List Int} (h : Own w B v xs) (k : Nat) : Own (w.drewN k) B v xs := h
theorem Below.chain {a b c : World} (h : Below a.heap.size a b) (k : Below b.heap.size b c) : Below a.heap.size a c := h.trans (k.mono h.size)
theorem Below.drewn {a : World} (n : Nat) : Below a.heap.size a (a.drewN n) := Qt.below ⟨n, rfl⟩ _
theorem Below.step {B : Nat} {a w w' : World} {v : Value} {xs : List Int} {Bo : Nat} (h : Below B a w) (hg : w.grownBy w' v.ownBlock) (ho : Own w Bo v xs) (hBo : B ≤ Bo) (hB : B ≤ w.heap.size) : Below B a w' :=
 h.grown hg hB (fun k hk => by have := (ho.lt k hk).1; omega)
def In (v : Value) (lo hi : Nat) : Prop := ∀ k, v.ownBlock = some k → lo ≤ k ∧ k < hi
theorem Rd.apart {w w' : World} {a : Option Addr} {xs : List Int} (h : Rd w a xs) {u : Value} (hg : w.grownBy w' u.ownBlock) {n c lo hi lo' hi' : Nat} (ha : 0 < xs.length → In (.slice a n c) lo hi) (hu : In u lo' hi') (hd : hi ≤ lo' ∨ hi' ≤ lo) : Rd w' a xs :=
 ⟨h.1, fun h0 => by
  obtain ⟨b, off, rfl, hb, hc⟩ := h.at_ h0
  refine ⟨b, off, rfl, fun i hi => hg.cell (hc i hi) fun e => ?_⟩
  have h1 := ha h0 b rfl
  have h2 := hu b e.symm
  omega⟩
theorem Own.apart {w w' : World} {B : Nat} {v : Value} {xs : List Int} (h : Own w B v xs) {u : Value} (hg : w.grownBy w' u.ownBlock) {lo hi lo' hi' : Nat} (hv : In v lo hi) (hu : In u lo' hi') (hd : hi ≤ lo' ∨ hi' ≤ lo) : Own w' B v xs :=
 h.grow hg (by
  rcases hx : v.ownBlock with _ | k
  · exact .inl rfl
  · refine .inr fun e => ?_
    have h1 := hv k hx
    have h2 := hu k e.symm
    omega)
theorem Below.wrote {B : Nat} {w w' : World} {u : Value} {lo hi : Nat} (hg : w.grownBy w' u.ownBlock) (hu : In u lo hi) (hB : B ≤ w.heap.size) (hlo : B ≤ lo) : Below B w w' :=
 (Below.refl B w).grown hg hB fun k hk => by have := (hu k hk).1; omega
end Go.Proofs.YtgfcbmflnldicaaDoor
namespace Go.Proofs.YtgfcbmflnldicaaDoor
open Go.RowKit
def InR (p : Int) (xs : List Int) : Prop := ∀ x ∈ xs, 0 ≤ x ∧ x < p
theorem InR.nth {p : Int} {xs : List Int} (h : InR p xs) {i : Nat} (hi : i < xs.length) : 0 ≤ nth xs i ∧ nth xs i < p := h _ (nth_mem hi)
theorem InR.set {p : Int} {xs : List Int} (h : InR p xs) (i : Nat) {v : Int} (hv : 0 ≤ v ∧ v < p) : InR p (xs.set i v) := by
 intro x hx
 rcases List.mem_or_eq_of_mem_set hx with h1 | rfl
 · exact h x h1
 · exact hv
end Go.Proofs.YtgfcbmflnldicaaDoor
namespace Go.Proofs.YtgfcbmflnldicaaDoor
open Go.RowKit
def inB (n lo hi : Int) : Bool := decide (lo ≤ n ∧ n ≤ hi)
theorem inB_yes {n lo hi : Int} (h1 : lo ≤ n) (h2 : n ≤ hi) : inB n lo hi = true := by simp [inB, h1, h2]
theorem inB_no1 {n lo hi : Int} (h1 : ¬ lo ≤ n) : inB n lo hi = false := by simp [inB, h1]
theorem inB_no2 {n lo hi : Int} (h1 : ¬ n ≤ hi) : inB n lo hi = false := by simp [inB, h1]
theorem within_any (n lo hi : Int) (w : World) : Calls Tryd.prog 33 #[.int .i64 n, .int .i64 lo, .int .i64 hi] w fun e w' => e = .returned (.bool (inB n lo hi)) ∧ w = w' := by
 by_cases h1 : lo ≤ n
 · by_cases h2 : n ≤ hi
   · go_enter Tryd.func33, Tryd.ntmps33
     go_wp2
     go_ret
     exact ⟨ret_bool (by simp [inB, h1, h2]), rfl⟩
   · go_enter Tryd.func33, Tryd.ntmps33
     go_wp2
     go_ret
     exact ⟨ret_bool (by rw [inB_no2 (by omega)]), rfl⟩
 · go_enter Tryd.func33, Tryd.ntmps33
   go_wp2
   go_ret
   exact ⟨ret_bool (by rw [inB_no1 (by omega)]), rfl⟩
theorem l00In_any (n lo hi : Int) (w : World) : Calls Tryd.prog 22 #[.int .i64 n, .int .i64 lo, .int .i64 hi] w fun e w' => e = .returned (.bool (inB n lo hi)) ∧ w = w' := by
 by_cases h1 : lo ≤ n
 · by_cases h2 : n ≤ hi
   · go_enter Tryd.func22, Tryd.ntmps22
     go_wp2
     go_ret
     exact ⟨ret_bool (by simp [inB, h1, h2]), rfl⟩
   · go_enter Tryd.func22, Tryd.ntmps22
     go_wp2
     go_ret
     exact ⟨ret_bool (by rw [inB_no2 (by omega)]), rfl⟩
 · go_enter Tryd.func22, Tryd.ntmps22
   go_wp2
   go_ret
   exact ⟨ret_bool (by rw [inB_no1 (by omega)]), rfl⟩
end Go.Proofs.YtgfcbmflnldicaaDoor
namespace Go.Proofs.YtgfcbmflnldicaaDoor
open Go.RowKit
def nthL (xss : List (List Int)) (i : Nat) : List Int := xss.getD i []
def RdS (w : World) (a : Option Addr) (xss : List (List Int)) : Prop :=
 xss.length ≤ 1073741824 ∧ (0 < xss.length → ∃ b off, a = some ⟨b, off, none⟩ ∧ ∀ i, i < xss.length → ∃ ai ci, w.cell? ⟨b, off + i, none⟩ = some (.slice ai (nthL xss i).length ci) ∧ Rd w ai (nthL xss i))
section
variable {w w' : World} {a : Option Addr} {xss : List (List Int)} {B : Nat}
theorem RdS.len (h : RdS w a xss) : xss.length ≤ 1073741824 := h.1
theorem RdS.at_ (h : RdS w a xss) (h0 : 0 < xss.length) : ∃ b off, a = some ⟨b, off, none⟩ ∧ b < w.heap.size ∧ ∀ i, i < xss.length → ∃ ai ci, w.cell? ⟨b, off + i, none⟩ = some (.slice ai (nthL xss i).length ci) ∧ Rd w ai (nthL xss i) := by
 obtain ⟨b, off, e, hc⟩ := h.2 h0
 obtain ⟨_, _, h1, _⟩ := hc 0 h0
 exact ⟨b, off, e, World.block_lt_of_cell? w _ h1, hc⟩
theorem RdS.keep (h : RdS w a xss) (hk : ∀ p : Addr, p.block < w.heap.size → w'.cell? p = w.cell? p) : RdS w' a xss :=
 ⟨h.1, fun h0 => by
  obtain ⟨b, off, e, hb, hc⟩ := h.at_ h0
  refine ⟨b, off, e, fun i hi => ?_⟩
  obtain ⟨ai, ci, h1, h2⟩ := hc i hi
  exact ⟨ai, ci, (hk _ hb).trans h1, h2.keep hk⟩⟩
theorem RdS.below (h : RdS w a xss) (hb : Below w.heap.size w w') : RdS w' a xss := h.keep fun _ hp => hb.cell hp
theorem RdS.nil (w : World) (a : Option Addr) : RdS w a [] := ⟨by simp, fun h => by simp at h⟩
theorem RdS.drewN (h : RdS w a xss) (k : Nat) : RdS (w.drewN k) a xss := h.keep fun _ _ => by simp
theorem RdS.alloc (h : RdS w a xss) (o : Obj) : RdS (w.alloc o) a xss := h.keep fun p hp => World.cell?_alloc_lt w o p hp
end
def Lens (w : World) (a : Option Addr) (ls : List Nat) : Prop :=
 ls.length ≤ maxLen ∧ (∀ n ∈ ls, n ≤ maxLen) ∧ (0 < ls.length → ∃ b off, a = some ⟨b, off, none⟩ ∧ ∀ i, i < ls.length → ∃ ai ci, w.cell? ⟨b, off + i, none⟩ = some (.slice ai (ls.getD i 0) ci))
theorem Lens.keep {w w' : World} {a : Option Addr} {ls : List Nat} (h : Lens w a ls) (hk : ∀ p : Addr, p.block < w.heap.size → w'.cell? p = w.cell? p) : Lens w' a ls :=
 ⟨h.1, h.2.1, fun h0 => by
  obtain ⟨b, off, e, hc⟩ := h.2.2 h0
  refine ⟨b, off, e, fun i hi => ?_⟩
  obtain ⟨ai, ci, h1⟩ := hc i hi
  exact ⟨ai, ci, (hk _ (World.block_lt_of_cell? w _ h1)).trans h1⟩⟩
theorem Lens.alloc {w : World} {a : Option Addr} {ls : List Nat} (h : Lens w a ls) (o : Obj) : Lens (w.alloc o) a ls := h.keep fun p hp => World.cell?_alloc_lt w o p hp
theorem Lens.below {w w' : World} {a : Option Addr} {ls : List Nat} (h : Lens w a ls) (hb : Below w.heap.size w w') : Lens w' a ls := h.keep fun _ hp => hb.cell hp
def Inner (w : World) (B : Nat) (vs : List Value) (xss : List (List Int)) : Prop :=
 vs.length = xss.length ∧ (∀ (i : Nat) (x : Value), vs[i]? = some x → Own w B x (nthL xss i)) ∧
  (∀ (i j : Nat) (x y : Value) (k : Nat), i ≠ j → vs[i]? = some x → vs[j]? = some y → x.ownBlock = some k → y.ownBlock ≠ some k)
def OwnS (w : World) (B : Nat) (v : Value) (xss : List (List Int)) : Prop :=
 xss.length ≤ 1073741824 ∧ ∃ vs : List Value, w.ownsRow B 22 1 v xss.length vs ∧ Inner w B vs xss
section
variable {w w' : World} {B : Nat} {vs : List Value} {xss : List (List Int)}
theorem Inner.nil (w : World) (B : Nat) : Inner w B [] [] := ⟨rfl, by simp, by simp⟩
theorem Inner.below {B1 : Nat} (h : Inner w B vs xss) (hb : Below B1 w w') (hlt : w.heap.size ≤ B1) : Inner w' B vs xss := ⟨h.1, fun i x hx => (h.2.1 i x hx).below hb hlt, h.2.2⟩
theorem Inner.mono {B' : Nat} (h : Inner w B vs xss) (hB : B' ≤ B) : Inner w B' vs xss := ⟨h.1, fun i x hx => (h.2.1 i x hx).mono hB, h.2.2⟩
end
theorem Own.notSliceBlock {w : World} {B B' : Nat} {v x : Value} {n : Nat} {vs : List Value} {xs : List Int} (h : w.ownsRow B 22 1 v n vs) (hx : Own w B' x xs) : ∀ k, x.ownBlock = some k → v.ownBlock ≠ some k := by
 intro k hk hv
 rcases h.2 with ⟨rfl, _⟩ | ⟨g, cap, cur, rfl, _, hg, _⟩
 · simp [Value.ownBlock] at hv
 · rcases hx.2.2 with ⟨rfl, _⟩ | ⟨g', cap', cur', rfl, _, hg', _⟩
   · simp [Value.ownBlock] at hk
   · simp only [Value.ownBlock, Option.some.injEq] at hk hv
     subst hk
     subst hv
     rw [hg] at hg'
     injection hg' with h1
     injection h1 with _ h2
     exact absurd h2 (by decide)
section
variable {w w' : World} {v : Value} {xss : List (List Int)} {B : Nat}
theorem OwnS.form (h : OwnS w B v xss) : ∃ a c, v = .slice a xss.length c ∧ RdS w a xss := by
 obtain ⟨hl, vs, hrow, hvl, hin, _⟩ := h
 have hrow2 := hrow
 rcases hrow.2 with ⟨rfl, h0⟩ | ⟨g, cap, cur, rfl, hb, hg, hn, hm, hs, ht⟩
 · exact ⟨none, 0, by rw [h0], ⟨hl, fun hh => by omega⟩⟩
 · refine ⟨some ⟨g, 0, none⟩, cap, rfl, ⟨hl, fun _ => ⟨g, 0, rfl, fun i hi => ?_⟩⟩⟩
   have hi' : i < vs.length := by omega
   obtain ⟨a, c, e, hr, _⟩ := (hin i vs[i] (List.getElem?_eq_getElem hi')).form
   refine ⟨a, c, ?_, hr⟩
   rw [Nat.zero_add, hrow2.cellAt i (by omega), List.getElem?_eq_getElem hi', ← e]
theorem OwnS.rd {a : Option Addr} {n c : Nat} (h : OwnS w B (.slice a n c) xss) : RdS w a xss := by
 obtain ⟨a', c', e, hr⟩ := h.form
 injection e with e1 e2 e3
 subst e1; exact hr
theorem OwnS.len {a : Option Addr} {n c : Nat} (h : OwnS w B (.slice a n c) xss) : n = xss.length := by
 obtain ⟨a', c', e, hr⟩ := h.form
 injection e with e1 e2 e3
theorem OwnS.nil (w : World) (B : Nat) : OwnS w B (.slice none 0 0) [] :=
 ⟨by simp, [], World.ownsRow_nil _ _ _ _, Inner.nil _ _⟩
theorem ownsRow_below {w w' : World} {B e size n : Nat} {v : Value} {vs : List Value} {B1 : Nat} (h : w.ownsRow B e size v n vs) (hb : Below B1 w w') (hlt : w.heap.size ≤ B1) : w'.ownsRow B e size v n vs := by
 obtain ⟨h1, h2⟩ := h
 refine ⟨h1, ?_⟩
 rcases h2 with h2 | ⟨g, cap, cur, e, hB, hg, r⟩
 · exact .inl h2
 · refine .inr ⟨g, cap, cur, e, hB, ?_, r⟩
   rw [hb.block g (by have := (Array.getElem?_eq_some_iff.1 hg).1; omega)]; exact hg
theorem OwnS.below {B1 : Nat} (h : OwnS w B v xss) (hb : Below B1 w w') (hlt : w.heap.size ≤ B1) : OwnS w' B v xss := by
 obtain ⟨hl, vs, hrow, hin⟩ := h
 exact ⟨hl, vs, ownsRow_below hrow hb hlt, hin.below hb hlt⟩
theorem OwnS.alloc (h : OwnS w B v xss) (o : Obj) : OwnS (w.alloc o) B v xss := h.below ((Below.refl w.heap.size w).alloc (Nat.le_refl _) o) (Nat.le_refl _)
theorem OwnS.drewN (h : OwnS w B v xss) (k : Nat) : OwnS (w.drewN k) B v xss := h.below (Qt.below ⟨k, rfl⟩ w.heap.size) (Nat.le_refl _)
end
theorem OwnS.of_rowIs {w : World} {B b n : Nat} {f : Nat → Value} {vs : List Value} {xss : List (List Int)} (h : w.rowIs b 22 n f) (hB : B ≤ b) (hn : xss.length = n) (hl : xss.length ≤ 1073741824) (hf : ∀ i, i < n → some (f i) = vs[i]?) (hi : Inner w B vs xss) :
    OwnS w B (.slice (some ⟨b, 0, none⟩) n n) xss := by
 obtain ⟨c, hb, hc, hcell⟩ := h
 subst hn
 have hvl := hi.1
 refine ⟨hl, vs, ⟨by omega, .inr ⟨b, _, c, rfl, hB, hb, Nat.le_refl _, by unfold maxLen; omega, by omega, ?_⟩⟩, hi⟩
 apply List.ext_getElem?
 intro i
 rw [Nat.mul_one, List.getElem?_take]
 split
 · rename_i hlt
   rw [Array.getElem?_toList, hcell i hlt, hf i hlt]
 · rw [List.getElem?_eq_none (by omega)]
theorem Own.storeBelow {w : World} {B : Nat} {v : Value} {xs : List Int} (h : Own w B v xs) {p : Addr} (hp : p.block < B) (u : Value) : Own (w.setCell p u) B v xs := ⟨h.1, ownsRow_setCell_below h.2 hp u⟩
theorem Inner.storeBelow {w : World} {B : Nat} {vs : List Value} {xss : List (List Int)} (h : Inner w B vs xss) {p : Addr} (hp : p.block < B) (u : Value) : Inner (w.setCell p u) B vs xss :=
 ⟨h.1, fun i x hx => (h.2.1 i x hx).storeBelow hp u, h.2.2⟩
def OwnC (w : World) (B : Nat) (v u : Value) (xs : List Int) (xss : List (List Int)) : Prop := ∃ M, B ≤ M ∧ Own w B v xs ∧ In v B M ∧ OwnS w M u xss
theorem OwnS.mono {w : World} {B B' : Nat} {v : Value} {xss : List (List Int)} (h : OwnS w B v xss) (hB : B' ≤ B) : OwnS w B' v xss := by
 obtain ⟨hl, vs, ⟨h1, h2⟩, h3⟩ := h
 refine ⟨hl, vs, ⟨h1, ?_⟩, h3.mono hB⟩
 rcases h2 with h2 | ⟨g, cap, cur, e, hb, r⟩
 · exact .inl h2
 · exact .inr ⟨g, cap, cur, e, by omega, r⟩
theorem OwnS.storeBelow {w : World} {B : Nat} {v : Value} {xss : List (List Int)} (h : OwnS w B v xss) {p : Addr} (hp : p.block < B) (u : Value) : OwnS (w.setCell p u) B v xss := by
 obtain ⟨hl, vs, h1, h3⟩ := h
 exact ⟨hl, vs, ownsRow_setCell_below h1 hp u, h3.storeBelow hp u⟩
theorem OwnC.below {w w' : World} {B B1 : Nat} {v u : Value} {xs : List Int} {xss : List (List Int)} (h : OwnC w B v u xs xss) (hb : Below B1 w w') (hlt : w.heap.size ≤ B1) : OwnC w' B v u xs xss := by
 obtain ⟨M, h1, h2, h3, h4⟩ := h
 exact ⟨M, h1, h2.below hb hlt, h3, h4.below hb hlt⟩
theorem OwnC.storeBelow {w : World} {B : Nat} {v u : Value} {xs : List Int} {xss : List (List Int)} (h : OwnC w B v u xs xss) {p : Addr} (hp : p.block < B) (x : Value) : OwnC (w.setCell p x) B v u xs xss := by
 obtain ⟨M, h1, h2, h3, h4⟩ := h
 exact ⟨M, h1, h2.storeBelow hp x, h3, h4.storeBelow (by omega) x⟩
theorem OwnC.mono {w : World} {B B' : Nat} {v u : Value} {xs : List Int} {xss : List (List Int)} (h : OwnC w B v u xs xss) (hB : B' ≤ B) : OwnC w B' v u xs xss := by
 obtain ⟨M, h1, h2, h3, h4⟩ := h
 exact ⟨M, by omega, h2.mono hB, fun k hk => by have := h3 k hk; omega, h4⟩
end Go.Proofs.YtgfcbmflnldicaaDoor
namespace Go.Proofs.YtgfcbmflnldicaaDoor
open Go.RowKit
theorem not_all_eq {xs ys : List Int} {k : Nat} (h : (nth xs k != nth ys k) = true) : decide (xs = ys) = false := by
 rw [decide_eq_false_iff_not]
 rintro rfl
 simp at h
theorem all_eq {xs ys : List Int} {k : Nat} (hl : xs.length = ys.length) (hk : ¬ k < xs.length) (h : ∀ j, j < k → nth xs j = nth ys j) : decide (xs = ys) = true := by
 rw [decide_eq_true_eq]
 exact eq_of_nth hl fun i hi => h i (by omega)
theorem eqInt64S_any (a b : Option Addr) (c d : Nat) (xs ys : List Int) (w : World) (hx : Rd w a xs) (hy : Rd w b ys) :
    Calls Tryd.prog 19 #[.slice a xs.length c, .slice b ys.length d] w fun e w' => e = .returned (.bool (decide (xs = ys))) ∧ Qt w w' := by
 have hxl := hx.len
 have hyl := hy.len
 by_cases hl : xs.length = ys.length
 · have HL := Lib.hid hl
   generalize hn : ys.length = n at hl hyl
   subst hl
   clear hn
   go_enter Tryd.func19, Tryd.ntmps19
   go_wp2
   go_loopw [5] (fun i wr => ∃ (k q : Nat), i = .int .i64 k ∧ k ≤ xs.length ∧ wr = w.drewN q ∧ Hid (∀ j, j < k → nth xs j = nth ys j)) (fun i _ => xs.length - (intOf i).toNat)
   case atStart => exact ⟨0, 0, rfl, by omega, rfl, fun j hj => by omega⟩
   case round =>
    obtain ⟨k, q, rfl, hk, rfl, hq⟩ := hrel
    by_cases hkl : k < xs.length
    · obtain ⟨b1, o1, rfl, _, hcx⟩ := hx.at_ (by omega)
      obtain ⟨b2, o2, rfl, _, hcy⟩ := hy.at_ (by rw [← HL.out]; omega)
      have hx1 := hcx k hkl
      have hy1 := hcy k (by rw [← HL.out]; omega)
      clear hcx hcy hx hy
      go_wp2_with fail
      go_quiet (fail)
      go_wp2
      · go_ret
        exact ⟨ret_bool (not_all_eq ‹_›).symm, Qt.two _ _ _⟩
      · go_roundw
        case rel =>
         have hne : (nth xs k != nth ys k) = false := by assumption
         refine ⟨k + 1, _, by go_num, by omega, rfl, fun j hj => ?_⟩
         rcases Nat.lt_succ_iff_lt_or_eq.1 hj with h | rfl
         · exact hq.out j h
         · simpa using hne
        case measure => simp [intOf]; omega
    · go_wp2
      go_ret
      exact ⟨ret_bool (all_eq HL.out hkl hq.out).symm, _, rfl⟩
 · have hne : ((xs.length : Int) != (ys.length : Int)) = true := by rw [bne_iff_ne]; omega
   have hd : decide (xs = ys) = false := by rw [decide_eq_false_iff_not]; rintro rfl; exact hl rfl
   have HD := Lib.hid hd
   clear hd
   go_enter Tryd.func19, Tryd.ntmps19
   go_wp2
   go_ret
   exact ⟨ret_bool HD.out.symm, 0, rfl⟩
theorem toInt64S_any (a : Option Addr) (c : Nat) (xs : List Int) (w : World) (hx : Rd w a xs) :
    Calls Tryd.prog 13 #[.slice a xs.length c] w fun e w' => ∃ v, e = .returned v ∧ Own w' w.heap.size v xs ∧ Below w.heap.size w w' := by
 have hxl := hx.len
 have hmk := fun W => run_make_row' (P := Tryd.prog) 22 2 (.int .i64 0) 8 Tryd.underlying22 Tryd.info_i64 rfl .i64 .i64 xs.length (by omega) (by omega) W
 go_enter Tryd.func13, Tryd.ntmps13
 go_wp2
 go_loopw [4] (fun i wr => ∃ (k : Nat), i = .int .i64 k ∧ k ≤ xs.length ∧ wr.rowIs w.heap.size 2 xs.length (fun j => if j < k then .int .i64 (nth xs j) else .int .i64 0) ∧ Below w.heap.size w wr) (fun i _ => xs.length - (intOf i).toNat)
 case atStart => exact ⟨0, rfl, by omega, (World.rowIs_made w _ _ _).congr (fun i _ => by simp), (Below.refl _ _).alloc (Nat.le_refl _) _⟩
 case round =>
  obtain ⟨k, rfl, hk, hrow, hb⟩ := hrel
  by_cases hkl : k < xs.length
  · obtain ⟨b1, o1, rfl, hb1, hcx⟩ := hx.at_ (by omega)
    have hx1 := (hb.cell (p := ⟨b1, o1 + k, none⟩) hb1).trans (hcx k hkl)
    have hc1 : ∃ u, wr.cell? ⟨w.heap.size, k, none⟩ = some u := ⟨_, hrow.cell hkl⟩
    obtain ⟨u, hc1⟩ := hc1
    have hf1 := hrow.frozen k
    have HR := Lib.hid hrow
    clear hcx hx hrow hmk
    go_wp2
    go_roundw
    case rel =>
     refine ⟨k + 1, by go_num, by omega, (HR.out.set k _).congr (fun i hi => ?_), hb.setCell (Nat.le_refl _) _⟩
     by_cases h1 : i = k
     · subst h1; simp
     · by_cases h2 : i < k
       · simp [h1, h2, show i < k + 1 by omega]
       · simp [h1, h2, show ¬ i < k + 1 by omega]
    case measure => simp [intOf]; omega
  · have HR := Lib.hid hrow
    clear hrow
    go_wp2
    go_ret
    exact ⟨_, rfl, Own.of_rowIs HR.out (Nat.le_refl _) rfl hxl (fun i hi => by simp [show i < k by omega]), hb⟩
def left (k : Int) (n : Nat) : Int := if (n : Int) ≤ k then k - n else -1
theorem left_yes {k : Int} {n : Nat} (h : (n : Int) ≤ k) : left k n = k - n := if_pos h
theorem left_no {k : Int} {n : Nat} (h : ¬ (n : Int) ≤ k) : left k n = -1 := if_neg h
theorem szInt64S_any (a : Option Addr) (n c : Nat) (k : Int) (w : World) (hn : n ≤ maxLen) (hk0 : 0 ≤ k) (hk1 : k ≤ 1048576) :
    Calls Tryd.prog 9 #[.slice a n c, .int .i64 k] w fun e w' => e = .returned (.int .i64 (left k n)) ∧ w = w' := by
 unfold maxLen at hn
 by_cases h : (n : Int) ≤ k
 · rw [left_yes h]
   go_enter Tryd.func9, Tryd.ntmps9
   go_wp2
   go_ret
   exact ⟨rfl, rfl⟩
 · rw [left_no h]
   go_enter Tryd.func9, Tryd.ntmps9
   go_wp2
   go_ret
   exact ⟨rfl, rfl⟩
end Go.Proofs.YtgfcbmflnldicaaDoor
namespace Go.Proofs.YtgfcbmflnldicaaDoor
open Go.RowKit
theorem OwnC.form {w : World} {B : Nat} {v u : Value} {xs : List Int} {xss : List (List Int)} (h : OwnC w B v u xs xss) :
    ∃ a c ra rc, v = .slice a xs.length c ∧ u = .slice ra xss.length rc ∧ Rd w a xs ∧ RdS w ra xss := by
 obtain ⟨M, _, h2, _, h4⟩ := h
 obtain ⟨a, c, e, r, _⟩ := h2.form
 obtain ⟨ra, rc, e', r'⟩ := h4.form
 exact ⟨a, c, ra, rc, e, e', r, r'⟩
theorem left_add_no {k : Int} {n m : Nat} (h : ¬ (n : Int) ≤ k) : left k (n + m) = -1 := left_no (by omega)
theorem left_add {k : Int} {n m : Nat} (_h : (n : Int) ≤ k) : left k (n + m) = left (k - n) m := by
 unfold left
 by_cases h2 : (m : Int) ≤ k - n
 · rw [if_pos (by omega), if_pos h2]; omega
 · rw [if_neg (by omega), if_neg h2]
end Go.Proofs.YtgfcbmflnldicaaDoor
namespace Go.Proofs.YtgfcbmflnldicaaDoor
open Go.RowKit
theorem size_any (a : Option Addr) (n c : Nat) (w : World) : Calls Tryd.prog 27 #[.slice a n c] w fun e w' => e = .returned (.int .i64 n) ∧ w = w' := by
 go_enter Tryd.func27, Tryd.ntmps27
 go_wp2
 go_ret
 exact ⟨rfl, rfl⟩
def minTo (q : Nat) : Nat → Nat → Nat
 | 0, p => p
 | f + 1, p => if q % p = 0 then p else minTo q f (p + 1)
def spl (p : Nat) : Nat → Nat → Nat → Int × Int
 | 0, _, k => ((p : Int), (k : Int))
 | f + 1, n, k => if 1 < n then (if n % p = 0 then spl p f (n / p) (k + 1) else (0, 0)) else ((p : Int), (k : Int))
def splitN (q : Nat) : Int × Int := spl (minTo q q 2) q q 0
def split (q : Int) : Int × Int := if inB q 2 64 then splitN q.toNat else (0, 0)
end Go.Proofs.YtgfcbmflnldicaaDoor
namespace Go.Proofs.YtgfcbmflnldicaaDoor
open Go.RowKit
def firstOf (p : Int → Bool) (xs : List Int) : Int := match xs.findIdx? p with | some i => (i : Int) | none => -1
theorem firstOf_yes {p : Int → Bool} {xs : List Int} {k : Nat} (hk : k < xs.length) (h : p (nth xs k) = true) (hq : ∀ j, j < k → p (nth xs j) = false) : firstOf p xs = (k : Int) := by
 have : xs.findIdx? p = some k := by
  rw [List.findIdx?_eq_some_iff_getElem]
  refine ⟨hk, by rw [← nth_lt hk]; exact h, fun j hj => ?_⟩
  rw [← nth_lt (by omega : j < xs.length), hq j hj]; simp
 simp [firstOf, this]
theorem firstOf_no {p : Int → Bool} {xs : List Int} (hq : ∀ j, j < xs.length → p (nth xs j) = false) : firstOf p xs = -1 := by
 have : xs.findIdx? p = none := by
  rw [List.findIdx?_eq_none_iff]
  intro x hx
  obtain ⟨j, hj, rfl⟩ := List.getElem_of_mem hx
  rw [← nth_lt hj]
  exact hq j hj
 simp [firstOf, this]
theorem any_firstOf (p : Int → Bool) (xs : List Int) : xs.any p = decide (0 ≤ firstOf p xs) := by
 unfold firstOf
 cases h : xs.findIdx? p with
 | none =>
  rw [List.findIdx?_eq_none_iff] at h
  simpa using h
 | some i =>
  rw [List.findIdx?_eq_some_iff_getElem] at h
  obtain ⟨hi, hp, _⟩ := h
  have : xs.any p = true := List.any_eq_true.2 ⟨_, List.getElem_mem hi, hp⟩
  simp [this]
end Go.Proofs.YtgfcbmflnldicaaDoor
namespace Go.Proofs.YtgfcbmflnldicaaDoor
open Go.RowKit
def Kp (w w' : World) (lo hi : Nat) : Prop := w.heap.size ≤ w'.heap.size ∧ ∀ g, lo ≤ g → g < hi → w'.heap[g]? = w.heap[g]?
def Mk (w w' : World) (lo hi : Nat) : Prop := Below lo w w' ∧ ∀ g, hi ≤ g → g < w.heap.size → w'.heap[g]? = w.heap[g]?
section
variable {a b c w w' : World} {lo hi lo' hi' : Nat}
theorem Kp.refl (w : World) (lo hi : Nat) : Kp w w lo hi := ⟨Nat.le_refl _, fun _ _ _ => rfl⟩
theorem Kp.below (h : Below w.heap.size w w') (s : hi ≤ w.heap.size) : Kp w w' lo hi := ⟨h.size, fun g _ hg => h.block g (by omega)⟩
theorem Kp.trans (h : Kp a b lo hi) (k : Kp b c lo hi) : Kp a c lo hi := ⟨Nat.le_trans h.1 k.1, fun g h1 h2 => (k.2 g h1 h2).trans (h.2 g h1 h2)⟩
theorem Kp.sub (h : Kp a b lo hi) (h1 : lo ≤ lo') (h2 : hi' ≤ hi) : Kp a b lo' hi' := ⟨h.1, fun g a b => h.2 g (by omega) (by omega)⟩
theorem Mk.kp (h : Mk w w' lo hi) (d : hi' ≤ lo ∨ hi ≤ lo') (s : hi' ≤ w.heap.size) : Kp w w' lo' hi' :=
 ⟨h.1.size, fun g h1 h2 => by
  rcases d with d | d
  · exact h.1.block g (by omega)
  · exact h.2 g (by omega) (by omega)⟩
theorem Mk.refl (w : World) (lo hi : Nat) : Mk w w lo hi := ⟨Below.refl _ _, fun _ _ _ => rfl⟩
theorem Mk.trans (h : Mk a b lo hi) (k : Mk b c lo hi) : Mk a c lo hi := ⟨h.1.trans k.1, fun g h1 h2 => (k.2 g h1 (by have := h.1.size; omega)).trans (h.2 g h1 h2)⟩
theorem Mk.size (h : Mk w w' lo hi) : w.heap.size ≤ w'.heap.size := h.1.size
theorem Mk.grown {v : Value} (hg : w.grownBy w' v.ownBlock) (hi_ : In v lo hi) (hlo : lo ≤ w.heap.size) : Mk w w' lo hi :=
 ⟨Below.wrote hg hi_ hlo (Nat.le_refl _), fun g h1 h2 => hg.block g h2 (fun e => by have := hi_ g e.symm; omega)⟩
theorem Mk.alloc (h : Below w.heap.size w w') (h2 : lo ≤ w.heap.size) : Mk w w' lo hi := ⟨h.mono h2, fun g _ hg => h.block g hg⟩
end
theorem cell_block {w w' : World} {g : Nat} (h : w'.heap[g]? = w.heap[g]?) (i : Nat) : w'.cell? ⟨g, i, none⟩ = w.cell? ⟨g, i, none⟩ := by
 simp only [World.cell?]
 rw [h]
theorem Rd.kp {w w' : World} {a : Option Addr} {xs : List Int} (h : Rd w a xs) (k : Kp w w' 0 w.heap.size) : Rd w' a xs :=
 ⟨h.1, fun h0 => by
  obtain ⟨b, off, rfl, hb, hc⟩ := h.at_ h0
  exact ⟨b, off, rfl, fun i hi => (cell_block (k.2 b (Nat.zero_le _) hb) _).trans (hc i hi)⟩⟩
theorem RdS.kp {w w' : World} {a : Option Addr} {xss : List (List Int)} (h : RdS w a xss) (k : Kp w w' 0 w.heap.size) : RdS w' a xss :=
 ⟨h.1, fun h0 => by
  obtain ⟨b, off, rfl, hb, hc⟩ := h.at_ h0
  refine ⟨b, off, rfl, fun i hi => ?_⟩
  obtain ⟨ai, ci, h1, h2⟩ := hc i hi
  exact ⟨ai, ci, (cell_block (k.2 b (Nat.zero_le _) hb) _).trans h1, h2.kp k⟩⟩
theorem Blk.kp {w w' : World} {g : Nat} {t : TypeId} {cs : Array Value} (h : Blk w g t cs) (k : Kp w w' g (g + 1)) : Blk w' g t cs := (k.2 g (Nat.le_refl _) (by omega)).trans h
theorem ownsRow_kp {w w' : World} {B hi e size n : Nat} {v : Value} {vs : List Value} (h : w.ownsRow B e size v n vs) (hv : In v B hi) (k : Kp w w' B hi) : w'.ownsRow B e size v n vs := by
 obtain ⟨h1, h2⟩ := h
 refine ⟨h1, ?_⟩
 rcases h2 with h2 | ⟨g, cap, cur, rfl, hB, hg, r⟩
 · exact .inl h2
 · have := hv g rfl
   exact .inr ⟨g, cap, cur, rfl, hB, (k.2 g this.1 this.2).trans hg, r⟩
def OwnH (w : World) (B hi : Nat) (v : Value) (xs : List Int) : Prop := Own w B v xs ∧ In v B hi
theorem Own.toH {w : World} {B : Nat} {v : Value} {xs : List Int} (h : Own w B v xs) : OwnH w B w.heap.size v xs := ⟨h, h.lt⟩
theorem OwnH.kp {w w' : World} {B hi : Nat} {v : Value} {xs : List Int} (h : OwnH w B hi v xs) (k : Kp w w' B hi) : OwnH w' B hi v xs := ⟨⟨h.1.1, ownsRow_kp h.1.2 h.2 k⟩, h.2⟩
theorem OwnH.rd {w : World} {B hi : Nat} {a : Option Addr} {n c : Nat} {xs : List Int} (h : OwnH w B hi (.slice a n c) xs) : Rd w a xs := h.1.rd
def Bnd (B hi : Nat) (vs : List Value) : Prop := ∀ (i : Nat) (x : Value), vs[i]? = some x → In x B hi
def OwnSH (w : World) (B hi : Nat) (v : Value) (xss : List (List Int)) : Prop :=
 xss.length ≤ 1073741824 ∧ ∃ vs : List Value, w.ownsRow B 22 1 v xss.length vs ∧ Inner w B vs xss ∧ In v B hi ∧ Bnd B hi vs
theorem OwnS.toH {w : World} {B : Nat} {v : Value} {xss : List (List Int)} (h : OwnS w B v xss) : OwnSH w B w.heap.size v xss := by
 obtain ⟨hl, vs, hr, hi⟩ := h
 exact ⟨hl, vs, hr, hi, hr.lt, fun i x hx => (hi.2.1 i x hx).lt⟩
theorem OwnSH.own {w : World} {B hi : Nat} {v : Value} {xss : List (List Int)} (h : OwnSH w B hi v xss) : OwnS w B v xss := by
 obtain ⟨hl, vs, hr, hi, _⟩ := h
 exact ⟨hl, vs, hr, hi⟩
theorem OwnSH.kp {w w' : World} {B hi : Nat} {v : Value} {xss : List (List Int)} (h : OwnSH w B hi v xss) (k : Kp w w' B hi) : OwnSH w' B hi v xss := by
 obtain ⟨hl, vs, hr, hi, hv, hb⟩ := h
 exact ⟨hl, vs, ownsRow_kp hr hv k, ⟨hi.1, fun i x hx => (OwnH.kp (w := w) ⟨hi.2.1 i x hx, hb i x hx⟩ k).1, hi.2.2⟩, hv, hb⟩
theorem OwnSH.rd {w : World} {B hi : Nat} {a : Option Addr} {n c : Nat} {xss : List (List Int)} (h : OwnSH w B hi (.slice a n c) xss) : RdS w a xss := h.own.rd
def OwnCH (w : World) (B hi : Nat) (v u : Value) (xs : List Int) (xss : List (List Int)) : Prop := ∃ M, B ≤ M ∧ M ≤ hi ∧ OwnH w B M v xs ∧ OwnSH w M hi u xss
theorem OwnC.toH {w : World} {B : Nat} {v u : Value} {xs : List Int} {xss : List (List Int)} (h : OwnC w B v u xs xss) (hM : B ≤ w.heap.size) : OwnCH w B w.heap.size v u xs xss := by
 obtain ⟨M, h1, h2, h3, h4⟩ := h
 by_cases hm : M ≤ w.heap.size
 · exact ⟨M, h1, hm, ⟨h2, h3⟩, h4.toH⟩
 · refine ⟨w.heap.size, hM, Nat.le_refl _, h2.toH, ?_⟩
   obtain ⟨hl, vs, hr, hi⟩ := h4
   have no : ∀ x k, In x M w.heap.size → Value.ownBlock x = some k → False := fun x k h e => by have := h k e; omega
   obtain ⟨r1, r2⟩ := hr
   refine ⟨hl, vs, ⟨r1, ?_⟩, hi.mono (by omega), fun k e => (no _ k (World.ownsRow.lt ⟨r1, r2⟩) e).elim, fun i x hx k e => (no _ k (hi.2.1 i x hx).lt e).elim⟩
   rcases r2 with r2 | ⟨g, cap, cur, e, hb, hg, r⟩
   · exact .inl r2
   · have := (Array.getElem?_eq_some_iff.1 hg).1
     omega
theorem OwnCH.kp {w w' : World} {B hi : Nat} {v u : Value} {xs : List Int} {xss : List (List Int)} (h : OwnCH w B hi v u xs xss) (k : Kp w w' B hi) : OwnCH w' B hi v u xs xss := by
 obtain ⟨M, h1, h2, h3, h4⟩ := h
 exact ⟨M, h1, h2, h3.kp (k.sub (Nat.le_refl _) h2), h4.kp (k.sub h1 (Nat.le_refl _))⟩
theorem OwnCH.rd {w : World} {B hi : Nat} {a b : Option Addr} {n c m d : Nat} {xs : List Int} {xss : List (List Int)} (h : OwnCH w B hi (.slice a n c) (.slice b m d) xs xss) : Rd w a xs := by
 obtain ⟨M, h1, h2, h3, h4⟩ := h
 exact h3.rd
theorem OwnCH.rds {w : World} {B hi : Nat} {a b : Option Addr} {n c m d : Nat} {xs : List Int} {xss : List (List Int)} (h : OwnCH w B hi (.slice a n c) (.slice b m d) xs xss) : RdS w b xss := by
 obtain ⟨M, h1, h2, h3, h4⟩ := h
 exact h4.rd
theorem OwnCH.len {w : World} {B hi : Nat} {v u : Value} {xs : List Int} {xss : List (List Int)} (h : OwnCH w B hi v u xs xss) : xs.length ≤ 1073741824 := by
 obtain ⟨M, h1, h2, h3, h4⟩ := h
 exact h3.1.1
theorem OwnSH.row {w : World} {B hi : Nat} {v : Value} {yss : List (List Int)} (h : OwnSH w B hi v yss) {i : Nat} (hi' : i < yss.length) :
    ∃ a c, OwnH w B hi (.slice a (nthL yss i).length c) (nthL yss i) ∧
     (∀ b off m d, v = .slice (some ⟨b, off, none⟩) m d → w.cell? ⟨b, off + i, none⟩ = some (.slice a (nthL yss i).length c)) ∧
     ∀ w' ys, OwnH w' B hi (.slice a (nthL yss i).length c) ys → ys.length = (nthL yss i).length → w.grownBy w' (Value.ownBlock (.slice a (nthL yss i).length c)) → OwnSH w' B hi v (yss.set i ys) := by
 obtain ⟨hl, vs, hr, hin, hv, hb⟩ := h
 have hil : i < vs.length := by rw [hin.1]; exact hi'
 have hgi := List.getElem?_eq_getElem hil
 have ho := hin.2.1 i _ hgi
 obtain ⟨a, c, e, _, _⟩ := ho.form
 rw [e] at ho
 have hIn := hb i _ hgi
 rw [e] at hIn hgi
 have hne : ∀ k, Value.ownBlock (.slice a (nthL yss i).length c) = some k → v.ownBlock ≠ some k := Own.notSliceBlock hr ho
 refine ⟨a, c, ⟨ho, hIn⟩, ?_, ?_⟩
 · intro b off m d hvv
   have hr2 := hr
   rcases hr.2 with ⟨rfl, _⟩ | ⟨g, cap, cur, rfl, _⟩
   · injection hvv with h0 _ _; cases h0
   · injection hvv with h0 _ _
     injection h0 with h0
     injection h0 with h1 h2
     subst h1; subst h2
     have := hr2.cellAt i (by omega)
     rw [Nat.zero_add, this, hgi]
 intro w' ys ho' hyl hg
 refine ⟨by simpa using hl, vs, ?_, ⟨by simpa using hin.1, fun j x hx => ?_, hin.2.2⟩, hv, hb⟩
 · rw [List.length_set]
   refine hr.kept hg ?_
   rcases hx : v.ownBlock with _ | k
   · exact .inl rfl
   · exact .inr fun e2 => hne k e2.symm hx
 · by_cases hj : j = i
   · subst hj
     rw [hgi] at hx
     injection hx with hx
     subst hx
     have : nthL (yss.set j ys) j = ys := by simp [nthL, hi']
     rw [this]
     exact ho'.1
   · have : nthL (yss.set i ys) j = nthL yss j := by simp [nthL, List.getD_eq_getElem?_getD, List.getElem?_set_ne (Ne.symm hj)]
     rw [this]
     refine (hin.2.1 j x hx).grow hg ?_
     rcases hxb : x.ownBlock with _ | k
     · exact .inl rfl
     · exact .inr fun e2 => hin.2.2 i j _ _ k (Ne.symm hj) hgi hx e2.symm hxb
end Go.Proofs.YtgfcbmflnldicaaDoor
