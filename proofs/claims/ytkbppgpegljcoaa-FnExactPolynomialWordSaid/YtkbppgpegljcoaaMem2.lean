/-
  Predicates on memory: a slice of slices of integers.
-/
import Derived.Test.YtkbppgpegljcoaaMem
namespace Go.Proofs.Ytkbppgpegljcoaa
open Go.RowKit

theorem Try.info_row : (Try.prog.info? 25).map (fun i => (i.zero, i.size, i.bytes)) = some (some (.slice none 0 0), 1, 24) := by kernel_rfl

def nthL (xss : List (List Int)) (i : Nat) : List Int := xss.getD i []
theorem nthL_lt {xss : List (List Int)} {i : Nat} (h : i < xss.length) : nthL xss i = xss[i] := by simp [nthL, h]
theorem nthL_mem {xss : List (List Int)} {i : Nat} (h : i < xss.length) : nthL xss i ∈ xss := by rw [nthL_lt h]; exact List.getElem_mem h
theorem eq_of_nthL {xs ys : List (List Int)} (hl : xs.length = ys.length) (h : ∀ i, i < xs.length → nthL xs i = nthL ys i) : xs = ys := by
  apply List.ext_getElem hl
  intro i h1 h2
  have := h i h1
  rwa [nthL_lt h1, nthL_lt h2] at this

/-- A slice's address from which the lists xss are read. -/
def RdS (w : World) (a : Option Addr) (xss : List (List Int)) : Prop :=
  xss.length ≤ 1073741824 ∧ (0 < xss.length → ∃ b off, a = some ⟨b, off, none⟩ ∧ ∀ i, i < xss.length → ∃ ai ci, w.cell? ⟨b, off + i, none⟩ = some (.slice ai (nthL xss i).length ci) ∧ Rd w ai (nthL xss i))

section
variable {w w' : World} {a : Option Addr} {xss : List (List Int)} {B : Nat}
theorem RdS.len (h : RdS w a xss) : xss.length ≤ 1073741824 := h.1
theorem RdS.at_ (h : RdS w a xss) (h0 : 0 < xss.length) : ∃ b off, a = some ⟨b, off, none⟩ ∧ b < w.heap.size ∧ ∀ i, i < xss.length → ∃ ai ci, w.cell? ⟨b, off + i, none⟩ = some (.slice ai (nthL xss i).length ci) ∧ Rd w ai (nthL xss i) := by
  obtain ⟨b, off, e, hc⟩ := h.2 h0
  obtain ⟨_, _, h1, _⟩ := hc 0 h0
  exact ⟨b, off, e, World.block_lt_of_cell? w _ h1, hc⟩
theorem RdS.keep (h : RdS w a xss) (hk : ∀ p : Addr, p.block < w.heap.size → w'.cell? p = w.cell? p) : RdS w' a xss :=
  ⟨h.1, fun h0 => by
    obtain ⟨b, off, e, hb, hc⟩ := h.at_ h0
    refine ⟨b, off, e, fun i hi => ?_⟩
    obtain ⟨ai, ci, h1, h2⟩ := hc i hi
    exact ⟨ai, ci, (hk _ hb).trans h1, h2.keep hk⟩⟩
theorem RdS.below (h : RdS w a xss) (hb : Below w.heap.size w w') : RdS w' a xss := h.keep fun _ hp => hb.cell hp
theorem RdS.nil (w : World) (a : Option Addr) : RdS w a [] := ⟨by simp, fun h => by simp at h⟩
theorem RdS.drewN (h : RdS w a xss) (k : Nat) : RdS (w.drewN k) a xss := h.keep fun _ _ => by simp
theorem RdS.alloc (h : RdS w a xss) (o : Obj) : RdS (w.alloc o) a xss := h.keep fun p hp => World.cell?_alloc_lt w o p hp
end

/-- A slice whose elements are slices of the lengths ls. -/
def Lens (w : World) (a : Option Addr) (ls : List Nat) : Prop :=
  ls.length ≤ maxLen ∧ (∀ n ∈ ls, n ≤ maxLen) ∧ (0 < ls.length → ∃ b off, a = some ⟨b, off, none⟩ ∧ ∀ i, i < ls.length → ∃ ai ci, w.cell? ⟨b, off + i, none⟩ = some (.slice ai (ls.getD i 0) ci))
theorem Lens.keep {w w' : World} {a : Option Addr} {ls : List Nat} (h : Lens w a ls) (hk : ∀ p : Addr, p.block < w.heap.size → w'.cell? p = w.cell? p) : Lens w' a ls :=
  ⟨h.1, h.2.1, fun h0 => by
    obtain ⟨b, off, e, hc⟩ := h.2.2 h0
    refine ⟨b, off, e, fun i hi => ?_⟩
    obtain ⟨ai, ci, h1⟩ := hc i hi
    exact ⟨ai, ci, (hk _ (World.block_lt_of_cell? w _ h1)).trans h1⟩⟩
theorem Lens.alloc {w : World} {a : Option Addr} {ls : List Nat} (h : Lens w a ls) (o : Obj) : Lens (w.alloc o) a ls := h.keep fun p hp => World.cell?_alloc_lt w o p hp
theorem Lens.below {w w' : World} {a : Option Addr} {ls : List Nat} (h : Lens w a ls) (hb : Below w.heap.size w w') : Lens w' a ls := h.keep fun _ hp => hb.cell hp

/-- The rows vs hold the lists xss, in blocks from B on, each in a block of its own. -/
def Inner (w : World) (B : Nat) (vs : List Value) (xss : List (List Int)) : Prop :=
  vs.length = xss.length ∧ (∀ (i : Nat) (x : Value), vs[i]? = some x → Own w B x (nthL xss i)) ∧
    (∀ (i j : Nat) (x y : Value) (k : Nat), i ≠ j → vs[i]? = some x → vs[j]? = some y → x.ownBlock = some k → y.ownBlock ≠ some k)
/-- Slices of slices of the call's own: the outer row and the inner rows lie in blocks from B on, each in a block of its own. -/
def OwnS (w : World) (B : Nat) (v : Value) (xss : List (List Int)) : Prop :=
  xss.length ≤ 1073741824 ∧ ∃ vs : List Value, w.ownsRow B 25 1 v xss.length vs ∧ Inner w B vs xss

section
variable {w w' : World} {B : Nat} {vs : List Value} {xss : List (List Int)}
theorem Inner.nil (w : World) (B : Nat) : Inner w B [] [] := ⟨rfl, by simp, by simp⟩
theorem Inner.below {B1 : Nat} (h : Inner w B vs xss) (hb : Below B1 w w') (hlt : w.heap.size ≤ B1) : Inner w' B vs xss := ⟨h.1, fun i x hx => (h.2.1 i x hx).below hb hlt, h.2.2⟩
theorem Inner.mono {B' : Nat} (h : Inner w B vs xss) (hB : B' ≤ B) : Inner w B' vs xss := ⟨h.1, fun i x hx => (h.2.1 i x hx).mono hB, h.2.2⟩
theorem Inner.push {x : Value} {xs : List Int} (h : Inner w B vs xss) (hb : Below w.heap.size w w') (hB : B ≤ w.heap.size) (ho : Own w' w.heap.size x xs) : Inner w' B (vs ++ [x]) (xss ++ [xs]) := by
  obtain ⟨h1, h2, h3⟩ := h
  refine ⟨by simp [h1], fun i y hy => ?_, fun i j y z k hij hy hz hk => ?_⟩
  · rcases Nat.lt_or_ge i vs.length with hi | hi
    · rw [List.getElem?_append_left hi] at hy
      have := (h2 i y hy).below hb (Nat.le_refl _)
      rwa [nthL, List.getD_eq_getElem?_getD, List.getElem?_append_left (by omega), ← List.getD_eq_getElem?_getD, ← nthL]
    · have hi2 := (List.getElem?_eq_some_iff.1 hy).1
      simp at hi2
      obtain rfl : i = vs.length := by omega
      simp at hy
      subst hy
      have e : nthL (xss ++ [xs]) vs.length = xs := by simp [nthL, h1]
      rw [e]
      exact ho.mono hB
  · have old : ∀ (i : Nat) (y : Value) (k : Nat), i < vs.length → (vs ++ [x])[i]? = some y → y.ownBlock = some k → k < w.heap.size := fun i y k hi hy hk => by
      rw [List.getElem?_append_left hi] at hy
      exact ((h2 i y hy).lt k hk).2
    have new : ∀ (i : Nat) (y : Value) (k : Nat), ¬ i < vs.length → (vs ++ [x])[i]? = some y → i = vs.length ∧ (y.ownBlock = some k → w.heap.size ≤ k) := fun i y k hi hy => by
      have hi2 := (List.getElem?_eq_some_iff.1 hy).1
      simp at hi2
      obtain rfl : i = vs.length := by omega
      simp at hy
      subst hy
      exact ⟨rfl, fun hk => (ho.lt k hk).1⟩
    intro hzk
    by_cases hi : i < vs.length <;> by_cases hj : j < vs.length
    · rw [List.getElem?_append_left hi] at hy
      rw [List.getElem?_append_left hj] at hz
      exact h3 i j y z k hij hy hz hk hzk
    · have a1 := old i y k hi hy hk
      have a2 := (new j z k hj hz).2 hzk
      omega
    · have a1 := old j z k hj hz hzk
      have a2 := (new i y k hi hy).2 hk
      omega
    · have a1 := (new i y k hi hy).1
      have a2 := (new j z k hj hz).1
      omega
end

theorem Own.notSliceBlock {w : World} {B B' : Nat} {v x : Value} {n : Nat} {vs : List Value} {xs : List Int} (h : w.ownsRow B 25 1 v n vs) (hx : Own w B' x xs) : ∀ k, x.ownBlock = some k → v.ownBlock ≠ some k := by
  intro k hk hv
  rcases h.2 with ⟨rfl, _⟩ | ⟨g, cap, cur, rfl, _, hg, _⟩
  · simp [Value.ownBlock] at hv
  · rcases hx.2.2 with ⟨rfl, _⟩ | ⟨g', cap', cur', rfl, _, hg', _⟩
    · simp [Value.ownBlock] at hk
    · simp only [Value.ownBlock, Option.some.injEq] at hk hv
      subst hk
      subst hv
      rw [hg] at hg'
      injection hg' with h1
      injection h1 with _ h2
      exact absurd h2 (by decide)

section
variable {w w' : World} {v : Value} {xss : List (List Int)} {B : Nat}
theorem OwnS.form (h : OwnS w B v xss) : ∃ a c, v = .slice a xss.length c ∧ RdS w a xss := by
  obtain ⟨hl, vs, hrow, hvl, hin, _⟩ := h
  have hrow2 := hrow
  rcases hrow.2 with ⟨rfl, h0⟩ | ⟨g, cap, cur, rfl, hb, hg, hn, hm, hs, ht⟩
  · exact ⟨none, 0, by rw [h0], ⟨hl, fun hh => by omega⟩⟩
  · refine ⟨some ⟨g, 0, none⟩, cap, rfl, ⟨hl, fun _ => ⟨g, 0, rfl, fun i hi => ?_⟩⟩⟩
    have hi' : i < vs.length := by omega
    obtain ⟨a, c, e, hr, _⟩ := (hin i vs[i] (List.getElem?_eq_getElem hi')).form
    refine ⟨a, c, ?_, hr⟩
    rw [Nat.zero_add, hrow2.cellAt i (by omega), List.getElem?_eq_getElem hi', ← e]
theorem OwnS.rd {a : Option Addr} {n c : Nat} (h : OwnS w B (.slice a n c) xss) : RdS w a xss := by
  obtain ⟨a', c', e, hr⟩ := h.form
  injection e with e1 e2 e3
  subst e1; exact hr
theorem OwnS.len {a : Option Addr} {n c : Nat} (h : OwnS w B (.slice a n c) xss) : n = xss.length := by
  obtain ⟨a', c', e, hr⟩ := h.form
  injection e with e1 e2 e3
theorem OwnS.nil (w : World) (B : Nat) : OwnS w B (.slice none 0 0) [] :=
  ⟨by simp, [], World.ownsRow_nil _ _ _ _, Inner.nil _ _⟩
theorem OwnS.empty (w : World) {B : Nat} (hB : B ≤ w.heap.size) : OwnS (w.alloc (.cells #[] 25)) B (.slice (some ⟨w.heap.size, 0, none⟩) 0 0) [] :=
  ⟨by simp, [], World.ownsRow_made w #[] 0 hB (by simp) rfl, Inner.nil _ _⟩
/-- Kept where the blocks below B1 are kept. -/
theorem ownsRow_below {w w' : World} {B e size n : Nat} {v : Value} {vs : List Value} {B1 : Nat} (h : w.ownsRow B e size v n vs) (hb : Below B1 w w') (hlt : w.heap.size ≤ B1) : w'.ownsRow B e size v n vs := by
  obtain ⟨h1, h2⟩ := h
  refine ⟨h1, ?_⟩
  rcases h2 with h2 | ⟨g, cap, cur, e, hB, hg, r⟩
  · exact .inl h2
  · refine .inr ⟨g, cap, cur, e, hB, ?_, r⟩
    rw [hb.block g (by have := (Array.getElem?_eq_some_iff.1 hg).1; omega)]; exact hg
theorem OwnS.below {B1 : Nat} (h : OwnS w B v xss) (hb : Below B1 w w') (hlt : w.heap.size ≤ B1) : OwnS w' B v xss := by
  obtain ⟨hl, vs, hrow, hin⟩ := h
  exact ⟨hl, vs, ownsRow_below hrow hb hlt, hin.below hb hlt⟩
theorem OwnS.alloc (h : OwnS w B v xss) (o : Obj) : OwnS (w.alloc o) B v xss := h.below ((Below.refl w.heap.size w).alloc (Nat.le_refl _) o) (Nat.le_refl _)
theorem OwnS.drewN (h : OwnS w B v xss) (k : Nat) : OwnS (w.drewN k) B v xss := h.below (Qt.below ⟨k, rfl⟩ w.heap.size) (Nat.le_refl _)
end
theorem OwnS.of_rowIs {w : World} {B b n : Nat} {f : Nat → Value} {vs : List Value} {xss : List (List Int)} (h : w.rowIs b 25 n f) (hB : B ≤ b) (hn : xss.length = n) (hl : xss.length ≤ 1073741824) (hf : ∀ i, i < n → some (f i) = vs[i]?) (hi : Inner w B vs xss) :
    OwnS w B (.slice (some ⟨b, 0, none⟩) n n) xss := by
  obtain ⟨c, hb, hc, hcell⟩ := h
  subst hn
  have hvl := hi.1
  refine ⟨hl, vs, ⟨by omega, .inr ⟨b, _, c, rfl, hB, hb, Nat.le_refl _, by unfold maxLen; omega, by omega, ?_⟩⟩, hi⟩
  apply List.ext_getElem?
  intro i
  rw [Nat.mul_one, List.getElem?_take]
  split
  · rename_i hlt
    rw [Array.getElem?_toList, hcell i hlt, hf i hlt]
  · rw [List.getElem?_eq_none (by omega)]
theorem Own.storeBelow {w : World} {B : Nat} {v : Value} {xs : List Int} (h : Own w B v xs) {p : Addr} (hp : p.block < B) (u : Value) : Own (w.setCell p u) B v xs := ⟨h.1, ownsRow_setCell_below h.2 hp u⟩
theorem Inner.storeBelow {w : World} {B : Nat} {vs : List Value} {xss : List (List Int)} (h : Inner w B vs xss) {p : Addr} (hp : p.block < B) (u : Value) : Inner (w.setCell p u) B vs xss :=
  ⟨h.1, fun i x hx => (h.2.1 i x hx).storeBelow hp u, h.2.2⟩
/-- A field's list and a code's rows, of the call's own, the rows behind the list. -/
def OwnC (w : World) (B : Nat) (v u : Value) (xs : List Int) (xss : List (List Int)) : Prop := ∃ M, B ≤ M ∧ Own w B v xs ∧ In v B M ∧ OwnS w M u xss
theorem Inner.mono' {w : World} {B B' : Nat} {vs : List Value} {xss : List (List Int)} (h : Inner w B vs xss) (hB : B' ≤ B) : Inner w B' vs xss := h.mono hB
theorem OwnS.mono {w : World} {B B' : Nat} {v : Value} {xss : List (List Int)} (h : OwnS w B v xss) (hB : B' ≤ B) : OwnS w B' v xss := by
  obtain ⟨hl, vs, ⟨h1, h2⟩, h3⟩ := h
  refine ⟨hl, vs, ⟨h1, ?_⟩, h3.mono hB⟩
  rcases h2 with h2 | ⟨g, cap, cur, e, hb, r⟩
  · exact .inl h2
  · exact .inr ⟨g, cap, cur, e, by omega, r⟩
theorem OwnS.storeBelow {w : World} {B : Nat} {v : Value} {xss : List (List Int)} (h : OwnS w B v xss) {p : Addr} (hp : p.block < B) (u : Value) : OwnS (w.setCell p u) B v xss := by
  obtain ⟨hl, vs, h1, h3⟩ := h
  exact ⟨hl, vs, ownsRow_setCell_below h1 hp u, h3.storeBelow hp u⟩
theorem OwnC.below {w w' : World} {B B1 : Nat} {v u : Value} {xs : List Int} {xss : List (List Int)} (h : OwnC w B v u xs xss) (hb : Below B1 w w') (hlt : w.heap.size ≤ B1) : OwnC w' B v u xs xss := by
  obtain ⟨M, h1, h2, h3, h4⟩ := h
  exact ⟨M, h1, h2.below hb hlt, h3, h4.below hb hlt⟩
theorem OwnC.storeBelow {w : World} {B : Nat} {v u : Value} {xs : List Int} {xss : List (List Int)} (h : OwnC w B v u xs xss) {p : Addr} (hp : p.block < B) (x : Value) : OwnC (w.setCell p x) B v u xs xss := by
  obtain ⟨M, h1, h2, h3, h4⟩ := h
  exact ⟨M, h1, h2.storeBelow hp x, h3, h4.storeBelow (by omega) x⟩
theorem OwnC.mono {w : World} {B B' : Nat} {v u : Value} {xs : List Int} {xss : List (List Int)} (h : OwnC w B v u xs xss) (hB : B' ≤ B) : OwnC w B' v u xs xss := by
  obtain ⟨M, h1, h2, h3, h4⟩ := h
  exact ⟨M, by omega, h2.mono hB, fun k hk => by have := h3 k hk; omega, h4⟩
theorem nthL_take {xss : List (List Int)} {k i : Nat} (h : i < k) : nthL (xss.take k) i = nthL xss i := by
  simp [nthL, List.getD_eq_getElem?_getD, h]
theorem take_nthL {xss : List (List Int)} {k : Nat} (h : k < xss.length) : xss.take (k + 1) = xss.take k ++ [nthL xss k] := by
  rw [List.take_add_one, nthL_lt h, List.getElem?_eq_getElem h]; rfl
end Go.Proofs.Ytkbppgpegljcoaa
