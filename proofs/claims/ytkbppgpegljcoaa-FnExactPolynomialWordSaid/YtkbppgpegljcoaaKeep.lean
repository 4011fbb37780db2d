/-
  What is kept of memory while marks are laid: predicates with an interval of blocks; marks and what is held, for rows, fields and codes.
-/
import Derived.Test.YtkbppgpegljcoaaSame
namespace Go.Proofs.Ytkbppgpegljcoaa
open Go.RowKit

/-- The blocks from lo up to hi are kept. -/
def Kp (w w' : World) (lo hi : Nat) : Prop := w.heap.size ≤ w'.heap.size ∧ ∀ g, lo ≤ g → g < hi → w'.heap[g]? = w.heap[g]?
/-- Nothing but the blocks from lo up to hi is changed. -/
def Mk (w w' : World) (lo hi : Nat) : Prop := Below lo w w' ∧ ∀ g, hi ≤ g → g < w.heap.size → w'.heap[g]? = w.heap[g]?
section
variable {a b c w w' : World} {lo hi lo' hi' : Nat}
theorem Kp.refl (w : World) (lo hi : Nat) : Kp w w lo hi := ⟨Nat.le_refl _, fun _ _ _ => rfl⟩
theorem Kp.below (h : Below w.heap.size w w') (s : hi ≤ w.heap.size) : Kp w w' lo hi := ⟨h.size, fun g _ hg => h.block g (by omega)⟩
theorem Kp.trans (h : Kp a b lo hi) (k : Kp b c lo hi) : Kp a c lo hi := ⟨Nat.le_trans h.1 k.1, fun g h1 h2 => (k.2 g h1 h2).trans (h.2 g h1 h2)⟩
theorem Kp.sub (h : Kp a b lo hi) (h1 : lo ≤ lo') (h2 : hi' ≤ hi) : Kp a b lo' hi' := ⟨h.1, fun g a b => h.2 g (by omega) (by omega)⟩
theorem Mk.kp (h : Mk w w' lo hi) (d : hi' ≤ lo ∨ hi ≤ lo') (s : hi' ≤ w.heap.size) : Kp w w' lo' hi' :=
  ⟨h.1.size, fun g h1 h2 => by
    rcases d with d | d
    · exact h.1.block g (by omega)
    · exact h.2 g (by omega) (by omega)⟩
theorem Mk.refl (w : World) (lo hi : Nat) : Mk w w lo hi := ⟨Below.refl _ _, fun _ _ _ => rfl⟩
theorem Mk.trans (h : Mk a b lo hi) (k : Mk b c lo hi) : Mk a c lo hi := ⟨h.1.trans k.1, fun g h1 h2 => (k.2 g h1 (by have := h.1.size; omega)).trans (h.2 g h1 h2)⟩
theorem Mk.size (h : Mk w w' lo hi) : w.heap.size ≤ w'.heap.size := h.1.size
theorem Mk.wide (h : Mk w w' lo hi) (h1 : lo' ≤ lo) (h2 : hi ≤ hi') : Mk w w' lo' hi' := ⟨h.1.mono h1, fun g a b => h.2 g (by omega) b⟩
theorem Mk.grown {v : Value} (hg : w.grownBy w' v.ownBlock) (hi_ : In v lo hi) (hlo : lo ≤ w.heap.size) : Mk w w' lo hi :=
  ⟨Below.wrote hg hi_ hlo (Nat.le_refl _), fun g h1 h2 => hg.block g h2 (fun e => by have := hi_ g e.symm; omega)⟩
theorem Mk.alloc (h : Below w.heap.size w w') (h2 : lo ≤ w.heap.size) : Mk w w' lo hi := ⟨h.mono h2, fun g _ hg => h.block g hg⟩
end

theorem cell_block {w w' : World} {g : Nat} (h : w'.heap[g]? = w.heap[g]?) (i : Nat) : w'.cell? ⟨g, i, none⟩ = w.cell? ⟨g, i, none⟩ := by
  simp only [World.cell?]
  rw [h]
theorem Rd.kp {w w' : World} {a : Option Addr} {xs : List Int} (h : Rd w a xs) (k : Kp w w' 0 w.heap.size) : Rd w' a xs :=
  ⟨h.1, fun h0 => by
    obtain ⟨b, off, rfl, hb, hc⟩ := h.at_ h0
    exact ⟨b, off, rfl, fun i hi => (cell_block (k.2 b (Nat.zero_le _) hb) _).trans (hc i hi)⟩⟩
theorem RdS.kp {w w' : World} {a : Option Addr} {xss : List (List Int)} (h : RdS w a xss) (k : Kp w w' 0 w.heap.size) : RdS w' a xss :=
  ⟨h.1, fun h0 => by
    obtain ⟨b, off, rfl, hb, hc⟩ := h.at_ h0
    refine ⟨b, off, rfl, fun i hi => ?_⟩
    obtain ⟨ai, ci, h1, h2⟩ := hc i hi
    exact ⟨ai, ci, (cell_block (k.2 b (Nat.zero_le _) hb) _).trans h1, h2.kp k⟩⟩
theorem Blk.kp {w w' : World} {g : Nat} {t : TypeId} {cs : Array Value} (h : Blk w g t cs) (k : Kp w w' g (g + 1)) : Blk w' g t cs := (k.2 g (Nat.le_refl _) (by omega)).trans h

theorem ownsRow_kp {w w' : World} {B hi e size n : Nat} {v : Value} {vs : List Value} (h : w.ownsRow B e size v n vs) (hv : In v B hi) (k : Kp w w' B hi) : w'.ownsRow B e size v n vs := by
  obtain ⟨h1, h2⟩ := h
  refine ⟨h1, ?_⟩
  rcases h2 with h2 | ⟨g, cap, cur, rfl, hB, hg, r⟩
  · exact .inl h2
  · have := hv g rfl
    exact .inr ⟨g, cap, cur, rfl, hB, (k.2 g this.1 this.2).trans hg, r⟩

/-- A list of the call's own in the blocks from B up to hi. -/
def OwnH (w : World) (B hi : Nat) (v : Value) (xs : List Int) : Prop := Own w B v xs ∧ In v B hi
theorem Own.toH {w : World} {B : Nat} {v : Value} {xs : List Int} (h : Own w B v xs) : OwnH w B w.heap.size v xs := ⟨h, h.lt⟩
theorem OwnH.kp {w w' : World} {B hi : Nat} {v : Value} {xs : List Int} (h : OwnH w B hi v xs) (k : Kp w w' B hi) : OwnH w' B hi v xs := ⟨⟨h.1.1, ownsRow_kp h.1.2 h.2 k⟩, h.2⟩
theorem OwnH.rd {w : World} {B hi : Nat} {a : Option Addr} {n c : Nat} {xs : List Int} (h : OwnH w B hi (.slice a n c) xs) : Rd w a xs := h.1.rd

def Bnd (B hi : Nat) (vs : List Value) : Prop := ∀ (i : Nat) (x : Value), vs[i]? = some x → In x B hi
/-- Rows of the call's own in the blocks from B up to hi. -/
def OwnSH (w : World) (B hi : Nat) (v : Value) (xss : List (List Int)) : Prop :=
  xss.length ≤ 1073741824 ∧ ∃ vs : List Value, w.ownsRow B 25 1 v xss.length vs ∧ Inner w B vs xss ∧ In v B hi ∧ Bnd B hi vs
theorem OwnS.toH {w : World} {B : Nat} {v : Value} {xss : List (List Int)} (h : OwnS w B v xss) : OwnSH w B w.heap.size v xss := by
  obtain ⟨hl, vs, hr, hi⟩ := h
  exact ⟨hl, vs, hr, hi, hr.lt, fun i x hx => (hi.2.1 i x hx).lt⟩
theorem OwnSH.own {w : World} {B hi : Nat} {v : Value} {xss : List (List Int)} (h : OwnSH w B hi v xss) : OwnS w B v xss := by
  obtain ⟨hl, vs, hr, hi, _⟩ := h
  exact ⟨hl, vs, hr, hi⟩
theorem OwnSH.kp {w w' : World} {B hi : Nat} {v : Value} {xss : List (List Int)} (h : OwnSH w B hi v xss) (k : Kp w w' B hi) : OwnSH w' B hi v xss := by
  obtain ⟨hl, vs, hr, hi, hv, hb⟩ := h
  exact ⟨hl, vs, ownsRow_kp hr hv k, ⟨hi.1, fun i x hx => (OwnH.kp (w := w) ⟨hi.2.1 i x hx, hb i x hx⟩ k).1, hi.2.2⟩, hv, hb⟩
theorem OwnSH.rd {w : World} {B hi : Nat} {a : Option Addr} {n c : Nat} {xss : List (List Int)} (h : OwnSH w B hi (.slice a n c) xss) : RdS w a xss := h.own.rd
/-- A field's list and a code's rows in the blocks from B up to hi. -/
def OwnCH (w : World) (B hi : Nat) (v u : Value) (xs : List Int) (xss : List (List Int)) : Prop := ∃ M, B ≤ M ∧ M ≤ hi ∧ OwnH w B M v xs ∧ OwnSH w M hi u xss
theorem OwnC.toH {w : World} {B : Nat} {v u : Value} {xs : List Int} {xss : List (List Int)} (h : OwnC w B v u xs xss) (hM : B ≤ w.heap.size) : OwnCH w B w.heap.size v u xs xss := by
  obtain ⟨M, h1, h2, h3, h4⟩ := h
  by_cases hm : M ≤ w.heap.size
  · exact ⟨M, h1, hm, ⟨h2, h3⟩, h4.toH⟩
  · refine ⟨w.heap.size, hM, Nat.le_refl _, h2.toH, ?_⟩
    obtain ⟨hl, vs, hr, hi⟩ := h4
    have no : ∀ x k, In x M w.heap.size → Value.ownBlock x = some k → False := fun x k h e => by have := h k e; omega
    obtain ⟨r1, r2⟩ := hr
    refine ⟨hl, vs, ⟨r1, ?_⟩, hi.mono (by omega), fun k e => (no _ k (World.ownsRow.lt ⟨r1, r2⟩) e).elim, fun i x hx k e => (no _ k (hi.2.1 i x hx).lt e).elim⟩
    rcases r2 with r2 | ⟨g, cap, cur, e, hb, hg, r⟩
    · exact .inl r2
    · have := (Array.getElem?_eq_some_iff.1 hg).1
      omega
theorem OwnCH.kp {w w' : World} {B hi : Nat} {v u : Value} {xs : List Int} {xss : List (List Int)} (h : OwnCH w B hi v u xs xss) (k : Kp w w' B hi) : OwnCH w' B hi v u xs xss := by
  obtain ⟨M, h1, h2, h3, h4⟩ := h
  exact ⟨M, h1, h2, h3.kp (k.sub (Nat.le_refl _) h2), h4.kp (k.sub h1 (Nat.le_refl _))⟩
theorem OwnCH.rd {w : World} {B hi : Nat} {a b : Option Addr} {n c m d : Nat} {xs : List Int} {xss : List (List Int)} (h : OwnCH w B hi (.slice a n c) (.slice b m d) xs xss) : Rd w a xs := by
  obtain ⟨M, h1, h2, h3, h4⟩ := h
  exact h3.rd
theorem OwnCH.rds {w : World} {B hi : Nat} {a b : Option Addr} {n c m d : Nat} {xs : List Int} {xss : List (List Int)} (h : OwnCH w B hi (.slice a n c) (.slice b m d) xs xss) : RdS w b xss := by
  obtain ⟨M, h1, h2, h3, h4⟩ := h
  exact h4.rd

theorem sum_le_of {ls : List Nat} (h : ∀ n ∈ ls, n ≤ 1073741824) : ls.sum ≤ ls.length * 1073741824 := by
  induction ls with
  | nil => simp
  | cons n ls ih =>
    have h1 := ih (fun m hm => h m (List.mem_cons_of_mem _ hm))
    have h2 := h n List.mem_cons_self
    rw [List.sum_cons, List.length_cons, Nat.add_mul]
    omega
theorem OwnSH.sum {w : World} {B hi : Nat} {v : Value} {xss : List (List Int)} (h : OwnSH w B hi v xss) : (xss.map List.length).sum ≤ 1152921504606846976 := by
  obtain ⟨hl, vs, hr, hin, _⟩ := h
  have h1 : ∀ n ∈ xss.map List.length, n ≤ 1073741824 := by
    intro n hn
    obtain ⟨xs, hx, rfl⟩ := List.mem_map.1 hn
    obtain ⟨i, hi, rfl⟩ := List.getElem_of_mem hx
    have hil : i < vs.length := by rw [hin.1]; exact hi
    have := (hin.2.1 i _ (List.getElem?_eq_getElem hil)).1
    rwa [nthL_lt hi] at this
  have h2 := sum_le_of h1
  rw [List.length_map] at h2
  have h3 : xss.length * 1073741824 ≤ 1073741824 * 1073741824 := Nat.mul_le_mul_right _ hl
  omega
theorem OwnCH.len {w : World} {B hi : Nat} {v u : Value} {xs : List Int} {xss : List (List Int)} (h : OwnCH w B hi v u xs xss) : xs.length ≤ 1073741824 := by
  obtain ⟨M, h1, h2, h3, h4⟩ := h
  exact h3.1.1
theorem OwnCH.sum {w : World} {B hi : Nat} {v u : Value} {xs : List Int} {xss : List (List Int)} (h : OwnCH w B hi v u xs xss) : (xss.map List.length).sum ≤ 1152921504606846976 := by
  obtain ⟨M, h1, h2, h3, h4⟩ := h
  exact h4.sum

/-! ### Marks -/
def markS (k : Int) : List Nat → List (List Int)
  | [] => []
  | n :: ls => marked k n :: markS (k + n) ls
theorem markS_len (k : Int) (ls : List Nat) : (markS k ls).length = ls.length := by
  induction ls generalizing k with
  | nil => rfl
  | cons n ls ih => simp [markS, ih]
theorem markS_nth (k : Int) (ls : List Nat) (i : Nat) (hi : i < ls.length) : nthL (markS k ls) i = marked (k + ((ls.take i).sum : Nat)) (ls.getD i 0) := by
  induction ls generalizing k i with
  | nil => simp at hi
  | cons n ls ih =>
    rcases i with _ | i
    · simp [markS, nthL]
    · have := ih (k + n) i (by simpa using hi)
      simp only [nthL] at this
      simp only [markS, nthL, List.getD_cons_succ, this, List.take_succ_cons, List.sum_cons]
      congr 1; omega
theorem OwnSH.row {w : World} {B hi : Nat} {v : Value} {yss : List (List Int)} (h : OwnSH w B hi v yss) {i : Nat} (hi' : i < yss.length) :
    ∃ a c, OwnH w B hi (.slice a (nthL yss i).length c) (nthL yss i) ∧
      (∀ b off m d, v = .slice (some ⟨b, off, none⟩) m d → w.cell? ⟨b, off + i, none⟩ = some (.slice a (nthL yss i).length c)) ∧
      ∀ w' ys, OwnH w' B hi (.slice a (nthL yss i).length c) ys → ys.length = (nthL yss i).length → w.grownBy w' (Value.ownBlock (.slice a (nthL yss i).length c)) → OwnSH w' B hi v (yss.set i ys) := by
  obtain ⟨hl, vs, hr, hin, hv, hb⟩ := h
  have hil : i < vs.length := by rw [hin.1]; exact hi'
  have hgi := List.getElem?_eq_getElem hil
  have ho := hin.2.1 i _ hgi
  obtain ⟨a, c, e, _, _⟩ := ho.form
  rw [e] at ho
  have hIn := hb i _ hgi
  rw [e] at hIn hgi
  have hne : ∀ k, Value.ownBlock (.slice a (nthL yss i).length c) = some k → v.ownBlock ≠ some k := Own.notSliceBlock hr ho
  refine ⟨a, c, ⟨ho, hIn⟩, ?_, ?_⟩
  · intro b off m d hvv
    have hr2 := hr
    rcases hr.2 with ⟨rfl, _⟩ | ⟨g, cap, cur, rfl, _⟩
    · injection hvv with h0 _ _; cases h0
    · injection hvv with h0 _ _
      injection h0 with h0
      injection h0 with h1 h2
      subst h1; subst h2
      have := hr2.cellAt i (by omega)
      rw [Nat.zero_add, this, hgi]
  intro w' ys ho' hyl hg
  refine ⟨by simpa using hl, vs, ?_, ⟨by simpa using hin.1, fun j x hx => ?_, hin.2.2⟩, hv, hb⟩
  · rw [List.length_set]
    refine hr.kept hg ?_
    rcases hx : v.ownBlock with _ | k
    · exact .inl rfl
    · exact .inr fun e2 => hne k e2.symm hx
  · by_cases hj : j = i
    · subst hj
      rw [hgi] at hx
      injection hx with hx
      subst hx
      have : nthL (yss.set j ys) j = ys := by simp [nthL, hi']
      rw [this]
      exact ho'.1
    · have : nthL (yss.set i ys) j = nthL yss j := by simp [nthL, List.getD_eq_getElem?_getD, List.getElem?_set_ne (Ne.symm hj)]
      rw [this]
      refine (hin.2.1 j x hx).grow hg ?_
      rcases hxb : x.ownBlock with _ | k
      · exact .inl rfl
      · exact .inr fun e2 => hin.2.2 i j _ _ k (Ne.symm hj) hgi hx e2.symm hxb
end Go.Proofs.Ytkbppgpegljcoaa
