/-
  Texts joined.
-/
import Derived.Deep.DeepCutAuto
import Derived.Deep.DrawnRows
import Derived.Deep.RegionHeld3
import Derived.Test.YtgfcbmflnldicaaGreatRF1
import Derived.Test.YtgfcbmflnldicaaGreatRF2
set_option linter.unusedVariables false
set_option linter.unusedSimpArgs false
set_option maxRecDepth 100000
set_option maxHeartbeats 40000000
namespace Go.Proofs.YtgfcbmflnldicaaGreat
open Go.RowKit
attribute [local go_sem ↓] Go.wp_at_zero Go.wp_at_succ
def wOf {B : Nat} {a b : World} (_ : Below B a b) : World := b
theorem OwnE.storeBelow {w : World} {B : Nat} {v : Value} {es : List (Int × Int)} (h : OwnE w B v es) {p : Addr} (hp : p.block < B) (u : Value) : OwnE (w.setCell p u) B v es := ⟨h.1, ownsRow_setCell_below h.2 hp u⟩
def OwnG (w : World) (B : Nat) (v u : Value) (xs : List Int) (es : List (Int × Int)) : Prop := ∃ M, B ≤ M ∧ Own w B v xs ∧ In v B M ∧ OwnE w M u es
theorem OwnG.form {w : World} {B : Nat} {v u : Value} {xs : List Int} {es : List (Int × Int)} (h : OwnG w B v u xs es) :
    ∃ a c ra rc, v = .slice a xs.length c ∧ u = .slice ra es.length rc ∧ Rd w a xs ∧ RdE w ra es := by
 obtain ⟨M, _, h2, _, h4⟩ := h
 obtain ⟨a, c, e, r, _⟩ := h2.form
 obtain ⟨ra, rc, e', r', _⟩ := h4.form
 exact ⟨a, c, ra, rc, e, e', r, r'⟩
theorem OwnG.below {w w' : World} {B B1 : Nat} {v u : Value} {xs : List Int} {es : List (Int × Int)} (h : OwnG w B v u xs es) (hb : Below B1 w w') (hlt : w.heap.size ≤ B1) : OwnG w' B v u xs es := by
 obtain ⟨M, h1, h2, h3, h4⟩ := h
 exact ⟨M, h1, h2.below hb hlt, h3, h4.below hb hlt⟩
theorem OwnG.storeBelow {w : World} {B : Nat} {v u : Value} {xs : List Int} {es : List (Int × Int)} (h : OwnG w B v u xs es) {p : Addr} (hp : p.block < B) (x : Value) : OwnG (w.setCell p x) B v u xs es := by
 obtain ⟨M, h1, h2, h3, h4⟩ := h
 exact ⟨M, h1, h2.storeBelow hp x, h3, h4.storeBelow (by omega) x⟩
theorem OwnG.mono {w : World} {B B' : Nat} {v u : Value} {xs : List Int} {es : List (Int × Int)} (h : OwnG w B v u xs es) (hB : B' ≤ B) : OwnG w B' v u xs es := by
 obtain ⟨M, h1, h2, h3, h4⟩ := h
 exact ⟨M, by omega, h2.mono hB, fun k hk => by have := h3 k hk; omega, h4⟩
end Go.Proofs.YtgfcbmflnldicaaGreat
namespace Go.Proofs.YtgfcbmflnldicaaGreat
open Go.RowKit
theorem RdE.kp {w w' : World} {a : Option Addr} {es : List (Int × Int)} (h : RdE w a es) (k : Kp w w' 0 w.heap.size) : RdE w' a es :=
 ⟨h.1, fun h0 => by
  obtain ⟨b, off, rfl, hb, hc⟩ := h.at_ h0
  exact ⟨b, off, rfl, fun i hi => ⟨(cell_block (k.2 b (Nat.zero_le _) hb) _).trans (hc i hi).1, (cell_block (k.2 b (Nat.zero_le _) hb) _).trans (hc i hi).2⟩⟩⟩
def OwnEH (w : World) (B hi : Nat) (v : Value) (es : List (Int × Int)) : Prop := OwnE w B v es ∧ In v B hi
def OwnG2 (w : World) (B : Nat) (v u : Value) (xs : List Int) (es : List (Int × Int)) : Prop := Own w B v xs ∧ OwnE w B u es
def OwnGH (w : World) (B hi : Nat) (v u : Value) (xs : List Int) (es : List (Int × Int)) : Prop := OwnH w B hi v xs ∧ OwnEH w B hi u es
section
variable {w w' : World} {B B' hi : Nat} {v u : Value} {xs : List Int} {es fs : List (Int × Int)}
theorem OwnE.toH (h : OwnE w B v es) : OwnEH w B w.heap.size v es := ⟨h, h.lt⟩
theorem OwnEH.kp (h : OwnEH w B hi v es) (k : Kp w w' B hi) : OwnEH w' B hi v es := ⟨⟨h.1.1, ownsRow_kp h.1.2 h.2 k⟩, h.2⟩
theorem OwnEH.rd {a : Option Addr} {n c : Nat} (h : OwnEH w B hi (.slice a n c) es) : RdE w a es := h.1.rd
theorem OwnEH.rds {a : Option Addr} {n c : Nat} (h : OwnEH w B hi (.slice a n c) es) : RdE w a es := h.1.rd
theorem OwnG.two (h : OwnG w B v u xs es) : OwnG2 w B v u xs es := by
 obtain ⟨M, h1, h2, _, h4⟩ := h
 exact ⟨h2, h4.mono h1⟩
theorem OwnG2.form (h : OwnG2 w B v u xs es) : ∃ a c ra rc, v = .slice a xs.length c ∧ u = .slice ra es.length rc ∧ Rd w a xs ∧ RdE w ra es := by
 obtain ⟨h2, h4⟩ := h
 obtain ⟨a, c, e, r, _⟩ := h2.form
 obtain ⟨ra, rc, e', r', _⟩ := h4.form
 exact ⟨a, c, ra, rc, e, e', r, r'⟩
theorem OwnG2.toH (h : OwnG2 w B v u xs es) (_ : B ≤ w.heap.size) : OwnGH w B w.heap.size v u xs es := ⟨h.1.toH, h.2.toH⟩
theorem OwnGH.kp (h : OwnGH w B hi v u xs es) (k : Kp w w' B hi) : OwnGH w' B hi v u xs es := ⟨h.1.kp k, h.2.kp k⟩
theorem OwnGH.rd {a : Option Addr} {n c : Nat} (h : OwnGH w B hi (.slice a n c) u xs es) : Rd w a xs := h.1.rd
theorem OwnGH.rds {a : Option Addr} {n c : Nat} (h : OwnGH w B hi v (.slice a n c) xs es) : RdE w a es := h.2.rd
theorem OwnGH.len (h : OwnGH w B hi v u xs es) : xs.length ≤ 1073741824 := h.1.1.1
theorem OwnE.grow (h : OwnE w B v es) {row : Option Nat} (hg : w.grownBy w' row) (hne : v.ownBlock = none ∨ v.ownBlock ≠ row) : OwnE w' B v es := ⟨h.1, h.2.kept hg hne⟩
theorem OwnE.slice_form (h : OwnE w B v es) : (v = .slice none 0 0 ∧ es = []) ∨ ∃ g c, v = .slice (some ⟨g, 0, none⟩) es.length c ∧ B ≤ g ∧ g < w.heap.size := by
 have hlt := h.lt
 rcases h.2.2 with ⟨rfl, h0⟩ | ⟨g, cap, cur, rfl, hb, hg, hn, hm, hs, ht⟩
 · exact .inl ⟨rfl, List.eq_nil_of_length_eq_zero h0⟩
 · exact .inr ⟨g, cap, rfl, hlt g rfl⟩
theorem OwnE.ne_ints (h : OwnE w B v es) (o : Own w B' u xs) : v.ownBlock = none ∨ v.ownBlock ≠ u.ownBlock := by
 rcases h.2.2 with ⟨rfl, _⟩ | ⟨g, cap, cur, rfl, _, hg, _⟩
 · exact .inl rfl
 · rcases o.2.2 with ⟨rfl, _⟩ | ⟨g', cap', cur', rfl, _, hg', _⟩
   · exact .inr (by simp [Value.ownBlock])
   · refine .inr fun e => ?_
     simp only [Value.ownBlock, Option.some.injEq] at e
     subst e
     rw [hg] at hg'
     injection hg' with h1
     injection h1 with _ h2
     exact absurd h2 (by decide)
theorem flatE_set (es : List (Int × Int)) {j : Nat} (hj : j < es.length) (x y : Int) : ((flatE es).set (j * 2) (.int .i64 x)).set (j * 2 + 1) (.int .i64 y) = flatE (es.set j (x, y)) := by
 induction es generalizing j with
 | nil => simp at hj
 | cons e es ih =>
  cases j with
  | zero => simp [flatE]
  | succ j =>
   have := ih (j := j) (by simpa using hj)
   have e1 : (j + 1) * 2 = j * 2 + 1 + 1 := by omega
   rw [e1]
   simp only [flatE, List.flatMap_cons, List.set_cons_succ, List.cons_append, List.nil_append] at this ⊢
   rw [← this]
theorem OwnE.set2 {g n c : Nat} (h : OwnE w B (.slice (some ⟨g, 0, none⟩) n c) es) {j : Nat} (hj : j < es.length) (x y : Int) :
    OwnE ((w.setCell ⟨g, j * 2, none⟩ (.int .i64 x)).setCell ⟨g, j * 2 + 1, none⟩ (.int .i64 y)) B (.slice (some ⟨g, 0, none⟩) n c) (es.set j (x, y)) ∧ w.grownBy ((w.setCell ⟨g, j * 2, none⟩ (.int .i64 x)).setCell ⟨g, j * 2 + 1, none⟩ (.int .i64 y)) (some g) := by
 obtain ⟨a', c', e, _⟩ := h.form
 injection e with _ e2 _
 subst e2
 obtain ⟨hl, h⟩ := h
 obtain ⟨h1, h2⟩ := h.stored (j * 2) (.int .i64 x)
 obtain ⟨h3, h4⟩ := h1.stored (j * 2 + 1) (.int .i64 y)
 rw [flatE_set es hj] at h3
 exact ⟨⟨by simpa using hl, by rw [List.length_set]; exact h3⟩, grown_trans_row h2 h4⟩
theorem OwnE.cell {g n c : Nat} (h : OwnE w B (.slice (some ⟨g, 0, none⟩) n c) es) {j : Nat} (hj : j < es.length) : w.cell? ⟨g, j * 2, none⟩ = some (.int .i64 (nthE es j).1) ∧ w.cell? ⟨g, j * 2 + 1, none⟩ = some (.int .i64 (nthE es j).2) := by
 obtain ⟨b, off, e, _, hc⟩ := h.rd.at_ (by omega)
 injection e with e
 injection e with e1 e2 _
 subst e1; subst e2
 have := hc j hj
 rw [Nat.zero_add] at this
 exact this
theorem OwnE.frozen {g n c : Nat} (h : OwnE w B (.slice (some ⟨g, 0, none⟩) n c) es) (j : Nat) : w.frozen? ⟨g, j, none⟩ = false := by
 obtain ⟨a', c', e, _⟩ := h.form
 injection e with _ e2 _
 subst e2
 exact h.2.frozenAt j
end
end Go.Proofs.YtgfcbmflnldicaaGreat
