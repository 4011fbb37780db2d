/-
  Texts joined.
-/
import Derived.Laws.Rows
import Derived.Test.YtpglmogoddgmoaaJA1
import Derived.Test.YtpglmogoddgmoaaJA12
set_option linter.unusedVariables false
set_option linter.unusedSimpArgs false
set_option maxRecDepth 100000
set_option maxHeartbeats 40000000
namespace Go.Proofs.Ytpglmogoddgmoaa
open Go.RowKit
structure FD.Good (F : FD) : Prop where
 ok : F.Ok
 spl : split (F.p ^ F.k) = (F.p, (F.k : Int))
end Go.Proofs.Ytpglmogoddgmoaa
namespace Go.Proofs.Ytpglmogoddgmoaa
open Go.RowKit
attribute [local go_sem ↓] Go.wp_at_zero Go.wp_at_succ
section
variable {w w' : World} {B g n c : Nat} {v v' : Value} {yss : List (List Int)} {ys : List Int}
theorem OwnS.appended (h : OwnS w B (.slice (some ⟨g, 0, none⟩) n c) yss) {j : Nat} (hj : j < yss.length) (hv : w.cell? ⟨g, j, none⟩ = some v) (ho : Own w' B v' ys) (hg : w.grownBy w' v.ownBlock) (hb : v'.ownBlock = v.ownBlock ∨ v'.ownBlock = some w.heap.size) :
    OwnS (w'.setCell ⟨g, j, none⟩ v') B (.slice (some ⟨g, 0, none⟩) n c) (yss.set j ys) := by
 have e := h.len
 subst e
 obtain ⟨hl, vs, hr, hin⟩ := h
 have hjl : j < vs.length := by rw [hin.1]; exact hj
 have hvj : vs[j]? = some v := by
  have := hr.cellAt j (by omega)
  rw [hv] at this
  exact this.symm
 have hov := hin.2.1 j v hvj
 have hne : ∀ k, v.ownBlock = some k → (Value.slice (some ⟨g, 0, none⟩) yss.length c).ownBlock ≠ some k := Own.notSliceBlock hr hov
 have hr' := hr.kept hg (by
  rcases hx : v.ownBlock with _ | k
  · right; simp [Value.ownBlock]
  · right
    intro e
    exact hne k hx e)
 obtain ⟨h1, h2⟩ := hr'.stored j v'
 have row : ∀ (x : Value) (B2 : Nat) (xs : List Int), Own w' B2 x xs → Own (w'.setCell ⟨g, j, none⟩ v') B2 x xs := fun x B2 xs hx => row_grow hr' h2 hx
 have old : ∀ (i : Nat) (x : Value), vs[i]? = some x → i ≠ j → Own w' B x (nthL yss i) := fun i x hx hij => (hin.2.1 i x hx).grow hg (by
  rcases hxb : x.ownBlock with _ | k
  · exact .inl rfl
  · exact .inr fun e => hin.2.2 i j x v k hij hx hvj hxb e.symm)
 refine ⟨by simpa using hl, vs.set j v', by rw [List.length_set]; exact h1, by simp [hin.1], fun i x hx => ?_, fun i k x y b hik hx hy hxb hyb => ?_⟩
 · by_cases e : i = j
   · subst e
     rw [List.getElem?_set_self hjl] at hx
     injection hx with hx
     subst hx
     rw [nthL_set_same hj]
     exact row _ _ _ ho
   · rw [List.getElem?_set_ne (Ne.symm e)] at hx
     rw [nthL_set_ne (Ne.symm e)]
     exact row _ _ _ (old i x hx e)
 · have cas : ∀ (q : Nat) (z : Value), (vs.set j v')[q]? = some z → (q = j ∧ z = v') ∨ (q ≠ j ∧ vs[q]? = some z) := fun q z hz => by
     by_cases e : q = j
     · subst e
       rw [List.getElem?_set_self hjl] at hz
       injection hz with hz
       exact .inl ⟨rfl, hz.symm⟩
     · rw [List.getElem?_set_ne (Ne.symm e)] at hz
       exact .inr ⟨e, hz⟩
   have far : ∀ (q : Nat) (z : Value), q ≠ j → vs[q]? = some z → z.ownBlock = some b → v'.ownBlock = some b → False := fun q z hq hz hzb hvb => by
    rcases hb with hb | hb
    · exact hin.2.2 q j z v b hq hz hvj hzb (by rw [← hb]; exact hvb)
    · rw [hb] at hvb
      injection hvb with hvb
      have := ((hin.2.1 q z hz).lt b hzb).2
      omega
   rcases cas i x hx with ⟨e1, e2⟩ | ⟨e1, e2⟩ <;> rcases cas k y hy with ⟨f1, f2⟩ | ⟨f1, f2⟩
   · omega
   · subst e2; exact far k y f1 f2 hyb hxb
   · subst f2; exact far i x e1 e2 hxb hyb
   · exact hin.2.2 i k x y b hik e2 f2 hxb hyb
end
theorem Own.slice_val {w : World} {B : Nat} {v : Value} {xs : List Int} (h : Own w B v xs) : ∃ a c, v = .slice a xs.length c := by
 obtain ⟨a, c, e, _⟩ := h.form
 exact ⟨a, c, e⟩
theorem OwnS.cell_grown {w w' : World} {B g n c : Nat} {v : Value} {yss : List (List Int)} (h : OwnS w B (.slice (some ⟨g, 0, none⟩) n c) yss) {j : Nat} (hj : j < yss.length) (hv : w.cell? ⟨g, j, none⟩ = some v) (hg : w.grownBy w' v.ownBlock) : w'.cell? ⟨g, j, none⟩ = some v ∧ w'.frozen? ⟨g, j, none⟩ = false := by
 have e := h.len
 subst e
 obtain ⟨hl, vs, hr, hin⟩ := h
 have hvj : vs[j]? = some v := by
  have := hr.cellAt j (by omega)
  rw [hv] at this
  exact this.symm
 have hne : ∀ k, v.ownBlock = some k → (Value.slice (some ⟨g, 0, none⟩) yss.length c).ownBlock ≠ some k := Own.notSliceBlock hr (hin.2.1 j v hvj)
 have hr' := hr.kept hg (by
  rcases hx : v.ownBlock with _ | k
  · right; simp [Value.ownBlock]
  · right
    intro e
    exact hne k hx e)
 exact ⟨by rw [hr'.cellAt j (by omega)]; exact hvj, hr'.frozenAt j⟩
theorem OwnS.nils (w : World) {B n : Nat} (hB : B ≤ w.heap.size) (hn : n ≤ 1000000) : OwnS (w.alloc (.cells (madeCells #[.slice none 0 0] n) 24)) B (.slice (some ⟨w.heap.size, 0, none⟩) n n) (List.replicate n []) :=
 OwnS.of_rowIs (vs := List.replicate n (.slice none 0 0)) (World.rowIs_made w _ _ _) hB (by simp) (by simp; omega) (fun i hi => by simp [hi])
  ⟨by simp, fun i x hx => by
   have hi := (List.getElem?_eq_some_iff.1 hx).1
   simp at hi
   simp [hi] at hx
   subst hx
   have e : nthL (List.replicate n ([] : List Int)) i = [] := by simp [nthL, hi]
   rw [e]
   exact Own.nil _ _, fun i j x y k hij hx hy hk => by
   have hi := (List.getElem?_eq_some_iff.1 hx).1
   simp at hi
   simp [hi] at hx
   subst hx
   simp [Value.ownBlock] at hk⟩
def cols (m : List (List Int)) (n : Nat) : List (List Int) := (List.range n).map fun j => m.map fun row => nth row j
end Go.Proofs.Ytpglmogoddgmoaa
