/-
  Texts joined.
-/
import Derived.Laws.Rows
import Derived.Test.YtgfcbmflnldicaaGreatRF1
import Derived.Test.YtgfcbmflnldicaaGreatRF11
import Derived.Test.YtgfcbmflnldicaaGreatRF12
set_option linter.unusedVariables false
set_option linter.unusedSimpArgs false
set_option maxRecDepth 100000
set_option maxHeartbeats 40000000
namespace Go.Proofs.YtgfcbmflnldicaaGreat
open Go.RowKit
structure FD.Good (F : FD) : Prop where
 ok : F.Ok
 spl : split (F.p ^ F.k) = (F.p, (F.k : Int))
end Go.Proofs.YtgfcbmflnldicaaGreat
namespace Go.Proofs.YtgfcbmflnldicaaGreat
open Go.RowKit
def FD.inv (F : FD) (a : Int) : Int := ((((List.range F.n).find? (fun (b : Nat) => F.mul a b == 1)).getD 0 : Nat) : Int)
section
variable {F : FD}
end
end Go.Proofs.YtgfcbmflnldicaaGreat
namespace Go.Proofs.YtgfcbmflnldicaaGreat
open Go.RowKit
attribute [local go_sem ↓] Go.wp_at_zero Go.wp_at_succ
def scale (F : FD) (c : Int) (xs : List Int) : List Int := xs.map (F.mul c)
def less (F : FD) (v w : List Int) (c : Int) : List Int := (List.range v.length).map fun (i : Nat) => F.sub (nth v i) (F.mul c (nth w i))
end Go.Proofs.YtgfcbmflnldicaaGreat
namespace Go.Proofs.YtgfcbmflnldicaaGreat
open Go.RowKit
def pivAt (rows : List (List Int)) (c t : Nat) : Nat := ((List.range rows.length).find? (fun i => decide (t ≤ i) && (nth (nthL rows i) c != 0))).getD rows.length
section
variable (F : FD) (c t : Nat)
def elimTo (rows : List (List Int)) : Nat → List (List Int)
 | 0 => rows
 | j + 1 => if j = t then elimTo rows j else (elimTo rows j).set j (less F (nthL rows j) (nthL rows t) (nth (nthL rows j) c))
def topped (rows : List (List Int)) (i : Nat) : List (List Int) := (rows.set i (nthL rows t)).set t (scale F (F.inv (nth (nthL rows i) c)) (nthL rows i))
def redOne (rows : List (List Int)) (i : Nat) : List (List Int) := elimTo F c t (topped F c t rows i) rows.length
end
def stepR (F : FD) (s : List (List Int) × List Int) (c : Nat) : List (List Int) × List Int :=
 if s.2.length < s.1.length ∧ pivAt s.1 c s.2.length < s.1.length then (redOne F c s.2.length s.1 (pivAt s.1 c s.2.length), s.2 ++ [(c : Int)]) else s
def red (F : FD) (rows : List (List Int)) : Nat → List (List Int) × List Int
 | 0 => (rows, [])
 | c + 1 => stepR F (red F rows c) c
section
variable {F : FD} {c t : Nat} {rows : List (List Int)}
end
end Go.Proofs.YtgfcbmflnldicaaGreat
namespace Go.Proofs.YtgfcbmflnldicaaGreat
open Go.RowKit
attribute [local go_sem ↓] Go.wp_at_zero Go.wp_at_succ
section
variable {w w' : World} {B g n c : Nat} {v v' : Value} {yss : List (List Int)} {ys : List Int}
theorem OwnS.appended (h : OwnS w B (.slice (some ⟨g, 0, none⟩) n c) yss) {j : Nat} (hj : j < yss.length) (hv : w.cell? ⟨g, j, none⟩ = some v) (ho : Own w' B v' ys) (hg : w.grownBy w' v.ownBlock) (hb : v'.ownBlock = v.ownBlock ∨ v'.ownBlock = some w.heap.size) :
    OwnS (w'.setCell ⟨g, j, none⟩ v') B (.slice (some ⟨g, 0, none⟩) n c) (yss.set j ys) := by
 have e := h.len
 subst e
 obtain ⟨hl, vs, hr, hin⟩ := h
 have hjl : j < vs.length := by rw [hin.1]; exact hj
 have hvj : vs[j]? = some v := by
  have := hr.cellAt j (by omega)
  rw [hv] at this
  exact this.symm
 have hov := hin.2.1 j v hvj
 have hne : ∀ k, v.ownBlock = some k → (Value.slice (some ⟨g, 0, none⟩) yss.length c).ownBlock ≠ some k := Own.notSliceBlock hr hov
 have hr' := hr.kept hg (by
  rcases hx : v.ownBlock with _ | k
  · right; simp [Value.ownBlock]
  · right
    intro e
    exact hne k hx e)
 obtain ⟨h1, h2⟩ := hr'.stored j v'
 have row : ∀ (x : Value) (B2 : Nat) (xs : List Int), Own w' B2 x xs → Own (w'.setCell ⟨g, j, none⟩ v') B2 x xs := fun x B2 xs hx => row_grow hr' h2 hx
 have old : ∀ (i : Nat) (x : Value), vs[i]? = some x → i ≠ j → Own w' B x (nthL yss i) := fun i x hx hij => (hin.2.1 i x hx).grow hg (by
  rcases hxb : x.ownBlock with _ | k
  · exact .inl rfl
  · exact .inr fun e => hin.2.2 i j x v k hij hx hvj hxb e.symm)
 refine ⟨by simpa using hl, vs.set j v', by rw [List.length_set]; exact h1, by simp [hin.1], fun i x hx => ?_, fun i k x y b hik hx hy hxb hyb => ?_⟩
 · by_cases e : i = j
   · subst e
     rw [List.getElem?_set_self hjl] at hx
     injection hx with hx
     subst hx
     rw [nthL_set_same hj]
     exact row _ _ _ ho
   · rw [List.getElem?_set_ne (Ne.symm e)] at hx
     rw [nthL_set_ne (Ne.symm e)]
     exact row _ _ _ (old i x hx e)
 · have cas : ∀ (q : Nat) (z : Value), (vs.set j v')[q]? = some z → (q = j ∧ z = v') ∨ (q ≠ j ∧ vs[q]? = some z) := fun q z hz => by
     by_cases e : q = j
     · subst e
       rw [List.getElem?_set_self hjl] at hz
       injection hz with hz
       exact .inl ⟨rfl, hz.symm⟩
     · rw [List.getElem?_set_ne (Ne.symm e)] at hz
       exact .inr ⟨e, hz⟩
   have far : ∀ (q : Nat) (z : Value), q ≠ j → vs[q]? = some z → z.ownBlock = some b → v'.ownBlock = some b → False := fun q z hq hz hzb hvb => by
    rcases hb with hb | hb
    · exact hin.2.2 q j z v b hq hz hvj hzb (by rw [← hb]; exact hvb)
    · rw [hb] at hvb
      injection hvb with hvb
      have := ((hin.2.1 q z hz).lt b hzb).2
      omega
   rcases cas i x hx with ⟨e1, e2⟩ | ⟨e1, e2⟩ <;> rcases cas k y hy with ⟨f1, f2⟩ | ⟨f1, f2⟩
   · omega
   · subst e2; exact far k y f1 f2 hyb hxb
   · subst f2; exact far i x e1 e2 hxb hyb
   · exact hin.2.2 i k x y b hik e2 f2 hxb hyb
end
theorem Own.slice_val {w : World} {B : Nat} {v : Value} {xs : List Int} (h : Own w B v xs) : ∃ a c, v = .slice a xs.length c := by
 obtain ⟨a, c, e, _⟩ := h.form
 exact ⟨a, c, e⟩
theorem OwnS.cell_grown {w w' : World} {B g n c : Nat} {v : Value} {yss : List (List Int)} (h : OwnS w B (.slice (some ⟨g, 0, none⟩) n c) yss) {j : Nat} (hj : j < yss.length) (hv : w.cell? ⟨g, j, none⟩ = some v) (hg : w.grownBy w' v.ownBlock) : w'.cell? ⟨g, j, none⟩ = some v ∧ w'.frozen? ⟨g, j, none⟩ = false := by
 have e := h.len
 subst e
 obtain ⟨hl, vs, hr, hin⟩ := h
 have hvj : vs[j]? = some v := by
  have := hr.cellAt j (by omega)
  rw [hv] at this
  exact this.symm
 have hne : ∀ k, v.ownBlock = some k → (Value.slice (some ⟨g, 0, none⟩) yss.length c).ownBlock ≠ some k := Own.notSliceBlock hr (hin.2.1 j v hvj)
 have hr' := hr.kept hg (by
  rcases hx : v.ownBlock with _ | k
  · right; simp [Value.ownBlock]
  · right
    intro e
    exact hne k hx e)
 exact ⟨by rw [hr'.cellAt j (by omega)]; exact hvj, hr'.frozenAt j⟩
theorem OwnS.nils (w : World) {B n : Nat} (hB : B ≤ w.heap.size) (hn : n ≤ 1000000) : OwnS (w.alloc (.cells (madeCells #[.slice none 0 0] n) 24)) B (.slice (some ⟨w.heap.size, 0, none⟩) n n) (List.replicate n []) :=
 OwnS.of_rowIs (vs := List.replicate n (.slice none 0 0)) (World.rowIs_made w _ _ _) hB (by simp) (by simp; omega) (fun i hi => by simp [hi])
  ⟨by simp, fun i x hx => by
   have hi := (List.getElem?_eq_some_iff.1 hx).1
   simp at hi
   simp [hi] at hx
   subst hx
   have e : nthL (List.replicate n ([] : List Int)) i = [] := by simp [nthL, hi]
   rw [e]
   exact Own.nil _ _, fun i j x y k hij hx hy hk => by
   have hi := (List.getElem?_eq_some_iff.1 hx).1
   simp at hi
   simp [hi] at hx
   subst hx
   simp [Value.ownBlock] at hk⟩
def cols (m : List (List Int)) (n : Nat) : List (List Int) := (List.range n).map fun j => m.map fun row => nth row j
end Go.Proofs.YtgfcbmflnldicaaGreat
namespace Go.Proofs.YtgfcbmflnldicaaGreat
open Go.RowKit
attribute [local go_sem ↓] Go.wp_at_zero Go.wp_at_succ
def hst (F : FD) (x v c : Int) : Int := lin 1 F.p F.k (mulF F.p F.k F.poly v x) c
end Go.Proofs.YtgfcbmflnldicaaGreat
namespace Go.Proofs.YtgfcbmflnldicaaGreat
open Go.RowKit
attribute [local go_sem ↓] Go.wp_at_zero Go.wp_at_succ
def ResL (w : World) (r : List Int × Int) (e : Ending) (w' : World) : Prop := ∃ v, e = .returned (.tuple #[v, .int .i64 r.2]) ∧ Own w' w.heap.size v r.1 ∧ Below w.heap.size w w'
end Go.Proofs.YtgfcbmflnldicaaGreat
namespace Go.Proofs.YtgfcbmflnldicaaGreat
open Go.RowKit
section
variable {F : FD}
def FD.D (F : FD) (a : Int) (i : Nat) : Int := nth (dig a F.p F.k) i
end
end Go.Proofs.YtgfcbmflnldicaaGreat
namespace Go.Proofs.YtgfcbmflnldicaaGreat
open Go.RowKit
theorem nthL_drop (xss : List (List Int)) (t j : Nat) : nthL (xss.drop t) j = nthL xss (t + j) := by simp [nthL]
end Go.Proofs.YtgfcbmflnldicaaGreat
namespace Go.Proofs.YtgfcbmflnldicaaGreat
open Go.RowKit
attribute [local go_sem ↓] Go.wp_at_zero Go.wp_at_succ
def Mk3 (w : World) (n : Nat) (x y z : Value) (w' : World) : Prop := ∃ ga gs gm, x = .slice (some ⟨ga, 0, none⟩) n n ∧ y = .slice (some ⟨gs, 0, none⟩) n n ∧ z = .slice (some ⟨gm, 0, none⟩) n n ∧
 ga ≠ gs ∧ ga ≠ gm ∧ gs ≠ gm ∧ Own w' w.heap.size x (zeros n) ∧ Own w' w.heap.size y (zeros n) ∧ Own w' w.heap.size z (zeros n) ∧ Below w.heap.size w w'
theorem Mk3.drew {w w' : World} {n : Nat} {x y z : Value} (h : Mk3 w n x y z w') : Mk3 w n x y z w'.drew := by
 obtain ⟨ga, gs, gm, rfl, rfl, rfl, h1, h2, h3, h4, h5, h6, h7⟩ := h
 exact ⟨ga, gs, gm, rfl, rfl, rfl, h1, h2, h3, h4, h5, h6, h7.drew⟩
theorem OwnS.grow_other {w w' : World} {B B' : Nat} {v u : Value} {xss : List (List Int)} {n : Nat} {us : List Value} (h : OwnS w B v xss) (hO : w.ownsRow B' 24 1 u n us) (hg : w.grownBy w' u.ownBlock) (hne : u.ownBlock = none ∨ v.ownBlock ≠ u.ownBlock) : OwnS w' B v xss := by
 obtain ⟨hl, vs, hr, hi⟩ := h
 have row : ∀ (x : Value) (B' : Nat) (zs : List Int), Own w B' x zs → Own w' B' x zs := fun x B' zs ho => ho.grow hg (by
  rcases hxb : x.ownBlock with _ | k
  · exact .inl rfl
  · exact .inr fun e => Own.notSliceBlock hO ho k hxb e.symm)
 refine ⟨hl, vs, hr.kept hg ?_, hi.1, fun i x hx => row _ _ _ (hi.2.1 i x hx), hi.2.2⟩
 rcases hne with h | h
 · rcases hv : v.ownBlock with _ | k
   · exact .inl rfl
   · exact .inr (by rw [h]; simp)
 · exact .inr h
def Ap (u v : Value) : Prop := ∀ k, u.ownBlock = some k → v.ownBlock ≠ some k
theorem Ap.symm {u v : Value} (h : Ap u v) : Ap v u := fun k hv hu => h k hu hv
structure TbBase (F : FD) (ap : Option Addr) (cp : Nat) (w : World) (gt gi : Nat) (wr : World) (vA vS vM : Value) (inv : List Int) : Prop where
 out : Below w.heap.size w wr
 f : Blk wr w.heap.size 50 #[.int .i64 F.p, .int .i64 F.k, .slice ap F.poly.length cp]
 r : Blk wr (w.heap.size + 1) 117 #[.int .i64 0, .slice none 0 0, .slice none 0 0, .slice none 0 0, .slice none 0 0]
 t : Blk wr gt 117 #[.int .i64 F.n, vA, vS, vM, .slice (some ⟨gi, 0, none⟩) F.n F.n]
 i : Own wr gi (.slice (some ⟨gi, 0, none⟩) F.n F.n) inv
 lt : gi + 1 ≤ wr.heap.size
 gt2 : w.heap.size + 2 ≤ gt
 gti : gt < gi
structure TbTabs (F : FD) (B : Nat) (wr : World) (vA vS vM : Value) (m : Nat) : Prop where
 A : OwnS wr B vA (rowsTo F.add F.n m)
 S : OwnS wr B vS (rowsTo F.sub F.n m)
 M : OwnS wr B vM (rowsTo F.mul F.n m)
 AS : Ap vA vS
 AM : Ap vA vM
 SM : Ap vS vM
section
variable {F : FD} {ap : Option Addr} {cp : Nat} {w wr wr' : World} {gt gi : Nat} {vA vS vM : Value} {inv : List Int}
theorem TbBase.below (h : TbBase F ap cp w gt gi wr vA vS vM inv) (hb : Below wr.heap.size wr wr') : TbBase F ap cp w gt gi wr' vA vS vM inv :=
 ⟨h.out.trans (hb.mono h.out.size), h.f.below hb h.f.lt, h.r.below hb h.r.lt, h.t.below hb h.t.lt, h.i.below hb (Nat.le_refl _), Nat.le_trans h.lt hb.size, h.gt2, h.gti⟩
end
structure TbRows (F : FD) (B hi : Nat) (wo wr : World) (ga gs gm a b : Nat) : Prop where
 kp : Kp wo wr B hi
 ra : Own wr hi (.slice (some ⟨ga, 0, none⟩) F.n F.n) (rowTo F.add F.n a b)
 rs : Own wr hi (.slice (some ⟨gs, 0, none⟩) F.n F.n) (rowTo F.sub F.n a b)
 rm : Own wr hi (.slice (some ⟨gm, 0, none⟩) F.n F.n) (rowTo F.mul F.n a b)
theorem OwnSH.grow_other {w w' : World} {B B' hi : Nat} {v u : Value} {xss : List (List Int)} {n : Nat} {us : List Value} (h : OwnSH w B hi v xss) (hO : w.ownsRow B' 24 1 u n us) (hg : w.grownBy w' u.ownBlock) (hne : Ap u v) : OwnSH w' B hi v xss := by
 obtain ⟨hl, vs, hr, hi, h4, h5⟩ := h
 have row : ∀ (x : Value) (B' : Nat) (zs : List Int), Own w B' x zs → Own w' B' x zs := fun x B' zs ho => ho.grow hg (by
  rcases hxb : x.ownBlock with _ | k
  · exact .inl rfl
  · exact .inr fun e => Own.notSliceBlock hO ho k hxb e.symm)
 refine ⟨hl, vs, hr.kept hg ?_, ⟨hi.1, fun i x hx => row _ _ _ (hi.2.1 i x hx), hi.2.2⟩, h4, h5⟩
 rcases hv : v.ownBlock with _ | k
 · exact .inl rfl
 · exact .inr fun e => hne k e.symm hv
theorem OwnSH.below {w w' : World} {B hi : Nat} {v : Value} {xss : List (List Int)} (h : OwnSH w B hi v xss) (hb : Below w.heap.size w w') (hh : hi ≤ w.heap.size) : OwnSH w' B hi v xss := h.kp (Kp.below hb hh)
theorem Ap.grown {w : World} {u v v' : Value} {lo hi : Nat} (h : Ap v u) (hb : v'.ownBlock = v.ownBlock ∨ v'.ownBlock = some w.heap.size) (hu : In u lo hi) (hh : hi ≤ w.heap.size) : Ap v' u := by
 intro k hk hk2
 rcases hb with e | e
 · exact h k (by rw [← e]; exact hk) hk2
 · rw [e] at hk
   injection hk with hk
   have := hu k hk2
   omega
structure Wait (f : Int → Int → Int) (n m B hi : Nat) (W : World) (v r : Value) : Prop where
 T : OwnSH W B hi v (rowsTo f n m)
 r : Own W hi r (rowF f n m)
structure Stage (wx : World) (B hi : Nat) (W : World) : Prop where
 low : Below B wx W
 hiW : hi ≤ W.heap.size
 Bh : B ≤ hi
section
variable {f : Int → Int → Int} {n m B hi : Nat} {W W' wx : World} {v v' r u : Value}
theorem Wait.below (h : Wait f n m B hi W v r) (hb : Below W.heap.size W W') (hh : hi ≤ W.heap.size) : Wait f n m B hi W' v r := ⟨h.T.below hb hh, h.r.below hb (Nat.le_refl _)⟩
theorem Wait.grow (h : Wait f n m B hi W v r) {B' k : Nat} {us : List Value} (hO : W.ownsRow B' 24 1 u k us) (hg : W.grownBy W' u.ownBlock) (hne : Ap u v) : Wait f n m B hi W' v r :=
 ⟨h.T.grow_other hO hg hne, h.r.grow hg (by
  rcases hxb : r.ownBlock with _ | k
  · exact .inl rfl
  · exact .inr fun e => Own.notSliceBlock hO h.r k hxb e.symm)⟩
theorem Stage.below (h : Stage wx B hi W) (hb : Below W.heap.size W W') : Stage wx B hi W' := ⟨h.low.trans (hb.mono (by have := h.hiW; have := h.Bh; omega)), by have := h.hiW; have := hb.size; omega, h.Bh⟩
theorem Stage.grow (h : Stage wx B hi W) (hg : W.grownBy W' u.ownBlock) (hu : In u B hi) : Stage wx B hi W' :=
 ⟨h.low.grown hg (by have := h.hiW; have := h.Bh; omega) (fun k hk => (hu k hk).1), by have := h.hiW; have := hg.size; omega, h.Bh⟩
end
theorem TbBase.low {F : FD} {ap : Option Addr} {cp : Nat} {w wx W : World} {gt gi : Nat} {vA vS vM : Value} {inv : List Int} (h : TbBase F ap cp w gt gi wx vA vS vM inv) (hb : Below (gi + 1) wx W) : TbBase F ap cp w gt gi W vA vS vM inv := by
 have h1 := h.gt2
 have h2 := h.gti
 refine ⟨h.out.trans (hb.mono (by omega)), h.f.below hb (by omega), h.r.below hb (by omega), h.t.below hb (by omega), ?_, Nat.le_trans h.lt hb.size, h1, h2⟩
 exact (OwnH.kp ⟨h.i, fun j hj => by simp only [Value.ownBlock, Option.some.injEq] at hj; omega⟩ (⟨hb.size, fun g _ hg => hb.block g hg⟩ : Kp wx W gi (gi + 1))).1
end Go.Proofs.YtgfcbmflnldicaaGreat
