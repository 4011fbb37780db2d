/-
  Texts joined.
-/
import Derived.Laws.Rows
import Derived.Test.YtkiljcbejmiioaaGreatLK3
import Derived.Test.YtkiljcbejmiioaaGreatLK5
import Derived.Test.YtkiljcbejmiioaaGreatLK10
set_option linter.unusedVariables false
set_option linter.unusedSimpArgs false
set_option maxRecDepth 100000
set_option maxHeartbeats 40000000
namespace Go.Proofs.YtkiljcbejmiioaaGreat
open Go.RowKit
attribute [local go_sem ↓] Go.wp_at_zero Go.wp_at_succ
theorem fieldSize_any (F : FD) (ap : Option Addr) (cp : Nat) (w : World) (ok : F.Ok) :
    Calls Tryz.prog 68 #[.agg #[.int .i64 F.p, .int .i64 F.k, .slice ap F.poly.length cp]] w fun e w' => e = .returned (.int .i64 F.n) ∧ Below w.heap.size w w' := by
 have hp2 := ok.p2
 have hp64 := ok.p64
 have hk6 := ok.k6
 have hpow := fun W => powerUpTo_any F.p F.k 64 W (by omega) (by omega) (by omega) (by omega) (by omega)
 have e1 : capTo F.p 64 (F.k : Int).toNat = (F.n : Int) := by rw [Int.toNat_natCast, capTo_pow (by omega) _ ok.q64, ok.n_eq]
 rw [e1] at hpow
 have HP := hide hpow
 obtain ⟨W0, hW0⟩ : ∃ W0, W0 = w.alloc (.cells #[.int .i64 F.p, .int .i64 F.k, .slice ap F.poly.length cp] 30) := ⟨_, rfl⟩
 have hbW : Below w.heap.size w W0 := by rw [hW0]; exact (Below.refl _ _).alloc (Nat.le_refl _) _
 have kF : Blk W0 w.heap.size 30 #[.int .i64 F.p, .int .i64 F.k, .slice ap F.poly.length cp] := by rw [hW0]; exact Blk.new _ _ _ rfl
 have f0 : W0.cell? ⟨w.heap.size, 0, none⟩ = some (.int .i64 F.p) := kF.cell 0
 have f1 : W0.cell? ⟨w.heap.size, 1, none⟩ = some (.int .i64 F.k) := kF.cell 1
 rw [hW0] at f0 f1
 have HW := Lib.hid hW0
 clear hpow e1 hW0
 go_enter Tryz.func68, Tryz.ntmps68
 go_wp2_with fail
 rw [← HW.out]
 refine (unhide HP _).mono ?_
 rintro e w1 ⟨rfl, rfl⟩
 go_wp2
 go_ret
 exact ⟨rfl, hbW⟩
def Mk3 (w : World) (n : Nat) (x y z : Value) (w' : World) : Prop := ∃ ga gs gm, x = .slice (some ⟨ga, 0, none⟩) n n ∧ y = .slice (some ⟨gs, 0, none⟩) n n ∧ z = .slice (some ⟨gm, 0, none⟩) n n ∧
 ga ≠ gs ∧ ga ≠ gm ∧ gs ≠ gm ∧ Own w' w.heap.size x (zeros n) ∧ Own w' w.heap.size y (zeros n) ∧ Own w' w.heap.size z (zeros n) ∧ Below w.heap.size w w'
def Z3 (w : World) (n : Nat) : World := ((w.alloc (.cells (madeCells #[.int .i64 0] n) 2)).alloc (.cells (madeCells #[.int .i64 0] n) 2)).alloc (.cells (madeCells #[.int .i64 0] n) 2)
theorem Z3_own (w : World) {n : Nat} (hn : n ≤ 64) (i : Nat) (hi : i < 3) : Own (Z3 w n) w.heap.size (.slice (some ⟨w.heap.size + i, 0, none⟩) n n) (zeros n) := by
 unfold Z3
 rcases i with _ | _ | _ | i
 · exact ((Own.zeros w (Nat.le_refl _) (by omega)).alloc _).alloc _
 · have h := (Own.zeros (w.alloc (.cells (madeCells #[.int .i64 0] n) 2)) (B := w.heap.size) (by simp) (show n ≤ 1000000 by omega)).alloc (.cells (madeCells #[.int .i64 0] n) 2)
   simpa using h
 · have h := Own.zeros ((w.alloc (.cells (madeCells #[.int .i64 0] n) 2)).alloc (.cells (madeCells #[.int .i64 0] n) 2)) (B := w.heap.size) (by simp; omega) (show n ≤ 1000000 by omega)
   simpa using h
 · omega
theorem Z3_below (w : World) (n : Nat) : Below w.heap.size w (Z3 w n) := by
 unfold Z3
 exact (((Below.refl _ _).alloc (Nat.le_refl _) _).alloc (by simp) _).alloc (by simp; omega) _
theorem Mk3.drew {w w' : World} {n : Nat} {x y z : Value} (h : Mk3 w n x y z w') : Mk3 w n x y z w'.drew := by
 obtain ⟨ga, gs, gm, rfl, rfl, rfl, h1, h2, h3, h4, h5, h6, h7⟩ := h
 exact ⟨ga, gs, gm, rfl, rfl, rfl, h1, h2, h3, h4, h5, h6, h7.drew⟩
theorem Z3_mk (w : World) {n : Nat} (hn : n ≤ 64) (i j k : Nat) (hi : i < 3) (hj : j < 3) (hk : k < 3) (h1 : i ≠ j) (h2 : i ≠ k) (h3 : j ≠ k) :
    Mk3 w n (.slice (some ⟨w.heap.size + i, 0, none⟩) n n) (.slice (some ⟨w.heap.size + j, 0, none⟩) n n) (.slice (some ⟨w.heap.size + k, 0, none⟩) n n) (Z3 w n) :=
 ⟨_, _, _, rfl, rfl, rfl, by omega, by omega, by omega, Z3_own w hn i hi, Z3_own w hn j hj, Z3_own w hn k hk, Z3_below w n⟩
theorem OwnS.grow_other {w w' : World} {B B' : Nat} {v u : Value} {xss : List (List Int)} {n : Nat} {us : List Value} (h : OwnS w B v xss) (hO : w.ownsRow B' 28 1 u n us) (hg : w.grownBy w' u.ownBlock) (hne : u.ownBlock = none ∨ v.ownBlock ≠ u.ownBlock) : OwnS w' B v xss := by
 obtain ⟨hl, vs, hr, hi⟩ := h
 have row : ∀ (x : Value) (B' : Nat) (zs : List Int), Own w B' x zs → Own w' B' x zs := fun x B' zs ho => ho.grow hg (by
  rcases hxb : x.ownBlock with _ | k
  · exact .inl rfl
  · exact .inr fun e => Own.notSliceBlock hO ho k hxb e.symm)
 refine ⟨hl, vs, hr.kept hg ?_, hi.1, fun i x hx => row _ _ _ (hi.2.1 i x hx), hi.2.2⟩
 rcases hne with h | h
 · rcases hv : v.ownBlock with _ | k
   · exact .inl rfl
   · exact .inr (by rw [h]; simp)
 · exact .inr h
def Ap (u v : Value) : Prop := ∀ k, u.ownBlock = some k → v.ownBlock ≠ some k
theorem Ap.symm {u v : Value} (h : Ap u v) : Ap v u := fun k hv hu => h k hu hv
structure TbBase (F : FD) (ap : Option Addr) (cp : Nat) (w : World) (gt gi : Nat) (wr : World) (vA vS vM : Value) (inv : List Int) : Prop where
 out : Below w.heap.size w wr
 f : Blk wr w.heap.size 30 #[.int .i64 F.p, .int .i64 F.k, .slice ap F.poly.length cp]
 r : Blk wr (w.heap.size + 1) 60 #[.int .i64 0, .slice none 0 0, .slice none 0 0, .slice none 0 0, .slice none 0 0]
 t : Blk wr gt 60 #[.int .i64 F.n, vA, vS, vM, .slice (some ⟨gi, 0, none⟩) F.n F.n]
 i : Own wr gi (.slice (some ⟨gi, 0, none⟩) F.n F.n) inv
 lt : gi + 1 ≤ wr.heap.size
 gt2 : w.heap.size + 2 ≤ gt
 gti : gt < gi
structure TbTabs (F : FD) (B : Nat) (wr : World) (vA vS vM : Value) (m : Nat) : Prop where
 A : OwnS wr B vA (rowsTo F.add F.n m)
 S : OwnS wr B vS (rowsTo F.sub F.n m)
 M : OwnS wr B vM (rowsTo F.mul F.n m)
 AS : Ap vA vS
 AM : Ap vA vM
 SM : Ap vS vM
section
variable {F : FD} {ap : Option Addr} {cp : Nat} {w wr wr' : World} {gt gi : Nat} {vA vS vM : Value} {inv : List Int}
theorem TbBase.below (h : TbBase F ap cp w gt gi wr vA vS vM inv) (hb : Below wr.heap.size wr wr') : TbBase F ap cp w gt gi wr' vA vS vM inv :=
 ⟨h.out.trans (hb.mono h.out.size), h.f.below hb h.f.lt, h.r.below hb h.r.lt, h.t.below hb h.t.lt, h.i.below hb (Nat.le_refl _), Nat.le_trans h.lt hb.size, h.gt2, h.gti⟩
theorem TbBase.store (h : TbBase F ap cp w gt gi wr vA vS vM inv) {g : Nat} (hg : gi < g) (i : Nat) (v : Value) : TbBase F ap cp w gt gi (wr.setCell ⟨g, i, none⟩ v) vA vS vM inv := by
 have h1 := h.gt2
 have h2 := h.gti
 refine ⟨h.out.setCell (by show _ ≤ g; omega) _, h.f.far (by show _ ≠ g; omega) _, h.r.far (by show _ ≠ g; omega) _, h.t.far (by show _ ≠ g; omega) _, ?_, by have := h.lt; simpa using this, h1, h2⟩
 have k : Kp wr (wr.setCell ⟨g, i, none⟩ v) gi (gi + 1) := (Kp.refl _ _ _).setCell (.inr (by show _ ≤ g; omega)) v
 exact (OwnH.kp ⟨h.i, fun j hj => by simp only [Value.ownBlock, Option.some.injEq] at hj; omega⟩ k).1
theorem TbBase.setInv (h : TbBase F ap cp w gt gi wr vA vS vM inv) (j : Nat) (x : Int) : TbBase F ap cp w gt gi (wr.setCell ⟨gi, j, none⟩ (.int .i64 x)) vA vS vM (inv.set j x) := by
 have h1 := h.gt2
 have h2 := h.gti
 exact ⟨h.out.setCell (by show _ ≤ gi; omega) _, h.f.far (by show _ ≠ gi; omega) _, h.r.far (by show _ ≠ gi; omega) _, h.t.far (by show _ ≠ gi; omega) _, (h.i.set j x).1, by have := h.lt; simpa using this, h1, h2⟩
end
structure TbRows (F : FD) (B hi : Nat) (wo wr : World) (ga gs gm a b : Nat) : Prop where
 kp : Kp wo wr B hi
 ra : Own wr hi (.slice (some ⟨ga, 0, none⟩) F.n F.n) (rowTo F.add F.n a b)
 rs : Own wr hi (.slice (some ⟨gs, 0, none⟩) F.n F.n) (rowTo F.sub F.n a b)
 rm : Own wr hi (.slice (some ⟨gm, 0, none⟩) F.n F.n) (rowTo F.mul F.n a b)
def wOf3 {w : World} {n : Nat} {x y z : Value} {w' : World} (_ : Mk3 w n x y z w') : World := w'
theorem OwnSH.grow_other {w w' : World} {B B' hi : Nat} {v u : Value} {xss : List (List Int)} {n : Nat} {us : List Value} (h : OwnSH w B hi v xss) (hO : w.ownsRow B' 28 1 u n us) (hg : w.grownBy w' u.ownBlock) (hne : Ap u v) : OwnSH w' B hi v xss := by
 obtain ⟨hl, vs, hr, hi, h4, h5⟩ := h
 have row : ∀ (x : Value) (B' : Nat) (zs : List Int), Own w B' x zs → Own w' B' x zs := fun x B' zs ho => ho.grow hg (by
  rcases hxb : x.ownBlock with _ | k
  · exact .inl rfl
  · exact .inr fun e => Own.notSliceBlock hO ho k hxb e.symm)
 refine ⟨hl, vs, hr.kept hg ?_, ⟨hi.1, fun i x hx => row _ _ _ (hi.2.1 i x hx), hi.2.2⟩, h4, h5⟩
 rcases hv : v.ownBlock with _ | k
 · exact .inl rfl
 · exact .inr fun e => hne k e.symm hv
theorem Ap.grow_own {w w' : World} {B : Nat} {v u : Value} {xss : List (List Int)} (h : OwnS w B v xss) {B' n : Nat} {us : List Value} (hO : w.ownsRow B' 28 1 u n us) (hg : w.grownBy w' u.ownBlock) (hne : Ap u v) : OwnS w' B v xss :=
 h.grow_other hO hg (by
  rcases hu : u.ownBlock with _ | k
  · exact .inl rfl
  · exact .inr fun e => hne k hu e)
theorem OwnSH.outer {w : World} {B hi : Nat} {v : Value} {xss : List (List Int)} (h : OwnSH w B hi v xss) : ∃ vs, w.ownsRow B 28 1 v xss.length vs := by
 obtain ⟨_, vs, hr, _⟩ := h
 exact ⟨vs, hr⟩
theorem OwnSH.in_ {w : World} {B hi : Nat} {v : Value} {xss : List (List Int)} (h : OwnSH w B hi v xss) : In v B hi := by
 obtain ⟨_, vs, _, _, h, _⟩ := h
 exact h
theorem OwnSH.below {w w' : World} {B hi : Nat} {v : Value} {xss : List (List Int)} (h : OwnSH w B hi v xss) (hb : Below w.heap.size w w') (hh : hi ≤ w.heap.size) : OwnSH w' B hi v xss := h.kp (Kp.below hb hh)
theorem Ap.grown {w : World} {u v v' : Value} {lo hi : Nat} (h : Ap v u) (hb : v'.ownBlock = v.ownBlock ∨ v'.ownBlock = some w.heap.size) (hu : In u lo hi) (hh : hi ≤ w.heap.size) : Ap v' u := by
 intro k hk hk2
 rcases hb with e | e
 · exact h k (by rw [← e]; exact hk) hk2
 · rw [e] at hk
   injection hk with hk
   have := hu k hk2
   omega
structure Wait (f : Int → Int → Int) (n m B hi : Nat) (W : World) (v r : Value) : Prop where
 T : OwnSH W B hi v (rowsTo f n m)
 r : Own W hi r (rowF f n m)
structure Stage (wx : World) (B hi : Nat) (W : World) : Prop where
 low : Below B wx W
 hiW : hi ≤ W.heap.size
 Bh : B ≤ hi
section
variable {f : Int → Int → Int} {n m B hi : Nat} {W W' wx : World} {v v' r u : Value}
theorem Wait.below (h : Wait f n m B hi W v r) (hb : Below W.heap.size W W') (hh : hi ≤ W.heap.size) : Wait f n m B hi W' v r := ⟨h.T.below hb hh, h.r.below hb (Nat.le_refl _)⟩
theorem Wait.grow (h : Wait f n m B hi W v r) {B' k : Nat} {us : List Value} (hO : W.ownsRow B' 28 1 u k us) (hg : W.grownBy W' u.ownBlock) (hne : Ap u v) : Wait f n m B hi W' v r :=
 ⟨h.T.grow_other hO hg hne, h.r.grow hg (by
  rcases hxb : r.ownBlock with _ | k
  · exact .inl rfl
  · exact .inr fun e => Own.notSliceBlock hO h.r k hxb e.symm)⟩
theorem Stage.below (h : Stage wx B hi W) (hb : Below W.heap.size W W') : Stage wx B hi W' := ⟨h.low.trans (hb.mono (by have := h.hiW; have := h.Bh; omega)), by have := h.hiW; have := hb.size; omega, h.Bh⟩
theorem Stage.grow (h : Stage wx B hi W) (hg : W.grownBy W' u.ownBlock) (hu : In u B hi) : Stage wx B hi W' :=
 ⟨h.low.grown hg (by have := h.hiW; have := h.Bh; omega) (fun k hk => (hu k hk).1), by have := h.hiW; have := hg.size; omega, h.Bh⟩
end
theorem OwnS.in_ {w : World} {B : Nat} {v : Value} {xss : List (List Int)} (h : OwnS w B v xss) : In v B w.heap.size := by
 obtain ⟨_, vs, hr, _⟩ := h
 exact hr.lt
theorem TbBase.low {F : FD} {ap : Option Addr} {cp : Nat} {w wx W : World} {gt gi : Nat} {vA vS vM : Value} {inv : List Int} (h : TbBase F ap cp w gt gi wx vA vS vM inv) (hb : Below (gi + 1) wx W) : TbBase F ap cp w gt gi W vA vS vM inv := by
 have h1 := h.gt2
 have h2 := h.gti
 refine ⟨h.out.trans (hb.mono (by omega)), h.f.below hb (by omega), h.r.below hb (by omega), h.t.below hb (by omega), ?_, Nat.le_trans h.lt hb.size, h1, h2⟩
 exact (OwnH.kp ⟨h.i, fun j hj => by simp only [Value.ownBlock, Option.some.injEq] at hj; omega⟩ (⟨hb.size, fun g _ hg => hb.block g hg⟩ : Kp wx W gi (gi + 1))).1
def Done13 (F : FD) (ap : Option Addr) (cp : Nat) (w : World) (gt gi : Nat) (inv : List Int) (m : Nat) (W : World) : Prop :=
 ∃ vA vS vM, TbBase F ap cp w gt gi W vA vS vM inv ∧ TbTabs F (gi + 1) W vA vS vM m
theorem done13 {F : FD} {ap : Option Addr} {cp : Nat} {w W : World} {gt gi m : Nat} {vA vS vM v1 v2 v3 : Value} {inv : List Int} (h : TbBase F ap cp w gt gi W vA vS vM inv)
    (hA : OwnS W (gi + 1) v1 (rowsTo F.add F.n m)) (hS : OwnS W (gi + 1) v2 (rowsTo F.sub F.n m)) (hM : OwnS W (gi + 1) v3 (rowsTo F.mul F.n m)) (h12 : Ap v1 v2) (h13 : Ap v1 v3) (h23 : Ap v2 v3) :
    Done13 F ap cp w gt gi inv m (((W.setCell ⟨gt, 1, none⟩ v1).setCell ⟨gt, 2, none⟩ v2).setCell ⟨gt, 3, none⟩ v3) := by
 have h1 := h.gt2
 have h2 := h.gti
 refine ⟨v1, v2, v3, ⟨((h.out.setCell (by show _ ≤ gt; omega) _).setCell (by show _ ≤ gt; omega) _).setCell (by show _ ≤ gt; omega) _, ((h.f.far (by show _ ≠ gt; omega) _).far (by show _ ≠ gt; omega) _).far (by show _ ≠ gt; omega) _, ((h.r.far (by show _ ≠ gt; omega) _).far (by show _ ≠ gt; omega) _).far (by show _ ≠ gt; omega) _, ((h.t.set_ 1 v1).set_ 2 v2).set_ 3 v3, ((h.i.storeBelow (by show gt < _; omega) _).storeBelow (by show gt < _; omega) _).storeBelow (by show gt < _; omega) _, by have := h.lt; simpa using this, h1, h2⟩, ?_⟩
 have st : ∀ {v : Value} {xss : List (List Int)}, OwnS W (gi + 1) v xss → OwnS (((W.setCell ⟨gt, 1, none⟩ v1).setCell ⟨gt, 2, none⟩ v2).setCell ⟨gt, 3, none⟩ v3) (gi + 1) v xss := fun h => ((h.storeBelow (by show gt < _; omega) _).storeBelow (by show gt < _; omega) _).storeBelow (by show gt < _; omega) _
 exact ⟨st hA, st hS, st hM, h12, h13, h23⟩
theorem tablesOf_any (F : FD) (ap : Option Addr) (cp : Nat) (w : World) (hR : Rd w ap F.poly) (ok : F.Ok) :
    Calls Tryz.prog 27 #[.agg #[.int .i64 F.p, .int .i64 F.k, .slice ap F.poly.length cp]] w fun e w' => ∃ v, e = .returned v ∧ Tabs w' F v ∧ Below w.heap.size w w' := by
 obtain ⟨hn2, hn64⟩ := ok.n_bd
 have hmk := fun W => run_make_row' (P := Tryz.prog) 28 2 (.int .i64 0) 8 Tryz.underlying28 Tryz.info_i64 rfl .i64 .i64 F.n (by omega) (by omega) W
 obtain ⟨W0, hW0⟩ : ∃ W0, W0 = (w.alloc (.cells #[.int .i64 F.p, .int .i64 F.k, .slice ap F.poly.length cp] 30)).alloc (.cells #[.int .i64 0, .slice none 0 0, .slice none 0 0, .slice none 0 0, .slice none 0 0] 60) := ⟨_, rfl⟩
 have hbW : Below w.heap.size w W0 := by rw [hW0]; exact ((Below.refl _ _).alloc (Nat.le_refl _) _).alloc (by simp) _
 have kF : Blk W0 w.heap.size 30 #[.int .i64 F.p, .int .i64 F.k, .slice ap F.poly.length cp] := by rw [hW0]; exact (Blk.new _ _ _ rfl).alloc _
 have kR : Blk W0 (w.heap.size + 1) 60 #[.int .i64 0, .slice none 0 0, .slice none 0 0, .slice none 0 0, .slice none 0 0] := by rw [hW0]; exact Blk.new _ _ _ (by simp)
 have sW : W0.heap.size = w.heap.size + 2 := by rw [hW0]; simp
 have hsz := fieldSize_any F ap cp W0 ok
 have HS := hide hsz
 have HW := Lib.hid hW0
 clear hsz hW0
 go_enter Tryz.func27, Tryz.ntmps27
 go_wp2_with fail
 rw [← HW.out]
 refine (unhide HS).mono ?_
 rintro e w1 ⟨rfl, b1⟩
 have hz1 := b1.size
 obtain ⟨w2, hw2⟩ : ∃ w2, w2 = w1.alloc (.cells #[.int .i64 F.n, .slice none 0 0, .slice none 0 0, .slice none 0 0, .slice none 0 0] 60) := ⟨_, rfl⟩
 have b2 : Below w1.heap.size w1 w2 := by rw [hw2]; exact (Below.refl _ _).alloc (Nat.le_refl _) _
 have kT : Blk w2 w1.heap.size 60 #[.int .i64 F.n, .slice none 0 0, .slice none 0 0, .slice none 0 0, .slice none 0 0] := by rw [hw2]; exact Blk.new _ _ _ rfl
 have s2 : w2.heap.size = w1.heap.size + 1 := by rw [hw2]; simp
 have kF2 := (kF.below b1 kF.lt).below b2 (by have := kF.lt; omega)
 have kR2 := (kR.below b1 kR.lt).below b2 (by have := kR.lt; omega)
 have hb2 : Below w.heap.size w w2 := (hbW.trans (b1.mono (by omega))).trans (b2.mono (by omega))
 have HW2 := Lib.hid hw2
 clear hw2
 go_wp2_with fail
 have kF2' := fun {W : World} (h : Below w1.heap.size w1 W) => (kF.below b1 kF.lt).below h (by have := kF.lt; omega)
 have kR2' := fun {W : World} (h : Below w1.heap.size w1 W) => (kR.below b1 kR.lt).below h (by have := kR.lt; omega)
 obtain ⟨W3, hW3⟩ : ∃ W3, W3 = ((w1.alloc (.cells #[.int .i64 F.n, .slice none 0 0, .slice none 0 0, .slice none 0 0, .slice (some ⟨w1.heap.size + 1, 0, none⟩) F.n F.n] 60)).alloc (.cells (madeCells #[.int .i64 0] F.n) 2)) := ⟨_, rfl⟩
 obtain ⟨gt, hgt⟩ : ∃ gt, gt = w1.heap.size := ⟨_, rfl⟩
 obtain ⟨gi, hgi⟩ : ∃ gi, gi = w1.heap.size + 1 := ⟨_, rfl⟩
 have b3 : Below w1.heap.size w1 W3 := by rw [hW3]; exact ((Below.refl _ _).alloc (Nat.le_refl _) _).alloc (by simp) _
 have kT3 : Blk W3 gt 60 #[.int .i64 F.n, .slice none 0 0, .slice none 0 0, .slice none 0 0, .slice (some ⟨gi, 0, none⟩) F.n F.n] := by rw [hW3, hgt, hgi]; exact (Blk.new _ _ _ rfl).alloc _
 have o3 : Own W3 gi (.slice (some ⟨gi, 0, none⟩) F.n F.n) (zeros F.n) := by
  rw [hW3, hgi]
  have h := Own.zeros (w1.alloc (.cells #[.int .i64 F.n, .slice none 0 0, .slice none 0 0, .slice none 0 0, .slice (some ⟨w1.heap.size + 1, 0, none⟩) F.n F.n] 60)) (B := w1.heap.size + 1) (by simp) (show F.n ≤ 1000000 by omega)
  simpa using h
 have s3 : W3.heap.size = w1.heap.size + 2 := by rw [hW3]; simp
 have st0 : TbBase F ap cp w gt gi W3 (.slice none 0 0) (.slice none 0 0) (.slice none 0 0) (zeros F.n) :=
  ⟨(hbW.trans (b1.mono (by omega))).trans (b3.mono (by omega)), (kF2' b3), (kR2' b3), kT3, o3, by omega, by omega, by omega⟩
 have tb0 : TbTabs F (gi + 1) W3 (.slice none 0 0) (.slice none 0 0) (.slice none 0 0) 0 :=
  ⟨OwnS.nil _ _, OwnS.nil _ _, OwnS.nil _ _, fun k h => by simp [Value.ownBlock] at h, fun k h => by simp [Value.ownBlock] at h, fun k h => by simp [Value.ownBlock] at h⟩
 rw [← hW3, ← hgi, ← hgt]
 have HG := Lib.hid hgt
 have HI := Lib.hid hgi
 have H3 := Lib.hid hW3
 clear kF kR hgt hgi hW3 b3 kT3 o3 s3 hb2 b2 s2 HW2 kT kF2 kR2 kF2' kR2' HS sW b1 hz1 HW
 go_loopw [4] (fun av wr => ∃ (a : Nat) (vA vS vM : Value), av = .int .i64 a ∧ a ≤ F.n ∧ Hid (TbBase F ap cp w gt gi wr vA vS vM (invTo F a)) ∧ Hid (TbTabs F (gi + 1) wr vA vS vM a)) (fun av _ => F.n - (intOf av).toNat)
 case atStart => exact ⟨0, _, _, _, rfl, Nat.zero_le _, st0, tb0⟩
 case round =>
  obtain ⟨a, vA, vS, vM, rfl, ha, hbs, htb⟩ := hrel
  have lt0 := hbs.out.lt
  have lt1 := hbs.out.gt2
  have lt2 := hbs.out.gti
  have f0 : wr.cell? ⟨gt, 0, none⟩ = some (.int .i64 F.n) := hbs.out.t.cell 0
  by_cases han : a < F.n
  · obtain ⟨wo, rfl⟩ : ∃ wo : World, wo = wr := ⟨_, rfl⟩
    go_upto_region 6 with fail
    go_cut [5, 6, 7] (fun x y z wx => Mk3 wo F.n x y z wx)
    case first =>
     have KA := hide (fun (W : World) (o : Obj) (h : W.drew.cell? ⟨gt, 0, none⟩ = some (.int .i64 F.n)) => (World.cell?_alloc_lt W o ⟨gt, 0, none⟩ (World.block_lt_of_cell? W _ h)).trans h)
     go_region_held3 (fun W => W.cell? ⟨gt, 0, none⟩ = some (.int .i64 F.n)) (first | exact f0 | exact (unhide KA) _ _ (by assumption)) (fail)
     all_goals
      go_wp2
      go_meet
     all_goals first
      | exact (Z3_mk wo hn64 0 1 2 (by omega) (by omega) (by omega) (by omega) (by omega) (by omega)).drew
      | exact (Z3_mk wo hn64 0 2 1 (by omega) (by omega) (by omega) (by omega) (by omega) (by omega)).drew
      | exact (Z3_mk wo hn64 1 0 2 (by omega) (by omega) (by omega) (by omega) (by omega) (by omega)).drew
      | exact (Z3_mk wo hn64 1 2 0 (by omega) (by omega) (by omega) (by omega) (by omega) (by omega)).drew
      | exact (Z3_mk wo hn64 2 0 1 (by omega) (by omega) (by omega) (by omega) (by omega) (by omega)).drew
      | exact (Z3_mk wo hn64 2 1 0 (by omega) (by omega) (by omega) (by omega) (by omega) (by omega)).drew
    case rest =>
    obtain ⟨w4, hw4⟩ : ∃ z, z = wOf3 hcut := ⟨_, rfl⟩
    unfold wOf3 at hw4
    subst hw4
    obtain ⟨ga, gs, gm, rfl, rfl, rfl, n1, n2, n3, oa, os, om, bm⟩ := hcut
    have la := (oa.lt ga rfl).1
    have ls := (os.lt gs rfl).1
    have lm := (om.lt gm rfl).1
    have st4 := hbs.out.below bm
    have rw4 : TbRows F (gi + 1) wo.heap.size wo w4 ga gs gm a 0 := ⟨Kp.below bm (Nat.le_refl _), oa, os, om⟩
    have ST4 := Lib.hid st4
    have RW4 := Lib.hid rw4
    clear bm oa os om st4 rw4 f0
    go_wp2_with fail
    go_loopw [8] (fun bv wr => ∃ (b : Nat), bv = .int .i64 b ∧ b ≤ F.n ∧ Hid (TbBase F ap cp w gt gi wr vA vS vM (invIn F a (invTo F a) b)) ∧ Hid (TbRows F (gi + 1) wo.heap.size wo wr ga gs gm a b)) (fun bv _ => F.n - (intOf bv).toNat)
    case atStart => exact ⟨0, rfl, Nat.zero_le _, ST4.out, RW4.out⟩
    case round =>
     obtain ⟨b, rfl, hb, hst, hrw⟩ := hrel
     have f0 : wr.cell? ⟨gt, 0, none⟩ = some (.int .i64 F.n) := hst.out.t.cell 0
     have lw := hst.out.lt
     by_cases hbn : b < F.n
     · have hRr : ∀ W, Below w.heap.size w W → Rd W ap F.poly := fun W h => hR.below h
       have hadd := fun W h => combine_any F ap cp a b 1 W h ok (by omega) (by omega) (by omega) (by omega) (.inl rfl)
       have hsub := fun W h => combine_any F ap cp a b (-1) W h ok (by omega) (by omega) (by omega) (by omega) (.inr rfl)
       have hmul := fun W h => product_any F ap cp a b W h ok (by omega) (by omega) (by omega) (by omega)
       obtain ⟨X, hX⟩ : ∃ X, X = F.add a b := ⟨_, rfl⟩
       obtain ⟨Y, hY⟩ : ∃ Y, Y = F.sub a b := ⟨_, rfl⟩
       obtain ⟨Z, hZ⟩ : ∃ Z, Z = F.mul a b := ⟨_, rfl⟩
       rw [show lin 1 F.p F.k a b = X from hX.symm] at hadd
       rw [show lin (-1) F.p F.k a b = Y from hY.symm] at hsub
       rw [show mulF F.p F.k F.poly a b = Z from hZ.symm] at hmul
       have boxes : ∀ (W : World), Below wr.heap.size wr W → (Below w.heap.size w W ∧ W.cell? ⟨w.heap.size, 0, none⟩ = some (.int .i64 F.p) ∧ W.cell? ⟨w.heap.size, 1, none⟩ = some (.int .i64 F.k) ∧ W.cell? ⟨w.heap.size, 2, none⟩ = some (.slice ap F.poly.length cp)) := fun _ h =>
        ⟨(hst.out.below h).out, (hst.out.below h).f.cell 0, (hst.out.below h).f.cell 1, (hst.out.below h).f.cell 2⟩
       have KB := hide (fun (W : World) (o o2 : Nat) (u : Value) (ho : w.heap.size + 1 ≤ o) (h : Below w.heap.size w W ∧ W.cell? ⟨w.heap.size, 0, none⟩ = some (.int .i64 F.p) ∧ W.cell? ⟨w.heap.size, 1, none⟩ = some (.int .i64 F.k) ∧ W.cell? ⟨w.heap.size, 2, none⟩ = some (.slice ap F.poly.length cp)) =>
        (⟨h.1.setCell (show w.heap.size ≤ o by omega) u, (World.cell?_setCell_far W ⟨o, o2, none⟩ _ u (by show o ≠ w.heap.size; omega)).trans h.2.1, (World.cell?_setCell_far W ⟨o, o2, none⟩ _ u (by show o ≠ w.heap.size; omega)).trans h.2.2.1, (World.cell?_setCell_far W ⟨o, o2, none⟩ _ u (by show o ≠ w.heap.size; omega)).trans h.2.2.2⟩ :
         Below w.heap.size w (W.setCell ⟨o, o2, none⟩ u) ∧ (W.setCell ⟨o, o2, none⟩ u).cell? ⟨w.heap.size, 0, none⟩ = some (.int .i64 F.p) ∧ (W.setCell ⟨o, o2, none⟩ u).cell? ⟨w.heap.size, 1, none⟩ = some (.int .i64 F.k) ∧ (W.setCell ⟨o, o2, none⟩ u).cell? ⟨w.heap.size, 2, none⟩ = some (.slice ap F.poly.length cp)))
       have BX := hide boxes
       have HADD := hide hadd
       have HSUB := hide hsub
       have HMUL := hide hmul
       have HRR := hide hRr
       have HX := Lib.hid hX
       have HY := Lib.hid hY
       have HZ := Lib.hid hZ
       clear boxes hadd hsub hmul hRr hX hY hZ
       go_upto_region 10 with fail
       go_region_held3 (fun W => Below w.heap.size w W ∧ W.cell? ⟨w.heap.size, 0, none⟩ = some (.int .i64 F.p) ∧ W.cell? ⟨w.heap.size, 1, none⟩ = some (.int .i64 F.k) ∧ W.cell? ⟨w.heap.size, 2, none⟩ = some (.slice ap F.poly.length cp))
        (first | exact (unhide BX) _ (Below.refl _ _) | exact (unhide BX) _ ((Below.refl _ _).drew) | exact (unhide BX) _ (by assumption) | exact (unhide KB) _ _ _ _ (by omega) (by assumption))
        (first
         | (go_at_call_of 69 (Value.int .i64 1); refine (unhide HADD _ ?_).mono ?_; exact (unhide HRR) _ (And.left (by assumption)); rintro e W1 ⟨rfl, b1⟩; have hB1 : Below wr.heap.size wr W1 := Below.chain (Below.drewn 1) b1)
         | (go_at_call 69; refine (unhide HSUB _ ?_).mono ?_; exact (unhide HRR) _ (And.left (by assumption)); rintro e W2 ⟨rfl, b2⟩; have hB2 := Below.chain hB1 b2)
         | (go_at_call 70; refine (unhide HMUL _ ?_).mono ?_; exact (unhide HRR) _ (And.left (by assumption)); rintro e W5 ⟨rfl, b5⟩; have hB5 := Below.chain hB2 b5; have ra5 := hrw.out.ra.below hB5 (Nat.le_refl _); have rs5 := hrw.out.rs.below hB5 (Nat.le_refl _); have rm5 := hrw.out.rm.below hB5 (Nat.le_refl _); have ca := ra5.cell (j := b) (by rw [rowTo_len]; exact hbn); have cs := rs5.cell (j := b) (by rw [rowTo_len]; exact hbn); have cm := rm5.cell (j := b) (by rw [rowTo_len]; exact hbn); have fa := ra5.frozen b; have fs := rs5.frozen b; have fm := rm5.frozen b))
       obtain ⟨w6, hw6⟩ : ∃ w6, w6 = ((W5.setCell ⟨ga, b, none⟩ (.int .i64 X)).setCell ⟨gs, b, none⟩ (.int .i64 Y)).setCell ⟨gm, b, none⟩ (.int .i64 Z) := ⟨_, rfl⟩
       have a1 := ra5.set b X
       have m1 : ∀ {i j : Nat} {n c : Nat}, i ≠ j → (Value.ownBlock (.slice (some ⟨i, 0, none⟩) n c) = none ∨ Value.ownBlock (.slice (some ⟨i, 0, none⟩) n c) ≠ some j) := fun h => .inr (fun e => by simp only [Value.ownBlock, Option.some.injEq] at e; exact h e)
       have s1 := rs5.grow a1.2 (m1 (Ne.symm n1))
       have q1 := rm5.grow a1.2 (m1 (Ne.symm n2))
       have s2 := s1.set b Y
       have a2 := a1.1.grow s2.2 (m1 n1)
       have q2 := q1.grow s2.2 (m1 (Ne.symm n3))
       have q3 := q2.set b Z
       have a3 := a2.grow q3.2 (m1 n2)
       have s3 := s2.1.grow q3.2 (m1 n3)
       have kp6 : Kp wo w6 (gi + 1) wo.heap.size := by rw [hw6]; exact (((hrw.out.kp.trans (Kp.below hB5 hrw.out.kp.1)).setCell (.inr la) _).setCell (.inr ls) _).setCell (.inr lm) _
       have st6 : TbBase F ap cp w gt gi w6 vA vS vM (invIn F a (invTo F a) b) := by rw [hw6]; exact (((hst.out.below hB5).store (show gi < ga by omega) _ _).store (show gi < gs by omega) _ _).store (show gi < gm by omega) _ _
       rw [← hw6] at a3 s3 q3
       rw [HX.out] at a3
       rw [HY.out] at s3
       have q3' := q3.1
       rw [HZ.out] at q3'
       have rw6 : TbRows F (gi + 1) wo.heap.size wo w6 ga gs gm a (b + 1) := ⟨kp6, a3, s3, q3'⟩
       have cz : w6.cell? ⟨gm, b, none⟩ = some (.int .i64 Z) := by
        have := q3.1.cell (j := b) (by rw [List.length_set, rowTo_len]; exact hbn)
        rwa [nth_set_same (by rw [rowTo_len]; exact hbn)] at this
       have ct : w6.cell? ⟨gt, 4, none⟩ = some (.slice (some ⟨gi, 0, none⟩) F.n F.n) := st6.t.cell 4
       have ci := st6.i.cell (j := a) (by rw [invIn_len, invTo_len]; exact han)
       have fi := st6.i.frozen a
       have HW6 := Lib.hid hw6
       have ST6 := Lib.hid st6
       have RW6 := Lib.hid rw6
       rw [← HW6.out]
       clear hw6 a1 m1 s1 q1 s2 a2 q2 q3 a3 s3 q3' kp6 st6 rw6 ra5 rs5 rm5 ca cs cm fa fs fm hB5 hB1 hB2 BX KB HADD HSUB HMUL HRR HW6
       by_cases hz1 : Z = 1
       · have hzb : (Z == 1) = true := by rw [beq_iff_eq]; exact hz1
         have HZ1 := Lib.hid hz1
         clear hz1
         go_wp2
         go_roundw
         case rel =>
          have e1 : F.mul a b = 1 := by rw [← HZ.out]; exact HZ1.out
          refine ⟨b + 1, by go_num, by omega, ?_, ?_⟩
          · show TbBase _ _ _ _ _ _ _ _ _ _ _
            rw [invIn, if_pos e1]
            exact ST6.out.setInv a b
          · exact ⟨RW6.out.kp.setCell (.inl (show gi < gi + 1 by omega)) _, RW6.out.ra.storeBelow (show gi < _ by omega) _, RW6.out.rs.storeBelow (show gi < _ by omega) _, RW6.out.rm.storeBelow (show gi < _ by omega) _⟩
         case measure => simp only [intOf]; omega
       · have hzb : (Z == 1) = false := by rw [beq_eq_false_iff_ne]; exact hz1
         have HZ1 := Lib.hid hz1
         clear hz1
         go_wp2
         go_roundw
         case rel =>
          have e1 : ¬ F.mul a b = 1 := by rw [← HZ.out]; exact HZ1.out
          refine ⟨b + 1, by go_num, by omega, ?_, RW6.out⟩
          show TbBase _ _ _ _ _ _ _ _ _ _ _
          rw [invIn, if_neg e1]
          exact ST6.out
         case measure => simp only [intOf]; omega
     · have hbe : b = F.n := by omega
       subst hbe
       obtain ⟨wi, rfl⟩ : ∃ wi : World, wi = wr := ⟨_, rfl⟩
       have hra := hrw.out.ra
       have hrs := hrw.out.rs
       have hrm := hrw.out.rm
       rw [rowTo_all] at hra hrs hrm
       have hsti : TbBase F ap cp w gt gi wi vA vS vM (invTo F (a + 1)) := hst.out
       have kpi := hrw.out.kp
       have hszi := kpi.1
       have hA := htb.out.A.toH.kp kpi
       have hSx := htb.out.S.toH.kp kpi
       have hM := htb.out.M.toH.kp kpi
       have apAS := htb.out.AS
       have apAM := htb.out.AM
       have apSM := htb.out.SM
       go_wp2_with fail
       go_upto_region 13 with fail
       obtain ⟨wx, hwx⟩ : ∃ wx, wx = wi.drew := ⟨_, rfl⟩
       have stx : TbBase F ap cp w gt gi wx vA vS vM (invTo F (a + 1)) := by rw [hwx]; exact hsti.below (Below.drewn 1)
       have wtA : Wait F.add F.n a (gi + 1) wo.heap.size wx vA (.slice (some ⟨ga, 0, none⟩) F.n F.n) := by rw [hwx]; exact ⟨hA, hra⟩
       have wtS : Wait F.sub F.n a (gi + 1) wo.heap.size wx vS (.slice (some ⟨gs, 0, none⟩) F.n F.n) := by rw [hwx]; exact ⟨hSx, hrs⟩
       have wtM : Wait F.mul F.n a (gi + 1) wo.heap.size wx vM (.slice (some ⟨gm, 0, none⟩) F.n F.n) := by rw [hwx]; exact ⟨hM, hrm⟩
       have sg : Stage wx (gi + 1) wo.heap.size wx := ⟨Below.refl _ _, by rw [hwx]; exact hszi, lt0⟩
       have hi0 := sg.hiW
       have SX := hide (fun (W : World) (h : Below (gi + 1) wx W) => (show W.cell? ⟨gt, 1, none⟩ = some vA ∧ W.cell? ⟨gt, 2, none⟩ = some vS ∧ W.cell? ⟨gt, 3, none⟩ = some vM from
        ⟨(h.cell (p := ⟨gt, 1, none⟩) (show gt < gi + 1 by omega)).trans (stx.t.cell 1), (h.cell (p := ⟨gt, 2, none⟩) (show gt < gi + 1 by omega)).trans (stx.t.cell 2), (h.cell (p := ⟨gt, 3, none⟩) (show gt < gi + 1 by omega)).trans (stx.t.cell 3)⟩))
       have KA := hide (fun (W : World) (o : Obj) (h : W.cell? ⟨gt, 1, none⟩ = some vA ∧ W.cell? ⟨gt, 2, none⟩ = some vS ∧ W.cell? ⟨gt, 3, none⟩ = some vM) =>
        (show (W.alloc o).cell? ⟨gt, 1, none⟩ = some vA ∧ (W.alloc o).cell? ⟨gt, 2, none⟩ = some vS ∧ (W.alloc o).cell? ⟨gt, 3, none⟩ = some vM from
        ⟨(World.cell?_alloc_lt W o ⟨gt, 1, none⟩ (World.block_lt_of_cell? W _ h.1)).trans h.1, (World.cell?_alloc_lt W o ⟨gt, 2, none⟩ (World.block_lt_of_cell? W _ h.2.1)).trans h.2.1, (World.cell?_alloc_lt W o ⟨gt, 3, none⟩ (World.block_lt_of_cell? W _ h.2.2)).trans h.2.2⟩))
       have hS := (unhide SX) _ sg.low
       have hwl := hwx
       refine region_until (S := fun W => W.cell? ⟨gt, 1, none⟩ = some vA ∧ W.cell? ⟨gt, 2, none⟩ = some vS ∧ W.cell? ⟨gt, 3, none⟩ = some vM) (g := 16) (by kernel_rfl) ?_
       rw [← hwx]
       clear hwx hwl hA hSx hM hra hrs hrm hsti kpi hst hrw hbs htb ST4 RW4 f0 hmk
       refine anyU_pure (i := 0) (v := ?_) (by decide) rfl (by kernel_rfl) (by kernel_rfl) (by kernel_rfl) (fun _ _ _ h => h) (Or.inl ⟨by rfl, ?_⟩) (fun _ => hS) ?_
       rotate_left
       · (intro w _; go_simp; try with_reducible rfl)
       try simp only [Act.put, List.setIfInBounds_toArray, List.set_cons_zero, List.set_cons_succ]
       refine anyU_read (i := 1) (v := ?_) (by decide) rfl (by kernel_rfl) (by kernel_rfl) (by kernel_rfl) (fun _ _ _ h => h) (by kernel_rfl) (by kernel_rfl) (Or.inl ⟨by rfl, ?_⟩) hS ?_
       rotate_left
       · (intro w hSw; go_split_ands; go_simp; try with_reducible rfl)
       try simp only [Act.put, List.setIfInBounds_toArray, List.set_cons_zero, List.set_cons_succ]
       refine anyU_pure (i := 2) (v := ?_) (by decide) rfl (by kernel_rfl) (by kernel_rfl) (by kernel_rfl) (fun _ _ _ h => h) (Or.inl ⟨by rfl, ?_⟩) (fun _ => hS) ?_
       rotate_left
       · (intro w _; go_simp; try with_reducible rfl)
       try simp only [Act.put, List.setIfInBounds_toArray, List.set_cons_zero, List.set_cons_succ]
       refine anyU_pure (i := 5) (v := ?_) (by decide) rfl (by kernel_rfl) (by kernel_rfl) (by kernel_rfl) (fun _ _ _ h => h) (Or.inl ⟨by rfl, ?_⟩) (fun _ => hS) ?_
       rotate_left
       · (intro w _; go_simp; try with_reducible rfl)
       try simp only [Act.put, List.setIfInBounds_toArray, List.set_cons_zero, List.set_cons_succ]
       refine anyU_read (i := 6) (v := ?_) (by decide) rfl (by kernel_rfl) (by kernel_rfl) (by kernel_rfl) (fun _ _ _ h => h) (by kernel_rfl) (by kernel_rfl) (Or.inl ⟨by rfl, ?_⟩) hS ?_
       rotate_left
       · (intro w hSw; go_split_ands; go_simp; try with_reducible rfl)
       try simp only [Act.put, List.setIfInBounds_toArray, List.set_cons_zero, List.set_cons_succ]
       refine anyU_pure (i := 7) (v := ?_) (by decide) rfl (by kernel_rfl) (by kernel_rfl) (by kernel_rfl) (fun _ _ _ h => h) (Or.inl ⟨by rfl, ?_⟩) (fun _ => hS) ?_
       rotate_left
       · (intro w _; go_simp; try with_reducible rfl)
       try simp only [Act.put, List.setIfInBounds_toArray, List.set_cons_zero, List.set_cons_succ]
       refine anyU_pure (i := 10) (v := ?_) (by decide) rfl (by kernel_rfl) (by kernel_rfl) (by kernel_rfl) (fun _ _ _ h => h) (Or.inl ⟨by rfl, ?_⟩) (fun _ => hS) ?_
       rotate_left
       · (intro w _; go_simp; try with_reducible rfl)
       try simp only [Act.put, List.setIfInBounds_toArray, List.set_cons_zero, List.set_cons_succ]
       refine anyU_read (i := 11) (v := ?_) (by decide) rfl (by kernel_rfl) (by kernel_rfl) (by kernel_rfl) (fun _ _ _ h => h) (by kernel_rfl) (by kernel_rfl) (Or.inl ⟨by rfl, ?_⟩) hS ?_
       rotate_left
       · (intro w hSw; go_split_ands; go_simp; try with_reducible rfl)
       try simp only [Act.put, List.setIfInBounds_toArray, List.set_cons_zero, List.set_cons_succ]
       refine anyU_pure (i := 12) (v := ?_) (by decide) rfl (by kernel_rfl) (by kernel_rfl) (by kernel_rfl) (fun _ _ _ h => h) (Or.inl ⟨by rfl, ?_⟩) (fun _ => hS) ?_
       rotate_left
       · (intro w _; go_simp; try with_reducible rfl)
       try simp only [Act.put, List.setIfInBounds_toArray, List.set_cons_zero, List.set_cons_succ]
       refine anyU_next (rs := [3, 8, 13]) (by kernel_rfl) (by simp) ?_
       refine NextU.cons rfl (fun K hK => ?_) ?_
       · skip
         go_simp
         refine hK.out _ _ ((unhide KA) _ _ hS) (fun hS => ?_)
         clear hK K
         try simp only [Act.put, List.setIfInBounds_toArray, List.set_cons_zero, List.set_cons_succ]
         refine anyU_next (rs := [4, 8, 13]) (by kernel_rfl) (by simp) ?_
         refine NextU.cons rfl (fun K hK => ?_) ?_
         · skip
           refine step_append_row rfl (.tmp 69) (.tmp 71) rfl rfl (wtA.below ((Below.refl _ _).alloc (Nat.le_refl _) _) sg.hiW).T _ rfl ((Blk.new (g := (wx.heap.size)) _ 28 #[(.slice (some ⟨ga, 0, none⟩) F.n F.n)] rfl).cell 0) (wtA.below ((Below.refl _ _).alloc (Nat.le_refl _) _) sg.hiW).r sg.Bh (sg.below ((Below.refl _ _).alloc (Nat.le_refl _) _)).hiW (by rw [rowsTo_len]; omega) ?_
           intro vA' W1 oA hgA hbA
           obtain ⟨usA, hOA⟩ := (wtA.below ((Below.refl _ _).alloc (Nat.le_refl _) _) sg.hiW).T.outer
           have wtS := (wtS.below ((Below.refl _ _).alloc (Nat.le_refl _) _) sg.hiW).grow hOA hgA apAS
           have wtM := (wtM.below ((Below.refl _ _).alloc (Nat.le_refl _) _) sg.hiW).grow hOA hgA apAM
           have apAS := apAS.grown hbA wtS.T.in_ (sg.below ((Below.refl _ _).alloc (Nat.le_refl _) _)).hiW
           have apAM := apAM.grown hbA wtM.T.in_ (sg.below ((Below.refl _ _).alloc (Nat.le_refl _) _)).hiW
           rw [← rowsTo_succ] at oA
           have ownA := oA
           have sgn := (sg.below ((Below.refl _ _).alloc (Nat.le_refl _) _)).grow hgA wtA.T.in_
           have sg := sgn
           have hi1 := sg.hiW
           have hSn := (unhide SX) _ sg.low
           refine hK.out _ _ hSn (fun hS => ?_)
           clear hK K
           try simp only [Act.put, List.setIfInBounds_toArray, List.set_cons_zero, List.set_cons_succ]
           refine anyU_pure (i := 15) (v := ?_) (by decide) rfl (by kernel_rfl) (by kernel_rfl) (by kernel_rfl) (fun _ _ _ h => h) (Or.inl ⟨by rfl, ?_⟩) (fun _ => hS) ?_
           rotate_left
           · (intro w _; go_simp; try with_reducible rfl)
           try simp only [Act.put, List.setIfInBounds_toArray, List.set_cons_zero, List.set_cons_succ]
           refine anyU_next (rs := [8, 13]) (by kernel_rfl) (by simp) ?_
           refine NextU.cons rfl (fun K hK => ?_) ?_
           · skip
             go_simp
             refine hK.out _ _ ((unhide KA) _ _ hS) (fun hS => ?_)
             clear hK K
             try simp only [Act.put, List.setIfInBounds_toArray, List.set_cons_zero, List.set_cons_succ]
             refine anyU_next (rs := [9, 13]) (by kernel_rfl) (by simp) ?_
             refine NextU.cons rfl (fun K hK => ?_) ?_
             · skip
               refine step_append_row rfl (.tmp 74) (.tmp 76) rfl rfl (wtS.below ((Below.refl _ _).alloc (Nat.le_refl _) _) sg.hiW).T _ rfl ((Blk.new (g := (W1.heap.size)) _ 28 #[(.slice (some ⟨gs, 0, none⟩) F.n F.n)] rfl).cell 0) (wtS.below ((Below.refl _ _).alloc (Nat.le_refl _) _) sg.hiW).r sg.Bh (sg.below ((Below.refl _ _).alloc (Nat.le_refl _) _)).hiW (by rw [rowsTo_len]; omega) ?_
               intro vS' W2 oS hgS hbS
               obtain ⟨usS, hOS⟩ := (wtS.below ((Below.refl _ _).alloc (Nat.le_refl _) _) sg.hiW).T.outer
               have wtM := (wtM.below ((Below.refl _ _).alloc (Nat.le_refl _) _) sg.hiW).grow hOS hgS apSM
               have apSM := apSM.grown hbS wtM.T.in_ (sg.below ((Below.refl _ _).alloc (Nat.le_refl _) _)).hiW
               have anAS := (apAS.symm.grown hbS (ownA.below ((Below.refl _ _).alloc (Nat.le_refl _) _) (Nat.le_refl _)).in_ (Nat.le_refl _)).symm
               have ownA := Ap.grow_own (ownA.below ((Below.refl _ _).alloc (Nat.le_refl _) _) (Nat.le_refl _)) hOS hgS apAS.symm
               have apAS := anAS
               rw [← rowsTo_succ] at oS
               have ownS := oS
               have sgn := (sg.below ((Below.refl _ _).alloc (Nat.le_refl _) _)).grow hgS wtS.T.in_
               have sg := sgn
               have hi2 := sg.hiW
               have hSn := (unhide SX) _ sg.low
               refine hK.out _ _ hSn (fun hS => ?_)
               clear hK K
               try simp only [Act.put, List.setIfInBounds_toArray, List.set_cons_zero, List.set_cons_succ]
               refine anyU_next (rs := [13]) (by kernel_rfl) (by simp) ?_
               refine NextU.cons rfl (fun K hK => ?_) ?_
               · skip
                 go_simp
                 refine hK.out _ _ ((unhide KA) _ _ hS) (fun hS => ?_)
                 clear hK K
                 try simp only [Act.put, List.setIfInBounds_toArray, List.set_cons_zero, List.set_cons_succ]
                 refine anyU_next (rs := [14]) (by kernel_rfl) (by simp) ?_
                 refine NextU.cons rfl (fun K hK => ?_) ?_
                 · skip
                   refine step_append_row rfl (.tmp 79) (.tmp 81) rfl rfl (wtM.below ((Below.refl _ _).alloc (Nat.le_refl _) _) sg.hiW).T _ rfl ((Blk.new (g := (W2.heap.size)) _ 28 #[(.slice (some ⟨gm, 0, none⟩) F.n F.n)] rfl).cell 0) (wtM.below ((Below.refl _ _).alloc (Nat.le_refl _) _) sg.hiW).r sg.Bh (sg.below ((Below.refl _ _).alloc (Nat.le_refl _) _)).hiW (by rw [rowsTo_len]; omega) ?_
                   intro vM' W3 oM hgM hbM
                   obtain ⟨usM, hOM⟩ := (wtM.below ((Below.refl _ _).alloc (Nat.le_refl _) _) sg.hiW).T.outer
                   have anAM := (apAM.symm.grown hbM (ownA.below ((Below.refl _ _).alloc (Nat.le_refl _) _) (Nat.le_refl _)).in_ (Nat.le_refl _)).symm
                   have ownA := Ap.grow_own (ownA.below ((Below.refl _ _).alloc (Nat.le_refl _) _) (Nat.le_refl _)) hOM hgM apAM.symm
                   have apAM := anAM
                   have anSM := (apSM.symm.grown hbM (ownS.below ((Below.refl _ _).alloc (Nat.le_refl _) _) (Nat.le_refl _)).in_ (Nat.le_refl _)).symm
                   have ownS := Ap.grow_own (ownS.below ((Below.refl _ _).alloc (Nat.le_refl _) _) (Nat.le_refl _)) hOM hgM apSM.symm
                   have apSM := anSM
                   rw [← rowsTo_succ] at oM
                   have ownM := oM
                   have sgn := (sg.below ((Below.refl _ _).alloc (Nat.le_refl _) _)).grow hgM wtM.T.in_
                   have sg := sgn
                   have hi3 := sg.hiW
                   have hSn := (unhide SX) _ sg.low
                   refine hK.out _ _ hSn (fun hS => ?_)
                   clear hK K
                   try simp only [Act.put, List.setIfInBounds_toArray, List.set_cons_zero, List.set_cons_succ]
                   have stn := stx.low sg.low
                   obtain ⟨aA', cA', rfl, _⟩ := ownA.form
                   obtain ⟨aS', cS', rfl, _⟩ := ownS.form
                   obtain ⟨aM', cM', rfl, _⟩ := ownM.form
                   have c1 : W3.cell? ⟨gt, 1, none⟩ = some vA := stn.t.cell 1
                   have z1 := stn.t.frozen 1
                   have c2 : W3.cell? ⟨gt, 2, none⟩ = some vS := stn.t.cell 2
                   have z2 := stn.t.frozen 2
                   have c3 : W3.cell? ⟨gt, 3, none⟩ = some vM := stn.t.cell 3
                   have z3 := stn.t.frozen 3
                   refine anyU_next (rs := [16]) (by kernel_rfl) (by simp) ?_
                   refine NextU.free (by kernel_rfl) rfl (fun K hK => ?_) NextU.nil
                   go_simp
                   refine hK.out _ _ ?_
                   clear hK K
                   try simp only [Act.put, List.setIfInBounds_toArray, List.set_cons_zero, List.set_cons_succ]
                   refine anyU_pure (i := 17) (v := ?_) (by decide) rfl (by kernel_rfl) (by kernel_rfl) (by kernel_rfl) (fun _ _ _ h => h) (Or.inl ⟨by rfl, ?_⟩) (fun e => absurd e (by decide)) ?_
                   rotate_left
                   · (intro w _; go_simp; try with_reducible rfl)
                   try simp only [Act.put, List.setIfInBounds_toArray, List.set_cons_zero, List.set_cons_succ]
                   refine anyU_next (rs := [18]) (by kernel_rfl) (by simp) ?_
                   refine NextU.free (by kernel_rfl) rfl (fun K hK => ?_) NextU.nil
                   go_simp
                   refine hK.out _ _ ?_
                   clear hK K
                   try simp only [Act.put, List.setIfInBounds_toArray, List.set_cons_zero, List.set_cons_succ]
                   refine anyU_pure (i := 19) (v := ?_) (by decide) rfl (by kernel_rfl) (by kernel_rfl) (by kernel_rfl) (fun _ _ _ h => h) (Or.inl ⟨by rfl, ?_⟩) (fun e => absurd e (by decide)) ?_
                   rotate_left
                   · (intro w _; go_simp; try with_reducible rfl)
                   try simp only [Act.put, List.setIfInBounds_toArray, List.set_cons_zero, List.set_cons_succ]
                   refine anyU_next (rs := [20]) (by kernel_rfl) (by simp) ?_
                   refine NextU.free (by kernel_rfl) rfl (fun K hK => ?_) NextU.nil
                   go_simp
                   refine hK.out _ _ ?_
                   clear hK K
                   try simp only [Act.put, List.setIfInBounds_toArray, List.set_cons_zero, List.set_cons_succ]
                   refine anyU_done (by kernel_rfl) ?_
                   obtain ⟨wz, hwz⟩ : ∃ wz, wz = ((W3.setCell ⟨gt, 1, none⟩ (.slice aA' (rowsTo F.add F.n (a + 1)).length cA')).setCell ⟨gt, 2, none⟩ (.slice aS' (rowsTo F.sub F.n (a + 1)).length cS')).setCell ⟨gt, 3, none⟩ (.slice aM' (rowsTo F.mul F.n (a + 1)).length cM') := ⟨_, rfl⟩
                   have dn : Done13 F ap cp w gt gi (invTo F (a + 1)) (a + 1) wz := by rw [hwz]; exact done13 stn ownA ownS ownM apAS apAM apSM
                   rw [← hwz]
                   have DN := Lib.hid dn
                   clear dn hwz c1 c2 c3 z1 z2 z3 stn ownA ownS ownM
                   go_wp2
                   go_roundw
                   case rel =>
                    obtain ⟨wA, wS, wM, d1, d2⟩ := DN.out
                    exact ⟨a + 1, wA, wS, wM, by go_num, by omega, d1, d2⟩
                   case measure => simp only [intOf]; omega
                 exact NextU.nil
               exact NextU.nil
             refine NextU.cons rfl (fun K hK => ?_) ?_
             · skip
               go_simp
               refine hK.out _ _ ((unhide KA) _ _ hS) (fun hS => ?_)
               clear hK K
               try simp only [Act.put, List.setIfInBounds_toArray, List.set_cons_zero, List.set_cons_succ]
               refine anyU_next (rs := [9]) (by kernel_rfl) (by simp) ?_
               refine NextU.cons rfl (fun K hK => ?_) ?_
               · skip
                 refine step_append_row rfl (.tmp 74) (.tmp 76) rfl rfl (wtS.below (((Below.refl _ _).alloc (Nat.le_refl _) _).alloc (by simp) _) sg.hiW).T _ rfl (((Blk.new (g := (W1.heap.size)) _ 28 #[(.slice (some ⟨gs, 0, none⟩) F.n F.n)] rfl).alloc _).cell 0) (wtS.below (((Below.refl _ _).alloc (Nat.le_refl _) _).alloc (by simp) _) sg.hiW).r sg.Bh (sg.below (((Below.refl _ _).alloc (Nat.le_refl _) _).alloc (by simp) _)).hiW (by rw [rowsTo_len]; omega) ?_
                 intro vS' W2 oS hgS hbS
                 obtain ⟨usS, hOS⟩ := (wtS.below (((Below.refl _ _).alloc (Nat.le_refl _) _).alloc (by simp) _) sg.hiW).T.outer
                 have bkM := (Blk.new (g := (W1.heap.size + 1)) _ 28 #[(.slice (some ⟨gm, 0, none⟩) F.n F.n)] (by simp)).grown hgS (fun e => by have hh := wtS.T.in_ _ e; omega)
                 have wtM := (wtM.below (((Below.refl _ _).alloc (Nat.le_refl _) _).alloc (by simp) _) sg.hiW).grow hOS hgS apSM
                 have apSM := apSM.grown hbS wtM.T.in_ (sg.below (((Below.refl _ _).alloc (Nat.le_refl _) _).alloc (by simp) _)).hiW
                 have anAS := (apAS.symm.grown hbS (ownA.below (((Below.refl _ _).alloc (Nat.le_refl _) _).alloc (by simp) _) (Nat.le_refl _)).in_ (Nat.le_refl _)).symm
                 have ownA := Ap.grow_own (ownA.below (((Below.refl _ _).alloc (Nat.le_refl _) _).alloc (by simp) _) (Nat.le_refl _)) hOS hgS apAS.symm
                 have apAS := anAS
                 rw [← rowsTo_succ] at oS
                 have ownS := oS
                 have sgn := (sg.below (((Below.refl _ _).alloc (Nat.le_refl _) _).alloc (by simp) _)).grow hgS wtS.T.in_
                 have sg := sgn
                 have hi2 := sg.hiW
                 have hSn := (unhide SX) _ sg.low
                 refine hK.out _ _ hSn (fun hS => ?_)
                 clear hK K
                 try simp only [Act.put, List.setIfInBounds_toArray, List.set_cons_zero, List.set_cons_succ]
                 refine anyU_next (rs := [14]) (by kernel_rfl) (by simp) ?_
                 refine NextU.cons rfl (fun K hK => ?_) ?_
                 · skip
                   refine step_append_row rfl (.tmp 79) (.tmp 81) rfl rfl (wtM.below (Below.refl _ _) sg.hiW).T _ rfl (bkM.cell 0) (wtM.below (Below.refl _ _) sg.hiW).r sg.Bh (sg.below (Below.refl _ _)).hiW (by rw [rowsTo_len]; omega) ?_
                   intro vM' W3 oM hgM hbM
                   obtain ⟨usM, hOM⟩ := (wtM.below (Below.refl _ _) sg.hiW).T.outer
                   have anAM := (apAM.symm.grown hbM (ownA.below (Below.refl _ _) (Nat.le_refl _)).in_ (Nat.le_refl _)).symm
                   have ownA := Ap.grow_own (ownA.below (Below.refl _ _) (Nat.le_refl _)) hOM hgM apAM.symm
                   have apAM := anAM
                   have anSM := (apSM.symm.grown hbM (ownS.below (Below.refl _ _) (Nat.le_refl _)).in_ (Nat.le_refl _)).symm
                   have ownS := Ap.grow_own (ownS.below (Below.refl _ _) (Nat.le_refl _)) hOM hgM apSM.symm
                   have apSM := anSM
                   rw [← rowsTo_succ] at oM
                   have ownM := oM
                   have sgn := (sg.below (Below.refl _ _)).grow hgM wtM.T.in_
                   have sg := sgn
                   have hi3 := sg.hiW
                   have hSn := (unhide SX) _ sg.low
                   refine hK.out _ _ hSn (fun hS => ?_)
                   clear hK K
                   try simp only [Act.put, List.setIfInBounds_toArray, List.set_cons_zero, List.set_cons_succ]
                   have stn := stx.low sg.low
                   obtain ⟨aA', cA', rfl, _⟩ := ownA.form
                   obtain ⟨aS', cS', rfl, _⟩ := ownS.form
                   obtain ⟨aM', cM', rfl, _⟩ := ownM.form
                   have c1 : W3.cell? ⟨gt, 1, none⟩ = some vA := stn.t.cell 1
                   have z1 := stn.t.frozen 1
                   have c2 : W3.cell? ⟨gt, 2, none⟩ = some vS := stn.t.cell 2
                   have z2 := stn.t.frozen 2
                   have c3 : W3.cell? ⟨gt, 3, none⟩ = some vM := stn.t.cell 3
                   have z3 := stn.t.frozen 3
                   refine anyU_next (rs := [16]) (by kernel_rfl) (by simp) ?_
                   refine NextU.free (by kernel_rfl) rfl (fun K hK => ?_) NextU.nil
                   go_simp
                   refine hK.out _ _ ?_
                   clear hK K
                   try simp only [Act.put, List.setIfInBounds_toArray, List.set_cons_zero, List.set_cons_succ]
                   refine anyU_pure (i := 17) (v := ?_) (by decide) rfl (by kernel_rfl) (by kernel_rfl) (by kernel_rfl) (fun _ _ _ h => h) (Or.inl ⟨by rfl, ?_⟩) (fun e => absurd e (by decide)) ?_
                   rotate_left
                   · (intro w _; go_simp; try with_reducible rfl)
                   try simp only [Act.put, List.setIfInBounds_toArray, List.set_cons_zero, List.set_cons_succ]
                   refine anyU_next (rs := [18]) (by kernel_rfl) (by simp) ?_
                   refine NextU.free (by kernel_rfl) rfl (fun K hK => ?_) NextU.nil
                   go_simp
                   refine hK.out _ _ ?_
                   clear hK K
                   try simp only [Act.put, List.setIfInBounds_toArray, List.set_cons_zero, List.set_cons_succ]
                   refine anyU_pure (i := 19) (v := ?_) (by decide) rfl (by kernel_rfl) (by kernel_rfl) (by kernel_rfl) (fun _ _ _ h => h) (Or.inl ⟨by rfl, ?_⟩) (fun e => absurd e (by decide)) ?_
                   rotate_left
                   · (intro w _; go_simp; try with_reducible rfl)
                   try simp only [Act.put, List.setIfInBounds_toArray, List.set_cons_zero, List.set_cons_succ]
                   refine anyU_next (rs := [20]) (by kernel_rfl) (by simp) ?_
                   refine NextU.free (by kernel_rfl) rfl (fun K hK => ?_) NextU.nil
                   go_simp
                   refine hK.out _ _ ?_
                   clear hK K
                   try simp only [Act.put, List.setIfInBounds_toArray, List.set_cons_zero, List.set_cons_succ]
                   refine anyU_done (by kernel_rfl) ?_
                   obtain ⟨wz, hwz⟩ : ∃ wz, wz = ((W3.setCell ⟨gt, 1, none⟩ (.slice aA' (rowsTo F.add F.n (a + 1)).length cA')).setCell ⟨gt, 2, none⟩ (.slice aS' (rowsTo F.sub F.n (a + 1)).length cS')).setCell ⟨gt, 3, none⟩ (.slice aM' (rowsTo F.mul F.n (a + 1)).length cM') := ⟨_, rfl⟩
                   have dn : Done13 F ap cp w gt gi (invTo F (a + 1)) (a + 1) wz := by rw [hwz]; exact done13 stn ownA ownS ownM apAS apAM apSM
                   rw [← hwz]
                   have DN := Lib.hid dn
                   clear dn hwz c1 c2 c3 z1 z2 z3 stn ownA ownS ownM
                   go_wp2
                   go_roundw
                   case rel =>
                    obtain ⟨wA, wS, wM, d1, d2⟩ := DN.out
                    exact ⟨a + 1, wA, wS, wM, by go_num, by omega, d1, d2⟩
                   case measure => simp only [intOf]; omega
                 exact NextU.nil
               exact NextU.nil
             exact NextU.nil
           refine NextU.cons rfl (fun K hK => ?_) ?_
           · skip
             go_simp
             refine hK.out _ _ ((unhide KA) _ _ hS) (fun hS => ?_)
             clear hK K
             try simp only [Act.put, List.setIfInBounds_toArray, List.set_cons_zero, List.set_cons_succ]
             refine anyU_next (rs := [8]) (by kernel_rfl) (by simp) ?_
             refine NextU.cons rfl (fun K hK => ?_) ?_
             · skip
               go_simp
               refine hK.out _ _ ((unhide KA) _ _ hS) (fun hS => ?_)
               clear hK K
               try simp only [Act.put, List.setIfInBounds_toArray, List.set_cons_zero, List.set_cons_succ]
               refine anyU_next (rs := [9]) (by kernel_rfl) (by simp) ?_
               refine NextU.cons rfl (fun K hK => ?_) ?_
               · skip
                 refine step_append_row rfl (.tmp 74) (.tmp 76) rfl rfl (wtS.below (((Below.refl _ _).alloc (Nat.le_refl _) _).alloc (by simp) _) sg.hiW).T _ rfl ((Blk.new (g := (W1.heap.size + 1)) _ 28 #[(.slice (some ⟨gs, 0, none⟩) F.n F.n)] (by simp)).cell 0) (wtS.below (((Below.refl _ _).alloc (Nat.le_refl _) _).alloc (by simp) _) sg.hiW).r sg.Bh (sg.below (((Below.refl _ _).alloc (Nat.le_refl _) _).alloc (by simp) _)).hiW (by rw [rowsTo_len]; omega) ?_
                 intro vS' W2 oS hgS hbS
                 obtain ⟨usS, hOS⟩ := (wtS.below (((Below.refl _ _).alloc (Nat.le_refl _) _).alloc (by simp) _) sg.hiW).T.outer
                 have bkM := ((Blk.new (g := (W1.heap.size)) _ 28 #[(.slice (some ⟨gm, 0, none⟩) F.n F.n)] rfl).alloc _).grown hgS (fun e => by have hh := wtS.T.in_ _ e; omega)
                 have wtM := (wtM.below (((Below.refl _ _).alloc (Nat.le_refl _) _).alloc (by simp) _) sg.hiW).grow hOS hgS apSM
                 have apSM := apSM.grown hbS wtM.T.in_ (sg.below (((Below.refl _ _).alloc (Nat.le_refl _) _).alloc (by simp) _)).hiW
                 have anAS := (apAS.symm.grown hbS (ownA.below (((Below.refl _ _).alloc (Nat.le_refl _) _).alloc (by simp) _) (Nat.le_refl _)).in_ (Nat.le_refl _)).symm
                 have ownA := Ap.grow_own (ownA.below (((Below.refl _ _).alloc (Nat.le_refl _) _).alloc (by simp) _) (Nat.le_refl _)) hOS hgS apAS.symm
                 have apAS := anAS
                 rw [← rowsTo_succ] at oS
                 have ownS := oS
                 have sgn := (sg.below (((Below.refl _ _).alloc (Nat.le_refl _) _).alloc (by simp) _)).grow hgS wtS.T.in_
                 have sg := sgn
                 have hi2 := sg.hiW
                 have hSn := (unhide SX) _ sg.low
                 refine hK.out _ _ hSn (fun hS => ?_)
                 clear hK K
                 try simp only [Act.put, List.setIfInBounds_toArray, List.set_cons_zero, List.set_cons_succ]
                 refine anyU_next (rs := [14]) (by kernel_rfl) (by simp) ?_
                 refine NextU.cons rfl (fun K hK => ?_) ?_
                 · skip
                   refine step_append_row rfl (.tmp 79) (.tmp 81) rfl rfl (wtM.below (Below.refl _ _) sg.hiW).T _ rfl (bkM.cell 0) (wtM.below (Below.refl _ _) sg.hiW).r sg.Bh (sg.below (Below.refl _ _)).hiW (by rw [rowsTo_len]; omega) ?_
                   intro vM' W3 oM hgM hbM
                   obtain ⟨usM, hOM⟩ := (wtM.below (Below.refl _ _) sg.hiW).T.outer
                   have anAM := (apAM.symm.grown hbM (ownA.below (Below.refl _ _) (Nat.le_refl _)).in_ (Nat.le_refl _)).symm
                   have ownA := Ap.grow_own (ownA.below (Below.refl _ _) (Nat.le_refl _)) hOM hgM apAM.symm
                   have apAM := anAM
                   have anSM := (apSM.symm.grown hbM (ownS.below (Below.refl _ _) (Nat.le_refl _)).in_ (Nat.le_refl _)).symm
                   have ownS := Ap.grow_own (ownS.below (Below.refl _ _) (Nat.le_refl _)) hOM hgM apSM.symm
                   have apSM := anSM
                   rw [← rowsTo_succ] at oM
                   have ownM := oM
                   have sgn := (sg.below (Below.refl _ _)).grow hgM wtM.T.in_
                   have sg := sgn
                   have hi3 := sg.hiW
                   have hSn := (unhide SX) _ sg.low
                   refine hK.out _ _ hSn (fun hS => ?_)
                   clear hK K
                   try simp only [Act.put, List.setIfInBounds_toArray, List.set_cons_zero, List.set_cons_succ]
                   have stn := stx.low sg.low
                   obtain ⟨aA', cA', rfl, _⟩ := ownA.form
                   obtain ⟨aS', cS', rfl, _⟩ := ownS.form
                   obtain ⟨aM', cM', rfl, _⟩ := ownM.form
                   have c1 : W3.cell? ⟨gt, 1, none⟩ = some vA := stn.t.cell 1
                   have z1 := stn.t.frozen 1
                   have c2 : W3.cell? ⟨gt, 2, none⟩ = some vS := stn.t.cell 2
                   have z2 := stn.t.frozen 2
                   have c3 : W3.cell? ⟨gt, 3, none⟩ = some vM := stn.t.cell 3
                   have z3 := stn.t.frozen 3
                   refine anyU_next (rs := [16]) (by kernel_rfl) (by simp) ?_
                   refine NextU.free (by kernel_rfl) rfl (fun K hK => ?_) NextU.nil
                   go_simp
                   refine hK.out _ _ ?_
                   clear hK K
                   try simp only [Act.put, List.setIfInBounds_toArray, List.set_cons_zero, List.set_cons_succ]
                   refine anyU_pure (i := 17) (v := ?_) (by decide) rfl (by kernel_rfl) (by kernel_rfl) (by kernel_rfl) (fun _ _ _ h => h) (Or.inl ⟨by rfl, ?_⟩) (fun e => absurd e (by decide)) ?_
                   rotate_left
                   · (intro w _; go_simp; try with_reducible rfl)
                   try simp only [Act.put, List.setIfInBounds_toArray, List.set_cons_zero, List.set_cons_succ]
                   refine anyU_next (rs := [18]) (by kernel_rfl) (by simp) ?_
                   refine NextU.free (by kernel_rfl) rfl (fun K hK => ?_) NextU.nil
                   go_simp
                   refine hK.out _ _ ?_
                   clear hK K
                   try simp only [Act.put, List.setIfInBounds_toArray, List.set_cons_zero, List.set_cons_succ]
                   refine anyU_pure (i := 19) (v := ?_) (by decide) rfl (by kernel_rfl) (by kernel_rfl) (by kernel_rfl) (fun _ _ _ h => h) (Or.inl ⟨by rfl, ?_⟩) (fun e => absurd e (by decide)) ?_
                   rotate_left
                   · (intro w _; go_simp; try with_reducible rfl)
                   try simp only [Act.put, List.setIfInBounds_toArray, List.set_cons_zero, List.set_cons_succ]
                   refine anyU_next (rs := [20]) (by kernel_rfl) (by simp) ?_
                   refine NextU.free (by kernel_rfl) rfl (fun K hK => ?_) NextU.nil
                   go_simp
                   refine hK.out _ _ ?_
                   clear hK K
                   try simp only [Act.put, List.setIfInBounds_toArray, List.set_cons_zero, List.set_cons_succ]
                   refine anyU_done (by kernel_rfl) ?_
                   obtain ⟨wz, hwz⟩ : ∃ wz, wz = ((W3.setCell ⟨gt, 1, none⟩ (.slice aA' (rowsTo F.add F.n (a + 1)).length cA')).setCell ⟨gt, 2, none⟩ (.slice aS' (rowsTo F.sub F.n (a + 1)).length cS')).setCell ⟨gt, 3, none⟩ (.slice aM' (rowsTo F.mul F.n (a + 1)).length cM') := ⟨_, rfl⟩
                   have dn : Done13 F ap cp w gt gi (invTo F (a + 1)) (a + 1) wz := by rw [hwz]; exact done13 stn ownA ownS ownM apAS apAM apSM
                   rw [← hwz]
                   have DN := Lib.hid dn
                   clear dn hwz c1 c2 c3 z1 z2 z3 stn ownA ownS ownM
                   go_wp2
                   go_roundw
                   case rel =>
                    obtain ⟨wA, wS, wM, d1, d2⟩ := DN.out
                    exact ⟨a + 1, wA, wS, wM, by go_num, by omega, d1, d2⟩
                   case measure => simp only [intOf]; omega
                 exact NextU.nil
               exact NextU.nil
             exact NextU.nil
           exact NextU.nil
         refine NextU.cons rfl (fun K hK => ?_) ?_
         · skip
           go_simp
           refine hK.out _ _ ((unhide KA) _ _ hS) (fun hS => ?_)
           clear hK K
           try simp only [Act.put, List.setIfInBounds_toArray, List.set_cons_zero, List.set_cons_succ]
           refine anyU_next (rs := [4, 13]) (by kernel_rfl) (by simp) ?_
           refine NextU.cons rfl (fun K hK => ?_) ?_
           · skip
             refine step_append_row rfl (.tmp 69) (.tmp 71) rfl rfl (wtA.below (((Below.refl _ _).alloc (Nat.le_refl _) _).alloc (by simp) _) sg.hiW).T _ rfl (((Blk.new (g := (wx.heap.size)) _ 28 #[(.slice (some ⟨ga, 0, none⟩) F.n F.n)] rfl).alloc _).cell 0) (wtA.below (((Below.refl _ _).alloc (Nat.le_refl _) _).alloc (by simp) _) sg.hiW).r sg.Bh (sg.below (((Below.refl _ _).alloc (Nat.le_refl _) _).alloc (by simp) _)).hiW (by rw [rowsTo_len]; omega) ?_
             intro vA' W1 oA hgA hbA
             obtain ⟨usA, hOA⟩ := (wtA.below (((Below.refl _ _).alloc (Nat.le_refl _) _).alloc (by simp) _) sg.hiW).T.outer
             have bkS := (Blk.new (g := (wx.heap.size + 1)) _ 28 #[(.slice (some ⟨gs, 0, none⟩) F.n F.n)] (by simp)).grown hgA (fun e => by have hh := wtA.T.in_ _ e; omega)
             have wtS := (wtS.below (((Below.refl _ _).alloc (Nat.le_refl _) _).alloc (by simp) _) sg.hiW).grow hOA hgA apAS
             have wtM := (wtM.below (((Below.refl _ _).alloc (Nat.le_refl _) _).alloc (by simp) _) sg.hiW).grow hOA hgA apAM
             have apAS := apAS.grown hbA wtS.T.in_ (sg.below (((Below.refl _ _).alloc (Nat.le_refl _) _).alloc (by simp) _)).hiW
             have apAM := apAM.grown hbA wtM.T.in_ (sg.below (((Below.refl _ _).alloc (Nat.le_refl _) _).alloc (by simp) _)).hiW
             rw [← rowsTo_succ] at oA
             have ownA := oA
             have sgn := (sg.below (((Below.refl _ _).alloc (Nat.le_refl _) _).alloc (by simp) _)).grow hgA wtA.T.in_
             have sg := sgn
             have hi1 := sg.hiW
             have hSn := (unhide SX) _ sg.low
             refine hK.out _ _ hSn (fun hS => ?_)
             clear hK K
             try simp only [Act.put, List.setIfInBounds_toArray, List.set_cons_zero, List.set_cons_succ]
             refine anyU_pure (i := 15) (v := ?_) (by decide) rfl (by kernel_rfl) (by kernel_rfl) (by kernel_rfl) (fun _ _ _ h => h) (Or.inl ⟨by rfl, ?_⟩) (fun _ => hS) ?_
             rotate_left
             · (intro w _; go_simp; try with_reducible rfl)
             try simp only [Act.put, List.setIfInBounds_toArray, List.set_cons_zero, List.set_cons_succ]
             refine anyU_next (rs := [9, 13]) (by kernel_rfl) (by simp) ?_
             refine NextU.cons rfl (fun K hK => ?_) ?_
             · skip
               refine step_append_row rfl (.tmp 74) (.tmp 76) rfl rfl (wtS.below (Below.refl _ _) sg.hiW).T _ rfl (bkS.cell 0) (wtS.below (Below.refl _ _) sg.hiW).r sg.Bh (sg.below (Below.refl _ _)).hiW (by rw [rowsTo_len]; omega) ?_
               intro vS' W2 oS hgS hbS
               obtain ⟨usS, hOS⟩ := (wtS.below (Below.refl _ _) sg.hiW).T.outer
               have wtM := (wtM.below (Below.refl _ _) sg.hiW).grow hOS hgS apSM
               have apSM := apSM.grown hbS wtM.T.in_ (sg.below (Below.refl _ _)).hiW
               have anAS := (apAS.symm.grown hbS (ownA.below (Below.refl _ _) (Nat.le_refl _)).in_ (Nat.le_refl _)).symm
               have ownA := Ap.grow_own (ownA.below (Below.refl _ _) (Nat.le_refl _)) hOS hgS apAS.symm
               have apAS := anAS
               rw [← rowsTo_succ] at oS
               have ownS := oS
               have sgn := (sg.below (Below.refl _ _)).grow hgS wtS.T.in_
               have sg := sgn
               have hi2 := sg.hiW
               have hSn := (unhide SX) _ sg.low
               refine hK.out _ _ hSn (fun hS => ?_)
               clear hK K
               try simp only [Act.put, List.setIfInBounds_toArray, List.set_cons_zero, List.set_cons_succ]
               refine anyU_next (rs := [13]) (by kernel_rfl) (by simp) ?_
               refine NextU.cons rfl (fun K hK => ?_) ?_
               · skip
                 go_simp
                 refine hK.out _ _ ((unhide KA) _ _ hS) (fun hS => ?_)
                 clear hK K
                 try simp only [Act.put, List.setIfInBounds_toArray, List.set_cons_zero, List.set_cons_succ]
                 refine anyU_next (rs := [14]) (by kernel_rfl) (by simp) ?_
                 refine NextU.cons rfl (fun K hK => ?_) ?_
                 · skip
                   refine step_append_row rfl (.tmp 79) (.tmp 81) rfl rfl (wtM.below ((Below.refl _ _).alloc (Nat.le_refl _) _) sg.hiW).T _ rfl ((Blk.new (g := (W2.heap.size)) _ 28 #[(.slice (some ⟨gm, 0, none⟩) F.n F.n)] rfl).cell 0) (wtM.below ((Below.refl _ _).alloc (Nat.le_refl _) _) sg.hiW).r sg.Bh (sg.below ((Below.refl _ _).alloc (Nat.le_refl _) _)).hiW (by rw [rowsTo_len]; omega) ?_
                   intro vM' W3 oM hgM hbM
                   obtain ⟨usM, hOM⟩ := (wtM.below ((Below.refl _ _).alloc (Nat.le_refl _) _) sg.hiW).T.outer
                   have anAM := (apAM.symm.grown hbM (ownA.below ((Below.refl _ _).alloc (Nat.le_refl _) _) (Nat.le_refl _)).in_ (Nat.le_refl _)).symm
                   have ownA := Ap.grow_own (ownA.below ((Below.refl _ _).alloc (Nat.le_refl _) _) (Nat.le_refl _)) hOM hgM apAM.symm
                   have apAM := anAM
                   have anSM := (apSM.symm.grown hbM (ownS.below ((Below.refl _ _).alloc (Nat.le_refl _) _) (Nat.le_refl _)).in_ (Nat.le_refl _)).symm
                   have ownS := Ap.grow_own (ownS.below ((Below.refl _ _).alloc (Nat.le_refl _) _) (Nat.le_refl _)) hOM hgM apSM.symm
                   have apSM := anSM
                   rw [← rowsTo_succ] at oM
                   have ownM := oM
                   have sgn := (sg.below ((Below.refl _ _).alloc (Nat.le_refl _) _)).grow hgM wtM.T.in_
                   have sg := sgn
                   have hi3 := sg.hiW
                   have hSn := (unhide SX) _ sg.low
                   refine hK.out _ _ hSn (fun hS => ?_)
                   clear hK K
                   try simp only [Act.put, List.setIfInBounds_toArray, List.set_cons_zero, List.set_cons_succ]
                   have stn := stx.low sg.low
                   obtain ⟨aA', cA', rfl, _⟩ := ownA.form
                   obtain ⟨aS', cS', rfl, _⟩ := ownS.form
                   obtain ⟨aM', cM', rfl, _⟩ := ownM.form
                   have c1 : W3.cell? ⟨gt, 1, none⟩ = some vA := stn.t.cell 1
                   have z1 := stn.t.frozen 1
                   have c2 : W3.cell? ⟨gt, 2, none⟩ = some vS := stn.t.cell 2
                   have z2 := stn.t.frozen 2
                   have c3 : W3.cell? ⟨gt, 3, none⟩ = some vM := stn.t.cell 3
                   have z3 := stn.t.frozen 3
                   refine anyU_next (rs := [16]) (by kernel_rfl) (by simp) ?_
                   refine NextU.free (by kernel_rfl) rfl (fun K hK => ?_) NextU.nil
                   go_simp
                   refine hK.out _ _ ?_
                   clear hK K
                   try simp only [Act.put, List.setIfInBounds_toArray, List.set_cons_zero, List.set_cons_succ]
                   refine anyU_pure (i := 17) (v := ?_) (by decide) rfl (by kernel_rfl) (by kernel_rfl) (by kernel_rfl) (fun _ _ _ h => h) (Or.inl ⟨by rfl, ?_⟩) (fun e => absurd e (by decide)) ?_
                   rotate_left
                   · (intro w _; go_simp; try with_reducible rfl)
                   try simp only [Act.put, List.setIfInBounds_toArray, List.set_cons_zero, List.set_cons_succ]
                   refine anyU_next (rs := [18]) (by kernel_rfl) (by simp) ?_
                   refine NextU.free (by kernel_rfl) rfl (fun K hK => ?_) NextU.nil
                   go_simp
                   refine hK.out _ _ ?_
                   clear hK K
                   try simp only [Act.put, List.setIfInBounds_toArray, List.set_cons_zero, List.set_cons_succ]
                   refine anyU_pure (i := 19) (v := ?_) (by decide) rfl (by kernel_rfl) (by kernel_rfl) (by kernel_rfl) (fun _ _ _ h => h) (Or.inl ⟨by rfl, ?_⟩) (fun e => absurd e (by decide)) ?_
                   rotate_left
                   · (intro w _; go_simp; try with_reducible rfl)
                   try simp only [Act.put, List.setIfInBounds_toArray, List.set_cons_zero, List.set_cons_succ]
                   refine anyU_next (rs := [20]) (by kernel_rfl) (by simp) ?_
                   refine NextU.free (by kernel_rfl) rfl (fun K hK => ?_) NextU.nil
                   go_simp
                   refine hK.out _ _ ?_
                   clear hK K
                   try simp only [Act.put, List.setIfInBounds_toArray, List.set_cons_zero, List.set_cons_succ]
                   refine anyU_done (by kernel_rfl) ?_
                   obtain ⟨wz, hwz⟩ : ∃ wz, wz = ((W3.setCell ⟨gt, 1, none⟩ (.slice aA' (rowsTo F.add F.n (a + 1)).length cA')).setCell ⟨gt, 2, none⟩ (.slice aS' (rowsTo F.sub F.n (a + 1)).length cS')).setCell ⟨gt, 3, none⟩ (.slice aM' (rowsTo F.mul F.n (a + 1)).length cM') := ⟨_, rfl⟩
                   have dn : Done13 F ap cp w gt gi (invTo F (a + 1)) (a + 1) wz := by rw [hwz]; exact done13 stn ownA ownS ownM apAS apAM apSM
                   rw [← hwz]
                   have DN := Lib.hid dn
                   clear dn hwz c1 c2 c3 z1 z2 z3 stn ownA ownS ownM
                   go_wp2
                   go_roundw
                   case rel =>
                    obtain ⟨wA, wS, wM, d1, d2⟩ := DN.out
                    exact ⟨a + 1, wA, wS, wM, by go_num, by omega, d1, d2⟩
                   case measure => simp only [intOf]; omega
                 exact NextU.nil
               exact NextU.nil
             refine NextU.cons rfl (fun K hK => ?_) ?_
             · skip
               go_simp
               refine hK.out _ _ ((unhide KA) _ _ hS) (fun hS => ?_)
               clear hK K
               try simp only [Act.put, List.setIfInBounds_toArray, List.set_cons_zero, List.set_cons_succ]
               refine anyU_next (rs := [9]) (by kernel_rfl) (by simp) ?_
               refine NextU.cons rfl (fun K hK => ?_) ?_
               · skip
                 refine step_append_row rfl (.tmp 74) (.tmp 76) rfl rfl (wtS.below ((Below.refl _ _).alloc (Nat.le_refl _) _) sg.hiW).T _ rfl ((bkS.alloc _).cell 0) (wtS.below ((Below.refl _ _).alloc (Nat.le_refl _) _) sg.hiW).r sg.Bh (sg.below ((Below.refl _ _).alloc (Nat.le_refl _) _)).hiW (by rw [rowsTo_len]; omega) ?_
                 intro vS' W2 oS hgS hbS
                 obtain ⟨usS, hOS⟩ := (wtS.below ((Below.refl _ _).alloc (Nat.le_refl _) _) sg.hiW).T.outer
                 have bkM := (Blk.new (g := (W1.heap.size)) _ 28 #[(.slice (some ⟨gm, 0, none⟩) F.n F.n)] rfl).grown hgS (fun e => by have hh := wtS.T.in_ _ e; omega)
                 have wtM := (wtM.below ((Below.refl _ _).alloc (Nat.le_refl _) _) sg.hiW).grow hOS hgS apSM
                 have apSM := apSM.grown hbS wtM.T.in_ (sg.below ((Below.refl _ _).alloc (Nat.le_refl _) _)).hiW
                 have anAS := (apAS.symm.grown hbS (ownA.below ((Below.refl _ _).alloc (Nat.le_refl _) _) (Nat.le_refl _)).in_ (Nat.le_refl _)).symm
                 have ownA := Ap.grow_own (ownA.below ((Below.refl _ _).alloc (Nat.le_refl _) _) (Nat.le_refl _)) hOS hgS apAS.symm
                 have apAS := anAS
                 rw [← rowsTo_succ] at oS
                 have ownS := oS
                 have sgn := (sg.below ((Below.refl _ _).alloc (Nat.le_refl _) _)).grow hgS wtS.T.in_
                 have sg := sgn
                 have hi2 := sg.hiW
                 have hSn := (unhide SX) _ sg.low
                 refine hK.out _ _ hSn (fun hS => ?_)
                 clear hK K
                 try simp only [Act.put, List.setIfInBounds_toArray, List.set_cons_zero, List.set_cons_succ]
                 refine anyU_next (rs := [14]) (by kernel_rfl) (by simp) ?_
                 refine NextU.cons rfl (fun K hK => ?_) ?_
                 · skip
                   refine step_append_row rfl (.tmp 79) (.tmp 81) rfl rfl (wtM.below (Below.refl _ _) sg.hiW).T _ rfl (bkM.cell 0) (wtM.below (Below.refl _ _) sg.hiW).r sg.Bh (sg.below (Below.refl _ _)).hiW (by rw [rowsTo_len]; omega) ?_
                   intro vM' W3 oM hgM hbM
                   obtain ⟨usM, hOM⟩ := (wtM.below (Below.refl _ _) sg.hiW).T.outer
                   have anAM := (apAM.symm.grown hbM (ownA.below (Below.refl _ _) (Nat.le_refl _)).in_ (Nat.le_refl _)).symm
                   have ownA := Ap.grow_own (ownA.below (Below.refl _ _) (Nat.le_refl _)) hOM hgM apAM.symm
                   have apAM := anAM
                   have anSM := (apSM.symm.grown hbM (ownS.below (Below.refl _ _) (Nat.le_refl _)).in_ (Nat.le_refl _)).symm
                   have ownS := Ap.grow_own (ownS.below (Below.refl _ _) (Nat.le_refl _)) hOM hgM apSM.symm
                   have apSM := anSM
                   rw [← rowsTo_succ] at oM
                   have ownM := oM
                   have sgn := (sg.below (Below.refl _ _)).grow hgM wtM.T.in_
                   have sg := sgn
                   have hi3 := sg.hiW
                   have hSn := (unhide SX) _ sg.low
                   refine hK.out _ _ hSn (fun hS => ?_)
                   clear hK K
                   try simp only [Act.put, List.setIfInBounds_toArray, List.set_cons_zero, List.set_cons_succ]
                   have stn := stx.low sg.low
                   obtain ⟨aA', cA', rfl, _⟩ := ownA.form
                   obtain ⟨aS', cS', rfl, _⟩ := ownS.form
                   obtain ⟨aM', cM', rfl, _⟩ := ownM.form
                   have c1 : W3.cell? ⟨gt, 1, none⟩ = some vA := stn.t.cell 1
                   have z1 := stn.t.frozen 1
                   have c2 : W3.cell? ⟨gt, 2, none⟩ = some vS := stn.t.cell 2
                   have z2 := stn.t.frozen 2
                   have c3 : W3.cell? ⟨gt, 3, none⟩ = some vM := stn.t.cell 3
                   have z3 := stn.t.frozen 3
                   refine anyU_next (rs := [16]) (by kernel_rfl) (by simp) ?_
                   refine NextU.free (by kernel_rfl) rfl (fun K hK => ?_) NextU.nil
                   go_simp
                   refine hK.out _ _ ?_
                   clear hK K
                   try simp only [Act.put, List.setIfInBounds_toArray, List.set_cons_zero, List.set_cons_succ]
                   refine anyU_pure (i := 17) (v := ?_) (by decide) rfl (by kernel_rfl) (by kernel_rfl) (by kernel_rfl) (fun _ _ _ h => h) (Or.inl ⟨by rfl, ?_⟩) (fun e => absurd e (by decide)) ?_
                   rotate_left
                   · (intro w _; go_simp; try with_reducible rfl)
                   try simp only [Act.put, List.setIfInBounds_toArray, List.set_cons_zero, List.set_cons_succ]
                   refine anyU_next (rs := [18]) (by kernel_rfl) (by simp) ?_
                   refine NextU.free (by kernel_rfl) rfl (fun K hK => ?_) NextU.nil
                   go_simp
                   refine hK.out _ _ ?_
                   clear hK K
                   try simp only [Act.put, List.setIfInBounds_toArray, List.set_cons_zero, List.set_cons_succ]
                   refine anyU_pure (i := 19) (v := ?_) (by decide) rfl (by kernel_rfl) (by kernel_rfl) (by kernel_rfl) (fun _ _ _ h => h) (Or.inl ⟨by rfl, ?_⟩) (fun e => absurd e (by decide)) ?_
                   rotate_left
                   · (intro w _; go_simp; try with_reducible rfl)
                   try simp only [Act.put, List.setIfInBounds_toArray, List.set_cons_zero, List.set_cons_succ]
                   refine anyU_next (rs := [20]) (by kernel_rfl) (by simp) ?_
                   refine NextU.free (by kernel_rfl) rfl (fun K hK => ?_) NextU.nil
                   go_simp
                   refine hK.out _ _ ?_
                   clear hK K
                   try simp only [Act.put, List.setIfInBounds_toArray, List.set_cons_zero, List.set_cons_succ]
                   refine anyU_done (by kernel_rfl) ?_
                   obtain ⟨wz, hwz⟩ : ∃ wz, wz = ((W3.setCell ⟨gt, 1, none⟩ (.slice aA' (rowsTo F.add F.n (a + 1)).length cA')).setCell ⟨gt, 2, none⟩ (.slice aS' (rowsTo F.sub F.n (a + 1)).length cS')).setCell ⟨gt, 3, none⟩ (.slice aM' (rowsTo F.mul F.n (a + 1)).length cM') := ⟨_, rfl⟩
                   have dn : Done13 F ap cp w gt gi (invTo F (a + 1)) (a + 1) wz := by rw [hwz]; exact done13 stn ownA ownS ownM apAS apAM apSM
                   rw [← hwz]
                   have DN := Lib.hid dn
                   clear dn hwz c1 c2 c3 z1 z2 z3 stn ownA ownS ownM
                   go_wp2
                   go_roundw
                   case rel =>
                    obtain ⟨wA, wS, wM, d1, d2⟩ := DN.out
                    exact ⟨a + 1, wA, wS, wM, by go_num, by omega, d1, d2⟩
                   case measure => simp only [intOf]; omega
                 exact NextU.nil
               exact NextU.nil
             exact NextU.nil
           refine NextU.cons rfl (fun K hK => ?_) ?_
           · skip
             go_simp
             refine hK.out _ _ ((unhide KA) _ _ hS) (fun hS => ?_)
             clear hK K
             try simp only [Act.put, List.setIfInBounds_toArray, List.set_cons_zero, List.set_cons_succ]
             refine anyU_next (rs := [4]) (by kernel_rfl) (by simp) ?_
             refine NextU.cons rfl (fun K hK => ?_) ?_
             · skip
               refine step_append_row rfl (.tmp 69) (.tmp 71) rfl rfl (wtA.below ((((Below.refl _ _).alloc (Nat.le_refl _) _).alloc (by simp) _).alloc (by simp; omega) _) sg.hiW).T _ rfl ((((Blk.new (g := (wx.heap.size)) _ 28 #[(.slice (some ⟨ga, 0, none⟩) F.n F.n)] rfl).alloc _).alloc _).cell 0) (wtA.below ((((Below.refl _ _).alloc (Nat.le_refl _) _).alloc (by simp) _).alloc (by simp; omega) _) sg.hiW).r sg.Bh (sg.below ((((Below.refl _ _).alloc (Nat.le_refl _) _).alloc (by simp) _).alloc (by simp; omega) _)).hiW (by rw [rowsTo_len]; omega) ?_
               intro vA' W1 oA hgA hbA
               obtain ⟨usA, hOA⟩ := (wtA.below ((((Below.refl _ _).alloc (Nat.le_refl _) _).alloc (by simp) _).alloc (by simp; omega) _) sg.hiW).T.outer
               have bkS := ((Blk.new (g := (wx.heap.size + 1)) _ 28 #[(.slice (some ⟨gs, 0, none⟩) F.n F.n)] (by simp)).alloc _).grown hgA (fun e => by have hh := wtA.T.in_ _ e; omega)
               have bkM := (Blk.new (g := (wx.heap.size + 1 + 1)) _ 28 #[(.slice (some ⟨gm, 0, none⟩) F.n F.n)] (by simp)).grown hgA (fun e => by have hh := wtA.T.in_ _ e; omega)
               have wtS := (wtS.below ((((Below.refl _ _).alloc (Nat.le_refl _) _).alloc (by simp) _).alloc (by simp; omega) _) sg.hiW).grow hOA hgA apAS
               have wtM := (wtM.below ((((Below.refl _ _).alloc (Nat.le_refl _) _).alloc (by simp) _).alloc (by simp; omega) _) sg.hiW).grow hOA hgA apAM
               have apAS := apAS.grown hbA wtS.T.in_ (sg.below ((((Below.refl _ _).alloc (Nat.le_refl _) _).alloc (by simp) _).alloc (by simp; omega) _)).hiW
               have apAM := apAM.grown hbA wtM.T.in_ (sg.below ((((Below.refl _ _).alloc (Nat.le_refl _) _).alloc (by simp) _).alloc (by simp; omega) _)).hiW
               rw [← rowsTo_succ] at oA
               have ownA := oA
               have sgn := (sg.below ((((Below.refl _ _).alloc (Nat.le_refl _) _).alloc (by simp) _).alloc (by simp; omega) _)).grow hgA wtA.T.in_
               have sg := sgn
               have hi1 := sg.hiW
               have hSn := (unhide SX) _ sg.low
               refine hK.out _ _ hSn (fun hS => ?_)
               clear hK K
               try simp only [Act.put, List.setIfInBounds_toArray, List.set_cons_zero, List.set_cons_succ]
               refine anyU_pure (i := 15) (v := ?_) (by decide) rfl (by kernel_rfl) (by kernel_rfl) (by kernel_rfl) (fun _ _ _ h => h) (Or.inl ⟨by rfl, ?_⟩) (fun _ => hS) ?_
               rotate_left
               · (intro w _; go_simp; try with_reducible rfl)
               try simp only [Act.put, List.setIfInBounds_toArray, List.set_cons_zero, List.set_cons_succ]
               refine anyU_next (rs := [9]) (by kernel_rfl) (by simp) ?_
               refine NextU.cons rfl (fun K hK => ?_) ?_
               · skip
                 refine step_append_row rfl (.tmp 74) (.tmp 76) rfl rfl (wtS.below (Below.refl _ _) sg.hiW).T _ rfl (bkS.cell 0) (wtS.below (Below.refl _ _) sg.hiW).r sg.Bh (sg.below (Below.refl _ _)).hiW (by rw [rowsTo_len]; omega) ?_
                 intro vS' W2 oS hgS hbS
                 obtain ⟨usS, hOS⟩ := (wtS.below (Below.refl _ _) sg.hiW).T.outer
                 have bkM := bkM.grown hgS (fun e => by have hh := wtS.T.in_ _ e; omega)
                 have wtM := (wtM.below (Below.refl _ _) sg.hiW).grow hOS hgS apSM
                 have apSM := apSM.grown hbS wtM.T.in_ (sg.below (Below.refl _ _)).hiW
                 have anAS := (apAS.symm.grown hbS (ownA.below (Below.refl _ _) (Nat.le_refl _)).in_ (Nat.le_refl _)).symm
                 have ownA := Ap.grow_own (ownA.below (Below.refl _ _) (Nat.le_refl _)) hOS hgS apAS.symm
                 have apAS := anAS
                 rw [← rowsTo_succ] at oS
                 have ownS := oS
                 have sgn := (sg.below (Below.refl _ _)).grow hgS wtS.T.in_
                 have sg := sgn
                 have hi2 := sg.hiW
                 have hSn := (unhide SX) _ sg.low
                 refine hK.out _ _ hSn (fun hS => ?_)
                 clear hK K
                 try simp only [Act.put, List.setIfInBounds_toArray, List.set_cons_zero, List.set_cons_succ]
                 refine anyU_next (rs := [14]) (by kernel_rfl) (by simp) ?_
                 refine NextU.cons rfl (fun K hK => ?_) ?_
                 · skip
                   refine step_append_row rfl (.tmp 79) (.tmp 81) rfl rfl (wtM.below (Below.refl _ _) sg.hiW).T _ rfl (bkM.cell 0) (wtM.below (Below.refl _ _) sg.hiW).r sg.Bh (sg.below (Below.refl _ _)).hiW (by rw [rowsTo_len]; omega) ?_
                   intro vM' W3 oM hgM hbM
                   obtain ⟨usM, hOM⟩ := (wtM.below (Below.refl _ _) sg.hiW).T.outer
                   have anAM := (apAM.symm.grown hbM (ownA.below (Below.refl _ _) (Nat.le_refl _)).in_ (Nat.le_refl _)).symm
                   have ownA := Ap.grow_own (ownA.below (Below.refl _ _) (Nat.le_refl _)) hOM hgM apAM.symm
                   have apAM := anAM
                   have anSM := (apSM.symm.grown hbM (ownS.below (Below.refl _ _) (Nat.le_refl _)).in_ (Nat.le_refl _)).symm
                   have ownS := Ap.grow_own (ownS.below (Below.refl _ _) (Nat.le_refl _)) hOM hgM apSM.symm
                   have apSM := anSM
                   rw [← rowsTo_succ] at oM
                   have ownM := oM
                   have sgn := (sg.below (Below.refl _ _)).grow hgM wtM.T.in_
                   have sg := sgn
                   have hi3 := sg.hiW
                   have hSn := (unhide SX) _ sg.low
                   refine hK.out _ _ hSn (fun hS => ?_)
                   clear hK K
                   try simp only [Act.put, List.setIfInBounds_toArray, List.set_cons_zero, List.set_cons_succ]
                   have stn := stx.low sg.low
                   obtain ⟨aA', cA', rfl, _⟩ := ownA.form
                   obtain ⟨aS', cS', rfl, _⟩ := ownS.form
                   obtain ⟨aM', cM', rfl, _⟩ := ownM.form
                   have c1 : W3.cell? ⟨gt, 1, none⟩ = some vA := stn.t.cell 1
                   have z1 := stn.t.frozen 1
                   have c2 : W3.cell? ⟨gt, 2, none⟩ = some vS := stn.t.cell 2
                   have z2 := stn.t.frozen 2
                   have c3 : W3.cell? ⟨gt, 3, none⟩ = some vM := stn.t.cell 3
                   have z3 := stn.t.frozen 3
                   refine anyU_next (rs := [16]) (by kernel_rfl) (by simp) ?_
                   refine NextU.free (by kernel_rfl) rfl (fun K hK => ?_) NextU.nil
                   go_simp
                   refine hK.out _ _ ?_
                   clear hK K
                   try simp only [Act.put, List.setIfInBounds_toArray, List.set_cons_zero, List.set_cons_succ]
                   refine anyU_pure (i := 17) (v := ?_) (by decide) rfl (by kernel_rfl) (by kernel_rfl) (by kernel_rfl) (fun _ _ _ h => h) (Or.inl ⟨by rfl, ?_⟩) (fun e => absurd e (by decide)) ?_
                   rotate_left
                   · (intro w _; go_simp; try with_reducible rfl)
                   try simp only [Act.put, List.setIfInBounds_toArray, List.set_cons_zero, List.set_cons_succ]
                   refine anyU_next (rs := [18]) (by kernel_rfl) (by simp) ?_
                   refine NextU.free (by kernel_rfl) rfl (fun K hK => ?_) NextU.nil
                   go_simp
                   refine hK.out _ _ ?_
                   clear hK K
                   try simp only [Act.put, List.setIfInBounds_toArray, List.set_cons_zero, List.set_cons_succ]
                   refine anyU_pure (i := 19) (v := ?_) (by decide) rfl (by kernel_rfl) (by kernel_rfl) (by kernel_rfl) (fun _ _ _ h => h) (Or.inl ⟨by rfl, ?_⟩) (fun e => absurd e (by decide)) ?_
                   rotate_left
                   · (intro w _; go_simp; try with_reducible rfl)
                   try simp only [Act.put, List.setIfInBounds_toArray, List.set_cons_zero, List.set_cons_succ]
                   refine anyU_next (rs := [20]) (by kernel_rfl) (by simp) ?_
                   refine NextU.free (by kernel_rfl) rfl (fun K hK => ?_) NextU.nil
                   go_simp
                   refine hK.out _ _ ?_
                   clear hK K
                   try simp only [Act.put, List.setIfInBounds_toArray, List.set_cons_zero, List.set_cons_succ]
                   refine anyU_done (by kernel_rfl) ?_
                   obtain ⟨wz, hwz⟩ : ∃ wz, wz = ((W3.setCell ⟨gt, 1, none⟩ (.slice aA' (rowsTo F.add F.n (a + 1)).length cA')).setCell ⟨gt, 2, none⟩ (.slice aS' (rowsTo F.sub F.n (a + 1)).length cS')).setCell ⟨gt, 3, none⟩ (.slice aM' (rowsTo F.mul F.n (a + 1)).length cM') := ⟨_, rfl⟩
                   have dn : Done13 F ap cp w gt gi (invTo F (a + 1)) (a + 1) wz := by rw [hwz]; exact done13 stn ownA ownS ownM apAS apAM apSM
                   rw [← hwz]
                   have DN := Lib.hid dn
                   clear dn hwz c1 c2 c3 z1 z2 z3 stn ownA ownS ownM
                   go_wp2
                   go_roundw
                   case rel =>
                    obtain ⟨wA, wS, wM, d1, d2⟩ := DN.out
                    exact ⟨a + 1, wA, wS, wM, by go_num, by omega, d1, d2⟩
                   case measure => simp only [intOf]; omega
                 exact NextU.nil
               exact NextU.nil
             exact NextU.nil
           exact NextU.nil
         refine NextU.cons rfl (fun K hK => ?_) ?_
         · skip
           go_simp
           refine hK.out _ _ ((unhide KA) _ _ hS) (fun hS => ?_)
           clear hK K
           try simp only [Act.put, List.setIfInBounds_toArray, List.set_cons_zero, List.set_cons_succ]
           refine anyU_next (rs := [4, 8]) (by kernel_rfl) (by simp) ?_
           refine NextU.cons rfl (fun K hK => ?_) ?_
           · skip
             refine step_append_row rfl (.tmp 69) (.tmp 71) rfl rfl (wtA.below (((Below.refl _ _).alloc (Nat.le_refl _) _).alloc (by simp) _) sg.hiW).T _ rfl (((Blk.new (g := (wx.heap.size)) _ 28 #[(.slice (some ⟨ga, 0, none⟩) F.n F.n)] rfl).alloc _).cell 0) (wtA.below (((Below.refl _ _).alloc (Nat.le_refl _) _).alloc (by simp) _) sg.hiW).r sg.Bh (sg.below (((Below.refl _ _).alloc (Nat.le_refl _) _).alloc (by simp) _)).hiW (by rw [rowsTo_len]; omega) ?_
             intro vA' W1 oA hgA hbA
             obtain ⟨usA, hOA⟩ := (wtA.below (((Below.refl _ _).alloc (Nat.le_refl _) _).alloc (by simp) _) sg.hiW).T.outer
             have bkM := (Blk.new (g := (wx.heap.size + 1)) _ 28 #[(.slice (some ⟨gm, 0, none⟩) F.n F.n)] (by simp)).grown hgA (fun e => by have hh := wtA.T.in_ _ e; omega)
             have wtS := (wtS.below (((Below.refl _ _).alloc (Nat.le_refl _) _).alloc (by simp) _) sg.hiW).grow hOA hgA apAS
             have wtM := (wtM.below (((Below.refl _ _).alloc (Nat.le_refl _) _).alloc (by simp) _) sg.hiW).grow hOA hgA apAM
             have apAS := apAS.grown hbA wtS.T.in_ (sg.below (((Below.refl _ _).alloc (Nat.le_refl _) _).alloc (by simp) _)).hiW
             have apAM := apAM.grown hbA wtM.T.in_ (sg.below (((Below.refl _ _).alloc (Nat.le_refl _) _).alloc (by simp) _)).hiW
             rw [← rowsTo_succ] at oA
             have ownA := oA
             have sgn := (sg.below (((Below.refl _ _).alloc (Nat.le_refl _) _).alloc (by simp) _)).grow hgA wtA.T.in_
             have sg := sgn
             have hi1 := sg.hiW
             have hSn := (unhide SX) _ sg.low
             refine hK.out _ _ hSn (fun hS => ?_)
             clear hK K
             try simp only [Act.put, List.setIfInBounds_toArray, List.set_cons_zero, List.set_cons_succ]
             refine anyU_pure (i := 15) (v := ?_) (by decide) rfl (by kernel_rfl) (by kernel_rfl) (by kernel_rfl) (fun _ _ _ h => h) (Or.inl ⟨by rfl, ?_⟩) (fun _ => hS) ?_
             rotate_left
             · (intro w _; go_simp; try with_reducible rfl)
             try simp only [Act.put, List.setIfInBounds_toArray, List.set_cons_zero, List.set_cons_succ]
             refine anyU_next (rs := [8]) (by kernel_rfl) (by simp) ?_
             refine NextU.cons rfl (fun K hK => ?_) ?_
             · skip
               go_simp
               refine hK.out _ _ ((unhide KA) _ _ hS) (fun hS => ?_)
               clear hK K
               try simp only [Act.put, List.setIfInBounds_toArray, List.set_cons_zero, List.set_cons_succ]
               refine anyU_next (rs := [9]) (by kernel_rfl) (by simp) ?_
               refine NextU.cons rfl (fun K hK => ?_) ?_
               · skip
                 refine step_append_row rfl (.tmp 74) (.tmp 76) rfl rfl (wtS.below ((Below.refl _ _).alloc (Nat.le_refl _) _) sg.hiW).T _ rfl ((Blk.new (g := (W1.heap.size)) _ 28 #[(.slice (some ⟨gs, 0, none⟩) F.n F.n)] rfl).cell 0) (wtS.below ((Below.refl _ _).alloc (Nat.le_refl _) _) sg.hiW).r sg.Bh (sg.below ((Below.refl _ _).alloc (Nat.le_refl _) _)).hiW (by rw [rowsTo_len]; omega) ?_
                 intro vS' W2 oS hgS hbS
                 obtain ⟨usS, hOS⟩ := (wtS.below ((Below.refl _ _).alloc (Nat.le_refl _) _) sg.hiW).T.outer
                 have bkM := (bkM.alloc _).grown hgS (fun e => by have hh := wtS.T.in_ _ e; omega)
                 have wtM := (wtM.below ((Below.refl _ _).alloc (Nat.le_refl _) _) sg.hiW).grow hOS hgS apSM
                 have apSM := apSM.grown hbS wtM.T.in_ (sg.below ((Below.refl _ _).alloc (Nat.le_refl _) _)).hiW
                 have anAS := (apAS.symm.grown hbS (ownA.below ((Below.refl _ _).alloc (Nat.le_refl _) _) (Nat.le_refl _)).in_ (Nat.le_refl _)).symm
                 have ownA := Ap.grow_own (ownA.below ((Below.refl _ _).alloc (Nat.le_refl _) _) (Nat.le_refl _)) hOS hgS apAS.symm
                 have apAS := anAS
                 rw [← rowsTo_succ] at oS
                 have ownS := oS
                 have sgn := (sg.below ((Below.refl _ _).alloc (Nat.le_refl _) _)).grow hgS wtS.T.in_
                 have sg := sgn
                 have hi2 := sg.hiW
                 have hSn := (unhide SX) _ sg.low
                 refine hK.out _ _ hSn (fun hS => ?_)
                 clear hK K
                 try simp only [Act.put, List.setIfInBounds_toArray, List.set_cons_zero, List.set_cons_succ]
                 refine anyU_next (rs := [14]) (by kernel_rfl) (by simp) ?_
                 refine NextU.cons rfl (fun K hK => ?_) ?_
                 · skip
                   refine step_append_row rfl (.tmp 79) (.tmp 81) rfl rfl (wtM.below (Below.refl _ _) sg.hiW).T _ rfl (bkM.cell 0) (wtM.below (Below.refl _ _) sg.hiW).r sg.Bh (sg.below (Below.refl _ _)).hiW (by rw [rowsTo_len]; omega) ?_
                   intro vM' W3 oM hgM hbM
                   obtain ⟨usM, hOM⟩ := (wtM.below (Below.refl _ _) sg.hiW).T.outer
                   have anAM := (apAM.symm.grown hbM (ownA.below (Below.refl _ _) (Nat.le_refl _)).in_ (Nat.le_refl _)).symm
                   have ownA := Ap.grow_own (ownA.below (Below.refl _ _) (Nat.le_refl _)) hOM hgM apAM.symm
                   have apAM := anAM
                   have anSM := (apSM.symm.grown hbM (ownS.below (Below.refl _ _) (Nat.le_refl _)).in_ (Nat.le_refl _)).symm
                   have ownS := Ap.grow_own (ownS.below (Below.refl _ _) (Nat.le_refl _)) hOM hgM apSM.symm
                   have apSM := anSM
                   rw [← rowsTo_succ] at oM
                   have ownM := oM
                   have sgn := (sg.below (Below.refl _ _)).grow hgM wtM.T.in_
                   have sg := sgn
                   have hi3 := sg.hiW
                   have hSn := (unhide SX) _ sg.low
                   refine hK.out _ _ hSn (fun hS => ?_)
                   clear hK K
                   try simp only [Act.put, List.setIfInBounds_toArray, List.set_cons_zero, List.set_cons_succ]
                   have stn := stx.low sg.low
                   obtain ⟨aA', cA', rfl, _⟩ := ownA.form
                   obtain ⟨aS', cS', rfl, _⟩ := ownS.form
                   obtain ⟨aM', cM', rfl, _⟩ := ownM.form
                   have c1 : W3.cell? ⟨gt, 1, none⟩ = some vA := stn.t.cell 1
                   have z1 := stn.t.frozen 1
                   have c2 : W3.cell? ⟨gt, 2, none⟩ = some vS := stn.t.cell 2
                   have z2 := stn.t.frozen 2
                   have c3 : W3.cell? ⟨gt, 3, none⟩ = some vM := stn.t.cell 3
                   have z3 := stn.t.frozen 3
                   refine anyU_next (rs := [16]) (by kernel_rfl) (by simp) ?_
                   refine NextU.free (by kernel_rfl) rfl (fun K hK => ?_) NextU.nil
                   go_simp
                   refine hK.out _ _ ?_
                   clear hK K
                   try simp only [Act.put, List.setIfInBounds_toArray, List.set_cons_zero, List.set_cons_succ]
                   refine anyU_pure (i := 17) (v := ?_) (by decide) rfl (by kernel_rfl) (by kernel_rfl) (by kernel_rfl) (fun _ _ _ h => h) (Or.inl ⟨by rfl, ?_⟩) (fun e => absurd e (by decide)) ?_
                   rotate_left
                   · (intro w _; go_simp; try with_reducible rfl)
                   try simp only [Act.put, List.setIfInBounds_toArray, List.set_cons_zero, List.set_cons_succ]
                   refine anyU_next (rs := [18]) (by kernel_rfl) (by simp) ?_
                   refine NextU.free (by kernel_rfl) rfl (fun K hK => ?_) NextU.nil
                   go_simp
                   refine hK.out _ _ ?_
                   clear hK K
                   try simp only [Act.put, List.setIfInBounds_toArray, List.set_cons_zero, List.set_cons_succ]
                   refine anyU_pure (i := 19) (v := ?_) (by decide) rfl (by kernel_rfl) (by kernel_rfl) (by kernel_rfl) (fun _ _ _ h => h) (Or.inl ⟨by rfl, ?_⟩) (fun e => absurd e (by decide)) ?_
                   rotate_left
                   · (intro w _; go_simp; try with_reducible rfl)
                   try simp only [Act.put, List.setIfInBounds_toArray, List.set_cons_zero, List.set_cons_succ]
                   refine anyU_next (rs := [20]) (by kernel_rfl) (by simp) ?_
                   refine NextU.free (by kernel_rfl) rfl (fun K hK => ?_) NextU.nil
                   go_simp
                   refine hK.out _ _ ?_
                   clear hK K
                   try simp only [Act.put, List.setIfInBounds_toArray, List.set_cons_zero, List.set_cons_succ]
                   refine anyU_done (by kernel_rfl) ?_
                   obtain ⟨wz, hwz⟩ : ∃ wz, wz = ((W3.setCell ⟨gt, 1, none⟩ (.slice aA' (rowsTo F.add F.n (a + 1)).length cA')).setCell ⟨gt, 2, none⟩ (.slice aS' (rowsTo F.sub F.n (a + 1)).length cS')).setCell ⟨gt, 3, none⟩ (.slice aM' (rowsTo F.mul F.n (a + 1)).length cM') := ⟨_, rfl⟩
                   have dn : Done13 F ap cp w gt gi (invTo F (a + 1)) (a + 1) wz := by rw [hwz]; exact done13 stn ownA ownS ownM apAS apAM apSM
                   rw [← hwz]
                   have DN := Lib.hid dn
                   clear dn hwz c1 c2 c3 z1 z2 z3 stn ownA ownS ownM
                   go_wp2
                   go_roundw
                   case rel =>
                    obtain ⟨wA, wS, wM, d1, d2⟩ := DN.out
                    exact ⟨a + 1, wA, wS, wM, by go_num, by omega, d1, d2⟩
                   case measure => simp only [intOf]; omega
                 exact NextU.nil
               exact NextU.nil
             exact NextU.nil
           refine NextU.cons rfl (fun K hK => ?_) ?_
           · skip
             go_simp
             refine hK.out _ _ ((unhide KA) _ _ hS) (fun hS => ?_)
             clear hK K
             try simp only [Act.put, List.setIfInBounds_toArray, List.set_cons_zero, List.set_cons_succ]
             refine anyU_next (rs := [4]) (by kernel_rfl) (by simp) ?_
             refine NextU.cons rfl (fun K hK => ?_) ?_
             · skip
               refine step_append_row rfl (.tmp 69) (.tmp 71) rfl rfl (wtA.below ((((Below.refl _ _).alloc (Nat.le_refl _) _).alloc (by simp) _).alloc (by simp; omega) _) sg.hiW).T _ rfl ((((Blk.new (g := (wx.heap.size)) _ 28 #[(.slice (some ⟨ga, 0, none⟩) F.n F.n)] rfl).alloc _).alloc _).cell 0) (wtA.below ((((Below.refl _ _).alloc (Nat.le_refl _) _).alloc (by simp) _).alloc (by simp; omega) _) sg.hiW).r sg.Bh (sg.below ((((Below.refl _ _).alloc (Nat.le_refl _) _).alloc (by simp) _).alloc (by simp; omega) _)).hiW (by rw [rowsTo_len]; omega) ?_
               intro vA' W1 oA hgA hbA
               obtain ⟨usA, hOA⟩ := (wtA.below ((((Below.refl _ _).alloc (Nat.le_refl _) _).alloc (by simp) _).alloc (by simp; omega) _) sg.hiW).T.outer
               have bkS := (Blk.new (g := (wx.heap.size + 1 + 1)) _ 28 #[(.slice (some ⟨gs, 0, none⟩) F.n F.n)] (by simp)).grown hgA (fun e => by have hh := wtA.T.in_ _ e; omega)
               have bkM := ((Blk.new (g := (wx.heap.size + 1)) _ 28 #[(.slice (some ⟨gm, 0, none⟩) F.n F.n)] (by simp)).alloc _).grown hgA (fun e => by have hh := wtA.T.in_ _ e; omega)
               have wtS := (wtS.below ((((Below.refl _ _).alloc (Nat.le_refl _) _).alloc (by simp) _).alloc (by simp; omega) _) sg.hiW).grow hOA hgA apAS
               have wtM := (wtM.below ((((Below.refl _ _).alloc (Nat.le_refl _) _).alloc (by simp) _).alloc (by simp; omega) _) sg.hiW).grow hOA hgA apAM
               have apAS := apAS.grown hbA wtS.T.in_ (sg.below ((((Below.refl _ _).alloc (Nat.le_refl _) _).alloc (by simp) _).alloc (by simp; omega) _)).hiW
               have apAM := apAM.grown hbA wtM.T.in_ (sg.below ((((Below.refl _ _).alloc (Nat.le_refl _) _).alloc (by simp) _).alloc (by simp; omega) _)).hiW
               rw [← rowsTo_succ] at oA
               have ownA := oA
               have sgn := (sg.below ((((Below.refl _ _).alloc (Nat.le_refl _) _).alloc (by simp) _).alloc (by simp; omega) _)).grow hgA wtA.T.in_
               have sg := sgn
               have hi1 := sg.hiW
               have hSn := (unhide SX) _ sg.low
               refine hK.out _ _ hSn (fun hS => ?_)
               clear hK K
               try simp only [Act.put, List.setIfInBounds_toArray, List.set_cons_zero, List.set_cons_succ]
               refine anyU_pure (i := 15) (v := ?_) (by decide) rfl (by kernel_rfl) (by kernel_rfl) (by kernel_rfl) (fun _ _ _ h => h) (Or.inl ⟨by rfl, ?_⟩) (fun _ => hS) ?_
               rotate_left
               · (intro w _; go_simp; try with_reducible rfl)
               try simp only [Act.put, List.setIfInBounds_toArray, List.set_cons_zero, List.set_cons_succ]
               refine anyU_next (rs := [9]) (by kernel_rfl) (by simp) ?_
               refine NextU.cons rfl (fun K hK => ?_) ?_
               · skip
                 refine step_append_row rfl (.tmp 74) (.tmp 76) rfl rfl (wtS.below (Below.refl _ _) sg.hiW).T _ rfl (bkS.cell 0) (wtS.below (Below.refl _ _) sg.hiW).r sg.Bh (sg.below (Below.refl _ _)).hiW (by rw [rowsTo_len]; omega) ?_
                 intro vS' W2 oS hgS hbS
                 obtain ⟨usS, hOS⟩ := (wtS.below (Below.refl _ _) sg.hiW).T.outer
                 have bkM := bkM.grown hgS (fun e => by have hh := wtS.T.in_ _ e; omega)
                 have wtM := (wtM.below (Below.refl _ _) sg.hiW).grow hOS hgS apSM
                 have apSM := apSM.grown hbS wtM.T.in_ (sg.below (Below.refl _ _)).hiW
                 have anAS := (apAS.symm.grown hbS (ownA.below (Below.refl _ _) (Nat.le_refl _)).in_ (Nat.le_refl _)).symm
                 have ownA := Ap.grow_own (ownA.below (Below.refl _ _) (Nat.le_refl _)) hOS hgS apAS.symm
                 have apAS := anAS
                 rw [← rowsTo_succ] at oS
                 have ownS := oS
                 have sgn := (sg.below (Below.refl _ _)).grow hgS wtS.T.in_
                 have sg := sgn
                 have hi2 := sg.hiW
                 have hSn := (unhide SX) _ sg.low
                 refine hK.out _ _ hSn (fun hS => ?_)
                 clear hK K
                 try simp only [Act.put, List.setIfInBounds_toArray, List.set_cons_zero, List.set_cons_succ]
                 refine anyU_next (rs := [14]) (by kernel_rfl) (by simp) ?_
                 refine NextU.cons rfl (fun K hK => ?_) ?_
                 · skip
                   refine step_append_row rfl (.tmp 79) (.tmp 81) rfl rfl (wtM.below (Below.refl _ _) sg.hiW).T _ rfl (bkM.cell 0) (wtM.below (Below.refl _ _) sg.hiW).r sg.Bh (sg.below (Below.refl _ _)).hiW (by rw [rowsTo_len]; omega) ?_
                   intro vM' W3 oM hgM hbM
                   obtain ⟨usM, hOM⟩ := (wtM.below (Below.refl _ _) sg.hiW).T.outer
                   have anAM := (apAM.symm.grown hbM (ownA.below (Below.refl _ _) (Nat.le_refl _)).in_ (Nat.le_refl _)).symm
                   have ownA := Ap.grow_own (ownA.below (Below.refl _ _) (Nat.le_refl _)) hOM hgM apAM.symm
                   have apAM := anAM
                   have anSM := (apSM.symm.grown hbM (ownS.below (Below.refl _ _) (Nat.le_refl _)).in_ (Nat.le_refl _)).symm
                   have ownS := Ap.grow_own (ownS.below (Below.refl _ _) (Nat.le_refl _)) hOM hgM apSM.symm
                   have apSM := anSM
                   rw [← rowsTo_succ] at oM
                   have ownM := oM
                   have sgn := (sg.below (Below.refl _ _)).grow hgM wtM.T.in_
                   have sg := sgn
                   have hi3 := sg.hiW
                   have hSn := (unhide SX) _ sg.low
                   refine hK.out _ _ hSn (fun hS => ?_)
                   clear hK K
                   try simp only [Act.put, List.setIfInBounds_toArray, List.set_cons_zero, List.set_cons_succ]
                   have stn := stx.low sg.low
                   obtain ⟨aA', cA', rfl, _⟩ := ownA.form
                   obtain ⟨aS', cS', rfl, _⟩ := ownS.form
                   obtain ⟨aM', cM', rfl, _⟩ := ownM.form
                   have c1 : W3.cell? ⟨gt, 1, none⟩ = some vA := stn.t.cell 1
                   have z1 := stn.t.frozen 1
                   have c2 : W3.cell? ⟨gt, 2, none⟩ = some vS := stn.t.cell 2
                   have z2 := stn.t.frozen 2
                   have c3 : W3.cell? ⟨gt, 3, none⟩ = some vM := stn.t.cell 3
                   have z3 := stn.t.frozen 3
                   refine anyU_next (rs := [16]) (by kernel_rfl) (by simp) ?_
                   refine NextU.free (by kernel_rfl) rfl (fun K hK => ?_) NextU.nil
                   go_simp
                   refine hK.out _ _ ?_
                   clear hK K
                   try simp only [Act.put, List.setIfInBounds_toArray, List.set_cons_zero, List.set_cons_succ]
                   refine anyU_pure (i := 17) (v := ?_) (by decide) rfl (by kernel_rfl) (by kernel_rfl) (by kernel_rfl) (fun _ _ _ h => h) (Or.inl ⟨by rfl, ?_⟩) (fun e => absurd e (by decide)) ?_
                   rotate_left
                   · (intro w _; go_simp; try with_reducible rfl)
                   try simp only [Act.put, List.setIfInBounds_toArray, List.set_cons_zero, List.set_cons_succ]
                   refine anyU_next (rs := [18]) (by kernel_rfl) (by simp) ?_
                   refine NextU.free (by kernel_rfl) rfl (fun K hK => ?_) NextU.nil
                   go_simp
                   refine hK.out _ _ ?_
                   clear hK K
                   try simp only [Act.put, List.setIfInBounds_toArray, List.set_cons_zero, List.set_cons_succ]
                   refine anyU_pure (i := 19) (v := ?_) (by decide) rfl (by kernel_rfl) (by kernel_rfl) (by kernel_rfl) (fun _ _ _ h => h) (Or.inl ⟨by rfl, ?_⟩) (fun e => absurd e (by decide)) ?_
                   rotate_left
                   · (intro w _; go_simp; try with_reducible rfl)
                   try simp only [Act.put, List.setIfInBounds_toArray, List.set_cons_zero, List.set_cons_succ]
                   refine anyU_next (rs := [20]) (by kernel_rfl) (by simp) ?_
                   refine NextU.free (by kernel_rfl) rfl (fun K hK => ?_) NextU.nil
                   go_simp
                   refine hK.out _ _ ?_
                   clear hK K
                   try simp only [Act.put, List.setIfInBounds_toArray, List.set_cons_zero, List.set_cons_succ]
                   refine anyU_done (by kernel_rfl) ?_
                   obtain ⟨wz, hwz⟩ : ∃ wz, wz = ((W3.setCell ⟨gt, 1, none⟩ (.slice aA' (rowsTo F.add F.n (a + 1)).length cA')).setCell ⟨gt, 2, none⟩ (.slice aS' (rowsTo F.sub F.n (a + 1)).length cS')).setCell ⟨gt, 3, none⟩ (.slice aM' (rowsTo F.mul F.n (a + 1)).length cM') := ⟨_, rfl⟩
                   have dn : Done13 F ap cp w gt gi (invTo F (a + 1)) (a + 1) wz := by rw [hwz]; exact done13 stn ownA ownS ownM apAS apAM apSM
                   rw [← hwz]
                   have DN := Lib.hid dn
                   clear dn hwz c1 c2 c3 z1 z2 z3 stn ownA ownS ownM
                   go_wp2
                   go_roundw
                   case rel =>
                    obtain ⟨wA, wS, wM, d1, d2⟩ := DN.out
                    exact ⟨a + 1, wA, wS, wM, by go_num, by omega, d1, d2⟩
                   case measure => simp only [intOf]; omega
                 exact NextU.nil
               exact NextU.nil
             exact NextU.nil
           exact NextU.nil
         exact NextU.nil
       refine NextU.cons rfl (fun K hK => ?_) ?_
       · skip
         go_simp
         refine hK.out _ _ ((unhide KA) _ _ hS) (fun hS => ?_)
         clear hK K
         try simp only [Act.put, List.setIfInBounds_toArray, List.set_cons_zero, List.set_cons_succ]
         refine anyU_next (rs := [3, 13]) (by kernel_rfl) (by simp) ?_
         refine NextU.cons rfl (fun K hK => ?_) ?_
         · skip
           go_simp
           refine hK.out _ _ ((unhide KA) _ _ hS) (fun hS => ?_)
           clear hK K
           try simp only [Act.put, List.setIfInBounds_toArray, List.set_cons_zero, List.set_cons_succ]
           refine anyU_next (rs := [4, 13]) (by kernel_rfl) (by simp) ?_
           refine NextU.cons rfl (fun K hK => ?_) ?_
           · skip
             refine step_append_row rfl (.tmp 69) (.tmp 71) rfl rfl (wtA.below (((Below.refl _ _).alloc (Nat.le_refl _) _).alloc (by simp) _) sg.hiW).T _ rfl ((Blk.new (g := (wx.heap.size + 1)) _ 28 #[(.slice (some ⟨ga, 0, none⟩) F.n F.n)] (by simp)).cell 0) (wtA.below (((Below.refl _ _).alloc (Nat.le_refl _) _).alloc (by simp) _) sg.hiW).r sg.Bh (sg.below (((Below.refl _ _).alloc (Nat.le_refl _) _).alloc (by simp) _)).hiW (by rw [rowsTo_len]; omega) ?_
             intro vA' W1 oA hgA hbA
             obtain ⟨usA, hOA⟩ := (wtA.below (((Below.refl _ _).alloc (Nat.le_refl _) _).alloc (by simp) _) sg.hiW).T.outer
             have bkS := ((Blk.new (g := (wx.heap.size)) _ 28 #[(.slice (some ⟨gs, 0, none⟩) F.n F.n)] rfl).alloc _).grown hgA (fun e => by have hh := wtA.T.in_ _ e; omega)
             have wtS := (wtS.below (((Below.refl _ _).alloc (Nat.le_refl _) _).alloc (by simp) _) sg.hiW).grow hOA hgA apAS
             have wtM := (wtM.below (((Below.refl _ _).alloc (Nat.le_refl _) _).alloc (by simp) _) sg.hiW).grow hOA hgA apAM
             have apAS := apAS.grown hbA wtS.T.in_ (sg.below (((Below.refl _ _).alloc (Nat.le_refl _) _).alloc (by simp) _)).hiW
             have apAM := apAM.grown hbA wtM.T.in_ (sg.below (((Below.refl _ _).alloc (Nat.le_refl _) _).alloc (by simp) _)).hiW
             rw [← rowsTo_succ] at oA
             have ownA := oA
             have sgn := (sg.below (((Below.refl _ _).alloc (Nat.le_refl _) _).alloc (by simp) _)).grow hgA wtA.T.in_
             have sg := sgn
             have hi1 := sg.hiW
             have hSn := (unhide SX) _ sg.low
             refine hK.out _ _ hSn (fun hS => ?_)
             clear hK K
             try simp only [Act.put, List.setIfInBounds_toArray, List.set_cons_zero, List.set_cons_succ]
             refine anyU_pure (i := 15) (v := ?_) (by decide) rfl (by kernel_rfl) (by kernel_rfl) (by kernel_rfl) (fun _ _ _ h => h) (Or.inl ⟨by rfl, ?_⟩) (fun _ => hS) ?_
             rotate_left
             · (intro w _; go_simp; try with_reducible rfl)
             try simp only [Act.put, List.setIfInBounds_toArray, List.set_cons_zero, List.set_cons_succ]
             refine anyU_next (rs := [9, 13]) (by kernel_rfl) (by simp) ?_
             refine NextU.cons rfl (fun K hK => ?_) ?_
             · skip
               refine step_append_row rfl (.tmp 74) (.tmp 76) rfl rfl (wtS.below (Below.refl _ _) sg.hiW).T _ rfl (bkS.cell 0) (wtS.below (Below.refl _ _) sg.hiW).r sg.Bh (sg.below (Below.refl _ _)).hiW (by rw [rowsTo_len]; omega) ?_
               intro vS' W2 oS hgS hbS
               obtain ⟨usS, hOS⟩ := (wtS.below (Below.refl _ _) sg.hiW).T.outer
               have wtM := (wtM.below (Below.refl _ _) sg.hiW).grow hOS hgS apSM
               have apSM := apSM.grown hbS wtM.T.in_ (sg.below (Below.refl _ _)).hiW
               have anAS := (apAS.symm.grown hbS (ownA.below (Below.refl _ _) (Nat.le_refl _)).in_ (Nat.le_refl _)).symm
               have ownA := Ap.grow_own (ownA.below (Below.refl _ _) (Nat.le_refl _)) hOS hgS apAS.symm
               have apAS := anAS
               rw [← rowsTo_succ] at oS
               have ownS := oS
               have sgn := (sg.below (Below.refl _ _)).grow hgS wtS.T.in_
               have sg := sgn
               have hi2 := sg.hiW
               have hSn := (unhide SX) _ sg.low
               refine hK.out _ _ hSn (fun hS => ?_)
               clear hK K
               try simp only [Act.put, List.setIfInBounds_toArray, List.set_cons_zero, List.set_cons_succ]
               refine anyU_next (rs := [13]) (by kernel_rfl) (by simp) ?_
               refine NextU.cons rfl (fun K hK => ?_) ?_
               · skip
                 go_simp
                 refine hK.out _ _ ((unhide KA) _ _ hS) (fun hS => ?_)
                 clear hK K
                 try simp only [Act.put, List.setIfInBounds_toArray, List.set_cons_zero, List.set_cons_succ]
                 refine anyU_next (rs := [14]) (by kernel_rfl) (by simp) ?_
                 refine NextU.cons rfl (fun K hK => ?_) ?_
                 · skip
                   refine step_append_row rfl (.tmp 79) (.tmp 81) rfl rfl (wtM.below ((Below.refl _ _).alloc (Nat.le_refl _) _) sg.hiW).T _ rfl ((Blk.new (g := (W2.heap.size)) _ 28 #[(.slice (some ⟨gm, 0, none⟩) F.n F.n)] rfl).cell 0) (wtM.below ((Below.refl _ _).alloc (Nat.le_refl _) _) sg.hiW).r sg.Bh (sg.below ((Below.refl _ _).alloc (Nat.le_refl _) _)).hiW (by rw [rowsTo_len]; omega) ?_
                   intro vM' W3 oM hgM hbM
                   obtain ⟨usM, hOM⟩ := (wtM.below ((Below.refl _ _).alloc (Nat.le_refl _) _) sg.hiW).T.outer
                   have anAM := (apAM.symm.grown hbM (ownA.below ((Below.refl _ _).alloc (Nat.le_refl _) _) (Nat.le_refl _)).in_ (Nat.le_refl _)).symm
                   have ownA := Ap.grow_own (ownA.below ((Below.refl _ _).alloc (Nat.le_refl _) _) (Nat.le_refl _)) hOM hgM apAM.symm
                   have apAM := anAM
                   have anSM := (apSM.symm.grown hbM (ownS.below ((Below.refl _ _).alloc (Nat.le_refl _) _) (Nat.le_refl _)).in_ (Nat.le_refl _)).symm
                   have ownS := Ap.grow_own (ownS.below ((Below.refl _ _).alloc (Nat.le_refl _) _) (Nat.le_refl _)) hOM hgM apSM.symm
                   have apSM := anSM
                   rw [← rowsTo_succ] at oM
                   have ownM := oM
                   have sgn := (sg.below ((Below.refl _ _).alloc (Nat.le_refl _) _)).grow hgM wtM.T.in_
                   have sg := sgn
                   have hi3 := sg.hiW
                   have hSn := (unhide SX) _ sg.low
                   refine hK.out _ _ hSn (fun hS => ?_)
                   clear hK K
                   try simp only [Act.put, List.setIfInBounds_toArray, List.set_cons_zero, List.set_cons_succ]
                   have stn := stx.low sg.low
                   obtain ⟨aA', cA', rfl, _⟩ := ownA.form
                   obtain ⟨aS', cS', rfl, _⟩ := ownS.form
                   obtain ⟨aM', cM', rfl, _⟩ := ownM.form
                   have c1 : W3.cell? ⟨gt, 1, none⟩ = some vA := stn.t.cell 1
                   have z1 := stn.t.frozen 1
                   have c2 : W3.cell? ⟨gt, 2, none⟩ = some vS := stn.t.cell 2
                   have z2 := stn.t.frozen 2
                   have c3 : W3.cell? ⟨gt, 3, none⟩ = some vM := stn.t.cell 3
                   have z3 := stn.t.frozen 3
                   refine anyU_next (rs := [16]) (by kernel_rfl) (by simp) ?_
                   refine NextU.free (by kernel_rfl) rfl (fun K hK => ?_) NextU.nil
                   go_simp
                   refine hK.out _ _ ?_
                   clear hK K
                   try simp only [Act.put, List.setIfInBounds_toArray, List.set_cons_zero, List.set_cons_succ]
                   refine anyU_pure (i := 17) (v := ?_) (by decide) rfl (by kernel_rfl) (by kernel_rfl) (by kernel_rfl) (fun _ _ _ h => h) (Or.inl ⟨by rfl, ?_⟩) (fun e => absurd e (by decide)) ?_
                   rotate_left
                   · (intro w _; go_simp; try with_reducible rfl)
                   try simp only [Act.put, List.setIfInBounds_toArray, List.set_cons_zero, List.set_cons_succ]
                   refine anyU_next (rs := [18]) (by kernel_rfl) (by simp) ?_
                   refine NextU.free (by kernel_rfl) rfl (fun K hK => ?_) NextU.nil
                   go_simp
                   refine hK.out _ _ ?_
                   clear hK K
                   try simp only [Act.put, List.setIfInBounds_toArray, List.set_cons_zero, List.set_cons_succ]
                   refine anyU_pure (i := 19) (v := ?_) (by decide) rfl (by kernel_rfl) (by kernel_rfl) (by kernel_rfl) (fun _ _ _ h => h) (Or.inl ⟨by rfl, ?_⟩) (fun e => absurd e (by decide)) ?_
                   rotate_left
                   · (intro w _; go_simp; try with_reducible rfl)
                   try simp only [Act.put, List.setIfInBounds_toArray, List.set_cons_zero, List.set_cons_succ]
                   refine anyU_next (rs := [20]) (by kernel_rfl) (by simp) ?_
                   refine NextU.free (by kernel_rfl) rfl (fun K hK => ?_) NextU.nil
                   go_simp
                   refine hK.out _ _ ?_
                   clear hK K
                   try simp only [Act.put, List.setIfInBounds_toArray, List.set_cons_zero, List.set_cons_succ]
                   refine anyU_done (by kernel_rfl) ?_
                   obtain ⟨wz, hwz⟩ : ∃ wz, wz = ((W3.setCell ⟨gt, 1, none⟩ (.slice aA' (rowsTo F.add F.n (a + 1)).length cA')).setCell ⟨gt, 2, none⟩ (.slice aS' (rowsTo F.sub F.n (a + 1)).length cS')).setCell ⟨gt, 3, none⟩ (.slice aM' (rowsTo F.mul F.n (a + 1)).length cM') := ⟨_, rfl⟩
                   have dn : Done13 F ap cp w gt gi (invTo F (a + 1)) (a + 1) wz := by rw [hwz]; exact done13 stn ownA ownS ownM apAS apAM apSM
                   rw [← hwz]
                   have DN := Lib.hid dn
                   clear dn hwz c1 c2 c3 z1 z2 z3 stn ownA ownS ownM
                   go_wp2
                   go_roundw
                   case rel =>
                    obtain ⟨wA, wS, wM, d1, d2⟩ := DN.out
                    exact ⟨a + 1, wA, wS, wM, by go_num, by omega, d1, d2⟩
                   case measure => simp only [intOf]; omega
                 exact NextU.nil
               exact NextU.nil
             refine NextU.cons rfl (fun K hK => ?_) ?_
             · skip
               go_simp
               refine hK.out _ _ ((unhide KA) _ _ hS) (fun hS => ?_)
               clear hK K
               try simp only [Act.put, List.setIfInBounds_toArray, List.set_cons_zero, List.set_cons_succ]
               refine anyU_next (rs := [9]) (by kernel_rfl) (by simp) ?_
               refine NextU.cons rfl (fun K hK => ?_) ?_
               · skip
                 refine step_append_row rfl (.tmp 74) (.tmp 76) rfl rfl (wtS.below ((Below.refl _ _).alloc (Nat.le_refl _) _) sg.hiW).T _ rfl ((bkS.alloc _).cell 0) (wtS.below ((Below.refl _ _).alloc (Nat.le_refl _) _) sg.hiW).r sg.Bh (sg.below ((Below.refl _ _).alloc (Nat.le_refl _) _)).hiW (by rw [rowsTo_len]; omega) ?_
                 intro vS' W2 oS hgS hbS
                 obtain ⟨usS, hOS⟩ := (wtS.below ((Below.refl _ _).alloc (Nat.le_refl _) _) sg.hiW).T.outer
                 have bkM := (Blk.new (g := (W1.heap.size)) _ 28 #[(.slice (some ⟨gm, 0, none⟩) F.n F.n)] rfl).grown hgS (fun e => by have hh := wtS.T.in_ _ e; omega)
                 have wtM := (wtM.below ((Below.refl _ _).alloc (Nat.le_refl _) _) sg.hiW).grow hOS hgS apSM
                 have apSM := apSM.grown hbS wtM.T.in_ (sg.below ((Below.refl _ _).alloc (Nat.le_refl _) _)).hiW
                 have anAS := (apAS.symm.grown hbS (ownA.below ((Below.refl _ _).alloc (Nat.le_refl _) _) (Nat.le_refl _)).in_ (Nat.le_refl _)).symm
                 have ownA := Ap.grow_own (ownA.below ((Below.refl _ _).alloc (Nat.le_refl _) _) (Nat.le_refl _)) hOS hgS apAS.symm
                 have apAS := anAS
                 rw [← rowsTo_succ] at oS
                 have ownS := oS
                 have sgn := (sg.below ((Below.refl _ _).alloc (Nat.le_refl _) _)).grow hgS wtS.T.in_
                 have sg := sgn
                 have hi2 := sg.hiW
                 have hSn := (unhide SX) _ sg.low
                 refine hK.out _ _ hSn (fun hS => ?_)
                 clear hK K
                 try simp only [Act.put, List.setIfInBounds_toArray, List.set_cons_zero, List.set_cons_succ]
                 refine anyU_next (rs := [14]) (by kernel_rfl) (by simp) ?_
                 refine NextU.cons rfl (fun K hK => ?_) ?_
                 · skip
                   refine step_append_row rfl (.tmp 79) (.tmp 81) rfl rfl (wtM.below (Below.refl _ _) sg.hiW).T _ rfl (bkM.cell 0) (wtM.below (Below.refl _ _) sg.hiW).r sg.Bh (sg.below (Below.refl _ _)).hiW (by rw [rowsTo_len]; omega) ?_
                   intro vM' W3 oM hgM hbM
                   obtain ⟨usM, hOM⟩ := (wtM.below (Below.refl _ _) sg.hiW).T.outer
                   have anAM := (apAM.symm.grown hbM (ownA.below (Below.refl _ _) (Nat.le_refl _)).in_ (Nat.le_refl _)).symm
                   have ownA := Ap.grow_own (ownA.below (Below.refl _ _) (Nat.le_refl _)) hOM hgM apAM.symm
                   have apAM := anAM
                   have anSM := (apSM.symm.grown hbM (ownS.below (Below.refl _ _) (Nat.le_refl _)).in_ (Nat.le_refl _)).symm
                   have ownS := Ap.grow_own (ownS.below (Below.refl _ _) (Nat.le_refl _)) hOM hgM apSM.symm
                   have apSM := anSM
                   rw [← rowsTo_succ] at oM
                   have ownM := oM
                   have sgn := (sg.below (Below.refl _ _)).grow hgM wtM.T.in_
                   have sg := sgn
                   have hi3 := sg.hiW
                   have hSn := (unhide SX) _ sg.low
                   refine hK.out _ _ hSn (fun hS => ?_)
                   clear hK K
                   try simp only [Act.put, List.setIfInBounds_toArray, List.set_cons_zero, List.set_cons_succ]
                   have stn := stx.low sg.low
                   obtain ⟨aA', cA', rfl, _⟩ := ownA.form
                   obtain ⟨aS', cS', rfl, _⟩ := ownS.form
                   obtain ⟨aM', cM', rfl, _⟩ := ownM.form
                   have c1 : W3.cell? ⟨gt, 1, none⟩ = some vA := stn.t.cell 1
                   have z1 := stn.t.frozen 1
                   have c2 : W3.cell? ⟨gt, 2, none⟩ = some vS := stn.t.cell 2
                   have z2 := stn.t.frozen 2
                   have c3 : W3.cell? ⟨gt, 3, none⟩ = some vM := stn.t.cell 3
                   have z3 := stn.t.frozen 3
                   refine anyU_next (rs := [16]) (by kernel_rfl) (by simp) ?_
                   refine NextU.free (by kernel_rfl) rfl (fun K hK => ?_) NextU.nil
                   go_simp
                   refine hK.out _ _ ?_
                   clear hK K
                   try simp only [Act.put, List.setIfInBounds_toArray, List.set_cons_zero, List.set_cons_succ]
                   refine anyU_pure (i := 17) (v := ?_) (by decide) rfl (by kernel_rfl) (by kernel_rfl) (by kernel_rfl) (fun _ _ _ h => h) (Or.inl ⟨by rfl, ?_⟩) (fun e => absurd e (by decide)) ?_
                   rotate_left
                   · (intro w _; go_simp; try with_reducible rfl)
                   try simp only [Act.put, List.setIfInBounds_toArray, List.set_cons_zero, List.set_cons_succ]
                   refine anyU_next (rs := [18]) (by kernel_rfl) (by simp) ?_
                   refine NextU.free (by kernel_rfl) rfl (fun K hK => ?_) NextU.nil
                   go_simp
                   refine hK.out _ _ ?_
                   clear hK K
                   try simp only [Act.put, List.setIfInBounds_toArray, List.set_cons_zero, List.set_cons_succ]
                   refine anyU_pure (i := 19) (v := ?_) (by decide) rfl (by kernel_rfl) (by kernel_rfl) (by kernel_rfl) (fun _ _ _ h => h) (Or.inl ⟨by rfl, ?_⟩) (fun e => absurd e (by decide)) ?_
                   rotate_left
                   · (intro w _; go_simp; try with_reducible rfl)
                   try simp only [Act.put, List.setIfInBounds_toArray, List.set_cons_zero, List.set_cons_succ]
                   refine anyU_next (rs := [20]) (by kernel_rfl) (by simp) ?_
                   refine NextU.free (by kernel_rfl) rfl (fun K hK => ?_) NextU.nil
                   go_simp
                   refine hK.out _ _ ?_
                   clear hK K
                   try simp only [Act.put, List.setIfInBounds_toArray, List.set_cons_zero, List.set_cons_succ]
                   refine anyU_done (by kernel_rfl) ?_
                   obtain ⟨wz, hwz⟩ : ∃ wz, wz = ((W3.setCell ⟨gt, 1, none⟩ (.slice aA' (rowsTo F.add F.n (a + 1)).length cA')).setCell ⟨gt, 2, none⟩ (.slice aS' (rowsTo F.sub F.n (a + 1)).length cS')).setCell ⟨gt, 3, none⟩ (.slice aM' (rowsTo F.mul F.n (a + 1)).length cM') := ⟨_, rfl⟩
                   have dn : Done13 F ap cp w gt gi (invTo F (a + 1)) (a + 1) wz := by rw [hwz]; exact done13 stn ownA ownS ownM apAS apAM apSM
                   rw [← hwz]
                   have DN := Lib.hid dn
                   clear dn hwz c1 c2 c3 z1 z2 z3 stn ownA ownS ownM
                   go_wp2
                   go_roundw
                   case rel =>
                    obtain ⟨wA, wS, wM, d1, d2⟩ := DN.out
                    exact ⟨a + 1, wA, wS, wM, by go_num, by omega, d1, d2⟩
                   case measure => simp only [intOf]; omega
                 exact NextU.nil
               exact NextU.nil
             exact NextU.nil
           refine NextU.cons rfl (fun K hK => ?_) ?_
           · skip
             go_simp
             refine hK.out _ _ ((unhide KA) _ _ hS) (fun hS => ?_)
             clear hK K
             try simp only [Act.put, List.setIfInBounds_toArray, List.set_cons_zero, List.set_cons_succ]
             refine anyU_next (rs := [4]) (by kernel_rfl) (by simp) ?_
             refine NextU.cons rfl (fun K hK => ?_) ?_
             · skip
               refine step_append_row rfl (.tmp 69) (.tmp 71) rfl rfl (wtA.below ((((Below.refl _ _).alloc (Nat.le_refl _) _).alloc (by simp) _).alloc (by simp; omega) _) sg.hiW).T _ rfl (((Blk.new (g := (wx.heap.size + 1)) _ 28 #[(.slice (some ⟨ga, 0, none⟩) F.n F.n)] (by simp)).alloc _).cell 0) (wtA.below ((((Below.refl _ _).alloc (Nat.le_refl _) _).alloc (by simp) _).alloc (by simp; omega) _) sg.hiW).r sg.Bh (sg.below ((((Below.refl _ _).alloc (Nat.le_refl _) _).alloc (by simp) _).alloc (by simp; omega) _)).hiW (by rw [rowsTo_len]; omega) ?_
               intro vA' W1 oA hgA hbA
               obtain ⟨usA, hOA⟩ := (wtA.below ((((Below.refl _ _).alloc (Nat.le_refl _) _).alloc (by simp) _).alloc (by simp; omega) _) sg.hiW).T.outer
               have bkS := (((Blk.new (g := (wx.heap.size)) _ 28 #[(.slice (some ⟨gs, 0, none⟩) F.n F.n)] rfl).alloc _).alloc _).grown hgA (fun e => by have hh := wtA.T.in_ _ e; omega)
               have bkM := (Blk.new (g := (wx.heap.size + 1 + 1)) _ 28 #[(.slice (some ⟨gm, 0, none⟩) F.n F.n)] (by simp)).grown hgA (fun e => by have hh := wtA.T.in_ _ e; omega)
               have wtS := (wtS.below ((((Below.refl _ _).alloc (Nat.le_refl _) _).alloc (by simp) _).alloc (by simp; omega) _) sg.hiW).grow hOA hgA apAS
               have wtM := (wtM.below ((((Below.refl _ _).alloc (Nat.le_refl _) _).alloc (by simp) _).alloc (by simp; omega) _) sg.hiW).grow hOA hgA apAM
               have apAS := apAS.grown hbA wtS.T.in_ (sg.below ((((Below.refl _ _).alloc (Nat.le_refl _) _).alloc (by simp) _).alloc (by simp; omega) _)).hiW
               have apAM := apAM.grown hbA wtM.T.in_ (sg.below ((((Below.refl _ _).alloc (Nat.le_refl _) _).alloc (by simp) _).alloc (by simp; omega) _)).hiW
               rw [← rowsTo_succ] at oA
               have ownA := oA
               have sgn := (sg.below ((((Below.refl _ _).alloc (Nat.le_refl _) _).alloc (by simp) _).alloc (by simp; omega) _)).grow hgA wtA.T.in_
               have sg := sgn
               have hi1 := sg.hiW
               have hSn := (unhide SX) _ sg.low
               refine hK.out _ _ hSn (fun hS => ?_)
               clear hK K
               try simp only [Act.put, List.setIfInBounds_toArray, List.set_cons_zero, List.set_cons_succ]
               refine anyU_pure (i := 15) (v := ?_) (by decide) rfl (by kernel_rfl) (by kernel_rfl) (by kernel_rfl) (fun _ _ _ h => h) (Or.inl ⟨by rfl, ?_⟩) (fun _ => hS) ?_
               rotate_left
               · (intro w _; go_simp; try with_reducible rfl)
               try simp only [Act.put, List.setIfInBounds_toArray, List.set_cons_zero, List.set_cons_succ]
               refine anyU_next (rs := [9]) (by kernel_rfl) (by simp) ?_
               refine NextU.cons rfl (fun K hK => ?_) ?_
               · skip
                 refine step_append_row rfl (.tmp 74) (.tmp 76) rfl rfl (wtS.below (Below.refl _ _) sg.hiW).T _ rfl (bkS.cell 0) (wtS.below (Below.refl _ _) sg.hiW).r sg.Bh (sg.below (Below.refl _ _)).hiW (by rw [rowsTo_len]; omega) ?_
                 intro vS' W2 oS hgS hbS
                 obtain ⟨usS, hOS⟩ := (wtS.below (Below.refl _ _) sg.hiW).T.outer
                 have bkM := bkM.grown hgS (fun e => by have hh := wtS.T.in_ _ e; omega)
                 have wtM := (wtM.below (Below.refl _ _) sg.hiW).grow hOS hgS apSM
                 have apSM := apSM.grown hbS wtM.T.in_ (sg.below (Below.refl _ _)).hiW
                 have anAS := (apAS.symm.grown hbS (ownA.below (Below.refl _ _) (Nat.le_refl _)).in_ (Nat.le_refl _)).symm
                 have ownA := Ap.grow_own (ownA.below (Below.refl _ _) (Nat.le_refl _)) hOS hgS apAS.symm
                 have apAS := anAS
                 rw [← rowsTo_succ] at oS
                 have ownS := oS
                 have sgn := (sg.below (Below.refl _ _)).grow hgS wtS.T.in_
                 have sg := sgn
                 have hi2 := sg.hiW
                 have hSn := (unhide SX) _ sg.low
                 refine hK.out _ _ hSn (fun hS => ?_)
                 clear hK K
                 try simp only [Act.put, List.setIfInBounds_toArray, List.set_cons_zero, List.set_cons_succ]
                 refine anyU_next (rs := [14]) (by kernel_rfl) (by simp) ?_
                 refine NextU.cons rfl (fun K hK => ?_) ?_
                 · skip
                   refine step_append_row rfl (.tmp 79) (.tmp 81) rfl rfl (wtM.below (Below.refl _ _) sg.hiW).T _ rfl (bkM.cell 0) (wtM.below (Below.refl _ _) sg.hiW).r sg.Bh (sg.below (Below.refl _ _)).hiW (by rw [rowsTo_len]; omega) ?_
                   intro vM' W3 oM hgM hbM
                   obtain ⟨usM, hOM⟩ := (wtM.below (Below.refl _ _) sg.hiW).T.outer
                   have anAM := (apAM.symm.grown hbM (ownA.below (Below.refl _ _) (Nat.le_refl _)).in_ (Nat.le_refl _)).symm
                   have ownA := Ap.grow_own (ownA.below (Below.refl _ _) (Nat.le_refl _)) hOM hgM apAM.symm
                   have apAM := anAM
                   have anSM := (apSM.symm.grown hbM (ownS.below (Below.refl _ _) (Nat.le_refl _)).in_ (Nat.le_refl _)).symm
                   have ownS := Ap.grow_own (ownS.below (Below.refl _ _) (Nat.le_refl _)) hOM hgM apSM.symm
                   have apSM := anSM
                   rw [← rowsTo_succ] at oM
                   have ownM := oM
                   have sgn := (sg.below (Below.refl _ _)).grow hgM wtM.T.in_
                   have sg := sgn
                   have hi3 := sg.hiW
                   have hSn := (unhide SX) _ sg.low
                   refine hK.out _ _ hSn (fun hS => ?_)
                   clear hK K
                   try simp only [Act.put, List.setIfInBounds_toArray, List.set_cons_zero, List.set_cons_succ]
                   have stn := stx.low sg.low
                   obtain ⟨aA', cA', rfl, _⟩ := ownA.form
                   obtain ⟨aS', cS', rfl, _⟩ := ownS.form
                   obtain ⟨aM', cM', rfl, _⟩ := ownM.form
                   have c1 : W3.cell? ⟨gt, 1, none⟩ = some vA := stn.t.cell 1
                   have z1 := stn.t.frozen 1
                   have c2 : W3.cell? ⟨gt, 2, none⟩ = some vS := stn.t.cell 2
                   have z2 := stn.t.frozen 2
                   have c3 : W3.cell? ⟨gt, 3, none⟩ = some vM := stn.t.cell 3
                   have z3 := stn.t.frozen 3
                   refine anyU_next (rs := [16]) (by kernel_rfl) (by simp) ?_
                   refine NextU.free (by kernel_rfl) rfl (fun K hK => ?_) NextU.nil
                   go_simp
                   refine hK.out _ _ ?_
                   clear hK K
                   try simp only [Act.put, List.setIfInBounds_toArray, List.set_cons_zero, List.set_cons_succ]
                   refine anyU_pure (i := 17) (v := ?_) (by decide) rfl (by kernel_rfl) (by kernel_rfl) (by kernel_rfl) (fun _ _ _ h => h) (Or.inl ⟨by rfl, ?_⟩) (fun e => absurd e (by decide)) ?_
                   rotate_left
                   · (intro w _; go_simp; try with_reducible rfl)
                   try simp only [Act.put, List.setIfInBounds_toArray, List.set_cons_zero, List.set_cons_succ]
                   refine anyU_next (rs := [18]) (by kernel_rfl) (by simp) ?_
                   refine NextU.free (by kernel_rfl) rfl (fun K hK => ?_) NextU.nil
                   go_simp
                   refine hK.out _ _ ?_
                   clear hK K
                   try simp only [Act.put, List.setIfInBounds_toArray, List.set_cons_zero, List.set_cons_succ]
                   refine anyU_pure (i := 19) (v := ?_) (by decide) rfl (by kernel_rfl) (by kernel_rfl) (by kernel_rfl) (fun _ _ _ h => h) (Or.inl ⟨by rfl, ?_⟩) (fun e => absurd e (by decide)) ?_
                   rotate_left
                   · (intro w _; go_simp; try with_reducible rfl)
                   try simp only [Act.put, List.setIfInBounds_toArray, List.set_cons_zero, List.set_cons_succ]
                   refine anyU_next (rs := [20]) (by kernel_rfl) (by simp) ?_
                   refine NextU.free (by kernel_rfl) rfl (fun K hK => ?_) NextU.nil
                   go_simp
                   refine hK.out _ _ ?_
                   clear hK K
                   try simp only [Act.put, List.setIfInBounds_toArray, List.set_cons_zero, List.set_cons_succ]
                   refine anyU_done (by kernel_rfl) ?_
                   obtain ⟨wz, hwz⟩ : ∃ wz, wz = ((W3.setCell ⟨gt, 1, none⟩ (.slice aA' (rowsTo F.add F.n (a + 1)).length cA')).setCell ⟨gt, 2, none⟩ (.slice aS' (rowsTo F.sub F.n (a + 1)).length cS')).setCell ⟨gt, 3, none⟩ (.slice aM' (rowsTo F.mul F.n (a + 1)).length cM') := ⟨_, rfl⟩
                   have dn : Done13 F ap cp w gt gi (invTo F (a + 1)) (a + 1) wz := by rw [hwz]; exact done13 stn ownA ownS ownM apAS apAM apSM
                   rw [← hwz]
                   have DN := Lib.hid dn
                   clear dn hwz c1 c2 c3 z1 z2 z3 stn ownA ownS ownM
                   go_wp2
                   go_roundw
                   case rel =>
                    obtain ⟨wA, wS, wM, d1, d2⟩ := DN.out
                    exact ⟨a + 1, wA, wS, wM, by go_num, by omega, d1, d2⟩
                   case measure => simp only [intOf]; omega
                 exact NextU.nil
               exact NextU.nil
             exact NextU.nil
           exact NextU.nil
         refine NextU.cons rfl (fun K hK => ?_) ?_
         · skip
           go_simp
           refine hK.out _ _ ((unhide KA) _ _ hS) (fun hS => ?_)
           clear hK K
           try simp only [Act.put, List.setIfInBounds_toArray, List.set_cons_zero, List.set_cons_succ]
           refine anyU_next (rs := [3]) (by kernel_rfl) (by simp) ?_
           refine NextU.cons rfl (fun K hK => ?_) ?_
           · skip
             go_simp
             refine hK.out _ _ ((unhide KA) _ _ hS) (fun hS => ?_)
             clear hK K
             try simp only [Act.put, List.setIfInBounds_toArray, List.set_cons_zero, List.set_cons_succ]
             refine anyU_next (rs := [4]) (by kernel_rfl) (by simp) ?_
             refine NextU.cons rfl (fun K hK => ?_) ?_
             · skip
               refine step_append_row rfl (.tmp 69) (.tmp 71) rfl rfl (wtA.below ((((Below.refl _ _).alloc (Nat.le_refl _) _).alloc (by simp) _).alloc (by simp; omega) _) sg.hiW).T _ rfl ((Blk.new (g := (wx.heap.size + 1 + 1)) _ 28 #[(.slice (some ⟨ga, 0, none⟩) F.n F.n)] (by simp)).cell 0) (wtA.below ((((Below.refl _ _).alloc (Nat.le_refl _) _).alloc (by simp) _).alloc (by simp; omega) _) sg.hiW).r sg.Bh (sg.below ((((Below.refl _ _).alloc (Nat.le_refl _) _).alloc (by simp) _).alloc (by simp; omega) _)).hiW (by rw [rowsTo_len]; omega) ?_
               intro vA' W1 oA hgA hbA
               obtain ⟨usA, hOA⟩ := (wtA.below ((((Below.refl _ _).alloc (Nat.le_refl _) _).alloc (by simp) _).alloc (by simp; omega) _) sg.hiW).T.outer
               have bkS := (((Blk.new (g := (wx.heap.size)) _ 28 #[(.slice (some ⟨gs, 0, none⟩) F.n F.n)] rfl).alloc _).alloc _).grown hgA (fun e => by have hh := wtA.T.in_ _ e; omega)
               have bkM := ((Blk.new (g := (wx.heap.size + 1)) _ 28 #[(.slice (some ⟨gm, 0, none⟩) F.n F.n)] (by simp)).alloc _).grown hgA (fun e => by have hh := wtA.T.in_ _ e; omega)
               have wtS := (wtS.below ((((Below.refl _ _).alloc (Nat.le_refl _) _).alloc (by simp) _).alloc (by simp; omega) _) sg.hiW).grow hOA hgA apAS
               have wtM := (wtM.below ((((Below.refl _ _).alloc (Nat.le_refl _) _).alloc (by simp) _).alloc (by simp; omega) _) sg.hiW).grow hOA hgA apAM
               have apAS := apAS.grown hbA wtS.T.in_ (sg.below ((((Below.refl _ _).alloc (Nat.le_refl _) _).alloc (by simp) _).alloc (by simp; omega) _)).hiW
               have apAM := apAM.grown hbA wtM.T.in_ (sg.below ((((Below.refl _ _).alloc (Nat.le_refl _) _).alloc (by simp) _).alloc (by simp; omega) _)).hiW
               rw [← rowsTo_succ] at oA
               have ownA := oA
               have sgn := (sg.below ((((Below.refl _ _).alloc (Nat.le_refl _) _).alloc (by simp) _).alloc (by simp; omega) _)).grow hgA wtA.T.in_
               have sg := sgn
               have hi1 := sg.hiW
               have hSn := (unhide SX) _ sg.low
               refine hK.out _ _ hSn (fun hS => ?_)
               clear hK K
               try simp only [Act.put, List.setIfInBounds_toArray, List.set_cons_zero, List.set_cons_succ]
               refine anyU_pure (i := 15) (v := ?_) (by decide) rfl (by kernel_rfl) (by kernel_rfl) (by kernel_rfl) (fun _ _ _ h => h) (Or.inl ⟨by rfl, ?_⟩) (fun _ => hS) ?_
               rotate_left
               · (intro w _; go_simp; try with_reducible rfl)
               try simp only [Act.put, List.setIfInBounds_toArray, List.set_cons_zero, List.set_cons_succ]
               refine anyU_next (rs := [9]) (by kernel_rfl) (by simp) ?_
               refine NextU.cons rfl (fun K hK => ?_) ?_
               · skip
                 refine step_append_row rfl (.tmp 74) (.tmp 76) rfl rfl (wtS.below (Below.refl _ _) sg.hiW).T _ rfl (bkS.cell 0) (wtS.below (Below.refl _ _) sg.hiW).r sg.Bh (sg.below (Below.refl _ _)).hiW (by rw [rowsTo_len]; omega) ?_
                 intro vS' W2 oS hgS hbS
                 obtain ⟨usS, hOS⟩ := (wtS.below (Below.refl _ _) sg.hiW).T.outer
                 have bkM := bkM.grown hgS (fun e => by have hh := wtS.T.in_ _ e; omega)
                 have wtM := (wtM.below (Below.refl _ _) sg.hiW).grow hOS hgS apSM
                 have apSM := apSM.grown hbS wtM.T.in_ (sg.below (Below.refl _ _)).hiW
                 have anAS := (apAS.symm.grown hbS (ownA.below (Below.refl _ _) (Nat.le_refl _)).in_ (Nat.le_refl _)).symm
                 have ownA := Ap.grow_own (ownA.below (Below.refl _ _) (Nat.le_refl _)) hOS hgS apAS.symm
                 have apAS := anAS
                 rw [← rowsTo_succ] at oS
                 have ownS := oS
                 have sgn := (sg.below (Below.refl _ _)).grow hgS wtS.T.in_
                 have sg := sgn
                 have hi2 := sg.hiW
                 have hSn := (unhide SX) _ sg.low
                 refine hK.out _ _ hSn (fun hS => ?_)
                 clear hK K
                 try simp only [Act.put, List.setIfInBounds_toArray, List.set_cons_zero, List.set_cons_succ]
                 refine anyU_next (rs := [14]) (by kernel_rfl) (by simp) ?_
                 refine NextU.cons rfl (fun K hK => ?_) ?_
                 · skip
                   refine step_append_row rfl (.tmp 79) (.tmp 81) rfl rfl (wtM.below (Below.refl _ _) sg.hiW).T _ rfl (bkM.cell 0) (wtM.below (Below.refl _ _) sg.hiW).r sg.Bh (sg.below (Below.refl _ _)).hiW (by rw [rowsTo_len]; omega) ?_
                   intro vM' W3 oM hgM hbM
                   obtain ⟨usM, hOM⟩ := (wtM.below (Below.refl _ _) sg.hiW).T.outer
                   have anAM := (apAM.symm.grown hbM (ownA.below (Below.refl _ _) (Nat.le_refl _)).in_ (Nat.le_refl _)).symm
                   have ownA := Ap.grow_own (ownA.below (Below.refl _ _) (Nat.le_refl _)) hOM hgM apAM.symm
                   have apAM := anAM
                   have anSM := (apSM.symm.grown hbM (ownS.below (Below.refl _ _) (Nat.le_refl _)).in_ (Nat.le_refl _)).symm
                   have ownS := Ap.grow_own (ownS.below (Below.refl _ _) (Nat.le_refl _)) hOM hgM apSM.symm
                   have apSM := anSM
                   rw [← rowsTo_succ] at oM
                   have ownM := oM
                   have sgn := (sg.below (Below.refl _ _)).grow hgM wtM.T.in_
                   have sg := sgn
                   have hi3 := sg.hiW
                   have hSn := (unhide SX) _ sg.low
                   refine hK.out _ _ hSn (fun hS => ?_)
                   clear hK K
                   try simp only [Act.put, List.setIfInBounds_toArray, List.set_cons_zero, List.set_cons_succ]
                   have stn := stx.low sg.low
                   obtain ⟨aA', cA', rfl, _⟩ := ownA.form
                   obtain ⟨aS', cS', rfl, _⟩ := ownS.form
                   obtain ⟨aM', cM', rfl, _⟩ := ownM.form
                   have c1 : W3.cell? ⟨gt, 1, none⟩ = some vA := stn.t.cell 1
                   have z1 := stn.t.frozen 1
                   have c2 : W3.cell? ⟨gt, 2, none⟩ = some vS := stn.t.cell 2
                   have z2 := stn.t.frozen 2
                   have c3 : W3.cell? ⟨gt, 3, none⟩ = some vM := stn.t.cell 3
                   have z3 := stn.t.frozen 3
                   refine anyU_next (rs := [16]) (by kernel_rfl) (by simp) ?_
                   refine NextU.free (by kernel_rfl) rfl (fun K hK => ?_) NextU.nil
                   go_simp
                   refine hK.out _ _ ?_
                   clear hK K
                   try simp only [Act.put, List.setIfInBounds_toArray, List.set_cons_zero, List.set_cons_succ]
                   refine anyU_pure (i := 17) (v := ?_) (by decide) rfl (by kernel_rfl) (by kernel_rfl) (by kernel_rfl) (fun _ _ _ h => h) (Or.inl ⟨by rfl, ?_⟩) (fun e => absurd e (by decide)) ?_
                   rotate_left
                   · (intro w _; go_simp; try with_reducible rfl)
                   try simp only [Act.put, List.setIfInBounds_toArray, List.set_cons_zero, List.set_cons_succ]
                   refine anyU_next (rs := [18]) (by kernel_rfl) (by simp) ?_
                   refine NextU.free (by kernel_rfl) rfl (fun K hK => ?_) NextU.nil
                   go_simp
                   refine hK.out _ _ ?_
                   clear hK K
                   try simp only [Act.put, List.setIfInBounds_toArray, List.set_cons_zero, List.set_cons_succ]
                   refine anyU_pure (i := 19) (v := ?_) (by decide) rfl (by kernel_rfl) (by kernel_rfl) (by kernel_rfl) (fun _ _ _ h => h) (Or.inl ⟨by rfl, ?_⟩) (fun e => absurd e (by decide)) ?_
                   rotate_left
                   · (intro w _; go_simp; try with_reducible rfl)
                   try simp only [Act.put, List.setIfInBounds_toArray, List.set_cons_zero, List.set_cons_succ]
                   refine anyU_next (rs := [20]) (by kernel_rfl) (by simp) ?_
                   refine NextU.free (by kernel_rfl) rfl (fun K hK => ?_) NextU.nil
                   go_simp
                   refine hK.out _ _ ?_
                   clear hK K
                   try simp only [Act.put, List.setIfInBounds_toArray, List.set_cons_zero, List.set_cons_succ]
                   refine anyU_done (by kernel_rfl) ?_
                   obtain ⟨wz, hwz⟩ : ∃ wz, wz = ((W3.setCell ⟨gt, 1, none⟩ (.slice aA' (rowsTo F.add F.n (a + 1)).length cA')).setCell ⟨gt, 2, none⟩ (.slice aS' (rowsTo F.sub F.n (a + 1)).length cS')).setCell ⟨gt, 3, none⟩ (.slice aM' (rowsTo F.mul F.n (a + 1)).length cM') := ⟨_, rfl⟩
                   have dn : Done13 F ap cp w gt gi (invTo F (a + 1)) (a + 1) wz := by rw [hwz]; exact done13 stn ownA ownS ownM apAS apAM apSM
                   rw [← hwz]
                   have DN := Lib.hid dn
                   clear dn hwz c1 c2 c3 z1 z2 z3 stn ownA ownS ownM
                   go_wp2
                   go_roundw
                   case rel =>
                    obtain ⟨wA, wS, wM, d1, d2⟩ := DN.out
                    exact ⟨a + 1, wA, wS, wM, by go_num, by omega, d1, d2⟩
                   case measure => simp only [intOf]; omega
                 exact NextU.nil
               exact NextU.nil
             exact NextU.nil
           exact NextU.nil
         exact NextU.nil
       refine NextU.cons rfl (fun K hK => ?_) ?_
       · skip
         go_simp
         refine hK.out _ _ ((unhide KA) _ _ hS) (fun hS => ?_)
         clear hK K
         try simp only [Act.put, List.setIfInBounds_toArray, List.set_cons_zero, List.set_cons_succ]
         refine anyU_next (rs := [3, 8]) (by kernel_rfl) (by simp) ?_
         refine NextU.cons rfl (fun K hK => ?_) ?_
         · skip
           go_simp
           refine hK.out _ _ ((unhide KA) _ _ hS) (fun hS => ?_)
           clear hK K
           try simp only [Act.put, List.setIfInBounds_toArray, List.set_cons_zero, List.set_cons_succ]
           refine anyU_next (rs := [4, 8]) (by kernel_rfl) (by simp) ?_
           refine NextU.cons rfl (fun K hK => ?_) ?_
           · skip
             refine step_append_row rfl (.tmp 69) (.tmp 71) rfl rfl (wtA.below (((Below.refl _ _).alloc (Nat.le_refl _) _).alloc (by simp) _) sg.hiW).T _ rfl ((Blk.new (g := (wx.heap.size + 1)) _ 28 #[(.slice (some ⟨ga, 0, none⟩) F.n F.n)] (by simp)).cell 0) (wtA.below (((Below.refl _ _).alloc (Nat.le_refl _) _).alloc (by simp) _) sg.hiW).r sg.Bh (sg.below (((Below.refl _ _).alloc (Nat.le_refl _) _).alloc (by simp) _)).hiW (by rw [rowsTo_len]; omega) ?_
             intro vA' W1 oA hgA hbA
             obtain ⟨usA, hOA⟩ := (wtA.below (((Below.refl _ _).alloc (Nat.le_refl _) _).alloc (by simp) _) sg.hiW).T.outer
             have bkM := ((Blk.new (g := (wx.heap.size)) _ 28 #[(.slice (some ⟨gm, 0, none⟩) F.n F.n)] rfl).alloc _).grown hgA (fun e => by have hh := wtA.T.in_ _ e; omega)
             have wtS := (wtS.below (((Below.refl _ _).alloc (Nat.le_refl _) _).alloc (by simp) _) sg.hiW).grow hOA hgA apAS
             have wtM := (wtM.below (((Below.refl _ _).alloc (Nat.le_refl _) _).alloc (by simp) _) sg.hiW).grow hOA hgA apAM
             have apAS := apAS.grown hbA wtS.T.in_ (sg.below (((Below.refl _ _).alloc (Nat.le_refl _) _).alloc (by simp) _)).hiW
             have apAM := apAM.grown hbA wtM.T.in_ (sg.below (((Below.refl _ _).alloc (Nat.le_refl _) _).alloc (by simp) _)).hiW
             rw [← rowsTo_succ] at oA
             have ownA := oA
             have sgn := (sg.below (((Below.refl _ _).alloc (Nat.le_refl _) _).alloc (by simp) _)).grow hgA wtA.T.in_
             have sg := sgn
             have hi1 := sg.hiW
             have hSn := (unhide SX) _ sg.low
             refine hK.out _ _ hSn (fun hS => ?_)
             clear hK K
             try simp only [Act.put, List.setIfInBounds_toArray, List.set_cons_zero, List.set_cons_succ]
             refine anyU_pure (i := 15) (v := ?_) (by decide) rfl (by kernel_rfl) (by kernel_rfl) (by kernel_rfl) (fun _ _ _ h => h) (Or.inl ⟨by rfl, ?_⟩) (fun _ => hS) ?_
             rotate_left
             · (intro w _; go_simp; try with_reducible rfl)
             try simp only [Act.put, List.setIfInBounds_toArray, List.set_cons_zero, List.set_cons_succ]
             refine anyU_next (rs := [8]) (by kernel_rfl) (by simp) ?_
             refine NextU.cons rfl (fun K hK => ?_) ?_
             · skip
               go_simp
               refine hK.out _ _ ((unhide KA) _ _ hS) (fun hS => ?_)
               clear hK K
               try simp only [Act.put, List.setIfInBounds_toArray, List.set_cons_zero, List.set_cons_succ]
               refine anyU_next (rs := [9]) (by kernel_rfl) (by simp) ?_
               refine NextU.cons rfl (fun K hK => ?_) ?_
               · skip
                 refine step_append_row rfl (.tmp 74) (.tmp 76) rfl rfl (wtS.below ((Below.refl _ _).alloc (Nat.le_refl _) _) sg.hiW).T _ rfl ((Blk.new (g := (W1.heap.size)) _ 28 #[(.slice (some ⟨gs, 0, none⟩) F.n F.n)] rfl).cell 0) (wtS.below ((Below.refl _ _).alloc (Nat.le_refl _) _) sg.hiW).r sg.Bh (sg.below ((Below.refl _ _).alloc (Nat.le_refl _) _)).hiW (by rw [rowsTo_len]; omega) ?_
                 intro vS' W2 oS hgS hbS
                 obtain ⟨usS, hOS⟩ := (wtS.below ((Below.refl _ _).alloc (Nat.le_refl _) _) sg.hiW).T.outer
                 have bkM := (bkM.alloc _).grown hgS (fun e => by have hh := wtS.T.in_ _ e; omega)
                 have wtM := (wtM.below ((Below.refl _ _).alloc (Nat.le_refl _) _) sg.hiW).grow hOS hgS apSM
                 have apSM := apSM.grown hbS wtM.T.in_ (sg.below ((Below.refl _ _).alloc (Nat.le_refl _) _)).hiW
                 have anAS := (apAS.symm.grown hbS (ownA.below ((Below.refl _ _).alloc (Nat.le_refl _) _) (Nat.le_refl _)).in_ (Nat.le_refl _)).symm
                 have ownA := Ap.grow_own (ownA.below ((Below.refl _ _).alloc (Nat.le_refl _) _) (Nat.le_refl _)) hOS hgS apAS.symm
                 have apAS := anAS
                 rw [← rowsTo_succ] at oS
                 have ownS := oS
                 have sgn := (sg.below ((Below.refl _ _).alloc (Nat.le_refl _) _)).grow hgS wtS.T.in_
                 have sg := sgn
                 have hi2 := sg.hiW
                 have hSn := (unhide SX) _ sg.low
                 refine hK.out _ _ hSn (fun hS => ?_)
                 clear hK K
                 try simp only [Act.put, List.setIfInBounds_toArray, List.set_cons_zero, List.set_cons_succ]
                 refine anyU_next (rs := [14]) (by kernel_rfl) (by simp) ?_
                 refine NextU.cons rfl (fun K hK => ?_) ?_
                 · skip
                   refine step_append_row rfl (.tmp 79) (.tmp 81) rfl rfl (wtM.below (Below.refl _ _) sg.hiW).T _ rfl (bkM.cell 0) (wtM.below (Below.refl _ _) sg.hiW).r sg.Bh (sg.below (Below.refl _ _)).hiW (by rw [rowsTo_len]; omega) ?_
                   intro vM' W3 oM hgM hbM
                   obtain ⟨usM, hOM⟩ := (wtM.below (Below.refl _ _) sg.hiW).T.outer
                   have anAM := (apAM.symm.grown hbM (ownA.below (Below.refl _ _) (Nat.le_refl _)).in_ (Nat.le_refl _)).symm
                   have ownA := Ap.grow_own (ownA.below (Below.refl _ _) (Nat.le_refl _)) hOM hgM apAM.symm
                   have apAM := anAM
                   have anSM := (apSM.symm.grown hbM (ownS.below (Below.refl _ _) (Nat.le_refl _)).in_ (Nat.le_refl _)).symm
                   have ownS := Ap.grow_own (ownS.below (Below.refl _ _) (Nat.le_refl _)) hOM hgM apSM.symm
                   have apSM := anSM
                   rw [← rowsTo_succ] at oM
                   have ownM := oM
                   have sgn := (sg.below (Below.refl _ _)).grow hgM wtM.T.in_
                   have sg := sgn
                   have hi3 := sg.hiW
                   have hSn := (unhide SX) _ sg.low
                   refine hK.out _ _ hSn (fun hS => ?_)
                   clear hK K
                   try simp only [Act.put, List.setIfInBounds_toArray, List.set_cons_zero, List.set_cons_succ]
                   have stn := stx.low sg.low
                   obtain ⟨aA', cA', rfl, _⟩ := ownA.form
                   obtain ⟨aS', cS', rfl, _⟩ := ownS.form
                   obtain ⟨aM', cM', rfl, _⟩ := ownM.form
                   have c1 : W3.cell? ⟨gt, 1, none⟩ = some vA := stn.t.cell 1
                   have z1 := stn.t.frozen 1
                   have c2 : W3.cell? ⟨gt, 2, none⟩ = some vS := stn.t.cell 2
                   have z2 := stn.t.frozen 2
                   have c3 : W3.cell? ⟨gt, 3, none⟩ = some vM := stn.t.cell 3
                   have z3 := stn.t.frozen 3
                   refine anyU_next (rs := [16]) (by kernel_rfl) (by simp) ?_
                   refine NextU.free (by kernel_rfl) rfl (fun K hK => ?_) NextU.nil
                   go_simp
                   refine hK.out _ _ ?_
                   clear hK K
                   try simp only [Act.put, List.setIfInBounds_toArray, List.set_cons_zero, List.set_cons_succ]
                   refine anyU_pure (i := 17) (v := ?_) (by decide) rfl (by kernel_rfl) (by kernel_rfl) (by kernel_rfl) (fun _ _ _ h => h) (Or.inl ⟨by rfl, ?_⟩) (fun e => absurd e (by decide)) ?_
                   rotate_left
                   · (intro w _; go_simp; try with_reducible rfl)
                   try simp only [Act.put, List.setIfInBounds_toArray, List.set_cons_zero, List.set_cons_succ]
                   refine anyU_next (rs := [18]) (by kernel_rfl) (by simp) ?_
                   refine NextU.free (by kernel_rfl) rfl (fun K hK => ?_) NextU.nil
                   go_simp
                   refine hK.out _ _ ?_
                   clear hK K
                   try simp only [Act.put, List.setIfInBounds_toArray, List.set_cons_zero, List.set_cons_succ]
                   refine anyU_pure (i := 19) (v := ?_) (by decide) rfl (by kernel_rfl) (by kernel_rfl) (by kernel_rfl) (fun _ _ _ h => h) (Or.inl ⟨by rfl, ?_⟩) (fun e => absurd e (by decide)) ?_
                   rotate_left
                   · (intro w _; go_simp; try with_reducible rfl)
                   try simp only [Act.put, List.setIfInBounds_toArray, List.set_cons_zero, List.set_cons_succ]
                   refine anyU_next (rs := [20]) (by kernel_rfl) (by simp) ?_
                   refine NextU.free (by kernel_rfl) rfl (fun K hK => ?_) NextU.nil
                   go_simp
                   refine hK.out _ _ ?_
                   clear hK K
                   try simp only [Act.put, List.setIfInBounds_toArray, List.set_cons_zero, List.set_cons_succ]
                   refine anyU_done (by kernel_rfl) ?_
                   obtain ⟨wz, hwz⟩ : ∃ wz, wz = ((W3.setCell ⟨gt, 1, none⟩ (.slice aA' (rowsTo F.add F.n (a + 1)).length cA')).setCell ⟨gt, 2, none⟩ (.slice aS' (rowsTo F.sub F.n (a + 1)).length cS')).setCell ⟨gt, 3, none⟩ (.slice aM' (rowsTo F.mul F.n (a + 1)).length cM') := ⟨_, rfl⟩
                   have dn : Done13 F ap cp w gt gi (invTo F (a + 1)) (a + 1) wz := by rw [hwz]; exact done13 stn ownA ownS ownM apAS apAM apSM
                   rw [← hwz]
                   have DN := Lib.hid dn
                   clear dn hwz c1 c2 c3 z1 z2 z3 stn ownA ownS ownM
                   go_wp2
                   go_roundw
                   case rel =>
                    obtain ⟨wA, wS, wM, d1, d2⟩ := DN.out
                    exact ⟨a + 1, wA, wS, wM, by go_num, by omega, d1, d2⟩
                   case measure => simp only [intOf]; omega
                 exact NextU.nil
               exact NextU.nil
             exact NextU.nil
           refine NextU.cons rfl (fun K hK => ?_) ?_
           · skip
             go_simp
             refine hK.out _ _ ((unhide KA) _ _ hS) (fun hS => ?_)
             clear hK K
             try simp only [Act.put, List.setIfInBounds_toArray, List.set_cons_zero, List.set_cons_succ]
             refine anyU_next (rs := [4]) (by kernel_rfl) (by simp) ?_
             refine NextU.cons rfl (fun K hK => ?_) ?_
             · skip
               refine step_append_row rfl (.tmp 69) (.tmp 71) rfl rfl (wtA.below ((((Below.refl _ _).alloc (Nat.le_refl _) _).alloc (by simp) _).alloc (by simp; omega) _) sg.hiW).T _ rfl (((Blk.new (g := (wx.heap.size + 1)) _ 28 #[(.slice (some ⟨ga, 0, none⟩) F.n F.n)] (by simp)).alloc _).cell 0) (wtA.below ((((Below.refl _ _).alloc (Nat.le_refl _) _).alloc (by simp) _).alloc (by simp; omega) _) sg.hiW).r sg.Bh (sg.below ((((Below.refl _ _).alloc (Nat.le_refl _) _).alloc (by simp) _).alloc (by simp; omega) _)).hiW (by rw [rowsTo_len]; omega) ?_
               intro vA' W1 oA hgA hbA
               obtain ⟨usA, hOA⟩ := (wtA.below ((((Below.refl _ _).alloc (Nat.le_refl _) _).alloc (by simp) _).alloc (by simp; omega) _) sg.hiW).T.outer
               have bkS := (Blk.new (g := (wx.heap.size + 1 + 1)) _ 28 #[(.slice (some ⟨gs, 0, none⟩) F.n F.n)] (by simp)).grown hgA (fun e => by have hh := wtA.T.in_ _ e; omega)
               have bkM := (((Blk.new (g := (wx.heap.size)) _ 28 #[(.slice (some ⟨gm, 0, none⟩) F.n F.n)] rfl).alloc _).alloc _).grown hgA (fun e => by have hh := wtA.T.in_ _ e; omega)
               have wtS := (wtS.below ((((Below.refl _ _).alloc (Nat.le_refl _) _).alloc (by simp) _).alloc (by simp; omega) _) sg.hiW).grow hOA hgA apAS
               have wtM := (wtM.below ((((Below.refl _ _).alloc (Nat.le_refl _) _).alloc (by simp) _).alloc (by simp; omega) _) sg.hiW).grow hOA hgA apAM
               have apAS := apAS.grown hbA wtS.T.in_ (sg.below ((((Below.refl _ _).alloc (Nat.le_refl _) _).alloc (by simp) _).alloc (by simp; omega) _)).hiW
               have apAM := apAM.grown hbA wtM.T.in_ (sg.below ((((Below.refl _ _).alloc (Nat.le_refl _) _).alloc (by simp) _).alloc (by simp; omega) _)).hiW
               rw [← rowsTo_succ] at oA
               have ownA := oA
               have sgn := (sg.below ((((Below.refl _ _).alloc (Nat.le_refl _) _).alloc (by simp) _).alloc (by simp; omega) _)).grow hgA wtA.T.in_
               have sg := sgn
               have hi1 := sg.hiW
               have hSn := (unhide SX) _ sg.low
               refine hK.out _ _ hSn (fun hS => ?_)
               clear hK K
               try simp only [Act.put, List.setIfInBounds_toArray, List.set_cons_zero, List.set_cons_succ]
               refine anyU_pure (i := 15) (v := ?_) (by decide) rfl (by kernel_rfl) (by kernel_rfl) (by kernel_rfl) (fun _ _ _ h => h) (Or.inl ⟨by rfl, ?_⟩) (fun _ => hS) ?_
               rotate_left
               · (intro w _; go_simp; try with_reducible rfl)
               try simp only [Act.put, List.setIfInBounds_toArray, List.set_cons_zero, List.set_cons_succ]
               refine anyU_next (rs := [9]) (by kernel_rfl) (by simp) ?_
               refine NextU.cons rfl (fun K hK => ?_) ?_
               · skip
                 refine step_append_row rfl (.tmp 74) (.tmp 76) rfl rfl (wtS.below (Below.refl _ _) sg.hiW).T _ rfl (bkS.cell 0) (wtS.below (Below.refl _ _) sg.hiW).r sg.Bh (sg.below (Below.refl _ _)).hiW (by rw [rowsTo_len]; omega) ?_
                 intro vS' W2 oS hgS hbS
                 obtain ⟨usS, hOS⟩ := (wtS.below (Below.refl _ _) sg.hiW).T.outer
                 have bkM := bkM.grown hgS (fun e => by have hh := wtS.T.in_ _ e; omega)
                 have wtM := (wtM.below (Below.refl _ _) sg.hiW).grow hOS hgS apSM
                 have apSM := apSM.grown hbS wtM.T.in_ (sg.below (Below.refl _ _)).hiW
                 have anAS := (apAS.symm.grown hbS (ownA.below (Below.refl _ _) (Nat.le_refl _)).in_ (Nat.le_refl _)).symm
                 have ownA := Ap.grow_own (ownA.below (Below.refl _ _) (Nat.le_refl _)) hOS hgS apAS.symm
                 have apAS := anAS
                 rw [← rowsTo_succ] at oS
                 have ownS := oS
                 have sgn := (sg.below (Below.refl _ _)).grow hgS wtS.T.in_
                 have sg := sgn
                 have hi2 := sg.hiW
                 have hSn := (unhide SX) _ sg.low
                 refine hK.out _ _ hSn (fun hS => ?_)
                 clear hK K
                 try simp only [Act.put, List.setIfInBounds_toArray, List.set_cons_zero, List.set_cons_succ]
                 refine anyU_next (rs := [14]) (by kernel_rfl) (by simp) ?_
                 refine NextU.cons rfl (fun K hK => ?_) ?_
                 · skip
                   refine step_append_row rfl (.tmp 79) (.tmp 81) rfl rfl (wtM.below (Below.refl _ _) sg.hiW).T _ rfl (bkM.cell 0) (wtM.below (Below.refl _ _) sg.hiW).r sg.Bh (sg.below (Below.refl _ _)).hiW (by rw [rowsTo_len]; omega) ?_
                   intro vM' W3 oM hgM hbM
                   obtain ⟨usM, hOM⟩ := (wtM.below (Below.refl _ _) sg.hiW).T.outer
                   have anAM := (apAM.symm.grown hbM (ownA.below (Below.refl _ _) (Nat.le_refl _)).in_ (Nat.le_refl _)).symm
                   have ownA := Ap.grow_own (ownA.below (Below.refl _ _) (Nat.le_refl _)) hOM hgM apAM.symm
                   have apAM := anAM
                   have anSM := (apSM.symm.grown hbM (ownS.below (Below.refl _ _) (Nat.le_refl _)).in_ (Nat.le_refl _)).symm
                   have ownS := Ap.grow_own (ownS.below (Below.refl _ _) (Nat.le_refl _)) hOM hgM apSM.symm
                   have apSM := anSM
                   rw [← rowsTo_succ] at oM
                   have ownM := oM
                   have sgn := (sg.below (Below.refl _ _)).grow hgM wtM.T.in_
                   have sg := sgn
                   have hi3 := sg.hiW
                   have hSn := (unhide SX) _ sg.low
                   refine hK.out _ _ hSn (fun hS => ?_)
                   clear hK K
                   try simp only [Act.put, List.setIfInBounds_toArray, List.set_cons_zero, List.set_cons_succ]
                   have stn := stx.low sg.low
                   obtain ⟨aA', cA', rfl, _⟩ := ownA.form
                   obtain ⟨aS', cS', rfl, _⟩ := ownS.form
                   obtain ⟨aM', cM', rfl, _⟩ := ownM.form
                   have c1 : W3.cell? ⟨gt, 1, none⟩ = some vA := stn.t.cell 1
                   have z1 := stn.t.frozen 1
                   have c2 : W3.cell? ⟨gt, 2, none⟩ = some vS := stn.t.cell 2
                   have z2 := stn.t.frozen 2
                   have c3 : W3.cell? ⟨gt, 3, none⟩ = some vM := stn.t.cell 3
                   have z3 := stn.t.frozen 3
                   refine anyU_next (rs := [16]) (by kernel_rfl) (by simp) ?_
                   refine NextU.free (by kernel_rfl) rfl (fun K hK => ?_) NextU.nil
                   go_simp
                   refine hK.out _ _ ?_
                   clear hK K
                   try simp only [Act.put, List.setIfInBounds_toArray, List.set_cons_zero, List.set_cons_succ]
                   refine anyU_pure (i := 17) (v := ?_) (by decide) rfl (by kernel_rfl) (by kernel_rfl) (by kernel_rfl) (fun _ _ _ h => h) (Or.inl ⟨by rfl, ?_⟩) (fun e => absurd e (by decide)) ?_
                   rotate_left
                   · (intro w _; go_simp; try with_reducible rfl)
                   try simp only [Act.put, List.setIfInBounds_toArray, List.set_cons_zero, List.set_cons_succ]
                   refine anyU_next (rs := [18]) (by kernel_rfl) (by simp) ?_
                   refine NextU.free (by kernel_rfl) rfl (fun K hK => ?_) NextU.nil
                   go_simp
                   refine hK.out _ _ ?_
                   clear hK K
                   try simp only [Act.put, List.setIfInBounds_toArray, List.set_cons_zero, List.set_cons_succ]
                   refine anyU_pure (i := 19) (v := ?_) (by decide) rfl (by kernel_rfl) (by kernel_rfl) (by kernel_rfl) (fun _ _ _ h => h) (Or.inl ⟨by rfl, ?_⟩) (fun e => absurd e (by decide)) ?_
                   rotate_left
                   · (intro w _; go_simp; try with_reducible rfl)
                   try simp only [Act.put, List.setIfInBounds_toArray, List.set_cons_zero, List.set_cons_succ]
                   refine anyU_next (rs := [20]) (by kernel_rfl) (by simp) ?_
                   refine NextU.free (by kernel_rfl) rfl (fun K hK => ?_) NextU.nil
                   go_simp
                   refine hK.out _ _ ?_
                   clear hK K
                   try simp only [Act.put, List.setIfInBounds_toArray, List.set_cons_zero, List.set_cons_succ]
                   refine anyU_done (by kernel_rfl) ?_
                   obtain ⟨wz, hwz⟩ : ∃ wz, wz = ((W3.setCell ⟨gt, 1, none⟩ (.slice aA' (rowsTo F.add F.n (a + 1)).length cA')).setCell ⟨gt, 2, none⟩ (.slice aS' (rowsTo F.sub F.n (a + 1)).length cS')).setCell ⟨gt, 3, none⟩ (.slice aM' (rowsTo F.mul F.n (a + 1)).length cM') := ⟨_, rfl⟩
                   have dn : Done13 F ap cp w gt gi (invTo F (a + 1)) (a + 1) wz := by rw [hwz]; exact done13 stn ownA ownS ownM apAS apAM apSM
                   rw [← hwz]
                   have DN := Lib.hid dn
                   clear dn hwz c1 c2 c3 z1 z2 z3 stn ownA ownS ownM
                   go_wp2
                   go_roundw
                   case rel =>
                    obtain ⟨wA, wS, wM, d1, d2⟩ := DN.out
                    exact ⟨a + 1, wA, wS, wM, by go_num, by omega, d1, d2⟩
                   case measure => simp only [intOf]; omega
                 exact NextU.nil
               exact NextU.nil
             exact NextU.nil
           exact NextU.nil
         refine NextU.cons rfl (fun K hK => ?_) ?_
         · skip
           go_simp
           refine hK.out _ _ ((unhide KA) _ _ hS) (fun hS => ?_)
           clear hK K
           try simp only [Act.put, List.setIfInBounds_toArray, List.set_cons_zero, List.set_cons_succ]
           refine anyU_next (rs := [3]) (by kernel_rfl) (by simp) ?_
           refine NextU.cons rfl (fun K hK => ?_) ?_
           · skip
             go_simp
             refine hK.out _ _ ((unhide KA) _ _ hS) (fun hS => ?_)
             clear hK K
             try simp only [Act.put, List.setIfInBounds_toArray, List.set_cons_zero, List.set_cons_succ]
             refine anyU_next (rs := [4]) (by kernel_rfl) (by simp) ?_
             refine NextU.cons rfl (fun K hK => ?_) ?_
             · skip
               refine step_append_row rfl (.tmp 69) (.tmp 71) rfl rfl (wtA.below ((((Below.refl _ _).alloc (Nat.le_refl _) _).alloc (by simp) _).alloc (by simp; omega) _) sg.hiW).T _ rfl ((Blk.new (g := (wx.heap.size + 1 + 1)) _ 28 #[(.slice (some ⟨ga, 0, none⟩) F.n F.n)] (by simp)).cell 0) (wtA.below ((((Below.refl _ _).alloc (Nat.le_refl _) _).alloc (by simp) _).alloc (by simp; omega) _) sg.hiW).r sg.Bh (sg.below ((((Below.refl _ _).alloc (Nat.le_refl _) _).alloc (by simp) _).alloc (by simp; omega) _)).hiW (by rw [rowsTo_len]; omega) ?_
               intro vA' W1 oA hgA hbA
               obtain ⟨usA, hOA⟩ := (wtA.below ((((Below.refl _ _).alloc (Nat.le_refl _) _).alloc (by simp) _).alloc (by simp; omega) _) sg.hiW).T.outer
               have bkS := ((Blk.new (g := (wx.heap.size + 1)) _ 28 #[(.slice (some ⟨gs, 0, none⟩) F.n F.n)] (by simp)).alloc _).grown hgA (fun e => by have hh := wtA.T.in_ _ e; omega)
               have bkM := (((Blk.new (g := (wx.heap.size)) _ 28 #[(.slice (some ⟨gm, 0, none⟩) F.n F.n)] rfl).alloc _).alloc _).grown hgA (fun e => by have hh := wtA.T.in_ _ e; omega)
               have wtS := (wtS.below ((((Below.refl _ _).alloc (Nat.le_refl _) _).alloc (by simp) _).alloc (by simp; omega) _) sg.hiW).grow hOA hgA apAS
               have wtM := (wtM.below ((((Below.refl _ _).alloc (Nat.le_refl _) _).alloc (by simp) _).alloc (by simp; omega) _) sg.hiW).grow hOA hgA apAM
               have apAS := apAS.grown hbA wtS.T.in_ (sg.below ((((Below.refl _ _).alloc (Nat.le_refl _) _).alloc (by simp) _).alloc (by simp; omega) _)).hiW
               have apAM := apAM.grown hbA wtM.T.in_ (sg.below ((((Below.refl _ _).alloc (Nat.le_refl _) _).alloc (by simp) _).alloc (by simp; omega) _)).hiW
               rw [← rowsTo_succ] at oA
               have ownA := oA
               have sgn := (sg.below ((((Below.refl _ _).alloc (Nat.le_refl _) _).alloc (by simp) _).alloc (by simp; omega) _)).grow hgA wtA.T.in_
               have sg := sgn
               have hi1 := sg.hiW
               have hSn := (unhide SX) _ sg.low
               refine hK.out _ _ hSn (fun hS => ?_)
               clear hK K
               try simp only [Act.put, List.setIfInBounds_toArray, List.set_cons_zero, List.set_cons_succ]
               refine anyU_pure (i := 15) (v := ?_) (by decide) rfl (by kernel_rfl) (by kernel_rfl) (by kernel_rfl) (fun _ _ _ h => h) (Or.inl ⟨by rfl, ?_⟩) (fun _ => hS) ?_
               rotate_left
               · (intro w _; go_simp; try with_reducible rfl)
               try simp only [Act.put, List.setIfInBounds_toArray, List.set_cons_zero, List.set_cons_succ]
               refine anyU_next (rs := [9]) (by kernel_rfl) (by simp) ?_
               refine NextU.cons rfl (fun K hK => ?_) ?_
               · skip
                 refine step_append_row rfl (.tmp 74) (.tmp 76) rfl rfl (wtS.below (Below.refl _ _) sg.hiW).T _ rfl (bkS.cell 0) (wtS.below (Below.refl _ _) sg.hiW).r sg.Bh (sg.below (Below.refl _ _)).hiW (by rw [rowsTo_len]; omega) ?_
                 intro vS' W2 oS hgS hbS
                 obtain ⟨usS, hOS⟩ := (wtS.below (Below.refl _ _) sg.hiW).T.outer
                 have bkM := bkM.grown hgS (fun e => by have hh := wtS.T.in_ _ e; omega)
                 have wtM := (wtM.below (Below.refl _ _) sg.hiW).grow hOS hgS apSM
                 have apSM := apSM.grown hbS wtM.T.in_ (sg.below (Below.refl _ _)).hiW
                 have anAS := (apAS.symm.grown hbS (ownA.below (Below.refl _ _) (Nat.le_refl _)).in_ (Nat.le_refl _)).symm
                 have ownA := Ap.grow_own (ownA.below (Below.refl _ _) (Nat.le_refl _)) hOS hgS apAS.symm
                 have apAS := anAS
                 rw [← rowsTo_succ] at oS
                 have ownS := oS
                 have sgn := (sg.below (Below.refl _ _)).grow hgS wtS.T.in_
                 have sg := sgn
                 have hi2 := sg.hiW
                 have hSn := (unhide SX) _ sg.low
                 refine hK.out _ _ hSn (fun hS => ?_)
                 clear hK K
                 try simp only [Act.put, List.setIfInBounds_toArray, List.set_cons_zero, List.set_cons_succ]
                 refine anyU_next (rs := [14]) (by kernel_rfl) (by simp) ?_
                 refine NextU.cons rfl (fun K hK => ?_) ?_
                 · skip
                   refine step_append_row rfl (.tmp 79) (.tmp 81) rfl rfl (wtM.below (Below.refl _ _) sg.hiW).T _ rfl (bkM.cell 0) (wtM.below (Below.refl _ _) sg.hiW).r sg.Bh (sg.below (Below.refl _ _)).hiW (by rw [rowsTo_len]; omega) ?_
                   intro vM' W3 oM hgM hbM
                   obtain ⟨usM, hOM⟩ := (wtM.below (Below.refl _ _) sg.hiW).T.outer
                   have anAM := (apAM.symm.grown hbM (ownA.below (Below.refl _ _) (Nat.le_refl _)).in_ (Nat.le_refl _)).symm
                   have ownA := Ap.grow_own (ownA.below (Below.refl _ _) (Nat.le_refl _)) hOM hgM apAM.symm
                   have apAM := anAM
                   have anSM := (apSM.symm.grown hbM (ownS.below (Below.refl _ _) (Nat.le_refl _)).in_ (Nat.le_refl _)).symm
                   have ownS := Ap.grow_own (ownS.below (Below.refl _ _) (Nat.le_refl _)) hOM hgM apSM.symm
                   have apSM := anSM
                   rw [← rowsTo_succ] at oM
                   have ownM := oM
                   have sgn := (sg.below (Below.refl _ _)).grow hgM wtM.T.in_
                   have sg := sgn
                   have hi3 := sg.hiW
                   have hSn := (unhide SX) _ sg.low
                   refine hK.out _ _ hSn (fun hS => ?_)
                   clear hK K
                   try simp only [Act.put, List.setIfInBounds_toArray, List.set_cons_zero, List.set_cons_succ]
                   have stn := stx.low sg.low
                   obtain ⟨aA', cA', rfl, _⟩ := ownA.form
                   obtain ⟨aS', cS', rfl, _⟩ := ownS.form
                   obtain ⟨aM', cM', rfl, _⟩ := ownM.form
                   have c1 : W3.cell? ⟨gt, 1, none⟩ = some vA := stn.t.cell 1
                   have z1 := stn.t.frozen 1
                   have c2 : W3.cell? ⟨gt, 2, none⟩ = some vS := stn.t.cell 2
                   have z2 := stn.t.frozen 2
                   have c3 : W3.cell? ⟨gt, 3, none⟩ = some vM := stn.t.cell 3
                   have z3 := stn.t.frozen 3
                   refine anyU_next (rs := [16]) (by kernel_rfl) (by simp) ?_
                   refine NextU.free (by kernel_rfl) rfl (fun K hK => ?_) NextU.nil
                   go_simp
                   refine hK.out _ _ ?_
                   clear hK K
                   try simp only [Act.put, List.setIfInBounds_toArray, List.set_cons_zero, List.set_cons_succ]
                   refine anyU_pure (i := 17) (v := ?_) (by decide) rfl (by kernel_rfl) (by kernel_rfl) (by kernel_rfl) (fun _ _ _ h => h) (Or.inl ⟨by rfl, ?_⟩) (fun e => absurd e (by decide)) ?_
                   rotate_left
                   · (intro w _; go_simp; try with_reducible rfl)
                   try simp only [Act.put, List.setIfInBounds_toArray, List.set_cons_zero, List.set_cons_succ]
                   refine anyU_next (rs := [18]) (by kernel_rfl) (by simp) ?_
                   refine NextU.free (by kernel_rfl) rfl (fun K hK => ?_) NextU.nil
                   go_simp
                   refine hK.out _ _ ?_
                   clear hK K
                   try simp only [Act.put, List.setIfInBounds_toArray, List.set_cons_zero, List.set_cons_succ]
                   refine anyU_pure (i := 19) (v := ?_) (by decide) rfl (by kernel_rfl) (by kernel_rfl) (by kernel_rfl) (fun _ _ _ h => h) (Or.inl ⟨by rfl, ?_⟩) (fun e => absurd e (by decide)) ?_
                   rotate_left
                   · (intro w _; go_simp; try with_reducible rfl)
                   try simp only [Act.put, List.setIfInBounds_toArray, List.set_cons_zero, List.set_cons_succ]
                   refine anyU_next (rs := [20]) (by kernel_rfl) (by simp) ?_
                   refine NextU.free (by kernel_rfl) rfl (fun K hK => ?_) NextU.nil
                   go_simp
                   refine hK.out _ _ ?_
                   clear hK K
                   try simp only [Act.put, List.setIfInBounds_toArray, List.set_cons_zero, List.set_cons_succ]
                   refine anyU_done (by kernel_rfl) ?_
                   obtain ⟨wz, hwz⟩ : ∃ wz, wz = ((W3.setCell ⟨gt, 1, none⟩ (.slice aA' (rowsTo F.add F.n (a + 1)).length cA')).setCell ⟨gt, 2, none⟩ (.slice aS' (rowsTo F.sub F.n (a + 1)).length cS')).setCell ⟨gt, 3, none⟩ (.slice aM' (rowsTo F.mul F.n (a + 1)).length cM') := ⟨_, rfl⟩
                   have dn : Done13 F ap cp w gt gi (invTo F (a + 1)) (a + 1) wz := by rw [hwz]; exact done13 stn ownA ownS ownM apAS apAM apSM
                   rw [← hwz]
                   have DN := Lib.hid dn
                   clear dn hwz c1 c2 c3 z1 z2 z3 stn ownA ownS ownM
                   go_wp2
                   go_roundw
                   case rel =>
                    obtain ⟨wA, wS, wM, d1, d2⟩ := DN.out
                    exact ⟨a + 1, wA, wS, wM, by go_num, by omega, d1, d2⟩
                   case measure => simp only [intOf]; omega
                 exact NextU.nil
               exact NextU.nil
             exact NextU.nil
           exact NextU.nil
         exact NextU.nil
       exact NextU.nil
  · have hae : a = F.n := by omega
    subst hae
    have st := hbs.out
    have tb := htb.out
    obtain ⟨aA, cA, eA, _⟩ := tb.A.form
    obtain ⟨aS, cS, eS, _⟩ := tb.S.form
    obtain ⟨aM, cM, eM, _⟩ := tb.M.form
    rw [rowsTo_len] at eA eS eM
    subst eA
    subst eS
    subst eM
    have t0 : wr.cell? ⟨gt, 0, none⟩ = some (.int .i64 F.n) := st.t.cell 0
    have t1 : wr.cell? ⟨gt, 1, none⟩ = some (.slice aA F.n cA) := st.t.cell 1
    have t2 : wr.cell? ⟨gt, 2, none⟩ = some (.slice aS F.n cS) := st.t.cell 2
    have t3 : wr.cell? ⟨gt, 3, none⟩ = some (.slice aM F.n cM) := st.t.cell 3
    have t4 : wr.cell? ⟨gt, 4, none⟩ = some (.slice (some ⟨gi, 0, none⟩) F.n F.n) := st.t.cell 4
    have r0 : wr.cell? ⟨w.heap.size + 1, 0, none⟩ = some (.int .i64 0) := st.r.cell 0
    have r1 : wr.cell? ⟨w.heap.size + 1, 1, none⟩ = some (.slice none 0 0) := st.r.cell 1
    have r2 : wr.cell? ⟨w.heap.size + 1, 2, none⟩ = some (.slice none 0 0) := st.r.cell 2
    have r3 : wr.cell? ⟨w.heap.size + 1, 3, none⟩ = some (.slice none 0 0) := st.r.cell 3
    have r4 : wr.cell? ⟨w.heap.size + 1, 4, none⟩ = some (.slice none 0 0) := st.r.cell 4
    have z0 := st.r.frozen 0
    have z1 := st.r.frozen 1
    have z2 := st.r.frozen 2
    have z3 := st.r.frozen 3
    have z4 := st.r.frozen 4
    have lo : ∀ (u : Value) (i : Nat) (W : World) (v : Value) (xss : List (List Int)), OwnS W (gi + 1) v xss → OwnS (W.setCell ⟨w.heap.size + 1, i, none⟩ u) (gi + 1) v xss := fun _ _ _ _ _ h => h.storeBelow (show w.heap.size + 1 < _ by omega) _
    have li : ∀ (u : Value) (i : Nat) (W : World) (v : Value) (xs : List Int), Own W gi v xs → Own (W.setCell ⟨w.heap.size + 1, i, none⟩ u) gi v xs := fun _ _ _ _ _ h => h.storeBelow (show w.heap.size + 1 < gi by omega) _
    have LO := hide lo
    have LI := hide li
    clear lo li hbs htb hmk
    go_wp2
    refine bodyPost_ret (results_cell_row rfl _ _ (w.heap.size + 1) 60 #[.int .i64 F.n, .slice aA F.n cA, .slice aS F.n cS, .slice aM F.n cM, .slice (some ⟨gi, 0, none⟩) F.n F.n] (0, 0) _ rfl (((((st.r.set_ 0 _).set_ 1 _).set_ 2 _).set_ 3 _).set_ 4 _) Tryz.underlying60 rfl (by kernel_rfl)) rfl ⟨_, rfl, ⟨aA, cA, aS, cS, aM, cM, some ⟨gi, 0, none⟩, F.n, rfl, ?_, ?_, ?_, ?_⟩, ?_⟩
    · exact ((unhide LO) _ _ _ _ _ ((unhide LO) _ _ _ _ _ ((unhide LO) _ _ _ _ _ ((unhide LO) _ _ _ _ _ ((unhide LO) _ _ _ _ _ tb.A))))).rd
    · exact ((unhide LO) _ _ _ _ _ ((unhide LO) _ _ _ _ _ ((unhide LO) _ _ _ _ _ ((unhide LO) _ _ _ _ _ ((unhide LO) _ _ _ _ _ tb.S))))).rd
    · exact ((unhide LO) _ _ _ _ _ ((unhide LO) _ _ _ _ _ ((unhide LO) _ _ _ _ _ ((unhide LO) _ _ _ _ _ ((unhide LO) _ _ _ _ _ tb.M))))).rd
    · exact ((unhide LI) _ _ _ _ _ ((unhide LI) _ _ _ _ _ ((unhide LI) _ _ _ _ _ ((unhide LI) _ _ _ _ _ ((unhide LI) _ _ _ _ _ st.i))))).rd
    · exact ((((st.out.setCell (show w.heap.size ≤ w.heap.size + 1 by omega) _).setCell (show w.heap.size ≤ w.heap.size + 1 by omega) _).setCell (show w.heap.size ≤ w.heap.size + 1 by omega) _).setCell (show w.heap.size ≤ w.heap.size + 1 by omega) _).setCell (show w.heap.size ≤ w.heap.size + 1 by omega) _
end Go.Proofs.YtkiljcbejmiioaaGreat
