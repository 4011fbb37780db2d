/-
  Texts joined.
-/
import Derived.IntWalk
import Derived.Test.YtgfcbmflnldicaaGreatRF1
import Derived.Test.YtgfcbmflnldicaaGreatRF13
set_option linter.unusedVariables false
set_option linter.unusedSimpArgs false
set_option maxRecDepth 100000
set_option maxHeartbeats 40000000
namespace Go.Proofs.YtgfcbmflnldicaaGreat
open Go.RowKit
attribute [local go_sem ↓] Go.wp_at_zero Go.wp_at_succ
def NB (u x : Value) : Prop := ∀ k, x.ownBlock = some k → u.ownBlock ≠ some k
theorem OwnSQ.grow2 {w w' : World} {B B' : Nat} {v u u2 : Value} {yss : List (List Int)} {us : List Int} (h : OwnSQ w B v yss (NB u)) (hu : Own w B' u us) (hg : w.grownBy w' u.ownBlock) (hc : u2.ownBlock = u.ownBlock ∨ u2.ownBlock = some w.heap.size) : OwnSQ w' B v yss (NB u2) := by
 have h2 : OwnSQ w B v yss (fun x => NB u x ∧ NB u2 x) := h.imp fun x hlt hq => ⟨hq, fun k hk => by
  rcases hc with e | e
  · rw [e]; exact hq k hk
  · rw [e]; intro e2; injection e2 with e2; have := hlt k hk; omega⟩
 exact (h2.grow hu hg fun x q => q.1).imp fun x _ q => q.2
theorem OwnSQ.lt {w : World} {B g n c : Nat} {yss : List (List Int)} {Q : Value → Prop} (h : OwnSQ w B (.slice (some ⟨g, 0, none⟩) n c) yss Q) (h0 : 0 < yss.length) : g < w.heap.size := by
 obtain ⟨g', c', e, _, h1, _⟩ := h.own.at_ h0
 injection e with e _ _
 injection e with e
 injection e with e _ _
 omega
end Go.Proofs.YtgfcbmflnldicaaGreat
namespace Go.Proofs.YtgfcbmflnldicaaGreat
open Go.RowKit
attribute [local go_sem ↓] Go.wp_at_zero Go.wp_at_succ
def form (F : FD) (xss : List (List Int)) (n : Nat) : List (List Int) := (red F xss n).1.take (red F xss n).2.length
end Go.Proofs.YtgfcbmflnldicaaGreat
namespace Go.Proofs.YtgfcbmflnldicaaGreat
open Go.RowKit
attribute [local go_sem ↓] Go.wp_at_zero Go.wp_at_succ
def B3 (W : World) (g : Nat) (t : TypeId) : Prop := ∃ x y z, Blk W g t #[x, y, z]
def B4 (W : World) (g : Nat) (t : TypeId) : Prop := ∃ x y z u, Blk W g t #[x, y, z, u]
theorem Blk.b3 {W : World} {g : Nat} {t : TypeId} {x y z : Value} (h : Blk W g t #[x, y, z]) : B3 W g t := ⟨_, _, _, h⟩
theorem Blk.b4 {W : World} {g : Nat} {t : TypeId} {x y z u : Value} (h : Blk W g t #[x, y, z, u]) : B4 W g t := ⟨_, _, _, _, h⟩
theorem B3.below {W W' : World} {g : Nat} {t : TypeId} (h : B3 W g t) (hb : Below W.heap.size W W') : B3 W' g t := by
 obtain ⟨x, y, z, h⟩ := h
 exact ⟨x, y, z, h.below hb h.lt⟩
theorem B4.below {W W' : World} {g : Nat} {t : TypeId} (h : B4 W g t) (hb : Below W.heap.size W W') : B4 W' g t := by
 obtain ⟨x, y, z, u, h⟩ := h
 exact ⟨x, y, z, u, h.below hb h.lt⟩
theorem B3.drew {W : World} {g : Nat} {t : TypeId} (h : B3 W g t) : B3 W.drew g t := h
theorem B4.drew {W : World} {g : Nat} {t : TypeId} (h : B4 W g t) : B4 W.drew g t := h
end Go.Proofs.YtgfcbmflnldicaaGreat
namespace Go.Proofs.YtgfcbmflnldicaaGreat
open Go.RowKit
theorem Own.notBlk {w : World} {B g : Nat} {v : Value} {xs : List Int} {t : TypeId} {cs : Array Value} (h : Own w B v xs) (hb : Blk w g t cs) (ht : t ≠ 2) : v.ownBlock ≠ some g := by
 intro hv
 rcases h.2.2 with ⟨rfl, _⟩ | ⟨g', cap', cur', rfl, _, hg', _⟩
 · simp [Value.ownBlock] at hv
 · simp only [Value.ownBlock, Option.some.injEq] at hv
   subst hv
   have hb' : w.heap[g']? = some (.cells cs t (0, 0)) := hb
   rw [hb'] at hg'
   injection hg' with h1
   injection h1 with _ h2
   exact ht h2
theorem OwnSQ.notBlk {w : World} {B g g2 n c : Nat} {yss : List (List Int)} {Q : Value → Prop} {t : TypeId} {cs : Array Value} (h : OwnSQ w B (.slice (some ⟨g, 0, none⟩) n c) yss Q) (hb : Blk w g2 t cs) (ht : t ≠ 24) : g ≠ g2 := by
 rintro rfl
 obtain ⟨_, vs, hr, _⟩ := h
 rcases hr.2 with ⟨hv, _⟩ | ⟨g', cap', cur', hv, _, hg', _⟩
 · injection hv with h0 _ _
   cases h0
 · injection hv with h0 _ _
   injection h0 with h0
   injection h0 with h0 _ _
   subst h0
   have hb' : w.heap[g]? = some (.cells cs t (0, 0)) := hb
   rw [hb'] at hg'
   injection hg' with h1
   injection h1 with _ h2
   exact ht h2
def RS (w : World) (tvs : Array Value) (gb cb gq m : Nat) (rows : List (List Int)) (u : Value) (piv : List Int) (k : Nat) (wr : World) : Prop :=
 OwnSQ wr w.heap.size (.slice (some ⟨gb, 0, none⟩) m cb) rows (NB u) ∧ Own wr w.heap.size u piv ∧ Blk wr gq 3 #[.int .i64 k] ∧ Blk wr w.heap.size 117 tvs ∧ w.heap.size ≤ gq ∧ Below w.heap.size w wr
section
variable {w wr : World} {tvs : Array Value} {gb cb gq m k : Nat} {rows : List (List Int)} {u : Value} {piv : List Int}
theorem RS.row (h : RS w tvs gb cb gq m rows u piv k wr) {i : Nat} (hi : i < rows.length) :
    ∃ a c, Own wr w.heap.size (.slice a (nthL rows i).length c) (nthL rows i) ∧ wr.cell? ⟨gb, i, none⟩ = some (.slice a (nthL rows i).length c) ∧
     (∀ w' ys, Own w' w.heap.size (.slice a (nthL rows i).length c) ys → ys.length = (nthL rows i).length → wr.grownBy w' (Value.ownBlock (.slice a (nthL rows i).length c)) → RS w tvs gb cb gq m (rows.set i ys) u piv k w') ∧
     (∀ j a' c', j < rows.length → j ≠ i → wr.cell? ⟨gb, j, none⟩ = some (.slice a' (nthL rows j).length c') → ∀ q, Value.ownBlock (.slice a' (nthL rows j).length c') = some q → Value.ownBlock (.slice a (nthL rows i).length c) ≠ some q) := by
 obtain ⟨h1, h2, h3, h4, h5, h6⟩ := h
 obtain ⟨a, c, o1, q1, c1, s1, d1⟩ := h1.row hi
 have hc := c1 gb 0 _ _ rfl
 rw [Nat.zero_add] at hc
 refine ⟨a, c, o1, hc, fun w' ys o2 hl hg => ⟨s1 w' ys o2 hl hg, h2.grow hg ?_, h3.grown hg (o1.notBlk h3 (by decide)), h4.grown hg (o1.notBlk h4 (by decide)), h5, Below.step h6 hg o1 (Nat.le_refl _) h6.size⟩, fun j a' c' hj hji hcell q hq => d1 j a' c' hj hji (fun b off m2 d e => ?_) (by simp [Value.ownBlock]) q hq⟩
 · rcases hu : u.ownBlock with _ | ku
   · exact .inl rfl
   · exact .inr fun e => q1 ku e.symm hu
 · injection e with e1 _ _
   injection e1 with e1
   injection e1 with e1 e2 _
   subst e1
   subst e2
   rw [Nat.zero_add]
   exact hcell
theorem RS.push (h : RS w tvs gb cb gq m rows u piv k wr) (o : Obj) {u2 : Value} {w3 : World} {ys : List Int} (ho : Own w3 w.heap.size u2 ys) (hg : (wr.alloc o).grownBy w3 u.ownBlock) (hc : u2.ownBlock = u.ownBlock ∨ u2.ownBlock = some (wr.alloc o).heap.size) : RS w tvs gb cb gq m rows u2 ys k w3 := by
 obtain ⟨h1, h2, h3, h4, h5, h6⟩ := h
 have hsz := h6.size
 have ba : Below wr.heap.size wr (wr.alloc o) := (Below.refl _ _).alloc (Nat.le_refl _) _
 have h2a := h2.alloc o
 exact ⟨(h1.below ba).grow2 h2a hg hc, ho, (h3.alloc o).grown hg (h2a.notBlk (h3.alloc o) (by decide)), (h4.alloc o).grown hg (h2a.notBlk (h4.alloc o) (by decide)), h5, Below.step (h6.alloc hsz o) hg h2a (Nat.le_refl _) (by simp; omega)⟩
theorem RS.next (h : RS w tvs gb cb gq m rows u piv k wr) {k2 : Nat} {w2 : World} (hb : Below wr.heap.size wr w2) (hq : Blk w2 wr.heap.size 3 #[.int .i64 k2]) : RS w tvs gb cb wr.heap.size m rows u piv k2 w2 := by
 obtain ⟨h1, h2, h3, h4, h5, h6⟩ := h
 exact ⟨h1.below hb, h2.below hb (Nat.le_refl _), hq, h4.below hb h4.lt, h6.size, h6.trans (hb.mono h6.size)⟩
theorem RS.drew (h : RS w tvs gb cb gq m rows u piv k wr) : RS w tvs gb cb gq m rows u piv k wr.drew := by
 obtain ⟨h1, h2, h3, h4, h5, h6⟩ := h
 exact ⟨h1.below (Below.refl _ _).drew, h2.below (Below.refl wr.heap.size wr).drew (Nat.le_refl _), h3, h4, h5, h6.drew⟩
end
end Go.Proofs.YtgfcbmflnldicaaGreat
