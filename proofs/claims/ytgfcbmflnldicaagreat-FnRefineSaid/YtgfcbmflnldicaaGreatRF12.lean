/-
  Texts joined.
-/
import Derived.Deep.DeepCutAuto
import Derived.Deep.DrawnRows
import Derived.Deep.RegionHeld3
import Derived.Test.YtgfcbmflnldicaaGreatRF1
import Derived.Test.YtgfcbmflnldicaaGreatRF4
set_option linter.unusedVariables false
set_option linter.unusedSimpArgs false
set_option maxRecDepth 100000
set_option maxHeartbeats 40000000
namespace Go.Proofs.YtgfcbmflnldicaaGreat
open Go.RowKit
attribute [local go_sem ↓] Go.wp_at_zero Go.wp_at_succ
structure FD where
 p : Int
 k : Nat
 poly : List Int
structure FD.Ok (F : FD) : Prop where
 p2 : 2 ≤ F.p
 p64 : F.p ≤ 64
 k1 : 1 ≤ F.k
 k6 : F.k ≤ 6
 q64 : F.p ^ F.k ≤ 64
 len : F.poly.length = F.k + 1
 inR : InR F.p F.poly
 one : nth F.poly F.k = 1
 irr : irr F.poly F.p = true
def PF (w : World) (g : Nat) (F : FD) : Prop :=
 w.cell? ⟨g, 0, none⟩ = some (.int .i64 F.p) ∧ w.cell? ⟨g, 1, none⟩ = some (.int .i64 F.k) ∧ ∃ a c, w.cell? ⟨g, 2, none⟩ = some (.slice a F.poly.length c) ∧ Rd w a F.poly
theorem PF.lt {w : World} {g : Nat} {F : FD} (h : PF w g F) : g < w.heap.size := World.block_lt_of_cell? w _ h.1
theorem PF.below {w w' : World} {g : Nat} {F : FD} (h : PF w g F) (hb : Below w.heap.size w w') : PF w' g F := by
 have hl := h.lt
 obtain ⟨h0, h1, a, c, h2, h3⟩ := h
 exact ⟨(hb.cell (p := ⟨g, 0, none⟩) hl).trans h0, (hb.cell (p := ⟨g, 1, none⟩) hl).trans h1, a, c, (hb.cell (p := ⟨g, 2, none⟩) hl).trans h2, h3.below hb⟩
end Go.Proofs.YtgfcbmflnldicaaGreat
namespace Go.Proofs.YtgfcbmflnldicaaGreat
open Go.RowKit
attribute [local go_sem ↓] Go.wp_at_zero Go.wp_at_succ
theorem Own.zeros (w : World) {B : Nat} (hB : B ≤ w.heap.size) {n : Nat} (hn : n ≤ 1000000) : Own (w.alloc (.cells (madeCells #[.int .i64 0] n) 2)) B (.slice (some ⟨w.heap.size, 0, none⟩) n n) (zeros n) :=
 Own.of_rowIs (World.rowIs_made w _ _ _) hB (zeros_len n) (by rw [zeros_len]; omega) (fun i _ => by rw [zeros_nth])
theorem wpList_make_ints {w : World} {ops : Array Oper} {rest : List Oper} {o : Oper} {a : Act} {Q : Exit → Act → World → Prop}
    (hg : o.guard = none) (l c : Operand) (hop : o.op = Op.makeSlice 24 l c) (kl kc : IntKind) (n : Nat) (hl : a.eval l = .int kl (n : Int)) (hc : a.eval c = .int kc (n : Int)) (hn : n ≤ 1000000)
    (h : ∀ w' g, Own w' w.heap.size (.slice (some ⟨g, 0, none⟩) n n) (zeros n) → Below w.heap.size w w' → wpList Tryz.prog ops Q rest (a.put o.dst (.slice (some ⟨g, 0, none⟩) n n)) w') :
    wpList Tryz.prog ops Q (o :: rest) a w := by
 obtain ⟨i0, hi0, hz0, hz1, hz2⟩ := info_parts Tryz.info_i64
 refine wpList_make_row w hg l c 24 hop 2 i0 (.int .i64 0) Tryz.underlying24 hi0 hz0 hz1 rfl kl kc n hl hc (by rw [hz2]; omega) (by omega) ?_
 exact h _ _ (Own.zeros w (Nat.le_refl _) hn) ((Below.refl _ _).alloc (Nat.le_refl _) _)
end Go.Proofs.YtgfcbmflnldicaaGreat
namespace Go.Proofs.YtgfcbmflnldicaaGreat
open Go.RowKit
theorem FD.Ok.size {F : FD} (ok : F.Ok) : ∃ n : Nat, F.p ^ F.k = (n : Int) ∧ 2 ≤ n ∧ n ≤ 64 := by
 have h0 : 0 ≤ F.p ^ F.k := Int.pow_nonneg (by have := ok.p2; omega)
 have h1 : F.p ^ 1 ≤ F.p ^ F.k := pow_mono (by have := ok.p2; omega) ok.k1
 have h2 := ok.q64
 have h3 := ok.p2
 rw [Int.pow_one] at h1
 exact ⟨(F.p ^ F.k).toNat, by omega, by omega, by omega⟩
def FD.n (F : FD) : Nat := (F.p ^ F.k).toNat
def rowF (f : Int → Int → Int) (n : Nat) (a : Nat) : List Int := (List.range n).map fun (b : Nat) => f a b
def rowsTo (f : Int → Int → Int) (n a : Nat) : List (List Int) := (List.range a).map (rowF f n)
def rowTo (f : Int → Int → Int) (n a : Nat) : Nat → List Int
 | 0 => zeros n
 | b + 1 => (rowTo f n a b).set b (f a b)
def FD.add (F : FD) (a b : Int) : Int := lin 1 F.p F.k a b
def FD.sub (F : FD) (a b : Int) : Int := lin (-1) F.p F.k a b
def FD.mul (F : FD) (a b : Int) : Int := mulF F.p F.k F.poly a b
def invIn (F : FD) (a : Nat) (z : List Int) : Nat → List Int
 | 0 => z
 | b + 1 => if F.mul a b = 1 then (invIn F a z b).set a b else invIn F a z b
def invTo (F : FD) : Nat → List Int
 | 0 => zeros F.n
 | a + 1 => invIn F a (invTo F a) F.n
def Tabs (w : World) (F : FD) (v : Value) : Prop := ∃ aA cA aS cS aM cM aI cI, v = .agg #[.int .i64 F.n, .slice aA F.n cA, .slice aS F.n cS, .slice aM F.n cM, .slice aI F.n cI] ∧
 RdS w aA (rowsTo F.add F.n F.n) ∧ RdS w aS (rowsTo F.sub F.n F.n) ∧ RdS w aM (rowsTo F.mul F.n F.n) ∧ Rd w aI (invTo F F.n)
theorem Tabs.below {w w' : World} {F : FD} {v : Value} (h : Tabs w F v) (hb : Below w.heap.size w w') : Tabs w' F v := by
 obtain ⟨aA, cA, aS, cS, aM, cM, aI, cI, rfl, h1, h2, h3, h4⟩ := h
 exact ⟨aA, cA, aS, cS, aM, cM, aI, cI, rfl, h1.below hb, h2.below hb, h3.below hb, h4.below hb⟩
end Go.Proofs.YtgfcbmflnldicaaGreat
namespace Go.Proofs.YtgfcbmflnldicaaGreat
open Go.RowKit
def FD.el (F : FD) (a : Int) : Prop := 0 ≤ a ∧ a < F.p ^ F.k
section
variable {F : FD}
end
def mk (p : Int) (z : Nat → Int) (L : Nat) : List Int := (List.range L).map fun (i : Nat) => z i % p
def P (p : Int) (poly : List Int) (z : Nat → Int) (L j : Nat) : Int := nth (prem p poly (mk p z L)) j
section
variable {p : Int} {poly : List Int} {k : Nat}
end
section
variable {F : FD}
end
end Go.Proofs.YtgfcbmflnldicaaGreat
