/-
  Walks: sums and products of elements, on both sides.
-/
import Derived.Test.YtkbppgpegljcoaaAlg
import Derived.Test.YtkbppgpegljcoaaIrrS
import Derived.Deep.RegionHeld3
import Derived.Deep.DeepCutAuto
import Derived.Deep.DrawnRows
namespace Go.Proofs.Ytkbppgpegljcoaa
open Go.RowKit
attribute [local go_sem ↓] Go.wp_at_zero Go.wp_at_succ

/-- A field's data. -/
structure FD where
  p : Int
  k : Nat
  poly : List Int
structure FD.Ok (F : FD) : Prop where
  p2 : 2 ≤ F.p
  p64 : F.p ≤ 64
  k1 : 1 ≤ F.k
  k6 : F.k ≤ 6
  q64 : F.p ^ F.k ≤ 64
  len : F.poly.length = F.k + 1
  inR : InR F.p F.poly
  one : nth F.poly F.k = 1
  irr : irr F.poly F.p = true
/-- A pointer to a field that is read. -/
def PF (w : World) (g : Nat) (F : FD) : Prop :=
  w.cell? ⟨g, 0, none⟩ = some (.int .i64 F.p) ∧ w.cell? ⟨g, 1, none⟩ = some (.int .i64 F.k) ∧ ∃ a c, w.cell? ⟨g, 2, none⟩ = some (.slice a F.poly.length c) ∧ Rd w a F.poly
theorem PF.lt {w : World} {g : Nat} {F : FD} (h : PF w g F) : g < w.heap.size := World.block_lt_of_cell? w _ h.1
theorem PF.below {w w' : World} {g : Nat} {F : FD} (h : PF w g F) (hb : Below w.heap.size w w') : PF w' g F := by
  have hl := h.lt
  obtain ⟨h0, h1, a, c, h2, h3⟩ := h
  exact ⟨(hb.cell (p := ⟨g, 0, none⟩) hl).trans h0, (hb.cell (p := ⟨g, 1, none⟩) hl).trans h1, a, c, (hb.cell (p := ⟨g, 2, none⟩) hl).trans h2, h3.below hb⟩
/-- A list made by the call that began in w. -/
def Got (w : World) (xs : List Int) (v : Value) (wx : World) : Prop := Own wx w.heap.size v xs ∧ Below w.heap.size w wx
theorem lin_setK (s p : Int) (k : Nat) (a b : Int) : setK (dig a p k) (dig b p k) (-s) p 0 k = (List.range k).map fun (i : Nat) => (a / p ^ i % p + s * (b / p ^ i % p)) % p := by
  apply eq_of_nth (by rw [setK_len, dig_len]; simp)
  intro i hi
  rw [setK_len, dig_len] at hi
  rw [setK_get _ _ _ _ _ _ _ (by rw [dig_len]; omega), if_pos (by omega), nth_lt (xs := List.map _ _) (by simpa using hi), Nat.sub_zero, dig_nth _ _ hi, dig_nth _ _ hi]
  simp [Int.neg_mul]

theorem Own.at_len {w : World} {B : Nat} {v : Value} {xs : List Int} (h : Own w B v xs) {n : Nat} (hn : xs.length = n) (h0 : 0 < n) : ∃ g c, v = .slice (some ⟨g, 0, none⟩) n c ∧ B ≤ g ∧ g < w.heap.size ∧ n ≤ c ∧ c ≤ 9223372036854775807 := by
  subst hn
  rcases h.slice_form with ⟨_, rfl⟩ | ⟨g, c, rfl, h1, h2⟩
  · simp at h0
  · have hc := h.cap
    unfold maxLen at hc
    exact ⟨g, c, rfl, h1, h2, by omega, by omega⟩
theorem setK_inR0 {p : Int} (hp : 0 < p) {xs : List Int} (h : InR p xs) (ys : List Int) (c : Int) (off k : Nat) : InR p (setK xs ys c p off k) := setK_in hp h ys c off k

set_option maxRecDepth 100000 in
set_option maxHeartbeats 1600000 in
theorem l03Sum_any (g : Nat) (F : FD) (a b s : Int) (w : World) (hF : PF w g F) (ok : F.Ok) (ha0 : 0 ≤ a) (ha : a ≤ 1000000) (hb0 : 0 ≤ b) (hb : b ≤ 1000000) (hs0 : 0 ≤ s) (hs : s ≤ 64) :
    Calls Try.prog 83 #[.pointer (some ⟨g, 0, none⟩), .int .i64 a, .int .i64 b, .int .i64 s] w fun e w' => e = .returned (.int .i64 (lin s F.p F.k a b)) ∧ Below w.heap.size w w' := by
  have hp2 := ok.p2
  have hp64 := ok.p64
  have hk6 := ok.k6
  have hk1 := ok.k1
  have hg := hF.lt
  have boxes : ∀ (W : World), Below w.heap.size w W → (Below w.heap.size w W ∧ W.cell? ⟨g, 0, none⟩ = some (.int .i64 F.p) ∧ W.cell? ⟨g, 1, none⟩ = some (.int .i64 F.k)) := fun _ h => ⟨h, (hF.below h).1, (hF.below h).2.1⟩
  have BX := hide boxes
  clear boxes
  go_enter Try.func83, Try.ntmps83
  go_upto_region 1 with fail
  go_region_held3 (fun W => Below w.heap.size w W ∧ W.cell? ⟨g, 0, none⟩ = some (.int .i64 F.p) ∧ W.cell? ⟨g, 1, none⟩ = some (.int .i64 F.k))
    (first | exact (unhide BX) _ (Below.refl _ _) | exact (unhide BX) _ ((Below.refl _ _).drew) | exact (unhide BX) _ (by assumption))
    (first
      | (go_at_call 123; refine (l03Digits_any a F.p F.k _ ha0 (by omega) (by omega) (by omega) (by omega)).mono ?_; rintro e W1 ⟨v1, rfl, o1, b1⟩; have hB1 := Below.chain (a := w) (And.left (by assumption)) b1))
  obtain ⟨g1, c1, rfl, q1, z1, cc1, cd1⟩ := o1.at_len (dig_len a F.p F.k) (by omega)
  have hz1 := hB1.size
  go_upto_region 2 with fail
  go_region_held3 (fun W => Below w.heap.size w W ∧ W.cell? ⟨g, 0, none⟩ = some (.int .i64 F.p) ∧ W.cell? ⟨g, 1, none⟩ = some (.int .i64 F.k))
    (first | exact (unhide BX) _ hB1 | exact (unhide BX) _ (hB1.drew) | exact (unhide BX) _ (by assumption))
    (first
      | (go_at_call 123; refine (l03Digits_any b F.p F.k _ hb0 (by omega) (by omega) (by omega) (by omega)).mono ?_; rintro e W2 ⟨v2, rfl, o2, b2⟩; have hB2 := Below.chain (a := w) (And.left (by assumption)) b2))
  obtain ⟨g2, c2, rfl, q2, z2, cc2, cd2⟩ := o2.at_len (dig_len b F.p F.k) (by omega)
  have hz2 := hB2.size
  have h12 : g1 < g2 := by have : W1.drew.heap.size = W1.heap.size := rfl; omega
  have h01 : w.heap.size ≤ g1 := q1
  have h02 : W1.heap.size ≤ g2 := q2
  have u1 := (o1.drewN 1).below b2 (Nat.le_refl _)
  have u2 : Own W2 w.heap.size _ _ := o2.mono (by have : W1.drew.heap.size = W1.heap.size := rfl; omega)
  have hX : InR F.p (dig a F.p F.k) := dig_inR (by omega) _ _
  have hY : InR F.p (dig b F.p F.k) := dig_inR (by omega) _ _
  have hXl := dig_len a F.p F.k
  have hYl := dig_len b F.p F.k
  have hfin : lin s F.p F.k a b = num F.p (setK (dig a F.p F.k) (dig b F.p F.k) (-s) F.p 0 F.k) := by rw [lin_setK]; rfl
  obtain ⟨X, eX⟩ : ∃ X, X = dig a F.p F.k := ⟨_, rfl⟩
  obtain ⟨Y, eY⟩ : ∃ Y, Y = dig b F.p F.k := ⟨_, rfl⟩
  rw [← eX] at hX u1 hXl hfin
  rw [← eY] at hY u2 hYl hfin
  have HFIN := Lib.hid hfin
  have U1 := Lib.hid u1
  have U2 := Lib.hid u2
  have HXL := Lib.hid hXl
  have HYL := Lib.hid hYl
  clear hfin eX eY b2 b1 o1 o2 u1 u2 hXl hYl hB1
  go_wp2_with fail
  go_loopw [11] (fun jv wr => ∃ (j : Nat), jv = .int .i64 j ∧ j ≤ F.k ∧ Hid (Own wr w.heap.size (.slice (some ⟨g1, 0, none⟩) F.k c1) (setK X Y (-s) F.p 0 j)) ∧ Hid (Own wr w.heap.size (.slice (some ⟨g2, 0, none⟩) F.k c2) Y) ∧ Below w.heap.size w wr) (fun jv _ => F.k - (intOf jv).toNat)
  case atStart => exact ⟨0, rfl, Nat.zero_le _, U1.out, U2.out, hB2⟩
  case round =>
    obtain ⟨j, rfl, hj, ho, hy, hbr⟩ := hrel
    by_cases hjk : j < F.k
    · have hSl := setK_len X Y (-s) F.p 0 j
      have hx1 := ho.out.cell (j := j) (by rw [hSl, HXL.out]; exact hjk)
      rw [setK_nth _ _ _ _ _ (.inr (by omega))] at hx1
      have hxf := ho.out.frozen j
      have hy1 := hy.out.cell (j := j) (by rw [HYL.out]; exact hjk)
      have hpc := (hF.below hbr).1
      have hxb := hX.nth (i := j) (by rw [HXL.out]; exact hjk)
      have hyb := hY.nth (i := j) (by rw [HYL.out]; exact hjk)
      generalize hXX : nth X j = x at hx1 hxb
      generalize hYY : nth Y j = y at hy1 hyb
      obtain ⟨hxb1, hxb2⟩ := hxb
      obtain ⟨hyb1, hyb2⟩ := hyb
      have hm0 : 0 ≤ s * y := Int.mul_nonneg hs0 hyb1
      have hm1 : s * y ≤ 64 * 64 := Int.mul_le_mul hs (by omega) hyb1 (by omega)
      have ht1 := Int.emod_nonneg (x + s * y) (show F.p ≠ 0 by omega)
      have ht2 := Int.emod_lt_of_pos (x + s * y) (show 0 < F.p by omega)
      have HX := Lib.hid hXX
      have HY := Lib.hid hYY
      have hg1 : w.heap.size ≤ g1 := h01
      clear hXX hYY hSl
      go_wp2_with fail
      go_region
      go_wp2
      go_roundw
      case rel =>
        have hs := ho.out.set j ((x + s * y) % F.p)
        refine ⟨j + 1, by go_num, by omega, ?_, ?_, (hbr.setCell (by show w.heap.size ≤ g1; omega) _).drew⟩
        · show Own _ _ _ _
          rw [setK, Nat.zero_add, HX.out, HY.out, show x - -s * y = x + s * y by rw [Int.neg_mul]; omega]
          exact hs.1
        · exact (hy.out.grow hs.2 (.inr (by show some g2 ≠ some g1; intro e; injection e; omega))).drewN 1
      case measure => simp only [intOf]; omega
    · have hje : j = F.k := by omega
      have HJ := Lib.hid hje
      have hpc := (hF.below hbr).1
      clear hje
      obtain ⟨XS, hXS⟩ : ∃ XS, XS = setK X Y (-s) F.p 0 F.k := ⟨_, rfl⟩
      have hoo := ho.out
      rw [HJ.out, ← hXS] at hoo
      have hXSl : XS.length = F.k := by rw [hXS, setK_len, HXL.out]
      have hin : InR F.p XS := by rw [hXS]; exact setK_in (by omega) hX _ _ _ _
      have hrd : Rd wr (some ⟨g1, 0, none⟩) XS := hoo.rd
      have hnum := fun W h => l03Number_any (some ⟨g1, 0, none⟩) c1 XS F.p W h (by omega) (by omega) hin (by rw [hXSl]; have := ok.q64; omega)
      rw [hXSl] at hnum
      have HXS := Lib.hid hXS
      have HNUM := hide hnum
      clear hXS hXSl hnum hoo
      go_wp2_with fail
      refine (unhide HNUM _ hrd).mono ?_
      rintro e w3 ⟨rfl, rfl⟩
      go_wp2
      go_ret
      exact ⟨ret_int (by rw [HFIN.out, HXS.out]), hbr⟩
end Go.Proofs.Ytkbppgpegljcoaa
