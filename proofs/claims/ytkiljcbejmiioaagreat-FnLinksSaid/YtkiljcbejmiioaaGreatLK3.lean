/-
  Texts joined.
-/
import Derived.Deep.DeepCutAuto
import Derived.Deep.DrawnRows
import Derived.Deep.RegionHeld3
import Derived.Test.YtkiljcbejmiioaaGreatLK1
import Derived.Test.YtkiljcbejmiioaaGreatLK2
set_option linter.unusedVariables false
set_option linter.unusedSimpArgs false
set_option maxRecDepth 100000
set_option maxHeartbeats 40000000
namespace Go.Proofs.YtkiljcbejmiioaaGreat
open Go.RowKit
attribute [local go_sem ↓] Go.wp_at_zero Go.wp_at_succ
structure FD where
 p : Int
 k : Nat
 poly : List Int
structure FD.Ok (F : FD) : Prop where
 p2 : 2 ≤ F.p
 p64 : F.p ≤ 64
 k1 : 1 ≤ F.k
 k6 : F.k ≤ 6
 q64 : F.p ^ F.k ≤ 64
 len : F.poly.length = F.k + 1
 inR : InR F.p F.poly
 one : nth F.poly F.k = 1
 irr : irr F.poly F.p = true
def PF (w : World) (g : Nat) (F : FD) : Prop :=
 w.cell? ⟨g, 0, none⟩ = some (.int .i64 F.p) ∧ w.cell? ⟨g, 1, none⟩ = some (.int .i64 F.k) ∧ ∃ a c, w.cell? ⟨g, 2, none⟩ = some (.slice a F.poly.length c) ∧ Rd w a F.poly
theorem PF.lt {w : World} {g : Nat} {F : FD} (h : PF w g F) : g < w.heap.size := World.block_lt_of_cell? w _ h.1
theorem PF.below {w w' : World} {g : Nat} {F : FD} (h : PF w g F) (hb : Below w.heap.size w w') : PF w' g F := by
 have hl := h.lt
 obtain ⟨h0, h1, a, c, h2, h3⟩ := h
 exact ⟨(hb.cell (p := ⟨g, 0, none⟩) hl).trans h0, (hb.cell (p := ⟨g, 1, none⟩) hl).trans h1, a, c, (hb.cell (p := ⟨g, 2, none⟩) hl).trans h2, h3.below hb⟩
theorem lin_setK (s p : Int) (k : Nat) (a b : Int) : setK (dig a p k) (dig b p k) (-s) p 0 k = (List.range k).map fun (i : Nat) => (a / p ^ i % p + s * (b / p ^ i % p)) % p := by
 apply eq_of_nth (by rw [setK_len, dig_len]; simp)
 intro i hi
 rw [setK_len, dig_len] at hi
 rw [setK_get _ _ _ _ _ _ _ (by rw [dig_len]; omega), if_pos (by omega), nth_lt (xs := List.map _ _) (by simpa using hi), Nat.sub_zero, dig_nth _ _ hi, dig_nth _ _ hi]
 simp [Int.neg_mul]
theorem Own.at_len {w : World} {B : Nat} {v : Value} {xs : List Int} (h : Own w B v xs) {n : Nat} (hn : xs.length = n) (h0 : 0 < n) : ∃ g c, v = .slice (some ⟨g, 0, none⟩) n c ∧ B ≤ g ∧ g < w.heap.size ∧ n ≤ c ∧ c ≤ 9223372036854775807 := by
 subst hn
 rcases h.slice_form with ⟨_, rfl⟩ | ⟨g, c, rfl, h1, h2⟩
 · simp at h0
 · have hc := h.cap
   unfold maxLen at hc
   exact ⟨g, c, rfl, h1, h2, by omega, by omega⟩
theorem l03Sum_any (g : Nat) (F : FD) (a b s : Int) (w : World) (hF : PF w g F) (ok : F.Ok) (ha0 : 0 ≤ a) (ha : a ≤ 1000000) (hb0 : 0 ≤ b) (hb : b ≤ 1000000) (hs0 : 0 ≤ s) (hs : s ≤ 64) :
    Calls Tryz.prog 44 #[.pointer (some ⟨g, 0, none⟩), .int .i64 a, .int .i64 b, .int .i64 s] w fun e w' => e = .returned (.int .i64 (lin s F.p F.k a b)) ∧ Below w.heap.size w w' := by
 have hp2 := ok.p2
 have hp64 := ok.p64
 have hk6 := ok.k6
 have hk1 := ok.k1
 have hg := hF.lt
 have boxes : ∀ (W : World), Below w.heap.size w W → (Below w.heap.size w W ∧ W.cell? ⟨g, 0, none⟩ = some (.int .i64 F.p) ∧ W.cell? ⟨g, 1, none⟩ = some (.int .i64 F.k)) := fun _ h => ⟨h, (hF.below h).1, (hF.below h).2.1⟩
 have BX := hide boxes
 clear boxes
 go_enter Tryz.func44, Tryz.ntmps44
 go_upto_region 1 with fail
 go_region_held3 (fun W => Below w.heap.size w W ∧ W.cell? ⟨g, 0, none⟩ = some (.int .i64 F.p) ∧ W.cell? ⟨g, 1, none⟩ = some (.int .i64 F.k))
  (first | exact (unhide BX) _ (Below.refl _ _) | exact (unhide BX) _ ((Below.refl _ _).drew) | exact (unhide BX) _ (by assumption))
  (first
   | (go_at_call 60; refine (l03Digits_any a F.p F.k _ ha0 (by omega) (by omega) (by omega) (by omega)).mono ?_; rintro e W1 ⟨v1, rfl, o1, b1⟩; have hB1 := Below.chain (a := w) (And.left (by assumption)) b1))
 obtain ⟨g1, c1, rfl, q1, z1, cc1, cd1⟩ := o1.at_len (dig_len a F.p F.k) (by omega)
 have hz1 := hB1.size
 go_upto_region 2 with fail
 go_region_held3 (fun W => Below w.heap.size w W ∧ W.cell? ⟨g, 0, none⟩ = some (.int .i64 F.p) ∧ W.cell? ⟨g, 1, none⟩ = some (.int .i64 F.k))
  (first | exact (unhide BX) _ hB1 | exact (unhide BX) _ (hB1.drew) | exact (unhide BX) _ (by assumption))
  (first
   | (go_at_call 60; refine (l03Digits_any b F.p F.k _ hb0 (by omega) (by omega) (by omega) (by omega)).mono ?_; rintro e W2 ⟨v2, rfl, o2, b2⟩; have hB2 := Below.chain (a := w) (And.left (by assumption)) b2))
 obtain ⟨g2, c2, rfl, q2, z2, cc2, cd2⟩ := o2.at_len (dig_len b F.p F.k) (by omega)
 have hz2 := hB2.size
 have h12 : g1 < g2 := by have : W1.drew.heap.size = W1.heap.size := rfl; omega
 have h01 : w.heap.size ≤ g1 := q1
 have h02 : W1.heap.size ≤ g2 := q2
 have u1 := (o1.drewN 1).below b2 (Nat.le_refl _)
 have u2 : Own W2 w.heap.size _ _ := o2.mono (by have : W1.drew.heap.size = W1.heap.size := rfl; omega)
 have hX : InR F.p (dig a F.p F.k) := dig_inR (by omega) _ _
 have hY : InR F.p (dig b F.p F.k) := dig_inR (by omega) _ _
 have hXl := dig_len a F.p F.k
 have hYl := dig_len b F.p F.k
 have hfin : lin s F.p F.k a b = num F.p (setK (dig a F.p F.k) (dig b F.p F.k) (-s) F.p 0 F.k) := by rw [lin_setK]; rfl
 obtain ⟨X, eX⟩ : ∃ X, X = dig a F.p F.k := ⟨_, rfl⟩
 obtain ⟨Y, eY⟩ : ∃ Y, Y = dig b F.p F.k := ⟨_, rfl⟩
 rw [← eX] at hX u1 hXl hfin
 rw [← eY] at hY u2 hYl hfin
 have HFIN := Lib.hid hfin
 have U1 := Lib.hid u1
 have U2 := Lib.hid u2
 have HXL := Lib.hid hXl
 have HYL := Lib.hid hYl
 clear hfin eX eY b2 b1 o1 o2 u1 u2 hXl hYl hB1
 go_wp2_with fail
 go_loopw [11] (fun jv wr => ∃ (j : Nat), jv = .int .i64 j ∧ j ≤ F.k ∧ Hid (Own wr w.heap.size (.slice (some ⟨g1, 0, none⟩) F.k c1) (setK X Y (-s) F.p 0 j)) ∧ Hid (Own wr w.heap.size (.slice (some ⟨g2, 0, none⟩) F.k c2) Y) ∧ Below w.heap.size w wr) (fun jv _ => F.k - (intOf jv).toNat)
 case atStart => exact ⟨0, rfl, Nat.zero_le _, U1.out, U2.out, hB2⟩
 case round =>
  obtain ⟨j, rfl, hj, ho, hy, hbr⟩ := hrel
  by_cases hjk : j < F.k
  · have hSl := setK_len X Y (-s) F.p 0 j
    have hx1 := ho.out.cell (j := j) (by rw [hSl, HXL.out]; exact hjk)
    rw [setK_nth _ _ _ _ _ (.inr (by omega))] at hx1
    have hxf := ho.out.frozen j
    have hy1 := hy.out.cell (j := j) (by rw [HYL.out]; exact hjk)
    have hpc := (hF.below hbr).1
    have hxb := hX.nth (i := j) (by rw [HXL.out]; exact hjk)
    have hyb := hY.nth (i := j) (by rw [HYL.out]; exact hjk)
    generalize hXX : nth X j = x at hx1 hxb
    generalize hYY : nth Y j = y at hy1 hyb
    obtain ⟨hxb1, hxb2⟩ := hxb
    obtain ⟨hyb1, hyb2⟩ := hyb
    have hm0 : 0 ≤ s * y := Int.mul_nonneg hs0 hyb1
    have hm1 : s * y ≤ 64 * 64 := Int.mul_le_mul hs (by omega) hyb1 (by omega)
    have ht1 := Int.emod_nonneg (x + s * y) (show F.p ≠ 0 by omega)
    have ht2 := Int.emod_lt_of_pos (x + s * y) (show 0 < F.p by omega)
    have HX := Lib.hid hXX
    have HY := Lib.hid hYY
    have hg1 : w.heap.size ≤ g1 := h01
    clear hXX hYY hSl
    go_wp2_with fail
    go_region
    go_wp2
    go_roundw
    case rel =>
     have hs := ho.out.set j ((x + s * y) % F.p)
     refine ⟨j + 1, by go_num, by omega, ?_, ?_, (hbr.setCell (by show w.heap.size ≤ g1; omega) _).drew⟩
     · show Own _ _ _ _
       rw [setK, Nat.zero_add, HX.out, HY.out, show x - -s * y = x + s * y by rw [Int.neg_mul]; omega]
       exact hs.1
     · exact (hy.out.grow hs.2 (.inr (by show some g2 ≠ some g1; intro e; injection e; omega))).drewN 1
    case measure => simp only [intOf]; omega
  · have hje : j = F.k := by omega
    have HJ := Lib.hid hje
    have hpc := (hF.below hbr).1
    clear hje
    obtain ⟨XS, hXS⟩ : ∃ XS, XS = setK X Y (-s) F.p 0 F.k := ⟨_, rfl⟩
    have hoo := ho.out
    rw [HJ.out, ← hXS] at hoo
    have hXSl : XS.length = F.k := by rw [hXS, setK_len, HXL.out]
    have hin : InR F.p XS := by rw [hXS]; exact setK_in (by omega) hX _ _ _ _
    have hrd : Rd wr (some ⟨g1, 0, none⟩) XS := hoo.rd
    have hnum := fun W h => l03Number_any (some ⟨g1, 0, none⟩) c1 XS F.p W h (by omega) (by omega) hin (by rw [hXSl]; have := ok.q64; omega)
    rw [hXSl] at hnum
    have HXS := Lib.hid hXS
    have HNUM := hide hnum
    clear hXS hXSl hnum hoo
    go_wp2_with fail
    refine (unhide HNUM _ hrd).mono ?_
    rintro e w3 ⟨rfl, rfl⟩
    go_wp2
    go_ret
    exact ⟨ret_int (by rw [HFIN.out, HXS.out]), hbr⟩
end Go.Proofs.YtkiljcbejmiioaaGreat
namespace Go.Proofs.YtkiljcbejmiioaaGreat
open Go.RowKit
attribute [local go_sem ↓] Go.wp_at_zero Go.wp_at_succ
theorem PF.box {w : World} {F : FD} {a : Option Addr} {c : Nat} {t : TypeId} (h : Rd w a F.poly) : PF (w.alloc (.cells #[.int .i64 F.p, .int .i64 F.k, .slice a F.poly.length c] t)) w.heap.size F := by
 have b := Blk.new w t #[.int .i64 F.p, .int .i64 F.k, .slice a F.poly.length c] rfl
 exact ⟨b.cell 0, b.cell 1, a, c, b.cell 2, h.alloc _⟩
theorem Own.zeros (w : World) {B : Nat} (hB : B ≤ w.heap.size) {n : Nat} (hn : n ≤ 1000000) : Own (w.alloc (.cells (madeCells #[.int .i64 0] n) 2)) B (.slice (some ⟨w.heap.size, 0, none⟩) n n) (zeros n) :=
 Own.of_rowIs (World.rowIs_made w _ _ _) hB (zeros_len n) (by rw [zeros_len]; omega) (fun i _ => by rw [zeros_nth])
theorem wpList_make_ints {w : World} {ops : Array Oper} {rest : List Oper} {o : Oper} {a : Act} {Q : Exit → Act → World → Prop}
    (hg : o.guard = none) (l c : Operand) (hop : o.op = Op.makeSlice 28 l c) (kl kc : IntKind) (n : Nat) (hl : a.eval l = .int kl (n : Int)) (hc : a.eval c = .int kc (n : Int)) (hn : n ≤ 1000000)
    (h : ∀ w' g, Own w' w.heap.size (.slice (some ⟨g, 0, none⟩) n n) (zeros n) → Below w.heap.size w w' → wpList Tryz.prog ops Q rest (a.put o.dst (.slice (some ⟨g, 0, none⟩) n n)) w') :
    wpList Tryz.prog ops Q (o :: rest) a w := by
 obtain ⟨i0, hi0, hz0, hz1, hz2⟩ := info_parts Tryz.info_i64
 refine wpList_make_row w hg l c 28 hop 2 i0 (.int .i64 0) Tryz.underlying28 hi0 hz0 hz1 rfl kl kc n hl hc (by rw [hz2]; omega) (by omega) ?_
 exact h _ _ (Own.zeros w (Nat.le_refl _) hn) ((Below.refl _ _).alloc (Nat.le_refl _) _)
theorem combine_any (F : FD) (ap : Option Addr) (cp : Nat) (a b s : Int) (w : World) (hR : Rd w ap F.poly) (ok : F.Ok) (ha0 : 0 ≤ a) (ha : a ≤ 1000000) (hb0 : 0 ≤ b) (hb : b ≤ 1000000) (hs : s = 1 ∨ s = -1) :
    Calls Tryz.prog 69 #[.agg #[.int .i64 F.p, .int .i64 F.k, .slice ap F.poly.length cp], .int .i64 a, .int .i64 b, .int .i64 s] w fun e w' => e = .returned (.int .i64 (lin s F.p F.k a b)) ∧ Below w.heap.size w w' := by
 have hp2 := ok.p2
 have hp64 := ok.p64
 have hk6 := ok.k6
 have hk1 := ok.k1
 obtain ⟨W0, hW0⟩ : ∃ W0, W0 = w.alloc (.cells #[.int .i64 F.p, .int .i64 F.k, .slice ap F.poly.length cp] 30) := ⟨_, rfl⟩
 have hbW : Below w.heap.size w W0 := by rw [hW0]; exact (Below.refl _ _).alloc (Nat.le_refl _) _
 have hsW : w.heap.size ≤ W0.heap.size := hbW.size
 have hF : PF W0 w.heap.size F := by rw [hW0]; exact PF.box hR
 obtain ⟨g, hgw⟩ : ∃ g, g = w.heap.size := ⟨_, rfl⟩
 have hg := hF.lt
 rw [← hgw] at hF hg
 have boxes : ∀ (W : World), Below W0.heap.size W0 W → (Below W0.heap.size W0 W ∧ W.cell? ⟨g, 0, none⟩ = some (.int .i64 F.p) ∧ W.cell? ⟨g, 1, none⟩ = some (.int .i64 F.k)) := fun _ h => ⟨h, (hF.below h).1, (hF.below h).2.1⟩
 have BX := hide boxes
 clear boxes
 have hs0 : -1 ≤ s ∧ s ≤ 1 := by omega
 have HS := Lib.hid hs
 have HW := Lib.hid hW0
 have HG := Lib.hid hgw
 obtain ⟨hs1, hs2⟩ := hs0
 clear hs hW0 hgw
 go_enter Tryz.func69, Tryz.ntmps69
 go_upto_region 1 with fail
 rw [← HW.out, ← HG.out]
 go_region_held3 (fun W => Below W0.heap.size W0 W ∧ W.cell? ⟨g, 0, none⟩ = some (.int .i64 F.p) ∧ W.cell? ⟨g, 1, none⟩ = some (.int .i64 F.k))
  (first | exact (unhide BX) _ (Below.refl _ _) | exact (unhide BX) _ ((Below.refl _ _).drew) | exact (unhide BX) _ (by assumption))
  (first
   | (go_at_call_of 119 (Value.int .i64 a); refine (digitsOf_any a F.p F.k _ ha0 (by omega) (by omega) (by omega) (by omega)).mono ?_; rintro e W1 ⟨v1, rfl, o1, b1⟩; have hB1 := Below.chain (a := W0) (And.left (by assumption)) b1; obtain ⟨g1, c1, rfl, q1, z1, cc1, cd1⟩ := o1.at_len (dig_len a F.p F.k) (by omega); have hz1 := hB1.size)
   | (go_at_call_of 119 (Value.int .i64 b); refine (digitsOf_any b F.p F.k _ hb0 (by omega) (by omega) (by omega) (by omega)).mono ?_; rintro e W2 ⟨v2, rfl, o2, b2⟩; have hB2 := Below.chain (a := W0) (And.left (by assumption)) b2; obtain ⟨g2, c2, rfl, q2, z2, cc2, cd2⟩ := o2.at_len (dig_len b F.p F.k) (by omega)))
 have hz2 := hB2.size
 have h12 : g1 < g2 := by have : W1.drew.heap.size = W1.heap.size := rfl; omega
 have h01 : W0.heap.size ≤ g1 := q1
 have u1 := o1.below b2 (Nat.le_refl _)
 have u2 : Own W2 W0.heap.size _ _ := o2.mono (by have : W1.drew.heap.size = W1.heap.size := rfl; omega)
 have hX : InR F.p (dig a F.p F.k) := dig_inR (by omega) _ _
 have hY : InR F.p (dig b F.p F.k) := dig_inR (by omega) _ _
 have hXl := dig_len a F.p F.k
 have hYl := dig_len b F.p F.k
 have hfin : lin s F.p F.k a b = num F.p (setK (dig a F.p F.k) (dig b F.p F.k) (-s) F.p 0 F.k) := by rw [lin_setK]; rfl
 obtain ⟨X, eX⟩ : ∃ X, X = dig a F.p F.k := ⟨_, rfl⟩
 obtain ⟨Y, eY⟩ : ∃ Y, Y = dig b F.p F.k := ⟨_, rfl⟩
 rw [← eX] at hX u1 hXl hfin
 rw [← eY] at hY u2 hYl hfin
 have U1 := Lib.hid u1
 have U2 := Lib.hid u2
 have HXL := Lib.hid hXl
 have HYL := Lib.hid hYl
 have HFIN := Lib.hid hfin
 clear hfin eX eY b2 b1 o1 o2 u1 u2 hXl hYl hB1
 go_wp2_with fail
 go_loopw [26] (fun jv wr => ∃ (j : Nat), jv = .int .i64 j ∧ j ≤ F.k ∧ Hid (Own wr W0.heap.size (.slice (some ⟨g1, 0, none⟩) F.k c1) (setK X Y (-s) F.p 0 j)) ∧ Hid (Own wr W0.heap.size (.slice (some ⟨g2, 0, none⟩) F.k c2) Y) ∧ Below W0.heap.size W0 wr) (fun jv _ => F.k - (intOf jv).toNat)
 case atStart => exact ⟨0, rfl, Nat.zero_le _, U1.out, U2.out, hB2⟩
 case round =>
  obtain ⟨j, rfl, hj, ho, hy, hbr⟩ := hrel
  by_cases hjk : j < F.k
  · have hSl := setK_len X Y (-s) F.p 0 j
    have hx1 := ho.out.cell (j := j) (by rw [hSl, HXL.out]; exact hjk)
    rw [setK_nth _ _ _ _ _ (.inr (by omega))] at hx1
    have hxf := ho.out.frozen j
    have hy1 := hy.out.cell (j := j) (by rw [HYL.out]; exact hjk)
    have hpc := (hF.below hbr).1
    have hxb := hX.nth (i := j) (by rw [HXL.out]; exact hjk)
    have hyb := hY.nth (i := j) (by rw [HYL.out]; exact hjk)
    generalize hXX : nth X j = x at hx1 hxb
    generalize hYY : nth Y j = y at hy1 hyb
    obtain ⟨hxb1, hxb2⟩ := hxb
    obtain ⟨hyb1, hyb2⟩ := hyb
    have hm : -F.p < s * y ∧ s * y < F.p := by rcases HS.out with h | h <;> rw [h] <;> omega
    obtain ⟨hm0, hm1⟩ := hm
    have ht1 := Int.emod_nonneg (x + s * y) (show F.p ≠ 0 by omega)
    have ht2 := Int.emod_lt_of_pos (x + s * y) (show 0 < F.p by omega)
    have HX := Lib.hid hXX
    have HY := Lib.hid hYY
    clear hXX hYY hSl
    go_wp2_with fail
    go_region
    go_wp2
    go_roundw
    case rel =>
     have hs := ho.out.set j ((x + s * y) % F.p)
     refine ⟨j + 1, by go_num, by omega, ?_, ?_, (hbr.setCell (by show W0.heap.size ≤ g1; omega) _).drew⟩
     · show Own _ _ _ _
       rw [setK, Nat.zero_add, HX.out, HY.out, show x - -s * y = x + s * y by rw [Int.neg_mul]; omega]
       exact hs.1
     · exact (hy.out.grow hs.2 (.inr (by show some g2 ≠ some g1; intro e; injection e; omega))).drewN 1
    case measure => simp only [intOf]; omega
  · have hje : j = F.k := by omega
    have HJ := Lib.hid hje
    have hpc := (hF.below hbr).1
    clear hje
    obtain ⟨XS, hXS⟩ : ∃ XS, XS = setK X Y (-s) F.p 0 F.k := ⟨_, rfl⟩
    have hoo := ho.out
    rw [HJ.out, ← hXS] at hoo
    have hXSl : XS.length = F.k := by rw [hXS, setK_len, HXL.out]
    have hin : InR F.p XS := by rw [hXS]; exact setK_in (by omega) hX _ _ _ _
    have hrd : Rd wr (some ⟨g1, 0, none⟩) XS := hoo.rd
    have hnum := fun W h => numberOf_any (some ⟨g1, 0, none⟩) c1 XS F.p W h (by omega) (by omega) hin (by rw [hXSl]; have := ok.q64; omega)
    rw [hXSl] at hnum
    have HXS := Lib.hid hXS
    have HNUM := hide hnum
    clear hXS hXSl hnum hoo
    go_wp2_with fail
    refine (unhide HNUM _ hrd).mono ?_
    rintro e w3 ⟨rfl, rfl⟩
    go_wp2
    go_ret
    exact ⟨ret_int (by rw [HFIN.out, HXS.out]), hbW.trans (hbr.mono hsW)⟩
theorem l03Mul_any (g : Nat) (F : FD) (a b : Int) (w : World) (hF : PF w g F) (ok : F.Ok) (ha0 : 0 ≤ a) (ha : a ≤ 1000000) (hb0 : 0 ≤ b) (hb : b ≤ 1000000) :
    Calls Tryz.prog 135 #[.pointer (some ⟨g, 0, none⟩), .int .i64 a, .int .i64 b] w fun e w' => e = .returned (.int .i64 (mulF F.p F.k F.poly a b)) ∧ Below w.heap.size w w' := by
 have hp2 := ok.p2
 have hp64 := ok.p64
 have hk6 := ok.k6
 have hk1 := ok.k1
 have hg := hF.lt
 have boxes : ∀ (W : World), Below w.heap.size w W → (Below w.heap.size w W ∧ W.cell? ⟨g, 0, none⟩ = some (.int .i64 F.p) ∧ W.cell? ⟨g, 1, none⟩ = some (.int .i64 F.k)) := fun _ h => ⟨h, (hF.below h).1, (hF.below h).2.1⟩
 have BX := hide boxes
 clear boxes
 go_enter Tryz.func135, Tryz.ntmps135
 go_upto_region 1 with fail
 go_region_held3 (fun W => Below w.heap.size w W ∧ W.cell? ⟨g, 0, none⟩ = some (.int .i64 F.p) ∧ W.cell? ⟨g, 1, none⟩ = some (.int .i64 F.k))
  (first | exact (unhide BX) _ (Below.refl _ _) | exact (unhide BX) _ ((Below.refl _ _).drew) | exact (unhide BX) _ (by assumption))
  (first
   | (go_at_call 60; refine (l03Digits_any a F.p F.k _ ha0 (by omega) (by omega) (by omega) (by omega)).mono ?_; rintro e W1 ⟨v1, rfl, o1, b1⟩; have hB1 := Below.chain (a := w) (And.left (by assumption)) b1))
 obtain ⟨g1, c1, rfl, q1, z1, cc1, cd1⟩ := o1.at_len (dig_len a F.p F.k) (by omega)
 have hz1 := hB1.size
 go_upto_region 2 with fail
 go_region_held3 (fun W => Below w.heap.size w W ∧ W.cell? ⟨g, 0, none⟩ = some (.int .i64 F.p) ∧ W.cell? ⟨g, 1, none⟩ = some (.int .i64 F.k))
  (first | exact (unhide BX) _ (hB1) | exact (unhide BX) _ ((hB1).drew) | exact (unhide BX) _ (by assumption))
  (first
   | (go_at_call 60; refine (l03Digits_any b F.p F.k _ hb0 (by omega) (by omega) (by omega) (by omega)).mono ?_; rintro e W2 ⟨v2, rfl, o2, b2⟩; have hB2 := Below.chain (a := w) (And.left (by assumption)) b2))
 obtain ⟨g2, c2, rfl, q2, z2, cc2, cd2⟩ := o2.at_len (dig_len b F.p F.k) (by omega)
 have hz2 := hB2.size
 have h12 : g1 < g2 := by have : W1.drew.heap.size = W1.heap.size := rfl; omega
 have h01 : w.heap.size ≤ g1 := q1
 have u1 := (o1.drewN 1).below b2 (Nat.le_refl _)
 have u2 : Own W2 w.heap.size _ _ := o2.mono (by have : W1.drew.heap.size = W1.heap.size := rfl; omega)
 have hX : InR F.p (dig a F.p F.k) := dig_inR (by omega) _ _
 have hY : InR F.p (dig b F.p F.k) := dig_inR (by omega) _ _
 have hXl := dig_len a F.p F.k
 have hYl := dig_len b F.p F.k
 have hfin : mulF F.p F.k F.poly a b = num F.p (mulD F.p F.poly (dig a F.p F.k) (dig b F.p F.k) (2 * F.k - 1)) := by rw [mulD_pad (by omega) ok.k1 ok.len hXl hYl]; rfl
 obtain ⟨X, eX⟩ : ∃ X, X = dig a F.p F.k := ⟨_, rfl⟩
 obtain ⟨Y, eY⟩ : ∃ Y, Y = dig b F.p F.k := ⟨_, rfl⟩
 rw [← eX] at hX u1 hXl hfin
 rw [← eY] at hY u2 hYl hfin
 have U1 := Lib.hid u1
 have U2 := Lib.hid u2
 have HXL := Lib.hid hXl
 have HYL := Lib.hid hYl
 have HFIN := Lib.hid hfin
 clear hfin eX eY b2 b1 o1 o2 u1 u2 hXl hYl hB1
 obtain ⟨L, hL⟩ : ∃ L, L = (2 * F.k - 1) := ⟨_, rfl⟩
 have hLi : (2 * (F.k : Int) - 1) = (L : Int) := by omega
 have hL1 : L ≤ 2 * F.k := by omega
 have hL2 : 2 * F.k - 1 ≤ L := by omega
 rw [← hL] at HFIN
 have HL := Lib.hid hL
 have hk0 := (hF.below hB2).2.1
 have hz0 := hB2.size
 clear hL
 go_wp2_with ((try rw [hLi]); refine wpList_make_ints rfl (.tmp 37) (.tmp 37) rfl .i64 .i64 L rfl rfl (by omega) ?_; intro w3 g3 o3 b3)
 have hB3 := hB2.trans (b3.mono hz0)
 have u1 := U1.out.below b3 (Nat.le_refl _)
 have u2 := U2.out.below b3 (Nat.le_refl _)
 have u3 : Own w3 w.heap.size _ _ := o3.mono hz0
 have hlo3 := (o3.lt g3 rfl).1
 have h13 : g1 < g3 := by omega
 have h23 : g2 < g3 := by omega
 have hlt3 := (u3.lt g3 rfl).2
 have U1 := Lib.hid u1
 have U2 := Lib.hid u2
 have U3 := Lib.hid u3
 clear b3 o3 hLi hk0 u1 u2 u3
 go_loopw [10] (fun iv wr => ∃ (i : Nat), iv = .int .i64 i ∧ i ≤ F.k ∧ Hid (Own wr w.heap.size (.slice (some ⟨g3, 0, none⟩) L L) (convTo F.p X Y (zeros L) i)) ∧ Hid (Own wr w.heap.size (.slice (some ⟨g1, 0, none⟩) F.k c1) X) ∧ Hid (Own wr w.heap.size (.slice (some ⟨g2, 0, none⟩) F.k c2) Y) ∧ Below w.heap.size w wr) (fun iv _ => F.k - (intOf iv).toNat)
 case atStart => exact ⟨0, rfl, Nat.zero_le _, U3.out, U1.out, U2.out, hB3⟩
 case round =>
  obtain ⟨i, rfl, hi, ho, hx, hy, hbr⟩ := hrel
  by_cases hik : i < F.k
  · obtain ⟨Z, hZ⟩ : ∃ Z, Z = convTo F.p X Y (zeros L) i := ⟨_, rfl⟩
    have hZl : Z.length = L := by rw [hZ, convTo_len, zeros_len]
    have hZr : InR F.p Z := by rw [hZ]; exact convTo_inR (by omega) _ _ (zeros_inR (by omega) _) _
    rw [← hZ] at ho
    have HZ := Lib.hid hZ
    have HZL := Lib.hid hZl
    have hxb := hX.nth (i := i) (by rw [HXL.out]; exact hik)
    generalize hXX : nth X i = x at hxb
    obtain ⟨hxb1, hxb2⟩ := hxb
    have HXX := Lib.hid hXX
    obtain ⟨wo, rfl⟩ : ∃ wo : World, wo = wr := ⟨_, rfl⟩
    clear hZ hZl hXX
    go_wp2_with fail
    go_loopw [11] (fun jv wr => ∃ (j : Nat), jv = .int .i64 j ∧ j ≤ F.k ∧ Hid (Own wr w.heap.size (.slice (some ⟨g3, 0, none⟩) L L) (setK Z Y (-x) F.p i j)) ∧ Hid (Own wr w.heap.size (.slice (some ⟨g1, 0, none⟩) F.k c1) X) ∧ Hid (Own wr w.heap.size (.slice (some ⟨g2, 0, none⟩) F.k c2) Y) ∧ Below w.heap.size w wr) (fun jv _ => F.k - (intOf jv).toNat)
    case atStart => exact ⟨0, rfl, Nat.zero_le _, ho.out, hx.out, hy.out, hbr⟩
    case round =>
     obtain ⟨j, rfl, hj, ho2, hx2, hy2, hb2⟩ := hrel
     by_cases hjk : j < F.k
     · have hSl := setK_len Z Y (-x) F.p i j
       have hx1 := hx2.out.cell (j := i) (by rw [HXL.out]; exact hik)
       rw [HXX.out] at hx1
       have hz1 := ho2.out.cell (j := i + j) (by rw [hSl, HZL.out]; omega)
       rw [setK_nth _ _ _ _ _ (.inr (Nat.le_refl _))] at hz1
       have hzf := ho2.out.frozen (i + j)
       have hy1 := hy2.out.cell (j := j) (by rw [HYL.out]; exact hjk)
       have hpc := (hF.below hb2).1
       have hzb := hZr.nth (i := i + j) (by rw [HZL.out]; omega)
       have hyb := hY.nth (i := j) (by rw [HYL.out]; exact hjk)
       generalize hZZ : nth Z (i + j) = z at hz1 hzb
       generalize hYY : nth Y j = y at hy1 hyb
       obtain ⟨hzb1, hzb2⟩ := hzb
       obtain ⟨hyb1, hyb2⟩ := hyb
       have hm0 : 0 ≤ x * y := Int.mul_nonneg hxb1 hyb1
       have hm1 : x * y ≤ 64 * 64 := Int.mul_le_mul (by omega) (by omega) hyb1 (by omega)
       have ht1 := Int.emod_nonneg (z + x * y) (show F.p ≠ 0 by omega)
       have ht2 := Int.emod_lt_of_pos (z + x * y) (show 0 < F.p by omega)
       have hijL : i + j < L := by omega
       have HZZ := Lib.hid hZZ
       have HYY := Lib.hid hYY
       clear hZZ hYY hSl
       go_wp2_with fail
       go_region
       go_wp2
       go_roundw
       case rel =>
        have hs := ho2.out.set (i + j) ((z + x * y) % F.p)
        refine ⟨j + 1, by go_num, by omega, ?_, ?_, ?_, (hb2.setCell (by show w.heap.size ≤ g3; omega) _).drew⟩
        · show Own _ _ _ _
          rw [setK, HZZ.out, HYY.out, show z - -x * y = z + x * y by rw [Int.neg_mul]; omega]
          exact hs.1
        · exact (hx2.out.grow hs.2 (.inr (by show some g1 ≠ some g3; intro e; injection e; omega))).drewN 1
        · exact (hy2.out.grow hs.2 (.inr (by show some g2 ≠ some g3; intro e; injection e; omega))).drewN 1
       case measure => simp only [intOf]; omega
     · have hje : j = F.k := by omega
       have HJ := Lib.hid hje
       clear hje
       go_wp2
       go_roundw
       case rel =>
        refine ⟨i + 1, by go_num, by omega, ?_, hx2, hy2, hb2⟩
        show Own _ _ _ _
        have o := ho2.out
        rw [HJ.out, HZ.out, ← HXX.out, ← HYL.out] at o
        rw [convTo]
        exact o
       case measure => simp only [intOf]; omega
  · have hie : i = F.k := by omega
    have HI := Lib.hid hie
    clear hie
    obtain ⟨ZS, hZS⟩ : ∃ ZS, ZS = convTo F.p X Y (zeros L) F.k := ⟨_, rfl⟩
    have hoo := ho.out
    rw [HI.out, ← hZS] at hoo
    have hZSl : ZS.length = L := by rw [hZS, convTo_len, zeros_len]
    have hin : InR F.p ZS := by rw [hZS]; exact convTo_inR (by omega) _ _ (zeros_inR (by omega) _) _
    have hrd : Rd wr (some ⟨g3, 0, none⟩) ZS := hoo.rd
    obtain ⟨hc0, hc1, ap, cp, hc2, hrp⟩ := hF.below hbr
    have hg2 := hbr.size
    have boxes : ∀ (W : World), Below wr.heap.size wr W → (Below wr.heap.size wr W ∧ W.cell? ⟨g, 0, none⟩ = some (.int .i64 F.p) ∧ W.cell? ⟨g, 2, none⟩ = some (.slice ap F.poly.length cp)) := fun _ h => ⟨h, (h.cell (p := ⟨g, 0, none⟩) (by show g < _; omega)).trans hc0, (h.cell (p := ⟨g, 2, none⟩) (by show g < _; omega)).trans hc2⟩
    have BX2 := hide boxes
    have hrest := fun W h h' => l03Rest_any (some ⟨g3, 0, none⟩) ap L cp ZS F.poly F.p W h h' (by omega) (by omega) hin (fun y hy => by have := ok.inR y hy; omega) (by omega) (by rw [ok.len]; omega) (by rw [ok.len]; omega)
    have hpl : (prem F.p F.poly ZS).length = F.k := by rw [prem_len, hZSl, ok.len]; omega
    have hpi : InR F.p (prem F.p F.poly ZS) := prem_in (by omega) hin _
    have hpp : F.p ^ (prem F.p F.poly ZS).length ≤ 1099511627776 := by rw [hpl]; have := ok.q64; omega
    have hnum := fun a5 c5 W h => l03Number_any a5 c5 (prem F.p F.poly ZS) F.p W h (by omega) (by omega) hpi hpp
    have HNUM := hide hnum
    rw [hZSl] at hrest
    have HREST := hide hrest
    have HFZ : Hid (mulF F.p F.k F.poly a b = num F.p (prem F.p F.poly ZS)) := by show _ = _; rw [HFIN.out, mulD, hZS, HXL.out]
    clear hrest boxes BX hZS hZSl hoo hc0 hc1 hc2 HI hnum hpp hpl
    go_upto_region 11 with fail
    go_region_held3 (fun W => Below wr.heap.size wr W ∧ W.cell? ⟨g, 0, none⟩ = some (.int .i64 F.p) ∧ W.cell? ⟨g, 2, none⟩ = some (.slice ap F.poly.length cp))
     (first | exact (unhide BX2) _ (Below.refl _ _) | exact (unhide BX2) _ ((Below.refl _ _).drew) | exact (unhide BX2) _ (by assumption))
     (first
      | (go_at_call 116; refine (unhide HREST _ ?_ ?_).mono ?_; exact hrd.below (And.left (by assumption)); exact hrp.below (And.left (by assumption)); rintro e W5 ⟨v5, rfl, o5, b5⟩; have hB5 := Below.chain (a := wr) (And.left (by assumption)) b5; obtain ⟨a5, c5, rfl, r5, _⟩ := o5.form)
      | (go_at_call 100; refine (unhide HNUM a5 c5 _ r5).mono ?_; rintro e W6 ⟨rfl, rfl⟩))
    have hbr2 := hbr.trans (hB5.mono hg2)
    clear HREST BX2
    go_wp2
    go_ret
    exact ⟨ret_int (by rw [HFZ.out]), hbr2⟩
theorem product_any (F : FD) (ap : Option Addr) (cp : Nat) (a b : Int) (w : World) (hR : Rd w ap F.poly) (ok : F.Ok) (ha0 : 0 ≤ a) (ha : a ≤ 1000000) (hb0 : 0 ≤ b) (hb : b ≤ 1000000) :
    Calls Tryz.prog 70 #[.agg #[.int .i64 F.p, .int .i64 F.k, .slice ap F.poly.length cp], .int .i64 a, .int .i64 b] w fun e w' => e = .returned (.int .i64 (mulF F.p F.k F.poly a b)) ∧ Below w.heap.size w w' := by
 have hp2 := ok.p2
 have hp64 := ok.p64
 have hk6 := ok.k6
 have hk1 := ok.k1
 obtain ⟨W0, hW0⟩ : ∃ W0, W0 = w.alloc (.cells #[.int .i64 F.p, .int .i64 F.k, .slice ap F.poly.length cp] 30) := ⟨_, rfl⟩
 have hbW : Below w.heap.size w W0 := by rw [hW0]; exact (Below.refl _ _).alloc (Nat.le_refl _) _
 have hsW : w.heap.size ≤ W0.heap.size := hbW.size
 have hF : PF W0 w.heap.size F := by rw [hW0]; exact PF.box hR
 obtain ⟨g, hgw⟩ : ∃ g, g = w.heap.size := ⟨_, rfl⟩
 have hg := hF.lt
 rw [← hgw] at hF hg
 have boxes : ∀ (W : World), Below W0.heap.size W0 W → (Below W0.heap.size W0 W ∧ W.cell? ⟨g, 0, none⟩ = some (.int .i64 F.p) ∧ W.cell? ⟨g, 1, none⟩ = some (.int .i64 F.k)) := fun _ h => ⟨h, (hF.below h).1, (hF.below h).2.1⟩
 have BX := hide boxes
 clear boxes
 have HW := Lib.hid hW0
 have HG := Lib.hid hgw
 clear hW0 hgw
 go_enter Tryz.func70, Tryz.ntmps70
 go_upto_region 1 with fail
 rw [← HW.out, ← HG.out]
 go_region_held3 (fun W => Below W0.heap.size W0 W ∧ W.cell? ⟨g, 0, none⟩ = some (.int .i64 F.p) ∧ W.cell? ⟨g, 1, none⟩ = some (.int .i64 F.k))
  (first | exact (unhide BX) _ (Below.refl _ _) | exact (unhide BX) _ ((Below.refl _ _).drew) | exact (unhide BX) _ (by assumption))
  (first
   | (go_at_call_of 119 (Value.int .i64 a); refine (digitsOf_any a F.p F.k _ ha0 (by omega) (by omega) (by omega) (by omega)).mono ?_; rintro e W1 ⟨v1, rfl, o1, b1⟩; have hB1 := Below.chain (a := W0) (And.left (by assumption)) b1; obtain ⟨g1, c1, rfl, q1, z1, cc1, cd1⟩ := o1.at_len (dig_len a F.p F.k) (by omega); have hz1 := hB1.size)
   | (go_at_call_of 119 (Value.int .i64 b); refine (digitsOf_any b F.p F.k _ hb0 (by omega) (by omega) (by omega) (by omega)).mono ?_; rintro e W2 ⟨v2, rfl, o2, b2⟩; have hB2 := Below.chain (a := W0) (And.left (by assumption)) b2; obtain ⟨g2, c2, rfl, q2, z2, cc2, cd2⟩ := o2.at_len (dig_len b F.p F.k) (by omega)))
 have hz2 := hB2.size
 have h12 : g1 < g2 := by have : W1.drew.heap.size = W1.heap.size := rfl; omega
 have h01 : W0.heap.size ≤ g1 := q1
 have u1 := o1.below b2 (Nat.le_refl _)
 have u2 : Own W2 W0.heap.size _ _ := o2.mono (by have : W1.drew.heap.size = W1.heap.size := rfl; omega)
 have hX : InR F.p (dig a F.p F.k) := dig_inR (by omega) _ _
 have hY : InR F.p (dig b F.p F.k) := dig_inR (by omega) _ _
 have hXl := dig_len a F.p F.k
 have hYl := dig_len b F.p F.k
 have hfin : mulF F.p F.k F.poly a b = num F.p (mulD F.p F.poly (dig a F.p F.k) (dig b F.p F.k) (2 * F.k)) := rfl
 obtain ⟨X, eX⟩ : ∃ X, X = dig a F.p F.k := ⟨_, rfl⟩
 obtain ⟨Y, eY⟩ : ∃ Y, Y = dig b F.p F.k := ⟨_, rfl⟩
 rw [← eX] at hX u1 hXl hfin
 rw [← eY] at hY u2 hYl hfin
 have U1 := Lib.hid u1
 have U2 := Lib.hid u2
 have HXL := Lib.hid hXl
 have HYL := Lib.hid hYl
 have HFIN := Lib.hid hfin
 clear hfin eX eY b2 b1 o1 o2 u1 u2 hXl hYl hB1
 obtain ⟨L, hL⟩ : ∃ L, L = (2 * F.k) := ⟨_, rfl⟩
 have hLi : (2 * (F.k : Int)) = (L : Int) := by omega
 have hL1 : L ≤ 2 * F.k := by omega
 have hL2 : 2 * F.k - 1 ≤ L := by omega
 rw [← hL] at HFIN
 have HL := Lib.hid hL
 have hk0 := (hF.below hB2).2.1
 have hz0 := hB2.size
 clear hL
 go_wp2_with ((try rw [hLi]); refine wpList_make_ints rfl (.tmp 26) (.tmp 26) rfl .i64 .i64 L rfl rfl (by omega) ?_; intro w3 g3 o3 b3)
 have hB3 := hB2.trans (b3.mono hz0)
 have u1 := U1.out.below b3 (Nat.le_refl _)
 have u2 := U2.out.below b3 (Nat.le_refl _)
 have u3 : Own w3 W0.heap.size _ _ := o3.mono hz0
 have hlo3 := (o3.lt g3 rfl).1
 have h13 : g1 < g3 := by omega
 have h23 : g2 < g3 := by omega
 have hlt3 := (u3.lt g3 rfl).2
 have U1 := Lib.hid u1
 have U2 := Lib.hid u2
 have U3 := Lib.hid u3
 clear b3 o3 hLi hk0 u1 u2 u3
 go_loopw [30] (fun iv wr => ∃ (i : Nat), iv = .int .i64 i ∧ i ≤ F.k ∧ Hid (Own wr W0.heap.size (.slice (some ⟨g3, 0, none⟩) L L) (convTo F.p X Y (zeros L) i)) ∧ Hid (Own wr W0.heap.size (.slice (some ⟨g1, 0, none⟩) F.k c1) X) ∧ Hid (Own wr W0.heap.size (.slice (some ⟨g2, 0, none⟩) F.k c2) Y) ∧ Below W0.heap.size W0 wr) (fun iv _ => F.k - (intOf iv).toNat)
 case atStart => exact ⟨0, rfl, Nat.zero_le _, U3.out, U1.out, U2.out, hB3⟩
 case round =>
  obtain ⟨i, rfl, hi, ho, hx, hy, hbr⟩ := hrel
  by_cases hik : i < F.k
  · obtain ⟨Z, hZ⟩ : ∃ Z, Z = convTo F.p X Y (zeros L) i := ⟨_, rfl⟩
    have hZl : Z.length = L := by rw [hZ, convTo_len, zeros_len]
    have hZr : InR F.p Z := by rw [hZ]; exact convTo_inR (by omega) _ _ (zeros_inR (by omega) _) _
    rw [← hZ] at ho
    have HZ := Lib.hid hZ
    have HZL := Lib.hid hZl
    have hxb := hX.nth (i := i) (by rw [HXL.out]; exact hik)
    generalize hXX : nth X i = x at hxb
    obtain ⟨hxb1, hxb2⟩ := hxb
    have HXX := Lib.hid hXX
    obtain ⟨wo, rfl⟩ : ∃ wo : World, wo = wr := ⟨_, rfl⟩
    clear hZ hZl hXX
    go_wp2_with fail
    go_loopw [35] (fun jv wr => ∃ (j : Nat), jv = .int .i64 j ∧ j ≤ F.k ∧ Hid (Own wr W0.heap.size (.slice (some ⟨g3, 0, none⟩) L L) (setK Z Y (-x) F.p i j)) ∧ Hid (Own wr W0.heap.size (.slice (some ⟨g1, 0, none⟩) F.k c1) X) ∧ Hid (Own wr W0.heap.size (.slice (some ⟨g2, 0, none⟩) F.k c2) Y) ∧ Below W0.heap.size W0 wr) (fun jv _ => F.k - (intOf jv).toNat)
    case atStart => exact ⟨0, rfl, Nat.zero_le _, ho.out, hx.out, hy.out, hbr⟩
    case round =>
     obtain ⟨j, rfl, hj, ho2, hx2, hy2, hb2⟩ := hrel
     by_cases hjk : j < F.k
     · have hSl := setK_len Z Y (-x) F.p i j
       have hx1 := hx2.out.cell (j := i) (by rw [HXL.out]; exact hik)
       rw [HXX.out] at hx1
       have hz1 := ho2.out.cell (j := i + j) (by rw [hSl, HZL.out]; omega)
       rw [setK_nth _ _ _ _ _ (.inr (Nat.le_refl _))] at hz1
       have hzf := ho2.out.frozen (i + j)
       have hy1 := hy2.out.cell (j := j) (by rw [HYL.out]; exact hjk)
       have hpc := (hF.below hb2).1
       have hzb := hZr.nth (i := i + j) (by rw [HZL.out]; omega)
       have hyb := hY.nth (i := j) (by rw [HYL.out]; exact hjk)
       generalize hZZ : nth Z (i + j) = z at hz1 hzb
       generalize hYY : nth Y j = y at hy1 hyb
       obtain ⟨hzb1, hzb2⟩ := hzb
       obtain ⟨hyb1, hyb2⟩ := hyb
       have hm0 : 0 ≤ x * y := Int.mul_nonneg hxb1 hyb1
       have hm1 : x * y ≤ 64 * 64 := Int.mul_le_mul (by omega) (by omega) hyb1 (by omega)
       have ht1 := Int.emod_nonneg (z + x * y) (show F.p ≠ 0 by omega)
       have ht2 := Int.emod_lt_of_pos (z + x * y) (show 0 < F.p by omega)
       have hijL : i + j < L := by omega
       have HZZ := Lib.hid hZZ
       have HYY := Lib.hid hYY
       clear hZZ hYY hSl
       go_wp2_with fail
       go_region
       go_wp2
       go_roundw
       case rel =>
        have hs := ho2.out.set (i + j) ((z + x * y) % F.p)
        refine ⟨j + 1, by go_num, by omega, ?_, ?_, ?_, (hb2.setCell (by show W0.heap.size ≤ g3; omega) _).drew⟩
        · show Own _ _ _ _
          rw [setK, HZZ.out, HYY.out, show z - -x * y = z + x * y by rw [Int.neg_mul]; omega]
          exact hs.1
        · exact (hx2.out.grow hs.2 (.inr (by show some g1 ≠ some g3; intro e; injection e; omega))).drewN 1
        · exact (hy2.out.grow hs.2 (.inr (by show some g2 ≠ some g3; intro e; injection e; omega))).drewN 1
       case measure => simp only [intOf]; omega
     · have hje : j = F.k := by omega
       have HJ := Lib.hid hje
       clear hje
       go_wp2
       go_roundw
       case rel =>
        refine ⟨i + 1, by go_num, by omega, ?_, hx2, hy2, hb2⟩
        show Own _ _ _ _
        have o := ho2.out
        rw [HJ.out, HZ.out, ← HXX.out, ← HYL.out] at o
        rw [convTo]
        exact o
       case measure => simp only [intOf]; omega
  · have hie : i = F.k := by omega
    have HI := Lib.hid hie
    clear hie
    obtain ⟨ZS, hZS⟩ : ∃ ZS, ZS = convTo F.p X Y (zeros L) F.k := ⟨_, rfl⟩
    have hoo := ho.out
    rw [HI.out, ← hZS] at hoo
    have hZSl : ZS.length = L := by rw [hZS, convTo_len, zeros_len]
    have hin : InR F.p ZS := by rw [hZS]; exact convTo_inR (by omega) _ _ (zeros_inR (by omega) _) _
    have hrd : Rd wr (some ⟨g3, 0, none⟩) ZS := hoo.rd
    obtain ⟨hc0, hc1, ap, cp, hc2, hrp⟩ := hF.below hbr
    have hg2 := hbr.size
    have boxes : ∀ (W : World), Below wr.heap.size wr W → (Below wr.heap.size wr W ∧ W.cell? ⟨g, 0, none⟩ = some (.int .i64 F.p) ∧ W.cell? ⟨g, 2, none⟩ = some (.slice ap F.poly.length cp)) := fun _ h => ⟨h, (h.cell (p := ⟨g, 0, none⟩) (by show g < _; omega)).trans hc0, (h.cell (p := ⟨g, 2, none⟩) (by show g < _; omega)).trans hc2⟩
    have BX2 := hide boxes
    have hrest := fun W h h' => remainder_any (some ⟨g3, 0, none⟩) ap L cp ZS F.poly F.p W h h' (by omega) (by omega) hin (fun y hy => by have := ok.inR y hy; omega) (by omega) (by rw [ok.len]; omega)
    have hpl : (prem F.p F.poly ZS).length = F.k := by rw [prem_len, hZSl, ok.len]; omega
    have hpi : InR F.p (prem F.p F.poly ZS) := prem_in (by omega) hin _
    have hpp : F.p ^ (prem F.p F.poly ZS).length ≤ 1099511627776 := by rw [hpl]; have := ok.q64; omega
    have hnum := fun a5 c5 W h => numberOf_any a5 c5 (prem F.p F.poly ZS) F.p W h (by omega) (by omega) hpi hpp
    have HNUM := hide hnum
    rw [hZSl] at hrest
    have HREST := hide hrest
    have HFZ : Hid (mulF F.p F.k F.poly a b = num F.p (prem F.p F.poly ZS)) := by show _ = _; rw [HFIN.out, mulD, hZS, HXL.out]
    clear hrest boxes BX hZS hZSl hoo hc0 hc1 hc2 HI hnum hpp hpl
    go_upto_region 12 with fail
    go_region_held3 (fun W => Below wr.heap.size wr W ∧ W.cell? ⟨g, 0, none⟩ = some (.int .i64 F.p) ∧ W.cell? ⟨g, 2, none⟩ = some (.slice ap F.poly.length cp))
     (first | exact (unhide BX2) _ (Below.refl _ _) | exact (unhide BX2) _ ((Below.refl _ _).drew) | exact (unhide BX2) _ (by assumption))
     (first
      | (go_at_call 118; refine (unhide HREST _ ?_ ?_).mono ?_; exact hrd.below (And.left (by assumption)); exact hrp.below (And.left (by assumption)); rintro e W5 ⟨v5, rfl, o5, b5⟩; have hB5 := Below.chain (a := wr) (And.left (by assumption)) b5; obtain ⟨a5, c5, rfl, r5, _⟩ := o5.form)
      | (go_at_call 123; refine (unhide HNUM a5 c5 _ r5).mono ?_; rintro e W6 ⟨rfl, rfl⟩))
    have hbr2 := hbr.trans (hB5.mono hg2)
    clear HREST BX2
    go_wp2
    go_ret
    exact ⟨ret_int (by rw [HFZ.out]), hbW.trans (hbr2.mono hsW)⟩
end Go.Proofs.YtkiljcbejmiioaaGreat
namespace Go.Proofs.YtkiljcbejmiioaaGreat
open Go.RowKit
attribute [local go_sem ↓] Go.wp_at_zero Go.wp_at_succ
def revTo (xs : List Int) : Nat → List Int
 | 0 => xs
 | t + 1 => ((revTo xs t).set t (nth xs (xs.length - 1 - t))).set (xs.length - 1 - t) (nth xs t)
theorem revTo_len (xs : List Int) (t : Nat) : (revTo xs t).length = xs.length := by
 induction t with
 | zero => rfl
 | succ t ih => rw [revTo, List.length_set, List.length_set, ih]
theorem revTo_nth (xs : List Int) (t : Nat) (ht : 2 * t ≤ xs.length) (i : Nat) (hi : i < xs.length) : nth (revTo xs t) i = if i < t ∨ xs.length ≤ i + t then nth xs (xs.length - 1 - i) else nth xs i := by
 induction t with
 | zero => rw [if_neg (by omega)]; rfl
 | succ t ih =>
  have ih := ih (by omega)
  rw [revTo]
  by_cases h1 : i = xs.length - 1 - t
  · subst h1
    rw [nth_set_same (by rw [List.length_set, revTo_len]; omega), if_pos (by omega)]
    congr 1; omega
  · rw [nth_set_ne (by omega)]
    by_cases h2 : i = t
    · subst h2
      rw [nth_set_same (by rw [revTo_len]; omega), if_pos (by omega)]
    · rw [nth_set_ne (by omega), ih]
      by_cases h3 : i < t ∨ xs.length ≤ i + t
      · rw [if_pos h3, if_pos (by omega)]
      · rw [if_neg h3, if_neg (by omega)]
theorem revTo_all (xs : List Int) (t : Nat) (ht : 2 * t ≤ xs.length) (h2 : xs.length ≤ 2 * t + 1) : revTo xs t = xs.reverse := by
 apply eq_of_nth (by rw [revTo_len, List.length_reverse])
 intro i hi
 rw [revTo_len] at hi
 rw [revTo_nth xs t ht i hi, nth_lt (xs := xs.reverse) (by simpa using hi), List.getElem_reverse, ← nth_lt]
 split
 · rfl
 · congr 1; omega
theorem reverse_any (g c B : Nat) (xs : List Int) (w : World) (ho : Own w B (.slice (some ⟨g, 0, none⟩) xs.length c) xs) :
    Calls Tryz.prog 145 #[.slice (some ⟨g, 0, none⟩) xs.length c] w fun e w' => e = .returned (.tuple #[]) ∧ Own w' B (.slice (some ⟨g, 0, none⟩) xs.length c) xs.reverse ∧ Below B w w' := by
 have hxl := ho.1
 have hBg := (ho.lt g rfl).1
 have hcap := ho.cap
 unfold maxLen at hcap
 obtain ⟨hcap1, hcap2⟩ := hcap
 have HO := Lib.hid ho
 clear ho
 go_enter Tryz.func145, Tryz.ntmps145
 go_wp2
 go_loopw [2, 3] (fun iv jv wr => ∃ (t : Nat) (j : Int), iv = .int .i64 t ∧ jv = .int .i64 j ∧ Hid (j = (xs.length : Int) - 1 - t) ∧ -1 ≤ j + 1 ∧ j < (xs.length : Int) ∧ t ≤ xs.length ∧ Hid (2 * t ≤ xs.length) ∧ Hid (Own wr B (.slice (some ⟨g, 0, none⟩) xs.length c) (revTo xs t)) ∧ Below B w wr) (fun iv _ _ => xs.length - (intOf iv).toNat)
 case atStart => exact ⟨0, _, rfl, rfl, by show _ = _; simp, by omega, by omega, by omega, by show _ ≤ _; omega, HO.out, Below.refl _ _⟩
 case round =>
  obtain ⟨t, j, rfl, rfl, hj, hj0, hj1, htl, ht, ho, hb⟩ := hrel
  by_cases htj : (t : Int) < j
  · obtain ⟨J, rfl⟩ := Int.eq_ofNat_of_zero_le (show 0 ≤ j by omega)
    have hJ : J = xs.length - 1 - t := by have := hj.out; omega
    have hJl : J < xs.length := by omega
    have htJ : t < J := by omega
    have h1 := ho.out.cell (j := t) (by rw [revTo_len]; omega)
    have h2 := ho.out.cell (j := J) (by rw [revTo_len]; omega)
    have f1 := ho.out.frozen t
    have f2 := ho.out.frozen J
    rw [revTo_nth xs t ht.out t (by omega), if_neg (by omega)] at h1
    rw [revTo_nth xs t ht.out J (by omega), if_neg (by omega)] at h2
    have HJ := Lib.hid hJ
    have hne : t ≠ J := by omega
    clear hJ
    go_wp2_with fail
    go_region
    all_goals
     go_wp2
     go_roundw
     case rel =>
      refine ⟨t + 1, (J : Int) - 1, by go_num, rfl, by show _ = _; have := HJ.out; omega, by omega, by omega, by omega, by show _ ≤ _; have := HJ.out; omega, ?_, ((hb.setCell (by show B ≤ g; exact hBg) _).setCell (by show B ≤ g; exact hBg) _).drew⟩
      show Own _ _ _ _
      rw [revTo, ← HJ.out]
      first
       | exact ((ho.out.set t (nth xs J)).1.set J (nth xs t)).1
       | (rw [List.set_comm _ _ hne]; exact ((ho.out.set J (nth xs t)).1.set t (nth xs J)).1)
     case measure => simp only [intOf]; omega
  · go_wp2
    go_end0
    have o := ho.out
    rw [revTo_all xs t ht.out (by have := hj.out; omega)] at o
    exact ⟨rfl, o, hb⟩
end Go.Proofs.YtkiljcbejmiioaaGreat
namespace Go.Proofs.YtkiljcbejmiioaaGreat
open Go.RowKit
theorem FD.Ok.size {F : FD} (ok : F.Ok) : ∃ n : Nat, F.p ^ F.k = (n : Int) ∧ 2 ≤ n ∧ n ≤ 64 := by
 have h0 : 0 ≤ F.p ^ F.k := Int.pow_nonneg (by have := ok.p2; omega)
 have h1 : F.p ^ 1 ≤ F.p ^ F.k := pow_mono (by have := ok.p2; omega) ok.k1
 have h2 := ok.q64
 have h3 := ok.p2
 rw [Int.pow_one] at h1
 exact ⟨(F.p ^ F.k).toNat, by omega, by omega, by omega⟩
def FD.n (F : FD) : Nat := (F.p ^ F.k).toNat
theorem FD.Ok.n_eq {F : FD} (ok : F.Ok) : F.p ^ F.k = (F.n : Int) := by
 obtain ⟨n, h, _⟩ := ok.size
 rw [FD.n, h]; rfl
theorem FD.Ok.n_bd {F : FD} (ok : F.Ok) : 2 ≤ F.n ∧ F.n ≤ 64 := by
 obtain ⟨n, h, h1, h2⟩ := ok.size
 rw [FD.n, h]; exact ⟨by simpa using h1, by simpa using h2⟩
def rowF (f : Int → Int → Int) (n : Nat) (a : Nat) : List Int := (List.range n).map fun (b : Nat) => f a b
def rowsTo (f : Int → Int → Int) (n a : Nat) : List (List Int) := (List.range a).map (rowF f n)
theorem rowF_len (f : Int → Int → Int) (n a : Nat) : (rowF f n a).length = n := by simp [rowF]
theorem rowsTo_len (f : Int → Int → Int) (n a : Nat) : (rowsTo f n a).length = a := by simp [rowsTo]
theorem rowsTo_succ (f : Int → Int → Int) (n a : Nat) : rowsTo f n (a + 1) = rowsTo f n a ++ [rowF f n a] := by simp [rowsTo, List.range_succ]
theorem rowF_nth (f : Int → Int → Int) {n b : Nat} (a : Nat) (h : b < n) : nth (rowF f n a) b = f a b := by simp [rowF, nth, h]
theorem rowsTo_nth (f : Int → Int → Int) (n : Nat) {a m : Nat} (h : a < m) : nthL (rowsTo f n m) a = rowF f n a := by simp [rowsTo, nthL, h]
def rowTo (f : Int → Int → Int) (n a : Nat) : Nat → List Int
 | 0 => zeros n
 | b + 1 => (rowTo f n a b).set b (f a b)
theorem rowTo_len (f : Int → Int → Int) (n a b : Nat) : (rowTo f n a b).length = n := by
 induction b with
 | zero => exact zeros_len n
 | succ b ih => rw [rowTo, List.length_set, ih]
theorem rowTo_nth (f : Int → Int → Int) (n a b : Nat) (hb : b ≤ n) (i : Nat) (hi : i < n) : nth (rowTo f n a b) i = if i < b then f a i else 0 := by
 induction b with
 | zero => rw [rowTo, zeros_nth]; rfl
 | succ b ih =>
  have ih := ih (by omega)
  rw [rowTo]
  by_cases e : i = b
  · subst e
    rw [nth_set_same (by rw [rowTo_len]; omega), if_pos (by omega)]
  · rw [nth_set_ne (by omega), ih]
    by_cases h : i < b
    · rw [if_pos h, if_pos (by omega)]
    · rw [if_neg h, if_neg (by omega)]
theorem rowTo_all (f : Int → Int → Int) (n a : Nat) : rowTo f n a n = rowF f n a := by
 apply eq_of_nth (by rw [rowTo_len, rowF_len])
 intro i hi
 rw [rowTo_len] at hi
 rw [rowTo_nth f n a n (Nat.le_refl _) i hi, if_pos hi, rowF_nth f a hi]
def FD.add (F : FD) (a b : Int) : Int := lin 1 F.p F.k a b
def FD.sub (F : FD) (a b : Int) : Int := lin (-1) F.p F.k a b
def FD.mul (F : FD) (a b : Int) : Int := mulF F.p F.k F.poly a b
def invIn (F : FD) (a : Nat) (z : List Int) : Nat → List Int
 | 0 => z
 | b + 1 => if F.mul a b = 1 then (invIn F a z b).set a b else invIn F a z b
def invTo (F : FD) : Nat → List Int
 | 0 => zeros F.n
 | a + 1 => invIn F a (invTo F a) F.n
theorem invIn_len (F : FD) (a : Nat) (z : List Int) (b : Nat) : (invIn F a z b).length = z.length := by
 induction b with
 | zero => rfl
 | succ b ih =>
  rw [invIn]
  split
  · rw [List.length_set, ih]
  · exact ih
theorem invTo_len (F : FD) (a : Nat) : (invTo F a).length = F.n := by
 induction a with
 | zero => exact zeros_len _
 | succ a ih => rw [invTo, invIn_len, ih]
def Tabs (w : World) (F : FD) (v : Value) : Prop := ∃ aA cA aS cS aM cM aI cI, v = .agg #[.int .i64 F.n, .slice aA F.n cA, .slice aS F.n cS, .slice aM F.n cM, .slice aI F.n cI] ∧
 RdS w aA (rowsTo F.add F.n F.n) ∧ RdS w aS (rowsTo F.sub F.n F.n) ∧ RdS w aM (rowsTo F.mul F.n F.n) ∧ Rd w aI (invTo F F.n)
theorem Tabs.below {w w' : World} {F : FD} {v : Value} (h : Tabs w F v) (hb : Below w.heap.size w w') : Tabs w' F v := by
 obtain ⟨aA, cA, aS, cS, aM, cM, aI, cI, rfl, h1, h2, h3, h4⟩ := h
 exact ⟨aA, cA, aS, cS, aM, cM, aI, cI, rfl, h1.below hb, h2.below hb, h3.below hb, h4.below hb⟩
end Go.Proofs.YtkiljcbejmiioaaGreat
namespace Go.Proofs.YtkiljcbejmiioaaGreat
open Go.RowKit
def Lin (F : FD) (f : Int → Int) : Prop := ∀ s a b, f (lin s F.p F.k a b) = lin s F.p F.k (f a) (f b)
def FD.el (F : FD) (a : Int) : Prop := 0 ≤ a ∧ a < F.p ^ F.k
section
variable {F : FD}
theorem part_el (hp : 0 < F.p) (a : Int) (j : Nat) (hj : j ≤ F.k) : F.el (num F.p ((dig a F.p F.k).take j)) := by
 have hin : InR F.p ((dig a F.p F.k).take j) := fun x hx => dig_inR hp a F.k x (List.mem_of_mem_take hx)
 have h := num_bound hp hin
 rw [List.length_take, dig_len, Nat.min_eq_left hj] at h
 exact ⟨h.1, by have := pow_mono (p := F.p) (by omega) hj; omega⟩
theorem dig_part (hp : 0 < F.p) (a : Int) (j : Nat) (hj : j ≤ F.k) {i : Nat} (hi : i < F.k) : nth (dig (num F.p ((dig a F.p F.k).take j)) F.p F.k) i = if i < j then nth (dig a F.p F.k) i else 0 := by
 have hin : InR F.p ((dig a F.p F.k).take j) := fun x hx => dig_inR hp a F.k x (List.mem_of_mem_take hx)
 rw [dig_nth _ _ hi]
 by_cases h : i < j
 · rw [if_pos h, num_nth hp _ hin i (by rw [List.length_take, dig_len]; omega), take_nth_lt h]
 · rw [if_neg h]
   have hb := num_bound hp hin
   rw [List.length_take, dig_len, Nat.min_eq_left hj] at hb
   have hm := pow_mono (p := F.p) (by omega) (show j ≤ i by omega)
   rw [Int.ediv_eq_zero_of_lt hb.1 (by omega)]
   simp
theorem dig_pow (hp : 2 ≤ F.p) {i j : Nat} (hi : i < F.k) : nth (dig (F.p ^ j) F.p F.k) i = if i = j then 1 else 0 := by
 rw [dig_nth _ _ hi]
 rcases Nat.lt_trichotomy i j with h | h | h
 · rw [if_neg (by omega), show j = i + (j - i - 1 + 1) by omega, Int.pow_add, Int.mul_ediv_cancel_left _ (Int.ne_of_gt (Int.pow_pos (by omega))), Int.pow_succ]
   exact Int.mul_emod_left _ _
 · subst h
   rw [if_pos rfl, Int.ediv_self (Int.ne_of_gt (Int.pow_pos (by omega)))]
   exact Int.emod_eq_of_lt (by omega) (by omega)
 · rw [if_neg (by omega)]
   have h1 : F.p ^ j < F.p ^ i := by
    have h2 := pow_mono (p := F.p) (by omega) (show j + 1 ≤ i by omega)
    rw [Int.pow_succ] at h2
    have h3 : 0 < F.p ^ j := Int.pow_pos (by omega)
    have h4 : F.p ^ j * 2 ≤ F.p ^ j * F.p := Int.mul_le_mul_of_nonneg_left hp (by omega)
    omega
   rw [Int.ediv_eq_zero_of_lt (Int.pow_nonneg (by omega)) h1]
   simp
theorem lin_ext (hp : 2 ≤ F.p) {f g : Int → Int} (hf : Lin F f) (hg : Lin F g) (h0 : f 0 = g 0) (h : ∀ i, i < F.k → f (F.p ^ i) = g (F.p ^ i)) {a : Int} (ha : F.el a) : f a = g a := by
 have key : ∀ j, j ≤ F.k → f (num F.p ((dig a F.p F.k).take j)) = g (num F.p ((dig a F.p F.k).take j)) := by
  intro j
  induction j with
  | zero => intro _; simpa [num] using h0
  | succ j ih =>
   intro hj
   have ih := ih (by omega)
   have e : num F.p ((dig a F.p F.k).take (j + 1)) = lin (nth (dig a F.p F.k) j) F.p F.k (num F.p ((dig a F.p F.k).take j)) (F.p ^ j) := by
    refine dig_ext (by omega) (part_el (by omega) a (j + 1) hj) (lin_range (by omega) ..) fun i hi => ?_
    refine Cg.trans ?_ (lin_cg (by omega) _ _ _ _ hi).symm
    rw [dig_part (by omega) a (j + 1) hj hi, dig_part (by omega) a j (by omega) hi, dig_pow hp hi]
    refine Cg.of_eq ?_
    rcases Nat.lt_trichotomy i j with h | h | h
    · rw [if_pos (by omega), if_pos h, if_neg (by omega)]; simp
    · subst h; rw [if_pos (by omega), if_neg (by omega), if_pos rfl]; simp
    · rw [if_neg (by omega), if_neg (by omega), if_neg (by omega)]; simp
   rw [e, hf, hg, ih, h j (by omega)]
 have := key F.k (Nat.le_refl _)
 rwa [List.take_of_length_le (by rw [dig_len]; exact Nat.le_refl _), num_dig (by omega) F.k ha.1 ha.2] at this
end
def mk (p : Int) (z : Nat → Int) (L : Nat) : List Int := (List.range L).map fun (i : Nat) => z i % p
theorem mk_len (p : Int) (z : Nat → Int) (L : Nat) : (mk p z L).length = L := by simp [mk]
theorem mk_nth (p : Int) (z : Nat → Int) {L i : Nat} (h : i < L) : nth (mk p z L) i = z i % p := by simp [mk, nth, h]
theorem mk_inR {p : Int} (hp : 0 < p) (z : Nat → Int) (L : Nat) : InR p (mk p z L) := by
 intro x hx
 obtain ⟨i, _, rfl⟩ := List.mem_map.1 hx
 exact emod_range hp _
def shf (z : Nat → Int) : Nat → Int
 | 0 => 0
 | i + 1 => z i
theorem mk_shf (p : Int) (z : Nat → Int) (L : Nat) : mk p (shf z) (L + 1) = 0 :: mk p z L := by
 unfold mk
 rw [List.range_succ_eq_map, List.map_cons, List.map_map]
 congr 1
theorem setK_cons (a : Int) (R ys : List Int) (c p : Int) (o m : Nat) : setK (a :: R) ys c p (o + 1) m = a :: setK R ys c p o m := by
 induction m with
 | zero => rfl
 | succ m ih =>
  rw [setK, ih, setK, show o + 1 + m = (o + m) + 1 by omega, nth_cons_succ, List.set_cons_succ]
theorem remTo_cons (p : Int) (ys : List Int) (a : Int) (z : List Int) (t : Nat) (ht : t ≤ z.length - (ys.length - 1)) : remTo p ys (a :: z) t = a :: remTo p ys z t := by
 induction t with
 | zero => rfl
 | succ t ih =>
  rw [remTo_succ, remTo_succ, ih (by omega), List.length_cons, show z.length + 1 - 1 - t = (z.length - 1 - t) + 1 by omega, nth_cons_succ, show z.length - 1 - t + 1 - (ys.length - 1) = (z.length - 1 - t - (ys.length - 1)) + 1 by omega, setK_cons]
def P (p : Int) (poly : List Int) (z : Nat → Int) (L j : Nat) : Int := nth (prem p poly (mk p z L)) j
section
variable {p : Int} {poly : List Int} {k : Nat}
theorem P_big (hl : poly.length = k + 1) (z : Nat → Int) (L : Nat) {j : Nat} (hj : k ≤ j) : P p poly z L j = 0 := nth_big (by rw [prem_len]; omega)
theorem P_lin (hl : poly.length = k + 1) (s : Int) {x u v : Nat → Int} {L : Nat} (h : ∀ j, j < L → Cg p (x j) (u j + s * v j)) (j : Nat) : Cg p (P p poly x L j) (P p poly u L j + s * P p poly v L j) := by
 refine prem_lin s poly _ _ _ (by rw [mk_len, mk_len]) (by rw [mk_len, mk_len]) (by omega) (fun i => ?_) j
 by_cases hi : i < L
 · rw [mk_nth _ _ hi, mk_nth _ _ hi, mk_nth _ _ hi]
   exact (Cg.emod _ _).trans ((h i hi).trans ((Cg.emod _ _).add ((Cg.refl p s).mul (Cg.emod _ _))).symm)
 · rw [nth_big (by rw [mk_len]; omega), nth_big (by rw [mk_len]; omega), nth_big (by rw [mk_len]; omega)]
   exact Cg.of_eq (by simp)
theorem P_cg (hl : poly.length = k + 1) {x u : Nat → Int} {L : Nat} (h : ∀ j, j < L → Cg p (x j) (u j)) (j : Nat) : Cg p (P p poly x L j) (P p poly u L j) :=
 (P_lin hl 0 (u := u) (v := fun _ => 0) (fun i hi => (h i hi).trans (Cg.of_eq (by simp))) j).trans (Cg.of_eq (by simp))
theorem P_pad (hp : 0 < p) (hl : poly.length = k + 1) {z : Nat → Int} {L : Nat} (hL : k ≤ L) (h0 : z L % p = 0) (j : Nat) : P p poly z (L + 1) j = P p poly z L j := by
 by_cases hj : j < k
 · unfold P prem
   rw [take_nth_lt (by omega), take_nth_lt (by omega), mk_len, mk_len, show L + 1 - (poly.length - 1) = (L - (poly.length - 1)) + 1 by omega]
   refine remTo_pad hp poly _ _ (by rw [mk_len, mk_len]) (mk_inR hp _ _) (by omega) (by rw [mk_len]; omega) (fun i => ?_) _ (by rw [mk_len]; exact Nat.le_refl _) j
   rcases Nat.lt_trichotomy i L with h | h | h
   · rw [mk_nth _ _ (by omega), mk_nth _ _ h]
   · subst h; rw [mk_nth _ _ (by omega), h0, nth_big (by rw [mk_len]; omega)]
   · rw [nth_big (by rw [mk_len]; omega), nth_big (by rw [mk_len]; omega)]
 · rw [P_big hl _ _ (by omega), P_big hl _ _ (by omega)]
theorem P_shf (hl : poly.length = k + 1) (hk : 1 ≤ k) (z : Nat → Int) {L : Nat} (hL : k ≤ L) {j : Nat} (hj : j < k) : P p poly (shf z) (L + 1) j = ((if j = 0 then 0 else P p poly z L (j - 1)) - P p poly z L (k - 1) * nth poly j) % p := by
 have hR : ∀ i, i < k → nth (remTo p poly (mk p z L) (L - k)) i = P p poly z L i := fun i hi => by
  unfold P prem
  rw [take_nth_lt (by omega), mk_len, show poly.length - 1 = k by omega]
 have e0 : P p poly (shf z) (L + 1) j = nth (remTo p poly (0 :: mk p z L) ((L - k) + 1)) j := by
  unfold P prem
  rw [mk_shf, take_nth_lt (by omega), List.length_cons, mk_len, show L + 1 - (poly.length - 1) = L - k + 1 by omega]
 rw [e0, remTo_succ, remTo_cons _ _ _ _ _ (by rw [mk_len]; omega), List.length_cons, mk_len, show L + 1 - 1 - (L - k) = k by omega, show k - (poly.length - 1) = 0 by omega,
  setK_get _ _ _ _ _ _ _ (by rw [List.length_cons, remTo_len, mk_len]; omega), if_pos (by omega), Nat.sub_zero]
 obtain ⟨m, rfl⟩ : ∃ m, k = m + 1 := ⟨k - 1, by omega⟩
 rw [nth_cons_succ, hR m (by omega), Nat.add_sub_cancel]
 congr 2
 rcases j with _ | j
 · rfl
 · rw [nth_cons_succ, if_neg (by omega), Nat.add_sub_cancel, hR j (by omega)]
theorem P_self (hp : 0 < p) (hl : poly.length = k + 1) {z : Nat → Int} (hz : ∀ i, k ≤ i → z i = 0) {L : Nat} (hL : k ≤ L) {j : Nat} (hj : j < k) : P p poly z L j = z j % p := by
 induction L with
 | zero => omega
 | succ L ih =>
  by_cases e : k = L + 1
  · subst e
    unfold P prem
    rw [take_nth_lt (by omega), mk_len, show L + 1 - (poly.length - 1) = 0 by omega, remTo, mk_nth _ _ hj]
  · rw [P_pad hp hl (by omega) (by rw [hz L (by omega)]; simp), ih (by omega)]
theorem P_poly (hp : 2 ≤ p) (hl : poly.length = k + 1) (h1 : nth poly k = 1) {L : Nat} (hL : k + 1 ≤ L) (j : Nat) : Cg p (P p poly (nth poly) L j) 0 := by
 induction L with
 | zero => omega
 | succ L ih =>
  by_cases e : k = L
  · subst e
    by_cases hj : j < k
    · unfold P prem
      rw [take_nth_lt (by omega), mk_len, show k + 1 - (poly.length - 1) = 0 + 1 by omega, remTo_succ, remTo, mk_len, show k + 1 - 1 - 0 = k by omega, show k - (poly.length - 1) = 0 by omega,
       setK_get _ _ _ _ _ _ _ (by rw [mk_len]; omega), if_pos (by omega), Nat.sub_zero, mk_nth _ _ (by omega), mk_nth _ _ (by omega), h1]
      refine (Cg.emod _ _).trans (((Cg.emod _ _).sub ((Cg.emod _ _).mul (Cg.refl _ _))).trans (Cg.of_eq (by simp)))
    · exact Cg.of_eq (P_big hl _ _ (by omega))
  · refine Cg.trans (Cg.of_eq (P_pad (by omega) hl (by omega) ?_ j)) (ih (by omega))
    rw [nth_big (by omega)]; simp
def shn (z : Nat → Int) : Nat → Nat → Int
 | 0 => z
 | i + 1 => shf (shn z i)
theorem shn_at (z : Nat → Int) (i m : Nat) : shn z i m = if i ≤ m then z (m - i) else 0 := by
 induction i generalizing m with
 | zero => simp [shn]
 | succ i ih =>
  rcases m with _ | m
  · rfl
  · show shn z i m = _
    rw [ih]
    by_cases h : i ≤ m
    · rw [if_pos h, if_pos (by omega)]; congr 1; omega
    · rw [if_neg h, if_neg (by omega)]
theorem P_shn (hp : 2 ≤ p) (hl : poly.length = k + 1) (hk : 1 ≤ k) (h1 : nth poly k = 1) (i : Nat) : ∀ {L : Nat}, k + 1 + i ≤ L → ∀ j, Cg p (P p poly (shn (nth poly) i) L j) 0 := by
 induction i with
 | zero => exact fun hL j => P_poly hp hl h1 hL j
 | succ i ih =>
  intro L hL j
  obtain ⟨M, rfl⟩ : ∃ M, L = M + 1 := ⟨L - 1, by omega⟩
  by_cases hj : j < k
  · have ih := @ih M (by omega)
    show Cg p (P p poly (shf (shn (nth poly) i)) (M + 1) j) 0
    rw [P_shf hl hk _ (by omega) hj]
    refine (Cg.emod _ _).trans ?_
    have e2 := (ih (k - 1)).mul (Cg.refl p (nth poly j))
    split
    · exact ((Cg.refl p 0).sub e2).trans (Cg.of_eq (by simp))
    · exact ((ih (j - 1)).sub e2).trans (Cg.of_eq (by simp))
  · exact Cg.of_eq (P_big hl _ _ (by omega))
theorem P_mult (hp : 2 ≤ p) (hl : poly.length = k + 1) (hk : 1 ≤ k) (h1 : nth poly k = 1) (y : Nat → Int) (n : Nat) {L : Nat} (hL : k + n ≤ L) (j : Nat) : Cg p (P p poly (fun m => cv y (nth poly) m n) L j) 0 := by
 induction n with
 | zero =>
  refine (P_cg hl (u := fun _ => 0) (fun i _ => Cg.of_eq rfl) j).trans ?_
  by_cases hj : j < k
  · rw [P_self (by omega) hl (fun _ _ => rfl) (by omega) hj]; exact Cg.of_eq (by simp)
  · exact Cg.of_eq (P_big hl _ _ (by omega))
 | succ n ih =>
  refine (P_lin hl (y n) (u := fun m => cv y (nth poly) m n) (v := shn (nth poly) n) (fun i _ => Cg.of_eq ?_) j).trans (((ih (by omega)).add ((Cg.refl p _).mul (P_shn hp hl hk h1 n (by omega) j))).trans (Cg.of_eq (by simp)))
  show cv y (nth poly) i n + (if n ≤ i then y n * nth poly (i - n) else 0) = _
  rw [shn_at]
  split
  · rfl
  · simp
end
section
variable {F : FD}
theorem dig_sup (F : FD) (a : Int) : ∀ i, F.k ≤ i → nth (dig a F.p F.k) i = 0 := fun i hi => nth_big (by rw [dig_len]; exact hi)
theorem mul_digs (ok : F.Ok) (a b : Int) (j : Nat) : nth (dig (F.mul a b) F.p F.k) j = P F.p F.poly (fun m => cv (nth (dig a F.p F.k)) (nth (dig b F.p F.k)) m F.k) (2 * F.k) j := by
 have hp : 0 < F.p := by have := ok.p2; omega
 rw [FD.mul, mulF_dig hp ok.len, mulD, P]
 congr 2
 apply eq_of_nth (by rw [convTo_len, zeros_len, mk_len])
 intro m hm
 rw [convTo_len, zeros_len] at hm
 rw [dig_len, convTo_nth hp _ _ _ _ (by rw [dig_len]; omega) (by omega), mk_nth _ _ hm]
def xe (F : FD) (a : Int) : Int := num F.p ((List.range F.k).map fun (j : Nat) => ((if j = 0 then 0 else nth (dig a F.p F.k) (j - 1)) - nth (dig a F.p F.k) (F.k - 1) * nth F.poly j) % F.p)
theorem xe_inR (hp : 0 < F.p) (a : Int) : InR F.p ((List.range F.k).map fun (j : Nat) => ((if j = 0 then 0 else nth (dig a F.p F.k) (j - 1)) - nth (dig a F.p F.k) (F.k - 1) * nth F.poly j) % F.p) := by
 intro x hx
 obtain ⟨i, _, rfl⟩ := List.mem_map.1 hx
 exact emod_range hp _
theorem xe_el (hp : 0 < F.p) (a : Int) : F.el (xe F a) := by
 have h := num_bound hp (xe_inR hp a)
 simpa [xe, FD.el] using h
theorem xe_dig (hp : 0 < F.p) (a : Int) {j : Nat} (hj : j < F.k) : nth (dig (xe F a) F.p F.k) j = ((if j = 0 then 0 else nth (dig a F.p F.k) (j - 1)) - nth (dig a F.p F.k) (F.k - 1) * nth F.poly j) % F.p := by
 rw [xe, dig_num hp (xe_inR hp a) (by simp), nth_lt (by simpa using hj)]
 simp
theorem mul_el (ok : F.Ok) (a b : Int) : F.el (F.mul a b) := mulF_range (by have := ok.p2; omega) ok.len a b
theorem xe_cg (ok : F.Ok) (a : Int) (i : Nat) : Cg F.p (nth (dig (xe F a) F.p F.k) i) (shf (nth (dig a F.p F.k)) i + (-nth (dig a F.p F.k) (F.k - 1)) * nth F.poly i) := by
 have hk := ok.k1
 have shf_at : ∀ i, shf (nth (dig a F.p F.k)) i = if i = 0 then 0 else nth (dig a F.p F.k) (i - 1) := fun i => by cases i <;> rfl
 rw [shf_at]
 rcases Nat.lt_trichotomy i F.k with h | h | h
 · rw [xe_dig (by have := ok.p2; omega) a h]
   exact (Cg.emod _ _).trans (Cg.of_eq (by rw [Int.neg_mul]; omega))
 · subst h
   rw [dig_sup F _ _ (Nat.le_refl _), if_neg (by omega), ok.one]
   exact Cg.of_eq (by simp; omega)
 · rw [dig_sup F _ _ (by omega), if_neg (by omega), dig_sup F _ _ (by omega), nth_big (xs := F.poly) (by have := ok.len; omega)]
   exact Cg.of_eq (by simp)
theorem cv_shf (y x : Nat → Int) (n m : Nat) : cv y (shf x) m n = shf (fun m => cv y x m n) m := by
 rcases m with _ | m
 · refine sm_zero fun i _ => ?_
   by_cases h : i ≤ 0
   · rw [if_pos h, show 0 - i = 0 by omega]; simp [shf]
   · rw [if_neg h]
 · show cv y (shf x) (m + 1) n = cv y x m n
   refine sm_congr fun i _ => ?_
   by_cases h : i ≤ m
   · rw [if_pos h, if_pos (by omega), show m + 1 - i = (m - i) + 1 by omega]; rfl
   · by_cases h2 : i ≤ m + 1
     · rw [if_pos h2, if_neg h, show m + 1 - i = 0 by omega]; simp [shf]
     · rw [if_neg h2, if_neg h]
theorem cv_top {x y : Nat → Int} {n m : Nat} (hy : ∀ i, n ≤ i → y i = 0) (hm : 2 * n ≤ m + 1) (hn : 1 ≤ n) : cv x y m n = 0 :=
 sm_zero fun i hi => by
  by_cases h : i ≤ m
  · rw [if_pos h, hy _ (by omega), Int.mul_zero]
  · rw [if_neg h]
theorem xe_mul (ok : F.Ok) (a b : Int) : F.mul (xe F a) b = xe F (F.mul a b) := by
 have hp2 := ok.p2
 have hk := ok.k1
 refine dig_ext (by omega) (mul_el ok _ _) (xe_el (by omega) _) fun j hj => ?_
 rw [mul_digs ok, xe_dig (by omega) _ hj]
 refine Cg.trans ?_ (Cg.emod _ _).symm
 have hc : F.mul a b = F.mul b a := mulF_comm (by omega) a b
 rw [hc, mul_digs ok, mul_digs ok]
 generalize hX : nth (dig a F.p F.k) = X
 generalize hY : nth (dig b F.p F.k) = Y
 generalize hZ : nth (dig (xe F a) F.p F.k) = Z
 have sX : ∀ i, F.k ≤ i → X i = 0 := by rw [← hX]; exact dig_sup F a
 have sY : ∀ i, F.k ≤ i → Y i = 0 := by rw [← hY]; exact dig_sup F b
 have sZ : ∀ i, F.k ≤ i → Z i = 0 := by rw [← hZ]; exact dig_sup F _
 have cZ : ∀ i, Cg F.p (Z i) (shf X i + (-X (F.k - 1)) * nth F.poly i) := by rw [← hX, ← hZ]; exact xe_cg ok a
 -- a place more
 rw [← P_pad (L := 2 * F.k) (by omega) ok.len (by omega) (by rw [cv_top sY (by omega) hk]; simp) j]
 have e1 : ∀ m, Cg F.p (cv Z Y m F.k) (shf (fun m => cv Y X m F.k) m + (-X (F.k - 1)) * cv Y (nth F.poly) m F.k) := fun m => by
  rw [cv_comm sZ sY]
  refine (cv_cg (fun i => Cg.refl _ _) cZ).trans (Cg.of_eq ?_)
  rw [cv_lin, cv_shf]
 refine (P_lin ok.len (-X (F.k - 1)) (fun i _ => e1 i) j).trans ?_
 refine ((Cg.refl F.p _).add ((Cg.refl F.p _).mul (P_mult (by omega) ok.len hk ok.one Y F.k (by omega) j))).trans ?_
 rw [P_shf ok.len hk _ (by omega) hj]
 rw [Int.mul_zero, Int.add_zero]
 exact Cg.emod _ _
theorem mul_comm' (ok : F.Ok) (a b : Int) : F.mul a b = F.mul b a := mulF_comm (by have := ok.p2; omega) a b
theorem one_mul' (ok : F.Ok) {b : Int} (hb : F.el b) : F.mul 1 b = b := by
 have hp2 := ok.p2
 have hk := ok.k1
 refine dig_ext (by omega) (mul_el ok _ _) hb fun j hj => ?_
 rw [mul_digs ok]
 have e : ∀ m, cv (nth (dig 1 F.p F.k)) (nth (dig b F.p F.k)) m F.k = nth (dig b F.p F.k) m := fun m => by
  have d1 : ∀ i, i < F.k → nth (dig 1 F.p F.k) i = if i = 0 then 1 else 0 := fun i hi => by
   have := dig_pow (F := F) hp2 (j := 0) hi
   rwa [Int.pow_zero] at this
  obtain ⟨n, hn⟩ : ∃ n, F.k = n + 1 := ⟨F.k - 1, by omega⟩
  unfold cv
  rw [hn, sm_shift, ← hn, if_pos (Nat.zero_le _), d1 0 (by omega), if_pos rfl, Int.one_mul, Nat.sub_zero, sm_zero (fun i hi => by rw [d1 (i + 1) (by omega)]; simp), Int.add_zero]
 refine (P_cg ok.len (fun i _ => Cg.of_eq (e i)) j).trans ?_
 rw [P_self (by omega) ok.len (dig_sup F b) (by omega) hj]
 exact Cg.emod _ _
theorem mul_lin (ok : F.Ok) (a : Int) : Lin F (F.mul a) := fun s b c => mulF_lin (by have := ok.p2; omega) ok.len s a b c
theorem mul_lin' (ok : F.Ok) (b : Int) : Lin F (fun a => F.mul a b) := fun s a c => by
 show F.mul _ b = lin s F.p F.k (F.mul a b) (F.mul c b)
 rw [mul_comm' ok, mul_lin ok b s a c, mul_comm' ok b a, mul_comm' ok b c]
theorem Lin.comp {f g : Int → Int} (hf : Lin F f) (hg : Lin F g) : Lin F (fun a => f (g a)) := fun s a b => by
 show f (g _) = _
 rw [hg, hf]
theorem xe_pow (ok : F.Ok) {i : Nat} (hi : i + 1 < F.k) : xe F (F.p ^ i) = F.p ^ (i + 1) := by
 have hp2 := ok.p2
 have hlt : F.p ^ (i + 1) < F.p ^ F.k := by
  have h2 := pow_mono (p := F.p) (by omega) (show i + 1 + 1 ≤ F.k by omega)
  rw [Int.pow_succ] at h2
  have h3 : 0 < F.p ^ (i + 1) := Int.pow_pos (by omega)
  have h4 : F.p ^ (i + 1) * 2 ≤ F.p ^ (i + 1) * F.p := Int.mul_le_mul_of_nonneg_left hp2 (by omega)
  omega
 refine dig_ext (by omega) (xe_el (by omega) _) ⟨Int.pow_nonneg (by omega), hlt⟩ fun j hj => ?_
 have t1 := dig_pow (F := F) hp2 (j := i) (i := F.k - 1) (by omega)
 rw [if_neg (by omega)] at t1
 rw [xe_dig (by omega) _ hj, t1, dig_pow hp2 hj]
 rcases j with _ | j
 · rw [if_pos rfl, if_neg (by omega)]; exact Cg.of_eq (by simp)
 · rw [if_neg (by omega), Nat.add_sub_cancel, dig_pow hp2 (by omega)]
   refine (Cg.emod _ _).trans (Cg.of_eq ?_)
   by_cases h : j = i
   · rw [if_pos h, if_pos (by omega)]; simp
   · rw [if_neg h, if_neg (by omega)]; simp
theorem mul_assoc' (ok : F.Ok) {a b c : Int} (ha : F.el a) (hb : F.el b) : F.mul (F.mul a b) c = F.mul a (F.mul b c) := by
 have hp2 := ok.p2
 refine lin_ext (f := fun a => F.mul (F.mul a b) c) (g := fun a => F.mul a (F.mul b c)) hp2 (Lin.comp (mul_lin' ok c) (mul_lin' ok b)) (mul_lin' ok _) ?_ (fun i hi => ?_) ha
 · show F.mul (F.mul 0 b) c = F.mul 0 _
   rw [show F.mul 0 b = 0 from zero_mulF (by omega) ok.len b, show F.mul 0 c = 0 from zero_mulF (by omega) ok.len c, show F.mul 0 (F.mul b c) = 0 from zero_mulF (by omega) ok.len _]
 · show F.mul (F.mul (F.p ^ i) b) c = F.mul (F.p ^ i) (F.mul b c)
   induction i with
   | zero => rw [Int.pow_zero, one_mul' ok hb, one_mul' ok (mul_el ok b c)]
   | succ i ih =>
    rw [← xe_pow ok hi, xe_mul ok, xe_mul ok, xe_mul ok, ih (by omega)]
end
end Go.Proofs.YtkiljcbejmiioaaGreat
namespace Go.Proofs.YtkiljcbejmiioaaGreat
open Go.RowKit
def dN (p a i : Nat) : Nat := a / p ^ i % p
def smN (f : Nat → Nat) : Nat → Nat
 | 0 => 0
 | n + 1 => smN f n + f n
def cvN (x y : Nat → Nat) (m n : Nat) : Nat := smN (fun i => if i ≤ m then x i * y (m - i) else 0) n
def polyN (p k N i : Nat) : Nat := if i = k then 1 else dN p N i
def invTab : List (Nat × Nat × Nat × List (Nat × Nat)) := [
 (2, 1, 0, [(0, 0), (1, 0)]),
 (2, 2, 3, [(0, 0), (1, 0), (3, 1), (2, 1)]),
 (2, 3, 3, [(0, 0), (1, 0), (5, 1), (6, 1), (7, 3), (2, 1), (3, 1), (4, 3)]),
 (2, 3, 5, [(0, 0), (1, 0), (6, 1), (4, 1), (3, 1), (7, 2), (2, 1), (5, 2)]),
 (2, 4, 3, [(0, 0), (1, 0), (9, 1), (14, 1), (13, 3), (11, 2), (7, 1), (6, 1), (15, 7), (2, 1), (12, 7), (5, 2), (10, 7), (4, 3), (3, 1), (8, 7)]),
 (2, 4, 9, [(0, 0), (1, 0), (12, 1), (8, 1), (6, 1), (15, 2), (4, 1), (14, 3), (3, 1), (13, 4), (11, 7), (10, 7), (2, 1), (9, 4), (7, 3), (5, 2)]),
 (2, 4, 15, [(0, 0), (1, 0), (15, 1), (10, 1), (8, 3), (6, 1), (5, 1), (9, 2), (4, 3), (7, 2), (3, 1), (14, 5), (13, 7), (12, 7), (11, 5), (2, 1)]),
 (2, 5, 5, [(0, 0), (1, 0), (18, 1), (28, 1), (9, 1), (23, 2), (14, 1), (12, 1), (22, 5), (4, 1), (25, 7), (16, 5), (7, 1), (15, 2), (6, 1), (13, 2), (11, 5), (24, 13), (2, 1), (29, 14), (30, 13), (26, 15), (8, 5), (5, 2), (17, 13), (10, 7), (21, 15), (31, 8), (3, 1), (19, 14), (20, 13), (27, 8)]),
 (2, 5, 9, [(0, 0), (1, 0), (20, 1), (24, 1), (10, 1), (8, 1), (12, 1), (29, 2), (5, 1), (11, 2), (4, 1), (9, 2), (6, 1), (28, 5), (26, 5), (31, 4), (22, 9), (18, 11), (17, 11), (23, 8), (2, 1), (25, 12), (16, 9), (19, 8), (3, 1), (21, 12), (14, 5), (30, 11), (13, 5), (7, 2), (27, 11), (15, 4)]),
 (2, 5, 15, [(0, 0), (1, 0), (23, 1), (26, 1), (28, 3), (19, 2), (13, 1), (16, 3), (14, 3), (21, 4), (30, 7), (25, 6), (17, 7), (6, 1), (8, 3), (20, 7), (7, 3), (12, 7), (29, 13), (5, 2), (15, 7), (9, 4), (27, 13), (2, 1), (31, 11), (11, 6), (3, 1), (22, 13), (4, 3), (18, 13), (10, 7), (24, 11)]),
 (2, 5, 23, [(0, 0), (1, 0), (27, 1), (18, 1), (22, 3), (14, 1), (9, 1), (10, 1), (11, 3), (6, 1), (7, 1), (8, 3), (31, 7), (17, 4), (5, 1), (23, 4), (30, 11), (13, 4), (3, 1), (26, 9), (24, 11), (29, 8), (4, 3), (15, 4), (20, 11), (28, 15), (19, 9), (2, 1), (25, 15), (21, 8), (16, 11), (12, 7)]),
 (2, 5, 27, [(0, 0), (1, 0), (29, 1), (22, 1), (19, 3), (27, 2), (11, 1), (17, 2), (20, 7), (15, 2), (16, 7), (6, 1), (24, 7), (31, 6), (21, 5), (9, 2), (10, 7), (7, 2), (26, 11), (4, 3), (8, 7), (14, 5), (3, 1), (28, 11), (12, 7), (30, 13), (18, 11), (5, 2), (23, 11), (2, 1), (25, 13), (13, 6)]),
 (2, 5, 29, [(0, 0), (1, 0), (30, 1), (20, 1), (15, 1), (12, 1), (10, 1), (26, 3), (25, 5), (29, 4), (6, 1), (27, 4), (5, 1), (14, 3), (13, 3), (4, 1), (18, 13), (23, 14), (16, 13), (22, 15), (3, 1), (31, 10), (19, 15), (17, 14), (28, 13), (8, 5), (7, 3), (11, 4), (24, 13), (9, 4), (2, 1), (21, 10)]),
 (2, 6, 3, [(0, 0), (1, 0), (33, 1), (62, 1), (49, 3), (43, 2), (31, 1), (44, 3), (57, 7), (37, 4), (52, 7), (28, 3), (46, 7), (40, 7), (22, 3), (25, 2), (61, 15), (54, 13), (51, 13), (39, 8), (26, 7), (35, 10), (14, 3), (24, 7), (23, 7), (15, 2), (20, 7), (34, 13), (11, 3), (53, 8), (45, 13), (6, 1), (63, 31), (2, 1), (27, 13), (21, 10), (56, 31), (9, 4), (50, 27), (19, 8), (13, 7), (47, 18), (48, 31), (5, 2), (7, 3), (30, 13), (12, 7), (41, 18), (42, 31), (4, 3), (38, 27), (18, 13), (10, 7), (29, 8), (17, 13), (60, 19), (36, 31), (8, 7), (59, 21), (58, 21), (55, 19), (16, 15), (3, 1), (32, 31)]),
 (2, 6, 9, [(0, 0), (1, 0), (36, 1), (56, 1), (18, 1), (47, 2), (28, 1), (24, 1), (9, 1), (8, 1), (51, 7), (43, 4), (14, 1), (35, 6), (12, 1), (34, 7), (32, 9), (30, 7), (4, 1), (46, 11), (61, 13), (45, 8), (49, 15), (38, 11), (7, 1), (29, 4), (53, 11), (63, 8), (6, 1), (25, 4), (17, 7), (33, 14), (16, 9), (31, 14), (15, 7), (13, 6), (2, 1), (57, 28), (23, 11), (48, 25), (58, 25), (55, 30), (50, 29), (11, 4), (60, 25), (21, 8), (19, 11), (5, 2), (39, 25), (22, 15), (42, 29), (10, 7), (62, 17), (26, 11), (59, 19), (41, 30), (3, 1), (37, 28), (40, 25), (54, 19), (44, 25), (20, 13), (52, 17), (27, 8)]),
 (2, 6, 23, [(0, 0), (1, 0), (43, 1), (50, 1), (62, 3), (35, 2), (25, 1), (57, 2), (31, 3), (23, 2), (58, 7), (60, 7), (39, 7), (27, 2), (55, 5), (44, 7), (36, 11), (41, 8), (32, 11), (52, 15), (29, 7), (49, 12), (30, 7), (9, 2), (56, 11), (6, 1), (38, 15), (13, 2), (48, 11), (20, 7), (22, 7), (8, 3), (18, 11), (53, 28), (63, 25), (5, 2), (16, 11), (40, 19), (26, 15), (12, 7), (37, 19), (17, 8), (51, 25), (2, 1), (15, 7), (54, 25), (47, 21), (46, 21), (28, 11), (21, 12), (3, 1), (42, 25), (19, 15), (33, 28), (45, 25), (14, 5), (24, 11), (7, 2), (10, 7), (61, 18), (11, 7), (59, 18), (4, 3), (34, 25)]),
 (2, 6, 27, [(0, 0), (1, 0), (45, 1), (54, 1), (59, 3), (18, 1), (27, 1), (30, 1), (48, 7), (10, 1), (9, 1), (49, 6), (32, 7), (62, 5), (15, 1), (14, 1), (24, 7), (51, 14), (5, 1), (58, 13), (41, 11), (56, 15), (53, 13), (35, 8), (16, 7), (50, 9), (31, 5), (6, 1), (42, 15), (38, 13), (7, 1), (26, 5), (12, 7), (63, 26), (52, 31), (23, 8), (47, 19), (61, 24), (29, 13), (43, 16), (57, 31), (20, 11), (28, 15), (39, 16), (55, 27), (2, 1), (60, 31), (36, 19), (8, 7), (11, 6), (25, 9), (17, 14), (34, 31), (22, 13), (3, 1), (44, 27), (21, 15), (40, 31), (19, 13), (4, 3), (46, 31), (37, 24), (13, 5), (33, 26)]),
 (2, 6, 33, [(0, 0), (1, 0), (48, 1), (32, 1), (24, 1), (63, 2), (16, 1), (45, 2), (12, 1), (27, 2), (47, 7), (37, 6), (8, 1), (26, 3), (38, 5), (21, 2), (6, 1), (44, 13), (61, 11), (28, 5), (39, 13), (15, 2), (34, 13), (41, 14), (4, 1), (62, 15), (13, 3), (9, 2), (19, 5), (60, 13), (58, 13), (50, 15), (3, 1), (49, 16), (22, 13), (40, 25), (46, 25), (11, 6), (14, 5), (20, 13), (35, 25), (23, 14), (55, 23), (53, 22), (17, 13), (7, 2), (36, 25), (10, 7), (2, 1), (33, 16), (31, 15), (59, 28), (54, 25), (43, 22), (52, 25), (42, 23), (57, 25), (56, 25), (30, 13), (51, 28), (29, 13), (18, 11), (25, 15), (5, 2)]),
 (2, 6, 39, [(0, 0), (1, 0), (51, 1), (34, 1), (42, 3), (30, 1), (17, 1), (56, 3), (21, 3), (53, 4), (15, 1), (29, 2), (59, 7), (55, 6), (28, 3), (10, 1), (57, 11), (6, 1), (41, 13), (27, 4), (52, 11), (8, 3), (61, 9), (48, 11), (46, 11), (33, 8), (40, 11), (19, 4), (14, 3), (11, 2), (5, 1), (43, 8), (47, 27), (25, 8), (3, 1), (50, 17), (39, 31), (63, 22), (62, 23), (36, 31), (26, 11), (18, 13), (4, 3), (31, 8), (45, 31), (44, 31), (24, 11), (32, 27), (23, 11), (60, 31), (35, 17), (2, 1), (20, 11), (9, 4), (58, 31), (13, 6), (7, 3), (16, 11), (54, 31), (12, 7), (49, 31), (22, 9), (38, 23), (37, 22)]),
 (2, 6, 45, [(0, 0), (1, 0), (54, 1), (36, 1), (27, 1), (28, 1), (18, 1), (20, 1), (59, 5), (12, 1), (14, 1), (46, 7), (9, 1), (58, 7), (10, 1), (47, 4), (43, 13), (62, 11), (6, 1), (21, 6), (7, 1), (19, 6), (23, 7), (22, 7), (50, 13), (48, 13), (29, 7), (4, 1), (5, 1), (26, 7), (33, 11), (34, 11), (35, 29), (30, 11), (31, 11), (32, 29), (3, 1), (55, 18), (60, 21), (45, 26), (53, 21), (57, 16), (63, 19), (16, 13), (61, 17), (39, 26), (11, 7), (15, 4), (25, 13), (51, 26), (24, 13), (49, 26), (56, 29), (40, 21), (2, 1), (37, 18), (52, 29), (41, 16), (13, 7), (8, 5), (38, 21), (44, 17), (17, 11), (42, 19)]),
 (2, 6, 51, [(0, 0), (1, 0), (57, 1), (46, 1), (37, 3), (26, 1), (23, 1), (33, 2), (43, 7), (31, 2), (13, 1), (51, 4), (50, 7), (10, 1), (41, 5), (39, 4), (44, 15), (29, 4), (54, 11), (35, 12), (63, 11), (60, 11), (32, 15), (6, 1), (25, 7), (24, 7), (5, 1), (36, 11), (45, 11), (17, 4), (42, 11), (9, 2), (22, 15), (7, 2), (55, 21), (19, 12), (27, 11), (4, 3), (40, 31), (15, 4), (38, 31), (14, 5), (30, 11), (8, 7), (16, 15), (28, 11), (3, 1), (56, 23), (53, 31), (58, 25), (12, 7), (11, 4), (59, 27), (48, 31), (18, 11), (34, 21), (47, 23), (2, 1), (49, 25), (52, 27), (21, 11), (62, 29), (61, 29), (20, 11)]),
 (2, 6, 53, [(0, 0), (1, 0), (58, 1), (44, 1), (29, 1), (55, 2), (22, 1), (50, 3), (52, 5), (61, 4), (33, 7), (12, 1), (11, 1), (32, 5), (25, 3), (62, 7), (26, 5), (57, 8), (36, 13), (49, 10), (42, 13), (40, 13), (6, 1), (51, 8), (63, 13), (14, 3), (16, 5), (56, 13), (54, 13), (4, 1), (31, 7), (30, 7), (13, 5), (10, 7), (38, 25), (46, 31), (18, 13), (48, 21), (34, 25), (47, 28), (21, 13), (43, 26), (20, 13), (41, 26), (3, 1), (59, 22), (35, 31), (39, 28), (37, 21), (19, 10), (7, 3), (23, 8), (8, 5), (60, 25), (28, 13), (5, 2), (27, 13), (17, 8), (2, 1), (45, 22), (53, 25), (9, 4), (15, 7), (24, 13)]),
 (3, 1, 0, [(0, 0), (1, 0), (2, 0)]),
 (3, 2, 1, [(0, 0), (1, 0), (2, 0), (6, 2), (5, 1), (4, 1), (3, 2), (8, 1), (7, 1)]),
 (3, 2, 5, [(0, 0), (1, 0), (2, 0), (4, 1), (3, 1), (7, 2), (8, 1), (5, 2), (6, 1)]),
 (3, 2, 8, [(0, 0), (1, 0), (2, 0), (5, 1), (8, 2), (3, 1), (7, 1), (6, 1), (4, 2)]),
 (3, 3, 7, [(0, 0), (1, 0), (2, 0), (19, 2), (21, 2), (24, 2), (11, 2), (12, 2), (15, 2), (25, 8), (23, 7), (6, 2), (7, 2), (22, 6), (18, 8), (8, 2), (20, 7), (26, 6), (14, 8), (3, 2), (16, 7), (4, 2), (13, 6), (10, 7), (5, 2), (9, 8), (17, 6)]),
 (3, 3, 8, [(0, 0), (1, 0), (2, 0), (11, 1), (15, 1), (12, 1), (19, 1), (24, 1), (21, 1), (22, 7), (26, 8), (3, 1), (5, 1), (20, 8), (23, 6), (4, 1), (25, 6), (18, 7), (17, 7), (6, 1), (13, 8), (8, 1), (9, 7), (14, 6), (7, 1), (16, 6), (10, 8)]),
 (3, 3, 11, [(0, 0), (1, 0), (2, 0), (12, 1), (9, 1), (22, 2), (24, 1), (17, 2), (18, 1), (4, 1), (15, 4), (26, 6), (3, 1), (19, 6), (16, 5), (10, 4), (14, 5), (7, 2), (8, 1), (13, 6), (21, 4), (20, 4), (5, 2), (25, 5), (6, 1), (23, 5), (11, 6)]),
 (3, 3, 14, [(0, 0), (1, 0), (2, 0), (13, 1), (20, 2), (15, 1), (26, 1), (21, 1), (10, 2), (17, 4), (8, 2), (14, 3), (23, 7), (3, 1), (11, 3), (5, 1), (24, 7), (9, 4), (22, 4), (25, 3), (4, 2), (7, 1), (18, 4), (12, 7), (16, 7), (19, 3), (6, 1)]),
 (3, 3, 16, [(0, 0), (1, 0), (2, 0), (25, 2), (11, 1), (16, 1), (14, 2), (23, 1), (19, 1), (21, 8), (13, 3), (4, 1), (17, 5), (10, 3), (6, 2), (18, 8), (5, 1), (12, 5), (15, 8), (8, 1), (26, 3), (9, 8), (24, 5), (7, 1), (22, 5), (3, 2), (20, 3)]),
 (3, 3, 19, [(0, 0), (1, 0), (2, 0), (21, 2), (14, 1), (18, 2), (15, 2), (9, 2), (25, 1), (7, 2), (12, 5), (23, 6), (10, 5), (17, 4), (4, 1), (6, 2), (19, 6), (13, 4), (5, 2), (16, 6), (24, 5), (3, 2), (26, 4), (11, 6), (20, 5), (8, 1), (22, 4)]),
 (3, 3, 22, [(0, 0), (1, 0), (2, 0), (23, 2), (24, 2), (10, 1), (16, 2), (20, 1), (12, 2), (14, 5), (5, 1), (17, 3), (8, 2), (21, 8), (9, 5), (26, 8), (6, 2), (11, 3), (25, 5), (22, 3), (7, 1), (13, 8), (19, 3), (3, 2), (4, 2), (18, 5), (15, 8)]),
 (3, 3, 26, [(0, 0), (1, 0), (2, 0), (17, 1), (26, 2), (19, 2), (22, 1), (11, 2), (13, 2), (24, 7), (16, 3), (7, 2), (18, 7), (8, 2), (15, 4), (14, 4), (10, 3), (3, 1), (12, 7), (5, 2), (23, 3), (25, 4), (6, 1), (20, 3), (9, 7), (21, 4), (4, 2)]),
 (5, 1, 0, [(0, 0), (1, 0), (3, 0), (2, 0), (4, 0)]),
 (5, 2, 2, [(0, 0), (1, 0), (3, 0), (2, 0), (4, 0), (10, 2), (17, 3), (22, 4), (23, 4), (18, 3), (5, 2), (14, 4), (21, 3), (24, 3), (11, 4), (20, 2), (19, 4), (6, 3), (9, 3), (16, 4), (15, 2), (12, 3), (7, 4), (8, 4), (13, 3)]),
 (5, 2, 3, [(0, 0), (1, 0), (3, 0), (2, 0), (4, 0), (15, 3), (9, 1), (11, 2), (14, 2), (6, 1), (20, 3), (7, 2), (17, 1), (18, 1), (8, 2), (5, 3), (22, 2), (12, 1), (13, 1), (23, 2), (10, 3), (24, 1), (16, 2), (19, 2), (21, 1)]),
 (5, 2, 6, [(0, 0), (1, 0), (3, 0), (2, 0), (4, 0), (24, 4), (20, 4), (17, 3), (11, 2), (16, 3), (12, 4), (8, 2), (10, 4), (23, 3), (21, 3), (18, 4), (9, 3), (7, 3), (15, 4), (22, 2), (6, 4), (14, 3), (19, 2), (13, 3), (5, 4)]),
 (5, 2, 7, [(0, 0), (1, 0), (3, 0), (2, 0), (4, 0), (12, 2), (10, 2), (9, 1), (19, 3), (7, 1), (6, 2), (22, 3), (5, 2), (16, 1), (17, 1), (24, 2), (13, 1), (14, 1), (20, 2), (8, 3), (18, 2), (23, 1), (11, 3), (21, 1), (15, 2)]),
 (5, 2, 13, [(0, 0), (1, 0), (3, 0), (2, 0), (4, 0), (16, 3), (12, 2), (15, 3), (21, 4), (22, 4), (23, 3), (13, 4), (6, 2), (11, 4), (20, 3), (7, 3), (5, 3), (19, 4), (24, 2), (17, 4), (14, 3), (8, 4), (9, 4), (10, 3), (18, 2)]),
 (5, 2, 14, [(0, 0), (1, 0), (3, 0), (2, 0), (4, 0), (7, 1), (18, 3), (5, 1), (13, 2), (11, 2), (16, 1), (9, 2), (24, 3), (8, 2), (15, 1), (14, 1), (10, 1), (22, 2), (6, 3), (21, 2), (23, 1), (19, 2), (17, 2), (20, 1), (12, 3)]),
 (5, 2, 18, [(0, 0), (1, 0), (3, 0), (2, 0), (4, 0), (19, 3), (23, 4), (24, 4), (15, 3), (13, 2), (22, 3), (20, 3), (14, 4), (9, 2), (12, 4), (8, 3), (18, 4), (21, 2), (16, 4), (5, 3), (11, 3), (17, 2), (10, 3), (6, 4), (7, 4)]),
 (5, 2, 19, [(0, 0), (1, 0), (3, 0), (2, 0), (4, 0), (8, 1), (14, 2), (12, 2), (5, 1), (17, 3), (19, 1), (15, 1), (7, 2), (21, 3), (6, 2), (11, 1), (24, 2), (9, 3), (23, 2), (10, 1), (22, 1), (13, 3), (20, 1), (18, 2), (16, 2)]),
 (5, 2, 21, [(0, 0), (1, 0), (3, 0), (2, 0), (4, 0), (21, 4), (19, 3), (14, 2), (18, 3), (20, 4), (13, 4), (24, 3), (22, 3), (10, 4), (7, 2), (17, 4), (23, 2), (15, 4), (8, 3), (6, 3), (9, 4), (5, 4), (12, 3), (16, 2), (11, 3)]),
 (5, 2, 22, [(0, 0), (1, 0), (3, 0), (2, 0), (4, 0), (13, 2), (8, 1), (16, 3), (6, 1), (10, 2), (9, 2), (18, 1), (19, 1), (5, 2), (23, 3), (21, 2), (7, 3), (20, 2), (11, 1), (12, 1), (17, 2), (15, 2), (24, 1), (14, 3), (22, 1)]),
 (7, 1, 0, [(0, 0), (1, 0), (4, 0), (5, 0), (2, 0), (3, 0), (6, 0)]),
 (7, 2, 1, [(0, 0), (1, 0), (4, 0), (5, 0), (2, 0), (3, 0), (6, 0), (42, 6), (25, 3), (34, 4), (15, 2), (20, 2), (29, 4), (24, 3), (21, 6), (10, 2), (37, 3), (18, 4), (17, 4), (40, 3), (11, 2), (14, 6), (47, 4), (26, 2), (13, 3), (8, 3), (23, 2), (44, 4), (35, 6), (12, 4), (33, 2), (48, 3), (43, 3), (30, 2), (9, 4), (28, 6), (45, 2), (16, 3), (39, 4), (38, 4), (19, 3), (46, 2), (7, 6), (32, 3), (27, 4), (36, 2), (41, 2), (22, 4), (31, 3)]),
 (7, 2, 2, [(0, 0), (1, 0), (4, 0), (5, 0), (2, 0), (3, 0), (6, 0), (21, 3), (19, 2), (12, 1), (41, 5), (36, 5), (9, 1), (16, 2), (35, 3), (46, 5), (13, 2), (29, 1), (34, 1), (8, 2), (45, 5), (7, 3), (38, 1), (30, 5), (25, 2), (24, 2), (33, 5), (39, 1), (42, 3), (17, 1), (23, 5), (32, 2), (31, 2), (26, 5), (18, 1), (14, 3), (11, 5), (48, 2), (22, 1), (27, 1), (43, 2), (10, 5), (28, 3), (40, 2), (47, 1), (20, 5), (15, 5), (44, 1), (37, 2)]),
 (7, 2, 4, [(0, 0), (1, 0), (4, 0), (5, 0), (2, 0), (3, 0), (6, 0), (35, 5), (31, 4), (44, 6), (11, 1), (10, 1), (47, 6), (32, 4), (42, 5), (33, 1), (19, 4), (27, 6), (22, 6), (16, 4), (30, 1), (28, 5), (18, 6), (41, 1), (43, 4), (48, 4), (36, 1), (17, 6), (21, 5), (39, 6), (20, 1), (8, 4), (13, 4), (15, 1), (38, 6), (7, 5), (26, 1), (40, 4), (34, 6), (29, 6), (37, 4), (23, 1), (14, 5), (24, 4), (9, 6), (46, 1), (45, 1), (12, 6), (25, 4)]),
 (7, 2, 10, [(0, 0), (1, 0), (4, 0), (5, 0), (2, 0), (3, 0), (6, 0), (16, 2), (14, 2), (31, 4), (22, 3), (45, 6), (23, 3), (29, 4), (8, 2), (26, 6), (7, 2), (36, 3), (19, 4), (18, 4), (39, 3), (24, 2), (10, 3), (12, 3), (21, 2), (47, 4), (15, 6), (43, 4), (32, 2), (13, 4), (41, 6), (9, 4), (28, 2), (44, 3), (46, 3), (48, 2), (17, 3), (38, 4), (37, 4), (20, 3), (42, 2), (30, 6), (40, 2), (27, 4), (33, 3), (11, 6), (34, 3), (25, 4), (35, 2)]),
 (7, 2, 11, [(0, 0), (1, 0), (4, 0), (5, 0), (2, 0), (3, 0), (6, 0), (40, 5), (35, 5), (13, 1), (17, 2), (26, 3), (20, 2), (9, 1), (48, 5), (41, 3), (42, 5), (10, 2), (31, 1), (29, 1), (12, 2), (32, 5), (23, 2), (22, 2), (28, 5), (38, 1), (11, 3), (37, 1), (24, 5), (19, 1), (45, 3), (18, 1), (21, 5), (34, 2), (33, 2), (8, 5), (44, 2), (27, 1), (25, 1), (46, 2), (7, 5), (15, 3), (16, 5), (47, 1), (36, 2), (30, 3), (39, 2), (43, 1), (14, 5)]),
 (7, 2, 13, [(0, 0), (1, 0), (4, 0), (5, 0), (2, 0), (3, 0), (6, 0), (8, 1), (7, 1), (43, 6), (34, 4), (41, 5), (33, 4), (47, 6), (32, 1), (45, 5), (28, 1), (20, 4), (25, 6), (27, 6), (17, 4), (40, 1), (46, 4), (44, 4), (35, 1), (18, 6), (30, 5), (19, 6), (16, 1), (37, 6), (26, 5), (38, 6), (14, 1), (12, 4), (10, 4), (24, 1), (39, 4), (29, 6), (31, 6), (36, 4), (21, 1), (11, 5), (48, 1), (9, 6), (23, 4), (15, 5), (22, 4), (13, 6), (42, 1)]),
 (7, 2, 16, [(0, 0), (1, 0), (4, 0), (5, 0), (2, 0), (3, 0), (6, 0), (27, 3), (48, 6), (21, 3), (31, 4), (17, 2), (15, 2), (33, 4), (38, 3), (12, 2), (24, 6), (11, 2), (35, 3), (20, 4), (19, 4), (9, 3), (26, 2), (43, 4), (16, 6), (46, 4), (22, 2), (7, 3), (47, 3), (42, 3), (34, 2), (10, 4), (40, 6), (13, 4), (30, 2), (18, 3), (37, 4), (36, 4), (14, 3), (45, 2), (32, 6), (44, 2), (29, 3), (23, 4), (41, 2), (39, 2), (25, 4), (28, 3), (8, 6)]),
 (7, 2, 17, [(0, 0), (1, 0), (4, 0), (5, 0), (2, 0), (3, 0), (6, 0), (18, 2), (24, 3), (14, 2), (13, 1), (39, 5), (41, 5), (10, 1), (9, 2), (44, 5), (40, 3), (45, 5), (7, 2), (33, 1), (31, 1), (27, 2), (30, 5), (37, 1), (8, 3), (36, 1), (34, 5), (21, 2), (29, 2), (28, 2), (22, 5), (20, 1), (48, 3), (19, 1), (26, 5), (47, 2), (25, 1), (23, 1), (42, 2), (11, 5), (16, 3), (12, 5), (38, 2), (46, 1), (15, 5), (17, 5), (43, 1), (35, 2), (32, 3)]),
 (7, 2, 19, [(0, 0), (1, 0), (4, 0), (5, 0), (2, 0), (3, 0), (6, 0), (29, 4), (40, 5), (28, 4), (43, 6), (12, 1), (11, 1), (46, 6), (18, 4), (34, 1), (48, 5), (30, 1), (14, 4), (23, 6), (25, 6), (47, 4), (41, 1), (19, 6), (32, 5), (20, 6), (39, 1), (42, 4), (9, 4), (7, 4), (17, 1), (36, 6), (24, 5), (37, 6), (15, 1), (38, 4), (31, 6), (33, 6), (35, 4), (26, 1), (8, 5), (22, 1), (27, 4), (10, 6), (45, 1), (44, 1), (13, 6), (21, 4), (16, 5)]),
 (7, 2, 22, [(0, 0), (1, 0), (4, 0), (5, 0), (2, 0), (3, 0), (6, 0), (46, 6), (9, 1), (8, 1), (42, 6), (31, 4), (39, 5), (30, 4), (23, 6), (19, 4), (29, 1), (44, 5), (32, 1), (15, 4), (21, 6), (20, 6), (34, 5), (14, 6), (38, 1), (45, 4), (43, 4), (40, 1), (36, 6), (16, 1), (13, 4), (11, 4), (18, 1), (35, 6), (22, 5), (33, 6), (28, 6), (41, 4), (24, 1), (12, 5), (27, 1), (37, 4), (10, 6), (26, 4), (17, 5), (25, 4), (7, 6), (48, 1), (47, 1)]),
 (7, 2, 26, [(0, 0), (1, 0), (4, 0), (5, 0), (2, 0), (3, 0), (6, 0), (33, 4), (18, 2), (16, 2), (28, 4), (25, 3), (44, 6), (26, 3), (20, 4), (37, 3), (9, 2), (22, 6), (8, 2), (41, 3), (14, 4), (46, 4), (17, 6), (42, 4), (27, 2), (11, 3), (13, 3), (24, 2), (10, 4), (32, 2), (43, 3), (45, 3), (29, 2), (7, 4), (39, 6), (36, 4), (35, 4), (15, 3), (48, 2), (34, 6), (47, 2), (19, 3), (23, 4), (30, 3), (12, 6), (31, 3), (21, 4), (40, 2), (38, 2)]),
 (7, 2, 27, [(0, 0), (1, 0), (4, 0), (5, 0), (2, 0), (3, 0), (6, 0), (10, 1), (38, 5), (40, 5), (7, 1), (19, 2), (22, 3), (15, 2), (33, 1), (13, 2), (47, 5), (39, 3), (48, 5), (11, 2), (28, 1), (36, 1), (12, 3), (35, 1), (29, 5), (26, 2), (25, 2), (32, 5), (20, 1), (24, 5), (31, 2), (30, 2), (27, 5), (14, 1), (44, 3), (23, 1), (21, 1), (45, 2), (8, 5), (17, 3), (9, 5), (43, 2), (46, 1), (41, 2), (34, 3), (37, 2), (42, 1), (16, 5), (18, 5)]),
 (7, 2, 29, [(0, 0), (1, 0), (4, 0), (5, 0), (2, 0), (3, 0), (6, 0), (45, 6), (33, 4), (38, 5), (32, 4), (42, 6), (13, 1), (12, 1), (26, 6), (21, 6), (20, 4), (31, 1), (47, 5), (34, 1), (16, 4), (15, 6), (37, 1), (48, 4), (46, 4), (39, 1), (14, 6), (29, 5), (41, 6), (27, 5), (35, 6), (17, 1), (10, 4), (8, 4), (19, 1), (30, 6), (40, 4), (22, 1), (9, 5), (25, 1), (36, 4), (28, 6), (11, 6), (44, 1), (43, 1), (7, 6), (24, 4), (18, 5), (23, 4)]),
 (7, 2, 33, [(0, 0), (1, 0), (4, 0), (5, 0), (2, 0), (3, 0), (6, 0), (30, 4), (23, 3), (47, 6), (24, 3), (28, 4), (19, 2), (17, 2), (15, 4), (14, 4), (36, 3), (13, 2), (27, 6), (12, 2), (40, 3), (45, 4), (25, 2), (8, 3), (10, 3), (22, 2), (42, 4), (18, 6), (11, 4), (38, 6), (7, 4), (34, 2), (46, 3), (48, 3), (31, 2), (41, 4), (16, 3), (44, 2), (29, 6), (43, 2), (20, 3), (35, 4), (26, 4), (39, 2), (37, 2), (21, 4), (32, 3), (9, 6), (33, 3)]),
 (7, 2, 34, [(0, 0), (1, 0), (4, 0), (5, 0), (2, 0), (3, 0), (6, 0), (11, 1), (20, 2), (27, 3), (16, 2), (7, 1), (37, 5), (39, 5), (30, 1), (28, 1), (10, 2), (43, 5), (38, 3), (44, 5), (8, 2), (41, 1), (31, 5), (24, 2), (23, 2), (34, 5), (35, 1), (9, 3), (15, 1), (47, 3), (14, 1), (22, 5), (33, 2), (32, 2), (25, 5), (26, 1), (48, 2), (12, 5), (18, 3), (13, 5), (46, 2), (21, 1), (45, 1), (17, 5), (19, 5), (42, 1), (40, 2), (29, 3), (36, 2)]),
 (7, 2, 37, [(0, 0), (1, 0), (4, 0), (5, 0), (2, 0), (3, 0), (6, 0), (22, 3), (30, 4), (20, 2), (18, 2), (32, 4), (21, 3), (43, 6), (39, 3), (16, 4), (15, 4), (35, 3), (10, 2), (25, 6), (9, 2), (12, 3), (7, 3), (27, 2), (45, 4), (19, 6), (48, 4), (23, 2), (44, 3), (33, 2), (8, 4), (37, 6), (11, 4), (29, 2), (42, 3), (17, 3), (47, 2), (31, 6), (46, 2), (14, 3), (41, 4), (40, 4), (34, 3), (13, 6), (28, 3), (24, 4), (38, 2), (36, 2), (26, 4)]),
 (7, 2, 38, [(0, 0), (1, 0), (4, 0), (5, 0), (2, 0), (3, 0), (6, 0), (17, 2), (11, 1), (36, 5), (38, 5), (8, 1), (14, 2), (25, 3), (12, 2), (32, 1), (30, 1), (7, 2), (46, 5), (37, 3), (47, 5), (22, 2), (21, 2), (29, 5), (41, 1), (13, 3), (40, 1), (33, 5), (34, 2), (23, 5), (16, 1), (43, 3), (15, 1), (27, 5), (28, 2), (44, 2), (9, 5), (19, 3), (10, 5), (42, 2), (26, 1), (24, 1), (39, 2), (31, 3), (35, 2), (48, 1), (18, 5), (20, 5), (45, 1)]),
 (7, 2, 40, [(0, 0), (1, 0), (4, 0), (5, 0), (2, 0), (3, 0), (6, 0), (34, 4), (45, 6), (10, 1), (9, 1), (48, 6), (28, 4), (37, 5), (17, 4), (24, 6), (26, 6), (14, 4), (33, 1), (43, 5), (29, 1), (44, 4), (42, 4), (38, 1), (15, 6), (31, 5), (16, 6), (36, 1), (12, 4), (20, 1), (40, 6), (25, 5), (41, 6), (18, 1), (7, 4), (39, 4), (27, 1), (13, 5), (23, 1), (35, 4), (30, 6), (32, 6), (22, 4), (19, 5), (21, 4), (8, 6), (47, 1), (46, 1), (11, 6)]),
 (7, 2, 45, [(0, 0), (1, 0), (4, 0), (5, 0), (2, 0), (3, 0), (6, 0), (19, 2), (34, 4), (26, 3), (46, 6), (27, 3), (32, 4), (14, 2), (13, 2), (38, 3), (17, 4), (16, 4), (41, 3), (7, 2), (23, 6), (25, 2), (48, 4), (20, 6), (44, 4), (21, 2), (9, 3), (11, 3), (31, 2), (45, 3), (47, 3), (28, 2), (12, 4), (36, 6), (8, 4), (43, 2), (33, 6), (42, 2), (15, 3), (40, 4), (39, 4), (18, 3), (37, 2), (35, 2), (24, 4), (29, 3), (10, 6), (30, 3), (22, 4)]),
 (7, 2, 46, [(0, 0), (1, 0), (4, 0), (5, 0), (2, 0), (3, 0), (6, 0), (37, 5), (12, 1), (15, 2), (23, 3), (18, 2), (8, 1), (35, 5), (43, 5), (9, 2), (34, 1), (32, 1), (11, 2), (42, 5), (36, 3), (31, 5), (40, 1), (10, 3), (39, 1), (28, 5), (27, 2), (26, 2), (25, 5), (30, 2), (29, 2), (21, 5), (17, 1), (46, 3), (16, 1), (13, 5), (20, 3), (7, 5), (45, 2), (24, 1), (22, 1), (47, 2), (19, 5), (14, 5), (48, 1), (38, 2), (33, 3), (41, 2), (44, 1)]),
 (7, 2, 48, [(0, 0), (1, 0), (4, 0), (5, 0), (2, 0), (3, 0), (6, 0), (13, 1), (44, 6), (30, 4), (36, 5), (29, 4), (48, 6), (7, 1), (31, 1), (18, 4), (22, 6), (24, 6), (15, 4), (28, 1), (46, 5), (37, 1), (16, 6), (33, 5), (17, 6), (35, 1), (47, 4), (45, 4), (19, 1), (11, 4), (9, 4), (14, 1), (39, 6), (23, 5), (40, 6), (25, 1), (10, 5), (21, 1), (41, 4), (32, 6), (34, 6), (38, 4), (43, 1), (42, 1), (8, 6), (27, 4), (20, 5), (26, 4), (12, 6)]),
 (11, 1, 0, [(0, 0), (1, 0), (6, 0), (4, 0), (3, 0), (9, 0), (2, 0), (8, 0), (7, 0), (5, 0), (10, 0)]),
 (13, 1, 0, [(0, 0), (1, 0), (7, 0), (9, 0), (10, 0), (8, 0), (11, 0), (2, 0), (5, 0), (3, 0), (4, 0), (6, 0), (12, 0)]),
 (17, 1, 0, [(0, 0), (1, 0), (9, 0), (6, 0), (13, 0), (7, 0), (3, 0), (5, 0), (15, 0), (2, 0), (12, 0), (14, 0), (10, 0), (4, 0), (11, 0), (8, 0), (16, 0)]),
 (19, 1, 0, [(0, 0), (1, 0), (10, 0), (13, 0), (5, 0), (4, 0), (16, 0), (11, 0), (12, 0), (17, 0), (2, 0), (7, 0), (8, 0), (3, 0), (15, 0), (14, 0), (6, 0), (9, 0), (18, 0)]),
 (23, 1, 0, [(0, 0), (1, 0), (12, 0), (8, 0), (6, 0), (14, 0), (4, 0), (10, 0), (3, 0), (18, 0), (7, 0), (21, 0), (2, 0), (16, 0), (5, 0), (20, 0), (13, 0), (19, 0), (9, 0), (17, 0), (15, 0), (11, 0), (22, 0)]),
 (29, 1, 0, [(0, 0), (1, 0), (15, 0), (10, 0), (22, 0), (6, 0), (5, 0), (25, 0), (11, 0), (13, 0), (3, 0), (8, 0), (17, 0), (9, 0), (27, 0), (2, 0), (20, 0), (12, 0), (21, 0), (26, 0), (16, 0), (18, 0), (4, 0), (24, 0), (23, 0), (7, 0), (19, 0), (14, 0), (28, 0)]),
 (31, 1, 0, [(0, 0), (1, 0), (16, 0), (21, 0), (8, 0), (25, 0), (26, 0), (9, 0), (4, 0), (7, 0), (28, 0), (17, 0), (13, 0), (12, 0), (20, 0), (29, 0), (2, 0), (11, 0), (19, 0), (18, 0), (14, 0), (3, 0), (24, 0), (27, 0), (22, 0), (5, 0), (6, 0), (23, 0), (10, 0), (15, 0), (30, 0)]),
 (37, 1, 0, [(0, 0), (1, 0), (19, 0), (25, 0), (28, 0), (15, 0), (31, 0), (16, 0), (14, 0), (33, 0), (26, 0), (27, 0), (34, 0), (20, 0), (8, 0), (5, 0), (7, 0), (24, 0), (35, 0), (2, 0), (13, 0), (30, 0), (32, 0), (29, 0), (17, 0), (3, 0), (10, 0), (11, 0), (4, 0), (23, 0), (21, 0), (6, 0), (22, 0), (9, 0), (12, 0), (18, 0), (36, 0)]),
 (41, 1, 0, [(0, 0), (1, 0), (21, 0), (14, 0), (31, 0), (33, 0), (7, 0), (6, 0), (36, 0), (32, 0), (37, 0), (15, 0), (24, 0), (19, 0), (3, 0), (11, 0), (18, 0), (29, 0), (16, 0), (13, 0), (39, 0), (2, 0), (28, 0), (25, 0), (12, 0), (23, 0), (30, 0), (38, 0), (22, 0), (17, 0), (26, 0), (4, 0), (9, 0), (5, 0), (35, 0), (34, 0), (8, 0), (10, 0), (27, 0), (20, 0), (40, 0)]),
 (43, 1, 0, [(0, 0), (1, 0), (22, 0), (29, 0), (11, 0), (26, 0), (36, 0), (37, 0), (27, 0), (24, 0), (13, 0), (4, 0), (18, 0), (10, 0), (40, 0), (23, 0), (35, 0), (38, 0), (12, 0), (34, 0), (28, 0), (41, 0), (2, 0), (15, 0), (9, 0), (31, 0), (5, 0), (8, 0), (20, 0), (3, 0), (33, 0), (25, 0), (39, 0), (30, 0), (19, 0), (16, 0), (6, 0), (7, 0), (17, 0), (32, 0), (14, 0), (21, 0), (42, 0)]),
 (47, 1, 0, [(0, 0), (1, 0), (24, 0), (16, 0), (12, 0), (19, 0), (8, 0), (27, 0), (6, 0), (21, 0), (33, 0), (30, 0), (4, 0), (29, 0), (37, 0), (22, 0), (3, 0), (36, 0), (34, 0), (5, 0), (40, 0), (9, 0), (15, 0), (45, 0), (2, 0), (32, 0), (38, 0), (7, 0), (42, 0), (13, 0), (11, 0), (44, 0), (25, 0), (10, 0), (18, 0), (43, 0), (17, 0), (14, 0), (26, 0), (41, 0), (20, 0), (39, 0), (28, 0), (35, 0), (31, 0), (23, 0), (46, 0)]),
 (53, 1, 0, [(0, 0), (1, 0), (27, 0), (18, 0), (40, 0), (32, 0), (9, 0), (38, 0), (20, 0), (6, 0), (16, 0), (29, 0), (31, 0), (49, 0), (19, 0), (46, 0), (10, 0), (25, 0), (3, 0), (14, 0), (8, 0), (48, 0), (41, 0), (30, 0), (42, 0), (17, 0), (51, 0), (2, 0), (36, 0), (11, 0), (23, 0), (12, 0), (5, 0), (45, 0), (39, 0), (50, 0), (28, 0), (43, 0), (7, 0), (34, 0), (4, 0), (22, 0), (24, 0), (37, 0), (47, 0), (33, 0), (15, 0), (44, 0), (21, 0), (13, 0), (35, 0), (26, 0), (52, 0)]),
 (59, 1, 0, [(0, 0), (1, 0), (30, 0), (20, 0), (15, 0), (12, 0), (10, 0), (17, 0), (37, 0), (46, 0), (6, 0), (43, 0), (5, 0), (50, 0), (38, 0), (4, 0), (48, 0), (7, 0), (23, 0), (28, 0), (3, 0), (45, 0), (51, 0), (18, 0), (32, 0), (26, 0), (25, 0), (35, 0), (19, 0), (57, 0), (2, 0), (40, 0), (24, 0), (34, 0), (33, 0), (27, 0), (41, 0), (8, 0), (14, 0), (56, 0), (31, 0), (36, 0), (52, 0), (11, 0), (55, 0), (21, 0), (9, 0), (54, 0), (16, 0), (53, 0), (13, 0), (22, 0), (42, 0), (49, 0), (47, 0), (44, 0), (39, 0), (29, 0), (58, 0)]),
 (61, 1, 0, [(0, 0), (1, 0), (31, 0), (41, 0), (46, 0), (49, 0), (51, 0), (35, 0), (23, 0), (34, 0), (55, 0), (50, 0), (56, 0), (47, 0), (48, 0), (57, 0), (42, 0), (18, 0), (17, 0), (45, 0), (58, 0), (32, 0), (25, 0), (8, 0), (28, 0), (22, 0), (54, 0), (52, 0), (24, 0), (40, 0), (59, 0), (2, 0), (21, 0), (37, 0), (9, 0), (7, 0), (39, 0), (33, 0), (53, 0), (36, 0), (29, 0), (3, 0), (16, 0), (44, 0), (43, 0), (19, 0), (4, 0), (13, 0), (14, 0), (5, 0), (11, 0), (6, 0), (27, 0), (38, 0), (26, 0), (10, 0), (12, 0), (15, 0), (20, 0), (30, 0), (60, 0)])]
def invAt (p k N a : Nat) (bq : Nat × Nat) : Bool :=
 decide (bq.1 < p ^ k) && decide (bq.2 < p ^ k) && (List.range (2 * k)).all fun m => cvN (dN p a) (dN p bq.1) m k % p == ((if m = 0 then 1 else 0) + cvN (dN p bq.2) (polyN p k N) m k) % p
def invOk (t : Nat × Nat × Nat × List (Nat × Nat)) : Bool :=
 (t.2.2.2.length == t.1 ^ t.2.1) && (t.2.1 != 1 || t.2.2.2.all fun bq => bq.2 == 0) && (List.range t.2.2.2.length).all fun a => a == 0 || invAt t.1 t.2.1 t.2.2.1 a (t.2.2.2.getD a (0, 0))
theorem invTab_ok : invTab.all invOk = true := by decide +kernel
def inTab (q N : Nat) : Bool :=
 let P := splitN q
 P.1 == 0 || (!irr (polyAt P.1 P.2.toNat N) P.1) || invTab.any fun t => ((t.1 : Int) == P.1 && ((t.2.1 : Int) == P.2 && (t.2.1 == 1 || t.2.2.1 == N)))
theorem invTab_all : ∀ q : Nat, q < 65 → 2 ≤ q → ∀ N : Nat, N < q → inTab q N = true := by decide +kernel
end Go.Proofs.YtkiljcbejmiioaaGreat
