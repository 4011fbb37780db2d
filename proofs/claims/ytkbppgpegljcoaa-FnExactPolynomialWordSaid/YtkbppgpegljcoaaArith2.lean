/-
  Walks: combine, l03Mul, product. Printed by gen_arith.py.
-/
import Derived.Test.YtkbppgpegljcoaaArith
namespace Go.Proofs.Ytkbppgpegljcoaa
open Go.RowKit
attribute [local go_sem ↓] Go.wp_at_zero Go.wp_at_succ

theorem PF.box {w : World} {F : FD} {a : Option Addr} {c : Nat} {t : TypeId} (h : Rd w a F.poly) : PF (w.alloc (.cells #[.int .i64 F.p, .int .i64 F.k, .slice a F.poly.length c] t)) w.heap.size F := by
  have b := Blk.new w t #[.int .i64 F.p, .int .i64 F.k, .slice a F.poly.length c] rfl
  exact ⟨b.cell 0, b.cell 1, a, c, b.cell 2, h.alloc _⟩
theorem Own.zeros (w : World) {B : Nat} (hB : B ≤ w.heap.size) {n : Nat} (hn : n ≤ 1000000) : Own (w.alloc (.cells (madeCells #[.int .i64 0] n) 2)) B (.slice (some ⟨w.heap.size, 0, none⟩) n n) (zeros n) :=
  Own.of_rowIs (World.rowIs_made w _ _ _) hB (zeros_len n) (by rw [zeros_len]; omega) (fun i _ => by rw [zeros_nth])
/-- 'make([]int64, n)'. -/
theorem wpList_make_ints {w : World} {ops : Array Oper} {rest : List Oper} {o : Oper} {a : Act} {Q : Exit → Act → World → Prop}
    (hg : o.guard = none) (l c : Operand) (hop : o.op = Op.makeSlice 25 l c) (kl kc : IntKind) (n : Nat) (hl : a.eval l = .int kl (n : Int)) (hc : a.eval c = .int kc (n : Int)) (hn : n ≤ 1000000)
    (h : ∀ w' g, Own w' w.heap.size (.slice (some ⟨g, 0, none⟩) n n) (zeros n) → Below w.heap.size w w' → wpList Try.prog ops Q rest (a.put o.dst (.slice (some ⟨g, 0, none⟩) n n)) w') :
    wpList Try.prog ops Q (o :: rest) a w := by
  obtain ⟨i0, hi0, hz0, hz1, hz2⟩ := info_parts Try.info_i64
  refine wpList_make_row w hg l c 25 hop 2 i0 (.int .i64 0) Try.underlying25 hi0 hz0 hz1 rfl kl kc n hl hc (by rw [hz2]; omega) (by omega) ?_
  exact h _ _ (Own.zeros w (Nat.le_refl _) hn) ((Below.refl _ _).alloc (Nat.le_refl _) _)


set_option maxRecDepth 100000 in
set_option maxHeartbeats 1600000 in
theorem combine_any (F : FD) (ap : Option Addr) (cp : Nat) (a b s : Int) (w : World) (hR : Rd w ap F.poly) (ok : F.Ok) (ha0 : 0 ≤ a) (ha : a ≤ 1000000) (hb0 : 0 ≤ b) (hb : b ≤ 1000000) (hs : s = 1 ∨ s = -1) :
    Calls Try.prog 135 #[.agg #[.int .i64 F.p, .int .i64 F.k, .slice ap F.poly.length cp], .int .i64 a, .int .i64 b, .int .i64 s] w fun e w' => e = .returned (.int .i64 (lin s F.p F.k a b)) ∧ Below w.heap.size w w' := by
  have hp2 := ok.p2
  have hp64 := ok.p64
  have hk6 := ok.k6
  have hk1 := ok.k1
  obtain ⟨W0, hW0⟩ : ∃ W0, W0 = w.alloc (.cells #[.int .i64 F.p, .int .i64 F.k, .slice ap F.poly.length cp] 41) := ⟨_, rfl⟩
  have hbW : Below w.heap.size w W0 := by rw [hW0]; exact (Below.refl _ _).alloc (Nat.le_refl _) _
  have hsW : w.heap.size ≤ W0.heap.size := hbW.size
  have hF : PF W0 w.heap.size F := by rw [hW0]; exact PF.box hR
  obtain ⟨g, hgw⟩ : ∃ g, g = w.heap.size := ⟨_, rfl⟩
  have hg := hF.lt
  rw [← hgw] at hF hg
  have boxes : ∀ (W : World), Below W0.heap.size W0 W → (Below W0.heap.size W0 W ∧ W.cell? ⟨g, 0, none⟩ = some (.int .i64 F.p) ∧ W.cell? ⟨g, 1, none⟩ = some (.int .i64 F.k)) := fun _ h => ⟨h, (hF.below h).1, (hF.below h).2.1⟩
  have BX := hide boxes
  clear boxes
  have hs0 : -1 ≤ s ∧ s ≤ 1 := by omega
  have HS := Lib.hid hs
  have HW := Lib.hid hW0
  have HG := Lib.hid hgw
  obtain ⟨hs1, hs2⟩ := hs0
  clear hs hW0 hgw
  go_enter Try.func135, Try.ntmps135
  go_upto_region 1 with fail
  rw [← HW.out, ← HG.out]
  go_region_held3 (fun W => Below W0.heap.size W0 W ∧ W.cell? ⟨g, 0, none⟩ = some (.int .i64 F.p) ∧ W.cell? ⟨g, 1, none⟩ = some (.int .i64 F.k))
    (first | exact (unhide BX) _ (Below.refl _ _) | exact (unhide BX) _ ((Below.refl _ _).drew) | exact (unhide BX) _ (by assumption))
    (first
      | (go_at_call_of 79 (Value.int .i64 a); refine (digitsOf_any a F.p F.k _ ha0 (by omega) (by omega) (by omega) (by omega)).mono ?_; rintro e W1 ⟨v1, rfl, o1, b1⟩; have hB1 := Below.chain (a := W0) (And.left (by assumption)) b1; obtain ⟨g1, c1, rfl, q1, z1, cc1, cd1⟩ := o1.at_len (dig_len a F.p F.k) (by omega); have hz1 := hB1.size)
      | (go_at_call_of 79 (Value.int .i64 b); refine (digitsOf_any b F.p F.k _ hb0 (by omega) (by omega) (by omega) (by omega)).mono ?_; rintro e W2 ⟨v2, rfl, o2, b2⟩; have hB2 := Below.chain (a := W0) (And.left (by assumption)) b2; obtain ⟨g2, c2, rfl, q2, z2, cc2, cd2⟩ := o2.at_len (dig_len b F.p F.k) (by omega)))
  have hz2 := hB2.size
  have h12 : g1 < g2 := by have : W1.drew.heap.size = W1.heap.size := rfl; omega
  have h01 : W0.heap.size ≤ g1 := q1
  have u1 := o1.below b2 (Nat.le_refl _)
  have u2 : Own W2 W0.heap.size _ _ := o2.mono (by have : W1.drew.heap.size = W1.heap.size := rfl; omega)
  have hX : InR F.p (dig a F.p F.k) := dig_inR (by omega) _ _
  have hY : InR F.p (dig b F.p F.k) := dig_inR (by omega) _ _
  have hXl := dig_len a F.p F.k
  have hYl := dig_len b F.p F.k
  have hfin : lin s F.p F.k a b = num F.p (setK (dig a F.p F.k) (dig b F.p F.k) (-s) F.p 0 F.k) := by rw [lin_setK]; rfl
  obtain ⟨X, eX⟩ : ∃ X, X = dig a F.p F.k := ⟨_, rfl⟩
  obtain ⟨Y, eY⟩ : ∃ Y, Y = dig b F.p F.k := ⟨_, rfl⟩
  rw [← eX] at hX u1 hXl hfin
  rw [← eY] at hY u2 hYl hfin
  have U1 := Lib.hid u1
  have U2 := Lib.hid u2
  have HXL := Lib.hid hXl
  have HYL := Lib.hid hYl
  have HFIN := Lib.hid hfin
  clear hfin eX eY b2 b1 o1 o2 u1 u2 hXl hYl hB1
  go_wp2_with fail
  go_loopw [26] (fun jv wr => ∃ (j : Nat), jv = .int .i64 j ∧ j ≤ F.k ∧ Hid (Own wr W0.heap.size (.slice (some ⟨g1, 0, none⟩) F.k c1) (setK X Y (-s) F.p 0 j)) ∧ Hid (Own wr W0.heap.size (.slice (some ⟨g2, 0, none⟩) F.k c2) Y) ∧ Below W0.heap.size W0 wr) (fun jv _ => F.k - (intOf jv).toNat)
  case atStart => exact ⟨0, rfl, Nat.zero_le _, U1.out, U2.out, hB2⟩
  case round =>
    obtain ⟨j, rfl, hj, ho, hy, hbr⟩ := hrel
    by_cases hjk : j < F.k
    · have hSl := setK_len X Y (-s) F.p 0 j
      have hx1 := ho.out.cell (j := j) (by rw [hSl, HXL.out]; exact hjk)
      rw [setK_nth _ _ _ _ _ (.inr (by omega))] at hx1
      have hxf := ho.out.frozen j
      have hy1 := hy.out.cell (j := j) (by rw [HYL.out]; exact hjk)
      have hpc := (hF.below hbr).1
      have hxb := hX.nth (i := j) (by rw [HXL.out]; exact hjk)
      have hyb := hY.nth (i := j) (by rw [HYL.out]; exact hjk)
      generalize hXX : nth X j = x at hx1 hxb
      generalize hYY : nth Y j = y at hy1 hyb
      obtain ⟨hxb1, hxb2⟩ := hxb
      obtain ⟨hyb1, hyb2⟩ := hyb
      have hm : -F.p < s * y ∧ s * y < F.p := by rcases HS.out with h | h <;> rw [h] <;> omega
      obtain ⟨hm0, hm1⟩ := hm
      have ht1 := Int.emod_nonneg (x + s * y) (show F.p ≠ 0 by omega)
      have ht2 := Int.emod_lt_of_pos (x + s * y) (show 0 < F.p by omega)
      have HX := Lib.hid hXX
      have HY := Lib.hid hYY
      clear hXX hYY hSl
      go_wp2_with fail
      go_region
      go_wp2
      go_roundw
      case rel =>
        have hs := ho.out.set j ((x + s * y) % F.p)
        refine ⟨j + 1, by go_num, by omega, ?_, ?_, (hbr.setCell (by show W0.heap.size ≤ g1; omega) _).drew⟩
        · show Own _ _ _ _
          rw [setK, Nat.zero_add, HX.out, HY.out, show x - -s * y = x + s * y by rw [Int.neg_mul]; omega]
          exact hs.1
        · exact (hy.out.grow hs.2 (.inr (by show some g2 ≠ some g1; intro e; injection e; omega))).drewN 1
      case measure => simp only [intOf]; omega
    · have hje : j = F.k := by omega
      have HJ := Lib.hid hje
      have hpc := (hF.below hbr).1
      clear hje
      obtain ⟨XS, hXS⟩ : ∃ XS, XS = setK X Y (-s) F.p 0 F.k := ⟨_, rfl⟩
      have hoo := ho.out
      rw [HJ.out, ← hXS] at hoo
      have hXSl : XS.length = F.k := by rw [hXS, setK_len, HXL.out]
      have hin : InR F.p XS := by rw [hXS]; exact setK_in (by omega) hX _ _ _ _
      have hrd : Rd wr (some ⟨g1, 0, none⟩) XS := hoo.rd
      have hnum := fun W h => numberOf_any (some ⟨g1, 0, none⟩) c1 XS F.p W h (by omega) (by omega) hin (by rw [hXSl]; have := ok.q64; omega)
      rw [hXSl] at hnum
      have HXS := Lib.hid hXS
      have HNUM := hide hnum
      clear hXS hXSl hnum hoo
      go_wp2_with fail
      refine (unhide HNUM _ hrd).mono ?_
      rintro e w3 ⟨rfl, rfl⟩
      go_wp2
      go_ret
      exact ⟨ret_int (by rw [HFIN.out, HXS.out]), hbW.trans (hbr.mono hsW)⟩

set_option maxRecDepth 100000 in
set_option maxHeartbeats 1600000 in
theorem l03Mul_any (g : Nat) (F : FD) (a b : Int) (w : World) (hF : PF w g F) (ok : F.Ok) (ha0 : 0 ≤ a) (ha : a ≤ 1000000) (hb0 : 0 ≤ b) (hb : b ≤ 1000000) :
    Calls Try.prog 84 #[.pointer (some ⟨g, 0, none⟩), .int .i64 a, .int .i64 b] w fun e w' => e = .returned (.int .i64 (mulF F.p F.k F.poly a b)) ∧ Below w.heap.size w w' := by
  have hp2 := ok.p2
  have hp64 := ok.p64
  have hk6 := ok.k6
  have hk1 := ok.k1
  have hg := hF.lt
  have boxes : ∀ (W : World), Below w.heap.size w W → (Below w.heap.size w W ∧ W.cell? ⟨g, 0, none⟩ = some (.int .i64 F.p) ∧ W.cell? ⟨g, 1, none⟩ = some (.int .i64 F.k)) := fun _ h => ⟨h, (hF.below h).1, (hF.below h).2.1⟩
  have BX := hide boxes
  clear boxes
  go_enter Try.func84, Try.ntmps84
  go_upto_region 1 with fail
  go_region_held3 (fun W => Below w.heap.size w W ∧ W.cell? ⟨g, 0, none⟩ = some (.int .i64 F.p) ∧ W.cell? ⟨g, 1, none⟩ = some (.int .i64 F.k))
    (first | exact (unhide BX) _ (Below.refl _ _) | exact (unhide BX) _ ((Below.refl _ _).drew) | exact (unhide BX) _ (by assumption))
    (first
      | (go_at_call 123; refine (l03Digits_any a F.p F.k _ ha0 (by omega) (by omega) (by omega) (by omega)).mono ?_; rintro e W1 ⟨v1, rfl, o1, b1⟩; have hB1 := Below.chain (a := w) (And.left (by assumption)) b1))
  obtain ⟨g1, c1, rfl, q1, z1, cc1, cd1⟩ := o1.at_len (dig_len a F.p F.k) (by omega)
  have hz1 := hB1.size
  go_upto_region 2 with fail
  go_region_held3 (fun W => Below w.heap.size w W ∧ W.cell? ⟨g, 0, none⟩ = some (.int .i64 F.p) ∧ W.cell? ⟨g, 1, none⟩ = some (.int .i64 F.k))
    (first | exact (unhide BX) _ (hB1) | exact (unhide BX) _ ((hB1).drew) | exact (unhide BX) _ (by assumption))
    (first
      | (go_at_call 123; refine (l03Digits_any b F.p F.k _ hb0 (by omega) (by omega) (by omega) (by omega)).mono ?_; rintro e W2 ⟨v2, rfl, o2, b2⟩; have hB2 := Below.chain (a := w) (And.left (by assumption)) b2))
  obtain ⟨g2, c2, rfl, q2, z2, cc2, cd2⟩ := o2.at_len (dig_len b F.p F.k) (by omega)
  have hz2 := hB2.size
  have h12 : g1 < g2 := by have : W1.drew.heap.size = W1.heap.size := rfl; omega
  have h01 : w.heap.size ≤ g1 := q1
  have u1 := (o1.drewN 1).below b2 (Nat.le_refl _)
  have u2 : Own W2 w.heap.size _ _ := o2.mono (by have : W1.drew.heap.size = W1.heap.size := rfl; omega)
  have hX : InR F.p (dig a F.p F.k) := dig_inR (by omega) _ _
  have hY : InR F.p (dig b F.p F.k) := dig_inR (by omega) _ _
  have hXl := dig_len a F.p F.k
  have hYl := dig_len b F.p F.k
  have hfin : mulF F.p F.k F.poly a b = num F.p (mulD F.p F.poly (dig a F.p F.k) (dig b F.p F.k) (2 * F.k - 1)) := by rw [mulD_pad (by omega) ok.k1 ok.len hXl hYl]; rfl
  obtain ⟨X, eX⟩ : ∃ X, X = dig a F.p F.k := ⟨_, rfl⟩
  obtain ⟨Y, eY⟩ : ∃ Y, Y = dig b F.p F.k := ⟨_, rfl⟩
  rw [← eX] at hX u1 hXl hfin
  rw [← eY] at hY u2 hYl hfin
  have U1 := Lib.hid u1
  have U2 := Lib.hid u2
  have HXL := Lib.hid hXl
  have HYL := Lib.hid hYl
  have HFIN := Lib.hid hfin
  clear hfin eX eY b2 b1 o1 o2 u1 u2 hXl hYl hB1
  obtain ⟨L, hL⟩ : ∃ L, L = (2 * F.k - 1) := ⟨_, rfl⟩
  have hLi : (2 * (F.k : Int) - 1) = (L : Int) := by omega
  have hL1 : L ≤ 2 * F.k := by omega
  have hL2 : 2 * F.k - 1 ≤ L := by omega
  rw [← hL] at HFIN
  have HL := Lib.hid hL
  have hk0 := (hF.below hB2).2.1
  have hz0 := hB2.size
  clear hL
  go_wp2_with ((try rw [hLi]); refine wpList_make_ints rfl (.tmp 37) (.tmp 37) rfl .i64 .i64 L rfl rfl (by omega) ?_; intro w3 g3 o3 b3)
  have hB3 := hB2.trans (b3.mono hz0)
  have u1 := U1.out.below b3 (Nat.le_refl _)
  have u2 := U2.out.below b3 (Nat.le_refl _)
  have u3 : Own w3 w.heap.size _ _ := o3.mono hz0
  have hlo3 := (o3.lt g3 rfl).1
  have h13 : g1 < g3 := by omega
  have h23 : g2 < g3 := by omega
  have hlt3 := (u3.lt g3 rfl).2
  have U1 := Lib.hid u1
  have U2 := Lib.hid u2
  have U3 := Lib.hid u3
  clear b3 o3 hLi hk0 u1 u2 u3
  go_loopw [10] (fun iv wr => ∃ (i : Nat), iv = .int .i64 i ∧ i ≤ F.k ∧ Hid (Own wr w.heap.size (.slice (some ⟨g3, 0, none⟩) L L) (convTo F.p X Y (zeros L) i)) ∧ Hid (Own wr w.heap.size (.slice (some ⟨g1, 0, none⟩) F.k c1) X) ∧ Hid (Own wr w.heap.size (.slice (some ⟨g2, 0, none⟩) F.k c2) Y) ∧ Below w.heap.size w wr) (fun iv _ => F.k - (intOf iv).toNat)
  case atStart => exact ⟨0, rfl, Nat.zero_le _, U3.out, U1.out, U2.out, hB3⟩
  case round =>
    obtain ⟨i, rfl, hi, ho, hx, hy, hbr⟩ := hrel
    by_cases hik : i < F.k
    · obtain ⟨Z, hZ⟩ : ∃ Z, Z = convTo F.p X Y (zeros L) i := ⟨_, rfl⟩
      have hZl : Z.length = L := by rw [hZ, convTo_len, zeros_len]
      have hZr : InR F.p Z := by rw [hZ]; exact convTo_inR (by omega) _ _ (zeros_inR (by omega) _) _
      rw [← hZ] at ho
      have HZ := Lib.hid hZ
      have HZL := Lib.hid hZl
      have hxb := hX.nth (i := i) (by rw [HXL.out]; exact hik)
      generalize hXX : nth X i = x at hxb
      obtain ⟨hxb1, hxb2⟩ := hxb
      have HXX := Lib.hid hXX
      obtain ⟨wo, rfl⟩ : ∃ wo : World, wo = wr := ⟨_, rfl⟩
      clear hZ hZl hXX
      go_wp2_with fail
      go_loopw [11] (fun jv wr => ∃ (j : Nat), jv = .int .i64 j ∧ j ≤ F.k ∧ Hid (Own wr w.heap.size (.slice (some ⟨g3, 0, none⟩) L L) (setK Z Y (-x) F.p i j)) ∧ Hid (Own wr w.heap.size (.slice (some ⟨g1, 0, none⟩) F.k c1) X) ∧ Hid (Own wr w.heap.size (.slice (some ⟨g2, 0, none⟩) F.k c2) Y) ∧ Below w.heap.size w wr) (fun jv _ => F.k - (intOf jv).toNat)
      case atStart => exact ⟨0, rfl, Nat.zero_le _, ho.out, hx.out, hy.out, hbr⟩
      case round =>
        obtain ⟨j, rfl, hj, ho2, hx2, hy2, hb2⟩ := hrel
        by_cases hjk : j < F.k
        · have hSl := setK_len Z Y (-x) F.p i j
          have hx1 := hx2.out.cell (j := i) (by rw [HXL.out]; exact hik)
          rw [HXX.out] at hx1
          have hz1 := ho2.out.cell (j := i + j) (by rw [hSl, HZL.out]; omega)
          rw [setK_nth _ _ _ _ _ (.inr (Nat.le_refl _))] at hz1
          have hzf := ho2.out.frozen (i + j)
          have hy1 := hy2.out.cell (j := j) (by rw [HYL.out]; exact hjk)
          have hpc := (hF.below hb2).1
          have hzb := hZr.nth (i := i + j) (by rw [HZL.out]; omega)
          have hyb := hY.nth (i := j) (by rw [HYL.out]; exact hjk)
          generalize hZZ : nth Z (i + j) = z at hz1 hzb
          generalize hYY : nth Y j = y at hy1 hyb
          obtain ⟨hzb1, hzb2⟩ := hzb
          obtain ⟨hyb1, hyb2⟩ := hyb
          have hm0 : 0 ≤ x * y := Int.mul_nonneg hxb1 hyb1
          have hm1 : x * y ≤ 64 * 64 := Int.mul_le_mul (by omega) (by omega) hyb1 (by omega)
          have ht1 := Int.emod_nonneg (z + x * y) (show F.p ≠ 0 by omega)
          have ht2 := Int.emod_lt_of_pos (z + x * y) (show 0 < F.p by omega)
          have hijL : i + j < L := by omega
          have HZZ := Lib.hid hZZ
          have HYY := Lib.hid hYY
          clear hZZ hYY hSl
          go_wp2_with fail
          go_region
          go_wp2
          go_roundw
          case rel =>
            have hs := ho2.out.set (i + j) ((z + x * y) % F.p)
            refine ⟨j + 1, by go_num, by omega, ?_, ?_, ?_, (hb2.setCell (by show w.heap.size ≤ g3; omega) _).drew⟩
            · show Own _ _ _ _
              rw [setK, HZZ.out, HYY.out, show z - -x * y = z + x * y by rw [Int.neg_mul]; omega]
              exact hs.1
            · exact (hx2.out.grow hs.2 (.inr (by show some g1 ≠ some g3; intro e; injection e; omega))).drewN 1
            · exact (hy2.out.grow hs.2 (.inr (by show some g2 ≠ some g3; intro e; injection e; omega))).drewN 1
          case measure => simp only [intOf]; omega
        · have hje : j = F.k := by omega
          have HJ := Lib.hid hje
          clear hje
          go_wp2
          go_roundw
          case rel =>
            refine ⟨i + 1, by go_num, by omega, ?_, hx2, hy2, hb2⟩
            show Own _ _ _ _
            have o := ho2.out
            rw [HJ.out, HZ.out, ← HXX.out, ← HYL.out] at o
            rw [convTo]
            exact o
          case measure => simp only [intOf]; omega
    · have hie : i = F.k := by omega
      have HI := Lib.hid hie
      clear hie
      obtain ⟨ZS, hZS⟩ : ∃ ZS, ZS = convTo F.p X Y (zeros L) F.k := ⟨_, rfl⟩
      have hoo := ho.out
      rw [HI.out, ← hZS] at hoo
      have hZSl : ZS.length = L := by rw [hZS, convTo_len, zeros_len]
      have hin : InR F.p ZS := by rw [hZS]; exact convTo_inR (by omega) _ _ (zeros_inR (by omega) _) _
      have hrd : Rd wr (some ⟨g3, 0, none⟩) ZS := hoo.rd
      obtain ⟨hc0, hc1, ap, cp, hc2, hrp⟩ := hF.below hbr
      have hg2 := hbr.size
      have boxes : ∀ (W : World), Below wr.heap.size wr W → (Below wr.heap.size wr W ∧ W.cell? ⟨g, 0, none⟩ = some (.int .i64 F.p) ∧ W.cell? ⟨g, 2, none⟩ = some (.slice ap F.poly.length cp)) := fun _ h => ⟨h, (h.cell (p := ⟨g, 0, none⟩) (by show g < _; omega)).trans hc0, (h.cell (p := ⟨g, 2, none⟩) (by show g < _; omega)).trans hc2⟩
      have BX2 := hide boxes
      have hrest := fun W h h' => l03Rest_any (some ⟨g3, 0, none⟩) ap L cp ZS F.poly F.p W h h' (by omega) (by omega) hin (fun y hy => by have := ok.inR y hy; omega) (by omega) (by rw [ok.len]; omega) (by rw [ok.len]; omega)
      have hpl : (prem F.p F.poly ZS).length = F.k := by rw [prem_len, hZSl, ok.len]; omega
      have hpi : InR F.p (prem F.p F.poly ZS) := prem_in (by omega) hin _
      have hpp : F.p ^ (prem F.p F.poly ZS).length ≤ 1099511627776 := by rw [hpl]; have := ok.q64; omega
      have hnum := fun a5 c5 W h => l03Number_any a5 c5 (prem F.p F.poly ZS) F.p W h (by omega) (by omega) hpi hpp
      have HNUM := hide hnum
      rw [hZSl] at hrest
      have HREST := hide hrest
      have HFZ : Hid (mulF F.p F.k F.poly a b = num F.p (prem F.p F.poly ZS)) := by show _ = _; rw [HFIN.out, mulD, hZS, HXL.out]
      clear hrest boxes BX hZS hZSl hoo hc0 hc1 hc2 HI hnum hpp hpl
      go_upto_region 11 with fail
      go_region_held3 (fun W => Below wr.heap.size wr W ∧ W.cell? ⟨g, 0, none⟩ = some (.int .i64 F.p) ∧ W.cell? ⟨g, 2, none⟩ = some (.slice ap F.poly.length cp))
        (first | exact (unhide BX2) _ (Below.refl _ _) | exact (unhide BX2) _ ((Below.refl _ _).drew) | exact (unhide BX2) _ (by assumption))
        (first
          | (go_at_call 133; refine (unhide HREST _ ?_ ?_).mono ?_; exact hrd.below (And.left (by assumption)); exact hrp.below (And.left (by assumption)); rintro e W5 ⟨v5, rfl, o5, b5⟩; have hB5 := Below.chain (a := wr) (And.left (by assumption)) b5; obtain ⟨a5, c5, rfl, r5, _⟩ := o5.form)
          | (go_at_call 132; refine (unhide HNUM a5 c5 _ r5).mono ?_; rintro e W6 ⟨rfl, rfl⟩))
      have hbr2 := hbr.trans (hB5.mono hg2)
      clear HREST BX2
      go_wp2
      go_ret
      exact ⟨ret_int (by rw [HFZ.out]), hbr2⟩

set_option maxRecDepth 100000 in
set_option maxHeartbeats 1600000 in
theorem product_any (F : FD) (ap : Option Addr) (cp : Nat) (a b : Int) (w : World) (hR : Rd w ap F.poly) (ok : F.Ok) (ha0 : 0 ≤ a) (ha : a ≤ 1000000) (hb0 : 0 ≤ b) (hb : b ≤ 1000000) :
    Calls Try.prog 136 #[.agg #[.int .i64 F.p, .int .i64 F.k, .slice ap F.poly.length cp], .int .i64 a, .int .i64 b] w fun e w' => e = .returned (.int .i64 (mulF F.p F.k F.poly a b)) ∧ Below w.heap.size w w' := by
  have hp2 := ok.p2
  have hp64 := ok.p64
  have hk6 := ok.k6
  have hk1 := ok.k1
  obtain ⟨W0, hW0⟩ : ∃ W0, W0 = w.alloc (.cells #[.int .i64 F.p, .int .i64 F.k, .slice ap F.poly.length cp] 41) := ⟨_, rfl⟩
  have hbW : Below w.heap.size w W0 := by rw [hW0]; exact (Below.refl _ _).alloc (Nat.le_refl _) _
  have hsW : w.heap.size ≤ W0.heap.size := hbW.size
  have hF : PF W0 w.heap.size F := by rw [hW0]; exact PF.box hR
  obtain ⟨g, hgw⟩ : ∃ g, g = w.heap.size := ⟨_, rfl⟩
  have hg := hF.lt
  rw [← hgw] at hF hg
  have boxes : ∀ (W : World), Below W0.heap.size W0 W → (Below W0.heap.size W0 W ∧ W.cell? ⟨g, 0, none⟩ = some (.int .i64 F.p) ∧ W.cell? ⟨g, 1, none⟩ = some (.int .i64 F.k)) := fun _ h => ⟨h, (hF.below h).1, (hF.below h).2.1⟩
  have BX := hide boxes
  clear boxes
  have HW := Lib.hid hW0
  have HG := Lib.hid hgw
  clear hW0 hgw
  go_enter Try.func136, Try.ntmps136
  go_upto_region 1 with fail
  rw [← HW.out, ← HG.out]
  go_region_held3 (fun W => Below W0.heap.size W0 W ∧ W.cell? ⟨g, 0, none⟩ = some (.int .i64 F.p) ∧ W.cell? ⟨g, 1, none⟩ = some (.int .i64 F.k))
    (first | exact (unhide BX) _ (Below.refl _ _) | exact (unhide BX) _ ((Below.refl _ _).drew) | exact (unhide BX) _ (by assumption))
    (first
      | (go_at_call_of 79 (Value.int .i64 a); refine (digitsOf_any a F.p F.k _ ha0 (by omega) (by omega) (by omega) (by omega)).mono ?_; rintro e W1 ⟨v1, rfl, o1, b1⟩; have hB1 := Below.chain (a := W0) (And.left (by assumption)) b1; obtain ⟨g1, c1, rfl, q1, z1, cc1, cd1⟩ := o1.at_len (dig_len a F.p F.k) (by omega); have hz1 := hB1.size)
      | (go_at_call_of 79 (Value.int .i64 b); refine (digitsOf_any b F.p F.k _ hb0 (by omega) (by omega) (by omega) (by omega)).mono ?_; rintro e W2 ⟨v2, rfl, o2, b2⟩; have hB2 := Below.chain (a := W0) (And.left (by assumption)) b2; obtain ⟨g2, c2, rfl, q2, z2, cc2, cd2⟩ := o2.at_len (dig_len b F.p F.k) (by omega)))
  have hz2 := hB2.size
  have h12 : g1 < g2 := by have : W1.drew.heap.size = W1.heap.size := rfl; omega
  have h01 : W0.heap.size ≤ g1 := q1
  have u1 := o1.below b2 (Nat.le_refl _)
  have u2 : Own W2 W0.heap.size _ _ := o2.mono (by have : W1.drew.heap.size = W1.heap.size := rfl; omega)
  have hX : InR F.p (dig a F.p F.k) := dig_inR (by omega) _ _
  have hY : InR F.p (dig b F.p F.k) := dig_inR (by omega) _ _
  have hXl := dig_len a F.p F.k
  have hYl := dig_len b F.p F.k
  have hfin : mulF F.p F.k F.poly a b = num F.p (mulD F.p F.poly (dig a F.p F.k) (dig b F.p F.k) (2 * F.k)) := rfl
  obtain ⟨X, eX⟩ : ∃ X, X = dig a F.p F.k := ⟨_, rfl⟩
  obtain ⟨Y, eY⟩ : ∃ Y, Y = dig b F.p F.k := ⟨_, rfl⟩
  rw [← eX] at hX u1 hXl hfin
  rw [← eY] at hY u2 hYl hfin
  have U1 := Lib.hid u1
  have U2 := Lib.hid u2
  have HXL := Lib.hid hXl
  have HYL := Lib.hid hYl
  have HFIN := Lib.hid hfin
  clear hfin eX eY b2 b1 o1 o2 u1 u2 hXl hYl hB1
  obtain ⟨L, hL⟩ : ∃ L, L = (2 * F.k) := ⟨_, rfl⟩
  have hLi : (2 * (F.k : Int)) = (L : Int) := by omega
  have hL1 : L ≤ 2 * F.k := by omega
  have hL2 : 2 * F.k - 1 ≤ L := by omega
  rw [← hL] at HFIN
  have HL := Lib.hid hL
  have hk0 := (hF.below hB2).2.1
  have hz0 := hB2.size
  clear hL
  go_wp2_with ((try rw [hLi]); refine wpList_make_ints rfl (.tmp 26) (.tmp 26) rfl .i64 .i64 L rfl rfl (by omega) ?_; intro w3 g3 o3 b3)
  have hB3 := hB2.trans (b3.mono hz0)
  have u1 := U1.out.below b3 (Nat.le_refl _)
  have u2 := U2.out.below b3 (Nat.le_refl _)
  have u3 : Own w3 W0.heap.size _ _ := o3.mono hz0
  have hlo3 := (o3.lt g3 rfl).1
  have h13 : g1 < g3 := by omega
  have h23 : g2 < g3 := by omega
  have hlt3 := (u3.lt g3 rfl).2
  have U1 := Lib.hid u1
  have U2 := Lib.hid u2
  have U3 := Lib.hid u3
  clear b3 o3 hLi hk0 u1 u2 u3
  go_loopw [30] (fun iv wr => ∃ (i : Nat), iv = .int .i64 i ∧ i ≤ F.k ∧ Hid (Own wr W0.heap.size (.slice (some ⟨g3, 0, none⟩) L L) (convTo F.p X Y (zeros L) i)) ∧ Hid (Own wr W0.heap.size (.slice (some ⟨g1, 0, none⟩) F.k c1) X) ∧ Hid (Own wr W0.heap.size (.slice (some ⟨g2, 0, none⟩) F.k c2) Y) ∧ Below W0.heap.size W0 wr) (fun iv _ => F.k - (intOf iv).toNat)
  case atStart => exact ⟨0, rfl, Nat.zero_le _, U3.out, U1.out, U2.out, hB3⟩
  case round =>
    obtain ⟨i, rfl, hi, ho, hx, hy, hbr⟩ := hrel
    by_cases hik : i < F.k
    · obtain ⟨Z, hZ⟩ : ∃ Z, Z = convTo F.p X Y (zeros L) i := ⟨_, rfl⟩
      have hZl : Z.length = L := by rw [hZ, convTo_len, zeros_len]
      have hZr : InR F.p Z := by rw [hZ]; exact convTo_inR (by omega) _ _ (zeros_inR (by omega) _) _
      rw [← hZ] at ho
      have HZ := Lib.hid hZ
      have HZL := Lib.hid hZl
      have hxb := hX.nth (i := i) (by rw [HXL.out]; exact hik)
      generalize hXX : nth X i = x at hxb
      obtain ⟨hxb1, hxb2⟩ := hxb
      have HXX := Lib.hid hXX
      obtain ⟨wo, rfl⟩ : ∃ wo : World, wo = wr := ⟨_, rfl⟩
      clear hZ hZl hXX
      go_wp2_with fail
      go_loopw [35] (fun jv wr => ∃ (j : Nat), jv = .int .i64 j ∧ j ≤ F.k ∧ Hid (Own wr W0.heap.size (.slice (some ⟨g3, 0, none⟩) L L) (setK Z Y (-x) F.p i j)) ∧ Hid (Own wr W0.heap.size (.slice (some ⟨g1, 0, none⟩) F.k c1) X) ∧ Hid (Own wr W0.heap.size (.slice (some ⟨g2, 0, none⟩) F.k c2) Y) ∧ Below W0.heap.size W0 wr) (fun jv _ => F.k - (intOf jv).toNat)
      case atStart => exact ⟨0, rfl, Nat.zero_le _, ho.out, hx.out, hy.out, hbr⟩
      case round =>
        obtain ⟨j, rfl, hj, ho2, hx2, hy2, hb2⟩ := hrel
        by_cases hjk : j < F.k
        · have hSl := setK_len Z Y (-x) F.p i j
          have hx1 := hx2.out.cell (j := i) (by rw [HXL.out]; exact hik)
          rw [HXX.out] at hx1
          have hz1 := ho2.out.cell (j := i + j) (by rw [hSl, HZL.out]; omega)
          rw [setK_nth _ _ _ _ _ (.inr (Nat.le_refl _))] at hz1
          have hzf := ho2.out.frozen (i + j)
          have hy1 := hy2.out.cell (j := j) (by rw [HYL.out]; exact hjk)
          have hpc := (hF.below hb2).1
          have hzb := hZr.nth (i := i + j) (by rw [HZL.out]; omega)
          have hyb := hY.nth (i := j) (by rw [HYL.out]; exact hjk)
          generalize hZZ : nth Z (i + j) = z at hz1 hzb
          generalize hYY : nth Y j = y at hy1 hyb
          obtain ⟨hzb1, hzb2⟩ := hzb
          obtain ⟨hyb1, hyb2⟩ := hyb
          have hm0 : 0 ≤ x * y := Int.mul_nonneg hxb1 hyb1
          have hm1 : x * y ≤ 64 * 64 := Int.mul_le_mul (by omega) (by omega) hyb1 (by omega)
          have ht1 := Int.emod_nonneg (z + x * y) (show F.p ≠ 0 by omega)
          have ht2 := Int.emod_lt_of_pos (z + x * y) (show 0 < F.p by omega)
          have hijL : i + j < L := by omega
          have HZZ := Lib.hid hZZ
          have HYY := Lib.hid hYY
          clear hZZ hYY hSl
          go_wp2_with fail
          go_region
          go_wp2
          go_roundw
          case rel =>
            have hs := ho2.out.set (i + j) ((z + x * y) % F.p)
            refine ⟨j + 1, by go_num, by omega, ?_, ?_, ?_, (hb2.setCell (by show W0.heap.size ≤ g3; omega) _).drew⟩
            · show Own _ _ _ _
              rw [setK, HZZ.out, HYY.out, show z - -x * y = z + x * y by rw [Int.neg_mul]; omega]
              exact hs.1
            · exact (hx2.out.grow hs.2 (.inr (by show some g1 ≠ some g3; intro e; injection e; omega))).drewN 1
            · exact (hy2.out.grow hs.2 (.inr (by show some g2 ≠ some g3; intro e; injection e; omega))).drewN 1
          case measure => simp only [intOf]; omega
        · have hje : j = F.k := by omega
          have HJ := Lib.hid hje
          clear hje
          go_wp2
          go_roundw
          case rel =>
            refine ⟨i + 1, by go_num, by omega, ?_, hx2, hy2, hb2⟩
            show Own _ _ _ _
            have o := ho2.out
            rw [HJ.out, HZ.out, ← HXX.out, ← HYL.out] at o
            rw [convTo]
            exact o
          case measure => simp only [intOf]; omega
    · have hie : i = F.k := by omega
      have HI := Lib.hid hie
      clear hie
      obtain ⟨ZS, hZS⟩ : ∃ ZS, ZS = convTo F.p X Y (zeros L) F.k := ⟨_, rfl⟩
      have hoo := ho.out
      rw [HI.out, ← hZS] at hoo
      have hZSl : ZS.length = L := by rw [hZS, convTo_len, zeros_len]
      have hin : InR F.p ZS := by rw [hZS]; exact convTo_inR (by omega) _ _ (zeros_inR (by omega) _) _
      have hrd : Rd wr (some ⟨g3, 0, none⟩) ZS := hoo.rd
      obtain ⟨hc0, hc1, ap, cp, hc2, hrp⟩ := hF.below hbr
      have hg2 := hbr.size
      have boxes : ∀ (W : World), Below wr.heap.size wr W → (Below wr.heap.size wr W ∧ W.cell? ⟨g, 0, none⟩ = some (.int .i64 F.p) ∧ W.cell? ⟨g, 2, none⟩ = some (.slice ap F.poly.length cp)) := fun _ h => ⟨h, (h.cell (p := ⟨g, 0, none⟩) (by show g < _; omega)).trans hc0, (h.cell (p := ⟨g, 2, none⟩) (by show g < _; omega)).trans hc2⟩
      have BX2 := hide boxes
      have hrest := fun W h h' => remainder_any (some ⟨g3, 0, none⟩) ap L cp ZS F.poly F.p W h h' (by omega) (by omega) hin (fun y hy => by have := ok.inR y hy; omega) (by omega) (by rw [ok.len]; omega)
      have hpl : (prem F.p F.poly ZS).length = F.k := by rw [prem_len, hZSl, ok.len]; omega
      have hpi : InR F.p (prem F.p F.poly ZS) := prem_in (by omega) hin _
      have hpp : F.p ^ (prem F.p F.poly ZS).length ≤ 1099511627776 := by rw [hpl]; have := ok.q64; omega
      have hnum := fun a5 c5 W h => numberOf_any a5 c5 (prem F.p F.poly ZS) F.p W h (by omega) (by omega) hpi hpp
      have HNUM := hide hnum
      rw [hZSl] at hrest
      have HREST := hide hrest
      have HFZ : Hid (mulF F.p F.k F.poly a b = num F.p (prem F.p F.poly ZS)) := by show _ = _; rw [HFIN.out, mulD, hZS, HXL.out]
      clear hrest boxes BX hZS hZSl hoo hc0 hc1 hc2 HI hnum hpp hpl
      go_upto_region 12 with fail
      go_region_held3 (fun W => Below wr.heap.size wr W ∧ W.cell? ⟨g, 0, none⟩ = some (.int .i64 F.p) ∧ W.cell? ⟨g, 2, none⟩ = some (.slice ap F.poly.length cp))
        (first | exact (unhide BX2) _ (Below.refl _ _) | exact (unhide BX2) _ ((Below.refl _ _).drew) | exact (unhide BX2) _ (by assumption))
        (first
          | (go_at_call 161; refine (unhide HREST _ ?_ ?_).mono ?_; exact hrd.below (And.left (by assumption)); exact hrp.below (And.left (by assumption)); rintro e W5 ⟨v5, rfl, o5, b5⟩; have hB5 := Below.chain (a := wr) (And.left (by assumption)) b5; obtain ⟨a5, c5, rfl, r5, _⟩ := o5.form)
          | (go_at_call 163; refine (unhide HNUM a5 c5 _ r5).mono ?_; rintro e W6 ⟨rfl, rfl⟩))
      have hbr2 := hbr.trans (hB5.mono hg2)
      clear HREST BX2
      go_wp2
      go_ret
      exact ⟨ret_int (by rw [HFZ.out]), hbW.trans (hbr2.mono hsW)⟩
end Go.Proofs.Ytkbppgpegljcoaa
