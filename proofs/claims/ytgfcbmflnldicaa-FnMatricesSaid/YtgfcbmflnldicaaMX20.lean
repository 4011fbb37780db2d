/-
  Texts joined.
-/
import Derived.Test.YtgfcbmflnldicaaMX5
import Derived.Test.YtgfcbmflnldicaaMX6
import Derived.Test.YtgfcbmflnldicaaMX9
import Derived.Test.YtgfcbmflnldicaaMX14
import Derived.Test.YtgfcbmflnldicaaMX15
import Derived.Test.YtgfcbmflnldicaaMX16
import Derived.Test.YtgfcbmflnldicaaMX18
import Derived.Test.YtgfcbmflnldicaaMX19
set_option linter.unusedVariables false
set_option linter.unusedSimpArgs false
set_option maxRecDepth 100000
set_option maxHeartbeats 40000000
namespace Go.Proofs.Ytgfcbmflnldicaa
open Go.RowKit
attribute [local go_sem ↓] Go.wp_at_zero Go.wp_at_succ
def wideTo (m : List (List Int)) (b : List Int) (i : Nat) : List (List Int) := (List.range m.length).map fun k => if k < i then nthL m k ++ [nth b k] else nthL m k
theorem wideTo_len (m : List (List Int)) (b : List Int) (i : Nat) : (wideTo m b i).length = m.length := by simp [wideTo]
theorem wideTo_nth (m : List (List Int)) (b : List Int) (i : Nat) {k : Nat} (hk : k < m.length) : nthL (wideTo m b i) k = if k < i then nthL m k ++ [nth b k] else nthL m k := by simp [wideTo, nthL, hk]
theorem wideTo_zero (m : List (List Int)) (b : List Int) : wideTo m b 0 = m := by
 refine eq_of_nthL (wideTo_len m b 0) fun i hi => ?_
 rw [wideTo_len] at hi
 rw [wideTo_nth m b 0 hi, if_neg (by omega)]
theorem wideTo_all (m : List (List Int)) (b : List Int) : wideTo m b m.length = wideM m b := by
 refine eq_of_nthL (by rw [wideTo_len, wideM_len]) fun i hi => ?_
 rw [wideTo_len] at hi
 rw [wideTo_nth m b _ hi, if_pos hi, wideM_nth m b hi]
theorem wideTo_set {m : List (List Int)} {b : List Int} {i : Nat} (hi : i < m.length) : (wideTo m b i).set i (nthL (wideTo m b i) i ++ [nth b i]) = wideTo m b (i + 1) := by
 refine eq_of_nthL (by rw [List.length_set, wideTo_len, wideTo_len]) fun k hk => ?_
 rw [List.length_set, wideTo_len] at hk
 by_cases h : i = k
 · subst h
   rw [nthL_set_same (by rw [wideTo_len]; exact hi), wideTo_nth m b _ hi, if_neg (by omega), wideTo_nth m b _ hi, if_pos (by omega)]
 · rw [nthL_set_ne h, wideTo_nth m b _ hk, wideTo_nth m b _ hk]
   by_cases h2 : k < i
   · rw [if_pos h2, if_pos (by omega)]
   · rw [if_neg h2, if_neg (by omega)]
theorem solve_ok (F : FD) (ap : Option Addr) (cp : Nat) (ra : Option Addr) (rc : Nat) (m : List (List Int)) (ba : Option Addr) (bc : Nat) (b : List Int) (n : Nat) (w : World) (hR : Rd w ap F.poly) (hm : RdS w ra m) (hC : MG F n m) (hy : Rd w ba b) (hbl : b.length = m.length) (hbe : ∀ x ∈ b, 0 ≤ x ∧ x < F.n) (hpb : ∀ j, j < (red F (wideM m b) (n + 1)).2.length → ∃ p : Nat, nth (red F (wideM m b) (n + 1)).2 j = (p : Int) ∧ p < n) :
    Calls Try.prog 17 #[.agg #[.int .i64 F.p, .int .i64 F.k, .slice ap F.poly.length cp], .slice ra m.length rc, .slice ba b.length bc] w fun e w' => (∃ v, e = .returned (.tuple #[v, .int .i64 0]) ∧ Own w' w.heap.size v (solIn (form F (wideM m b) (n + 1)) (red F (wideM m b) (n + 1)).2 n (red F (wideM m b) (n + 1)).2.length)) ∧ Below w.heap.size w w' := by
 have hml := hm.len
 have hG := hC.good
 have ok := hC.good.ok
 obtain ⟨n2, n64⟩ := ok.n_bd
 have hm1 := hC.m1
 have hm32 := hC.m32
 have hn1 := hC.n1
 have hn32 := hC.n32
 have hM := hC.mat
 have hm0 : 0 < m.length := by omega
 obtain ⟨W0, hHW⟩ : ∃ z, z = w.alloc (.cells #[.int .i64 F.p, .int .i64 F.k, .slice ap F.poly.length cp] 26) := ⟨_, rfl⟩
 have b0 : Below w.heap.size w W0 := by rw [hHW]; exact (Below.refl _ _).alloc (Nat.le_refl _) _
 have k0 : Blk W0 w.heap.size 26 #[.int .i64 F.p, .int .i64 F.k, .slice ap F.poly.length cp] := by rw [hHW]; exact Blk.new _ _ _ rfl
 have sk0 : w.heap.size < W0.heap.size := k0.lt
 have HW := Lib.hid hHW
 clear hHW
 have hV := validMatrix_any F.p F.k ap cp F.poly ra rc m W0 (hR.below b0) (hm.below b0) hC.kI
 rw [hC.okM] at hV
 obtain ⟨gb, ob, rfl, hgb, hcc⟩ := (hm.below b0).at_ hm1
 obtain ⟨ai, ci, hr0, _⟩ := hcc 0 hm1
 rw [Nat.add_zero, hC.hn] at hr0
 have HV := hide hV
 have HT := hide (fun W (h : Below W0.heap.size W0 W) => tablesOf_any F ap cp W ((hR.below b0).below h) ok)
 have HRE := hide (fun tv W (h : Below W0.heap.size W0 W) hT => reduce_any F tv (some ⟨gb, ob, none⟩) rc m n W hT hG ((hm.below b0).below h) hm0 hM)
 clear hV hcc
 have he : elems F.n b = true := elems_true.2 hbe
 have hFS := fun W => fieldSize_any F ap cp W ok
 have hE := fun W h => areIn_any F.n ba bc b W (by omega) (by omega) ((hy.below b0).below h)
 rw [he] at hE
 have HFS := hide hFS
 have HE := hide hE
 have hWM := wideM_Mat hM hbl hbe
 have hCP := fun W (h : Below W0.heap.size W0 W) => copyLists_any (some ⟨gb, ob, none⟩) rc m W ((hm.below b0).below h)
 have HCP := hide hCP
 have hwl := wideM_len m b
 have HRW := hide (show ∀ (tv : Value) (a : Option Addr) (c : Nat) (W : World), Tabs W F tv → RdS W a (wideM m b) → Calls Try.prog 24 #[tv, .slice a m.length c] W fun e w' => ∃ v u d, e = .returned (.tuple #[v, u, .int .i64 d]) ∧ OwnS w' W.heap.size v (form F (wideM m b) (n + 1)) ∧ Own w' W.heap.size u (red F (wideM m b) (n + 1)).2 ∧ Below W.heap.size W w' from fun tv a c W hT hx => by
  have h := reduce_any F tv a c (wideM m b) (n + 1) W hT hG hx (by omega) hWM
  rw [hwl] at h
  exact h)
 have hrl := (red_bd hG hWM).1
 have hfM := (form_ech hG hWM)
 have hnr : ∀ j, j < (form F (wideM m b) (n + 1)).length → (nthL (form F (wideM m b) (n + 1)) j).length = n + 1 := by
  obtain ⟨_, _, hEc, _⟩ := hfM
  exact fun j hj => (Mat_nth hEc.mat hj).1
 have HY := hide (hy.below b0)
 have HWT := hide (fun i (hi : i < m.length) => wideTo_set (m := m) (b := b) hi)
 have HWZ := Lib.hid (wideTo_zero m b)
 have HWA := Lib.hid (wideTo_all m b)
 have HWN := hide (fun i (hi : i < m.length) => wideTo_nth m b i hi)
 have HWL := hide (fun i => wideTo_len m b i)
 have HMR := hide (fun i (hi : i < m.length) => (Mat_nth hM hi).1)
 have hb0 : 0 < b.length := by omega
 have hbq : ((b.length : Int) != (m.length : Int)) = false := by rw [hbl]; simp
 have HBL := Lib.hid hbl
 obtain ⟨P, hP⟩ : ∃ P, P = (red F (wideM m b) (n + 1)).2 := ⟨_, rfl⟩
 obtain ⟨R, hRR⟩ : ∃ R, R = form F (wideM m b) (n + 1) := ⟨_, rfl⟩
 rw [← hP] at hpb hrl HRW ⊢
 rw [← hRR] at hrl hnr HRW ⊢
 have HPB := hide hpb
 have HRL := Lib.hid hrl
 have hPl : P.length ≤ 32 := by
  have h := red_piv F (wideM m b) (n + 1)
  rw [← hP, hwl] at h
  omega
 have HNR := hide hnr
 have KB := hide (show ∀ W, Below W0.heap.size W0 W → Blk W w.heap.size 26 #[.int .i64 F.p, .int .i64 F.k, .slice ap F.poly.length cp] from fun W h => k0.below h k0.lt)
 clear hC hM hG ok hFS hE he hbl hbe hpb hWM hCP hwl hrl hfM hnr hP hRR
 have f0 := k0.cell 0
 have f1 := k0.cell 1
 have f2 := k0.cell 2
 go_enter Try.func17, Try.ntmps17
 go_upto_region 1 with fail
 rw [← HW.out]
 go_wp2_with fail
 refine (unhide HV).mono ?_
 rintro e w1 ⟨rfl, b1⟩
 have k1 := k0.below b1 k0.lt
 have hr1 := (b1.cell (p := ⟨gb, ob, none⟩) hgb).trans hr0
 clear f0 f1 f2
 have f0 := k1.cell 0
 have f1 := k1.cell 1
 have f2 := k1.cell 2
 have bb1 := b0.trans (b1.mono (Nat.le_of_lt sk0))
 go_wp2_with fail
 refine (unhide HFS w1).mono ?_
 rintro e w2 ⟨rfl, b2⟩
 go_wp2_with fail
 refine (unhide HE w2 (Below.chain b1 b2)).mono ?_
 rintro e w3 ⟨rfl, b3⟩
 have c3 := Below.chain (Below.chain b1 b2) b3
 clear f0 f1 f2 hr1
 go_wp2_with fail
 refine (unhide HCP _ c3).mono ?_
 rintro e w4 ⟨v4, rfl, o4, b4⟩
 have c4 := Below.chain c3 b4
 have z34 := b4.size
 obtain ⟨gc, cc, rfl, hgc, _, _, _⟩ := o4.at_ hm0
 have O4 := hide (show OwnS w4 w3.heap.size (.slice (some ⟨gc, 0, none⟩) m.length cc) (wideTo m b 0) from by rw [HWZ.out]; exact o4)
 clear o4
 go_wp2_with fail
 go_loopw [9, 37] (fun jv iv wr => ∃ i : Nat, iv = .int .i64 i ∧ i ≤ m.length ∧ Hid (OwnS wr w3.heap.size (.slice (some ⟨gc, 0, none⟩) m.length cc) (wideTo m b i)) ∧ Below w3.heap.size w3 wr) (fun _ iv _ => m.length - (intOf iv).toNat)
 case atStart => exact ⟨0, rfl, Nat.zero_le _, O4, b4⟩
 case round =>
  obtain ⟨i, rfl, hi, ho, hb⟩ := hrel
  rename World => wo
  have hsz := hb.size
  have co := Below.chain c3 hb
  by_cases him : i < m.length
  · obtain ⟨gx, ox, rfl, hgx, hcx⟩ := (unhide HY).at_ hb0
    have him2 : i < b.length := by rw [HBL.out]; exact him
    have cx := hcx i him2
    have hst := (unhide HWT) i him
    have hcl := (unhide HWL) i
    have hno := (unhide HWN) i him
    rw [if_neg (by omega)] at hno
    have hrl := (unhide HMR) i him
    obtain ⟨ar, cr, orow, hrow, _⟩ := ho.out.row (i := i) (by rw [hcl]; exact him)
    have hcell := hrow _ _ _ _ rfl
    rw [Nat.zero_add] at hcell
    have hfz := ho.out.frozen i
    rw [hno] at orow hcell hst
    obtain ⟨x, hx⟩ : ∃ x, x = nth b i := ⟨_, rfl⟩
    obtain ⟨row, hrw⟩ : ∃ row, row = nthL m i := ⟨_, rfl⟩
    rw [← hx] at cx hst
    rw [← hrw] at hst orow hcell hrl
    have HST := Lib.hid hst
    have OR := hide orow
    have HCL := Lib.hid hcl
    have HRL2 := Lib.hid hrl
    have hgcl := World.block_lt_of_cell? wo _ hcell
    have HC := hide hcell
    have HO := hide ho.out
    have CAL := hide (show ∀ o : Obj, (wo.drew.alloc o).cell? ⟨gc, i, none⟩ = some (.slice ar row.length cr) from fun o => (World.cell?_alloc_lt wo.drew o ⟨gc, i, none⟩ hgcl).trans hcell)
    have CX := hide (show ∀ W, Below w3.heap.size w3 W → W.cell? ⟨gx, ox + i, none⟩ = some (.int .i64 x) from fun W h => ((Below.chain c3 h).cell (p := ⟨gx, ox + i, none⟩) hgx).trans cx)
    have BX := hide (show Below w3.heap.size w3 wo.drew ∧ wo.drew.cell? ⟨gc, i, none⟩ = some (.slice ar row.length cr) ∧ wo.drew.cell? ⟨gx, ox + i, none⟩ = some (.int .i64 x) from ⟨hb.drew, hcell, (unhide CX) _ hb.drew⟩)
    have hAl : row.length + [x].length ≤ 1073741824 := by rw [hrl]; simp; omega
    clear hst orow hcl hrl hcell cx hcx hx hrw hrow hno ho
    go_upto_region 9 with fail
    refine wp_region_noPanic ?_
    refine wp_region_until (S := (fun W => Below w3.heap.size w3 W ∧ W.cell? ⟨gc, i, none⟩ = some (.slice ar row.length cr) ∧ W.cell? ⟨gx, ox + i, none⟩ = some (.int .i64 x))) 13 [(0, 0), (0, 1), (0, 2), (0, 3), (0, 4), (0, 5), (0, 6), (0, 7), (0, 8), (0, 9), (1, 10), (1, 11), (0, 12), (2, 13)] (by kernel_rfl) (by kernel_rfl) (by kernel_rfl) rfl (fun _ _ _ _ _ h => h) ?_ (fun hHeld => ?_)
    · exact unhide BX
    refine SeqU.take (by rfl) (v := ?hv9) (by rfl) ?hy9 ?hr9
    case hy9 =>
     intro w hSw
     try dsimp only at hSw
     go_simp
     try (with_reducible rfl)
    try simp only [Act.put, List.setIfInBounds_toArray, List.set_cons_zero, List.set_cons_succ]
    refine SeqU.take (by rfl) (v := ?hv10) (by rfl) ?hy10 ?hr10
    case hy10 =>
     intro w hSw
     try dsimp only at hSw
     go_simp
     try (with_reducible rfl)
    try simp only [Act.put, List.setIfInBounds_toArray, List.set_cons_zero, List.set_cons_succ]
    refine SeqU.take (by rfl) (v := ?hv11) (by rfl) ?hy11 ?hr11
    case hy11 =>
     intro w hSw
     try dsimp only at hSw
     go_simp
     try (with_reducible rfl)
    try simp only [Act.put, List.setIfInBounds_toArray, List.set_cons_zero, List.set_cons_succ]
    refine SeqU.take (by rfl) (v := ?hv12) (by rfl) ?hy12 ?hr12
    case hy12 =>
     intro w hSw
     try dsimp only at hSw
     go_simp
     try (with_reducible rfl)
    try simp only [Act.put, List.setIfInBounds_toArray, List.set_cons_zero, List.set_cons_succ]
    refine SeqU.take (by rfl) (v := ?hv13) (by rfl) ?hy13 ?hr13
    case hy13 =>
     intro w hSw
     try dsimp only at hSw
     go_simp
     try (with_reducible rfl)
    try simp only [Act.put, List.setIfInBounds_toArray, List.set_cons_zero, List.set_cons_succ]
    refine SeqU.take (by rfl) (v := ?hv14) (by rfl) ?hy14 ?hr14
    case hy14 =>
     intro w hSw
     try dsimp only at hSw
     go_simp
     try (with_reducible rfl)
    try simp only [Act.put, List.setIfInBounds_toArray, List.set_cons_zero, List.set_cons_succ]
    refine SeqU.take (by rfl) (v := ?hv15) (by rfl) ?hy15 ?hr15
    case hy15 =>
     intro w hSw
     try dsimp only at hSw
     go_simp
     try (with_reducible rfl)
    try simp only [Act.put, List.setIfInBounds_toArray, List.set_cons_zero, List.set_cons_succ]
    refine SeqU.take (by rfl) (v := ?hv16) (by rfl) ?hy16 ?hr16
    case hy16 =>
     intro w hSw
     try dsimp only at hSw
     go_simp
     try (with_reducible rfl)
    try simp only [Act.put, List.setIfInBounds_toArray, List.set_cons_zero, List.set_cons_succ]
    refine SeqU.take (by rfl) (v := ?hv17) (by rfl) ?hy17 ?hr17
    case hy17 =>
     intro w hSw
     try dsimp only at hSw
     go_simp
     try (with_reducible rfl)
    try simp only [Act.put, List.setIfInBounds_toArray, List.set_cons_zero, List.set_cons_succ]
    refine SeqU.take (by rfl) (v := ?hv18) (by rfl) ?hy18 ?hr18
    case hy18 =>
     intro w hSw
     try dsimp only at hSw
     go_simp
     try (with_reducible rfl)
    try simp only [Act.put, List.setIfInBounds_toArray, List.set_cons_zero, List.set_cons_succ]
    refine SeqU.call (by rfl) (fun K hK => ?_)
    go_simp
    skip
    refine hK.out _ _ ?_ (fun hHeld => ?_)
    · exact ⟨hb.drew.alloc hb.drew.size _, (unhide CAL) _, (unhide CX) _ (hb.drew.alloc hb.drew.size _)⟩
    clear hK K
    try simp only [Act.put, List.setIfInBounds_toArray, List.set_cons_zero, List.set_cons_succ]
    refine SeqU.call (by rfl) (fun K hK => ?_)
    refine step_append_ints (ys := [x]) rfl (.tmp 45) (.tmp 50) rfl rfl (((unhide OR).drewN 1).alloc _) _ 1 1 rfl rfl (Rd.one wo.drew x _) hAl (by show w3.heap.size ≤ (wo.drew.alloc _).heap.size; simp; omega) ?_
    intro v5 W5 o5 g5 hb5
    obtain ⟨a5, c5, rfl⟩ := o5.slice_val
    have oA : OwnS (wo.drew.alloc (.cells #[.int .i64 x] 2)) w3.heap.size (.slice (some ⟨gc, 0, none⟩) m.length cc) (wideTo m b i) := ((unhide HO).drewN 1).alloc _
    have q5 := oA.cell_grown (j := i) (by rw [HCL.out]; exact him) ((unhide CAL) _) g5
    have qc := q5.1
    have qf := q5.2
    have oS := oA.appended (j := i) (by rw [HCL.out]; exact him) ((unhide CAL) _) o5 g5 hb5
    have hW5 : Below w3.heap.size w3 W5 := (hb.drew.alloc hb.drew.size _).grown g5 (by show w3.heap.size ≤ (wo.drew.alloc _).heap.size; simp; omega) (fun q hq => ((unhide OR).lt q hq).1)
    refine hK.out _ _ ?_ (fun hHeld => ?_)
    · exact ⟨hW5, qc, (unhide CX) _ hW5⟩
    clear hK K
    try simp only [Act.put, List.setIfInBounds_toArray, List.set_cons_zero, List.set_cons_succ]
    refine SeqU.take (by rfl) (v := ?hv19) (by rfl) ?hy19 ?hr19
    case hy19 =>
     intro w hSw
     try dsimp only at hSw
     go_simp
     try (with_reducible rfl)
    try simp only [Act.put, List.setIfInBounds_toArray, List.set_cons_zero, List.set_cons_succ]
    refine SeqU.last (by rfl) (fun K hK => ?_)
    go_simp
    skip
    refine hK.out _ _ ?_
    clear hK K
    try simp only [Act.put, List.setIfInBounds_toArray, List.set_cons_zero, List.set_cons_succ]
    refine SeqU.done (NoPanic.normal ?_)
    go_wp2
    go_roundw
    case rel =>
     refine ⟨i + 1, by go_num, by omega, ?_, hW5.setCell hgc _⟩
     show OwnS _ _ _ _
     rw [← HST.out]
     rw [show (row ++ [x]).length = row.length + 1 by simp] at oS
     exact oS
    case measure => simp only [intOf]; omega
  · have hie : i = m.length := by omega
    have oW := ho.out
    rw [hie, HWA.out] at oW
    have RW := hide (oW.rd)
    have ko := (unhide KB) wo co
    have f0 := ko.cell 0
    have f1 := ko.cell 1
    have f2 := ko.cell 2
    clear oW ho hie
    go_wp2_with fail
    refine (unhide HT _ co).mono ?_
    rintro e w5 ⟨tv, rfl, t5, b5⟩
    have T5 := hide t5
    have c5 := Below.chain co b5
    clear f0 f1 f2 t5
    go_wp2_with fail
    refine (unhide HRW _ _ _ _ (unhide T5) ((unhide RW).below b5)).mono ?_
    rintro e w6 ⟨v6, u6, d6, rfl, o6, q6, b6⟩
    have c6 := Below.chain c5 b6
    obtain ⟨a6, k6, rfl, r6⟩ := o6.form
    obtain ⟨a7, k7, rfl, r7, _⟩ := q6.form
    have R6 := hide r6
    have R7 := hide r7
    have hr1 := (c6.cell (p := ⟨gb, ob, none⟩) hgb).trans hr0
    have z6 := c6.size
    clear o6 q6 r6 r7
    go_wp2_with (refine wpList_make_ints rfl (.tmp 66) (.tmp 66) rfl .i64 .i64 n rfl rfl (by omega) ?_; intro w7 g7 o7 b7)
    have O7 := hide (show Own w7 w6.heap.size (.slice (some ⟨g7, 0, none⟩) n n) (solIn R P n 0) from o7)
    clear o7 hr1
    go_wp2_with fail
    go_loopw [70] (fun jv wr => ∃ j : Nat, jv = .int .i64 j ∧ j ≤ P.length ∧ Hid (Own wr w6.heap.size (.slice (some ⟨g7, 0, none⟩) n n) (solIn R P n j)) ∧ Below w6.heap.size w6 wr) (fun jv _ => P.length - (intOf jv).toNat)
    case atStart => exact ⟨0, rfl, Nat.zero_le _, O7, b7⟩
    case round =>
     obtain ⟨j, rfl, hj, ho, hb⟩ := hrel
     have hszj := hb.size
     by_cases hjl : j < P.length
     · obtain ⟨gp, op, rfl, _, hcp⟩ := ((unhide R7).below hb).at_ (by omega)
       have cp1 := hcp j hjl
       obtain ⟨p, hpp, hpn⟩ := (unhide HPB) j hjl
       rw [hpp] at cp1
       obtain ⟨g6, o6, rfl, _, hc6⟩ := ((unhide R6).below hb).at_ (by have := HRL.out; omega)
       obtain ⟨ar, cr, hr6, hrr⟩ := hc6 j (by have := HRL.out; omega)
       have hnl := (unhide HNR) j (by have := HRL.out; omega)
       obtain ⟨gr, or_, rfl, _, hcr⟩ := hrr.at_ (by omega)
       have cn := hcr n (by omega)
       rw [hnl] at hr6
       have hsl : (solIn R P n j).length = n := solIn_len R P n j
       have cv := ho.out.cell (j := p) (by rw [hsl]; exact hpn)
       have pv := ho.out.frozen p
       have hstep : solIn R P n (j + 1) = (solIn R P n j).set p (nth (nthL R j) n) := by rw [solIn, hpp, Int.toNat_natCast]
       obtain ⟨y, hyy⟩ : ∃ y, y = nth (nthL R j) n := ⟨_, rfl⟩
       obtain ⟨S, hS⟩ : ∃ S, S = solIn R P n j := ⟨_, rfl⟩
       rw [← hyy] at cn hstep
       rw [← hS] at hstep cv ho
       obtain ⟨z, hz⟩ : ∃ z, z = nth S p := ⟨_, rfl⟩
       rw [← hz] at cv
       have hpe : ((p : Int) == (n : Int)) = false := by rw [beq_eq_false_iff_ne]; omega
       have hg7 : w6.heap.size ≤ g7 := (ho.out.lt g7 rfl).1
       have HSTEP := Lib.hid hstep
       have HS := hide (ho.out.set p y)
       have hnj : j < R.length := by have := HRL.out; omega
       clear hpp hcp hc6 hrr hcr hyy hS hz hstep hsl ho hnl
       go_wp2
       go_roundw
       case rel => exact ⟨j + 1, by go_num, by omega, by show Own _ _ _ _; rw [HSTEP.out]; exact (unhide HS).1, hb.setCell (p := ⟨g7, p, none⟩) hg7 _⟩
       case measure => simp only [intOf]; omega
     · have hje : j = P.length := by omega
       have oo := ho.out
       rw [hje] at oo
       have OO := hide (oo.mono (show w.heap.size ≤ w6.heap.size by have := (b0.trans (c6.mono (Nat.le_of_lt sk0))).size; omega))
       have hbz := b0.trans ((c6.trans (hb.mono c6.size)).mono (Nat.le_of_lt sk0))
       clear hje oo ho
       go_wp2
       go_ret2
       exact ⟨⟨_, rfl, unhide OO⟩, hbz⟩
end Go.Proofs.Ytgfcbmflnldicaa
namespace Go.Proofs.Ytgfcbmflnldicaa
open Go.RowKit
section
variable {F : FD} {n : Nat} {m : List (List Int)}
theorem dotF_dt {xs ys : List Int} (h : xs.length = n) : dotF F xs ys = dt F n (nth xs) (nth ys) := by rw [dotF, h]; rfl
theorem prod_nth (m N : List (List Int)) {i : Nat} (hi : i < m.length) : nthL (prodTo F m N m.length) i = N.map (dotF F (nthL m i)) := by
 rw [prodTo, List.take_length, nthL, nthL_lt hi]
 simp [hi]
theorem nth_map_dot (N : List (List Int)) (row : List Int) {j : Nat} (hj : j < N.length) : nth (N.map (dotF F row)) j = dotF F row (nthL N j) := by
 rw [nthL_lt hj, nth]
 simp [hj]
theorem null_prod (hC : MG F n m) {i j : Nat} (hi : i < m.length) (hj : j < (nul F m n).length) : (nthL (prodTo F m (nul F m n) m.length) i).length = (nul F m n).length ∧ nth (nthL (prodTo F m (nul F m n) m.length) i) j = 0 := by
 have ok := hC.good.ok
 have hNM := nul_Mat ok m n
 rw [prod_nth m _ hi, List.length_map, nth_map_dot _ _ hj, dotF_dt (Mat_nth hC.mat hi).1]
 refine ⟨rfl, ?_⟩
 have hr := (nul_spec hC.good hC.mat).1 (nth (nthL (nul F m n) j)) (fun i => row_el ok hNM j i) (fun i hi => (Sp.row ok hNM hj).big ok hNM hi)
 exact hr.1 (Sp.row ok hNM hj) i hi
theorem Mat_one {x : List Int} (hl : x.length = n) (he : ∀ y ∈ x, 0 ≤ y ∧ y < F.n) : F.Mat n [x] := fun xs hx => by rw [List.mem_singleton.1 hx]; exact ⟨hl, he⟩
theorem MG.one (hC : MG F n m) {x : List Int} (hl : x.length = n) (he : ∀ y ∈ x, 0 ≤ y ∧ y < F.n) : MG F n [x] := ⟨hC.good, Nat.le_refl _, by simp, hC.n1, hC.n32, Mat_one hl he⟩
def rside (F : FD) (m : List (List Int)) (x : List Int) : List Int := m.map fun row => dotF F row x
theorem rside_len (m : List (List Int)) (x : List Int) : (rside F m x).length = m.length := by simp [rside]
theorem rside_nth (m : List (List Int)) (x : List Int) {i : Nat} (hi : i < m.length) : nth (rside F m x) i = dotF F (nthL m i) x := by
 rw [nthL_lt hi, rside, nth]
 simp [hi]
theorem rside_el (ok : F.Ok) (m : List (List Int)) (x : List Int) : ∀ y ∈ rside F m x, 0 ≤ y ∧ y < F.n := fun y hy => by
 obtain ⟨row, _, rfl⟩ := List.mem_map.1 hy
 exact dotF_bd ok _ _
def bcol (F : FD) (m : List (List Int)) (x : List Int) : List (List Int) := m.map fun row => [dotF F row x]
theorem prod_one (m : List (List Int)) (x : List Int) : prodTo F m [x] m.length = bcol F m x := by rw [prodTo, List.take_length]; rfl
theorem bcol_len (m : List (List Int)) (x : List Int) : (bcol F m x).length = m.length := by simp [bcol]
theorem bcol_Mat (ok : F.Ok) (m : List (List Int)) (x : List Int) : F.Mat 1 (bcol F m x) := fun xs hx => by
 obtain ⟨row, _, rfl⟩ := List.mem_map.1 hx
 refine ⟨rfl, fun y hy => ?_⟩
 rw [List.mem_singleton.1 hy]; exact dotF_bd ok _ _
theorem bcol_cols (m : List (List Int)) (x : List Int) : cols (bcol F m x) 1 = [rside F m x] := by
 rw [cols, bcol, rside]
 simp [nth]
theorem solved (hC : MG F n m) {x : List Int} (hl : x.length = n) (he : ∀ y ∈ x, 0 ≤ y ∧ y < F.n) :
    (∀ j, j < (red F (wideM m (rside F m x)) (n + 1)).2.length → ∃ p : Nat, nth (red F (wideM m (rside F m x)) (n + 1)).2 j = (p : Int) ∧ p < n) ∧
    (let y := solIn (form F (wideM m (rside F m x)) (n + 1)) (red F (wideM m (rside F m x)) (n + 1)).2 n (red F (wideM m (rside F m x)) (n + 1)).2.length
     y.length = n ∧ (∀ z ∈ y, 0 ≤ z ∧ z < F.n) ∧ bcol F m y = bcol F m x) := by
 have ok := hC.good.ok
 have hxe : ∀ i, F.el (nth x i) := fun i => by
  by_cases h : i < x.length
  · exact hC.good.el_iff.2 (he _ (nth_mem h))
  · have : nth x i = 0 := by rw [nth]; simp [Nat.le_of_not_lt h]
    rw [this]; exact zero_el ok
 have hWM := wideM_Mat hC.mat (rside_len m x) (rside_el ok m x)
 obtain ⟨pv, hpv, hpl, hpn, hsol⟩ := solve_law hC.good hC.mat hxe (rside_len (F := F) m x) (fun i hi => by rw [rside_nth m x hi, dotF_dt (Mat_nth hC.mat hi).1]) (rside_el ok m x)
 refine ⟨fun j hj => ?_, ?_⟩
 · have hj' : j < pv.length := by rw [hpv, List.length_map] at hj; exact hj
   refine ⟨pv.getD j 0, ?_, hpn j hj'⟩
   rw [hpv, nth_lt (by rw [List.length_map]; exact hj'), List.getElem_map, List.getD_eq_getElem?_getD, List.getElem?_eq_getElem hj']
   rfl
 · rw [hpv, List.length_map]
   refine ⟨solIn_len _ _ _ _, ?_, ?_⟩
   · obtain ⟨_, _, hE, _⟩ := form_ech hC.good hWM
     exact sol_el hC.good hE.mat _ n _
   · rw [bcol, bcol]
     refine List.map_congr_left fun row hr => ?_
     obtain ⟨i, hi, rfl⟩ := List.getElem_of_mem hr
     have h1 := hsol i hi
     rw [rside_nth m x hi, ← dotF_dt (Mat_nth hC.mat hi).1, nthL_lt hi] at h1
     rw [h1]
end
end Go.Proofs.Ytgfcbmflnldicaa
namespace Go.Proofs.Ytgfcbmflnldicaa
open Go.RowKit
attribute [local go_sem ↓] Go.wp_at_zero Go.wp_at_succ
theorem matMulS_ok (F : FD) (ap : Option Addr) (cp : Nat) (ra : Option Addr) (rc : Nat) (m : List (List Int)) (ba : Option Addr) (bc : Nat) (q : List (List Int)) (nb : Nat) (n : Nat) (w : World) (hR : Rd w ap F.poly) (hm : RdS w ra m) (hC : MG F n m) (hq : RdS w ba q) (hD : MG F nb q) (hql : q.length = n) :
    Calls Try.prog 16 #[.agg #[.int .i64 F.p, .int .i64 F.k, .slice ap F.poly.length cp], .slice ra m.length rc, .slice ba q.length bc] w fun e w' => (∃ v, e = .returned (.tuple #[v, .int .i64 0]) ∧ OwnS w' w.heap.size v (prodTo F m (cols q nb) m.length)) ∧ Below w.heap.size w w' := by
 have hml := hm.len
 have hG := hC.good
 have ok := hC.good.ok
 obtain ⟨n2, n64⟩ := ok.n_bd
 have hm1 := hC.m1
 have hm32 := hC.m32
 have hn1 := hC.n1
 have hn32 := hC.n32
 have hM := hC.mat
 have hm0 : 0 < m.length := by omega
 obtain ⟨W0, hHW⟩ : ∃ z, z = w.alloc (.cells #[.int .i64 F.p, .int .i64 F.k, .slice ap F.poly.length cp] 26) := ⟨_, rfl⟩
 have b0 : Below w.heap.size w W0 := by rw [hHW]; exact (Below.refl _ _).alloc (Nat.le_refl _) _
 have k0 : Blk W0 w.heap.size 26 #[.int .i64 F.p, .int .i64 F.k, .slice ap F.poly.length cp] := by rw [hHW]; exact Blk.new _ _ _ rfl
 have sk0 : w.heap.size < W0.heap.size := k0.lt
 have HW := Lib.hid hHW
 clear hHW
 have hP0 : PR W0 w.heap.size F.p F.k ap cp F.poly := ⟨k0.cell 0, k0.cell 1, k0.cell 2, hR.below b0⟩
 have hV := l17Ok_any w.heap.size F.p F.k ap cp F.poly ra rc m W0 hP0 (hm.below b0)
 rw [hC.okM] at hV
 obtain ⟨gb, ob, rfl, hgb, hcc⟩ := (hm.below b0).at_ hm1
 obtain ⟨ai, ci, hr0, _⟩ := hcc 0 hm1
 rw [Nat.add_zero, hC.hn] at hr0
 have HV := hide hV
 have HT := hide (fun W (h : Below W0.heap.size W0 W) => tablesOf_any F ap cp W ((hR.below b0).below h) ok)
 have HRE := hide (fun tv W (h : Below W0.heap.size W0 W) hT => reduce_any F tv (some ⟨gb, ob, none⟩) rc m n W hT hG ((hm.below b0).below h) hm0 hM)
 clear hV hcc
 have hqm := hD.m1
 have hqm32 := hD.m32
 have hnb := hD.n32
 have hV2 := fun W (h : Below W0.heap.size W0 W) => l17Ok_any w.heap.size F.p F.k ap cp F.poly ba bc q W (hP0.below h) ((hq.below b0).below h)
 rw [hD.okM] at hV2
 have HV2 := hide hV2
 have HTU := hide (fun W (h : Below W0.heap.size W0 W) => l17Turn_any ba bc q nb W ((hq.below b0).below h) (fun xs hx => (hD.mat xs hx).1) (by omega) (by omega) (by omega))
 have hcM := cols_Mat ok hD.mat
 rw [hql] at hcM
 have hcl := cols_len q nb
 obtain ⟨cs, hcs⟩ : ∃ cs, cs = cols q nb := ⟨_, rfl⟩
 rw [← hcs] at HTU hcM hcl ⊢
 have hcc2 : ∀ k, k < m.length → ∃ ak ck, W0.cell? ⟨gb, ob + k, none⟩ = some (.slice ak n ck) ∧ Rd W0 ak (nthL m k) := fun k hk => by
  obtain ⟨_, _, e, _, hcc⟩ := (hm.below b0).at_ hm1
  injection e with e
  injection e with e e2
  subst e
  subst e2
  obtain ⟨ak, ck, h1, h2⟩ := hcc k hk
  rw [(Mat_nth hM hk).1] at h1
  exact ⟨ak, ck, h1, h2⟩
 have HCC := hide hcc2
 have HDT := hide (fun (i k : Nat) (hi : i < m.length) (hk : k < cs.length) (a1 : Option Addr) (c1 : Nat) (a2 : Option Addr) (c2 : Nat) W (h : Below W0.heap.size W0 W) (r1 : Rd W a1 (nthL m i)) (r2 : Rd W a2 (nthL cs k)) => l17Dot_any w.heap.size F a1 a2 c1 c2 (nthL m i) (nthL cs k) n W (hP0.below h).pf ok r1 r2 (Mat_nth hM hi).1 (Mat_nth hcM hk).1 (Mat_nth hM hi).2 (Mat_nth hcM hk).2)
 have HCL := hide (fun k (hk : k < cs.length) => (Mat_nth hcM hk).1)
 have hne : ((n : Int) != (q.length : Int)) = false := by rw [bne_eq_false_iff_eq]; omega
 have hcle : cs.length ≤ 32 := by omega
 have KB := hide (show ∀ W, Below W0.heap.size W0 W → Blk W w.heap.size 26 #[.int .i64 F.p, .int .i64 F.k, .slice ap F.poly.length cp] from fun W h => k0.below h k0.lt)
 clear hC hM hG ok hD hql hV2 hcc2 hcM hcs hP0
 have f0 := k0.cell 0
 have f1 := k0.cell 1
 have f2 := k0.cell 2
 go_enter Try.func16, Try.ntmps16
 go_upto_region 1 with fail
 rw [← HW.out]
 go_wp2_with fail
 refine (unhide HV).mono ?_
 rintro e w1 ⟨rfl, b1⟩
 have k1 := k0.below b1 k0.lt
 have hr1 := (b1.cell (p := ⟨gb, ob, none⟩) hgb).trans hr0
 clear f0 f1 f2
 have f0 := k1.cell 0
 have f1 := k1.cell 1
 have f2 := k1.cell 2
 have bb1 := b0.trans (b1.mono (Nat.le_of_lt sk0))
 go_wp2_with fail
 refine (unhide HV2 _ b1).mono ?_
 rintro e w2 ⟨rfl, b2⟩
 have c2 := Below.chain b1 b2
 clear f0 f1 f2 hr1
 have hr1 := (c2.cell (p := ⟨gb, ob, none⟩) hgb).trans hr0
 go_wp2_with fail
 refine (unhide HTU _ c2).mono ?_
 rintro e w3 ⟨v3, rfl, o3, b3⟩
 have c3 := Below.chain c2 b3
 have bb3 := b0.trans (c3.mono (Nat.le_of_lt sk0))
 have z3 := bb3.size
 obtain ⟨ga, gc, rfl, r3⟩ := o3.form
 have R3 := hide r3
 clear o3 r3 hr1
 go_wp2_with fail
 go_loopw [9, 10] (fun v iv wr => ∃ i : Nat, iv = .int .i64 i ∧ i ≤ m.length ∧ Hid (OwnS wr w3.heap.size v (prodTo F m cs i)) ∧ Below w3.heap.size w3 wr) (fun _ iv _ => m.length - (intOf iv).toNat)
 case atStart => exact ⟨0, rfl, Nat.zero_le _, OwnS.empty w3 (Nat.le_refl _), (Below.refl _ _).alloc (Nat.le_refl _) _⟩
 case round =>
  obtain ⟨i, rfl, hi, ho, hb⟩ := hrel
  rename World => wo
  have hsz := hb.size
  have co := Below.chain c3 hb
  by_cases hil : i < m.length
  · obtain ⟨ax, cx, hx1, hxr⟩ := unhide HCC i hil
    have HXR := hide hxr
    clear hxr
    go_wp2_with fail
    go_loopw [11, 12] (fun v kv wr => ∃ k : Nat, kv = .int .i64 k ∧ k ≤ cs.length ∧ Hid (Own wr wo.heap.size v (lineTo F (nthL m i) cs k)) ∧ Below wo.heap.size wo wr) (fun _ kv _ => cs.length - (intOf kv).toNat)
    case atStart => exact ⟨0, rfl, Nat.zero_le _, Own.empty wo (Nat.le_refl _), (Below.refl _ _).alloc (Nat.le_refl _) _⟩
    case round =>
     obtain ⟨k, rfl, hk, ho2, hb2⟩ := hrel
     have hz2 := hb2.size
     have cr := Below.chain co hb2
     by_cases hkl : k < cs.length
     · obtain ⟨gq, oq, rfl, hgq, hcq⟩ := (unhide R3).at_ (by omega)
       obtain ⟨ay, cy, hy1, hyr⟩ := hcq k hkl
       rw [unhide HCL k hkl] at hy1
       have hd := fun W (h : Below wo.heap.size wo W) => unhide HDT i k hil hkl ax cx ay cy W (Below.chain co h) ((unhide HXR).below (Below.chain co h)) (hyr.below (Below.chain hb h))
       have hst := lineTo_succ F (nthL m i) cs hkl
       have hsl := lineTo_len F (nthL m i) cs hk
       obtain ⟨D, hD⟩ : ∃ D, D = dotF F (nthL m i) (nthL cs k) := ⟨_, rfl⟩
       rw [← hD] at hd hst
       have HD := hide hd
       have HST := Lib.hid hst
       have HSL := Lib.hid hsl
       have BX := hide (show ∀ W, Below wo.heap.size wo W → (Below wo.heap.size wo W ∧ W.cell? ⟨gb, ob + i, none⟩ = some (.slice ax n cx) ∧ W.cell? ⟨gq, oq + k, none⟩ = some (.slice ay n cy)) from fun W h => ⟨h, ((Below.chain co h).cell (p := ⟨gb, ob + i, none⟩) hgb).trans hx1, ((Below.chain hb h).cell (p := ⟨gq, oq + k, none⟩) hgq).trans hy1⟩)
       have hAl : (lineTo F (nthL m i) cs k).length + [D].length ≤ 1073741824 := by rw [hsl]; simp; omega
       clear hd hst hD hsl hyr hcq
       go_upto_region 14 with fail
       refine wp_region_noPanic ?_
       refine wp_region_ord (S := (fun W => Below wo.heap.size wo W ∧ W.cell? ⟨gb, ob + i, none⟩ = some (.slice ax n cx) ∧ W.cell? ⟨gq, oq + k, none⟩ = some (.slice ay n cy))) [(true, 0), (true, 1), (true, 2), (true, 3), (true, 4), (true, 5), (true, 6), (true, 7), (true, 8), (false, 9), (false, 10), (false, 11), (true, 12)] (by kernel_rfl) (by kernel_rfl) (by kernel_rfl) rfl (fun _ _ _ _ _ h => h) ?_ (fun hHeld => ?_)
       · exact (unhide BX) _ hb2.drew
       refine SeqO.take (by rfl) (v := ?hv20) (by rfl) ?hy20 ?hr20
       case hy20 =>
        intro w hSw
        try dsimp only at hSw
        go_simp
        try (with_reducible rfl)
       try simp only [Act.put, List.setIfInBounds_toArray, List.set_cons_zero, List.set_cons_succ]
       refine SeqO.take (by rfl) (v := ?hv21) (by rfl) ?hy21 ?hr21
       case hy21 =>
        intro w hSw
        try dsimp only at hSw
        go_simp
        try (with_reducible rfl)
       try simp only [Act.put, List.setIfInBounds_toArray, List.set_cons_zero, List.set_cons_succ]
       refine SeqO.take (by rfl) (v := ?hv22) (by rfl) ?hy22 ?hr22
       case hy22 =>
        intro w hSw
        try dsimp only at hSw
        go_simp
        try (with_reducible rfl)
       try simp only [Act.put, List.setIfInBounds_toArray, List.set_cons_zero, List.set_cons_succ]
       refine SeqO.take (by rfl) (v := ?hv23) (by rfl) ?hy23 ?hr23
       case hy23 =>
        intro w hSw
        try dsimp only at hSw
        go_simp
        try (with_reducible rfl)
       try simp only [Act.put, List.setIfInBounds_toArray, List.set_cons_zero, List.set_cons_succ]
       refine SeqO.take (by rfl) (v := ?hv24) (by rfl) ?hy24 ?hr24
       case hy24 =>
        intro w hSw
        try dsimp only at hSw
        go_simp
        try (with_reducible rfl)
       try simp only [Act.put, List.setIfInBounds_toArray, List.set_cons_zero, List.set_cons_succ]
       refine SeqO.take (by rfl) (v := ?hv25) (by rfl) ?hy25 ?hr25
       case hy25 =>
        intro w hSw
        try dsimp only at hSw
        go_simp
        try (with_reducible rfl)
       try simp only [Act.put, List.setIfInBounds_toArray, List.set_cons_zero, List.set_cons_succ]
       refine SeqO.take (by rfl) (v := ?hv26) (by rfl) ?hy26 ?hr26
       case hy26 =>
        intro w hSw
        try dsimp only at hSw
        go_simp
        try (with_reducible rfl)
       try simp only [Act.put, List.setIfInBounds_toArray, List.set_cons_zero, List.set_cons_succ]
       refine SeqO.take (by rfl) (v := ?hv27) (by rfl) ?hy27 ?hr27
       case hy27 =>
        intro w hSw
        try dsimp only at hSw
        go_simp
        try (with_reducible rfl)
       try simp only [Act.put, List.setIfInBounds_toArray, List.set_cons_zero, List.set_cons_succ]
       refine SeqO.take (by rfl) (v := ?hv28) (by rfl) ?hy28 ?hr28
       case hy28 =>
        intro w hSw
        try dsimp only at hSw
        go_simp
        try (with_reducible rfl)
       try simp only [Act.put, List.setIfInBounds_toArray, List.set_cons_zero, List.set_cons_succ]
       refine SeqO.call (by rfl) (fun K hK => ?_)
       go_simp
       refine (unhide HD _ (And.left hHeld)).mono ?_
       rintro e w4 ⟨rfl, b4⟩
       have hB4 := Below.chain (And.left hHeld) b4
       have hZ4 := hB4.size
       have o4 := (ho2.out.drewN 1).below b4 (Nat.le_refl _)
       go_wp2_with fail
       refine hK.out _ _ ?_ (fun hHeld => ?_)
       · exact (unhide BX) _ hB4
       clear hK K
       try simp only [Act.put, List.setIfInBounds_toArray, List.set_cons_zero, List.set_cons_succ]
       refine SeqO.call (by rfl) (fun K hK => ?_)
       go_simp
       refine hK.out _ _ ?_ (fun hHeld => ?_)
       · exact (unhide BX) _ (hB4.alloc hZ4 _)
       clear hK K
       try simp only [Act.put, List.setIfInBounds_toArray, List.set_cons_zero, List.set_cons_succ]
       refine SeqO.call (by rfl) (fun K hK => ?_)
       refine step_append_ints (ys := [D]) rfl (.tmp 44) (.tmp 54) rfl rfl (o4.alloc _) _ 1 1 rfl rfl (Rd.one w4 D _) hAl (alloc_le hZ4 _) ?_
       intro v5 W5 o5 g5 _
       have hB5 := Below.step (hB4.alloc hZ4 _) g5 (o4.alloc _) (Nat.le_refl _) (alloc_le hZ4 _)
       refine hK.out _ _ ?_ (fun hHeld => ?_)
       · exact (unhide BX) _ hB5
       clear hK K
       try simp only [Act.put, List.setIfInBounds_toArray, List.set_cons_zero, List.set_cons_succ]
       refine SeqO.take (by rfl) (v := ?hv29) (by rfl) ?hy29 ?hr29
       case hy29 =>
        intro w hSw
        try dsimp only at hSw
        go_simp
        try (with_reducible rfl)
       try simp only [Act.put, List.setIfInBounds_toArray, List.set_cons_zero, List.set_cons_succ]
       refine SeqO.done (NoPanic.normal ?_)
       go_wp2
       go_roundw
       case rel => exact ⟨k + 1, by go_num, by omega, by show Own _ _ _ _; rw [HST.out]; exact o5, hB5⟩
       case measure => simp only [intOf]; omega
     · have hke : k = cs.length := by omega
       have HK := Lib.hid hke
       clear hke
       have o5 := ho2.out
       have hli : lineTo F (nthL m i) cs cs.length = cs.map (dotF F (nthL m i)) := by rw [lineTo, List.take_length]
       rw [HK.out, hli] at o5
       have hst := prodTo_succ F m cs hil
       have hsl := prodTo_len F m cs hi
       obtain ⟨line, hline⟩ : ∃ line, line = cs.map (dotF F (nthL m i)) := ⟨_, rfl⟩
       rw [← hline] at o5 hst
       obtain ⟨a5, c5, rfl⟩ := o5.slice_val
       have hH := ho.out.toH.belw hb2 (Nat.le_refl _)
       have hb12 := hb.trans (hb2.mono hsz)
       have HST := Lib.hid hst
       have HSL := Lib.hid hsl
       have O5 := Lib.hid o5
       clear o5 hst hsl hline hli
       go_wp2_with (at_builtin; refine wpList_append_row rfl (.tmp 56) (.tmp 58) rfl (v := u9) rfl (hH.belw ((Below.refl _ _).alloc (Nat.le_refl _) _) hz2) _ rfl ((Blk.new wr 24 #[.slice a5 line.length c5] rfl).cell 0) (O5.out.alloc _) hsz (by simp; omega) (by rw [HSL.out]; omega) ?_; intro v2 w2 o2 g2 _)
       go_roundw
       case rel =>
        refine ⟨i + 1, by go_num, by omega, ?_, Below.stepS (hb12.alloc (by omega) _) g2 (hH.belw ((Below.refl _ _).alloc (Nat.le_refl _) _) hz2).own (Nat.le_refl _) (by simp; omega)⟩
        show OwnS _ _ _ _
        rw [HST.out]
        exact o2
       case measure => simp only [intOf]; omega
  · have hie : i = m.length := by omega
    have oo := ho.out
    rw [hie] at oo
    have OO := hide (oo.mono z3)
    have hbz := b0.trans ((c3.trans (hb.mono c3.size)).mono (Nat.le_of_lt sk0))
    clear hie oo ho
    go_wp2
    go_ret2
    exact ⟨⟨_, rfl, unhide OO⟩, hbz⟩
theorem v8Lists_ok (a b : Option Addr) (c d : Nat) (xss yss : List (List Int)) (w : World) (hx : RdS w a xss) (hy : RdS w b yss) (heq : xss = yss) :
    Calls Try.prog 11 #[.slice a xss.length c, .slice b yss.length d] w fun e w' => e = .returned (.bool true) ∧ Below w.heap.size w w' := by
 subst heq
 have hxl := hx.len
 have HX := hide hx
 have HY := hide hy
 have hne : ((xss.length : Int) != (xss.length : Int)) = false := by simp
 clear hx hy
 go_enter Try.func11, Try.ntmps11
 go_wp2_with fail
 go_loopw [5] (fun iv wr => ∃ i : Nat, iv = .int .i64 i ∧ i ≤ xss.length ∧ Below w.heap.size w wr) (fun iv _ => xss.length - (intOf iv).toNat)
 case atStart => exact ⟨0, rfl, Nat.zero_le _, Below.refl _ _⟩
 case round =>
  obtain ⟨i, rfl, hi, hb⟩ := hrel
  by_cases hil : i < xss.length
  · obtain ⟨g1, o1, rfl, hg1, hc1⟩ := (unhide HX).at_ (by omega)
    obtain ⟨g2, o2, rfl, hg2, hc2⟩ := (unhide HY).at_ (by omega)
    obtain ⟨a1, k1, h1, r1⟩ := hc1 i hil
    obtain ⟨a2, k2, h2, r2⟩ := hc2 i hil
    have hs := fun W (h : Below w.heap.size w W) => v8Same_any a1 a2 k1 k2 (nthL xss i) (nthL xss i) W (r1.below h) (r2.below h)
    rw [show decide (nthL xss i = nthL xss i) = true by simp] at hs
    obtain ⟨N, hN⟩ : ∃ N, N = (nthL xss i).length := ⟨_, rfl⟩
    rw [← hN] at h1 h2 hs
    have HS := hide hs
    have BX := hide (show ∀ W, Below w.heap.size w W → (Below w.heap.size w W ∧ W.cell? ⟨g1, o1 + i, none⟩ = some (.slice a1 N k1) ∧ W.cell? ⟨g2, o2 + i, none⟩ = some (.slice a2 N k2)) from fun W h => ⟨h, (h.cell (p := ⟨g1, o1 + i, none⟩) hg1).trans h1, (h.cell (p := ⟨g2, o2 + i, none⟩) hg2).trans h2⟩)
    clear hc1 hc2 r1 r2 hs hN h1 h2
    go_upto_region 6 with fail
    refine wp_region_noPanic ?_
    refine wp_region_ord (S := (fun W => Below w.heap.size w W ∧ W.cell? ⟨g1, o1 + i, none⟩ = some (.slice a1 N k1) ∧ W.cell? ⟨g2, o2 + i, none⟩ = some (.slice a2 N k2))) [(true, 0), (true, 1), (true, 2), (true, 3), (true, 4), (true, 5), (true, 6), (true, 7), (false, 8), (true, 9)] (by kernel_rfl) (by kernel_rfl) (by kernel_rfl) rfl (fun _ _ _ _ _ h => h) ?_ (fun hHeld => ?_)
    · exact (unhide BX) _ hb.drew
    refine SeqO.take (by rfl) (v := ?hv30) (by rfl) ?hy30 ?hr30
    case hy30 =>
     intro w hSw
     try dsimp only at hSw
     go_simp
     try (with_reducible rfl)
    try simp only [Act.put, List.setIfInBounds_toArray, List.set_cons_zero, List.set_cons_succ]
    refine SeqO.take (by rfl) (v := ?hv31) (by rfl) ?hy31 ?hr31
    case hy31 =>
     intro w hSw
     try dsimp only at hSw
     go_simp
     try (with_reducible rfl)
    try simp only [Act.put, List.setIfInBounds_toArray, List.set_cons_zero, List.set_cons_succ]
    refine SeqO.take (by rfl) (v := ?hv32) (by rfl) ?hy32 ?hr32
    case hy32 =>
     intro w hSw
     try dsimp only at hSw
     go_simp
     try (with_reducible rfl)
    try simp only [Act.put, List.setIfInBounds_toArray, List.set_cons_zero, List.set_cons_succ]
    refine SeqO.take (by rfl) (v := ?hv33) (by rfl) ?hy33 ?hr33
    case hy33 =>
     intro w hSw
     try dsimp only at hSw
     go_simp
     try (with_reducible rfl)
    try simp only [Act.put, List.setIfInBounds_toArray, List.set_cons_zero, List.set_cons_succ]
    refine SeqO.take (by rfl) (v := ?hv34) (by rfl) ?hy34 ?hr34
    case hy34 =>
     intro w hSw
     try dsimp only at hSw
     go_simp
     try (with_reducible rfl)
    try simp only [Act.put, List.setIfInBounds_toArray, List.set_cons_zero, List.set_cons_succ]
    refine SeqO.take (by rfl) (v := ?hv35) (by rfl) ?hy35 ?hr35
    case hy35 =>
     intro w hSw
     try dsimp only at hSw
     go_simp
     try (with_reducible rfl)
    try simp only [Act.put, List.setIfInBounds_toArray, List.set_cons_zero, List.set_cons_succ]
    refine SeqO.take (by rfl) (v := ?hv36) (by rfl) ?hy36 ?hr36
    case hy36 =>
     intro w hSw
     try dsimp only at hSw
     go_simp
     try (with_reducible rfl)
    try simp only [Act.put, List.setIfInBounds_toArray, List.set_cons_zero, List.set_cons_succ]
    refine SeqO.take (by rfl) (v := ?hv37) (by rfl) ?hy37 ?hr37
    case hy37 =>
     intro w hSw
     try dsimp only at hSw
     go_simp
     try (with_reducible rfl)
    try simp only [Act.put, List.setIfInBounds_toArray, List.set_cons_zero, List.set_cons_succ]
    refine SeqO.call (by rfl) (fun K hK => ?_)
    go_simp
    refine (unhide HS _ (And.left hHeld)).mono ?_
    rintro e w4 ⟨rfl, q4⟩
    have hB4 := (And.left hHeld).trans (q4.below _)
    go_wp2_with fail
    refine hK.out _ _ ?_ (fun hHeld => ?_)
    · exact (unhide BX) _ hB4
    clear hK K
    try simp only [Act.put, List.setIfInBounds_toArray, List.set_cons_zero, List.set_cons_succ]
    refine SeqO.take (by rfl) (v := ?hv38) (by rfl) ?hy38 ?hr38
    case hy38 =>
     intro w hSw
     try dsimp only at hSw
     go_simp
     try (with_reducible rfl)
    try simp only [Act.put, List.setIfInBounds_toArray, List.set_cons_zero, List.set_cons_succ]
    refine SeqO.done (NoPanic.normal ?_)
    go_wp2
    go_roundw
    case rel => exact ⟨i + 1, by go_num, by omega, hB4⟩
    case measure => simp only [intOf]; omega
  · go_wp2
    go_ret
    exact ⟨rfl, hb⟩
end Go.Proofs.Ytgfcbmflnldicaa
namespace Go.Proofs.Ytgfcbmflnldicaa
open Go.RowKit
attribute [local go_sem ↓] Go.wp_at_zero Go.wp_at_succ
def MatV (w : World) (e : Ending) (w' : World) : Prop := ∃ (F : FD) (n : Nat) (m : List (List Int)) (v u : Value), e = .returned (.tuple #[.agg #[.int .i64 F.p, .int .i64 F.k, v], u]) ∧ MG F n m ∧ Own w' w.heap.size v F.poly ∧ OwnS w' w.heap.size u m ∧ Below w.heap.size w w'
theorem V8Matrix_any (a : Option Addr) (c : Nat) (bs : List Int) (w : World) (h : RdB w a bs) :
    Calls Try.prog 5 #[.slice a bs.length c] w (MatV w) := by
 obtain ⟨W0, hW0⟩ : ∃ W0, W0 = w.alloc (.cells #[.int .i64 0, .int .i64 0, .slice none 0 0] 26) := ⟨_, rfl⟩
 have b0 : Below w.heap.size w W0 := by rw [hW0]; exact (Below.refl _ _).alloc (Nat.le_refl _) _
 have k0 : Blk W0 w.heap.size 26 #[.int .i64 0, .int .i64 0, .slice none 0 0] := by rw [hW0]; exact Blk.new _ _ _ rfl
 have z0 : w.heap.size < W0.heap.size := k0.lt
 have HB := hide (h.below b0)
 have HW := Lib.hid hW0
 clear hW0 h
 go_enter Try.func5, Try.ntmps5
 go_upto_region 1 with fail
 rw [← HW.out]
 go_wp2_with fail
 refine (from_any a c bs W0 (unhide HB)).mono ?_
 rintro e w1 ⟨rfl, s1, b1, z1⟩
 go_wp2_with fail
 refine (drawField_any W0.heap.size 0 w1 s1 (by omega)).mono ?_
 rintro e w2 ⟨v2, F, rfl, hG, hF9, o2, s2, m2⟩
 have ok := hG.ok
 have z2 := m2.size
 obtain ⟨a2, c2, rfl, _, _⟩ := o2.form
 obtain ⟨W3, hW3⟩ : ∃ W3, W3 = w2.alloc (.cells #[.int .i64 F.p, .int .i64 F.k, .slice a2 F.poly.length c2] 26) := ⟨_, rfl⟩
 have b3 : Below w2.heap.size w2 W3 := by rw [hW3]; exact (Below.refl _ _).alloc (Nat.le_refl _) _
 have k3 : Blk W3 w2.heap.size 26 #[.int .i64 F.p, .int .i64 F.k, .slice a2 F.poly.length c2] := by rw [hW3]; exact Blk.new _ _ _ rfl
 have z3 : w2.heap.size < W3.heap.size := k3.lt
 have o3 := o2.below b3 (Nat.le_refl _)
 have s3 := s2.below b3
 have HW3 := Lib.hid hW3
 clear hW3
 go_upto_region 3 with fail
 rw [← HW3.out]
 go_wp2_with fail
 refine (pick_any W0.heap.size 2 5 W3 s3 (by omega)).mono ?_
 rintro e w4 ⟨x4, rfl, hx4, _, s4, m4⟩
 have hx4' : x4 ≤ 4 := by omega
 obtain ⟨R, hR⟩ : ∃ R, R = 1 + x4 := ⟨_, rfl⟩
 have hw4 : IntKind.i64.wrap (1 + (x4 : Int)) = (R : Int) := by rw [IntWalk.i64_in _ (by omega)]; omega
 have hR5 : 1 ≤ R := by omega
 have hR5' : R ≤ 5 := by omega
 clear hx4 hx4' hR
 go_wp2_with fail
 refine (pick_any W0.heap.size 4 6 w4 s4 (by omega)).mono ?_
 rintro e w5 ⟨x5, rfl, hx5, _, s5, m5⟩
 have hx5' : x5 ≤ 5 := by omega
 obtain ⟨N, hN⟩ : ∃ N, N = 1 + x5 := ⟨_, rfl⟩
 have hw5 : IntKind.i64.wrap (1 + (x5 : Int)) = (N : Int) := by rw [IntWalk.i64_in _ (by omega)]; omega
 have hN6 : 1 ≤ N := by omega
 have hN6' : N ≤ 6 := by omega
 clear hx5 hx5' hN
 have m35 : Mk W3 w5 W0.heap.size (W0.heap.size + 1) := m4.trans m5
 have z5 := m35.size
 have hsz1 : W0.heap.size + 1 ≤ w2.heap.size := by have := s2.lt; omega
 have k5 : Blk w5 w2.heap.size 26 #[.int .i64 F.p, .int .i64 F.k, .slice a2 F.poly.length c2] := k3.kp (m35.kp (.inr (by omega)) (by omega))
 have o5 : Own w5 w1.heap.size (.slice a2 F.poly.length c2) F.poly := o3.mk m35 (by omega)
 have hFm : ∀ w', Mk w5 w' W0.heap.size (W0.heap.size + 1) → PF w' w2.heap.size F := fun w' hm => by
  have k6 := k5.kp (hm.kp (.inr (by omega)) (by omega))
  exact ⟨k6.cell 0, k6.cell 1, a2, c2, k6.cell 2, (o5.mk hm (by omega)).rd⟩
 have kz5 : Blk w5 w.heap.size 26 #[.int .i64 0, .int .i64 0, .slice none 0 0] := (((((k0.below b1 k0.lt).kp (m2.kp (.inl (by omega)) (by omega))).below b3 (by omega))).kp (m35.kp (.inl (by omega)) (by omega)))
 have hbw5 : Below w.heap.size w w5 := b0.trans ((b1.trans (m2.1.trans ((b3.mono (by omega)).trans m35.1))).mono (by omega))
 have BX := hide (show ∀ W, Mk w5 W W0.heap.size (W0.heap.size + 1) → (Mk w5 W W0.heap.size (W0.heap.size + 1) ∧ W.cell? ⟨w2.heap.size, 0, none⟩ = some (.int .i64 F.p) ∧ W.cell? ⟨w2.heap.size, 1, none⟩ = some (.int .i64 F.k) ∧ W.cell? ⟨w2.heap.size, 2, none⟩ = some (.slice a2 F.poly.length c2)) from fun W h => by
  have k6 := k5.kp (h.kp (.inr (by omega)) (by omega))
  exact ⟨h, k6.cell 0, k6.cell 1, k6.cell 2⟩)
 have hdr := drawRows_any W0.heap.size 6 w2.heap.size F N R w5.drew (s5.below (Below.refl _ _).drew) (by omega) (by omega) (by omega) (fun w' hm2 => hFm w' (((Mk.refl w5 _ _).new (Below.refl _ _).drew (by omega)).trans hm2)) ok
 have HDR := hide hdr
 have O5 := hide o5
 have KZ := hide kz5
 clear hdr hFm o5 kz5 k5 k3 o3 o2 s1 s2 s3 s4
 go_upto_region 5 with fail
 refine wp_region_noPanic ?_
 refine wp_region_until (S := (fun W => Mk w5 W W0.heap.size (W0.heap.size + 1) ∧ W.cell? ⟨w2.heap.size, 0, none⟩ = some (.int .i64 F.p) ∧ W.cell? ⟨w2.heap.size, 1, none⟩ = some (.int .i64 F.k) ∧ W.cell? ⟨w2.heap.size, 2, none⟩ = some (.slice a2 F.poly.length c2))) 5 [(0, 0), (0, 1), (0, 2), (0, 3), (1, 4), (2, 5), (2, 6)] (by kernel_rfl) (by kernel_rfl) (by kernel_rfl) rfl (fun _ _ _ _ _ h => h) ?_ (fun hHeld => ?_)
 · exact (unhide BX) _ ((Mk.refl _ _ _).new (Below.refl _ _).drew (by omega))
 refine SeqU.take (by rfl) (v := ?hv39) (by rfl) ?hy39 ?hr39
 case hy39 =>
  intro w hSw
  try dsimp only at hSw
  go_simp
  try (with_reducible rfl)
 try simp only [Act.put, List.setIfInBounds_toArray, List.set_cons_zero, List.set_cons_succ]
 refine SeqU.take (by rfl) (v := ?hv40) (by rfl) ?hy40 ?hr40
 case hy40 =>
  intro w hSw
  try dsimp only at hSw
  go_simp
  try (with_reducible rfl)
 try simp only [Act.put, List.setIfInBounds_toArray, List.set_cons_zero, List.set_cons_succ]
 refine SeqU.take (by rfl) (v := ?hv41) (by rfl) ?hy41 ?hr41
 case hy41 =>
  intro w hSw
  try dsimp only at hSw
  go_simp
  try (with_reducible rfl)
 try simp only [Act.put, List.setIfInBounds_toArray, List.set_cons_zero, List.set_cons_succ]
 refine SeqU.take (by rfl) (v := ?hv42) (by rfl) ?hy42 ?hr42
 case hy42 =>
  intro w hSw
  try dsimp only at hSw
  go_simp
  try (with_reducible rfl)
 try simp only [Act.put, List.setIfInBounds_toArray, List.set_cons_zero, List.set_cons_succ]
 refine SeqU.call (by rfl) (fun K hK => ?_)
 go_simp
 refine (unhide HDR).mono ?_
 rintro e w6 ⟨u6, xss6, rfl, hl6, hM6, o6, s6, m6⟩
 obtain ⟨a6, c6, rfl, _⟩ := o6.form
 have m56 : Mk w5 w6 W0.heap.size (W0.heap.size + 1) := ((Mk.refl w5 _ _).new (Below.refl _ _).drew (by omega)).trans m6
 have hb6 := hbw5.trans (m56.1.mono (by omega))
 have k6 := (unhide KZ).kp (m56.kp (.inl (by omega)) (by omega))
 have o56 := (unhide O5).mk m56 (by omega)
 have f0 := k6.cell 0
 have f1 := k6.cell 1
 have f2 := k6.cell 2
 have g0 := k6.frozen 0
 have g1 := k6.frozen 1
 have g2 := k6.frozen 2
 refine hK.out _ _ ?_ (fun hHeld => ?_)
 · exact (unhide BX) _ m56
 clear hK K
 try simp only [Act.put, List.setIfInBounds_toArray, List.set_cons_zero, List.set_cons_succ]
 refine SeqU.last (by rfl) (fun K hK => ?_)
 go_simp
 skip
 refine hK.out _ _ ?_
 clear hK K
 try simp only [Act.put, List.setIfInBounds_toArray, List.set_cons_zero, List.set_cons_succ]
 refine SeqU.last (by rfl) (fun K hK => ?_)
 go_simp
 skip
 refine hK.out _ _ ?_
 clear hK K
 try simp only [Act.put, List.setIfInBounds_toArray, List.set_cons_zero, List.set_cons_succ]
 refine SeqU.done (NoPanic.normal ?_)
 have hs : w.heap.size < w1.heap.size := by omega
 go_wp2_with fail
 refine bodyPost_ret (results_cell_tmp_row rfl _ _ w.heap.size 26 #[.int .i64 F.p, .int .i64 F.k, .slice a2 F.poly.length c2] _ rfl (k6.b3.store _ _ _) Try.underlying26 rfl (by kernel_rfl)) rfl ?_
 refine ⟨F, N, xss6, _, _, rfl, ⟨hG, by omega, by omega, by omega, by omega, hM6⟩, ?_, ?_, Below.set3 hb6 (Nat.le_refl _) _ _ _⟩
 · exact (((o56.storeBelow hs _).storeBelow hs _).storeBelow hs _).mono (by omega)
 · have hs5 : w.heap.size < w5.drew.heap.size := by show w.heap.size < w5.heap.size; omega
   rw [hl6] at o6
   exact (((o6.storeBelow (p := ⟨w.heap.size, 0, none⟩) hs5 _).storeBelow (p := ⟨w.heap.size, 1, none⟩) hs5 _).storeBelow (p := ⟨w.heap.size, 2, none⟩) hs5 _).mono (Nat.le_of_lt hs5)
end Go.Proofs.Ytgfcbmflnldicaa
