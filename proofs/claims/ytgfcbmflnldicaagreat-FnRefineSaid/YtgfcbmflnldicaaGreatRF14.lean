/-
  Texts joined.
-/
import Derived.Test.YtgfcbmflnldicaaGreatRF1
import Derived.Test.YtgfcbmflnldicaaGreatRF5
import Derived.Test.YtgfcbmflnldicaaGreatRF7
import Derived.Test.YtgfcbmflnldicaaGreatRF10
import Derived.Test.YtgfcbmflnldicaaGreatRF11
import Derived.Test.YtgfcbmflnldicaaGreatRF13
set_option linter.unusedVariables false
set_option linter.unusedSimpArgs false
set_option maxRecDepth 100000
set_option maxHeartbeats 40000000
namespace Go.Proofs.YtgfcbmflnldicaaGreat
open Go.RowKit
attribute [local go_sem ↓] Go.wp_at_zero Go.wp_at_succ
theorem Own.blockTy {w : World} {B : Nat} {v : Value} {xs : List Int} (h : Own w B v xs) {k : Nat} (hk : v.ownBlock = some k) : ∃ cur : Array Value, w.heap[k]? = some (.cells cur 2 (0, 0)) := by
 rcases h.2.2 with ⟨rfl, _⟩ | ⟨g, cap, cur, rfl, _, hg, _⟩
 · simp [Value.ownBlock] at hk
 · simp only [Value.ownBlock, Option.some.injEq] at hk
   subst hk
   exact ⟨cur, hg⟩
def srtA (R : List (List Int)) (k : Nat) : List (List Int) := (R.take k).map sortI ++ R.drop k
theorem srtA_len (R : List (List Int)) {k : Nat} (h : k ≤ R.length) : (srtA R k).length = R.length := by simp [srtA]; omega
theorem srtA_all (R : List (List Int)) : srtA R R.length = R.map sortI := by simp [srtA]
theorem srtA_next {R : List (List Int)} {k : Nat} (h : k < R.length) : nthL (srtA R k) k = nthL R k := by
 rw [srtA, nthL, List.getD_eq_getElem?_getD, List.getElem?_append_right (by simp; omega), List.length_map, List.length_take, Nat.min_eq_left (by omega), Nat.sub_self, List.getElem?_drop, ← List.getD_eq_getElem?_getD]
 rfl
theorem srtA_succ {R : List (List Int)} {k : Nat} (h : k < R.length) : (srtA R k).set k (sortI (nthL R k)) = srtA R (k + 1) := by
 rw [srtA, srtA, List.set_append_right _ _ (by simp; omega), List.length_map, List.length_take, Nat.min_eq_left (by omega), Nat.sub_self, take_nthL h, List.map_append, List.append_assoc, List.drop_eq_getElem_cons h]
 rfl
def nbrA (n : Nat) (es : List (Int × Int)) (i : Nat) : List (List Int) := (List.range n).map (nbrs (es.take i))
theorem nbrA_len (n : Nat) (es : List (Int × Int)) (i : Nat) : (nbrA n es i).length = n := by simp [nbrA]
theorem nbrA_nth {n v : Nat} (es : List (Int × Int)) (i : Nat) (h : v < n) : nthL (nbrA n es i) v = nbrs (es.take i) v := by simp [nbrA, nthL, h]
theorem nbrA_zero (n : Nat) (es : List (Int × Int)) : nbrA n es 0 = List.replicate n [] := by
 apply List.ext_getElem (by simp [nbrA])
 intro i h1 h2
 simp [nbrA, nbrs]
theorem nbrs_snoc (es : List (Int × Int)) (x y : Nat) (v : Nat) : nbrs (es ++ [((x : Int), (y : Int))]) v = nbrs es v ++ ((if x = v then [(y : Int)] else []) ++ (if y = v then [(x : Int)] else [])) := by
 have h1 : ∀ z : Nat, ((z : Int) = (v : Int)) = (z = v) := fun z => propext ⟨fun h => by omega, fun h => by omega⟩
 rw [nbrs, nbrs, List.flatMap_append]
 simp only [List.flatMap_cons, List.flatMap_nil, List.append_nil, h1]
theorem nbrA_step {n : Nat} {es : List (Int × Int)} {i x y : Nat} (hi : i < es.length) (he : nthE es i = ((x : Int), (y : Int))) (hx : x < n) (hy : y < n) (hne : x ≠ y) :
    nbrA n es (i + 1) = ((nbrA n es i).set x (nthL (nbrA n es i) x ++ [(y : Int)])).set y (nthL (nbrA n es i) y ++ [(x : Int)]) := by
 refine eq_of_nthL (by simp [nbrA_len]) fun v hv => ?_
 rw [nbrA_len] at hv
 rw [nbrA_nth es (i + 1) hv, take_nthE hi, he, nbrs_snoc]
 by_cases e1 : y = v
 · subst e1
   rw [nthL_set_same (by simp [nbrA_len, hy]), nbrA_nth es i hv]
   simp [hne]
 · rw [nthL_set_ne e1]
   by_cases e2 : x = v
   · subst e2
     rw [nthL_set_same (by simp [nbrA_len, hx]), nbrA_nth es i hv]
     simp [e1]
   · rw [nthL_set_ne e2, nbrA_nth es i hv]
     simp [e1, e2]
theorem nbrs_len (es : List (Int × Int)) (v : Nat) : (nbrs es v).length ≤ 2 * es.length := by
 induction es with
 | nil => simp [nbrs]
 | cons e es ih =>
  rw [nbrs, List.flatMap_cons, List.length_append]
  rw [nbrs] at ih
  have : ((if e.1 = (v : Int) then [e.2] else []) ++ (if e.2 = (v : Int) then [e.1] else [])).length ≤ 2 := by
   split <;> split <;> simp
  simp only [List.length_cons]
  omega
theorem neighborLists_any (a : Option Addr) (n c : Nat) (ra : Option Addr) (rc : Nat) (es : List (Int × Int)) (w : World) (hn : n ≤ 1000000) (hm : es.length ≤ 100000) (hes : RdE w ra es) (hin : InE n es) (hlt : ∀ e ∈ es, e.1 < e.2) :
    Calls Tryz.prog 52 #[.agg #[.slice a n c, .slice ra es.length rc]] w fun e w' => ∃ v, e = .returned v ∧ OwnS w' w.heap.size v ((nbrA n es es.length).map sortI) ∧ Below w.heap.size w w' := by
 have hel := hes.len
 obtain ⟨w0, hw0⟩ : ∃ w0, w0 = w.alloc (.cells #[.slice a n c, .slice ra es.length rc] 27) := ⟨_, rfl⟩
 have hb0 : Below w.heap.size w w0 := by rw [hw0]; exact (Below.refl _ _).alloc (Nat.le_refl _) _
 have kA : Blk w0 w.heap.size 27 #[.slice a n c, .slice ra es.length rc] := by rw [hw0]; exact Blk.new _ _ _ rfl
 have s0 : w0.heap.size = w.heap.size + 1 := by rw [hw0]; simp
 have hmk := fun W => run_make_row' (P := Tryz.prog) 42 24 (.slice none 0 0) 24 Tryz.underlying42 Tryz.info_row rfl .i64 .i64 n (by omega) (by omega) W
 obtain ⟨W1, hW1⟩ : ∃ z, z = w0.alloc (.cells (madeCells #[.slice none 0 0] n) 24) := ⟨_, rfl⟩
 have oz : OwnS W1 (w.heap.size + 1) (.slice (some ⟨w.heap.size + 1, 0, none⟩) n n) (nbrA n es 0) := by rw [hW1, nbrA_zero, ← s0]; exact OwnS.nils w0 (Nat.le_refl _) hn
 have bz : Below w0.heap.size w0 W1 := by rw [hW1]; exact (Below.refl _ _).alloc (Nat.le_refl _) _
 have BA := hide (show ∀ W, Below w0.heap.size w0 W → Blk W w.heap.size 27 #[.slice a n c, .slice ra es.length rc] from fun W h => kA.below h kA.lt)
 have HES := hide (hes.below hb0)
 have HIN := hide hin
 have HLT := hide hlt
 have OZ := hide oz
 have f0 := kA.cell 0
 have f1 := kA.cell 1
 have g0 := (kA.below bz kA.lt).cell 0
 have g1 := (kA.below bz kA.lt).cell 1
 rw [hw0] at f0 f1
 rw [hw0] at hW1
 have HW1 := Lib.hid hW1
 have HW := Lib.hid hw0
 clear hw0 hW1 hes hin hlt oz
 go_enter Tryz.func52, Tryz.ntmps52
 go_upto_region 2 with fail
 rw [← HW1.out]
 clear f0 f1 hmk
 go_wp2_with fail
 go_loopw [15] (fun iv wr => ∃ i : Nat, iv = .int .i64 i ∧ i ≤ es.length ∧ Hid (OwnS wr (w.heap.size + 1) (.slice (some ⟨w.heap.size + 1, 0, none⟩) n n) (nbrA n es i)) ∧ Below w0.heap.size w0 wr) (fun iv _ => es.length - (intOf iv).toNat)
 case atStart => exact ⟨0, rfl, Nat.zero_le _, OZ, bz⟩
 case round =>
  obtain ⟨i, rfl, hi, ho, hb⟩ := hrel
  have hsz := hb.size
  clear g0 g1
  have k1 := unhide BA wr hb
  have f0 := k1.cell 0
  have f1 := k1.cell 1
  by_cases hil : i < es.length
  · obtain ⟨x, y, hxy, hxn, hyn⟩ := (unhide HIN).at_ hil
    have hxly : x < y := by
     have h := unhide HLT _ (nthE_mem hil)
     rw [hxy] at h
     simp only at h
     omega
    obtain ⟨b1, o1, rfl, hbb, hcx⟩ := (unhide HES).at_ (by omega)
    obtain ⟨hx1, hx2⟩ := hcx i hil
    rw [hxy] at hx1 hx2
    simp only at hx1 hx2
    have hx1 := (hb.cell (p := ⟨b1, o1 + i * 2, none⟩) hbb).trans hx1
    have hx2 := (hb.cell (p := ⟨b1, o1 + i * 2 + 1, none⟩) hbb).trans hx2
    have hst := nbrA_step (n := n) hil hxy hxn hyn (by omega)
    have hlx := nbrs_len (es.take i) x
    have hly := nbrs_len (es.take i) y
    rw [List.length_take] at hlx hly
    obtain ⟨R, hR⟩ : ∃ R, R = nbrA n es i := ⟨_, rfl⟩
    have hlen : R.length = n := by rw [hR, nbrA_len]
    obtain ⟨rx, hrx⟩ : ∃ r, r = nthL R x := ⟨_, rfl⟩
    obtain ⟨ry, hry⟩ : ∃ r, r = nthL R y := ⟨_, rfl⟩
    rw [← nbrA_nth es i hxn, ← hR, ← hrx] at hlx
    rw [← nbrA_nth es i hyn, ← hR, ← hry] at hly
    rw [← hR, ← hrx, ← hry] at hst
    have HST := Lib.hid hst
    rw [← hR] at ho
    obtain ⟨wE, hwE⟩ : ∃ wE, wE = wr.alloc (.cells #[.int .i64 (x : Int), .int .i64 (y : Int)] 142) := ⟨_, rfl⟩
    have hbE : Below wr.heap.size wr wE := by rw [hwE]; exact (Below.refl _ _).alloc (Nat.le_refl _) _
    have kE : Blk wE wr.heap.size 142 #[.int .i64 (x : Int), .int .i64 (y : Int)] := by rw [hwE]; exact Blk.new _ _ _ rfl
    have hsE : wr.heap.size < wE.heap.size := kE.lt
    have hbE0 : Below w0.heap.size w0 wE := hb.trans (hbE.mono hsz)
    have oE := ho.out.below hbE (Nat.le_refl _)
    have hgl : w.heap.size + 1 < wr.heap.size := by
     obtain ⟨_, _, hr, _⟩ := ho.out
     exact (hr.lt _ rfl).2
    have HWE := Lib.hid hwE
    have HLEN := Lib.hid hlen
    have HRX := Lib.hid hrx
    have HRY := Lib.hid hry
    clear hwE hcx hst hxy ho hR hlen hrx hry
    have eBlk1 : wE.heap[wr.heap.size]? = some (.cells #[.int .i64 (x : Int), .int .i64 (y : Int)] 142 (0, 0)) := kE
    have hsE1 := hsE
    have hB1 := hbE0
    have e0 := kE.cell 0
    have e1 := kE.cell 1
    obtain ⟨ar1, cr1, orow1, hrow1, _⟩ := oE.row (i := x) (by rw [HLEN.out]; exact hxn)
    rw [← HRX.out] at orow1 hrow1
    have hcell1 := hrow1 _ _ _ _ rfl
    rw [Nat.zero_add] at hcell1
    have hfz1 := oE.frozen x
    have key1 : ∀ W, Below wE.heap.size wE W → (W.cell? ⟨wr.heap.size, 0, none⟩ = some (.int .i64 (x : Int)) ∧ W.cell? ⟨wr.heap.size, 1, none⟩ = some (.int .i64 (y : Int)) ∧ W.cell? ⟨w.heap.size + 1, x, none⟩ = some (.slice ar1 rx.length cr1)) := fun W h => ⟨(h.cell (p := ⟨wr.heap.size, 0, none⟩) hsE1).trans e0, (h.cell (p := ⟨wr.heap.size, 1, none⟩) hsE1).trans e1, (h.cell (World.block_lt_of_cell? wE _ hcell1)).trans hcell1⟩
    have BX1 := hide key1
    have OR1 := hide orow1
    have OE1 := hide oE
    have HFZ1 := hide hfz1
    have hnb1 : ∀ k, Value.ownBlock (.slice ar1 rx.length cr1) = some k → k ≠ wr.heap.size := fun k hk e => by
     subst e
     obtain ⟨cur, h1⟩ := orow1.blockTy hk
     rw [eBlk1] at h1
     injection h1 with h1
     injection h1 with _ h2 _
     exact absurd h2 (by decide)
    have NB1 := hide hnb1
    clear key1 orow1 oE hfz1 hrow1 hcell1 e0 e1 hnb1
    go_upto_region 5 with fail
    rw [← HWE.out]
    refine wp_region_noPanic ?_
    refine wp_region_until (S := (fun W => W.cell? ⟨wr.heap.size, 0, none⟩ = some (.int .i64 (x : Int)) ∧ W.cell? ⟨wr.heap.size, 1, none⟩ = some (.int .i64 (y : Int)) ∧ W.cell? ⟨w.heap.size + 1, x, none⟩ = some (.slice ar1 rx.length cr1))) 13 [(0, 0), (0, 1), (0, 2), (0, 3), (0, 4), (0, 5), (0, 6), (0, 7), (0, 8), (0, 9), (1, 10), (1, 11), (0, 12), (2, 13)] (by kernel_rfl) (by kernel_rfl) (by kernel_rfl) rfl (fun _ _ _ _ _ h => h) ?_ (fun hHeld => ?_)
    · exact (unhide BX1) _ (Below.refl _ _).drew
    refine SeqU.take (by rfl) (v := ?hv1) (by rfl) ?hy1 ?hr1
    case hy1 =>
     intro w hSw
     try dsimp only at hSw
     go_simp
     try (with_reducible rfl)
    try simp only [Act.put, List.setIfInBounds_toArray, List.set_cons_zero, List.set_cons_succ]
    refine SeqU.take (by rfl) (v := ?hv2) (by rfl) ?hy2 ?hr2
    case hy2 =>
     intro w hSw
     try dsimp only at hSw
     go_simp
     try (with_reducible rfl)
    try simp only [Act.put, List.setIfInBounds_toArray, List.set_cons_zero, List.set_cons_succ]
    refine SeqU.take (by rfl) (v := ?hv3) (by rfl) ?hy3 ?hr3
    case hy3 =>
     intro w hSw
     try dsimp only at hSw
     go_simp
     try (with_reducible rfl)
    try simp only [Act.put, List.setIfInBounds_toArray, List.set_cons_zero, List.set_cons_succ]
    refine SeqU.take (by rfl) (v := ?hv4) (by rfl) ?hy4 ?hr4
    case hy4 =>
     intro w hSw
     try dsimp only at hSw
     go_simp
     try (with_reducible rfl)
    try simp only [Act.put, List.setIfInBounds_toArray, List.set_cons_zero, List.set_cons_succ]
    refine SeqU.take (by rfl) (v := ?hv5) (by rfl) ?hy5 ?hr5
    case hy5 =>
     intro w hSw
     try dsimp only at hSw
     go_simp
     try (with_reducible rfl)
    try simp only [Act.put, List.setIfInBounds_toArray, List.set_cons_zero, List.set_cons_succ]
    refine SeqU.take (by rfl) (v := ?hv6) (by rfl) ?hy6 ?hr6
    case hy6 =>
     intro w hSw
     try dsimp only at hSw
     go_simp
     try (with_reducible rfl)
    try simp only [Act.put, List.setIfInBounds_toArray, List.set_cons_zero, List.set_cons_succ]
    refine SeqU.take (by rfl) (v := ?hv7) (by rfl) ?hy7 ?hr7
    case hy7 =>
     intro w hSw
     try dsimp only at hSw
     go_simp
     try (with_reducible rfl)
    try simp only [Act.put, List.setIfInBounds_toArray, List.set_cons_zero, List.set_cons_succ]
    refine SeqU.take (by rfl) (v := ?hv8) (by rfl) ?hy8 ?hr8
    case hy8 =>
     intro w hSw
     try dsimp only at hSw
     go_simp
     try (with_reducible rfl)
    try simp only [Act.put, List.setIfInBounds_toArray, List.set_cons_zero, List.set_cons_succ]
    refine SeqU.take (by rfl) (v := ?hv9) (by rfl) ?hy9 ?hr9
    case hy9 =>
     intro w hSw
     try dsimp only at hSw
     go_simp
     try (with_reducible rfl)
    try simp only [Act.put, List.setIfInBounds_toArray, List.set_cons_zero, List.set_cons_succ]
    refine SeqU.take (by rfl) (v := ?hv10) (by rfl) ?hy10 ?hr10
    case hy10 =>
     intro w hSw
     try dsimp only at hSw
     go_simp
     try (with_reducible rfl)
    try simp only [Act.put, List.setIfInBounds_toArray, List.set_cons_zero, List.set_cons_succ]
    refine SeqU.call (by rfl) (fun K hK => ?_)
    go_simp
    obtain ⟨wF1, hwF⟩ : ∃ z, z = (wE.alloc (.cells #[.int .i64 (y : Int)] 2)).drew := ⟨_, rfl⟩
    have hbF1 : Below wE.heap.size wE wF1 := by rw [hwF]; exact ((Below.refl _ _).alloc (Nat.le_refl _) _).drew
    have rF1 : Rd wF1 (some ⟨wE.heap.size, 0, none⟩) [(y : Int)] := by rw [hwF]; exact Rd.one wE _ _
    have sF1 : wE.heap.size < wF1.heap.size := by rw [hwF]; simp
    have oF1 := (unhide OE1).below hbF1 (Nat.le_refl _)
    have cF1 := ((unhide BX1) _ hbF1).2.2
    have oR1 := (unhide OR1).below hbF1 (Nat.le_refl _)
    have bF1 := hB1.trans (hbF1.mono hB1.size)
    have kF1 := (hbF1.block wr.heap.size hsE1).trans eBlk1
    rw [← hwF]
    clear hwF
    refine hK.out _ _ ?_ (fun hHeld => ?_)
    · exact (unhide BX1) _ hbF1
    clear hK K
    try simp only [Act.put, List.setIfInBounds_toArray, List.set_cons_zero, List.set_cons_succ]
    refine SeqU.call (by rfl) (fun K hK => ?_)
    refine step_append_ints (ys := [(y : Int)]) rfl (.tmp 26) (.tmp 29) rfl rfl oR1 _ 1 1 rfl rfl rF1 (by simp; omega) (by have := hB1.size; omega) ?_
    intro v5 w51 o51 g51 hb51
    obtain ⟨a51, c51, rfl⟩ := o51.slice_val
    have q5 := oF1.cell_grown (j := x) (by rw [HLEN.out]; exact hxn) cF1 g51
    have kG1 := (g51.block wr.heap.size (by omega) (fun e => (unhide NB1) _ e.symm rfl)).trans kF1
    have e5 : ∀ q, w51.cell? ⟨wr.heap.size, q, none⟩ = wF1.cell? ⟨wr.heap.size, q, none⟩ := fun q => cell_block (kG1.trans kF1.symm) q
    have qc1 := q5.1
    have qf1 := q5.2
    have s51 := g51.size
    refine hK.out _ _ ?_ (fun hHeld => ?_)
    · exact ⟨(e5 0).trans ((unhide BX1) _ hbF1).1, (e5 1).trans ((unhide BX1) _ hbF1).2.1, qc1⟩
    clear hK K
    try simp only [Act.put, List.setIfInBounds_toArray, List.set_cons_zero, List.set_cons_succ]
    refine SeqU.take (by rfl) (v := ?hv11) (by rfl) ?hy11 ?hr11
    case hy11 =>
     intro w hSw
     try dsimp only at hSw
     go_simp
     try (with_reducible rfl)
    try simp only [Act.put, List.setIfInBounds_toArray, List.set_cons_zero, List.set_cons_succ]
    refine SeqU.last (by rfl) (fun K hK => ?_)
    go_simp
    skip
    refine hK.out _ _ ?_
    clear hK K
    try simp only [Act.put, List.setIfInBounds_toArray, List.set_cons_zero, List.set_cons_succ]
    refine SeqU.done (NoPanic.normal ?_)
    have oH1 := oF1.appended (j := x) (by rw [HLEN.out]; exact hxn) cF1 o51 g51 hb51
    rw [show (rx ++ [(y : Int)]).length = rx.length + 1 by simp] at oH1
    have bH1 := (bF1.grown g51 (by have := bF1.size; omega) (fun q hq => by have := (oR1.lt q hq).1; omega)).setCell (p := ⟨w.heap.size + 1, x, none⟩) (by show w0.heap.size ≤ w.heap.size + 1; omega) (.slice a51 (rx.length + 1) c51)
    obtain ⟨w61, hw6⟩ : ∃ z, z = w51.setCell ⟨w.heap.size + 1, x, none⟩ (.slice a51 (rx.length + 1) c51) := ⟨_, rfl⟩
    rw [← hw6] at oH1 bH1 ⊢
    have eBlk2 : w61.heap[wr.heap.size]? = some (.cells #[.int .i64 (x : Int), .int .i64 (y : Int)] 142 (0, 0)) := by rw [hw6]; exact (Below.heap_setCell w51 ⟨w.heap.size + 1, x, none⟩ _ wr.heap.size (by show wr.heap.size ≠ w.heap.size + 1; omega)).trans kG1
    have hsE2 : wr.heap.size < w61.heap.size := (Array.getElem?_eq_some_iff.1 eBlk2).1
    have hB2 : Below w0.heap.size w0 w61 := bH1
    have hlen2 : (R.set x (rx ++ [(y : Int)])).length = n := by rw [List.length_set, HLEN.out]
    have hr2 : nthL (R.set x (rx ++ [(y : Int)])) y = ry := by rw [nthL_set_ne (by omega), HRY.out]
    have HLEN2 := Lib.hid hlen2
    have HR2 := Lib.hid hr2
    have kE2 : Blk w61 wr.heap.size 142 #[.int .i64 (x : Int), .int .i64 (y : Int)] := eBlk2
    have e0 := kE2.cell 0
    have e1 := kE2.cell 1
    clear hlen2 hr2
    clear hw6
    obtain ⟨ar2, cr2, orow2, hrow2, _⟩ := oH1.row (i := y) (by rw [HLEN2.out]; exact hyn)
    rw [HR2.out] at orow2 hrow2
    have hcell2 := hrow2 _ _ _ _ rfl
    rw [Nat.zero_add] at hcell2
    have hfz2 := oH1.frozen y
    have key2 : ∀ W, Below w61.heap.size w61 W → (W.cell? ⟨wr.heap.size, 0, none⟩ = some (.int .i64 (x : Int)) ∧ W.cell? ⟨wr.heap.size, 1, none⟩ = some (.int .i64 (y : Int)) ∧ W.cell? ⟨w.heap.size + 1, y, none⟩ = some (.slice ar2 ry.length cr2)) := fun W h => ⟨(h.cell (p := ⟨wr.heap.size, 0, none⟩) hsE2).trans e0, (h.cell (p := ⟨wr.heap.size, 1, none⟩) hsE2).trans e1, (h.cell (World.block_lt_of_cell? w61 _ hcell2)).trans hcell2⟩
    have BX2 := hide key2
    have OR2 := hide orow2
    have OE2 := hide oH1
    have HFZ2 := hide hfz2
    have hnb2 : ∀ k, Value.ownBlock (.slice ar2 ry.length cr2) = some k → k ≠ wr.heap.size := fun k hk e => by
     subst e
     obtain ⟨cur, h1⟩ := orow2.blockTy hk
     rw [eBlk2] at h1
     injection h1 with h1
     injection h1 with _ h2 _
     exact absurd h2 (by decide)
    have NB2 := hide hnb2
    clear key2 orow2 oH1 hfz2 hrow2 hcell2 e0 e1 hnb2
    go_upto_region 6 with fail
    refine wp_region_noPanic ?_
    refine wp_region_until (S := (fun W => W.cell? ⟨wr.heap.size, 0, none⟩ = some (.int .i64 (x : Int)) ∧ W.cell? ⟨wr.heap.size, 1, none⟩ = some (.int .i64 (y : Int)) ∧ W.cell? ⟨w.heap.size + 1, y, none⟩ = some (.slice ar2 ry.length cr2))) 13 [(0, 0), (0, 1), (0, 2), (0, 3), (0, 4), (0, 5), (0, 6), (0, 7), (0, 8), (0, 9), (1, 10), (1, 11), (0, 12), (2, 13)] (by kernel_rfl) (by kernel_rfl) (by kernel_rfl) rfl (fun _ _ _ _ _ h => h) ?_ (fun hHeld => ?_)
    · exact (unhide BX2) _ (Below.refl _ _).drew
    refine SeqU.take (by rfl) (v := ?hv12) (by rfl) ?hy12 ?hr12
    case hy12 =>
     intro w hSw
     try dsimp only at hSw
     go_simp
     try (with_reducible rfl)
    try simp only [Act.put, List.setIfInBounds_toArray, List.set_cons_zero, List.set_cons_succ]
    refine SeqU.take (by rfl) (v := ?hv13) (by rfl) ?hy13 ?hr13
    case hy13 =>
     intro w hSw
     try dsimp only at hSw
     go_simp
     try (with_reducible rfl)
    try simp only [Act.put, List.setIfInBounds_toArray, List.set_cons_zero, List.set_cons_succ]
    refine SeqU.take (by rfl) (v := ?hv14) (by rfl) ?hy14 ?hr14
    case hy14 =>
     intro w hSw
     try dsimp only at hSw
     go_simp
     try (with_reducible rfl)
    try simp only [Act.put, List.setIfInBounds_toArray, List.set_cons_zero, List.set_cons_succ]
    refine SeqU.take (by rfl) (v := ?hv15) (by rfl) ?hy15 ?hr15
    case hy15 =>
     intro w hSw
     try dsimp only at hSw
     go_simp
     try (with_reducible rfl)
    try simp only [Act.put, List.setIfInBounds_toArray, List.set_cons_zero, List.set_cons_succ]
    refine SeqU.take (by rfl) (v := ?hv16) (by rfl) ?hy16 ?hr16
    case hy16 =>
     intro w hSw
     try dsimp only at hSw
     go_simp
     try (with_reducible rfl)
    try simp only [Act.put, List.setIfInBounds_toArray, List.set_cons_zero, List.set_cons_succ]
    refine SeqU.take (by rfl) (v := ?hv17) (by rfl) ?hy17 ?hr17
    case hy17 =>
     intro w hSw
     try dsimp only at hSw
     go_simp
     try (with_reducible rfl)
    try simp only [Act.put, List.setIfInBounds_toArray, List.set_cons_zero, List.set_cons_succ]
    refine SeqU.take (by rfl) (v := ?hv18) (by rfl) ?hy18 ?hr18
    case hy18 =>
     intro w hSw
     try dsimp only at hSw
     go_simp
     try (with_reducible rfl)
    try simp only [Act.put, List.setIfInBounds_toArray, List.set_cons_zero, List.set_cons_succ]
    refine SeqU.take (by rfl) (v := ?hv19) (by rfl) ?hy19 ?hr19
    case hy19 =>
     intro w hSw
     try dsimp only at hSw
     go_simp
     try (with_reducible rfl)
    try simp only [Act.put, List.setIfInBounds_toArray, List.set_cons_zero, List.set_cons_succ]
    refine SeqU.take (by rfl) (v := ?hv20) (by rfl) ?hy20 ?hr20
    case hy20 =>
     intro w hSw
     try dsimp only at hSw
     go_simp
     try (with_reducible rfl)
    try simp only [Act.put, List.setIfInBounds_toArray, List.set_cons_zero, List.set_cons_succ]
    refine SeqU.take (by rfl) (v := ?hv21) (by rfl) ?hy21 ?hr21
    case hy21 =>
     intro w hSw
     try dsimp only at hSw
     go_simp
     try (with_reducible rfl)
    try simp only [Act.put, List.setIfInBounds_toArray, List.set_cons_zero, List.set_cons_succ]
    refine SeqU.call (by rfl) (fun K hK => ?_)
    go_simp
    obtain ⟨wF2, hwF⟩ : ∃ z, z = (w61.alloc (.cells #[.int .i64 (x : Int)] 2)).drew := ⟨_, rfl⟩
    have hbF2 : Below w61.heap.size w61 wF2 := by rw [hwF]; exact ((Below.refl _ _).alloc (Nat.le_refl _) _).drew
    have rF2 : Rd wF2 (some ⟨w61.heap.size, 0, none⟩) [(x : Int)] := by rw [hwF]; exact Rd.one w61 _ _
    have sF2 : w61.heap.size < wF2.heap.size := by rw [hwF]; simp
    have oF2 := (unhide OE2).below hbF2 (Nat.le_refl _)
    have cF2 := ((unhide BX2) _ hbF2).2.2
    have oR2 := (unhide OR2).below hbF2 (Nat.le_refl _)
    have bF2 := hB2.trans (hbF2.mono hB2.size)
    have kF2 := (hbF2.block wr.heap.size hsE2).trans eBlk2
    rw [← hwF]
    clear hwF
    refine hK.out _ _ ?_ (fun hHeld => ?_)
    · exact (unhide BX2) _ hbF2
    clear hK K
    try simp only [Act.put, List.setIfInBounds_toArray, List.set_cons_zero, List.set_cons_succ]
    refine SeqU.call (by rfl) (fun K hK => ?_)
    refine step_append_ints (ys := [(x : Int)]) rfl (.tmp 39) (.tmp 42) rfl rfl oR2 _ 1 1 rfl rfl rF2 (by simp; omega) (by have := hB2.size; omega) ?_
    intro v5 w52 o52 g52 hb52
    obtain ⟨a52, c52, rfl⟩ := o52.slice_val
    have q5 := oF2.cell_grown (j := y) (by rw [HLEN2.out]; exact hyn) cF2 g52
    have kG2 := (g52.block wr.heap.size (by omega) (fun e => (unhide NB2) _ e.symm rfl)).trans kF2
    have e5 : ∀ q, w52.cell? ⟨wr.heap.size, q, none⟩ = wF2.cell? ⟨wr.heap.size, q, none⟩ := fun q => cell_block (kG2.trans kF2.symm) q
    have qc2 := q5.1
    have qf2 := q5.2
    have s52 := g52.size
    refine hK.out _ _ ?_ (fun hHeld => ?_)
    · exact ⟨(e5 0).trans ((unhide BX2) _ hbF2).1, (e5 1).trans ((unhide BX2) _ hbF2).2.1, qc2⟩
    clear hK K
    try simp only [Act.put, List.setIfInBounds_toArray, List.set_cons_zero, List.set_cons_succ]
    refine SeqU.take (by rfl) (v := ?hv22) (by rfl) ?hy22 ?hr22
    case hy22 =>
     intro w hSw
     try dsimp only at hSw
     go_simp
     try (with_reducible rfl)
    try simp only [Act.put, List.setIfInBounds_toArray, List.set_cons_zero, List.set_cons_succ]
    refine SeqU.last (by rfl) (fun K hK => ?_)
    go_simp
    skip
    refine hK.out _ _ ?_
    clear hK K
    try simp only [Act.put, List.setIfInBounds_toArray, List.set_cons_zero, List.set_cons_succ]
    refine SeqU.done (NoPanic.normal ?_)
    have oH2 := oF2.appended (j := y) (by rw [HLEN2.out]; exact hyn) cF2 o52 g52 hb52
    rw [show (ry ++ [(x : Int)]).length = ry.length + 1 by simp] at oH2
    have bH2 := (bF2.grown g52 (by have := bF2.size; omega) (fun q hq => by have := (oR2.lt q hq).1; omega)).setCell (p := ⟨w.heap.size + 1, y, none⟩) (by show w0.heap.size ≤ w.heap.size + 1; omega) (.slice a52 (ry.length + 1) c52)
    obtain ⟨w62, hw6⟩ : ∃ z, z = w52.setCell ⟨w.heap.size + 1, y, none⟩ (.slice a52 (ry.length + 1) c52) := ⟨_, rfl⟩
    rw [← hw6] at oH2 bH2 ⊢
    clear hw6
    go_wp2_with fail
    go_roundw
    case rel =>
     refine ⟨i + 1, by go_num, by omega, ?_, bH2⟩
     show OwnS _ _ _ _
     rw [HST.out]
     exact oH2
    case measure => simp only [intOf]; omega
  · have hke : i = es.length := by omega
    have HK := Lib.hid hke
    have oS := ho.out
    rw [HK.out] at oS
    have OS := hide oS
    clear hke oS ho
    have hrl := nbrA_len n es es.length
    obtain ⟨R, hR⟩ : ∃ R, R = nbrA n es es.length := ⟨_, rfl⟩
    rw [← hR] at hrl OS
    have HR0 := Lib.hid hR
    have HRL := Lib.hid hrl
    have O0 := hide (show OwnSH wr (w.heap.size + 1) wr.heap.size (.slice (some ⟨w.heap.size + 1, 0, none⟩) n n) (srtA R 0) from (unhide OS).toH)
    obtain ⟨wt, hwt⟩ : ∃ z, z = wr := ⟨_, rfl⟩
    rw [← hwt] at O0 hb ⊢
    have sw := hb.size
    clear hrl hR OS f0 f1 k1 hsz hwt
    go_wp2_with fail
    go_loopw [48] (fun iv wr => ∃ k : Nat, iv = .int .i64 k ∧ k ≤ n ∧ Hid (OwnSH wr (w.heap.size + 1) wt.heap.size (.slice (some ⟨w.heap.size + 1, 0, none⟩) n n) (srtA R k)) ∧ Below w0.heap.size w0 wr) (fun iv _ => n - (intOf iv).toNat)
    case atStart => exact ⟨0, rfl, Nat.zero_le _, O0, hb⟩
    case round =>
     obtain ⟨k, rfl, hk, ho, hb2⟩ := hrel
     by_cases hkn : k < n
     · have hsl := srtA_len R (k := k) (by rw [HRL.out]; omega)
       obtain ⟨ar, cr, orow, hrow, hput⟩ := ho.out.row (i := k) (by rw [hsl, HRL.out]; exact hkn)
       have hcell := hrow _ _ _ _ rfl
       rw [Nat.zero_add] at hcell
       have hnx := srtA_next (R := R) (k := k) (by rw [HRL.out]; exact hkn)
       have hst := srtA_succ (R := R) (k := k) (by rw [HRL.out]; exact hkn)
       rw [hnx] at orow hcell hput
       obtain ⟨row, hrw⟩ : ∃ row, row = nthL R k := ⟨_, rfl⟩
       rw [← hrw] at orow hcell hput hst
       have HST := Lib.hid hst
       have hso := sortI_own orow.1
       have HSO := hide hso
       have HPUT := hide hput
       have ORW := hide orow
       have zr := hb2.size
       clear hsl hrow hnx hst hrw hso hput orow
       go_wp2_with fail
       refine (unhide HSO).mono ?_
       rintro e w3 ⟨rfl, o3, g3⟩
       have o4 := (unhide HPUT) w3 (sortI row) ⟨o3, (unhide ORW).2⟩ (sortI_len row) g3
       rw [HST.out] at o4
       have O4 := hide o4
       have hb3 := hb2.grown g3 zr (fun q hq => by have := ((unhide ORW).2 q hq).1; omega)
       clear o4 o3 g3 hcell
       go_wp2_with fail
       go_roundw
       case rel => exact ⟨k + 1, by go_num, by omega, O4, hb3⟩
       case measure => simp only [intOf]; omega
     · have hke : k = n := by omega
       have HK := Lib.hid hke
       have oS := ho.out.own
       rw [HK.out, ← HRL.out, srtA_all, HRL.out] at oS
       have OS := hide oS
       clear hke oS ho
       go_wp2_with fail
       go_ret
       exact ⟨_, rfl, by rw [← HR0.out]; exact (unhide OS).mono (by omega), hb0.trans (hb2.mono (by omega))⟩
end Go.Proofs.YtgfcbmflnldicaaGreat
namespace Go.Proofs.YtgfcbmflnldicaaGreat
open Go.RowKit
attribute [local go_sem ↓] Go.wp_at_zero Go.wp_at_succ
theorem GG.inE {n : Nat} {xs : List Int} {es : List (Int × Int)} (h : GG n xs es) : InE n es := fun e he => by
 have h1 := h.lo e he
 have h2 := h.lt e he
 have h3 := h.hi e he
 omega
theorem near_same {n : Nat} {xs : List Int} {es : List (Int × Int)} (h : GG n xs es) : (nbrA n es es.length).map sortI = nearA n (adjE es) n := by
 rw [nbrA, nearA, List.map_map, List.take_length]
 refine List.map_congr_left fun v _ => ?_
 exact near_of_sorted h (sortI_perm _) (sortI_le _)
end Go.Proofs.YtgfcbmflnldicaaGreat
namespace Go.Proofs.YtgfcbmflnldicaaGreat
open Go.RowKit
attribute [local go_sem ↓] Go.wp_at_zero Go.wp_at_succ
def around (N : List (List Int)) (cs : List Int) (v : Nat) : List Int := (nthL N v).map fun x => nth cs x.toNat
def aroundTo (row cs : List Int) (i : Nat) : List Int := (row.take i).map fun x => nth cs x.toNat
theorem aroundTo_len (row cs : List Int) {i : Nat} (h : i ≤ row.length) : (aroundTo row cs i).length = i := by simp [aroundTo]; omega
theorem aroundTo_succ {row cs : List Int} {i : Nat} (h : i < row.length) : aroundTo row cs (i + 1) = aroundTo row cs i ++ [nth cs (nth row i).toNat] := by rw [aroundTo, aroundTo, take_nth h, List.map_append]; rfl
theorem around_of (N : List (List Int)) (cs : List Int) (v : Nat) : around N cs v = aroundTo (nthL N v) cs (nthL N v).length := by rw [around, aroundTo, List.take_length]
def eqRes (xs : List Int) (es : List (Int × Int)) (cs : List Int) : Bool := okG xs es && (decide (cs.length = xs.length) && (colorsOk cs && equit (nearA xs.length (adjE es) xs.length) cs))
end Go.Proofs.YtgfcbmflnldicaaGreat
namespace Go.Proofs.YtgfcbmflnldicaaGreat
open Go.RowKit
attribute [local go_sem ↓] Go.wp_at_zero Go.wp_at_succ
theorem Own.lit1 (w : World) (x : Int) : Own (w.alloc (.cells #[.int .i64 x] 2)) w.heap.size (.slice (some ⟨w.heap.size, 0, none⟩) 1 1) [x] := ⟨by simp, World.ownsRow_lit w #[.int .i64 x] 1 (Nat.le_refl _) (by unfold maxLen; omega) rfl⟩
end Go.Proofs.YtgfcbmflnldicaaGreat
