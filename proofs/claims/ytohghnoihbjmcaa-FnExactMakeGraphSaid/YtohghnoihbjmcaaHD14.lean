/-
  Texts joined.
-/
import Derived.Test.YtohghnoihbjmcaaHD1
import Derived.Test.YtohghnoihbjmcaaHD7
import Derived.Test.YtohghnoihbjmcaaHD10
import Derived.Test.YtohghnoihbjmcaaHD11
import Derived.Test.YtohghnoihbjmcaaHD13
set_option linter.unusedVariables false
set_option linter.unusedSimpArgs false
set_option maxRecDepth 100000
set_option maxHeartbeats 40000000
namespace Go.Proofs.Ytohghnoihbjmcaa
open Go.RowKit
attribute [local go_sem ↓] Go.wp_at_zero Go.wp_at_succ
def RetG (w : World) (r : List Int × List (Int × Int) × Int) (e : Ending) (w' : World) : Prop := ∃ v u, e = .returned (.tuple #[.agg #[v, u], .int .i64 r.2.2]) ∧ OwnG2 w' w.heap.size v u r.1 r.2.1 ∧ Below w.heap.size w w'
theorem OwnG2.nil (w : World) (B : Nat) : OwnG2 w B (.slice none 0 0) (.slice none 0 0) [] [] := ⟨Own.nil _ _, OwnE.nil _ _⟩
theorem OwnG2.storeBelow {w : World} {B : Nat} {v u : Value} {xs : List Int} {es : List (Int × Int)} (h : OwnG2 w B v u xs es) {p : Addr} (hp : p.block < B) (x : Value) : OwnG2 (w.setCell p x) B v u xs es := ⟨h.1.storeBelow hp x, h.2.storeBelow hp x⟩
theorem OwnG2.mono {w : World} {B B' : Nat} {v u : Value} {xs : List Int} {es : List (Int × Int)} (h : OwnG2 w B v u xs es) (hB : B' ≤ B) : OwnG2 w B' v u xs es := ⟨h.1.mono hB, h.2.mono hB⟩
end Go.Proofs.Ytohghnoihbjmcaa
namespace Go.Proofs.Ytohghnoihbjmcaa
open Go.RowKit
attribute [local go_sem ↓] Go.wp_at_zero Go.wp_at_succ
def edgeIn (n : Int) (e : Int × Int) : Bool := inB e.1 0 (n - 1) && inB e.2 0 (n - 1) && decide (e.1 ≠ e.2)
def edgesIn (n : Int) (es : List (Int × Int)) : Bool := es.all (edgeIn n)
theorem edgesIn_no {n : Int} {es : List (Int × Int)} {k : Nat} (hk : k < es.length) (h : edgeIn n (nthE es k) = false) : edgesIn n es = false := by
 rw [edgesIn, List.all_eq_false]
 exact ⟨_, nthE_mem hk, by simp [h]⟩
theorem edgesIn_yes {n : Int} {es : List (Int × Int)} (h : ∀ k, k < es.length → edgeIn n (nthE es k) = true) : edgesIn n es = true := by
 rw [edgesIn, List.all_eq_true]
 intro e he
 obtain ⟨i, hi, rfl⟩ := List.getElem_of_mem he
 rw [← nthE_lt hi]
 exact h i hi
theorem edgeIn_iff {n : Nat} {e : Int × Int} : edgeIn n e = true ↔ 0 ≤ e.1 ∧ e.1 < n ∧ 0 ≤ e.2 ∧ e.2 < n ∧ e.1 ≠ e.2 := by
 rw [edgeIn, Bool.and_eq_true, Bool.and_eq_true, inB_true, inB_true, decide_eq_true_eq]
 omega
theorem edgesIn_all {n : Nat} {es : List (Int × Int)} (h : edgesIn n es = true) : ∀ e ∈ es, 0 ≤ e.1 ∧ e.1 < n ∧ 0 ≤ e.2 ∧ e.2 < n ∧ e.1 ≠ e.2 := fun e he => by
 rw [edgesIn, List.all_eq_true] at h
 exact edgeIn_iff.1 (h e he)
def mgRes (xs : List Int) (es : List (Int × Int)) : List Int × List (Int × Int) × Int :=
 if colorsOk xs && edgesIn xs.length es then (if (edgesT xs.length (adjE es) xs.length).length ≤ 512 then (xs, edgesT xs.length (adjE es) xs.length, 0) else ([], [], 2)) else ([], [], 2)
theorem colorsOk_64 {xs : List Int} (h : colorsOk xs = true) : xs.length ≤ 64 := by
 rw [colorsOk, Bool.and_eq_true, decide_eq_true_eq] at h
 exact h.1
theorem specMG_any (a : Option Addr) (c : Nat) (xs : List Int) (ra : Option Addr) (rc : Nat) (es : List (Int × Int)) (w : World) (hx : Rd w a xs) (hes : RdE w ra es) :
    Calls Try.prog 28 #[.slice a xs.length c, .slice ra es.length rc] w (RetG w (mgRes xs es)) := by
 have hxl := hx.len
 have hel := hes.len
 generalize hR : mgRes xs es = r
 obtain ⟨w0, hw0⟩ : ∃ w0, w0 = w.alloc (.cells #[.slice none 0 0, .slice none 0 0] 30) := ⟨_, rfl⟩
 have hb0 : Below w.heap.size w w0 := by rw [hw0]; exact (Below.refl _ _).alloc (Nat.le_refl _) _
 have kR : Blk w0 w.heap.size 30 #[.slice none 0 0, .slice none 0 0] := by rw [hw0]; exact Blk.new _ _ _ rfl
 have s0 : w0.heap.size = w.heap.size + 1 := by rw [hw0]; simp
 have BR := hide (show ∀ W, Below w0.heap.size w0 W → Blk W w.heap.size 30 #[.slice none 0 0, .slice none 0 0] from fun W h => kR.below h kR.lt)
 have HX := hide (hx.below hb0)
 have HES := hide (hes.below hb0)
 have HW := Lib.hid hw0
 have hcl := l21Colors_any a c xs w0 (unhide HX)
 cases hk : colorsOk xs with
 | false =>
  have HN := Lib.hid (show r = ([], [], 2) by rw [← hR, mgRes, hk]; rfl)
  rw [hk] at hcl
  have HV := hide hcl
  clear hcl hk hR hw0 kR
  go_enter Try.func28, Try.ntmps28
  go_wp2_with fail
  rw [← HW.out]
  refine (unhide HV).mono ?_
  rintro e w1 ⟨rfl, rfl⟩
  have kr := unhide BR w0 (Below.refl w0.heap.size w0)
  have r0 := kr.cell 0
  have r1 := kr.cell 1
  have q0 := kr.frozen 0
  have q1 := kr.frozen 1
  go_wp2
  refine bodyPost_ret (results_cell_tmp_row rfl _ _ w.heap.size 30 #[.slice none 0 0, .slice none 0 0] _ rfl ((kr.set_ 0 _).set_ 1 _) Try.underlying30 rfl (by kernel_rfl)) rfl ?_
  rw [HN.out]
  exact ⟨_, _, rfl, OwnG2.nil _ _, ((hb0.trans (Below.mono (Below.refl w0.heap.size w0) (by omega))).setCell (by show w.heap.size ≤ w.heap.size; omega) _).setCell (by show w.heap.size ≤ w.heap.size; omega) _⟩
 | true =>
  have hn64 := colorsOk_64 hk
  rw [hk] at hcl
  have HV := hide hcl
  have hR2 : r = if edgesIn xs.length es then (if (edgesT xs.length (adjE es) xs.length).length ≤ 512 then (xs, edgesT xs.length (adjE es) xs.length, 0) else ([], [], 2)) else ([], [], 2) := by rw [← hR, mgRes, hk, Bool.true_and]
  have HRR := Lib.hid hR2
  have hw1 : IntKind.i64.wrap ((xs.length : Int) - 1) = (xs.length : Int) - 1 := IntWalk.i64_in _ (by omega)
  have htb := fun W => l21Table_any a xs.length c none 0 [] W (by omega) (RdE.nil _ _) (fun e he => by simp at he)
  have HTB := hide htb
  clear hcl hk hR hw0 hR2 htb kR
  go_enter Try.func28, Try.ntmps28
  go_wp2_with fail
  rw [← HW.out]
  refine (unhide HV).mono ?_
  rintro e w1 ⟨rfl, rfl⟩
  go_wp2_with fail
  refine (unhide HTB _).mono ?_
  rintro e w2 ⟨tv, rfl, t2, b2⟩
  obtain ⟨ta, tc, rfl⟩ := t2.form
  have T2 := hide (show TabB w2 w0.heap.size (.slice ta xs.length tc) xs.length xs.length (adjE (es.take 0)) from t2)
  clear t2
  go_wp2_with fail
  go_loopw [8] (fun iv wr => ∃ i : Nat, iv = .int .i64 i ∧ i ≤ es.length ∧ Hid (TabB wr w0.heap.size (.slice ta xs.length tc) xs.length xs.length (adjE (es.take i))) ∧ Below w0.heap.size w0 wr ∧ Hid (∀ k, k < i → edgeIn xs.length (nthE es k) = true)) (fun iv _ => es.length - (intOf iv).toNat)
  case atStart => exact ⟨0, rfl, Nat.zero_le _, T2, b2, fun k hk => by omega⟩
  case round =>
   obtain ⟨i, rfl, hi, ht, hb, hq⟩ := hrel
   have hsz := hb.size
   by_cases hil : i < es.length
   · obtain ⟨b1, o1, rfl, hbb, hcx⟩ := (unhide HES).at_ (by omega)
     obtain ⟨hx1, hx2⟩ := hcx i hil
     obtain ⟨x, hx⟩ : ∃ z, z = (nthE es i).1 := ⟨_, rfl⟩
     obtain ⟨y, hy⟩ : ∃ z, z = (nthE es i).2 := ⟨_, rfl⟩
     have he : nthE es i = (x, y) := by rw [hx, hy]
     rw [← hx] at hx1
     rw [← hy] at hx2
     have hx1 := (hb.cell (p := ⟨b1, o1 + i * 2, none⟩) hbb).trans hx1
     have hx2 := (hb.cell (p := ⟨b1, o1 + i * 2 + 1, none⟩) hbb).trans hx2
     obtain ⟨wE, hwE⟩ : ∃ wE, wE = wr.alloc (.cells #[.int .i64 x, .int .i64 y] 58) := ⟨_, rfl⟩
     have hbE : Below wr.heap.size wr wE := by rw [hwE]; exact (Below.refl _ _).alloc (Nat.le_refl _) _
     have kE : Blk wE wr.heap.size 58 #[.int .i64 x, .int .i64 y] := by rw [hwE]; exact Blk.new _ _ _ rfl
     have hbE0 := hb.trans (hbE.mono hsz)
     have HWE := Lib.hid hwE
     have HE := Lib.hid he
     have e0 := kE.cell 0
     have e1 := kE.cell 1
     have hc1 := l00In_any x 0 ((xs.length : Int) - 1) wE
     have hc2 := l00In_any y 0 ((xs.length : Int) - 1) wE
     clear hx hy hwE hcx he
     go_upto_region 9 with fail
     rw [← HWE.out]
     by_cases c1 : 0 ≤ x ∧ x ≤ (xs.length : Int) - 1
     case neg =>
      have hno : edgeIn xs.length (nthE es i) = false := by rw [HE.out, ← Bool.not_eq_true, edgeIn_iff]; intro h; exact absurd h (by simp only; omega)
      have HN := Lib.hid (show r = ([], [], 2) by rw [HRR.out, edgesIn_no hil hno]; rfl)
      clear hno
      rw [show inB x 0 ((xs.length : Int) - 1) = false by unfold inB; rw [decide_eq_false_iff_not]; exact c1] at hc1
      have HC1 := hide hc1
      clear hc1
      clear c1 hc2
      go_wp2_with fail
      refine (unhide HC1).mono ?_
      rintro e w5 ⟨rfl, rfl⟩
      clear e0 e1
      have kr := unhide BR wE (hbE0)
      have r0 := kr.cell 0
      have r1 := kr.cell 1
      have q0 := kr.frozen 0
      have q1 := kr.frozen 1
      go_wp2
      refine bodyPost_ret (results_cell_tmp_row rfl _ _ w.heap.size 30 #[.slice none 0 0, .slice none 0 0] _ rfl ((kr.set_ 0 _).set_ 1 _) Try.underlying30 rfl (by kernel_rfl)) rfl ?_
      rw [HN.out]
      exact ⟨_, _, rfl, OwnG2.nil _ _, ((hb0.trans (Below.mono (hbE0) (by omega))).setCell (by show w.heap.size ≤ w.heap.size; omega) _).setCell (by show w.heap.size ≤ w.heap.size; omega) _⟩
     rw [show inB x 0 ((xs.length : Int) - 1) = true by unfold inB; exact decide_eq_true c1] at hc1
     have HC1 := hide hc1
     clear hc1
     by_cases c2 : 0 ≤ y ∧ y ≤ (xs.length : Int) - 1
     case neg =>
      have hno : edgeIn xs.length (nthE es i) = false := by rw [HE.out, ← Bool.not_eq_true, edgeIn_iff]; intro h; exact absurd h (by simp only; omega)
      have HN := Lib.hid (show r = ([], [], 2) by rw [HRR.out, edgesIn_no hil hno]; rfl)
      clear hno
      rw [show inB y 0 ((xs.length : Int) - 1) = false by unfold inB; rw [decide_eq_false_iff_not]; exact c2] at hc2
      have HC2 := hide hc2
      clear hc2
      clear c2
      go_wp2_with fail
      refine (unhide HC1).mono ?_
      rintro e w5 ⟨rfl, rfl⟩
      go_wp2_with fail
      refine (unhide HC2).mono ?_
      rintro e w5 ⟨rfl, rfl⟩
      clear e0 e1
      have kr := unhide BR wE (hbE0)
      have r0 := kr.cell 0
      have r1 := kr.cell 1
      have q0 := kr.frozen 0
      have q1 := kr.frozen 1
      go_wp2
      refine bodyPost_ret (results_cell_tmp_row rfl _ _ w.heap.size 30 #[.slice none 0 0, .slice none 0 0] _ rfl ((kr.set_ 0 _).set_ 1 _) Try.underlying30 rfl (by kernel_rfl)) rfl ?_
      rw [HN.out]
      exact ⟨_, _, rfl, OwnG2.nil _ _, ((hb0.trans (Below.mono (hbE0) (by omega))).setCell (by show w.heap.size ≤ w.heap.size; omega) _).setCell (by show w.heap.size ≤ w.heap.size; omega) _⟩
     rw [show inB y 0 ((xs.length : Int) - 1) = true by unfold inB; exact decide_eq_true c2] at hc2
     have HC2 := hide hc2
     clear hc2
     by_cases c3 : x = y
     case pos =>
      have hno : edgeIn xs.length (nthE es i) = false := by rw [HE.out, ← Bool.not_eq_true, edgeIn_iff]; intro h; exact absurd h (by simp only; omega)
      have HN := Lib.hid (show r = ([], [], 2) by rw [HRR.out, edgesIn_no hil hno]; rfl)
      have hxe : (x == y) = true := by simpa using c3
      clear hno c3
      go_wp2_with fail
      refine (unhide HC1).mono ?_
      rintro e w5 ⟨rfl, rfl⟩
      go_wp2_with fail
      refine (unhide HC2).mono ?_
      rintro e w5 ⟨rfl, rfl⟩
      have kr := unhide BR wE (hbE0)
      have r0 := kr.cell 0
      have r1 := kr.cell 1
      have q0 := kr.frozen 0
      have q1 := kr.frozen 1
      go_wp2
      refine bodyPost_ret (results_cell_tmp_row rfl _ _ w.heap.size 30 #[.slice none 0 0, .slice none 0 0] _ rfl ((kr.set_ 0 _).set_ 1 _) Try.underlying30 rfl (by kernel_rfl)) rfl ?_
      rw [HN.out]
      exact ⟨_, _, rfl, OwnG2.nil _ _, ((hb0.trans (Below.mono (hbE0) (by omega))).setCell (by show w.heap.size ≤ w.heap.size; omega) _).setCell (by show w.heap.size ≤ w.heap.size; omega) _⟩
     have hxe : (x == y) = false := by simpa using c3
     have hok : edgeIn xs.length (nthE es i) = true := by rw [HE.out, edgeIn_iff]; simp only; omega
     have HOK := hide hok
     clear hok
     go_wp2_with fail
     refine (unhide HC1).mono ?_
     rintro e w5 ⟨rfl, rfl⟩
     go_wp2_with fail
     refine (unhide HC2).mono ?_
     rintro e w5 ⟨rfl, rfl⟩
     obtain ⟨x, rfl⟩ : ∃ z : Nat, x = (z : Int) := ⟨x.toNat, by omega⟩
     obtain ⟨y, rfl⟩ : ∃ z : Nat, y = (z : Int) := ⟨y.toNat, by omega⟩
     have hx : x < xs.length := by omega
     have hy : y < xs.length := by omega
     obtain ⟨_, g, rfl, hBg, hg⟩ := ht.out.addr (by omega)
     have hst : adjE (es.take (i + 1)) = putT (adjE (es.take i)) x y := by rw [take_nthE hil, HE.out, adjE_snoc]
     have HST := Lib.hid hst
     have tE := ht.out.below hbE
     obtain ⟨q, r', c1', c2', q1, hgq, hBq, hq', d1, ⟨u, d2⟩, q2, hgr, hBr, hr, hfin⟩ := tE.put2 hx hy
     have FIN := hide hfin
     obtain ⟨qq, c1'', _, _, _, hqq, _⟩ := ht.out.at_ hx hy
     obtain ⟨rr, d1'', _, _, _, hrr, _⟩ := ht.out.at_ hy hx
     have hqn : q < wr.heap.size := by
      have e := (hbE.cell (p := ⟨g, x, none⟩) hg).trans c1''
      rw [c1'] at e
      injection e with e
      injection e with e
      injection e with e
      injection e with e
      omega
     have hrn : r' < wr.heap.size := by
      have e := (hbE.cell (p := ⟨g, y, none⟩) hg).trans d1''
      rw [d1] at e
      injection e with e
      injection e with e
      injection e with e
      injection e with e
      omega
     clear hst tE hfin c1'' d1'' hqq hrr hq' hr
     go_upto_region 11 with fail
     clear c1 c2 c3 hxe
     refine wp_region_noPanic ?_
     refine wp_region_seq (S := (fun W => W.cell? ⟨wr.heap.size, 0, none⟩ = some (.int .i64 (x : Int)) ∧ W.cell? ⟨wr.heap.size, 1, none⟩ = some (.int .i64 (y : Int)) ∧ W.cell? ⟨g, x, none⟩ = some (.slice (some ⟨q, 0, none⟩) xs.length xs.length))) [true, true, true, true, true, true, true, true, false] (by kernel_rfl) (by kernel_rfl) (by kernel_rfl) rfl (fun _ _ _ _ _ h => h) ?_ (fun hHeld => ?_)
     · exact ⟨e0, e1, c1'⟩
     simp only [List.toList_toArray]
     refine SeqH.take (v := ?hv15) (by rfl) ?hy15 ?hr15
     case hy15 =>
      intro w hSw
      try dsimp only at hSw
      go_simp
      try (with_reducible rfl)
     try simp only [Act.put, List.setIfInBounds_toArray, List.set_cons_zero, List.set_cons_succ]
     refine SeqH.take (v := ?hv16) (by rfl) ?hy16 ?hr16
     case hy16 =>
      intro w hSw
      try dsimp only at hSw
      go_simp
      try (with_reducible rfl)
     try simp only [Act.put, List.setIfInBounds_toArray, List.set_cons_zero, List.set_cons_succ]
     refine SeqH.take (v := ?hv17) (by rfl) ?hy17 ?hr17
     case hy17 =>
      intro w hSw
      try dsimp only at hSw
      go_simp
      try (with_reducible rfl)
     try simp only [Act.put, List.setIfInBounds_toArray, List.set_cons_zero, List.set_cons_succ]
     refine SeqH.take (v := ?hv18) (by rfl) ?hy18 ?hr18
     case hy18 =>
      intro w hSw
      try dsimp only at hSw
      go_simp
      try (with_reducible rfl)
     try simp only [Act.put, List.setIfInBounds_toArray, List.set_cons_zero, List.set_cons_succ]
     refine SeqH.take (v := ?hv19) (by rfl) ?hy19 ?hr19
     case hy19 =>
      intro w hSw
      try dsimp only at hSw
      go_simp
      try (with_reducible rfl)
     try simp only [Act.put, List.setIfInBounds_toArray, List.set_cons_zero, List.set_cons_succ]
     refine SeqH.take (v := ?hv20) (by rfl) ?hy20 ?hr20
     case hy20 =>
      intro w hSw
      try dsimp only at hSw
      go_simp
      try (with_reducible rfl)
     try simp only [Act.put, List.setIfInBounds_toArray, List.set_cons_zero, List.set_cons_succ]
     refine SeqH.take (v := ?hv21) (by rfl) ?hy21 ?hr21
     case hy21 =>
      intro w hSw
      try dsimp only at hSw
      go_simp
      try (with_reducible rfl)
     try simp only [Act.put, List.setIfInBounds_toArray, List.set_cons_zero, List.set_cons_succ]
     refine SeqH.take (v := ?hv22) (by rfl) ?hy22 ?hr22
     case hy22 =>
      intro w hSw
      try dsimp only at hSw
      go_simp
      try (with_reducible rfl)
     try simp only [Act.put, List.setIfInBounds_toArray, List.set_cons_zero, List.set_cons_succ]
     refine SeqH.call (fun K hK => ?_)
     go_simp
     skip
     refine hK.out _ _ ?_ (fun hHeld => ?_)
     · exact ⟨(cell_block (Below.heap_setCell wE ⟨q, y, none⟩ _ wr.heap.size (by show wr.heap.size ≠ q; omega)) 0).trans e0, (cell_block (Below.heap_setCell wE ⟨q, y, none⟩ _ wr.heap.size (by show wr.heap.size ≠ q; omega)) 1).trans e1, (cell_block (Below.heap_setCell wE ⟨q, y, none⟩ _ g hgq) x).trans c1'⟩
     clear hK K
     try simp only [Act.put, List.setIfInBounds_toArray, List.set_cons_zero, List.set_cons_succ]
     refine SeqH.done (NoPanic.normal ?_)
     obtain ⟨w5, hw5⟩ : ∃ z, z = wE.setCell ⟨q, y, none⟩ (.bool true) := ⟨_, rfl⟩
     have e0 : w5.cell? ⟨wr.heap.size, 0, none⟩ = some (.int .i64 (x : Int)) := by rw [hw5]; exact (cell_block (Below.heap_setCell wE ⟨q, y, none⟩ _ wr.heap.size (by show wr.heap.size ≠ q; omega)) 0).trans e0
     have e1 : w5.cell? ⟨wr.heap.size, 1, none⟩ = some (.int .i64 (y : Int)) := by rw [hw5]; exact (cell_block (Below.heap_setCell wE ⟨q, y, none⟩ _ wr.heap.size (by show wr.heap.size ≠ q; omega)) 1).trans e1
     have d1 : w5.cell? ⟨g, y, none⟩ = some (.slice (some ⟨r', 0, none⟩) xs.length xs.length) := by rw [hw5]; exact (cell_block (Below.heap_setCell wE ⟨q, y, none⟩ _ g hgq) y).trans d1
     rw [← hw5] at d2 q2 FIN ⊢
     have hb5 : Below w0.heap.size w0 w5 := by rw [hw5]; exact hbE0.setCell (p := ⟨q, y, none⟩) (by show w0.heap.size ≤ q; omega) _
     clear hw5
     go_upto_region 12 with fail
     refine wp_region_noPanic ?_
     refine wp_region_seq (S := (fun W => W.cell? ⟨wr.heap.size, 0, none⟩ = some (.int .i64 (x : Int)) ∧ W.cell? ⟨wr.heap.size, 1, none⟩ = some (.int .i64 (y : Int)) ∧ W.cell? ⟨g, y, none⟩ = some (.slice (some ⟨r', 0, none⟩) xs.length xs.length))) [true, true, true, true, true, true, true, true, false] (by kernel_rfl) (by kernel_rfl) (by kernel_rfl) rfl (fun _ _ _ _ _ h => h) ?_ (fun hHeld => ?_)
     · exact ⟨e0, e1, d1⟩
     simp only [List.toList_toArray]
     refine SeqH.take (v := ?hv23) (by rfl) ?hy23 ?hr23
     case hy23 =>
      intro w hSw
      try dsimp only at hSw
      go_simp
      try (with_reducible rfl)
     try simp only [Act.put, List.setIfInBounds_toArray, List.set_cons_zero, List.set_cons_succ]
     refine SeqH.take (v := ?hv24) (by rfl) ?hy24 ?hr24
     case hy24 =>
      intro w hSw
      try dsimp only at hSw
      go_simp
      try (with_reducible rfl)
     try simp only [Act.put, List.setIfInBounds_toArray, List.set_cons_zero, List.set_cons_succ]
     refine SeqH.take (v := ?hv25) (by rfl) ?hy25 ?hr25
     case hy25 =>
      intro w hSw
      try dsimp only at hSw
      go_simp
      try (with_reducible rfl)
     try simp only [Act.put, List.setIfInBounds_toArray, List.set_cons_zero, List.set_cons_succ]
     refine SeqH.take (v := ?hv26) (by rfl) ?hy26 ?hr26
     case hy26 =>
      intro w hSw
      try dsimp only at hSw
      go_simp
      try (with_reducible rfl)
     try simp only [Act.put, List.setIfInBounds_toArray, List.set_cons_zero, List.set_cons_succ]
     refine SeqH.take (v := ?hv27) (by rfl) ?hy27 ?hr27
     case hy27 =>
      intro w hSw
      try dsimp only at hSw
      go_simp
      try (with_reducible rfl)
     try simp only [Act.put, List.setIfInBounds_toArray, List.set_cons_zero, List.set_cons_succ]
     refine SeqH.take (v := ?hv28) (by rfl) ?hy28 ?hr28
     case hy28 =>
      intro w hSw
      try dsimp only at hSw
      go_simp
      try (with_reducible rfl)
     try simp only [Act.put, List.setIfInBounds_toArray, List.set_cons_zero, List.set_cons_succ]
     refine SeqH.take (v := ?hv29) (by rfl) ?hy29 ?hr29
     case hy29 =>
      intro w hSw
      try dsimp only at hSw
      go_simp
      try (with_reducible rfl)
     try simp only [Act.put, List.setIfInBounds_toArray, List.set_cons_zero, List.set_cons_succ]
     refine SeqH.take (v := ?hv30) (by rfl) ?hy30 ?hr30
     case hy30 =>
      intro w hSw
      try dsimp only at hSw
      go_simp
      try (with_reducible rfl)
     try simp only [Act.put, List.setIfInBounds_toArray, List.set_cons_zero, List.set_cons_succ]
     refine SeqH.call (fun K hK => ?_)
     go_simp
     skip
     refine hK.out _ _ ?_ (fun hHeld => ?_)
     · exact ⟨(cell_block (Below.heap_setCell w5 ⟨r', x, none⟩ _ wr.heap.size (by show wr.heap.size ≠ r'; omega)) 0).trans e0, (cell_block (Below.heap_setCell w5 ⟨r', x, none⟩ _ wr.heap.size (by show wr.heap.size ≠ r'; omega)) 1).trans e1, (cell_block (Below.heap_setCell w5 ⟨r', x, none⟩ _ g hgr) y).trans d1⟩
     clear hK K
     try simp only [Act.put, List.setIfInBounds_toArray, List.set_cons_zero, List.set_cons_succ]
     refine SeqH.done (NoPanic.normal ?_)
     go_wp2_with fail
     go_roundw
     case rel =>
      refine ⟨i + 1, by go_num, by omega, ?_, ?_, fun k hk => ?_⟩
      · show TabB _ _ _ _ _ _
        rw [HST.out]
        exact unhide FIN
      · exact ((hb5.setCell (p := ⟨r', x, none⟩) (by show w0.heap.size ≤ r'; omega) _).drew).drew
      · rcases Nat.lt_succ_iff_lt_or_eq.1 hk with h | rfl
        · exact hq.out k h
        · exact unhide HOK
     case measure => simp only [intOf]; omega
   · have hie : i = es.length := by omega
     have hall := edgesIn_yes (n := (xs.length : Int)) (es := es) (fun k hk => hq.out k (by omega))
     obtain ⟨E, hE⟩ : ∃ E, E = edgesT xs.length (adjE es) xs.length := ⟨_, rfl⟩
     have hR3 : r = if E.length ≤ 512 then (xs, E, 0) else ([], [], 2) := by rw [HRR.out, if_pos hall, hE]
     have hElen : E.length ≤ 64 * 64 := by rw [hE]; exact Nat.le_trans (edgesT_len _ _ _) (Nat.mul_le_mul hn64 hn64)
     have HR3 := Lib.hid hR3
     have hto := ht.out
     rw [hie, List.take_length] at hto
     have hof := l21Of_any a c xs (.slice ta xs.length tc) w0.heap.size (adjE es) wr ((unhide HX).below hb) (by omega) hto
     rw [← hE] at hof
     have HOF := hide hof
     clear hof hto ht hie hall hE hR3
     go_wp2_with fail
     refine (unhide HOF).mono ?_
     rintro e w5 ⟨v5, u5, rfl, o5, b5⟩
     have d5 := hb.trans (b5.mono hsz)
     obtain ⟨a5, c5, ra5, rc5, rfl, rfl, _, _⟩ := o5.form
     obtain ⟨W6, hW6⟩ : ∃ z, z = w5.alloc (.cells #[.slice a5 xs.length c5, .slice ra5 E.length rc5] 30) := ⟨_, rfl⟩
     have b6 : Below w5.heap.size w5 W6 := by rw [hW6]; exact (Below.refl _ _).alloc (Nat.le_refl _) _
     have k6 : Blk W6 w5.heap.size 30 #[.slice a5 xs.length c5, .slice ra5 E.length rc5] := by rw [hW6]; exact Blk.new _ _ _ rfl
     have d6 := d5.trans (b6.mono d5.size)
     have o6 : OwnG2 W6 wr.heap.size (.slice a5 xs.length c5) (.slice ra5 E.length rc5) xs E := ⟨o5.1.below b6 (Nat.le_refl _), o5.2.below b6 (Nat.le_refl _)⟩
     have O6 := hide (o6.mono hsz)
     have HW6 := Lib.hid hW6
     have e0 := k6.cell 0
     have e1 := k6.cell 1
     clear hW6 o5 o6
     go_upto_region 14 with fail
     rw [← HW6.out]
     by_cases hE5 : E.length ≤ 512
     · have HN := Lib.hid (show r = (xs, E, 0) by rw [HR3.out, if_pos hE5])
       have hEd : decide ((512 : Int) < (E.length : Int)) = false := by rw [decide_eq_false_iff_not]; omega
       have kr := unhide BR W6 (d6)
       have r0 := kr.cell 0
       have r1 := kr.cell 1
       have q0 := kr.frozen 0
       have q1 := kr.frozen 1
       go_wp2
       refine bodyPost_ret (results_cell_tmp_row rfl _ _ w.heap.size 30 #[.slice a5 xs.length c5, .slice ra5 E.length rc5] _ rfl ((kr.set_ 0 _).set_ 1 _) Try.underlying30 rfl (by kernel_rfl)) rfl ?_
       rw [HN.out]
       exact ⟨_, _, rfl, (((unhide O6).storeBelow (by show w.heap.size < _; omega) _).storeBelow (by show w.heap.size < _; omega) _).mono (by omega), ((hb0.trans (Below.mono (d6) (by omega))).setCell (by show w.heap.size ≤ w.heap.size; omega) _).setCell (by show w.heap.size ≤ w.heap.size; omega) _⟩
     · have HN := Lib.hid (show r = ([], [], 2) by rw [HR3.out, if_neg hE5])
       have hEd : decide ((512 : Int) < (E.length : Int)) = true := decide_eq_true (by omega)
       have kr := unhide BR W6 (d6)
       have r0 := kr.cell 0
       have r1 := kr.cell 1
       have q0 := kr.frozen 0
       have q1 := kr.frozen 1
       go_wp2
       refine bodyPost_ret (results_cell_tmp_row rfl _ _ w.heap.size 30 #[.slice none 0 0, .slice none 0 0] _ rfl ((kr.set_ 0 _).set_ 1 _) Try.underlying30 rfl (by kernel_rfl)) rfl ?_
       rw [HN.out]
       exact ⟨_, _, rfl, OwnG2.nil _ _, ((hb0.trans (Below.mono (d6) (by omega))).setCell (by show w.heap.size ≤ w.heap.size; omega) _).setCell (by show w.heap.size ≤ w.heap.size; omega) _⟩
end Go.Proofs.Ytohghnoihbjmcaa
