/-
  Texts joined.
-/
import Derived.Sort.Grow
import Derived.Test.YtgfcbmflnldicaaDoorGT1
import Derived.Test.YtgfcbmflnldicaaDoorGT4
import Derived.Test.YtgfcbmflnldicaaDoorGT5
set_option linter.unusedVariables false
set_option linter.unusedSimpArgs false
set_option maxRecDepth 100000
set_option maxHeartbeats 40000000
namespace Go.Proofs.YtgfcbmflnldicaaDoor
open Go.RowKit
attribute [local go_sem ↓] Go.wp_at_zero Go.wp_at_succ
def colorOk (x : Int) : Bool := inB x 0 63
theorem isColor_any (x : Int) (w : World) : Calls Tryd.prog 41 #[.int .i64 x] w fun e w' => e = .returned (.bool (colorOk x)) ∧ w = w' := by
 go_enter Tryd.func41, Tryd.ntmps41
 go_wp2_with fail
 refine (within_any x 0 63 w).mono ?_
 rintro e w1 ⟨rfl, rfl⟩
 go_wp2
 go_ret
 exact ⟨rfl, rfl⟩
def notColor (x : Int) : Bool := !colorOk x
theorem areColors1_any (x : Int) (w : World) : Calls Tryd.prog 40 #[.int .i64 x] w fun e w' => e = .returned (.bool (notColor x)) ∧ w = w' := by
 go_enter Tryd.func40, Tryd.ntmps40
 go_wp2_with fail
 refine (isColor_any x w).mono ?_
 rintro e w1 ⟨rfl, rfl⟩
 go_wp2
 go_ret
 exact ⟨rfl, rfl⟩
theorem idx_notColor (a : Option Addr) (c : Nat) (xs : List Int) (w : World) (hx : Rd w a xs) :
    Calls Tryd.prog 43 #[.slice a xs.length c, .func (.func 40) #[] #[]] w fun e w' => e = .returned (.int .i64 (firstOf notColor xs)) ∧ w = w' := by
 have hxl := hx.len
 go_enter Tryd.func43, Tryd.ntmps43
 go_wp2_with fail
 go_loop [8] (fun i => ∃ k : Nat, i = .int .i64 k ∧ k ≤ xs.length ∧ Hid (∀ j, j < k → notColor (nth xs j) = false)) (fun i => xs.length - (intOf i).toNat)
 case atStart => exact ⟨0, rfl, Nat.zero_le _, fun j hj => by omega⟩
 case round =>
  obtain ⟨k, rfl, hk, hq⟩ := hrel
  by_cases hkl : k < xs.length
  · obtain ⟨b1, o1, rfl, _, hc⟩ := hx.at_ (by omega)
    have h1 := hc k hkl
    clear hc hx
    obtain ⟨r, hr⟩ : ∃ r, notColor (nth xs k) = r := ⟨_, rfl⟩
    have HR := Lib.hid hr
    have hcl := areColors1_any (nth xs k) w
    rw [hr] at hcl
    have HC := hide hcl
    clear hr hcl
    go_wp2_with fail
    refine (unhide HC).mono ?_
    rintro e w1 ⟨rfl, rfl⟩
    cases r
    · go_wp2
      go_round
      case rel =>
       refine ⟨k + 1, by go_num, by omega, fun j hj => ?_⟩
       rcases Nat.lt_succ_iff_lt_or_eq.1 hj with h | rfl
       · exact hq.out j h
       · exact HR.out
      case measure => simp [intOf]; omega
    · go_wp2
      go_ret
      exact ⟨ret_int (firstOf_yes hkl HR.out hq.out).symm, rfl⟩
  · go_wp2
    go_ret
    exact ⟨ret_int (firstOf_no (fun j hj => hq.out j (by omega))).symm, rfl⟩
theorem has_notColor (a : Option Addr) (c : Nat) (xs : List Int) (w : World) (hx : Rd w a xs) :
    Calls Tryd.prog 31 #[.slice a xs.length c, .func (.func 40) #[] #[]] w fun e w' => e = .returned (.bool (xs.any notColor)) ∧ w = w' := by
 have hc := idx_notColor a c xs w hx
 rw [any_firstOf]
 generalize hf : firstOf notColor xs = r at hc
 have HF := Lib.hid hf
 have HC := hide hc
 clear hf hc
 by_cases h0 : 0 ≤ r
 · go_enter Tryd.func31, Tryd.ntmps31
   go_wp2_with fail
   refine (unhide HC).mono ?_
   rintro e w1 ⟨rfl, rfl⟩
   go_wp2
   go_ret
   exact ⟨ret_bool (by simp [h0]), rfl⟩
 · go_enter Tryd.func31, Tryd.ntmps31
   go_wp2_with fail
   refine (unhide HC).mono ?_
   rintro e w1 ⟨rfl, rfl⟩
   go_wp2
   go_ret
   exact ⟨ret_bool (by simp [show ¬ 0 ≤ r by omega]), rfl⟩
def colorsOk (xs : List Int) : Bool := decide (xs.length ≤ 64) && !xs.any notColor
theorem colorsOk_long {xs : List Int} (h : ¬ (xs.length : Int) ≤ 64) : colorsOk xs = false := by
 unfold colorsOk; rw [decide_eq_false (by omega)]; rfl
theorem colorsOk_short {xs : List Int} (h : (xs.length : Int) ≤ 64) : colorsOk xs = !xs.any notColor := by
 unfold colorsOk; rw [decide_eq_true (by omega)]; rfl
theorem areColors_any (a : Option Addr) (c : Nat) (xs : List Int) (w : World) (hx : Rd w a xs) : Calls Tryd.prog 29 #[.slice a xs.length c] w fun e w' => e = .returned (.bool (colorsOk xs)) ∧ w = w' := by
 have hxl := hx.len
 by_cases h : (xs.length : Int) ≤ 64
 · rw [colorsOk_short h]
   go_enter Tryd.func29, Tryd.ntmps29
   go_wp2_with fail
   refine (has_notColor a c xs w hx).mono ?_
   rintro e w1 ⟨rfl, rfl⟩
   go_wp2
   go_ret
   exact ⟨rfl, rfl⟩
 · rw [colorsOk_long h]
   go_enter Tryd.func29, Tryd.ntmps29
   go_wp2
   go_ret
   exact ⟨rfl, rfl⟩
theorem any_hit {xs : List Int} {p : Int → Bool} {k : Nat} (hk : k < xs.length) (h : p (nth xs k) = true) : xs.any p = true := by
 rw [List.any_eq_true]; exact ⟨_, nth_mem hk, h⟩
theorem any_none {xs : List Int} {p : Int → Bool} (h : ∀ j, j < xs.length → p (nth xs j) = false) : xs.any p = false := by
 rw [List.any_eq_false]
 intro x hx
 obtain ⟨i, hi, rfl⟩ := List.getElem_of_mem hx
 rw [← nth_lt hi, h i hi]; simp
theorem l21Colors_any (a : Option Addr) (c : Nat) (xs : List Int) (w : World) (hx : Rd w a xs) : Calls Tryd.prog 21 #[.slice a xs.length c] w fun e w' => e = .returned (.bool (colorsOk xs)) ∧ w = w' := by
 have hxl := hx.len
 by_cases h : (xs.length : Int) ≤ 64
 · rw [colorsOk_short h]
   go_enter Tryd.func21, Tryd.ntmps21
   go_wp2_with fail
   go_loop [3] (fun i => ∃ (k : Nat), i = .int .i64 k ∧ k ≤ xs.length ∧ Hid (∀ j, j < k → notColor (nth xs j) = false)) (fun i => xs.length - (intOf i).toNat)
   case atStart => exact ⟨0, rfl, by omega, fun j hj => by omega⟩
   case round =>
    obtain ⟨k, rfl, hk, hq⟩ := hrel
    by_cases hkl : k < xs.length
    · obtain ⟨b1, o1, rfl, _, hcx⟩ := hx.at_ (by omega)
      have hx1 := hcx k hkl
      clear hcx hx
      have hcl := l00In_any (nth xs k) 0 63 w
      obtain ⟨r, hr⟩ : ∃ r, inB (nth xs k) 0 63 = r := ⟨_, rfl⟩
      rw [hr] at hcl
      have HR : Hid (notColor (nth xs k) = !r) := by rw [← hr]; exact rfl
      have HC := hide hcl
      clear hr hcl
      go_wp2_with fail
      refine (unhide HC).mono ?_
      rintro e w1 ⟨rfl, rfl⟩
      cases r
      · go_wp2
        go_ret
        exact ⟨ret_bool (by rw [any_hit hkl HR.out]; rfl), rfl⟩
      · go_wp2
        go_round
        case rel =>
         refine ⟨k + 1, by go_num, by omega, fun j hj => ?_⟩
         rcases Nat.lt_succ_iff_lt_or_eq.1 hj with h | rfl
         · exact hq.out j h
         · exact HR.out
        case measure => simp [intOf]; omega
    · go_wp2
      go_ret
      exact ⟨ret_bool (by rw [any_none (fun j hj => hq.out j (by omega))]; rfl), rfl⟩
 · rw [colorsOk_long h]
   go_enter Tryd.func21, Tryd.ntmps21
   go_wp2
   go_ret
   exact ⟨rfl, rfl⟩
def orI (x y : Int) : Int := if x = 0 then y else x
theorem cmpOr_any (g c : Nat) (x y : Int) (w : World) (h0 : w.cell? ⟨g, 0, none⟩ = some (.int .i64 x)) (h1 : w.cell? ⟨g, 1, none⟩ = some (.int .i64 y)) :
    Calls Tryd.prog 38 #[.slice (some ⟨g, 0, none⟩) 2 c] w fun e w' => e = .returned (.int .i64 (orI x y)) ∧ w = w' := by
 go_enter Tryd.func38, Tryd.ntmps38
 go_wp2_with fail
 go_loop [8] (fun i => ∃ (k : Nat), i = .int .i64 k ∧ k ≤ 2 ∧ Hid (1 ≤ k → x = 0) ∧ Hid (2 ≤ k → y = 0)) (fun i => 2 - (intOf i).toNat)
 case atStart => exact ⟨0, rfl, by omega, fun h => by omega, fun h => by omega⟩
 case round =>
  obtain ⟨k, rfl, hk, q1, q2⟩ := hrel
  obtain rfl | rfl | rfl : k = 0 ∨ k = 1 ∨ k = 2 := by omega
  · by_cases hx : x = 0
    · subst hx
      go_wp2
      go_round
      case rel => exact ⟨1, rfl, by omega, fun _ => by simp, fun h => by omega⟩
      case measure => simp [intOf]
    · have hb : (x != 0) = true := by simpa using hx
      have HX := Lib.hid hx
      clear hx
      go_wp2
      go_ret
      exact ⟨ret_int (by unfold orI; rw [if_neg HX.out]), rfl⟩
  · by_cases hy : y = 0
    · subst hy
      go_wp2
      go_round
      case rel => exact ⟨2, rfl, by omega, fun _ => q1.out (by omega), fun _ => by simp⟩
      case measure => simp [intOf]
    · have hb : (y != 0) = true := by simpa using hy
      have HX := Lib.hid hy
      clear hy
      go_wp2
      go_ret
      exact ⟨ret_int (by unfold orI; rw [if_pos (q1.out (by omega))]), rfl⟩
  · go_wp2
    go_ret
    exact ⟨ret_int (by unfold orI; rw [if_pos (q1.out (by omega)), q2.out (by omega)]), rfl⟩
def cmpE (e f : Int × Int) : Int := orI (cmpI e.1 f.1) (cmpI e.2 f.2)
theorem grow3 (w : World) (a b c : Obj) : (((w.alloc a).alloc b).alloc c).drew = Go.Sort.grow (w.drewN 1) #[a, b, c] := by
 rw [Go.Sort.alloc_eq_grow, Go.Sort.alloc_eq_grow, Go.Sort.alloc_eq_grow, Go.Sort.grow_grow, Go.Sort.grow_grow, Go.Sort.drew_grow]
 rfl
theorem below_grown {w w' : World} (h : ∃ q os, w' = Go.Sort.grow (w.drewN q) os) : Below w.heap.size w w' := by
 obtain ⟨q, os, rfl⟩ := h
 exact ⟨rfl, rfl, rfl, by simp, fun i hi => by
  have : (w.heap ++ os)[i]? = w.heap[i]? := by rw [Array.getElem?_append_left hi]
  exact this⟩
theorem compareEdges_grow (e f : Int × Int) (w : World) :
    Calls Tryd.prog 28 #[.agg #[.int .i64 e.1, .int .i64 e.2], .agg #[.int .i64 f.1, .int .i64 f.2]] w fun r w' => r = .returned (.int .i64 (cmpE e f)) ∧ ∃ q os, w' = Go.Sort.grow (w.drewN q) os := by
 obtain ⟨w0, hw0⟩ : ∃ w0, w0 = (w.alloc (.cells #[.int .i64 e.1, .int .i64 e.2] 41)).alloc (.cells #[.int .i64 f.1, .int .i64 f.2] 41) := ⟨_, rfl⟩
 have hb0 : Below w.heap.size w w0 := by rw [hw0]; exact ((Below.refl _ _).alloc (Nat.le_refl _) _).alloc (by simp) _
 have kA : Blk w0 w.heap.size 41 #[.int .i64 e.1, .int .i64 e.2] := by rw [hw0]; exact (Blk.new _ _ _ rfl).alloc _
 have kB : Blk w0 (w.heap.size + 1) 41 #[.int .i64 f.1, .int .i64 f.2] := by rw [hw0]; exact Blk.new _ _ _ (by simp)
 have s0 : w0.heap.size = w.heap.size + 1 + 1 := by rw [hw0]; simp
 have f0 : w0.cell? ⟨w.heap.size, 0, none⟩ = some (.int .i64 e.1) := kA.cell 0
 have f1 : w0.cell? ⟨w.heap.size, 1, none⟩ = some (.int .i64 e.2) := kA.cell 1
 have f2 : w0.cell? ⟨w.heap.size + 1, 0, none⟩ = some (.int .i64 f.1) := kB.cell 0
 have f3 : w0.cell? ⟨w.heap.size + 1, 1, none⟩ = some (.int .i64 f.2) := kB.cell 1
 have h1 := fun W => compare_any e.1 f.1 W
 have h2 := fun W => compare_any e.2 f.2 W
 have HW := Lib.hid hw0
 clear hw0
 go_enter Tryd.func28, Tryd.ntmps28
 go_wp2_with fail
 rw [← HW.out]
 have kC := Blk.new w0 3 #[.int .i64 (cmpI e.1 f.1), .int .i64 (cmpI e.2 f.2)] s0.symm
 have c0 := kC.cell 0
 have c1 := kC.cell 1
 have hb1 : Below w.heap.size w (w0.alloc (.cells #[.int .i64 (cmpI e.1 f.1), .int .i64 (cmpI e.2 f.2)] 3)) := hb0.alloc (by omega) _
 go_region_with (first
  | (go_at_call 39; refine (compare_any _ _ _).mono ?_; rintro r W ⟨rfl, rfl⟩)
  | (go_at_call 38; refine (cmpOr_any (w.heap.size + 1 + 1) 2 (cmpI e.1 f.1) (cmpI e.2 f.2) _ ?_ ?_).mono ?_; exact c0; exact c1; rintro r W ⟨rfl, rfl⟩))
 all_goals (go_wp2; go_ret)
 all_goals exact ⟨rfl, 1, #[_, _, _], by rw [HW.out]; exact grow3 w _ _ _⟩
theorem compareEdges_any (e f : Int × Int) (w : World) :
    Calls Tryd.prog 28 #[.agg #[.int .i64 e.1, .int .i64 e.2], .agg #[.int .i64 f.1, .int .i64 f.2]] w fun r w' => r = .returned (.int .i64 (cmpE e f)) ∧ Below w.heap.size w w' :=
 (compareEdges_grow e f w).mono fun _ _ h => ⟨h.1, below_grown h.2⟩
theorem cmpE_less (e f : Int × Int) : decide (cmpE e f < 0) = (decide (e.1 < f.1) || (decide (e.1 = f.1) && decide (e.2 < f.2))) := by
 obtain ⟨a, b⟩ := e
 obtain ⟨c, d⟩ := f
 simp only [cmpE, orI, cmpI]
 by_cases h1 : a < c
 · simp [h1]
 · by_cases h2 : c < a
   · have h3 : ¬ a = c := by omega
     simp [h1, h2, h3]
   · have h3 : a = c := by omega
     by_cases h4 : b < d
     · simp [h3, h4]
     · by_cases h5 : d < b
       · simp [h3, h4, h5]
       · simp [h3, h4, h5]
def lessE (e f : Int × Int) : Bool := decide (cmpE e f < 0)
theorem l21Less_any (e f : Int × Int) (w : World) :
    Calls Tryd.prog 23 #[.agg #[.int .i64 e.1, .int .i64 e.2], .agg #[.int .i64 f.1, .int .i64 f.2]] w fun r w' => r = .returned (.bool (lessE e f)) ∧ Below w.heap.size w w' := by
 obtain ⟨a, b⟩ := e
 obtain ⟨c, d⟩ := f
 have hb : ∀ o o', Below w.heap.size w ((w.alloc o).alloc o') := fun o o' => ((Below.refl _ _).alloc (Nat.le_refl _) _).alloc (by simp) _
 have hl := cmpE_less (a, b) (c, d)
 simp only at hl ⊢
 have HL := Lib.hid hl
 clear hl
 by_cases h1 : a < c
 · go_enter Tryd.func23, Tryd.ntmps23
   go_wp2
   go_ret
   exact ⟨ret_bool (by unfold lessE; rw [HL.out]; simp [h1]), hb _ _⟩
 · by_cases h2 : a = c
   · subst h2
     by_cases h3 : b < d
     · go_enter Tryd.func23, Tryd.ntmps23
       go_wp2
       go_ret
       exact ⟨ret_bool (by unfold lessE; rw [HL.out]; simp [h3]), hb _ _⟩
     · go_enter Tryd.func23, Tryd.ntmps23
       go_wp2
       go_ret
       exact ⟨ret_bool (by unfold lessE; rw [HL.out]; simp [show ¬ b < d by omega]), hb _ _⟩
   · have h4 : (a == c) = false := by simpa using h2
     go_enter Tryd.func23, Tryd.ntmps23
     go_wp2
     go_ret
     exact ⟨ret_bool (by unfold lessE; rw [HL.out]; simp [h2, show ¬ a < c by omega]), hb _ _⟩
end Go.Proofs.YtgfcbmflnldicaaDoor
namespace Go.Proofs.YtgfcbmflnldicaaDoor
open Go.RowKit
def edgeOk (n : Int) (es : List (Int × Int)) (k : Nat) : Bool := decide (0 ≤ (nthE es k).1 ∧ (nthE es k).1 < (nthE es k).2 ∧ (nthE es k).2 < n ∧ (k = 0 ∨ lessE (nthE es (k - 1)) (nthE es k) = true))
def okG (xs : List Int) (es : List (Int × Int)) : Bool := colorsOk xs && decide (es.length ≤ 512) && (List.range es.length).all (edgeOk xs.length es)
theorem okG_colors {xs : List Int} {es : List (Int × Int)} (h : colorsOk xs = false) : okG xs es = false := by simp [okG, h]
theorem okG_long {xs : List Int} {es : List (Int × Int)} (h : ¬ (es.length : Int) ≤ 512) : okG xs es = false := by
 unfold okG; rw [decide_eq_false (p := es.length ≤ 512) (by omega)]; simp
theorem okG_no {xs : List Int} {es : List (Int × Int)} {k : Nat} (hk : k < es.length) (h : edgeOk xs.length es k = false) : okG xs es = false := by
 unfold okG
 have : (List.range es.length).all (edgeOk xs.length es) = false := by
  rw [List.all_eq_false]
  exact ⟨k, List.mem_range.2 hk, by simp [h]⟩
 rw [this]; simp
theorem okG_yes {xs : List Int} {es : List (Int × Int)} (h : ∀ j, j < es.length → edgeOk xs.length es j = true) : okG xs es = (colorsOk xs && decide (es.length ≤ 512)) := by
 unfold okG
 have : (List.range es.length).all (edgeOk xs.length es) = true := by
  rw [List.all_eq_true]
  exact fun k hk => h k (List.mem_range.1 hk)
 rw [this]; simp
theorem edgeOk_no {n : Int} {es : List (Int × Int)} {k : Nat} (h : ¬ (0 ≤ (nthE es k).1 ∧ (nthE es k).1 < (nthE es k).2 ∧ (nthE es k).2 < n)) : edgeOk n es k = false := by
 unfold edgeOk; rw [decide_eq_false_iff_not]; rintro ⟨a, b, c, _⟩; exact h ⟨a, b, c⟩
theorem edgeOk_zero {n : Int} {es : List (Int × Int)} (h1 : 0 ≤ (nthE es 0).1) (h2 : (nthE es 0).1 < (nthE es 0).2) (h3 : (nthE es 0).2 < n) : edgeOk n es 0 = true := by
 unfold edgeOk; rw [decide_eq_true_eq]; exact ⟨h1, h2, h3, .inl rfl⟩
theorem edgeOk_less {n : Int} {es : List (Int × Int)} {k : Nat} (h0 : k ≠ 0) (h1 : 0 ≤ (nthE es k).1) (h2 : (nthE es k).1 < (nthE es k).2) (h3 : (nthE es k).2 < n) : edgeOk n es k = lessE (nthE es (k - 1)) (nthE es k) := by
 unfold edgeOk
 rcases h : lessE (nthE es (k - 1)) (nthE es k) with _ | _
 · rw [decide_eq_false_iff_not]; simp [h0]
 · rw [decide_eq_true_eq]; exact ⟨h1, h2, h3, .inr rfl⟩
theorem edgeOk_no' {n x y : Int} {es : List (Int × Int)} {k : Nat} (hx : nthE es k = (x, y)) (h : ¬ (0 ≤ x ∧ x < y ∧ y < n)) : edgeOk n es k = false := edgeOk_no (by rw [hx]; exact h)
theorem edgeOk_zero' {n x y : Int} {es : List (Int × Int)} (hx : nthE es 0 = (x, y)) (h1 : 0 ≤ x) (h2 : x < y) (h3 : y < n) : edgeOk n es 0 = true := edgeOk_zero (by rw [hx]; exact h1) (by rw [hx]; exact h2) (by rw [hx]; exact h3)
theorem edgeOk_less' {n x y : Int} {es : List (Int × Int)} {k : Nat} (hx : nthE es k = (x, y)) (h0 : k ≠ 0) (h1 : 0 ≤ x) (h2 : x < y) (h3 : y < n) : edgeOk n es k = lessE (nthE es (k - 1)) (x, y) := by
 rw [← hx]
 exact edgeOk_less h0 (by rw [hx]; exact h1) (by rw [hx]; exact h2) (by rw [hx]; exact h3)
end Go.Proofs.YtgfcbmflnldicaaDoor
namespace Go.Proofs.YtgfcbmflnldicaaDoor
theorem lessE_iff {e f : Int × Int} : lessE e f = true ↔ (e.1 < f.1 ∨ (e.1 = f.1 ∧ e.2 < f.2)) := by
 rw [lessE, cmpE_less]; simp
def LtE (e f : Int × Int) : Prop := e.1 < f.1 ∨ (e.1 = f.1 ∧ e.2 < f.2)
theorem LtE.trans {e f g : Int × Int} (h : LtE e f) (k : LtE f g) : LtE e g := by
 unfold LtE at *; omega
theorem pairwise_of_next {α : Type} {R : α → α → Prop} (ht : ∀ a b c, R a b → R b c → R a c) : ∀ (xs : List α), (∀ i (h : i + 1 < xs.length), R xs[i] xs[i + 1]) → xs.Pairwise R
 | [], _ => .nil
 | [x], _ => by simp
 | x :: y :: zs, h => by
  have ih := pairwise_of_next ht (y :: zs) (fun i hi => by
   have := h (i + 1) (by simp at hi ⊢; omega)
   simpa using this)
  refine List.Pairwise.cons (fun z hz => ?_) ih
  have h0 : R x y := by
   have := h 0 (by simp)
   simpa using this
  rcases List.mem_cons.1 hz with rfl | hz
  · exact h0
  · exact ht _ _ _ h0 ((List.pairwise_cons.1 ih).1 z hz)
structure GG (n : Nat) (xs : List Int) (es : List (Int × Int)) : Prop where
 hn : xs.length = n
 n64 : n ≤ 64
 cols : colorsOk xs = true
 m512 : es.length ≤ 512
 lo : ∀ e ∈ es, 0 ≤ e.1
 lt : ∀ e ∈ es, e.1 < e.2
 hi : ∀ e ∈ es, e.2 < n
 sorted : es.Pairwise LtE
theorem okG_iff {xs : List Int} {es : List (Int × Int)} : okG xs es = true ↔ GG xs.length xs es := by
 unfold okG
 rw [Bool.and_eq_true, Bool.and_eq_true, decide_eq_true_eq, List.all_eq_true]
 constructor
 · rintro ⟨⟨h1, h2⟩, h3⟩
   have hk : ∀ k (h : k < es.length), 0 ≤ es[k].1 ∧ es[k].1 < es[k].2 ∧ es[k].2 < xs.length ∧ (k = 0 ∨ lessE (nthE es (k - 1)) es[k] = true) := fun k h => by
    have := h3 k (List.mem_range.2 h)
    rw [edgeOk, decide_eq_true_eq, nthE_lt h] at this
    exact this
   have hm : ∀ e ∈ es, ∃ k, ∃ h : k < es.length, es[k] = e := fun e he => List.getElem_of_mem he
   have hc := h1
   rw [colorsOk, Bool.and_eq_true, decide_eq_true_eq] at hc
   refine ⟨rfl, hc.1, h1, h2, fun e he => ?_, fun e he => ?_, fun e he => ?_, ?_⟩
   · obtain ⟨k, h, rfl⟩ := hm e he
     exact (hk k h).1
   · obtain ⟨k, h, rfl⟩ := hm e he
     exact (hk k h).2.1
   · obtain ⟨k, h, rfl⟩ := hm e he
     exact (hk k h).2.2.1
   · refine pairwise_of_next (R := LtE) (fun _ _ _ h k => LtE.trans h k) _ fun i h => ?_
     have := (hk (i + 1) h).2.2.2
     rcases this with h0 | h0
     · omega
     · rw [Nat.add_sub_cancel, nthE_lt (by omega), lessE_iff] at h0
       exact h0
 · intro h
   refine ⟨⟨h.cols, h.m512⟩, fun k hk => ?_⟩
   have hk := List.mem_range.1 hk
   rw [edgeOk, decide_eq_true_eq]
   refine ⟨h.lo _ (nthE_mem hk), h.lt _ (nthE_mem hk), h.hi _ (nthE_mem hk), ?_⟩
   by_cases h0 : k = 0
   · exact .inl h0
   · refine .inr (lessE_iff.2 ?_)
     rw [nthE_lt hk, nthE_lt (i := k - 1) (by omega)]
     exact List.pairwise_iff_getElem.1 h.sorted _ _ _ _ (by omega)
end Go.Proofs.YtgfcbmflnldicaaDoor
